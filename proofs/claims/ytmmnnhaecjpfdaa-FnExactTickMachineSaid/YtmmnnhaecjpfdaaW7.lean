/- Lemmas for the laws of this seat (my texts, put together), part 7. -/
import Derived.Test.YtmmnnhaecjpfdaaW5
import Derived.Test.YtmmnnhaecjpfdaaW6
set_option maxRecDepth 100000
set_option maxHeartbeats 8000000
set_option linter.unusedVariables false
set_option linter.unusedSimpArgs false
namespace Go.Proofs.Ytmmnnhaecjpfdaa
open Go.RowKit
attribute [local go_sem] S_size S_toList S_lit S_get S_extract S_append drop_all
attribute [local go_sem] conv_bytes
theorem tmRename_bin (l f:Str) (k:UInt8) (x y:UInt8) (p q:Tm) (r1 r2:Str) (w:World) (B:BinL l k p q) (hk:k = 43∨k = 38) (hs:l.length≤1000000) (hxy:x≠y)
  (c1:Hid (∀ w,Calls Try.prog 73 #[.string (S l)] w fun e w'=>e = .returned (.string (S f))∧Bl w w'))
  (c2:Hid (∀ w,Calls Try.prog 42 #[.string (S f),.int .u8 x.toNat] w fun e w'=>e = .returned (.bool true)∧w = w')) (hr:r1.length + r2.length≤1000000)
  (ih1:Hid (∀ w,Calls Try.prog 51 #[.string (S (txt p)),.int .u8 x.toNat,.int .u8 y.toNat] w fun e w'=>e = .returned (.string (S r1))∧Bl w w'))
  (ih2:Hid (∀ w,Calls Try.prog 51 #[.string (S (txt q)),.int .u8 x.toNat,.int .u8 y.toNat] w fun e w'=>e = .returned (.string (S r2))∧Bl w w')):
  Calls Try.prog 51 #[.string (S l),.int .u8 x.toNat,.int .u8 y.toNat] w fun e w'=>e = .returned (.string (S (40 :: (r1 ++ k :: (r2 ++ [41])))))∧Bl w w':=by
 have BB:=B
 obtain ⟨k1,k2,k3,k4,he⟩:=B
 have h1:=ne_int hxy
 have hl:l = 40 :: (txt p ++ k :: (txt q ++ [41])):=by rw [he.out];simp [txt]
 have n1:(1:Int)≤l.length:=by have:=congrArg List.length hl;simp only [List.length_cons] at this;omega
 have n2:(0:Int) < l.length:=by omega
 have t1:List.take 1 l = [40]:=by rw [hl];rfl
 have d1:=hide fun (g c:Nat) (w:World) h0 h1=>tmWith_c l k p q r1 r2 g c w BB hk hr h0 h1
 generalize txt p = tp at *
 generalize txt q = tq at *
 have hBl:=fun (w:World)=>bw_bl w [40]
 clear hl he hxy BB
 rcases hk with rfl | rfl
 all_goals
  go_enter Try.func51,Try.ntmps51
  go_wp2_with (first | (go_at_call 73;(with_reducible refine (c1.out _).mono ?_);rintro e w1 ⟨rfl,hb⟩) | (go_at_call 42;(with_reducible refine (c2.out _).mono ?_);rintro e w' ⟨rfl,rfl⟩) | (go_at_call 71;(with_reducible refine (k2.out _).mono ?_);rintro e w' ⟨rfl,rfl⟩) | (go_at_call 74;(with_reducible refine (k4.out _).mono ?_);rintro e w' ⟨rfl,rfl⟩) | (go_at_call 46;(with_reducible refine (k1.out _).mono ?_);rintro e w' ⟨rfl,rfl⟩) | (go_at_call 47;(with_reducible refine (k3.out _).mono ?_);rintro e w2 ⟨v,rfl,⟨g,c,rfl,p0,p1⟩,hb2⟩))
  have HL:Bl w w2:=(hb.trans (hBl w1)).trans hb2
  generalize bc w1 [40] = cp
  generalize w1.heap.size = g1
  clear hBl hb hb2
  have P0:=hide p0
  have P1:=hide p1
  go_region_with (first | (go_at_call 51;first | ((with_reducible refine (ih1.out _).mono ?_);rintro e w3 ⟨rfl,hb3⟩;first | (have p0:=cell_kept hb3 p0;have p1:=cell_kept hb3 p1) | skip) | ((with_reducible refine (ih2.out _).mono ?_);rintro e w4 ⟨rfl,hb4⟩;first | (have p0:=cell_kept hb4 p0;have p1:=cell_kept hb4 p1) | skip)) | (go_at_call 76;(with_reducible refine (d1.out _ _ _ (by simp) (by simp)).mono ?_);rintro e w5 ⟨rfl,hb5⟩))
  all_goals
   go_wp2_with fail
   go_ret
   exact ⟨rfl,bls⟩
theorem tmRename_d : ∀ (d : Nat) (t : Tm) (x y : UInt8) (w : World), t.size ≤ d → t.ok wideB = true → wideB y = true → (txt t).length ≤ 400000 →
  Calls Try.prog 51 #[.string (S (txt t)),.int .u8 x.toNat,.int .u8 y.toNat] w fun e w'=>e = .returned (.string (S (txt (renF d t x y))))∧Bl w w'
 | 0,t,_,_,_,h,_,_,_=>by have:=size_pos t;omega
 | d + 1, t, x, y, w, hd, hk, hy, hl => by
   by_cases hid:x = y∨x∉fvS t
   ·rw [ren_id hid]
    exact tmRename_id _ t x y w rfl hk (short_of (by omega)) hid
   rw [not_or] at hid
   obtain ⟨hxy,hx⟩:=hid
   have hx:=Classical.not_not.1 hx
   have c1:=hide fun w=>tmFree_c t w hk (short_of (by omega))
   have c2:Hid (∀ w,Calls Try.prog 42 #[.string (S (fvS t)),.int .u8 x.toNat] w fun e w'=>e = .returned (.bool true)∧w = w'):=fun w=>by
    have:=tmIn_c (fvS t) x w (by have:=fvS_len t;unfold Short;omega)
    rwa [decide_eq_true hx] at this
   unfold renF
   rw [if_neg (by simp [hxy,hx])]
   cases t with
   | zero=>simp [fvS] at hx
   | bin k p q=>
     simp only [Tm.size] at hd
     simp only [Tm.ok,Bool.and_eq_true,Bool.or_eq_true,beq_iff_eq] at hk
     have hlp:(txt p).length + (txt q).length≤400000:=by simp only [txt,List.length_cons,List.length_append] at hl;omega
     have h1:=hide fun w=>tmRename_d d p x y w (by omega) hk.2.1 hy (by omega)
     have h2:=hide fun w=>tmRename_d d q x y w (by omega) hk.2.2 hy (by omega)
     exact tmRename_bin _ _ k x y p q _ _ w (binL k p q hk.1 hk.2.1 (short_of (by omega))) hk.1 (by omega) hxy c1 c2 (by rw [ren_len,ren_len];omega) h1 h2
   | un k a b p =>
     simp only [Tm.size] at hd
     simp only [Tm.ok,Bool.and_eq_true] at hk
     obtain ⟨hk,hp⟩:=hk
     have hlp:(txt p).length≤400000:=by simp only [txt,List.length_append] at hl;omega
     have U:=unL k a b p hk
     have ih:=hide fun w=>tmRename_d d p x y w (by omega) hp hy hlp
     have hr:(txt (renF d p x y)).length≤1000000:=by rw [ren_len];omega
     have bind:∀ b',b' = (if capB b x y p = true then capC x y p else b)→True:=fun _ _=>trivial
     have binder:bindsB k = true→∀ (L:UInt8→Str),(∀ b' r,Go.Proofs.Ytmmnnhaecjpfdaa.hd k (if k = 63 then sw a x y else a) b' ++ r = L b' ++ r)→
       (∀ (b':UInt8) (p1 r:Str) (w:World),b≠y→b = b'→p1 = txt p→p1.length≤1000000→r.length≤1000000→
        Hid (∀ w,Calls Try.prog 51 #[.string (S p1),.int .u8 x.toNat,.int .u8 y.toNat] w fun e w'=>e = .returned (.string (S r))∧Bl w w')→
        Calls Try.prog 51 #[.string (S (txt (.un k a b p))),.int .u8 x.toNat,.int .u8 y.toNat] w fun e w'=>e = .returned (.string (S (L b' ++ (if b' = x then p1 else r))))∧Bl w w')→
       (∀ (b':UInt8) (p1 r:Str) (w:World),b = y→∀ (fp:Str),Hid (∀ w,Calls Try.prog 73 #[.string (S (txt p))] w fun e w'=>e = .returned (.string (S fp))∧Bl w w')→
        Hid (∀ w,Calls Try.prog 42 #[.string (S fp),.int .u8 x.toNat] w fun e w'=>e = .returned (.bool false)∧w = w')→b = b'→p1 = txt p→p1.length≤1000000→r.length≤1000000→
        Hid (∀ w,Calls Try.prog 51 #[.string (S p1),.int .u8 x.toNat,.int .u8 y.toNat] w fun e w'=>e = .returned (.string (S r))∧Bl w w')→
        Calls Try.prog 51 #[.string (S (txt (.un k a b p))),.int .u8 x.toNat,.int .u8 y.toNat] w fun e w'=>e = .returned (.string (S (L b' ++ (if b' = x then p1 else r))))∧Bl w w')→
       (∀ (b':UInt8) (p1 r:Str) (w:World),b = y→∀ (fp:Str),Hid (∀ w,Calls Try.prog 73 #[.string (S (txt p))] w fun e w'=>e = .returned (.string (S fp))∧Bl w w')→
        Hid (∀ w,Calls Try.prog 42 #[.string (S fp),.int .u8 x.toNat] w fun e w'=>e = .returned (.bool true)∧w = w')→p1.length≤1000000→r.length≤1000000→
        ∀ m:Str,Hid (∀ w,Calls Try.prog 49 #[.string (S fp),.string (S [x,y])] w fun e w'=>e = .returned (.string (S m))∧Bl w w')→
        Hid (∀ w,Calls Try.prog 48 #[.string (S m)] w fun e w'=>e = .returned (.int .u8 b'.toNat)∧w = w')→
        Hid (∀ w,Calls Try.prog 51 #[.string (S (txt p)),.int .u8 b.toNat,.int .u8 b'.toNat] w fun e w'=>e = .returned (.string (S p1))∧Bl w w')→
        Hid (∀ w,Calls Try.prog 51 #[.string (S p1),.int .u8 x.toNat,.int .u8 y.toNat] w fun e w'=>e = .returned (.string (S r))∧Bl w w')→
        Calls Try.prog 51 #[.string (S (txt (.un k a b p))),.int .u8 x.toNat,.int .u8 y.toNat] w fun e w'=>e = .returned (.string (S (L b' ++ (if b' = x then p1 else r))))∧Bl w w')→
       Calls Try.prog 51 #[.string (S (txt (.un k a b p))),.int .u8 x.toNat,.int .u8 y.toNat] w fun e w'=>e = .returned (.string (S (txt (.un k (if k = 63 then sw a x y else a) (if capB b x y p = true then capC x y p else b)
        (if (if capB b x y p = true then capC x y p else b)= x then (if capB b x y p = true then renF d p b (capC x y p) else p) else renF d (if capB b x y p = true then renF d p b (capC x y p) else p) x y)))))∧Bl w w':=by
      intro hb L hL C0 C1 C2
      have e1:∀ b' q r,txt (.un k (if k = 63 then sw a x y else a) b' (if b' = x then q else r))= L b' ++ (if b' = x then txt q else txt r):=by
       intro b' q r;rw [txt,hL];split <;> rfl
      rw [e1]
      by_cases hby:b = y
      ·have hfp:=fvS_len p
       have d1:=hide fun w=>tmFree_c p w hp (short_of (by omega))
       have d2:=hide fun w=>tmIn_c (fvS p) x w (by unfold Short;omega)
       cases hcap:capB b x y p
       ·simp only [Bool.false_eq_true,if_false]
        have:decide (x∈fvS p)= false:=by simpa [capB,hby] using hcap
        rw [this] at d2
        exact C1 b (txt p) _ w hby _ d1 d2 rfl rfl (by omega) hr ih
       ·simp only [if_true]
        have:decide (x∈fvS p)= true:=by simp only [capB,Bool.and_eq_true] at hcap;exact hcap.2
        rw [this] at d2
        have hbl:(both (fvS p) [x,y]).length≤258:=by have:=both_len [x,y] (fvS p);simp at this;omega
        have hcw:wideB (capC x y p)= true:=freshW_wide _
        exact C2 (capC x y p) (txt (renF d p b (capC x y p))) (txt (renF d (renF d p b (capC x y p)) x y)) w hby _ d1 d2 (by rw [ren_len];omega) (by rw [ren_len,ren_len];omega) _
         (hide fun w=>tmBoth_c (fvS p) [x,y] w (by simp;omega)) (hide fun w=>tmFresh_c (both (fvS p) [x,y]) w (by unfold Short;omega))
         (hide fun w=>tmRename_d d p b (capC x y p) w (by omega) hp hcw hlp) (hide fun w=>tmRename_d d _ x y w (by rw [ren_size];omega) (ren_ok _ _ _ _ hcw hp) hy (by rw [ren_len];exact hlp))
      ·have hcap:capB b x y p = false:=by simp [capB,hby]
       rw [hcap]
       simp only [Bool.false_eq_true,if_false]
       exact C0 b (txt p) _ w hby rfl rfl (by omega) hr ih
     rcases okhd_cases hk with ⟨rfl,ha,hb⟩ | ⟨rfl,ha,hb⟩ | ⟨rfl,ha,hb⟩ | ⟨rfl,ha,hb⟩ | ⟨rfl,ha,hb⟩ | ⟨rfl,ha,hb⟩
     ·exact tmRename_33 _ _ a b x y p _ w U hk (by omega) hxy c1 c2 hr ih
     ·exact binder rfl (fun b'=>[sw a x y,63,b',46]) (fun b' r=>rfl)
       (fun b' p1 r w h1 h2 h3 h4 h5 h6=>tmRename_63_0 _ _ a b x y b' p p1 r w U hk (by omega) hxy c1 c2 h5 h4 h1 h2 h3 h6)
       (fun b' p1 r w h1 fp h2 h3 h4 h5 h6 h7 h8=>tmRename_63_1 _ _ a b x y b' p p1 r w U hk (by omega) hxy c1 c2 h7 h6 h1 fp h2 h3 h4 h5 h8)
       (fun b' p1 r w h1 fp h2 h3 h4 h5 m h6 h7 h8 h9=>tmRename_63_2 _ _ a b x y b' p p1 r w U hk (by omega) hxy c1 c2 h5 h4 h1 fp h2 h3 m h6 h7 h8 h9)
     ·exact tmRename_61 _ _ a b x y p _ w U hk (by omega) hxy c1 c2 hr ih
     ·exact binder rfl (fun b'=>[35,b',46]) (fun b' r=>rfl)
       (fun b' p1 r w h1 h2 h3 h4 h5 h6=>tmRename_35_0 _ _ a b x y b' p p1 r w U hk (by omega) hxy c1 c2 h5 h4 h1 h2 h3 h6)
       (fun b' p1 r w h1 fp h2 h3 h4 h5 h6 h7 h8=>tmRename_35_1 _ _ a b x y b' p p1 r w U hk (by omega) hxy c1 c2 h7 h6 h1 fp h2 h3 h4 h5 h8)
       (fun b' p1 r w h1 fp h2 h3 h4 h5 m h6 h7 h8 h9=>tmRename_35_2 _ _ a b x y b' p p1 r w U hk (by omega) hxy c1 c2 h5 h4 h1 fp h2 h3 m h6 h7 h8 h9)
     ·exact tmRename_42 _ _ a b x y p _ w U hk (by omega) hxy c1 c2 hr ih
     ·exact tmRename_126 _ _ a b x y p _ w U hk (by omega) hxy c1 c2 hr ih
theorem tmRename_c (t:Tm) (x y:UInt8) (w:World) (hk:t.ok wideB = true) (hy:wideB y = true) (hl:(txt t).length≤400000):
  Calls Try.prog 51 #[.string (S (txt t)),.int .u8 x.toNat,.int .u8 y.toNat] w fun e w'=>e = .returned (.string (S (txt (renF t.size t x y))))∧Bl w w':=
 tmRename_d t.size t x y w (Nat.le_refl _) hk hy hl
end Go.Proofs.Ytmmnnhaecjpfdaa
namespace Go.Proofs.Ytmmnnhaecjpfdaa
open Go.RowKit
def renI : Nat → Tm → UInt8 → UInt8 → Option Tm
 | 0,t,_,_=>some t
 | d + 1, t, x, y => if x = y ∨ x ∉ fvS t then some t else match t with
   | .zero=>some .zero
   | .un k a b p =>
     if bindsB k then
      if b = x then some (.un k (if k = 63 then sw a x y else a) b p)
      else if capB b x y p then
       match freshS (both (fvS p) [x,y]) with
       | none=>none
       | some c=>match renI d p b c with
         | none=>none
         | some p'=>(renI d p' x y).map (.un k (if k = 63 then sw a x y else a) c ·)
      else (renI d p x y).map (.un k (if k = 63 then sw a x y else a) b ·)
     else if k = 33∨k = 61 then (renI d p x y).map (.un k (sw a x y) (sw b x y) ·)
     else (renI d p x y).map (.un k a b ·)
   | .bin k p q=>match renI d p x y with
     | none=>none
     | some p'=>(renI d q x y).map (.bin k p' ·)
theorem sw_small {a x y:UInt8} (hx:smallB x = true) (h:smallB (sw a x y)= true):smallB a = true:=by
 unfold sw at h
 split at h
 ·rename_i e;rw [e];exact hx
 ·exact h
theorem small_sw {a x y:UInt8} (hy:smallB y = true) (h:smallB a = true):smallB (sw a x y)= true:=by
 unfold sw;split <;> assumption
theorem ren_small : ∀ (d : Nat) (t : Tm) (x y : UInt8), smallB x = true → smallB y = true → (renF d t x y).ok smallB = true → t.ok smallB = true
 | 0,_,_,_,_,_,h=>h
 | d + 1, t, x, y, hx, hy, h => by
   unfold renF at h
   split at h
   ·exact h
   ·split at h
    ·exact h
    ·rename_i k a b p _
     split at h
     ·rename_i hb
      have hk:k = 63∨k = 35:=by simpa [bindsB] using hb
      simp only [Tm.ok,Bool.and_eq_true] at h ⊢
      obtain ⟨h1,h2⟩:=h
      have hin:p.ok smallB = true∧smallB b = true:=by
       cases hc:capB b x y p
       ·simp only [hc,Bool.false_eq_true,if_false] at h1 h2
        have hbs:smallB b = true:=by rcases hk with rfl | rfl <;> simp [okhd] at h1 <;> exact h1.2
        refine ⟨?_,hbs⟩
        split at h2
        ·exact h2
        ·exact ren_small d _ _ _ hx hy h2
       ·simp only [hc,if_true] at h1 h2
        have hcs:smallB (capC x y p)= true:=by rcases hk with rfl | rfl <;> simp [okhd] at h1 <;> exact h1.2
        have hby:b = y:=by simp [capB] at hc;exact hc.1
        have hbs:smallB b = true:=by rw [hby];exact hy
        refine ⟨?_,hbs⟩
        split at h2
        ·exact ren_small d _ _ _ hbs hcs h2
        ·exact ren_small d _ _ _ hbs hcs (ren_small d _ _ _ hx hy h2)
      refine ⟨?_,hin.1⟩
      rcases hk with rfl | rfl
      ·simp [okhd] at h1 ⊢;exact ⟨sw_small hx h1.1,hin.2⟩
      ·simp [okhd] at h1 ⊢;exact ⟨h1.1,hin.2⟩
     ·split at h
      ·rename_i hk
       simp only [Tm.ok,Bool.and_eq_true] at h ⊢
       refine ⟨?_,ren_small d _ _ _ hx hy h.2⟩
       have h1:=h.1
       rcases hk with rfl | rfl <;> simp [okhd] at h1 ⊢ <;> exact ⟨sw_small hx h1.1,sw_small hx h1.2⟩
      ·simp only [Tm.ok,Bool.and_eq_true] at h ⊢
       exact ⟨h.1,ren_small d _ _ _ hx hy h.2⟩
    ·simp only [Tm.ok,Bool.and_eq_true] at h ⊢
     exact ⟨h.1,ren_small d _ _ _ hx hy h.2.1,ren_small d _ _ _ hx hy h.2.2⟩
def optS (t:Tm):Option Tm:=if t.ok smallB = true then some t else none
theorem optS_yes {t:Tm} (h:t.ok smallB = true):optS t = some t:=if_pos h
theorem optS_no {t:Tm} (h:¬ t.ok smallB = true):optS t = none:=if_neg h
theorem renI_eq : ∀ (d : Nat) (t : Tm) (x y : UInt8), smallB x = true → smallB y = true → t.ok smallB = true → t.size ≤ d → renI d t x y = optS (renF d t x y)
 | 0,t,_,_,_,_,_,h=>by have:=size_pos t;omega
 | d + 1, t, x, y, hx, hy, hk, hd => by
   have ih:=renI_eq d
   unfold renI renF
   by_cases h0:x = y∨x∉fvS t
   ·rw [if_pos h0,if_pos h0,optS_yes hk]
   rw [if_neg h0,if_neg h0]
   cases t with
   | zero=>exact (optS_yes (t:=.zero) rfl).symm
   | un k a b p =>
     simp only [Tm.ok,Bool.and_eq_true] at hk
     simp only [Tm.size] at hd
     dsimp only
     by_cases hb:bindsB k = true
     ·rw [if_pos hb,if_pos hb]
      have hk2:k = 63∨k = 35:=by simpa [bindsB] using hb
      have hhd:okhd smallB k (if k = 63 then sw a x y else a) b = true:=by
       have h1:=hk.1
       rcases hk2 with rfl | rfl <;> simp [okhd] at h1 ⊢
       ·exact ⟨small_sw hy h1.1,h1.2⟩
       ·exact h1
      by_cases hbx:b = x
      ·have hcap:capB b x y p = false:=by
        have:x≠y:=(not_or.1 h0).1
        simp [capB,hbx,this]
       rw [if_pos hbx]
       simp only [hcap,Bool.false_eq_true,if_false,if_pos hbx]
       rw [optS_yes]
       simp only [Tm.ok,Bool.and_eq_true]
       exact ⟨hhd,hk.2⟩
      ·rw [if_neg hbx]
       cases hcap:capB b x y p
       ·simp only [Bool.false_eq_true,if_false,if_neg hbx]
        rw [ih p x y hx hy hk.2 (by omega)]
        by_cases hq:(renF d p x y).ok smallB = true
        ·rw [optS_yes hq,optS_yes (by simp only [Tm.ok,Bool.and_eq_true];exact ⟨hhd,hq⟩)];rfl
        ·rw [optS_no hq,optS_no (by simp only [Tm.ok,Bool.and_eq_true];exact fun h=>hq h.2)];rfl
       ·simp only [if_true]
        have hby:b = y:=by simp [capB] at hcap;exact hcap.1
        have hbs:smallB b = true:=by rw [hby];exact hy
        cases hf:freshS (both (fvS p) [x,y]) with
        | none=>
          have hbad:smallB (capC x y p)= false:=by
           have:=freshW_beyond hf
           unfold smallB capC;simp;omega
          dsimp only
          rw [optS_no]
          simp only [Tm.ok,Bool.and_eq_true]
          intro h
          have h1:=h.1
          rcases hk2 with rfl | rfl <;> simp [okhd,hbad] at h1
        | some c=>
          have hc:capC x y p = c:=freshW_some hf
          have hcs:smallB c = true:=(freshS_some hf).1
          have hcx:c≠x:=by
           rintro rfl
           exact (freshS_some hf).2.1 (mem_both.2 (.inr (by simp)))
          dsimp only
          rw [hc,if_neg hcx]
          rw [ih p b c hbs hcs hk.2 (by omega)]
          have hhd2:okhd smallB k (if k = 63 then sw a x y else a) c = true:=by
           rcases hk2 with rfl | rfl <;> simp [okhd] at hhd ⊢
           ·exact ⟨hhd.1,hcs⟩
           ·exact ⟨hhd.1,hcs⟩
          by_cases hq:(renF d p b c).ok smallB = true
          ·rw [optS_yes hq]
           dsimp only
           rw [ih _ x y hx hy hq (by rw [ren_size];omega)]
           by_cases hr:(renF d (renF d p b c) x y).ok smallB = true
           ·rw [optS_yes hr,optS_yes (by simp only [Tm.ok,Bool.and_eq_true];exact ⟨hhd2,hr⟩)];rfl
           ·rw [optS_no hr,optS_no (by simp only [Tm.ok,Bool.and_eq_true];exact fun h=>hr h.2)];rfl
          ·rw [optS_no hq]
           dsimp only
           rw [optS_no]
           simp only [Tm.ok,Bool.and_eq_true]
           exact fun h=>hq (ren_small d _ _ _ hx hy h.2)
     ·rw [if_neg hb,if_neg hb]
      by_cases h2:k = 33∨k = 61
      ·rw [if_pos h2,if_pos h2,ih p x y hx hy hk.2 (by omega)]
       have hhd:okhd smallB k (sw a x y) (sw b x y)= true:=by
        have h1:=hk.1
        rcases h2 with rfl | rfl <;> simp [okhd] at h1 ⊢ <;> exact ⟨small_sw hy h1.1,small_sw hy h1.2⟩
       by_cases hq:(renF d p x y).ok smallB = true
       ·rw [optS_yes hq,optS_yes (by simp only [Tm.ok,Bool.and_eq_true];exact ⟨hhd,hq⟩)];rfl
       ·rw [optS_no hq,optS_no (by simp only [Tm.ok,Bool.and_eq_true];exact fun h=>hq h.2)];rfl
      ·rw [if_neg h2,if_neg h2,ih p x y hx hy hk.2 (by omega)]
       by_cases hq:(renF d p x y).ok smallB = true
       ·rw [optS_yes hq,optS_yes (by simp only [Tm.ok,Bool.and_eq_true];exact ⟨hk.1,hq⟩)];rfl
       ·rw [optS_no hq,optS_no (by simp only [Tm.ok,Bool.and_eq_true];exact fun h=>hq h.2)];rfl
   | bin k p q=>
     simp only [Tm.ok,Bool.and_eq_true] at hk
     simp only [Tm.size] at hd
     dsimp only
     rw [ih p x y hx hy hk.2.1 (by omega),ih q x y hx hy hk.2.2 (by omega)]
     by_cases h1:(renF d p x y).ok smallB = true
     ·rw [optS_yes h1]
      by_cases h2:(renF d q x y).ok smallB = true
      ·rw [optS_yes h2,optS_yes (by simp only [Tm.ok,Bool.and_eq_true];exact ⟨hk.1,h1,h2⟩)];rfl
      ·rw [optS_no h2,optS_no (by simp only [Tm.ok,Bool.and_eq_true];exact fun h=>h2 h.2.2)];rfl
     ·rw [optS_no h1]
      dsimp only
      rw [optS_no]
      simp only [Tm.ok,Bool.and_eq_true]
      exact fun h=>h1 h.2.1
end Go.Proofs.Ytmmnnhaecjpfdaa

namespace Go.Proofs.Ytmmnnhaecjpfdaa
open Go.RowKit
attribute [local go_sem] S_size S_toList S_lit S_get S_extract S_append drop_all
section
variable {P:Program} {ops:Array Oper} {Q:Exit→Act→World→Prop} {S:World→Prop} {T:Nat→Bool} {md:Region.Mode}
theorem AnyT.fork {i j:Nat} {o p:Oper} {n:Nat} {L:Array Bool} {a:Act} {w:World} (ho':(ops.toList.drop i).head? = some o) (hp':(ops.toList.drop j).head? = some p) (hr:Region.ready md ops L = [i,j])
  (h:∀ K:Act→World→Prop,Hid (∀ a' w',S w'→(S w'→AnyT P md ops Q S T n (L.setIfInBounds i true) a' w')→K a' w')→if Region.wanted o (yielded ops a.tmps)= true then Oper.wp P o a w K Q else K (a.put o.dst undef) w)
  (h2:∀ K:Act→World→Prop,Hid (∀ a' w',S w'→(S w'→AnyT P md ops Q S T n (L.setIfInBounds j true) a' w')→K a' w')→if Region.wanted p (yielded ops a.tmps)= true then Oper.wp P p a w K Q else K (a.put p.dst undef) w):AnyT P md ops Q S T (n + 1) L a w:=by
 have eo:=at_drop ho'
 have ep:=at_drop hp'
 refine ⟨fun h0=>absurd (hr ▸ h0) (by simp),fun x hx=>?_⟩
 rw [hr] at hx
 have hx:x = i∨x = j:=by simpa using hx
 rcases hx with rfl | rfl
 ·exact wpOp_step eo (fun K hK=>h K (fun a' w' hS hA=>hK a' w' ⟨fun _ _=>hS,hA hS⟩))
 ·exact wpOp_step ep (fun K hK=>h2 K (fun a' w' hS hA=>hK a' w' ⟨fun _ _=>hS,hA hS⟩))
end
theorem enc_w {y:UInt8} (h:y.toNat < 128):Utf8.encode (IntKind.i32.wrap (y.toNat:Int))= S [y]:=by
 have:IntKind.i32.wrap (y.toNat:Int)= (y.toNat:Int):=IntWalk.i32_in _ (by omega)
 rw [this]
 exact encode_S _ h
theorem small_128 {y:UInt8} (h:smallB y = true):y.toNat < 128:=by unfold smallB at h;simp at h;omega
theorem text_pre (k:UInt8) (hk:k = 42∨k = 126) (b g c pb:Nat) (s:Str) (w:World) (x y:UInt8)
  (p0:w.cell? ⟨b,0,none⟩= some (.int .u8 k.toNat)) (p3:w.cell? ⟨b,3,none⟩= some (.slice (some ⟨g,0,none⟩) 1 c)) (pk:w.cell? ⟨g,0,none⟩= some (.pointer (some ⟨pb,0,none⟩)))
  (hs:s.length≤1000000) (ih:Hid (∀ w',Bl w w'→Calls Try.prog 108 #[encP pb] w' fun e w''=>e = .returned (.string (S s))∧Bl w' w'')):
  Calls Try.prog 108 #[encP b] w fun e w'=>e = .returned (.string (S (hd k x y ++ s)))∧Bl w w':=by
 have q1:¬ 9223372036854775807 < 1 + s.length:=by omega
 have q2:¬ 9223372036854775807 < 2 + s.length:=by omega
 have hr:Hid (hd k x y ++ s = (if k = 42 then [42] else [126,46])++ s):=by rcases hk with rfl | rfl <;> rfl
 rcases hk with rfl | rfl
 ·go_enter Try.func108,Try.ntmps108
  go_wp2_with ((go_at_call 108;(with_reducible refine (ih.out _ (Bl.refl w)).mono ?_);rintro e w' ⟨rfl,b6⟩))
  go_ret
  exact ⟨rfl,b6⟩
 ·go_enter Try.func108,Try.ntmps108
  go_wp2_with ((go_at_call 108;(with_reducible refine (ih.out _ (Bl.refl w)).mono ?_);rintro e w' ⟨rfl,b6⟩))
  go_ret
  exact ⟨rfl,b6⟩
theorem text_hide (b g c pb:Nat) (s:Str) (w:World) (x y:UInt8) (hy:y.toNat < 128)
  (p0:w.cell? ⟨b,0,none⟩= some (.int .u8 (35:UInt8).toNat)) (p2:w.cell? ⟨b,2,none⟩= some (.int .u8 y.toNat)) (p3:w.cell? ⟨b,3,none⟩= some (.slice (some ⟨g,0,none⟩) 1 c)) (pk:w.cell? ⟨g,0,none⟩= some (.pointer (some ⟨pb,0,none⟩)))
  (hs:s.length≤1000000) (ih:Hid (∀ w',Bl w w'→Calls Try.prog 108 #[encP pb] w' fun e w''=>e = .returned (.string (S s))∧Bl w' w'')):
  Calls Try.prog 108 #[encP b] w fun e w'=>e = .returned (.string (S (hd 35 x y ++ s)))∧Bl w w':=by
 have q1:¬ 9223372036854775807 < 3 + s.length:=by omega
 have en:=enc_w hy
 clear hy
 go_enter Try.func108,Try.ntmps108
 go_wp2_with fail
 refine AnyT.start 17 (fun w2=>w2.cell? ⟨b,2,none⟩= some (.int .u8 y.toNat)∧w2.cell? ⟨b,3,none⟩= some (.slice (some ⟨g,0,none⟩) 1 c)∧w2.cell? ⟨g,0,none⟩= some (.pointer (some ⟨pb,0,none⟩))) (fun j=>[].contains j) (by kernel_rfl) (by rfl) ?_
 have hHeld:(fun w2:World=>w2.cell? ⟨b,2,none⟩= some (.int .u8 y.toNat)∧w2.cell? ⟨b,3,none⟩= some (.slice (some ⟨g,0,none⟩) 1 c)∧w2.cell? ⟨g,0,none⟩= some (.pointer (some ⟨pb,0,none⟩))) w.drew:=⟨p2,p3,pk⟩
 refine AnyT.tk 0 ?_
 refine AnyT.tk 1 ?_
 refine AnyT.tk 2 ?_
 refine AnyT.ld 3 ?_
 refine AnyT.tk 4 ?_
 refine AnyT.tk 5 ?_
 refine AnyT.tk 6 ?_
 refine AnyT.tk 7 ?_
 refine AnyT.tk 8 ?_
 refine AnyT.tk 9 ?_
 refine AnyT.tk 10 ?_
 refine AnyT.ld 11 ?_
 refine AnyT.tk 12 ?_
 refine AnyT.ld 13 ?_
 try simp only [Act.put,sqa,sqb,sqc]
 refine AnyT.one (i:=14) rfl (by kernel_rfl) (fun K hK=>?_)
 go_simp
 go_at_call 108
 (with_reducible refine (ih.out _ (bl_drew (Bl.refl w))).mono ?_)
 rintro e W6 ⟨rfl,b6⟩
 go_wp2_with fail
 refine hK.out _ _ ?_ ?_
 ·exact ⟨cell_kept b6 hHeld.1,cell_kept b6 hHeld.2.1,cell_kept b6 hHeld.2.2⟩
 intro hHeld
 clear hK K
 try simp only [Act.put,sqa,sqb,sqc]
 refine AnyT.tk 15 ?_
 refine AnyT.tk 16 ?_
 try simp only [Act.put,sqa,sqb,sqc]
 refine AnyT.done (by kernel_rfl) ?_
 go_wp2_with fail
 go_ret
 exact ⟨rfl,(bl_drew (Bl.refl w)).trans b6⟩
theorem text_test (b g c pb:Nat) (s:Str) (w:World) (x y:UInt8) (hx:x.toNat < 128) (hy:y.toNat < 128)
  (p0:w.cell? ⟨b,0,none⟩= some (.int .u8 (61:UInt8).toNat)) (p1:w.cell? ⟨b,1,none⟩= some (.int .u8 x.toNat)) (p2:w.cell? ⟨b,2,none⟩= some (.int .u8 y.toNat)) (p3:w.cell? ⟨b,3,none⟩= some (.slice (some ⟨g,0,none⟩) 1 c)) (pk:w.cell? ⟨g,0,none⟩= some (.pointer (some ⟨pb,0,none⟩)))
  (hs:s.length≤1000000) (ih:Hid (∀ w',Bl w w'→Calls Try.prog 108 #[encP pb] w' fun e w''=>e = .returned (.string (S s))∧Bl w' w'')):
  Calls Try.prog 108 #[encP b] w fun e w'=>e = .returned (.string (S (hd 61 x y ++ s)))∧Bl w w':=by
 have q1:¬ 9223372036854775807 < 5 + s.length:=by omega
 have en:=enc_w hy
 have em:=enc_w hx
 clear hy hx
 go_enter Try.func108,Try.ntmps108
 go_wp2_with fail
 refine AnyT.start 25 (fun w2=>w2.cell? ⟨b,1,none⟩= some (.int .u8 x.toNat)∧w2.cell? ⟨b,2,none⟩= some (.int .u8 y.toNat)∧w2.cell? ⟨b,3,none⟩= some (.slice (some ⟨g,0,none⟩) 1 c)∧w2.cell? ⟨g,0,none⟩= some (.pointer (some ⟨pb,0,none⟩))) (fun j=>[].contains j) (by kernel_rfl) (by rfl) ?_
 have hHeld:(fun w2:World=>w2.cell? ⟨b,1,none⟩= some (.int .u8 x.toNat)∧w2.cell? ⟨b,2,none⟩= some (.int .u8 y.toNat)∧w2.cell? ⟨b,3,none⟩= some (.slice (some ⟨g,0,none⟩) 1 c)∧w2.cell? ⟨g,0,none⟩= some (.pointer (some ⟨pb,0,none⟩))) w.drew:=⟨p1,p2,p3,pk⟩
 refine AnyT.tk 0 ?_
 refine AnyT.tk 1 ?_
 refine AnyT.tk 2 ?_
 refine AnyT.ld 3 ?_
 refine AnyT.tk 4 ?_
 refine AnyT.tk 5 ?_
 refine AnyT.tk 6 ?_
 refine AnyT.tk 7 ?_
 refine AnyT.tk 8 ?_
 refine AnyT.tk 9 ?_
 refine AnyT.tk 10 ?_
 refine AnyT.ld 11 ?_
 refine AnyT.tk 12 ?_
 refine AnyT.tk 13 ?_
 refine AnyT.tk 14 ?_
 refine AnyT.tk 15 ?_
 refine AnyT.tk 16 ?_
 refine AnyT.tk 17 ?_
 refine AnyT.tk 18 ?_
 refine AnyT.ld 19 ?_
 refine AnyT.tk 20 ?_
 refine AnyT.ld 21 ?_
 try simp only [Act.put,sqa,sqb,sqc]
 refine AnyT.one (i:=22) rfl (by kernel_rfl) (fun K hK=>?_)
 go_simp
 go_at_call 108
 (with_reducible refine (ih.out _ (bl_drew (Bl.refl w))).mono ?_)
 rintro e W6 ⟨rfl,b6⟩
 go_wp2_with fail
 refine hK.out _ _ ?_ ?_
 ·exact ⟨cell_kept b6 hHeld.1,cell_kept b6 hHeld.2.1,cell_kept b6 hHeld.2.2.1,cell_kept b6 hHeld.2.2.2⟩
 intro hHeld
 clear hK K
 try simp only [Act.put,sqa,sqb,sqc]
 refine AnyT.tk 23 ?_
 refine AnyT.tk 24 ?_
 try simp only [Act.put,sqa,sqb,sqc]
 refine AnyT.done (by kernel_rfl) ?_
 go_wp2_with fail
 go_ret
 exact ⟨rfl,(bl_drew (Bl.refl w)).trans b6⟩
theorem text_two (k:UInt8) (hk:k = 43∨k = 38) (b g c pb qb:Nat) (s r:Str) (w:World)
  (p0:w.cell? ⟨b,0,none⟩= some (.int .u8 k.toNat)) (p3:w.cell? ⟨b,3,none⟩= some (.slice (some ⟨g,0,none⟩) 2 c)) (pk:w.cell? ⟨g,0,none⟩= some (.pointer (some ⟨pb,0,none⟩))) (pq:w.cell? ⟨g,1,none⟩= some (.pointer (some ⟨qb,0,none⟩)))
  (hs:s.length + r.length≤1000000) (ih1:Hid (∀ w',Bl w w'→Calls Try.prog 108 #[encP pb] w' fun e w''=>e = .returned (.string (S s))∧Bl w' w''))
  (ih2:Hid (∀ w',Bl w w'→Calls Try.prog 108 #[encP qb] w' fun e w''=>e = .returned (.string (S r))∧Bl w' w'')):
  Calls Try.prog 108 #[encP b] w fun e w'=>e = .returned (.string (S (40 :: (s ++ k :: (r ++ [41])))))∧Bl w w':=by
 have en:Utf8.encode (IntKind.i32.wrap 43)= S [43]:=enc_w (y:=43) (by decide)
 have em:Utf8.encode (IntKind.i32.wrap 38)= S [38]:=enc_w (y:=38) (by decide)
 have q1:¬ 9223372036854775807 < 1 + s.length:=by omega
 have r1:¬ 9223372036854775807 < s.length + 1:=by omega
 have r2:¬ 9223372036854775807 < s.length + 1 + 1:=by omega
 have r3:¬ 9223372036854775807 < s.length + 1 + 1 + r.length:=by omega
 have r4:¬ 9223372036854775807 < s.length + 1 + 1 + r.length + 1:=by omega
 have r5:¬ 9223372036854775807 < s.length + (r.length + 1)+ 1 + 1:=by omega
 have r6:¬ 9223372036854775807 < s.length + (r.length + 1)+ 1:=by omega
 have r7:¬ 9223372036854775807 < s.length + 1 + (r.length + 1):=by omega
 have r8:¬ 9223372036854775807 < s.length + 1 + (r.length + 1)+ 1:=by omega
 have q2:¬ 9223372036854775807 < 1 + s.length + 1:=by omega
 have q3:¬ 9223372036854775807 < 1 + s.length + 1 + r.length:=by omega
 have q4:¬ 9223372036854775807 < 1 + s.length + 1 + r.length + 1:=by omega
 rcases hk with rfl | rfl
 ·go_enter Try.func108,Try.ntmps108
  go_wp2_with fail
  refine AnyT.start 25 (fun w2=>w2.cell? ⟨b,0,none⟩= some (.int .u8 (UInt8.toNat 43))∧w2.cell? ⟨b,3,none⟩= some (.slice (some ⟨g,0,none⟩) 2 c)∧w2.cell? ⟨g,0,none⟩= some (.pointer (some ⟨pb,0,none⟩))∧w2.cell? ⟨g,1,none⟩= some (.pointer (some ⟨qb,0,none⟩))) (fun j=>[].contains j) (by kernel_rfl) (by rfl) ?_
  have hHeld:(fun w2:World=>w2.cell? ⟨b,0,none⟩= some (.int .u8 (UInt8.toNat 43))∧w2.cell? ⟨b,3,none⟩= some (.slice (some ⟨g,0,none⟩) 2 c)∧w2.cell? ⟨g,0,none⟩= some (.pointer (some ⟨pb,0,none⟩))∧w2.cell? ⟨g,1,none⟩= some (.pointer (some ⟨qb,0,none⟩))) w.drew:=⟨p0,p3,pk,pq⟩
  refine AnyT.tk 0 ?_
  refine AnyT.tk 1 ?_
  refine AnyT.tk 2 ?_
  refine AnyT.ld 3 ?_
  refine AnyT.tk 4 ?_
  refine AnyT.ld 5 ?_
  refine AnyT.tk 8 ?_
  refine AnyT.tk 9 ?_
  refine AnyT.tk 10 ?_
  refine AnyT.ld 11 ?_
  refine AnyT.tk 12 ?_
  refine AnyT.tk 13 ?_
  refine AnyT.tk 15 ?_
  refine AnyT.tk 16 ?_
  refine AnyT.tk 17 ?_
  refine AnyT.ld 18 ?_
  refine AnyT.tk 19 ?_
  refine AnyT.ld 20 ?_
  try simp only [Act.put,sqa,sqb,sqc]
  refine AnyT.one (i:=6) rfl (by kernel_rfl) (fun K hK=>?_)
  go_simp
  go_at_call 108
  (with_reducible refine (ih1.out _ (bl_drew (Bl.refl w))).mono ?_)
  rintro e W6 ⟨rfl,b6⟩
  go_wp2_with fail
  refine hK.out _ _ ?_ ?_
  ·exact ⟨cell_kept b6 hHeld.1,cell_kept b6 hHeld.2.1,cell_kept b6 hHeld.2.2.1,cell_kept b6 hHeld.2.2.2⟩
  intro hHeld
  clear hK K
  try simp only [Act.put,sqa,sqb,sqc]
  refine AnyT.tk 7 ?_
  refine AnyT.tk 14 ?_
  try simp only [Act.put,sqa,sqb,sqc]
  refine AnyT.one (i:=21) rfl (by kernel_rfl) (fun K hK=>?_)
  go_simp
  go_at_call 108
  (with_reducible refine (ih2.out _ ((bl_drew (Bl.refl w)).trans b6)).mono ?_)
  rintro e W7 ⟨rfl,b7⟩
  go_wp2_with fail
  refine hK.out _ _ ?_ ?_
  ·exact ⟨cell_kept b7 hHeld.1,cell_kept b7 hHeld.2.1,cell_kept b7 hHeld.2.2.1,cell_kept b7 hHeld.2.2.2⟩
  intro hHeld
  clear hK K
  try simp only [Act.put,sqa,sqb,sqc]
  refine AnyT.tk 22 ?_
  refine AnyT.tk 23 ?_
  refine AnyT.tk 24 ?_
  try simp only [Act.put,sqa,sqb,sqc]
  refine AnyT.done (by kernel_rfl) ?_
  go_wp2_with fail
  go_ret
  exact ⟨rfl,((bl_drew (Bl.refl w)).trans b6).trans b7⟩
 ·go_enter Try.func108,Try.ntmps108
  go_wp2_with fail
  refine AnyT.start 25 (fun w2=>w2.cell? ⟨b,0,none⟩= some (.int .u8 (UInt8.toNat 38))∧w2.cell? ⟨b,3,none⟩= some (.slice (some ⟨g,0,none⟩) 2 c)∧w2.cell? ⟨g,0,none⟩= some (.pointer (some ⟨pb,0,none⟩))∧w2.cell? ⟨g,1,none⟩= some (.pointer (some ⟨qb,0,none⟩))) (fun j=>[].contains j) (by kernel_rfl) (by rfl) ?_
  have hHeld:(fun w2:World=>w2.cell? ⟨b,0,none⟩= some (.int .u8 (UInt8.toNat 38))∧w2.cell? ⟨b,3,none⟩= some (.slice (some ⟨g,0,none⟩) 2 c)∧w2.cell? ⟨g,0,none⟩= some (.pointer (some ⟨pb,0,none⟩))∧w2.cell? ⟨g,1,none⟩= some (.pointer (some ⟨qb,0,none⟩))) w.drew:=⟨p0,p3,pk,pq⟩
  refine AnyT.tk 0 ?_
  refine AnyT.tk 1 ?_
  refine AnyT.tk 2 ?_
  refine AnyT.ld 3 ?_
  refine AnyT.tk 4 ?_
  refine AnyT.ld 5 ?_
  refine AnyT.tk 8 ?_
  refine AnyT.tk 9 ?_
  refine AnyT.tk 10 ?_
  refine AnyT.ld 11 ?_
  refine AnyT.tk 12 ?_
  refine AnyT.tk 13 ?_
  refine AnyT.tk 15 ?_
  refine AnyT.tk 16 ?_
  refine AnyT.tk 17 ?_
  refine AnyT.ld 18 ?_
  refine AnyT.tk 19 ?_
  refine AnyT.ld 20 ?_
  try simp only [Act.put,sqa,sqb,sqc]
  refine AnyT.one (i:=6) rfl (by kernel_rfl) (fun K hK=>?_)
  go_simp
  go_at_call 108
  (with_reducible refine (ih1.out _ (bl_drew (Bl.refl w))).mono ?_)
  rintro e W6 ⟨rfl,b6⟩
  go_wp2_with fail
  refine hK.out _ _ ?_ ?_
  ·exact ⟨cell_kept b6 hHeld.1,cell_kept b6 hHeld.2.1,cell_kept b6 hHeld.2.2.1,cell_kept b6 hHeld.2.2.2⟩
  intro hHeld
  clear hK K
  try simp only [Act.put,sqa,sqb,sqc]
  refine AnyT.tk 7 ?_
  refine AnyT.tk 14 ?_
  try simp only [Act.put,sqa,sqb,sqc]
  refine AnyT.one (i:=21) rfl (by kernel_rfl) (fun K hK=>?_)
  go_simp
  go_at_call 108
  (with_reducible refine (ih2.out _ ((bl_drew (Bl.refl w)).trans b6)).mono ?_)
  rintro e W7 ⟨rfl,b7⟩
  go_wp2_with fail
  refine hK.out _ _ ?_ ?_
  ·exact ⟨cell_kept b7 hHeld.1,cell_kept b7 hHeld.2.1,cell_kept b7 hHeld.2.2.1,cell_kept b7 hHeld.2.2.2⟩
  intro hHeld
  clear hK K
  try simp only [Act.put,sqa,sqb,sqc]
  refine AnyT.tk 22 ?_
  refine AnyT.tk 23 ?_
  refine AnyT.tk 24 ?_
  try simp only [Act.put,sqa,sqb,sqc]
  refine AnyT.done (by kernel_rfl) ?_
  go_wp2_with fail
  go_ret
  exact ⟨rfl,((bl_drew (Bl.refl w)).trans b6).trans b7⟩
theorem four_cell (w:World) (x k y:UInt8) (j:Nat) (l:Str) (hl:l = [x,k,y,46]) (hj:j < l.length):(w.alloc (.cells #[.int .u8 (x.toNat:Int),.int .u8 (k.toNat:Int),.int .u8 (y.toNat:Int),.int .u8 46] 5)).cell? ⟨w.heap.size,j,none⟩= some (.int .u8 (l[j].toNat:Int)):=by
 subst hl
 match j,hj with
 | 0,_=>simp
 | 1,_=>simp
 | 2,_=>simp
 | 3,_=>simp
theorem conv4 (w:World) (x k y:UInt8):
  (convert 52 9 (.slice (some ⟨w.heap.size,0,none⟩) 4 4)).run Try.prog (w.alloc (.cells #[.int .u8 (x.toNat:Int),.int .u8 (k.toNat:Int),.int .u8 (y.toNat:Int),.int .u8 46] 5))= .ok (.string (S [x,k,y,46])) (w.alloc (.cells #[.int .u8 (x.toNat:Int),.int .u8 (k.toNat:Int),.int .u8 (y.toNat:Int),.int .u8 46] 5)):=
 conv_at _ _ 4 [x,k,y,46] (fun j hj=>four_cell w x k y j _ rfl hj)
theorem conv4b (w W:World) (x k y:UInt8) (hb:Bl (w.alloc (.cells #[.int .u8 (x.toNat:Int),.int .u8 (k.toNat:Int),.int .u8 (y.toNat:Int),.int .u8 46] 5)) W):
  (convert 52 9 (.slice (some ⟨w.heap.size,0,none⟩) 4 4)).run Try.prog W = .ok (.string (S [x,k,y,46])) W:=
 conv_at _ _ 4 [x,k,y,46] (fun j hj=>cell_kept hb (four_cell w x k y j _ rfl hj))
theorem text_name (k:UInt8) (hk:k = 33∨k = 63) (b g c pb:Nat) (s:Str) (w:World) (x y:UInt8)
  (p0:w.cell? ⟨b,0,none⟩= some (.int .u8 k.toNat)) (p1:w.cell? ⟨b,1,none⟩= some (.int .u8 x.toNat)) (p2:w.cell? ⟨b,2,none⟩= some (.int .u8 y.toNat)) (p3:w.cell? ⟨b,3,none⟩= some (.slice (some ⟨g,0,none⟩) 1 c)) (pk:w.cell? ⟨g,0,none⟩= some (.pointer (some ⟨pb,0,none⟩)))
  (hs:s.length≤1000000) (ih:Hid (∀ w',Bl w w'→Calls Try.prog 108 #[encP pb] w' fun e w''=>e = .returned (.string (S s))∧Bl w' w'')):
  Calls Try.prog 108 #[encP b] w fun e w'=>e = .returned (.string (S (x :: k :: y :: 46 :: s)))∧Bl w w':=by
 have q1:¬ 9223372036854775807 < 4 + s.length:=by omega
 have k1:((k.toNat:Int)== 48)= false∧((k.toNat:Int)== 43)= false∧((k.toNat:Int)== 38)= false∧((k.toNat:Int)== 35)= false∧((k.toNat:Int)== 61)= false∧((k.toNat:Int)== 42)= false∧((k.toNat:Int)== 126)= false:=by rcases hk with rfl | rfl <;> decide
 have k2:((k.toNat:Int)≠48)∧((k.toNat:Int)≠43)∧((k.toNat:Int)≠38)∧((k.toNat:Int)≠35)∧((k.toNat:Int)≠61)∧((k.toNat:Int)≠42)∧((k.toNat:Int)≠126):=by rcases hk with rfl | rfl <;> decide
 obtain ⟨a1,a2,a3,a4,a5,a6,a7⟩:=k1
 obtain ⟨c1,c2,c3,c4,c5,c6,c7⟩:=k2
 clear hk
 have cv:=fun w=>conv4 w x k y
 go_enter Try.func108,Try.ntmps108
 go_wp2_with fail
 refine AnyT.start 23 (fun w2=>w2.cell? ⟨b,1,none⟩= some (.int .u8 x.toNat)∧w2.cell? ⟨b,0,none⟩= some (.int .u8 k.toNat)∧w2.cell? ⟨b,2,none⟩= some (.int .u8 y.toNat)∧w2.cell? ⟨b,3,none⟩= some (.slice (some ⟨g,0,none⟩) 1 c)∧w2.cell? ⟨g,0,none⟩= some (.pointer (some ⟨pb,0,none⟩))) (fun j=>[].contains j) (by kernel_rfl) (by rfl) ?_
 have hHeld:(fun w2:World=>w2.cell? ⟨b,1,none⟩= some (.int .u8 x.toNat)∧w2.cell? ⟨b,0,none⟩= some (.int .u8 k.toNat)∧w2.cell? ⟨b,2,none⟩= some (.int .u8 y.toNat)∧w2.cell? ⟨b,3,none⟩= some (.slice (some ⟨g,0,none⟩) 1 c)∧w2.cell? ⟨g,0,none⟩= some (.pointer (some ⟨pb,0,none⟩))) w.drew:=⟨p1,p0,p2,p3,pk⟩
 have bD:=bl_drew (Bl.refl w)
 generalize w.drew = D at *
 refine AnyT.tk 0 ?_
 refine AnyT.tk 1 ?_
 refine AnyT.tk 2 ?_
 refine AnyT.ld 3 ?_
 refine AnyT.tk 4 ?_
 refine AnyT.tk 5 ?_
 refine AnyT.tk 6 ?_
 refine AnyT.ld 7 ?_
 refine AnyT.tk 8 ?_
 refine AnyT.tk 9 ?_
 refine AnyT.tk 10 ?_
 refine AnyT.ld 11 ?_
 refine AnyT.tk 14 ?_
 refine AnyT.tk 15 ?_
 refine AnyT.tk 16 ?_
 refine AnyT.ld 17 ?_
 refine AnyT.tk 18 ?_
 refine AnyT.ld 19 ?_
 try simp only [Act.put,sqa,sqb,sqc]
 refine AnyT.fork (i:=12) (j:=20) rfl rfl (by kernel_rfl) (fun K hK=>?_) (fun K hK=>?_)
 ·go_simp
  refine hK.out _ _ ?_ ?_
  ·exact ⟨cell_kept (bl_alloc _ _) hHeld.1,cell_kept (bl_alloc _ _) hHeld.2.1,cell_kept (bl_alloc _ _) hHeld.2.2.1,cell_kept (bl_alloc _ _) hHeld.2.2.2.1,cell_kept (bl_alloc _ _) hHeld.2.2.2.2⟩
  intro hHeld
  clear hK K
  try simp only [Act.put,sqa,sqb,sqc]
  refine AnyT.fork (i:=13) (j:=20) rfl rfl (by kernel_rfl) (fun K hK=>?_) (fun K hK=>?_)
  ·go_simp
   refine hK.out _ _ ?_ ?_
   ·exact ⟨hHeld.1,hHeld.2.1,hHeld.2.2.1,hHeld.2.2.2.1,hHeld.2.2.2.2⟩
   intro hHeld
   clear hK K
   try simp only [Act.put,sqa,sqb,sqc]
   refine AnyT.one (i:=20) rfl (by kernel_rfl) (fun K hK=>?_)
   go_simp
   go_at_call 108
   (with_reducible refine (ih.out _ ((bD).trans (bl_alloc _ _))).mono ?_)
   rintro e W6 ⟨rfl,b6⟩
   go_wp2_with fail
   refine hK.out _ _ ?_ ?_
   ·exact ⟨cell_kept (b6) hHeld.1,cell_kept (b6) hHeld.2.1,cell_kept (b6) hHeld.2.2.1,cell_kept (b6) hHeld.2.2.2.1,cell_kept (b6) hHeld.2.2.2.2⟩
   intro hHeld
   clear hK K
   try simp only [Act.put,sqa,sqb,sqc]
   refine AnyT.tk 21 ?_
   refine AnyT.tk 22 ?_
   try simp only [Act.put,sqa,sqb,sqc]
   refine AnyT.done (by kernel_rfl) ?_
   go_wp2_with fail
   go_ret
   exact ⟨rfl,((bD).trans (bl_alloc _ _)).trans b6⟩
  ·go_simp
   go_at_call 108
   (with_reducible refine (ih.out _ ((bD).trans (bl_alloc _ _))).mono ?_)
   rintro e W6 ⟨rfl,b6⟩
   go_wp2_with fail
   refine hK.out _ _ ?_ ?_
   ·exact ⟨cell_kept (b6) hHeld.1,cell_kept (b6) hHeld.2.1,cell_kept (b6) hHeld.2.2.1,cell_kept (b6) hHeld.2.2.2.1,cell_kept (b6) hHeld.2.2.2.2⟩
   intro hHeld
   clear hK K
   try simp only [Act.put,sqa,sqb,sqc]
   have cw:=conv4b D W6 x k y b6
   refine AnyT.one (i:=13) rfl (by kernel_rfl) (fun K hK=>?_)
   go_simp
   refine hK.out _ _ ?_ ?_
   ·exact hHeld
   intro hHeld
   clear hK K
   try simp only [Act.put,sqa,sqb,sqc]
   refine AnyT.tk 21 ?_
   refine AnyT.tk 22 ?_
   try simp only [Act.put,sqa,sqb,sqc]
   refine AnyT.done (by kernel_rfl) ?_
   go_wp2_with fail
   go_ret
   exact ⟨rfl,((bD).trans (bl_alloc _ _)).trans b6⟩
 ·go_simp
  go_at_call 108
  (with_reducible refine (ih.out _ bD).mono ?_)
  rintro e W6 ⟨rfl,b6⟩
  go_wp2_with fail
  refine hK.out _ _ ?_ ?_
  ·exact ⟨cell_kept (b6) hHeld.1,cell_kept (b6) hHeld.2.1,cell_kept (b6) hHeld.2.2.1,cell_kept (b6) hHeld.2.2.2.1,cell_kept (b6) hHeld.2.2.2.2⟩
  intro hHeld
  clear hK K
  try simp only [Act.put,sqa,sqb,sqc]
  refine AnyT.one (i:=12) rfl (by kernel_rfl) (fun K hK=>?_)
  go_simp
  refine hK.out _ _ ?_ ?_
  ·exact ⟨cell_kept (bl_alloc _ _) hHeld.1,cell_kept (bl_alloc _ _) hHeld.2.1,cell_kept (bl_alloc _ _) hHeld.2.2.1,cell_kept (bl_alloc _ _) hHeld.2.2.2.1,cell_kept (bl_alloc _ _) hHeld.2.2.2.2⟩
  intro hHeld
  clear hK K
  try simp only [Act.put,sqa,sqb,sqc]
  refine AnyT.one (i:=13) rfl (by kernel_rfl) (fun K hK=>?_)
  go_simp
  refine hK.out _ _ ?_ ?_
  ·exact hHeld
  intro hHeld
  clear hK K
  try simp only [Act.put,sqa,sqb,sqc]
  refine AnyT.tk 21 ?_
  refine AnyT.tk 22 ?_
  try simp only [Act.put,sqa,sqb,sqc]
  refine AnyT.done (by kernel_rfl) ?_
  go_wp2_with fail
  go_ret
  exact ⟨rfl,((bD).trans b6).trans (bl_alloc _ _)⟩
theorem text_c (t:Tm):∀ (P:Nat→Prop) (b:Nat) (w:World),Lies P w t b→t.ok smallB = true→(txt t).length≤1000000→
  Calls Try.prog 108 #[encP b] w fun e w'=>e = .returned (.string (S (txt t)))∧Bl w w':=by
 induction t with
 | zero=>
   rintro P b w ⟨-,A,c,h⟩ hk hs
   obtain ⟨-,h0,-,-,h3⟩:=h
   have h0:w.cell? ⟨b,0,none⟩= some (.int .u8 48):=h0
   clear h3 hk hs
   go_enter Try.func108,Try.ntmps108
   go_wp2_with fail
   go_ret
   exact ⟨rfl,Bl.refl _⟩
 | un k x y p ih=>
   rintro P b w ⟨-,g,c,n,pb,-,h,⟨-,hk⟩,hl⟩ hok hs
   simp only [Tm.ok,Bool.and_eq_true] at hok
   have hs2:(txt p).length≤1000000:=by simp only [txt,List.length_append] at hs;omega
   have i1:Hid (∀ w',Bl w w'→Calls Try.prog 108 #[encP pb] w' fun e w''=>e = .returned (.string (S (txt p)))∧Bl w' w''):=fun w' hb=>ih P pb w' (hl.bl hb) hok.2 hs2
   obtain ⟨-,h0,h1,h2,h3⟩:=h
   rcases okhd_cases hok.1 with ⟨rfl,ha,hb⟩ | ⟨rfl,ha,hb⟩ | ⟨rfl,ha,hb⟩ | ⟨rfl,ha,hb⟩ | ⟨rfl,ha,hb⟩ | ⟨rfl,ha,hb⟩
   ·exact text_name 33 (.inl rfl) b g c pb (txt p) w x y h0 h1 h2 h3 hk hs2 i1
   ·exact text_name 63 (.inr rfl) b g c pb (txt p) w x y h0 h1 h2 h3 hk hs2 i1
   ·exact text_test b g c pb (txt p) w x y (small_128 ha) (small_128 hb) h0 h1 h2 h3 hk hs2 i1
   ·exact text_hide b g c pb (txt p) w x y (small_128 hb) h0 h2 h3 hk hs2 i1
   ·exact text_pre 42 (.inl rfl) b g c pb (txt p) w x y h0 h3 hk hs2 i1
   ·exact text_pre 126 (.inr rfl) b g c pb (txt p) w x y h0 h3 hk hs2 i1
 | bin k p q ih1 ih2=>
   rintro P b w ⟨-,g,c,n,pb,qb,-,h,⟨-,hk⟩,⟨-,hq⟩,hl,hr⟩ hok hs
   simp only [Tm.ok,Bool.and_eq_true,Bool.or_eq_true,beq_iff_eq] at hok
   have hs2:(txt p).length + (txt q).length≤1000000:=by simp only [txt,List.length_append,List.length_cons] at hs;omega
   obtain ⟨-,h0,h1,h2,h3⟩:=h
   exact text_two k hok.1 b g c pb qb (txt p) (txt q) w h0 h3 hk hq hs2 (fun w' hb=>ih1 P pb w' (hl.bl hb) hok.2.1 (by omega)) (fun w' hb=>ih2 P qb w' (hr.bl hb) hok.2.2 (by omega))
end Go.Proofs.Ytmmnnhaecjpfdaa
namespace Go.Proofs.Ytmmnnhaecjpfdaa
open Go.RowKit
def sumK (k:UInt8):Prop:=k = 33∨k = 63∨k = 126∨k = 43∨k = 48
def smpT:Tm→Prop
 | .zero=>True
 | .un k _ _ p=>(k = 42→p.kind = 63)∧smpT p
 | .bin k p q=>(k = 43→sumK p.kind∧sumK q.kind)∧smpT p∧smpT q
structure OfT where
 k:UInt8
 a:UInt8
 b:UInt8
 p:Tm
 st:Bool
def offT:Tm→List OfT
 | .zero=>[]
 | .un k a b p=>if k = 126∨k = 33∨k = 63 then [⟨k,a,b,p,false⟩] else if k = 42 then (offT p).map (fun x=>{ x with st:=true }) else []
 | .bin k p q=>if k = 43 then offT p ++ offT q else []
end Go.Proofs.Ytmmnnhaecjpfdaa
namespace Go.Proofs.Ytmmnnhaecjpfdaa
open Go.RowKit
structure RowK (T S:TypeId) (z:Value) (k b:Nat):Prop where
 und:Try.prog.underlying S = some (.slice T)
 info:(Try.prog.info? T).map (fun i=>(i.zero,i.size,i.bytes))= some (some z,k,b)
 one:z.cells.size = k
 pos:0 < k
 small:b≤1000
section
variable {α:Type} {T S:TypeId} {z:Value} {k b:Nat} {enc:α→List Value}
def RK (T:TypeId) (k:Nat) (enc:α→List Value) (w:World) (base:Nat) (v:Value) (xs:List α):Prop:=w.ownsRow base T k v xs.length (xs.flatMap enc)
theorem flatK_len (he:∀ x,(enc x).length = k):∀ xs:List α,(xs.flatMap enc).length = xs.length * k
 | []=>by simp
 | x :: l=>by rw [List.flatMap_cons,List.length_append,flatK_len he l,he,List.length_cons,Nat.succ_mul];omega
theorem flat_get (he:∀ x,(enc x).length = k):∀ {xs:List α} {j i:Nat} {x:α},xs[j]? = some x→i < k→(xs.flatMap enc)[j * k + i]? = (enc x)[i]?
 | [],_,_,_,h,_=>by simp at h
 | y :: l,0,i,x,h,hi=>by
   obtain rfl:=Option.some.inj h
   rw [List.flatMap_cons,Nat.zero_mul,Nat.zero_add,List.getElem?_append_left (by rw [he];exact hi)]
 | y :: l,j + 1,i,x,h,hi=>by
   rw [List.flatMap_cons,List.getElem?_append_right (by rw [he,Nat.succ_mul];omega),he,show (j + 1) * k + i - k = j * k + i by rw [Nat.succ_mul];omega]
   exact flat_get he (xs:=l) h hi
theorem RK.nil (w:World) (base:Nat):RK T k enc w base (.slice none 0 0) ([]:List α):=World.ownsRow_nil _ _ _ _
theorem RK.mono {w:World} {base b2:Nat} {v:Value} {xs:List α} (h:RK T k enc w base v xs) (hb:b2≤base):RK T k enc w b2 v xs:=
 ⟨h.1,h.2.imp id (fun ⟨g,cap,cur,h1,h2,h3⟩=>⟨g,cap,cur,h1,Nat.le_trans hb h2,h3⟩)⟩
theorem RK.heap {w w':World} {base:Nat} {v:Value} {xs:List α} (h:RK T k enc w base v xs) (hb:∀ k,v.ownBlock = some k→k < w.heap.size→w'.heap[k]? = w.heap[k]?):RK T k enc w' base v xs:=by
 refine ⟨h.1,h.2.imp id ?_⟩
 rintro ⟨g,cap,cur,h1,h2,h3,h4⟩
 exact ⟨g,cap,cur,h1,h2,(hb g (by rw [h1];rfl) (lt_of_block h3)).trans h3,h4⟩
theorem RK.bl {w w':World} {base:Nat} {v:Value} {xs:List α} (h:RK T k enc w base v xs) (hb:Bl w w'):RK T k enc w' base v xs:=h.heap (fun k _ hk=>Below.block hb k hk)
theorem RK.lt {w:World} {base:Nat} {v:Value} {xs:List α} (h:RK T k enc w base v xs):∀ k,v.ownBlock = some k→base≤k∧k < w.heap.size:=World.ownsRow.lt h
theorem RK.form (he:∀ x,(enc x).length = k) {w:World} {base:Nat} {v:Value} {xs:List α} (h:RK T k enc w base v xs):
  (v = .slice none 0 0∧xs = [])∨∃ g c cur,v = .slice (some ⟨g,0,none⟩) xs.length c∧base≤g∧(g < w.heap.size∧xs.length≤c∧c≤maxLen∧cur.size = c * k)∧w.heap[g]? = some (.cells cur T (0,0))∧∀ (j:Nat) (x:α),xs[j]? = some x→∀ (i:Nat) (u:Value),(enc x)[i]? = some u→w.cell? ⟨g,j * k + i,none⟩= some u:=by
 rcases h.2 with ⟨h1,h2⟩ | ⟨g,cap,cur,h1,h2,h3,h4,h5,h6,h7⟩
 ·exact .inl ⟨h1,List.eq_nil_of_length_eq_zero h2⟩
 ·refine .inr ⟨g,cap,cur,h1,h2,⟨lt_of_block h3,h4,h5,h6⟩,h3,fun j x hj i u hu=>?_⟩
  have hlt:j < xs.length:=(List.getElem?_eq_some_iff.1 hj).1
  have hik:i < k:=by rw [← he x];exact (List.getElem?_eq_some_iff.1 hu).1
  rw [cell_of_row _ _ _ _ _ _ h3]
  have h8:(cur.toList.take (xs.length * k))[j * k + i]? = some u:=by rw [h7,flat_get he hj hik,hu]
  have h9:j * k + i < xs.length * k:=by
   have:(j + 1) * k≤xs.length * k:=Nat.mul_le_mul_right k hlt
   rw [Nat.succ_mul] at this;omega
  rw [List.getElem?_take_of_lt h9] at h8
  simpa using h8
theorem RK.slice {w:World} {base:Nat} {v:Value} {xs:List α} (h:RK T k enc w base v xs):∃ A c,v = .slice A xs.length c:=by
 rcases h.2 with ⟨rfl,h2⟩ | ⟨g,cap,cur,h1,-⟩
 ·exact ⟨_,_,by rw [h2]⟩
 ·exact ⟨_,_,h1⟩
theorem flat_set (he:∀ x,(enc x).length = k) {u:Value} {i:Nat} (hi:i < k):∀ {xs:List α} {j:Nat} {x x':α},xs[j]? = some x→enc x' = (enc x).set i u→(xs.flatMap enc).set (j * k + i) u = (xs.set j x').flatMap enc
 | [],_,_,_,h,_=>by simp at h
 | y :: l,0,x,x',h,hx=>by
   obtain rfl:=Option.some.inj h
   rw [List.set_cons_zero,List.flatMap_cons,List.flatMap_cons,hx,Nat.zero_mul,Nat.zero_add,List.set_append_left _ _ (by rw [he];exact hi)]
 | y :: l,j + 1,x,x',h,hx=>by
   rw [List.set_cons_succ,List.flatMap_cons,List.flatMap_cons,List.set_append_right _ _ (by rw [he,Nat.succ_mul];omega),he,show (j + 1) * k + i - k = j * k + i by rw [Nat.succ_mul];omega]
   rw [flat_set he hi (xs:=l) (j:=j) (x:=x) (x':=x') h hx]
theorem RK.setc (he:∀ x,(enc x).length = k) {w:World} {base:Nat} {v:Value} {xs:List α} {g:Nat} (h:RK T k enc w base v xs) (hg:v.ownBlock = some g) {j i:Nat} {x x':α} (hj:xs[j]? = some x) (hi:i < k) {u:Value} (hx:enc x' = (enc x).set i u):
  RK T k enc (w.setCell ⟨g,j * k + i,none⟩ u) base v (xs.set j x'):=by
 rcases h.2 with ⟨rfl,h2⟩ | ⟨g',cap,cur,rfl,h2,h3,h4,h5,h6,h7⟩
 ·cases hg
 ·obtain rfl:=Option.some.inj hg
  refine ⟨by rw [flatK_len he],.inr ⟨_,cap,cur.modify (j * k + i) (fun _=>u),by rw [List.length_set],h2,blk_set h3 u,by rw [List.length_set];exact h4,h5,by rw [Array.size_modify];exact h6,?_⟩⟩
  rw [← flat_set he hi hj hx,← h7,List.length_set]
  have hset:(cur.modify (j * k + i) (fun _=>u)).toList = cur.toList.set (j * k + i) u:=by
   apply List.ext_getElem?
   intro q
   rw [List.getElem?_set]
   simp only [Array.getElem?_toList,Array.getElem?_modify,Array.length_toList]
   split
   ·rename_i e;subst e
    split
    ·rename_i hq;simp [hq]
    ·rename_i hq;simp [Array.getElem?_eq_none (by omega:cur.size≤j * k + i)]
   ·rfl
  rw [hset,List.take_set]
def RKSrc (enc:α→List Value) (w:World) (u:Value) (ys:List α):Prop:=∃ A c,u = .slice A ys.length c∧((A = none∧ys = [])∨∃ ad,A = some ad∧∀ (j:Nat) (x:Value),(ys.flatMap enc)[j]? = some x→w.cell? (ad.add j)= some x)
theorem RK.src {w:World} {base:Nat} {v:Value} {xs:List α} (h:RK T k enc w base v xs):RKSrc enc w v xs:=by
 rcases h.2 with ⟨rfl,h2⟩ | ⟨g,cap,cur,h1,h2,h3,h4,h5,h6,h7⟩
 ·exact ⟨none,0,by rw [h2],.inl ⟨rfl,List.eq_nil_of_length_eq_zero h2⟩⟩
 ·refine ⟨_,_,h1,.inr ⟨_,rfl,fun j x hj=>?_⟩⟩
  have e:Addr.add ⟨g,0,none⟩ j = ⟨g,j,none⟩:=by cases j <;> simp [Addr.add]
  rw [e,cell_of_row _ _ _ _ _ _ h3]
  rw [← h7] at hj
  have hlt:j < xs.length * k:=by
   have:=(List.getElem?_eq_some_iff.1 hj).1
   rw [List.length_take] at this;omega
  rw [List.getElem?_take_of_lt hlt] at hj
  simpa using hj
theorem RK.lit (w:World) (cs:Array Value) (x:α) {base:Nat} (hb:base≤w.heap.size) (hc:enc x = cs.toList) (hk:cs.size = k):RK T k enc (w.alloc (.cells cs T)) base (.slice (some ⟨w.heap.size,0,none⟩) 1 1) [x]:=by
 unfold RK
 rw [List.flatMap_cons,List.flatMap_nil,List.append_nil,hc]
 exact World.ownsRow_lit w cs 1 hb (by decide) (by rw [hk,Nat.one_mul])
theorem rk_append (R:RowK T S z k b) (he:∀ x,(enc x).length = k) (h1c:∀ x,∀ u∈enc x,u.oneCell' = true) (w:World) (ty:TypeId) (base:Nat) (v u:Value) (xs ys:List α) (h:RK T k enc w base v xs) (g:RKSrc enc w u ys) (hl:xs.length + ys.length≤100000) (hb:base≤w.heap.size):
  ∃ v' w',(Builtin.append_ #[S,S] ty #[v,u]).run Try.prog w = .ok v' w'∧RK T k enc w' base v' (xs ++ ys)∧w.grownBy w' v.ownBlock∧(v'.ownBlock = v.ownBlock∨v'.ownBlock = some w.heap.size):=by
 obtain ⟨i,hi,hz,hs,hby⟩:=info_parts R.info
 have h1:∀ x∈ys.flatMap enc,x.oneCell' = true:=by
  intro x hx
  obtain ⟨s,_,hs⟩:=List.mem_flatMap.1 hx
  exact h1c s x hs
 obtain ⟨A,c,rfl,⟨rfl,rfl⟩ | ⟨ad,rfl,hc⟩⟩:=g
 ·refine ⟨v,w,?_,by simpa using h,World.grownBy.refl _ _,.inl rfl⟩
  rcases h.2 with ⟨rfl,hn⟩ | ⟨g',cap,cur,rfl,_,_,hnc,_⟩
  ·simp [Builtin.append_,run_underlying R.und,sizeOf,typeInfo,hi,Builtin.lenOf,Builtin.firstCells]
  ·simp [Builtin.append_,run_underlying R.und,sizeOf,typeInfo,hi,Builtin.lenOf,Builtin.firstCells,hnc,storeCells]
 ·have hbb:(xs.length + ys.length) * b≤140737488355328:=by
   have:(xs.length + ys.length) * b≤100000 * 1000:=Nat.mul_le_mul hl R.small
   omega
  obtain ⟨v',w',hrun,h2,h3,_,h5⟩:=run_append_own_at (P:=Try.prog) w base S ty T i z k b R.und hi hz hs hby R.one R.pos v xs.length (xs.flatMap enc) h
   ad ys.length c (ys.flatMap enc) (flatK_len he ys) hc h1 (by simp only [maxLen];omega) hbb hb
  refine ⟨v',w',hrun,?_,h3,h5⟩
  unfold RK
  rw [List.length_append,List.flatMap_append];exact h2
theorem rk_step (R:RowK T S z k b) (he:∀ x,(enc x).length = k) (h1c:∀ x,∀ u∈enc x,u.oneCell' = true) {ops:Array Oper} {o:Oper} {a:Act} {K:Act→World→Prop} {E:Prop} {Q:Exit→Act→World→Prop} (w:World) (s x:Operand) (base:Nat) (v u:Value) (xs ys:List α)
  (hgd:o.guard = none) (ho:o.op = .call { callee:=.builtin .append,args:=#[s,x],argTypes:=#[S,S] })
  (hs:a.eval s = v) (hx:a.eval x = u) (h:RK T k enc w base v xs) (g:RKSrc enc w u ys) (hl:xs.length + ys.length≤100000) (hb:base≤w.heap.size)
  (kk:∀ v' w',RK T k enc w' base v' (xs ++ ys)→w.grownBy w' v.ownBlock→(v'.ownBlock = v.ownBlock∨v'.ownBlock = some w.heap.size)→K (a.put o.dst v') w'):
  if Region.wanted o (yielded ops a.tmps)= true then Oper.wp Try.prog o a w K Q else E:=by
 have hw:Region.wanted o (yielded ops a.tmps)= true:=by simp [Region.wanted,hgd]
 rw [if_pos hw]
 obtain ⟨v',w',hr,h1,h2,h3⟩:=rk_append R he h1c w o.type base v u xs ys h g hl hb
 unfold Oper.wp execOp
 simp only [ho,resolve,invoke,builtin,Sem.run_bind,Sem.run_pure,Result.andThen_ok,List.map_toArray,List.map_cons,List.map_nil,hs,hx,hr]
 exact kk v' w' h1 h2 h3
end
theorem ld_row {ops:Array Oper} {rest:List Oper} {op:Oper} {a:Act} {w:World} {Q:Exit→Act→World→Prop} (hgd:op.guard = none) (ty:TypeId) (x:Operand) (ho:op.op = .load ty x)
  (g off:Nat) (cells:List Value) (d:TypeDesc) (hx:a.eval x = .pointer (some ⟨g,off,none⟩)) (hc:∀ (i:Nat) (u:Value),cells[i]? = some u→w.cell? ⟨g,off + i,none⟩= some u) (hu:Try.prog.underlying ty = some d) (hd:d.isRow = true) (hi:(Try.prog.info? ty).map (·.size)= some cells.length)
  (h:wpList Try.prog ops Q rest (a.put op.dst (.agg cells.toArray)) w):wpList Try.prog ops Q (op :: rest) a w:=
 wpList_load_mid hgd ty x ho g off hx cells d hc hu hd hi h
end Go.Proofs.Ytmmnnhaecjpfdaa
namespace Go.Proofs.Ytmmnnhaecjpfdaa
open Go.RowKit
attribute [local go_sem] S_size S_toList S_lit S_get S_extract S_append drop_all
def sumB (k:UInt8):Bool:=decide (k∈([33,63,126,43,48]:Str))
theorem sumB_iff {k:UInt8}:sumB k = true↔sumK k:=by simp [sumB,sumK]
def grdT:Tm→Bool
 | .zero=>true
 | .un _ _ _ p=>grdT p
 | .bin k p q=>if k = 43 then (sumB p.kind && grdT p) && (sumB q.kind && grdT q) else grdT p && grdT q
def inpT:Tm→Bool
 | .zero=>true
 | .un k _ _ p=>if k = 42 then decide (p.kind = 63) && inpT p else inpT p
 | .bin _ p q=>inpT p && inpT q
theorem smp_iff:∀ {t:Tm},(grdT t && inpT t)= true↔smpT t
 | .zero=>by simp [grdT,inpT,smpT]
 | .un k a b p=>by
   have ih:=smp_iff (t:=p)
   simp only [Bool.and_eq_true] at ih ⊢
   simp only [grdT,inpT,smpT]
   by_cases h:k = 42
   ·rw [if_pos h];simp only [Bool.and_eq_true,decide_eq_true_eq,h,true_implies]
    constructor
    ·rintro ⟨h1,h2,h3⟩;exact ⟨h2,ih.1 ⟨h1,h3⟩⟩
    ·rintro ⟨h1,h2⟩;exact ⟨(ih.2 h2).1,h1,(ih.2 h2).2⟩
   ·rw [if_neg h];simp only [h,false_implies,true_and];exact ih
 | .bin k p q=>by
   have i1:=smp_iff (t:=p)
   have i2:=smp_iff (t:=q)
   simp only [Bool.and_eq_true] at i1 i2 ⊢
   simp only [grdT,inpT,smpT]
   by_cases h:k = 43
   ·rw [if_pos h];simp only [Bool.and_eq_true,h,true_implies,← sumB_iff]
    constructor
    ·rintro ⟨⟨⟨h1,h2⟩,h3,h4⟩,h5,h6⟩;exact ⟨⟨h1,h3⟩,i1.1 ⟨h2,h5⟩,i2.1 ⟨h4,h6⟩⟩
    ·rintro ⟨⟨h1,h3⟩,h2,h4⟩;exact ⟨⟨⟨h1,(i1.2 h2).1⟩,h3,(i2.2 h4).1⟩,(i1.2 h2).2,(i2.2 h4).2⟩
   ·rw [if_neg h];simp only [Bool.and_eq_true,h,false_implies,true_and]
    constructor
    ·rintro ⟨⟨h2,h4⟩,h5,h6⟩;exact ⟨i1.1 ⟨h2,h5⟩,i2.1 ⟨h4,h6⟩⟩
    ·rintro ⟨h2,h4⟩;exact ⟨⟨(i1.2 h2).1,(i2.2 h4).1⟩,(i1.2 h2).2,(i2.2 h4).2⟩
instance (t:Tm):Decidable (smpT t):=decidable_of_iff _ smp_iff
theorem grd_zero (w:World):Calls Try.prog 67 #[.string (S [48])] w fun e w'=>e = .returned (.bool true)∧Bl w w':=by
 have c2:=hide fun w=>tmParts_zero w
 go_enter Try.func67,Try.ntmps67
 go_wp2_with ((go_at_call 47;(with_reducible refine (c2.out _).mono ?_);rintro e w' ⟨rfl,rfl⟩))
 refine wp_loop_rounds 1 ?_
 rw [rounds_succ]
 go_wp2_with fail
 go_ret
 exact ⟨rfl,bls⟩
theorem inp_zero (w:World):Calls Try.prog 68 #[.string (S [48])] w fun e w'=>e = .returned (.bool true)∧Bl w w':=by
 have c2:=hide fun w=>tmParts_zero w
 go_enter Try.func68,Try.ntmps68
 go_wp2_with ((go_at_call 47;(with_reducible refine (c2.out _).mono ?_);rintro e w' ⟨rfl,rfl⟩))
 refine wp_loop_rounds 1 ?_
 rw [rounds_succ]
 go_wp2_with fail
 go_ret
 exact ⟨rfl,bls⟩
theorem grd_un (l:Str) (k a b:UInt8) (p:Tm) (dp:Bool) (w:World) (U:UnL l k a b p) (hk:okhd wideB k a b = true)
  (ih:Hid (∀ w,Calls Try.prog 67 #[.string (S (txt p))] w fun e w'=>e = .returned (.bool dp)∧Bl w w')):
  Calls Try.prog 67 #[.string (S l)] w fun e w'=>e = .returned (.bool dp)∧Bl w w':=by
 obtain ⟨c1,-,c2,-,-⟩:=U
 generalize txt p = tp at *
 rcases okhd_cases hk with ⟨rfl,ha,hb⟩ | ⟨rfl,ha,hb⟩ | ⟨rfl,ha,hb⟩ | ⟨rfl,ha,hb⟩ | ⟨rfl,ha,hb⟩ | ⟨rfl,ha,hb⟩ <;> clear hk ha hb
 all_goals
  cases dp
  ·go_enter Try.func67,Try.ntmps67
   go_wp2_with ((go_at_call 47;(with_reducible refine (c2.out _).mono ?_);rintro e w' ⟨v,rfl,⟨g,c,rfl,hc⟩,hb1⟩))
   refine wp_loop_rounds 2 ?_
   rw [rounds_succ]
   go_wp2_with (first | (go_at_call 46;(with_reducible refine (c1.out _).mono ?_);rintro e w' ⟨rfl,rfl⟩) | (go_at_call 67;(with_reducible refine (ih.out _).mono ?_);rintro e w' ⟨rfl,hb2⟩))
   go_ret
   exact ⟨rfl,bls⟩
  ·go_enter Try.func67,Try.ntmps67
   go_wp2_with ((go_at_call 47;(with_reducible refine (c2.out _).mono ?_);rintro e w' ⟨v,rfl,⟨g,c,rfl,hc⟩,hb1⟩))
   refine wp_loop_rounds 2 ?_
   rw [rounds_succ]
   go_wp2_with (first | (go_at_call 46;(with_reducible refine (c1.out _).mono ?_);rintro e w' ⟨rfl,rfl⟩) | (go_at_call 67;(with_reducible refine (ih.out _).mono ?_);rintro e w' ⟨rfl,hb2⟩))
   rw [rounds_succ]
   go_wp2_with fail
   go_ret
   exact ⟨rfl,bls⟩
theorem inp_un (l:Str) (k a b:UInt8) (p:Tm) (dp:Bool) (w:World) (U:UnL l k a b p) (hk:okhd wideB k a b = true) (h42:k≠42)
  (ih:Hid (∀ w,Calls Try.prog 68 #[.string (S (txt p))] w fun e w'=>e = .returned (.bool dp)∧Bl w w')):
  Calls Try.prog 68 #[.string (S l)] w fun e w'=>e = .returned (.bool dp)∧Bl w w':=by
 obtain ⟨c1,-,c2,-,-⟩:=U
 generalize txt p = tp at *
 rcases okhd_cases hk with ⟨rfl,ha,hb⟩ | ⟨rfl,ha,hb⟩ | ⟨rfl,ha,hb⟩ | ⟨rfl,ha,hb⟩ | ⟨rfl,ha,hb⟩ | ⟨rfl,ha,hb⟩ <;> clear hk ha hb
 case inr.inr.inr.inr.inl=>exact (h42 rfl).elim
 all_goals
  clear h42
  cases dp
  ·go_enter Try.func68,Try.ntmps68
   go_wp2_with ((go_at_call 47;(with_reducible refine (c2.out _).mono ?_);rintro e w' ⟨v,rfl,⟨g,c,rfl,hc⟩,hb1⟩))
   refine wp_loop_rounds 2 ?_
   rw [rounds_succ]
   go_wp2_with (first | (go_at_call 46;(with_reducible refine (c1.out _).mono ?_);rintro e w' ⟨rfl,rfl⟩) | (go_at_call 68;(with_reducible refine (ih.out _).mono ?_);rintro e w' ⟨rfl,hb2⟩))
   go_ret
   exact ⟨rfl,bls⟩
  ·go_enter Try.func68,Try.ntmps68
   go_wp2_with ((go_at_call 47;(with_reducible refine (c2.out _).mono ?_);rintro e w' ⟨v,rfl,⟨g,c,rfl,hc⟩,hb1⟩))
   refine wp_loop_rounds 2 ?_
   rw [rounds_succ]
   go_wp2_with (first | (go_at_call 46;(with_reducible refine (c1.out _).mono ?_);rintro e w' ⟨rfl,rfl⟩) | (go_at_call 68;(with_reducible refine (ih.out _).mono ?_);rintro e w' ⟨rfl,hb2⟩))
   rw [rounds_succ]
   go_wp2_with fail
   go_ret
   exact ⟨rfl,bls⟩
theorem inp_42 (l:Str) (a b:UInt8) (p:Tm) (dp sp:Bool) (kp:UInt8) (w:World) (U:UnL l 42 a b p) (hsp:((kp.toNat:Int)== 63)= sp) (hsp2:((kp.toNat:Int) != 63)= !sp)
  (ck:Hid (∀ w,Calls Try.prog 46 #[.string (S (txt p))] w fun e w'=>e = .returned (.int .u8 kp.toNat)∧w = w'))
  (ih:Hid (∀ w,Calls Try.prog 68 #[.string (S (txt p))] w fun e w'=>e = .returned (.bool dp)∧Bl w w')):
  Calls Try.prog 68 #[.string (S l)] w fun e w'=>e = .returned (.bool (sp && dp))∧Bl w w':=by
 obtain ⟨c1,-,c2,-,-⟩:=U
 generalize txt p = tp at *
 cases sp
 ·go_enter Try.func68,Try.ntmps68
  go_wp2_with ((go_at_call 47;(with_reducible refine (c2.out _).mono ?_);rintro e w' ⟨v,rfl,⟨g,c,rfl,hc⟩,hb1⟩))
  refine wp_loop_rounds 2 ?_
  rw [rounds_succ]
  go_wp2_with (first | (go_at_call 46;(with_reducible refine (c1.out _).mono ?_);rintro e w' ⟨rfl,rfl⟩) | (go_at_call 46;(with_reducible refine (ck.out _).mono ?_);rintro e w' ⟨rfl,rfl⟩))
  go_ret
  exact ⟨rfl,bls⟩
 ·cases dp
  ·go_enter Try.func68,Try.ntmps68
   go_wp2_with ((go_at_call 47;(with_reducible refine (c2.out _).mono ?_);rintro e w' ⟨v,rfl,⟨g,c,rfl,hc⟩,hb1⟩))
   refine wp_loop_rounds 2 ?_
   rw [rounds_succ]
   go_wp2_with (first | (go_at_call 46;(with_reducible refine (c1.out _).mono ?_);rintro e w' ⟨rfl,rfl⟩) | (go_at_call 46;(with_reducible refine (ck.out _).mono ?_);rintro e w' ⟨rfl,rfl⟩) | (go_at_call 68;(with_reducible refine (ih.out _).mono ?_);rintro e w' ⟨rfl,hb2⟩))
   go_ret
   exact ⟨rfl,bls⟩
  ·go_enter Try.func68,Try.ntmps68
   go_wp2_with ((go_at_call 47;(with_reducible refine (c2.out _).mono ?_);rintro e w' ⟨v,rfl,⟨g,c,rfl,hc⟩,hb1⟩))
   refine wp_loop_rounds 2 ?_
   rw [rounds_succ]
   go_wp2_with (first | (go_at_call 46;(with_reducible refine (c1.out _).mono ?_);rintro e w' ⟨rfl,rfl⟩) | (go_at_call 46;(with_reducible refine (ck.out _).mono ?_);rintro e w' ⟨rfl,rfl⟩) | (go_at_call 68;(with_reducible refine (ih.out _).mono ?_);rintro e w' ⟨rfl,hb2⟩))
   rw [rounds_succ]
   go_wp2_with fail
   go_ret
   exact ⟨rfl,bls⟩
theorem grd_43 (l:Str) (p q:Tm) (sp dp sq dq:Bool) (kp kq:UInt8) (w:World) (B:BinL l 43 p q)
  (cp:Hid (∀ w,Calls Try.prog 46 #[.string (S (txt p))] w fun e w'=>e = .returned (.int .u8 kp.toNat)∧w = w'))
  (cq:Hid (∀ w,Calls Try.prog 46 #[.string (S (txt q))] w fun e w'=>e = .returned (.int .u8 kq.toNat)∧w = w'))
  (np:Hid (∀ w,Calls Try.prog 42 #[.string (S [33,63,126,43,48]),.int .u8 kp.toNat] w fun e w'=>e = .returned (.bool sp)∧w = w'))
  (nq:Hid (∀ w,Calls Try.prog 42 #[.string (S [33,63,126,43,48]),.int .u8 kq.toNat] w fun e w'=>e = .returned (.bool sq)∧w = w'))
  (i1:Hid (∀ w,Calls Try.prog 67 #[.string (S (txt p))] w fun e w'=>e = .returned (.bool dp)∧Bl w w'))
  (i2:Hid (∀ w,Calls Try.prog 67 #[.string (S (txt q))] w fun e w'=>e = .returned (.bool dq)∧Bl w w')):
  Calls Try.prog 67 #[.string (S l)] w fun e w'=>e = .returned (.bool ((sp && dp) && (sq && dq)))∧Bl w w':=by
 obtain ⟨c1,-,c2,-,-⟩:=B
 generalize txt p = tp at *
 generalize txt q = tq at *
 cases sp
 ·go_enter Try.func67,Try.ntmps67
  go_wp2_with ((go_at_call 47;(with_reducible refine (c2.out _).mono ?_);rintro e w' ⟨v,rfl,⟨g,c,rfl,p0,p1⟩,hb1⟩))
  refine wp_loop_rounds 3 ?_
  rw [rounds_succ]
  go_wp2_with (first | (go_at_call 46;(with_reducible refine (c1.out _).mono ?_);rintro e w' ⟨rfl,rfl⟩) | (go_at_call 46;(with_reducible refine (cp.out _).mono ?_);rintro e w' ⟨rfl,rfl⟩) | (go_at_call 42;(with_reducible refine (np.out _).mono ?_);rintro e w' ⟨rfl,rfl⟩) | (go_at_call 67;(with_reducible refine (i1.out _).mono ?_);rintro e w' ⟨rfl,hb2⟩))
  go_ret
  exact ⟨rfl,bls⟩
 ·cases dp
  ·go_enter Try.func67,Try.ntmps67
   go_wp2_with ((go_at_call 47;(with_reducible refine (c2.out _).mono ?_);rintro e w' ⟨v,rfl,⟨g,c,rfl,p0,p1⟩,hb1⟩))
   refine wp_loop_rounds 3 ?_
   rw [rounds_succ]
   go_wp2_with (first | (go_at_call 46;(with_reducible refine (c1.out _).mono ?_);rintro e w' ⟨rfl,rfl⟩) | (go_at_call 46;(with_reducible refine (cp.out _).mono ?_);rintro e w' ⟨rfl,rfl⟩) | (go_at_call 42;(with_reducible refine (np.out _).mono ?_);rintro e w' ⟨rfl,rfl⟩) | (go_at_call 67;(with_reducible refine (i1.out _).mono ?_);rintro e w' ⟨rfl,hb2⟩))
   go_ret
   exact ⟨rfl,bls⟩
  ·cases sq
   ·go_enter Try.func67,Try.ntmps67
    go_wp2_with ((go_at_call 47;(with_reducible refine (c2.out _).mono ?_);rintro e w' ⟨v,rfl,⟨g,c,rfl,p0,p1⟩,hb1⟩))
    refine wp_loop_rounds 3 ?_
    rw [rounds_succ]
    go_wp2_with (first | (go_at_call 46;(with_reducible refine (c1.out _).mono ?_);rintro e w' ⟨rfl,rfl⟩) | (go_at_call 46;(with_reducible refine (cp.out _).mono ?_);rintro e w' ⟨rfl,rfl⟩) | (go_at_call 42;(with_reducible refine (np.out _).mono ?_);rintro e w' ⟨rfl,rfl⟩) | (go_at_call 67;(with_reducible refine (i1.out _).mono ?_);rintro e w' ⟨rfl,hb2⟩))
    rw [rounds_succ]
    have p1:=cell_kept hb2 p1
    go_wp2_with (first | (go_at_call 46;(with_reducible refine (c1.out _).mono ?_);rintro e w' ⟨rfl,rfl⟩) | (go_at_call 46;(with_reducible refine (cq.out _).mono ?_);rintro e w' ⟨rfl,rfl⟩) | (go_at_call 42;(with_reducible refine (nq.out _).mono ?_);rintro e w' ⟨rfl,rfl⟩) | (go_at_call 67;(with_reducible refine (i2.out _).mono ?_);rintro e w' ⟨rfl,hb3⟩))
    go_ret
    exact ⟨rfl,bls⟩
   ·cases dq
    ·go_enter Try.func67,Try.ntmps67
     go_wp2_with ((go_at_call 47;(with_reducible refine (c2.out _).mono ?_);rintro e w' ⟨v,rfl,⟨g,c,rfl,p0,p1⟩,hb1⟩))
     refine wp_loop_rounds 3 ?_
     rw [rounds_succ]
     go_wp2_with (first | (go_at_call 46;(with_reducible refine (c1.out _).mono ?_);rintro e w' ⟨rfl,rfl⟩) | (go_at_call 46;(with_reducible refine (cp.out _).mono ?_);rintro e w' ⟨rfl,rfl⟩) | (go_at_call 42;(with_reducible refine (np.out _).mono ?_);rintro e w' ⟨rfl,rfl⟩) | (go_at_call 67;(with_reducible refine (i1.out _).mono ?_);rintro e w' ⟨rfl,hb2⟩))
     rw [rounds_succ]
     have p1:=cell_kept hb2 p1
     go_wp2_with (first | (go_at_call 46;(with_reducible refine (c1.out _).mono ?_);rintro e w' ⟨rfl,rfl⟩) | (go_at_call 46;(with_reducible refine (cq.out _).mono ?_);rintro e w' ⟨rfl,rfl⟩) | (go_at_call 42;(with_reducible refine (nq.out _).mono ?_);rintro e w' ⟨rfl,rfl⟩) | (go_at_call 67;(with_reducible refine (i2.out _).mono ?_);rintro e w' ⟨rfl,hb3⟩))
     go_ret
     exact ⟨rfl,bls⟩
    ·go_enter Try.func67,Try.ntmps67
     go_wp2_with ((go_at_call 47;(with_reducible refine (c2.out _).mono ?_);rintro e w' ⟨v,rfl,⟨g,c,rfl,p0,p1⟩,hb1⟩))
     refine wp_loop_rounds 3 ?_
     rw [rounds_succ]
     go_wp2_with (first | (go_at_call 46;(with_reducible refine (c1.out _).mono ?_);rintro e w' ⟨rfl,rfl⟩) | (go_at_call 46;(with_reducible refine (cp.out _).mono ?_);rintro e w' ⟨rfl,rfl⟩) | (go_at_call 42;(with_reducible refine (np.out _).mono ?_);rintro e w' ⟨rfl,rfl⟩) | (go_at_call 67;(with_reducible refine (i1.out _).mono ?_);rintro e w' ⟨rfl,hb2⟩))
     rw [rounds_succ]
     have p1:=cell_kept hb2 p1
     go_wp2_with (first | (go_at_call 46;(with_reducible refine (c1.out _).mono ?_);rintro e w' ⟨rfl,rfl⟩) | (go_at_call 46;(with_reducible refine (cq.out _).mono ?_);rintro e w' ⟨rfl,rfl⟩) | (go_at_call 42;(with_reducible refine (nq.out _).mono ?_);rintro e w' ⟨rfl,rfl⟩) | (go_at_call 67;(with_reducible refine (i2.out _).mono ?_);rintro e w' ⟨rfl,hb3⟩))
     rw [rounds_succ]
     go_wp2_with fail
     go_ret
     exact ⟨rfl,bls⟩
theorem grd_38 (l:Str) (p q:Tm) (dp dq:Bool) (w:World) (B:BinL l 38 p q)
  (i1:Hid (∀ w,Calls Try.prog 67 #[.string (S (txt p))] w fun e w'=>e = .returned (.bool dp)∧Bl w w'))
  (i2:Hid (∀ w,Calls Try.prog 67 #[.string (S (txt q))] w fun e w'=>e = .returned (.bool dq)∧Bl w w')):
  Calls Try.prog 67 #[.string (S l)] w fun e w'=>e = .returned (.bool (dp && dq))∧Bl w w':=by
 obtain ⟨c1,-,c2,-,-⟩:=B
 generalize txt p = tp at *
 generalize txt q = tq at *
 cases dp
 ·go_enter Try.func67,Try.ntmps67
  go_wp2_with ((go_at_call 47;(with_reducible refine (c2.out _).mono ?_);rintro e w' ⟨v,rfl,⟨g,c,rfl,p0,p1⟩,hb1⟩))
  refine wp_loop_rounds 3 ?_
  rw [rounds_succ]
  go_wp2_with (first | (go_at_call 46;(with_reducible refine (c1.out _).mono ?_);rintro e w' ⟨rfl,rfl⟩) | (go_at_call 67;(with_reducible refine (i1.out _).mono ?_);rintro e w' ⟨rfl,hb2⟩))
  go_ret
  exact ⟨rfl,bls⟩
 ·cases dq
  ·go_enter Try.func67,Try.ntmps67
   go_wp2_with ((go_at_call 47;(with_reducible refine (c2.out _).mono ?_);rintro e w' ⟨v,rfl,⟨g,c,rfl,p0,p1⟩,hb1⟩))
   refine wp_loop_rounds 3 ?_
   rw [rounds_succ]
   go_wp2_with (first | (go_at_call 46;(with_reducible refine (c1.out _).mono ?_);rintro e w' ⟨rfl,rfl⟩) | (go_at_call 67;(with_reducible refine (i1.out _).mono ?_);rintro e w' ⟨rfl,hb2⟩))
   rw [rounds_succ]
   have p1:=cell_kept hb2 p1
   go_wp2_with (first | (go_at_call 46;(with_reducible refine (c1.out _).mono ?_);rintro e w' ⟨rfl,rfl⟩) | (go_at_call 67;(with_reducible refine (i2.out _).mono ?_);rintro e w' ⟨rfl,hb3⟩))
   go_ret
   exact ⟨rfl,bls⟩
  ·go_enter Try.func67,Try.ntmps67
   go_wp2_with ((go_at_call 47;(with_reducible refine (c2.out _).mono ?_);rintro e w' ⟨v,rfl,⟨g,c,rfl,p0,p1⟩,hb1⟩))
   refine wp_loop_rounds 3 ?_
   rw [rounds_succ]
   go_wp2_with (first | (go_at_call 46;(with_reducible refine (c1.out _).mono ?_);rintro e w' ⟨rfl,rfl⟩) | (go_at_call 67;(with_reducible refine (i1.out _).mono ?_);rintro e w' ⟨rfl,hb2⟩))
   rw [rounds_succ]
   have p1:=cell_kept hb2 p1
   go_wp2_with (first | (go_at_call 46;(with_reducible refine (c1.out _).mono ?_);rintro e w' ⟨rfl,rfl⟩) | (go_at_call 67;(with_reducible refine (i2.out _).mono ?_);rintro e w' ⟨rfl,hb3⟩))
   rw [rounds_succ]
   go_wp2_with fail
   go_ret
   exact ⟨rfl,bls⟩
theorem inp_bin (l:Str) (k:UInt8) (hk:k = 43∨k = 38) (p q:Tm) (dp dq:Bool) (w:World) (B:BinL l k p q)
  (i1:Hid (∀ w,Calls Try.prog 68 #[.string (S (txt p))] w fun e w'=>e = .returned (.bool dp)∧Bl w w'))
  (i2:Hid (∀ w,Calls Try.prog 68 #[.string (S (txt q))] w fun e w'=>e = .returned (.bool dq)∧Bl w w')):
  Calls Try.prog 68 #[.string (S l)] w fun e w'=>e = .returned (.bool (dp && dq))∧Bl w w':=by
 obtain ⟨c1,-,c2,-,-⟩:=B
 generalize txt p = tp at *
 generalize txt q = tq at *
 rcases hk with rfl | rfl
 all_goals
  cases dp
  ·go_enter Try.func68,Try.ntmps68
   go_wp2_with ((go_at_call 47;(with_reducible refine (c2.out _).mono ?_);rintro e w' ⟨v,rfl,⟨g,c,rfl,p0,p1⟩,hb1⟩))
   refine wp_loop_rounds 3 ?_
   rw [rounds_succ]
   go_wp2_with (first | (go_at_call 46;(with_reducible refine (c1.out _).mono ?_);rintro e w' ⟨rfl,rfl⟩) | (go_at_call 68;(with_reducible refine (i1.out _).mono ?_);rintro e w' ⟨rfl,hb2⟩))
   go_ret
   exact ⟨rfl,bls⟩
  ·cases dq
   ·go_enter Try.func68,Try.ntmps68
    go_wp2_with ((go_at_call 47;(with_reducible refine (c2.out _).mono ?_);rintro e w' ⟨v,rfl,⟨g,c,rfl,p0,p1⟩,hb1⟩))
    refine wp_loop_rounds 3 ?_
    rw [rounds_succ]
    go_wp2_with (first | (go_at_call 46;(with_reducible refine (c1.out _).mono ?_);rintro e w' ⟨rfl,rfl⟩) | (go_at_call 68;(with_reducible refine (i1.out _).mono ?_);rintro e w' ⟨rfl,hb2⟩))
    rw [rounds_succ]
    have p1:=cell_kept hb2 p1
    go_wp2_with (first | (go_at_call 46;(with_reducible refine (c1.out _).mono ?_);rintro e w' ⟨rfl,rfl⟩) | (go_at_call 68;(with_reducible refine (i2.out _).mono ?_);rintro e w' ⟨rfl,hb3⟩))
    go_ret
    exact ⟨rfl,bls⟩
   ·go_enter Try.func68,Try.ntmps68
    go_wp2_with ((go_at_call 47;(with_reducible refine (c2.out _).mono ?_);rintro e w' ⟨v,rfl,⟨g,c,rfl,p0,p1⟩,hb1⟩))
    refine wp_loop_rounds 3 ?_
    rw [rounds_succ]
    go_wp2_with (first | (go_at_call 46;(with_reducible refine (c1.out _).mono ?_);rintro e w' ⟨rfl,rfl⟩) | (go_at_call 68;(with_reducible refine (i1.out _).mono ?_);rintro e w' ⟨rfl,hb2⟩))
    rw [rounds_succ]
    have p1:=cell_kept hb2 p1
    go_wp2_with (first | (go_at_call 46;(with_reducible refine (c1.out _).mono ?_);rintro e w' ⟨rfl,rfl⟩) | (go_at_call 68;(with_reducible refine (i2.out _).mono ?_);rintro e w' ⟨rfl,hb3⟩))
    rw [rounds_succ]
    go_wp2_with fail
    go_ret
    exact ⟨rfl,bls⟩
theorem grd_d (t:Tm):∀ (w:World),t.ok wideB = true→Short (txt t)→
  Calls Try.prog 67 #[.string (S (txt t))] w fun e w'=>e = .returned (.bool (grdT t))∧Bl w w':=by
 induction t with
 | zero=>intro w _ _;exact grd_zero w
 | un k a b p ih0=>
   intro w hk hs
   simp only [Tm.ok,Bool.and_eq_true] at hk
   have h2:Short (txt p):=by unfold Short at *;simp only [txt,List.length_append] at hs;omega
   exact grd_un _ k a b p _ w (unL k a b p hk.1) hk.1 (hide fun w=>ih0 w hk.2 h2)
 | bin k p q ih1 ih2=>
   intro w hk hs
   simp only [Tm.ok,Bool.and_eq_true,Bool.or_eq_true,beq_iff_eq] at hk
   have h2:Short (txt p)∧Short (txt q):=by unfold Short at *;simp only [txt,List.length_cons,List.length_append] at hs;omega
   have B:=binL k p q hk.1 hk.2.1 hs
   have i1:=hide fun w=>ih1 w hk.2.1 h2.1
   have i2:=hide fun w=>ih2 w hk.2.2 h2.2
   rcases hk.1 with rfl | rfl
   ·have hS:Short [33,63,126,43,48]:=by unfold Short;decide
    exact grd_43 _ p q (sumB p.kind) (grdT p) (sumB q.kind) (grdT q) p.kind q.kind w B (hide fun w=>tmKind_c p w hk.2.1 h2.1) (hide fun w=>tmKind_c q w hk.2.2 h2.2) (hide fun w=>tmIn_c _ p.kind w hS) (hide fun w=>tmIn_c _ q.kind w hS) i1 i2
   ·exact grd_38 _ p q _ _ w B i1 i2
theorem inp_d (t:Tm):∀ (w:World),t.ok wideB = true→Short (txt t)→
  Calls Try.prog 68 #[.string (S (txt t))] w fun e w'=>e = .returned (.bool (inpT t))∧Bl w w':=by
 induction t with
 | zero=>intro w _ _;exact inp_zero w
 | un k a b p ih0=>
   intro w hk hs
   simp only [Tm.ok,Bool.and_eq_true] at hk
   have h2:Short (txt p):=by unfold Short at *;simp only [txt,List.length_append] at hs;omega
   have ih:=hide fun w=>ih0 w hk.2 h2
   simp only [inpT]
   by_cases h:k = 42
   ·subst h
    rw [if_pos rfl]
    have h63:((p.kind.toNat:Int)== 63)= decide (p.kind = 63):=by
     rw [Bool.eq_iff_iff]
     simp only [beq_iff_eq,decide_eq_true_eq]
     constructor
     ·intro h;exact UInt8.toNat_inj.1 (by show p.kind.toNat = 63;omega)
     ·intro h;rw [h];rfl
    exact inp_42 _ a b p _ _ p.kind w (unL 42 a b p hk.1) h63 (by rw [bne,h63]) (hide fun w=>tmKind_c p w hk.2 h2) ih
   ·rw [if_neg h]
    exact inp_un _ k a b p _ w (unL k a b p hk.1) hk.1 h ih
 | bin k p q ih1 ih2=>
   intro w hk hs
   simp only [Tm.ok,Bool.and_eq_true,Bool.or_eq_true,beq_iff_eq] at hk
   have h2:Short (txt p)∧Short (txt q):=by unfold Short at *;simp only [txt,List.length_cons,List.length_append] at hs;omega
   exact inp_bin _ k hk.1 p q _ _ w (binL k p q hk.1 hk.2.1 hs) (hide fun w=>ih1 w hk.2.1 h2.1) (hide fun w=>ih2 w hk.2.2 h2.2)
def smpB (t:Tm):Bool:=grdT t && inpT t
theorem tmSimple_c (t:Tm) (w:World) (hk:t.ok wideB = true) (hs:Short (txt t)):Calls Try.prog 38 #[.string (S (txt t))] w fun e w'=>e = .returned (.bool (smpB t))∧Bl w w':=by
 have c1:=hide fun w=>grd_d t w hk hs
 have c2:=hide fun w=>inp_d t w hk hs
 unfold smpB
 clear hk hs
 generalize grdT t = a at *
 generalize inpT t = b at *
 generalize txt t = l at *
 cases a
 ·go_enter Try.func38,Try.ntmps38
  go_wp2_with ((go_at_call 67;(with_reducible refine (c1.out _).mono ?_);rintro e w' ⟨rfl,hb1⟩))
  go_ret
  exact ⟨rfl,hb1⟩
 ·go_enter Try.func38,Try.ntmps38
  go_wp2_with (first | (go_at_call 67;(with_reducible refine (c1.out _).mono ?_);rintro e w' ⟨rfl,hb1⟩) | (go_at_call 68;(with_reducible refine (c2.out _).mono ?_);rintro e w' ⟨rfl,hb2⟩))
  go_ret
  exact ⟨rfl,hb1.trans hb2⟩
end Go.Proofs.Ytmmnnhaecjpfdaa
