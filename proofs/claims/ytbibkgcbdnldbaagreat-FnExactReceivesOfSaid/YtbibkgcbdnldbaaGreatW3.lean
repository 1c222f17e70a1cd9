/- Lemmas for the laws of this seat (my texts, put together), part 3. -/
import Derived.Test.YtbibkgcbdnldbaaGreatW2
set_option maxRecDepth 100000
set_option maxHeartbeats 2000000
set_option linter.unusedVariables false
set_option linter.unusedSimpArgs false
namespace Go.Proofs.YtbibkgcbdnldbaaGreat
open Go.RowKit
attribute [local go_sem] S_size S_toList S_lit S_get S_extract S_append drop_all
structure Byt (w:World) (g:Nat) (xs:Str):Prop where
 c:∀ (j:Nat) (x:UInt8),xs[j]? = some x→w.cell? ⟨g,j,none⟩= some (.int .u8 x.toNat)
 z:∀ (j:Nat) (x:UInt8),xs[j]? = some x→w.frozen? ⟨g,j,none⟩= false
theorem Byt.bl {w w':World} (hb:Bl w w') {g:Nat} {xs:Str} (h:Byt w g xs):Byt w' g xs:=
 ⟨fun j x hj=>cell_kept hb (h.c j x hj),fun j x hj=>by rw [Below.frozen hb (cell_lt (h.c j x hj))];exact h.z j x hj⟩
theorem Byt.drew {w:World} {g:Nat} {xs:Str} (h:Byt w g xs):Byt w.drew g xs:=⟨h.c,h.z⟩
theorem Byt.set {w:World} {g:Nat} {xs:Str} (h:Byt w g xs) (i:Nat) (v y:UInt8) (hi:xs[i]? = some y):Byt (w.setCell ⟨g,i,none⟩ (.int .u8 v.toNat)) g (xs.set i v):=by
 refine ⟨fun j x hj=>?_,fun j x hj=>?_⟩
 ·rw [List.getElem?_set] at hj
  split at hj
  ·rename_i e;subst e
   split at hj
   ·obtain rfl:=Option.some.inj hj
    exact World.cell?_setCell_same _ _ _ (h.c _ _ hi)
   ·cases hj
  ·rename_i e
   rw [World.cell?_setCell_other _ _ _ _ (by simp [e])];exact h.c j x hj
 ·rw [List.getElem?_set] at hj
  have:w.frozen? ⟨g,j,none⟩= false:=by
   split at hj
   ·rename_i e;subst e
    exact h.z _ _ hi
   ·exact h.z j x hj
  simp [this]
theorem Byt.conv {w:World} {g:Nat} {xs:Str} (h:Byt w g xs) (n:Nat) (hn:n = xs.length) (c:Nat):(convert 114 9 (.slice (some ⟨g,0,none⟩) n c)).run Tryz.prog w = .ok (.string (S xs)) w:=by
 subst hn
 exact conv_at w g c xs (fun j hj=>h.c j _ (List.getElem?_eq_getElem hj))
def bc (w:World) (l:Str):Nat:=grownCap w (S l).size 0 5
def bw (w:World) (l:Str):World:=w.drew.alloc (.cells (bytesRow (S l) (bc w l)) 5 ((bytesRow (S l) (bc w l)).size,(bytesRow (S l) (bc w l)).size + 1))
theorem conv_bytes (w:World) (l:Str):(convert 9 114 (.string (S l))).run Tryz.prog w = .ok (.slice (some ⟨w.heap.size,0,none⟩) l.length (bc w l)) (bw w l):=by
 have:=run_bytes_of_string (P:=Tryz.prog) w 9 114 5 (S l) Tryz.underlying9 Tryz.underlying114 Tryz.underlying5
 rw [this,S_size];rfl
theorem bw_bl (w:World) (l:Str):Bl w (bw w l):=(bl_drew (Bl.refl w)).trans (bl_alloc _ _)
theorem bw_byt (w:World) (l:Str):Byt (bw w l) w.heap.size l:=by
 have hb:(bw w l).heap[w.heap.size]? = some (.cells (bytesRow (S l) (bc w l)) 5 ((bytesRow (S l) (bc w l)).size,(bytesRow (S l) (bc w l)).size + 1)):=by
  show (w.heap.push _)[w.heap.size]? = _
  simp
 have hx:∀ (j:Nat) (x:UInt8),l[j]? = some x→(bytesRow (S l) (bc w l))[j]? = some (.int .u8 x.toNat):=by
  intro j x hj
  obtain ⟨hlt,rfl⟩:=List.getElem?_eq_some_iff.1 hj
  have:=bytesRow_at (S l) (bc w l) j (by simpa [S] using hlt)
  simpa [S] using this
 refine ⟨fun j x hj=>?_,fun j x hj=>?_⟩
 ·rw [cell_of_row _ _ _ _ _ _ hb];exact hx j x hj
 ·have hlt:j < (bytesRow (S l) (bc w l)).size:=by
   have:=hx j x hj
   obtain ⟨h,_⟩:=Array.getElem?_eq_some_iff.1 this
   exact h
  unfold World.frozen?;rw [hb];simp;omega
attribute [local go_sem] conv_bytes
theorem bw_in (w:World) (l:Str):w.heap.size < (bw w l).heap.size:=by
 show _ < (w.heap.push _).size
 simp
theorem hd_len (k a b a' b':UInt8):(hd k a b).length = (hd k a' b').length:=by
 unfold hd
 by_cases h1:k = 42 <;> by_cases h2:k = 126 <;> by_cases h3:k = 35 <;> by_cases h4:k = 61 <;> simp [h1,h2,h3,h4]
theorem ren_len:∀ (d:Nat) (t:Tm) (x y:UInt8),(txt (renF d t x y)).length = (txt t).length
 | 0,_,_,_=>rfl
 | d + 1, t, x, y => by
   unfold renF
   split
   ·rfl
   ·split
    ·rfl
    ·rename_i k a b p hnc
     split
     ·simp only [txt,List.length_append]
      have h1:∀ q,(txt q).length = (txt p).length→(txt (if (if capB b x y p = true then capC x y p else b)= x then q else renF d q x y)).length = (txt p).length:=by
       intro q hq
       by_cases hbx:(if capB b x y p = true then capC x y p else b)= x
       ·rw [if_pos hbx];exact hq
       ·rw [if_neg hbx,ren_len d];exact hq
      rw [h1]
      ·rw [hd_len k _ _ a b]
      ·split
       ·rw [ren_len d]
       ·rfl
     ·split
      ·simp only [txt,List.length_append,ren_len d];rw [hd_len k _ _ a b]
      ·simp only [txt,List.length_append,ren_len d]
    ·simp only [txt,List.length_append,List.length_cons,ren_len d]
theorem tmRename_id (l:Str) (t:Tm) (x y:UInt8) (w:World) (hl:Hid (l = txt t)) (hk:t.ok wideB = true) (hs:Short l) (h:x = y∨x∉fvS t):
  Calls Tryz.prog 121 #[.string (S l),.int .u8 x.toNat,.int .u8 y.toNat] w fun e w'=>e = .returned (.string (S l))∧Bl w w':=by
 have c1:=hide fun w=>tmFree_c t w hk (by rw [← hl.out];exact hs)
 rw [← hl.out] at c1
 have hf:=fvS_len t
 have c2:=hide fun w=>tmIn_c (fvS t) x w (by unfold Short;omega)
 by_cases hxy:x = y
 ·subst hxy
  clear c1 c2 h hk
  go_enter Tryz.func121,Tryz.ntmps121
  go_wp2_with fail
  go_ret
  exact ⟨rfl,Bl.refl _⟩
 ·have h1:=ne_int hxy
  have h2:decide (x∈fvS t)= false:=by simpa using h.resolve_left hxy
  rw [h2] at c2
  generalize fvS t = f at c1 c2
  clear h hxy h2
  go_enter Tryz.func121,Tryz.ntmps121
  go_wp2_with (first | (go_at_call 84;(with_reducible refine (c1.out _).mono ?_);rintro e w' ⟨rfl,hb⟩) | (go_at_call 100;(with_reducible refine (c2.out _).mono ?_);rintro e w' ⟨rfl,rfl⟩))
  go_ret
  exact ⟨rfl,bls⟩
theorem bl_set {w w':World} (h:Bl w w') {g i:Nat} {v:Value} (hg:w.heap.size≤g):Bl w (w'.setCell ⟨g,i,none⟩ v):=Below.setCell h hg v
theorem bl_set2 {w w':World} (h:Bl w w') {g i j:Nat} {v u:Value} (hg:w.heap.size≤g):Bl w ((w'.setCell ⟨g,i,none⟩ v).setCell ⟨g,j,none⟩ u):=bl_set (bl_set h hg) hg
theorem tmRename_33 (l f:Str) (a b x y:UInt8) (p:Tm) (r:Str) (w:World) (U:UnL l 33 a b p) (hk:okhd wideB 33 a b = true) (hs:l.length≤1000000) (hxy:x≠y)
  (c1:Hid (∀ w,Calls Tryz.prog 84 #[.string (S l)] w fun e w'=>e = .returned (.string (S f))∧Bl w w'))
  (c2:Hid (∀ w,Calls Tryz.prog 100 #[.string (S f),.int .u8 x.toNat] w fun e w'=>e = .returned (.bool true)∧w = w')) (hr:r.length≤1000000)
  (ih:Hid (∀ w,Calls Tryz.prog 121 #[.string (S (txt p)),.int .u8 x.toNat,.int .u8 y.toNat] w fun e w'=>e = .returned (.string (S r))∧Bl w w')):
  Calls Tryz.prog 121 #[.string (S l),.int .u8 x.toNat,.int .u8 y.toNat] w fun e w'=>e = .returned (.string (S ([(sw a x y),33,(sw b x y),46] ++ r)))∧Bl w w':=by
 obtain ⟨k1,k2,-,k4,he⟩:=U
 have h1:=ne_int hxy
 have hl:l = a :: 33 :: b :: 46 :: txt p:=by rw [he.out];simp [txt,hd]
 have n1:(4:Int)≤l.length:=by have:=congrArg List.length hl;simp only [List.length_cons] at this;omega
 have t1:List.take 4 l = [a,33,b,46]:=by rw [hl];rfl
 have t2:List.drop 4 l = txt p:=by rw [hl];rfl
 have t3:List.take (List.length l - 4) (txt p)= txt p:=by rw [hl];simp
 have k4:Hid (∀ w,Calls Tryz.prog 131 #[.string (S l)] w fun e w'=>e = .returned (.tuple #[.int .u8 0,.bool false])∧w = w'):=k4
 have k2:Hid (∀ w,Calls Tryz.prog 167 #[.string (S l)] w fun e w'=>e = .returned (.int .i64 4)∧w = w'):=k2
 have s1:=hide fun w=>tmSwap_c a x y w
 have s2:=hide fun w=>tmSwap_c b x y w
 generalize sw a x y = a' at s1
 generalize sw b x y = b' at s2
 generalize txt p = tp at *
 have hB:=fun (w:World)=>bw_byt w [a,33,b,46]
 have hBl:=fun (w:World)=>bw_bl w [a,33,b,46]
 have hin:=fun (w:World)=>bw_in w [a,33,b,46]
 clear hl he hk hxy
 go_enter Tryz.func121,Tryz.ntmps121
 go_wp2_with (first | (go_at_call 84;(with_reducible refine (c1.out _).mono ?_);rintro e w' ⟨rfl,hb⟩;(have f0:=(hB w').c 0 a rfl;have f2:=(hB w').c 2 b rfl;have z0:=(hB w').z 0 a rfl;have z2:=(hB w').z 2 b rfl)) | (go_at_call 100;(with_reducible refine (c2.out _).mono ?_);rintro e w' ⟨rfl,rfl⟩) | (go_at_call 167;(with_reducible refine (k2.out _).mono ?_);rintro e w' ⟨rfl,rfl⟩) | (go_at_call 131;(with_reducible refine (k4.out _).mono ?_);rintro e w' ⟨rfl,rfl⟩) | (go_at_call 129;(with_reducible refine (k1.out _).mono ?_);rintro e w' ⟨rfl,rfl⟩) | (go_at_call 169;first | ((with_reducible refine (s1.out _).mono ?_);rintro e w1 ⟨rfl,rfl⟩) | ((with_reducible refine (s2.out _).mono ?_);rintro e w1 ⟨rfl,rfl⟩)))
 have HB:=((hB w').set 0 a' a rfl).set 2 b' b rfl
 have HL:Bl w (((bw w' [a,33,b,46]).setCell ⟨w'.heap.size,0,none⟩ (.int .u8 a'.toNat)).setCell ⟨w'.heap.size,2,none⟩ (.int .u8 b'.toNat)):=bl_set2 (hb.trans (hBl w')) (Below.size hb)
 generalize bc w' [a,33,b,46] = cp
 generalize ((bw w' [a,33,b,46]).setCell ⟨w'.heap.size,0,none⟩ (.int .u8 a'.toNat)).setCell ⟨w'.heap.size,2,none⟩ (.int .u8 b'.toNat)= W at HB HL
 generalize w'.heap.size = g at *
 clear f0 f2 z0 z2 hB hBl hin
 have hcv:=(Byt.drew HB).conv 4 rfl cp
 have HB:=hide HB
 go_region_with (go_at_call 121;(with_reducible refine (ih.out _).mono ?_);rintro e w2 ⟨rfl,hb2⟩;have hcv2:=(HB.out.drew.bl hb2).conv 4 rfl cp)
 all_goals
  go_wp2_with fail
  go_ret
  exact ⟨rfl,bls⟩
theorem tmRename_61 (l f:Str) (a b x y:UInt8) (p:Tm) (r:Str) (w:World) (U:UnL l 61 a b p) (hk:okhd wideB 61 a b = true) (hs:l.length≤1000000) (hxy:x≠y)
  (c1:Hid (∀ w,Calls Tryz.prog 84 #[.string (S l)] w fun e w'=>e = .returned (.string (S f))∧Bl w w'))
  (c2:Hid (∀ w,Calls Tryz.prog 100 #[.string (S f),.int .u8 x.toNat] w fun e w'=>e = .returned (.bool true)∧w = w')) (hr:r.length≤1000000)
  (ih:Hid (∀ w,Calls Tryz.prog 121 #[.string (S (txt p)),.int .u8 x.toNat,.int .u8 y.toNat] w fun e w'=>e = .returned (.string (S r))∧Bl w w')):
  Calls Tryz.prog 121 #[.string (S l),.int .u8 x.toNat,.int .u8 y.toNat] w fun e w'=>e = .returned (.string (S ([91,(sw a x y),61,(sw b x y),93] ++ r)))∧Bl w w':=by
 obtain ⟨k1,k2,-,k4,he⟩:=U
 have h1:=ne_int hxy
 have hl:l = 91 :: a :: 61 :: b :: 93 :: txt p:=by rw [he.out];simp [txt,hd]
 have n1:(5:Int)≤l.length:=by have:=congrArg List.length hl;simp only [List.length_cons] at this;omega
 have t1:List.take 5 l = [91,a,61,b,93]:=by rw [hl];rfl
 have t2:List.drop 5 l = txt p:=by rw [hl];rfl
 have t3:List.take (List.length l - 5) (txt p)= txt p:=by rw [hl];simp
 have k4:Hid (∀ w,Calls Tryz.prog 131 #[.string (S l)] w fun e w'=>e = .returned (.tuple #[.int .u8 0,.bool false])∧w = w'):=k4
 have k2:Hid (∀ w,Calls Tryz.prog 167 #[.string (S l)] w fun e w'=>e = .returned (.int .i64 5)∧w = w'):=k2
 have s1:=hide fun w=>tmSwap_c a x y w
 have s2:=hide fun w=>tmSwap_c b x y w
 generalize sw a x y = a' at s1
 generalize sw b x y = b' at s2
 generalize txt p = tp at *
 have hB:=fun (w:World)=>bw_byt w [91,a,61,b,93]
 have hBl:=fun (w:World)=>bw_bl w [91,a,61,b,93]
 have hin:=fun (w:World)=>bw_in w [91,a,61,b,93]
 clear hl he hk hxy
 go_enter Tryz.func121,Tryz.ntmps121
 go_wp2_with (first | (go_at_call 84;(with_reducible refine (c1.out _).mono ?_);rintro e w' ⟨rfl,hb⟩;(have f0:=(hB w').c 1 a rfl;have f2:=(hB w').c 3 b rfl;have z0:=(hB w').z 1 a rfl;have z2:=(hB w').z 3 b rfl)) | (go_at_call 100;(with_reducible refine (c2.out _).mono ?_);rintro e w' ⟨rfl,rfl⟩) | (go_at_call 167;(with_reducible refine (k2.out _).mono ?_);rintro e w' ⟨rfl,rfl⟩) | (go_at_call 131;(with_reducible refine (k4.out _).mono ?_);rintro e w' ⟨rfl,rfl⟩) | (go_at_call 129;(with_reducible refine (k1.out _).mono ?_);rintro e w' ⟨rfl,rfl⟩) | (go_at_call 169;first | ((with_reducible refine (s1.out _).mono ?_);rintro e w1 ⟨rfl,rfl⟩) | ((with_reducible refine (s2.out _).mono ?_);rintro e w1 ⟨rfl,rfl⟩)))
 have HB:=((hB w').set 1 a' a rfl).set 3 b' b rfl
 have HL:Bl w (((bw w' [91,a,61,b,93]).setCell ⟨w'.heap.size,1,none⟩ (.int .u8 a'.toNat)).setCell ⟨w'.heap.size,3,none⟩ (.int .u8 b'.toNat)):=bl_set2 (hb.trans (hBl w')) (Below.size hb)
 generalize bc w' [91,a,61,b,93] = cp
 generalize ((bw w' [91,a,61,b,93]).setCell ⟨w'.heap.size,1,none⟩ (.int .u8 a'.toNat)).setCell ⟨w'.heap.size,3,none⟩ (.int .u8 b'.toNat)= W at HB HL
 generalize w'.heap.size = g at *
 clear f0 f2 z0 z2 hB hBl hin
 have hcv:=(Byt.drew HB).conv 5 rfl cp
 have HB:=hide HB
 go_region_with (go_at_call 121;(with_reducible refine (ih.out _).mono ?_);rintro e w2 ⟨rfl,hb2⟩;have hcv2:=(HB.out.drew.bl hb2).conv 5 rfl cp)
 all_goals
  go_wp2_with fail
  go_ret
  exact ⟨rfl,bls⟩
theorem tmRename_42 (l f:Str) (a b x y:UInt8) (p:Tm) (r:Str) (w:World) (U:UnL l 42 a b p) (hk:okhd wideB 42 a b = true) (hs:l.length≤1000000) (hxy:x≠y)
  (c1:Hid (∀ w,Calls Tryz.prog 84 #[.string (S l)] w fun e w'=>e = .returned (.string (S f))∧Bl w w'))
  (c2:Hid (∀ w,Calls Tryz.prog 100 #[.string (S f),.int .u8 x.toNat] w fun e w'=>e = .returned (.bool true)∧w = w')) (hr:r.length≤1000000)
  (ih:Hid (∀ w,Calls Tryz.prog 121 #[.string (S (txt p)),.int .u8 x.toNat,.int .u8 y.toNat] w fun e w'=>e = .returned (.string (S r))∧Bl w w')):
  Calls Tryz.prog 121 #[.string (S l),.int .u8 x.toNat,.int .u8 y.toNat] w fun e w'=>e = .returned (.string (S ([42] ++ r)))∧Bl w w':=by
 obtain ⟨k1,k2,-,k4,he⟩:=U
 have h1:=ne_int hxy
 have hl:l = 42 :: txt p:=by rw [he.out];simp [txt,hd]
 have n1:(1:Int)≤l.length:=by have:=congrArg List.length hl;simp only [List.length_cons] at this;omega
 have t1:List.take 1 l = [42]:=by rw [hl];rfl
 have t2:List.drop 1 l = txt p:=by rw [hl];rfl
 have t3:List.take (List.length l - 1) (txt p)= txt p:=by rw [hl];simp
 have k4:Hid (∀ w,Calls Tryz.prog 131 #[.string (S l)] w fun e w'=>e = .returned (.tuple #[.int .u8 0,.bool false])∧w = w'):=k4
 have k2:Hid (∀ w,Calls Tryz.prog 167 #[.string (S l)] w fun e w'=>e = .returned (.int .i64 1)∧w = w'):=k2
 generalize txt p = tp at *
 have hB:=fun (w:World)=>bw_byt w [42]
 have hBl:=fun (w:World)=>bw_bl w [42]
 have hin:=fun (w:World)=>bw_in w [42]
 clear hl he hk hxy
 go_enter Tryz.func121,Tryz.ntmps121
 go_wp2_with (first | (go_at_call 84;(with_reducible refine (c1.out _).mono ?_);rintro e w' ⟨rfl,hb⟩) | (go_at_call 100;(with_reducible refine (c2.out _).mono ?_);rintro e w' ⟨rfl,rfl⟩) | (go_at_call 167;(with_reducible refine (k2.out _).mono ?_);rintro e w' ⟨rfl,rfl⟩) | (go_at_call 131;(with_reducible refine (k4.out _).mono ?_);rintro e w' ⟨rfl,rfl⟩) | (go_at_call 129;(with_reducible refine (k1.out _).mono ?_);rintro e w' ⟨rfl,rfl⟩))
 have HB:=hB w'
 have HL:Bl w (bw w' [42]):=hb.trans (hBl w')
 generalize bc w' [42] = cp
 generalize bw w' [42] = W at HB HL
 generalize w'.heap.size = g at *
 clear hB hBl hin
 have hcv:=(Byt.drew HB).conv 1 rfl cp
 have HB:=hide HB
 go_region_with (go_at_call 121;(with_reducible refine (ih.out _).mono ?_);rintro e w2 ⟨rfl,hb2⟩;have hcv2:=(HB.out.drew.bl hb2).conv 1 rfl cp)
 all_goals
  go_wp2_with fail
  go_ret
  exact ⟨rfl,bls⟩
theorem tmRename_126 (l f:Str) (a b x y:UInt8) (p:Tm) (r:Str) (w:World) (U:UnL l 126 a b p) (hk:okhd wideB 126 a b = true) (hs:l.length≤1000000) (hxy:x≠y)
  (c1:Hid (∀ w,Calls Tryz.prog 84 #[.string (S l)] w fun e w'=>e = .returned (.string (S f))∧Bl w w'))
  (c2:Hid (∀ w,Calls Tryz.prog 100 #[.string (S f),.int .u8 x.toNat] w fun e w'=>e = .returned (.bool true)∧w = w')) (hr:r.length≤1000000)
  (ih:Hid (∀ w,Calls Tryz.prog 121 #[.string (S (txt p)),.int .u8 x.toNat,.int .u8 y.toNat] w fun e w'=>e = .returned (.string (S r))∧Bl w w')):
  Calls Tryz.prog 121 #[.string (S l),.int .u8 x.toNat,.int .u8 y.toNat] w fun e w'=>e = .returned (.string (S ([126,46] ++ r)))∧Bl w w':=by
 obtain ⟨k1,k2,-,k4,he⟩:=U
 have h1:=ne_int hxy
 have hl:l = 126 :: 46 :: txt p:=by rw [he.out];simp [txt,hd]
 have n1:(2:Int)≤l.length:=by have:=congrArg List.length hl;simp only [List.length_cons] at this;omega
 have t1:List.take 2 l = [126,46]:=by rw [hl];rfl
 have t2:List.drop 2 l = txt p:=by rw [hl];rfl
 have t3:List.take (List.length l - 2) (txt p)= txt p:=by rw [hl];simp
 have k4:Hid (∀ w,Calls Tryz.prog 131 #[.string (S l)] w fun e w'=>e = .returned (.tuple #[.int .u8 0,.bool false])∧w = w'):=k4
 have k2:Hid (∀ w,Calls Tryz.prog 167 #[.string (S l)] w fun e w'=>e = .returned (.int .i64 2)∧w = w'):=k2
 generalize txt p = tp at *
 have hB:=fun (w:World)=>bw_byt w [126,46]
 have hBl:=fun (w:World)=>bw_bl w [126,46]
 have hin:=fun (w:World)=>bw_in w [126,46]
 clear hl he hk hxy
 go_enter Tryz.func121,Tryz.ntmps121
 go_wp2_with (first | (go_at_call 84;(with_reducible refine (c1.out _).mono ?_);rintro e w' ⟨rfl,hb⟩) | (go_at_call 100;(with_reducible refine (c2.out _).mono ?_);rintro e w' ⟨rfl,rfl⟩) | (go_at_call 167;(with_reducible refine (k2.out _).mono ?_);rintro e w' ⟨rfl,rfl⟩) | (go_at_call 131;(with_reducible refine (k4.out _).mono ?_);rintro e w' ⟨rfl,rfl⟩) | (go_at_call 129;(with_reducible refine (k1.out _).mono ?_);rintro e w' ⟨rfl,rfl⟩))
 have HB:=hB w'
 have HL:Bl w (bw w' [126,46]):=hb.trans (hBl w')
 generalize bc w' [126,46] = cp
 generalize bw w' [126,46] = W at HB HL
 generalize w'.heap.size = g at *
 clear hB hBl hin
 have hcv:=(Byt.drew HB).conv 2 rfl cp
 have HB:=hide HB
 go_region_with (go_at_call 121;(with_reducible refine (ih.out _).mono ?_);rintro e w2 ⟨rfl,hb2⟩;have hcv2:=(HB.out.drew.bl hb2).conv 2 rfl cp)
 all_goals
  go_wp2_with fail
  go_ret
  exact ⟨rfl,bls⟩
end Go.Proofs.YtbibkgcbdnldbaaGreat
namespace Go.Proofs.YtbibkgcbdnldbaaGreat
open Go.RowKit
abbrev strV (s:Str):Value:=.string (S s)
def SL (w:World) (base:Nat) (v:Value) (xs:List Str):Prop:=w.ownsRow base 9 1 v xs.length (xs.map strV)
theorem SL.nil (w:World) (base:Nat):SL w base (.slice none 0 0) []:=World.ownsRow_nil _ _ _ _
theorem SL.mono {w:World} {base b2:Nat} {v:Value} {xs:List Str} (h:SL w base v xs) (hb:b2≤base):SL w b2 v xs:=
 ⟨h.1,h.2.imp id (fun ⟨g,cap,cur,h1,h2,h3⟩=>⟨g,cap,cur,h1,Nat.le_trans hb h2,h3⟩)⟩
theorem SL.bl {w w':World} {base:Nat} {v:Value} {xs:List Str} (h:SL w base v xs) (hb:Bl w w'):SL w' base v xs:=by
 refine ⟨h.1,h.2.imp id ?_⟩
 rintro ⟨g,cap,cur,h1,h2,h3,h4⟩
 have hlt:g < w.heap.size:=by
  rcases Nat.lt_or_ge g w.heap.size with h | h
  ·exact h
  ·rw [Array.getElem?_eq_none h] at h3;cases h3
 exact ⟨g,cap,cur,h1,h2,(Below.block hb g hlt).trans h3,h4⟩
theorem SL.one (w:World) (s:Str) {base:Nat} (hb:base≤w.heap.size):SL (w.alloc (.cells #[.string (S s)] 9)) base (.slice (some ⟨w.heap.size,0,none⟩) 1 1) [s]:=
 World.ownsRow_lit w _ 1 hb (by decide) rfl
theorem SL.form {w:World} {base:Nat} {v:Value} {xs:List Str} (h:SL w base v xs):
  (v = .slice none 0 0∧xs = [])∨∃ g c,v = .slice (some ⟨g,0,none⟩) xs.length c∧base≤g∧(g < w.heap.size∧xs.length≤c)∧∀ (j:Nat) (x:Str),xs[j]? = some x→w.cell? ⟨g,j,none⟩= some (strV x):=by
 rcases h.2 with ⟨h1,h2⟩ | ⟨g,cap,cur,h1,h2,h3,h4,h5,h6,h7⟩
 ·exact .inl ⟨h1,List.eq_nil_of_length_eq_zero h2⟩
 ·refine .inr ⟨g,cap,h1,h2,⟨?_,h4⟩,fun j x hj=>?_⟩
  ·rcases Nat.lt_or_ge g w.heap.size with h | h
   ·exact h
   ·rw [Array.getElem?_eq_none h] at h3;cases h3
  ·rw [cell_of_row _ _ _ _ _ _ h3]
   have hlt:j < xs.length:=(List.getElem?_eq_some_iff.1 hj).1
   have:(cur.toList.take (xs.length * 1))[j]? = some (strV x):=by rw [h7,List.getElem?_map,hj];rfl
   rw [List.getElem?_take_of_lt (by omega)] at this
   simpa using this
theorem SL.lt {w:World} {base:Nat} {v:Value} {xs:List Str} (h:SL w base v xs):∀ k,v.ownBlock = some k→base≤k∧k < w.heap.size:=World.ownsRow.lt h
theorem str_info:(Tryz.prog.info? 9).map (fun i=>(i.zero,i.size,i.bytes))= some (some (.string (S [])),1,16):=by kernel_rfl
def Src (w:World) (u:Value) (ys:List Str):Prop:=∃ A c,u = .slice A ys.length c∧((A = none∧ys = [])∨∃ ad,A = some ad∧∀ (j:Nat) (x:Str),ys[j]? = some x→w.cell? (ad.add j)= some (strV x))
theorem SL.src {w:World} {base:Nat} {v:Value} {xs:List Str} (h:SL w base v xs):Src w v xs:=by
 rcases h.form with ⟨rfl,rfl⟩ | ⟨g,c,rfl,_,_,hc⟩
 ·exact ⟨none,0,rfl,.inl ⟨rfl,rfl⟩⟩
 ·refine ⟨_,c,rfl,.inr ⟨_,rfl,fun j x hj=>?_⟩⟩
  have e:(⟨g,0,none⟩:Addr).add j = ⟨g,j,none⟩:=by cases j <;> simp [Addr.add]
  rw [e];exact hc j x hj
theorem sl_append (w:World) (ty:TypeId) (base:Nat) (v u:Value) (xs ys:List Str) (h:SL w base v xs) (g:Src w u ys) (hl:xs.length + ys.length≤100000) (hb:base≤w.heap.size):
  ∃ v' w',(Builtin.append_ #[29,29] ty #[v,u]).run Tryz.prog w = .ok v' w'∧SL w' base v' (xs ++ ys)∧w.grownBy w' v.ownBlock∧(v'.ownBlock = v.ownBlock∨v'.ownBlock = some w.heap.size):=by
 obtain ⟨i,hi,hz,hs,hby⟩:=info_parts str_info
 have h1:∀ x∈ys.map strV,x.oneCell' = true:=by
  intro x hx
  obtain ⟨s,_,rfl⟩:=List.mem_map.1 hx
  rfl
 obtain ⟨A,c,rfl,⟨rfl,rfl⟩ | ⟨ad,rfl,hc⟩⟩:=g
 ·refine ⟨v,w,?_,by simpa using h,World.grownBy.refl _ _,.inl rfl⟩
  rcases h.2 with ⟨rfl,hn⟩ | ⟨g',cap,cur,rfl,_,_,hnc,_⟩
  ·simp [Builtin.append_,run_underlying Tryz.underlying29,sizeOf,typeInfo,hi,Builtin.lenOf,Builtin.firstCells]
  ·simp [Builtin.append_,run_underlying Tryz.underlying29,sizeOf,typeInfo,hi,Builtin.lenOf,Builtin.firstCells,hnc,storeCells]
 ·have hcells:∀ j x,(ys.map strV)[j]? = some x→w.cell? (ad.add j)= some x:=by
   intro j x hj
   rw [List.getElem?_map] at hj
   obtain ⟨s,hs2,rfl⟩:=Option.map_eq_some_iff.1 hj
   exact hc j s hs2
  obtain ⟨v',w',hrun,h2,h3,_,h5⟩:=run_append_own_at (P:=Tryz.prog) w base 29 ty 9 i (.string (S [])) 1 16 Tryz.underlying29 hi hz hs hby rfl (by decide) v xs.length (xs.map strV) h
   ad ys.length c (ys.map strV) (by simp) hcells h1 (by simp only [maxLen];omega) (by omega) hb
  refine ⟨v',w',hrun,?_,h3,h5⟩
  unfold SL
  rw [List.length_append,List.map_append];exact h2
theorem sl_op {ops:Array Oper} {rest:List Oper} {o:Oper} {a:Act} {Q:Exit→Act→World→Prop} (w:World) (s x:Operand) (base:Nat) (v u:Value) (xs ys:List Str)
  (hgd:o.guard = none) (ho:o.op = .call { callee:=.builtin .append,args:=#[s,x],argTypes:=#[29,29] })
  (hs:a.eval s = v) (hx:a.eval x = u) (h:SL w base v xs) (g:Src w u ys) (hl:xs.length + ys.length≤100000) (hb:base≤w.heap.size)
  (k:∀ v' w',SL w' base v' (xs ++ ys)→w.grownBy w' v.ownBlock→(v'.ownBlock = v.ownBlock∨v'.ownBlock = some w.heap.size)→wpList Tryz.prog ops Q rest (a.put o.dst v') w'):wpList Tryz.prog ops Q (o :: rest) a w:=by
 refine wpList_plain hgd fun K hK=>?_
 obtain ⟨v',w',hr,h1,h2,h3⟩:=sl_append w o.type base v u xs ys h g hl hb
 unfold Oper.wp execOp
 simp only [ho,resolve,invoke,builtin,Sem.run_bind,Sem.run_pure,Result.andThen_ok,List.map_toArray,List.map_cons,List.map_nil,hs,hx,hr]
 exact hK _ _ (k v' w' h1 h2 h3)
theorem sl_step {ops:Array Oper} {o:Oper} {a:Act} {K:Act→World→Prop} {Q:Exit→Act→World→Prop} {E:Prop} (w:World) (s x:Operand) (base:Nat) (v u:Value) (xs ys:List Str)
  (hgd:o.guard = none) (ho:o.op = .call { callee:=.builtin .append,args:=#[s,x],argTypes:=#[29,29] })
  (hs:a.eval s = v) (hx:a.eval x = u) (h:SL w base v xs) (g:Src w u ys) (hl:xs.length + ys.length≤100000) (hb:base≤w.heap.size)
  (k:∀ v' w',SL w' base v' (xs ++ ys)→w.grownBy w' v.ownBlock→(v'.ownBlock = v.ownBlock∨v'.ownBlock = some w.heap.size)→K (a.put o.dst v') w'):
  if Region.wanted o (yielded ops a.tmps)= true then Oper.wp Tryz.prog o a w K Q else E:=by
 have hw:Region.wanted o (yielded ops a.tmps)= true:=by simp [Region.wanted,hgd]
 rw [if_pos hw]
 obtain ⟨v',w',hr,h1,h2,h3⟩:=sl_append w o.type base v u xs ys h g hl hb
 unfold Oper.wp execOp
 simp only [ho,resolve,invoke,builtin,Sem.run_bind,Sem.run_pure,Result.andThen_ok,List.map_toArray,List.map_cons,List.map_nil,hs,hx,hr]
 exact k v' w' h1 h2 h3
theorem bl_grown {w0 w w':World} {v:Value} (h:Bl w0 w) (hg:w.grownBy w' v.ownBlock) (hv:∀ k,v.ownBlock = some k→w0.heap.size≤k):Bl w0 w':=
 Below.grown h hg (Below.size h) hv
theorem Src.bl {w w':World} {u:Value} {ys:List Str} (h:Src w u ys) (hb:Bl w w'):Src w' u ys:=by
 obtain ⟨A,c,h1,h2⟩:=h
 refine ⟨A,c,h1,h2.imp id ?_⟩
 rintro ⟨ad,h3,h4⟩
 exact ⟨ad,h3,fun j x hj=>cell_kept hb (h4 j x hj)⟩
theorem SL.zero (w:World) {base:Nat} (hb:base≤w.heap.size):SL (w.alloc (.cells #[] 9)) base (.slice (some ⟨w.heap.size,0,none⟩) 0 0) []:=
 World.ownsRow_lit w #[] 0 hb (by decide) rfl
theorem src_nil (w:World) (A:Option Addr) (c:Nat):Src w (.slice A 0 c) []:=by
 cases A with
 | none=>exact ⟨none,c,rfl,.inl ⟨rfl,rfl⟩⟩
 | some a=>exact ⟨_,c,rfl,.inr ⟨a,rfl,fun j x hj=>by simp at hj⟩⟩
theorem src_pre {w:World} {g c:Nat} {ys:List Str} (hc:∀ (j:Nat) (x:Str),ys[j]? = some x→w.cell? ⟨g,j,none⟩= some (strV x)) {k:Nat} (hk:k≤ys.length):Src w (.slice (some ⟨g,0,none⟩) k c) (ys.take k):=by
 refine ⟨some ⟨g,0,none⟩,c,by rw [List.length_take,Nat.min_eq_left hk],.inr ⟨_,rfl,fun j x hj=>?_⟩⟩
 have e:(⟨g,0,none⟩:Addr).add j = ⟨g,j,none⟩:=by cases j <;> simp [Addr.add]
 rw [e]
 rw [List.getElem?_take] at hj
 split at hj
 ·exact hc j x hj
 ·cases hj
theorem src_suf {w:World} {g c:Nat} {ys:List Str} (hc:∀ (j:Nat) (x:Str),ys[j]? = some x→w.cell? ⟨g,j,none⟩= some (strV x)) {k:Nat} (hk:k≤ys.length):Src w (.slice (some ⟨g,k,none⟩) (ys.length - k) c) (ys.drop k):=by
 refine ⟨some ⟨g,k,none⟩,c,by rw [List.length_drop],.inr ⟨_,rfl,fun j x hj=>?_⟩⟩
 have e:(⟨g,k,none⟩:Addr).add j = ⟨g,k + j,none⟩:=by cases j <;> simp [Addr.add]
 rw [e]
 rw [List.getElem?_drop] at hj
 exact hc _ x hj
theorem bl_src {w a b:World} (_:Bl a b) (k:Bl w a):Bl w a:=k
end Go.Proofs.YtbibkgcbdnldbaaGreat
namespace Go.Proofs.YtbibkgcbdnldbaaGreat
open Go.RowKit
structure Fx (A:Nat→Prop) (w w':World):Prop where
 os:w'.os = w.os
 tape:w'.tape = w.tape
 output:w'.output = w.output
 size:w.heap.size≤w'.heap.size
 block:∀ k,k < w.heap.size→¬ A k→w'.heap[k]? = w.heap[k]?
theorem Fx.refl (A:Nat→Prop) (w:World):Fx A w w:=⟨rfl,rfl,rfl,Nat.le_refl _,fun _ _ _=>rfl⟩
theorem Fx.trans {A B:Nat→Prop} {a b c:World} (h:Fx A a b) (k:Fx B b c) (hAB:∀ i,i < a.heap.size→B i→A i):Fx A a c:=
 ⟨k.os.trans h.os,k.tape.trans h.tape,k.output.trans h.output,Nat.le_trans h.size k.size,fun i hi hA=>(k.block i (Nat.lt_of_lt_of_le hi h.size) (fun hB=>hA (hAB i hi hB))).trans (h.block i hi hA)⟩
theorem Fx.weaken {A B:Nat→Prop} {w w':World} (h:Fx A w w') (hAB:∀ i,i < w.heap.size→A i→B i):Fx B w w':=
 ⟨h.os,h.tape,h.output,h.size,fun i hi hB=>h.block i hi (fun hA=>hB (hAB i hi hA))⟩
theorem Fx.of_bl {A:Nat→Prop} {w w':World} (h:Bl w w'):Fx A w w':=⟨Below.os h,Below.tape h,Below.output h,Below.size h,fun k hk _=>Below.block h k hk⟩
theorem Fx.of_bx {g:Nat} {w w':World} (h:Bx g w w'):Fx (· = g) w w':=⟨h.os,h.tape,h.output,h.size,fun k hk hg=>h.block k hk hg⟩
theorem Fx.bl {A:Nat→Prop} {w w':World} (h:Fx A w w') (hA:∀ k,A k→w.heap.size≤k):Bl w w':=
 ⟨h.os,h.tape,h.output,h.size,fun k hk=>h.block k hk (fun ha=>by have:=hA k ha;omega)⟩
theorem Fx.bl' {A:Nat→Prop} {a w w':World} (hb:Bl a w) (h:Fx A w w') (hA:∀ k,A k→a.heap.size≤k):Bl a w':=
 ⟨h.os.trans (Below.os hb),h.tape.trans (Below.tape hb),h.output.trans (Below.output hb),Nat.le_trans (Below.size hb) h.size,fun k hk=>(h.block k (Nat.lt_of_lt_of_le hk (Below.size hb)) (fun ha=>by have:=hA k ha;omega)).trans (Below.block hb k hk)⟩
theorem Fx.bx {A:Nat→Prop} {g:Nat} {w w':World} (h:Fx A w w') (hA:∀ k,k < w.heap.size→A k→k = g):Bx g w w':=⟨h.os,h.tape,h.output,h.size,fun k hk hg=>h.block k hk (fun ha=>hg (hA k hk ha))⟩
theorem Fx.cell {A:Nat→Prop} {w w':World} (h:Fx A w w') {b i:Nat} {v:Value} (hg:¬ A b) (hv:w.cell? ⟨b,i,none⟩= some v):w'.cell? ⟨b,i,none⟩= some v:=by
 rw [World.cell?_of_block (w:=w) (h.block b (cell_lt hv) hg)];exact hv
theorem Fx.heap {A:Nat→Prop} {w w':World} (h:Fx A w w') {b:Nat} {o:Obj} (hg:¬ A b) (hv:w.heap[b]? = some o):w'.heap[b]? = some o:=by
 rw [h.block b (lt_of_block hv) hg];exact hv
theorem fx_grown {w w':World} {row:Option Nat} (h:w.grownBy w' row):Fx (fun k=>row = some k) w w':=⟨h.os,h.tape,h.output,h.size,fun k hk hr=>h.block k hk (fun e=>hr e.symm)⟩
theorem fx_set (w:World) (g i:Nat) (v:Value):Fx (· = g) w (w.setCell ⟨g,i,none⟩ v):=.of_bx (bx_set g i w v)
theorem blk_cell {w:World} {b i:Nat} {cs:Array Value} {T:TypeId} {v:Value} (h:w.heap[b]? = some (.cells cs T (0,0))) (hv:cs[i]? = some v):w.cell? ⟨b,i,none⟩= some v:=by
 rw [cell_of_row _ _ _ _ _ _ h];exact hv
theorem blk_free {w:World} {b i:Nat} {cs:Array Value} {T:TypeId} (h:w.heap[b]? = some (.cells cs T (0,0))):w.frozen? ⟨b,i,none⟩= false:=by simp [World.frozen?,h]
theorem blk_shape {w:World} {b:Nat} {cs:Array Value} {T:TypeId} (h:w.heap[b]? = some (.cells cs T (0,0))):w.shape? b = some (T,cs.size):=by simp [World.shape?,h]
theorem blk_new (w:World) (cs:Array Value) (T:TypeId):(w.alloc (.cells cs T)).heap[w.heap.size]? = some (.cells cs T (0,0)):=by
 show (w.heap.push _)[w.heap.size]? = _
 simp
theorem blk_bl {w w':World} (hb:Bl w w') {b:Nat} {o:Obj} (h:w.heap[b]? = some o):w'.heap[b]? = some o:=by rw [Below.block hb b (lt_of_block h)];exact h
theorem blk_set {w:World} {b i:Nat} {cs:Array Value} {T:TypeId} (h:w.heap[b]? = some (.cells cs T (0,0))) (u:Value):(w.setCell ⟨b,i,none⟩ u).heap[b]? = some (.cells (cs.modify i (fun _=>u)) T (0,0)):=by
 have hlt:=lt_of_block h
 have h':w.heap[b] = .cells cs T (0,0):=by simpa [Array.getElem?_eq_getElem hlt] using h
 show (w.heap.modify b _)[b]? = _
 rw [Array.getElem?_eq_getElem (by simpa using hlt),Array.getElem_modify_self,h']
 simp
 rfl
theorem blk_set_ne {w:World} {b g i:Nat} {o:Obj} (h:w.heap[b]? = some o) (hg:b≠g) (u:Value):(w.setCell ⟨g,i,none⟩ u).heap[b]? = some o:=by
 rw [Below.heap_setCell _ _ _ _ hg];exact h
structure RowTy (T S:TypeId) (z:Value):Prop where
 und:Tryz.prog.underlying S = some (.slice T)
 info:(Tryz.prog.info? T).map (fun i=>(i.zero,i.size,i.bytes))= some (some z,1,8)
 one:z.cells.size = 1
theorem rowInt:RowTy 3 36 (.int .i64 0):=⟨Tryz.underlying36,by kernel_rfl,rfl⟩
theorem rowThr:RowTy 95 92 (.pointer none):=⟨Tryz.underlying92,by kernel_rfl,rfl⟩
theorem rowLev:RowTy 75 143 (.pointer none):=⟨Tryz.underlying143,by kernel_rfl,rfl⟩
abbrev encI (x:Nat):Value:=.int .i64 x
abbrev encP (x:Nat):Value:=.pointer (some ⟨x,0,none⟩)
def RL (T:TypeId) (enc:Nat→Value) (w:World) (base:Nat) (v:Value) (xs:List Nat):Prop:=w.ownsRow base T 1 v xs.length (xs.map enc)
section
variable {T S:TypeId} {z:Value} {enc:Nat→Value}
theorem RL.nil (w:World) (base:Nat):RL T enc w base (.slice none 0 0) []:=World.ownsRow_nil _ _ _ _
theorem RL.mono {w:World} {base b2:Nat} {v:Value} {xs:List Nat} (h:RL T enc w base v xs) (hb:b2≤base):RL T enc w b2 v xs:=
 ⟨h.1,h.2.imp id (fun ⟨g,cap,cur,h1,h2,h3⟩=>⟨g,cap,cur,h1,Nat.le_trans hb h2,h3⟩)⟩
theorem RL.heap {w w':World} {base:Nat} {v:Value} {xs:List Nat} (h:RL T enc w base v xs) (hb:∀ k,v.ownBlock = some k→k < w.heap.size→w'.heap[k]? = w.heap[k]?):RL T enc w' base v xs:=by
 refine ⟨h.1,h.2.imp id ?_⟩
 rintro ⟨g,cap,cur,h1,h2,h3,h4⟩
 exact ⟨g,cap,cur,h1,h2,(hb g (by rw [h1];rfl) (lt_of_block h3)).trans h3,h4⟩
theorem RL.bl {w w':World} {base:Nat} {v:Value} {xs:List Nat} (h:RL T enc w base v xs) (hb:Bl w w'):RL T enc w' base v xs:=h.heap (fun k _ hk=>Below.block hb k hk)
theorem RL.fx {A:Nat→Prop} {w w':World} {base:Nat} {v:Value} {xs:List Nat} (h:RL T enc w base v xs) (hb:Fx A w w') (hA:∀ k,v.ownBlock = some k→¬ A k):RL T enc w' base v xs:=
 h.heap (fun k hk hl=>hb.block k hl (hA k hk))
theorem RL.lit (w:World) (x:Nat) {base:Nat} (hb:base≤w.heap.size):RL T enc (w.alloc (.cells #[enc x] T)) base (.slice (some ⟨w.heap.size,0,none⟩) 1 1) [x]:=
 World.ownsRow_lit w _ 1 hb (by decide) rfl
theorem RL.lit2 (w:World) (x y:Nat) {base:Nat} (hb:base≤w.heap.size):RL T enc (w.alloc (.cells #[enc x,enc y] T)) base (.slice (some ⟨w.heap.size,0,none⟩) 2 2) [x,y]:=
 World.ownsRow_lit w _ 2 hb (by decide) rfl
theorem RL.zero (w:World) {base:Nat} (hb:base≤w.heap.size):RL T enc (w.alloc (.cells #[] T)) base (.slice (some ⟨w.heap.size,0,none⟩) 0 0) []:=
 World.ownsRow_lit w #[] 0 hb (by decide) rfl
theorem RL.lt {w:World} {base:Nat} {v:Value} {xs:List Nat} (h:RL T enc w base v xs):∀ k,v.ownBlock = some k→base≤k∧k < w.heap.size:=World.ownsRow.lt h
theorem RL.form {w:World} {base:Nat} {v:Value} {xs:List Nat} (h:RL T enc w base v xs):
  (v = .slice none 0 0∧xs = [])∨∃ g c cur,v = .slice (some ⟨g,0,none⟩) xs.length c∧base≤g∧(g < w.heap.size∧xs.length≤c∧c≤maxLen∧cur.size = c)∧w.heap[g]? = some (.cells cur T (0,0))∧(∀ (j:Nat) (x:Nat),xs[j]? = some x→cur[j]? = some (enc x))∧∀ (j:Nat) (x:Nat),xs[j]? = some x→w.cell? ⟨g,j,none⟩= some (enc x):=by
 rcases h.2 with ⟨h1,h2⟩ | ⟨g,cap,cur,h1,h2,h3,h4,h5,h6,h7⟩
 ·exact .inl ⟨h1,List.eq_nil_of_length_eq_zero h2⟩
 ·have hh:∀ (j:Nat) (x:Nat),xs[j]? = some x→cur[j]? = some (enc x):=by
   intro j x hj
   have hlt:j < xs.length:=(List.getElem?_eq_some_iff.1 hj).1
   have:(cur.toList.take (xs.length * 1))[j]? = some (enc x):=by rw [h7,List.getElem?_map,hj];rfl
   rw [List.getElem?_take_of_lt (by omega)] at this
   simpa using this
  exact .inr ⟨g,cap,cur,h1,h2,⟨lt_of_block h3,h4,h5,by omega⟩,h3,hh,fun j x hj=>by rw [cell_of_row _ _ _ _ _ _ h3];exact hh j x hj⟩
theorem RL.slice {w:World} {base:Nat} {v:Value} {xs:List Nat} (h:RL T enc w base v xs):∃ A c,v = .slice A xs.length c:=by
 rcases h.form with ⟨rfl,rfl⟩ | ⟨g,c,cur,rfl,_⟩
 ·exact ⟨_,_,rfl⟩
 ·exact ⟨_,_,rfl⟩
theorem RL.shape {w:World} {base:Nat} {v:Value} {xs:List Nat} (h:RL T enc w base v xs) {k:Nat} (hk:v.ownBlock = some k):∃ n,w.shape? k = some (T,n):=by
 rcases h.form with ⟨rfl,_⟩ | ⟨g,c,cur,rfl,_,_,h3,_⟩
 ·cases hk
 ·cases hk;exact ⟨_,blk_shape h3⟩
def RSrc (enc:Nat→Value) (w:World) (u:Value) (ys:List Nat):Prop:=∃ A c,u = .slice A ys.length c∧((A = none∧ys = [])∨∃ ad,A = some ad∧∀ (j:Nat) (x:Nat),ys[j]? = some x→w.cell? (ad.add j)= some (enc x))
theorem RL.src {w:World} {base:Nat} {v:Value} {xs:List Nat} (h:RL T enc w base v xs):RSrc enc w v xs:=by
 rcases h.form with ⟨rfl,rfl⟩ | ⟨g,c,cur,rfl,_,_,_,_,hc⟩
 ·exact ⟨none,0,rfl,.inl ⟨rfl,rfl⟩⟩
 ·refine ⟨_,c,rfl,.inr ⟨_,rfl,fun j x hj=>?_⟩⟩
  have e:(⟨g,0,none⟩:Addr).add j = ⟨g,j,none⟩:=by cases j <;> simp [Addr.add]
  rw [e];exact hc j x hj
theorem rl_append (R:RowTy T S z) (he:∀ x,(enc x).oneCell' = true) (w:World) (ty:TypeId) (base:Nat) (v u:Value) (xs ys:List Nat) (h:RL T enc w base v xs) (g:RSrc enc w u ys) (hl:xs.length + ys.length≤100000) (hb:base≤w.heap.size):
  ∃ v' w',(Builtin.append_ #[S,S] ty #[v,u]).run Tryz.prog w = .ok v' w'∧RL T enc w' base v' (xs ++ ys)∧w.grownBy w' v.ownBlock∧(v'.ownBlock = v.ownBlock∨v'.ownBlock = some w.heap.size):=by
 obtain ⟨i,hi,hz,hs,hby⟩:=info_parts R.info
 have h1:∀ x∈ys.map enc,x.oneCell' = true:=by
  intro x hx
  obtain ⟨s,_,rfl⟩:=List.mem_map.1 hx
  exact he s
 obtain ⟨A,c,rfl,⟨rfl,rfl⟩ | ⟨ad,rfl,hc⟩⟩:=g
 ·refine ⟨v,w,?_,by simpa using h,World.grownBy.refl _ _,.inl rfl⟩
  rcases h.2 with ⟨rfl,hn⟩ | ⟨g',cap,cur,rfl,_,_,hnc,_⟩
  ·simp [Builtin.append_,run_underlying R.und,sizeOf,typeInfo,hi,Builtin.lenOf,Builtin.firstCells]
  ·simp [Builtin.append_,run_underlying R.und,sizeOf,typeInfo,hi,Builtin.lenOf,Builtin.firstCells,hnc,storeCells]
 ·have hcells:∀ j x,(ys.map enc)[j]? = some x→w.cell? (ad.add j)= some x:=by
   intro j x hj
   rw [List.getElem?_map] at hj
   obtain ⟨s,hs2,rfl⟩:=Option.map_eq_some_iff.1 hj
   exact hc j s hs2
  obtain ⟨v',w',hrun,h2,h3,_,h5⟩:=run_append_own_at (P:=Tryz.prog) w base S ty T i z 1 8 R.und hi hz hs hby R.one (by decide) v xs.length (xs.map enc) h
   ad ys.length c (ys.map enc) (by simp) hcells h1 (by simp only [maxLen];omega) (by omega) hb
  refine ⟨v',w',hrun,?_,h3,h5⟩
  unfold RL
  rw [List.length_append,List.map_append];exact h2
theorem rl_op (R:RowTy T S z) (he:∀ x,(enc x).oneCell' = true) {ops:Array Oper} {rest:List Oper} {o:Oper} {a:Act} {Q:Exit→Act→World→Prop} (w:World) (s x:Operand) (base:Nat) (v u:Value) (xs ys:List Nat)
  (hgd:o.guard = none) (ho:o.op = .call { callee:=.builtin .append,args:=#[s,x],argTypes:=#[S,S] })
  (hs:a.eval s = v) (hx:a.eval x = u) (h:RL T enc w base v xs) (g:RSrc enc w u ys) (hl:xs.length + ys.length≤100000) (hb:base≤w.heap.size)
  (k:∀ v' w',RL T enc w' base v' (xs ++ ys)→w.grownBy w' v.ownBlock→(v'.ownBlock = v.ownBlock∨v'.ownBlock = some w.heap.size)→wpList Tryz.prog ops Q rest (a.put o.dst v') w'):wpList Tryz.prog ops Q (o :: rest) a w:=by
 refine wpList_plain hgd fun K hK=>?_
 obtain ⟨v',w',hr,h1,h2,h3⟩:=rl_append R he w o.type base v u xs ys h g hl hb
 unfold Oper.wp execOp
 simp only [ho,resolve,invoke,builtin,Sem.run_bind,Sem.run_pure,Result.andThen_ok,List.map_toArray,List.map_cons,List.map_nil,hs,hx,hr]
 exact hK _ _ (k v' w' h1 h2 h3)
theorem rl_step (R:RowTy T S z) (he:∀ x,(enc x).oneCell' = true) {ops:Array Oper} {o:Oper} {a:Act} {K:Act→World→Prop} {E:Prop} {Q:Exit→Act→World→Prop} (w:World) (s x:Operand) (base:Nat) (v u:Value) (xs ys:List Nat)
  (hgd:o.guard = none) (ho:o.op = .call { callee:=.builtin .append,args:=#[s,x],argTypes:=#[S,S] })
  (hs:a.eval s = v) (hx:a.eval x = u) (h:RL T enc w base v xs) (g:RSrc enc w u ys) (hl:xs.length + ys.length≤100000) (hb:base≤w.heap.size)
  (k:∀ v' w',RL T enc w' base v' (xs ++ ys)→w.grownBy w' v.ownBlock→(v'.ownBlock = v.ownBlock∨v'.ownBlock = some w.heap.size)→K (a.put o.dst v') w'):
  if Region.wanted o (yielded ops a.tmps)= true then Oper.wp Tryz.prog o a w K Q else E:=by
 have hw:Region.wanted o (yielded ops a.tmps)= true:=by simp [Region.wanted,hgd]
 rw [if_pos hw]
 obtain ⟨v',w',hr,h1,h2,h3⟩:=rl_append R he w o.type base v u xs ys h g hl hb
 unfold Oper.wp execOp
 simp only [ho,resolve,invoke,builtin,Sem.run_bind,Sem.run_pure,Result.andThen_ok,List.map_toArray,List.map_cons,List.map_nil,hs,hx,hr]
 exact k v' w' h1 h2 h3
end
theorem RSrc.fx {enc:Nat→Value} {A:Nat→Prop} {w w':World} {base:Nat} {v:Value} {T:TypeId} {xs:List Nat} (h:RL T enc w base v xs) (hb:Fx A w w') (hA:∀ k,v.ownBlock = some k→¬ A k):RSrc enc w' v xs:=(h.fx hb hA).src
theorem one_encI (x:Nat):(encI x).oneCell' = true:=rfl
theorem one_encP (x:Nat):(encP x).oneCell' = true:=rfl
def RD (P:Nat→Prop) (T:TypeId) (enc:Nat→Value) (w:World) (v:Value) (xs:List Nat):Prop:=RL T enc w 0 v xs∧∀ k,v.ownBlock = some k→P k
theorem RD.map {P Q:Nat→Prop} {T:TypeId} {enc:Nat→Value} {w w':World} {v:Value} {xs:List Nat} (h:RD P T enc w v xs) (hP:∀ k,P k→k < w.heap.size→Q k∧w'.heap[k]? = w.heap[k]?):RD Q T enc w' v xs:=
 ⟨h.1.heap (fun k hk hl=>(hP k (h.2 k hk) hl).2),fun k hk=>(hP k (h.2 k hk) (h.1.lt k hk).2).1⟩
abbrev Thr (w:World) (p:Nat) (k:UInt8) (a b:Nat) (vr vp:Value):Prop:=w.heap[p]? = some (.cells #[.int .u8 k.toNat,.int .i64 a,.int .i64 b,vr,vp] 145 (0,0))
abbrev Lvl (w:World) (b:Nat) (vo vt:Value):Prop:=w.heap[b]? = some (.cells #[vo,vt] 94 (0,0))
theorem Thr.c {w:World} {p:Nat} {k:UInt8} {a b:Nat} {vr vp:Value} (h:Thr w p k a b vr vp):
  w.cell? ⟨p,0,none⟩= some (.int .u8 k.toNat)∧w.cell? ⟨p,1,none⟩= some (.int .i64 a)∧w.cell? ⟨p,2,none⟩= some (.int .i64 b)∧w.cell? ⟨p,3,none⟩= some vr∧w.cell? ⟨p,4,none⟩= some vp:=
 ⟨blk_cell h rfl,blk_cell h rfl,blk_cell h rfl,blk_cell h rfl,blk_cell h rfl⟩
theorem Lvl.c {w:World} {b:Nat} {vo vt:Value} (h:Lvl w b vo vt):w.cell? ⟨b,0,none⟩= some vo∧w.cell? ⟨b,1,none⟩= some vt:=⟨blk_cell h rfl,blk_cell h rfl⟩
theorem bl_dn {w w':World} (h:Bl w w') (n:Nat):Bl w (w'.drewN n):=Below.trans h ⟨rfl,rfl,rfl,Nat.le_refl _,fun _ _=>rfl⟩
theorem bl_regrown {w wq:World} {d:Nat} {os:Array Obj} (h:wq = Sort.grow (redrawn w d) os):Bl w wq:=by rw [h];exact below_regrown _ _ _
def Ths (P:Nat→Prop) (w:World):Ts→List Nat→Prop
 | .nil,ps=>ps = []
 | .un k a b o r n,ps=>∃ p ps' lb vo vt qs,ps = p :: ps'∧P p∧Thr w p k a b (encP lb) (.slice none 0 0)∧
   P lb∧Lvl w lb vo vt∧RD P 3 encI w vo o∧RD P 95 encP w vt qs∧Ths P w r qs∧Ths P w n ps'
 | .sum q n,ps=>∃ p ps' v qs,ps = p :: ps'∧P p∧Thr w p 43 0 0 (.pointer none) v∧RD P 75 encP w v qs∧Ths P w q qs∧Ths P w n ps'
 | .part o l n,ps=>∃ p ps' vo vt qs,ps = p :: ps'∧P p∧Lvl w p vo vt∧RD P 3 encI w vo o∧RD P 95 encP w vt qs∧Ths P w l qs∧Ths P w n ps'
def Lies2 (P:Nat→Prop) (w:World) (o:List Nat) (t:Ts) (b:Nat):Prop:=
 P b∧∃ vo vt qs,Lvl w b vo vt∧RD P 3 encI w vo o∧RD P 95 encP w vt qs∧Ths P w t qs
theorem Ths.map {P Q:Nat→Prop} {w w':World} (hP:∀ k,P k→k < w.heap.size→Q k∧w'.heap[k]? = w.heap[k]?) {t:Ts}:∀ {ps:List Nat},Ths P w t ps→Ths Q w' t ps:=by
 have hb:∀ {k:Nat} {o:Obj},P k→w.heap[k]? = some o→Q k∧w'.heap[k]? = some o:=fun {k o} h1 h2=>⟨(hP k h1 (lt_of_block h2)).1,by rw [(hP k h1 (lt_of_block h2)).2];exact h2⟩
 induction t with
 | nil=>intro ps h;exact h
 | un k a b o r n ih1 ih2=>
   rintro ps ⟨p,ps',lb,vo,vt,qs,rfl,h1,h2,h3,h4,h5,h6,h7,h8⟩
   exact ⟨p,ps',lb,vo,vt,qs,rfl,(hb h1 h2).1,(hb h1 h2).2,(hb h3 h4).1,(hb h3 h4).2,h5.map hP,h6.map hP,ih1 h7,ih2 h8⟩
 | sum q n ih1 ih2=>
   rintro ps ⟨p,ps',v,qs,rfl,h1,h2,h3,h4,h5⟩
   exact ⟨p,ps',v,qs,rfl,(hb h1 h2).1,(hb h1 h2).2,h3.map hP,ih1 h4,ih2 h5⟩
 | part o l n ih1 ih2=>
   rintro ps ⟨p,ps',vo,vt,qs,rfl,h1,h2,h3,h4,h5,h6⟩
   exact ⟨p,ps',vo,vt,qs,rfl,(hb h1 h2).1,(hb h1 h2).2,h3.map hP,h4.map hP,ih1 h5,ih2 h6⟩
theorem Lies2.map {P Q:Nat→Prop} {w w':World} (hP:∀ k,P k→k < w.heap.size→Q k∧w'.heap[k]? = w.heap[k]?) {o:List Nat} {t:Ts} {b:Nat} (h:Lies2 P w o t b):Lies2 Q w' o t b:=by
 obtain ⟨h1,vo,vt,qs,h2,h3,h4,h5⟩:=h
 exact ⟨(hP b h1 (lt_of_block h2)).1,vo,vt,qs,(hP b h1 (lt_of_block h2)).2.trans h2,h3.map hP,h4.map hP,h5.map hP⟩
theorem Ths.bl {P:Nat→Prop} {w w':World} (hb:Bl w w') {t:Ts} {ps:List Nat} (h:Ths P w t ps):Ths P w' t ps:=h.map (fun k hk hl=>⟨hk,Below.block hb k hl⟩)
theorem Lies2.bl {P:Nat→Prop} {w w':World} (hb:Bl w w') {o:List Nat} {t:Ts} {b:Nat} (h:Lies2 P w o t b):Lies2 P w' o t b:=h.map (fun k hk hl=>⟨hk,Below.block hb k hl⟩)
theorem Ths.fx {P A:Nat→Prop} {w w':World} (hb:Fx A w w') (hA:∀ k,P k→¬ A k) {t:Ts} {ps:List Nat} (h:Ths P w t ps):Ths P w' t ps:=h.map (fun k hk hl=>⟨hk,hb.block k hl (hA k hk)⟩)
theorem Lies2.fx {P A:Nat→Prop} {w w':World} (hb:Fx A w w') (hA:∀ k,P k→¬ A k) {o:List Nat} {t:Ts} {b:Nat} (h:Lies2 P w o t b):Lies2 P w' o t b:=h.map (fun k hk hl=>⟨hk,hb.block k hl (hA k hk)⟩)
theorem Ths.mono {P Q:Nat→Prop} {w:World} {t:Ts} {ps:List Nat} (h:Ths P w t ps) (hP:∀ k,P k→k < w.heap.size→Q k):Ths Q w t ps:=h.map (fun k hk hl=>⟨hP k hk hl,rfl⟩)
theorem Lies2.mono {P Q:Nat→Prop} {w:World} {o:List Nat} {t:Ts} {b:Nat} (h:Lies2 P w o t b) (hP:∀ k,P k→k < w.heap.size→Q k):Lies2 Q w o t b:=h.map (fun k hk hl=>⟨hP k hk hl,rfl⟩)
theorem Ths.app {P:Nat→Prop} {w:World} {t u:Ts}:∀ {ps qs:List Nat},Ths P w t ps→Ths P w u qs→Ths P w (t.app u) (ps ++ qs):=by
 induction t with
 | nil=>rintro ps qs rfl h;exact h
 | un k a b o r n ih1 ih2=>
   rintro ps qs ⟨p,ps',lb,vo,vt,qs',rfl,h1,h2,h3,h4,h5,h6,h7,h8⟩ h
   exact ⟨p,ps' ++ qs,lb,vo,vt,qs',rfl,h1,h2,h3,h4,h5,h6,h7,ih2 h8 h⟩
 | sum q n ih1 ih2=>
   rintro ps qs ⟨p,ps',v,qs',rfl,h1,h2,h3,h4,h5⟩ h
   exact ⟨p,ps' ++ qs,v,qs',rfl,h1,h2,h3,h4,ih2 h5 h⟩
 | part o l n ih1 ih2=>
   rintro ps qs ⟨p,ps',vo,vt,qs',rfl,h1,h2,h3,h4,h5,h6⟩ h
   exact ⟨p,ps' ++ qs,vo,vt,qs',rfl,h1,h2,h3,h4,h5,ih2 h6 h⟩
theorem Ths.len {P:Nat→Prop} {w:World} {t:Ts}:∀ {ps:List Nat},Ths P w t ps→ps.length = t.len:=by
 induction t with
 | nil=>rintro ps rfl;rfl
 | un k a b o r n ih1 ih2=>rintro ps ⟨p,ps',lb,vo,vt,qs,rfl,h1,h2,h3,h4,h5,h6,h7,h8⟩;simp [Ts.len,ih2 h8]
 | sum q n ih1 ih2=>rintro ps ⟨p,ps',v,qs,rfl,h1,h2,h3,h4,h5⟩;simp [Ts.len,ih2 h5]
 | part o l n ih1 ih2=>rintro ps ⟨p,ps',vo,vt,qs,rfl,h1,h2,h3,h4,h5,h6⟩;simp [Ts.len,ih2 h6]
end Go.Proofs.YtbibkgcbdnldbaaGreat
namespace Go.Proofs.YtbibkgcbdnldbaaGreat
open Go.RowKit
theorem mkfn (fn:Fn) (first cap:Array Value) (w:World):(Instr.makeFunc fn first cap).run Tryz.prog w = .ok (.func fn first cap) w:=rfl
attribute [local go_sem] mkfn
def idxG:List Bool→Int→Int
 | [],_=>-1
 | b :: l,i=>if b = true then i else idxG l (i + 1)
theorem idxG_any:∀ (bs:List Bool) (i:Int),0≤i→decide ((0:Int)≤idxG bs i)= bs.any id
 | [],i,h=>rfl
 | b :: l, i, h => by
   cases b with
   | true=>simp [idxG,h]
   | false => have e : idxG (false :: l) i = idxG l (i + 1) := by simp [idxG]
              rw [e];simpa using idxG_any l (i + 1) (by omega)
theorem lvl_read {P:Nat→Prop} {w:World} {o:List Nat} {t:Ts} {b:Nat} (h:Lies2 P w o t b):∃ vo vt A c qs,w.cell? ⟨b,0,none⟩= some vo∧w.cell? ⟨b,1,none⟩= some (.slice A qs.length c)∧vt = .slice A qs.length c∧Hid (qs.length = t.len)∧RD P 3 encI w vo o∧RD P 95 encP w vt qs∧Ths P w t qs:=by
 obtain ⟨h1,vo,vt,qs,h2,h3,h4,h5⟩:=h
 obtain ⟨A,c,rfl⟩:=h4.1.slice
 exact ⟨vo,_,A,c,qs,blk_cell h2 rfl,blk_cell h2 rfl,rfl,h5.len,h3,h4,h5⟩
theorem isEmpty_c {P:Nat→Prop} (o:List Nat) (t:Ts) (b:Nat) (w:World) (h:Lies2 P w o t b):
  Calls Tryz.prog 96 #[.pointer (some ⟨b,0,none⟩)] w fun e w'=>e = .returned (.bool t.isNil)∧w = w':=by
 obtain ⟨vo,vt,A,c,qs,p0,p1,-,hl,-,-,-⟩:=lvl_read h
 have hr:Hid (t.isNil = ((qs.length:Int)== 0)):=by unfold Hid;rw [hl.out,Ts.isNil_len,Bool.eq_iff_iff];simp
 clear h
 go_enter Tryz.func96,Tryz.ntmps96
 go_wp2_with fail
 go_ret
 exact ⟨ret_bool (by rw [hr.out]),rfl⟩
theorem idx_has (cv v:Value) (xs:List Nat) (bs:List Bool) (w0:World) (hv:RL 95 encP w0 0 v xs) (hl:xs.length = bs.length) (hn:xs.length≤100000)
  (hc:Hid (∀ (j x:Nat) (b:Bool) (w:World),xs[j]? = some x→bs[j]? = some b→Bl w0 w→Calls Tryz.prog 183 #[encP x,cv] w fun e w'=>e = .returned (.bool b)∧Bl w w')):
  Calls Tryz.prog 182 #[v,.func (.func 183) #[] #[cv]] w0 fun e w'=>e = .returned (.int .i64 (idxG bs 0))∧Bl w0 w':=by
 have HN:=hide hn
 have HL:=hide hl
 clear hn hl
 rcases hv.form with ⟨rfl,rfl⟩ | ⟨g,c,cur,rfl,-,-,-,-,hcell⟩
 ·have hb:bs = []:=List.eq_nil_of_length_eq_zero HL.out.symm
  subst hb
  clear hv
  go_enter Tryz.func182,Tryz.ntmps182
  go_wp2_with fail
  refine wp_loop_rounds 1 ?_
  rw [rounds_succ]
  go_wp2_with fail
  go_ret
  exact ⟨rfl,.refl _⟩
 ·have HC:=hide hcell
  clear hv hcell
  go_enter Tryz.func182,Tryz.ntmps182
  go_wp2_with fail
  go_loopg [8] (xs.length + 1) (fun m i wr=>∃ j:Nat,m = xs.length + 1 - j∧Hid (j≤xs.length)∧Hid (idxG (bs.drop j) j = idxG bs 0)∧i = .int .i64 j∧Bl w0 wr)
  case atStart=>exact ⟨0,by omega,Nat.zero_le _,rfl,rfl,.refl _⟩
  case round=>
   obtain ⟨j,hm,hj,he,rfl,hb⟩:=hrel
   have HM:=hide hm
   clear hm
   have q3:(xs.length:Int)≤100000:=by have:=HN.out;omega
   by_cases hlt:j < xs.length
   ·obtain ⟨x,hx⟩:∃ x,xs[j]? = some x:=⟨_,List.getElem?_eq_getElem hlt⟩
    have hlt2:j < bs.length:=by have:=HL.out;omega
    obtain ⟨b,hbj⟩:∃ b,bs[j]? = some b:=⟨_,List.getElem?_eq_getElem hlt2⟩
    have hd:bs.drop j = b :: bs.drop (j + 1):=by rw [List.drop_eq_getElem_cons hlt2,(List.getElem?_eq_some_iff.1 hbj).2]
    have hcu:=cell_kept hb (HC.out j x hx)
    have q1:(j:Int) < xs.length:=by omega
    have q2:(0:Int)≤(j:Int):=by omega
    have c1:=hide (hc.out j x b wr hx hbj hb)
    have he2:=he.out
    rw [hd,idxG] at he2
    have HE2:=hide he2
    have HLT:=hide hlt
    clear hx hbj hd he he2 hlt hlt2
    cases b with
    | true=>
      have HE3:=HE2.out
      rw [if_pos rfl] at HE3
      replace HE3:=hide HE3
      go_wp2_with ((go_at_call 183;(with_reducible refine (c1.out).mono ?_);rintro e w' ⟨rfl,hb2⟩))
      go_ret
      exact ⟨by rw [← HE3.out];rfl,hb.trans hb2⟩
    | false=>
      have HE3:=HE2.out
      rw [if_neg (by decide)] at HE3
      replace HE3:=hide HE3
      go_wp2_with ((go_at_call 183;(with_reducible refine (c1.out).mono ?_);rintro e w' ⟨rfl,hb2⟩))
      go_roundg (xs.length + 1 - (j + 1))
      case measure=>have:=HM.out;have:=HLT.out;omega
      case rel=>exact ⟨j + 1,rfl,HLT.out,HE3.out,by go_num,hb.trans hb2⟩
   ·have hj':j = xs.length:=by have:=hj.out;omega
    subst hj'
    have hd:bs.drop xs.length = []:=List.drop_of_length_le (by have:=HL.out;omega)
    have he2:=he.out
    rw [hd,idxG] at he2
    have HE2:=hide he2
    have q1:¬ (xs.length:Int) < xs.length:=by omega
    clear hd he he2
    go_wp2_with fail
    go_ret
    exact ⟨by rw [← HE2.out];rfl,hb⟩
theorem any_has (cv v:Value) (xs:List Nat) (bs:List Bool) (w0:World) (hv:RL 95 encP w0 0 v xs) (hl:xs.length = bs.length) (hn:xs.length≤100000)
  (hc:Hid (∀ (j x:Nat) (b:Bool) (w:World),xs[j]? = some x→bs[j]? = some b→Bl w0 w→Calls Tryz.prog 183 #[encP x,cv] w fun e w'=>e = .returned (.bool b)∧Bl w w')):
  Calls Tryz.prog 142 #[v,.func (.func 183) #[] #[cv]] w0 fun e w'=>e = .returned (.bool (bs.any id))∧Bl w0 w':=by
 have c1:=hide (idx_has cv v xs bs w0 hv hl hn hc)
 have hb:=hide (idxG_any bs 0 (by omega))
 clear hv hl hn hc
 generalize idxG bs 0 = r at *
 go_enter Tryz.func142,Tryz.ntmps142
 go_wp2_with (((with_reducible refine c1.out.mono ?_);rintro e w2 ⟨rfl,hb2⟩))
 go_ret
 exact ⟨ret_bool hb.out,hb2⟩
theorem idx_part (cv v:Value) (xs:List Nat) (bs:List Bool) (w0:World) (hv:RL 75 encP w0 0 v xs) (hl:xs.length = bs.length) (hn:xs.length≤100000)
  (hc:Hid (∀ (j x:Nat) (b:Bool) (w:World),xs[j]? = some x→bs[j]? = some b→Bl w0 w→Calls Tryz.prog 146 #[encP x,cv] w fun e w'=>e = .returned (.bool b)∧Bl w w')):
  Calls Tryz.prog 184 #[v,.func (.func 146) #[] #[cv]] w0 fun e w'=>e = .returned (.int .i64 (idxG bs 0))∧Bl w0 w':=by
 have HN:=hide hn
 have HL:=hide hl
 clear hn hl
 rcases hv.form with ⟨rfl,rfl⟩ | ⟨g,c,cur,rfl,-,-,-,-,hcell⟩
 ·have hb:bs = []:=List.eq_nil_of_length_eq_zero HL.out.symm
  subst hb
  clear hv
  go_enter Tryz.func184,Tryz.ntmps184
  go_wp2_with fail
  refine wp_loop_rounds 1 ?_
  rw [rounds_succ]
  go_wp2_with fail
  go_ret
  exact ⟨rfl,.refl _⟩
 ·have HC:=hide hcell
  clear hv hcell
  go_enter Tryz.func184,Tryz.ntmps184
  go_wp2_with fail
  go_loopg [8] (xs.length + 1) (fun m i wr=>∃ j:Nat,m = xs.length + 1 - j∧Hid (j≤xs.length)∧Hid (idxG (bs.drop j) j = idxG bs 0)∧i = .int .i64 j∧Bl w0 wr)
  case atStart=>exact ⟨0,by omega,Nat.zero_le _,rfl,rfl,.refl _⟩
  case round=>
   obtain ⟨j,hm,hj,he,rfl,hb⟩:=hrel
   have HM:=hide hm
   clear hm
   have q3:(xs.length:Int)≤100000:=by have:=HN.out;omega
   by_cases hlt:j < xs.length
   ·obtain ⟨x,hx⟩:∃ x,xs[j]? = some x:=⟨_,List.getElem?_eq_getElem hlt⟩
    have hlt2:j < bs.length:=by have:=HL.out;omega
    obtain ⟨b,hbj⟩:∃ b,bs[j]? = some b:=⟨_,List.getElem?_eq_getElem hlt2⟩
    have hd:bs.drop j = b :: bs.drop (j + 1):=by rw [List.drop_eq_getElem_cons hlt2,(List.getElem?_eq_some_iff.1 hbj).2]
    have hcu:=cell_kept hb (HC.out j x hx)
    have q1:(j:Int) < xs.length:=by omega
    have q2:(0:Int)≤(j:Int):=by omega
    have c1:=hide (hc.out j x b wr hx hbj hb)
    have he2:=he.out
    rw [hd,idxG] at he2
    have HE2:=hide he2
    have HLT:=hide hlt
    clear hx hbj hd he he2 hlt hlt2
    cases b with
    | true=>
      have HE3:=HE2.out
      rw [if_pos rfl] at HE3
      replace HE3:=hide HE3
      go_wp2_with ((go_at_call 146;(with_reducible refine (c1.out).mono ?_);rintro e w' ⟨rfl,hb2⟩))
      go_ret
      exact ⟨by rw [← HE3.out];rfl,hb.trans hb2⟩
    | false=>
      have HE3:=HE2.out
      rw [if_neg (by decide)] at HE3
      replace HE3:=hide HE3
      go_wp2_with ((go_at_call 146;(with_reducible refine (c1.out).mono ?_);rintro e w' ⟨rfl,hb2⟩))
      go_roundg (xs.length + 1 - (j + 1))
      case measure=>have:=HM.out;have:=HLT.out;omega
      case rel=>exact ⟨j + 1,rfl,HLT.out,HE3.out,by go_num,hb.trans hb2⟩
   ·have hj':j = xs.length:=by have:=hj.out;omega
    subst hj'
    have hd:bs.drop xs.length = []:=List.drop_of_length_le (by have:=HL.out;omega)
    have he2:=he.out
    rw [hd,idxG] at he2
    have HE2:=hide he2
    have q1:¬ (xs.length:Int) < xs.length:=by omega
    clear hd he he2
    go_wp2_with fail
    go_ret
    exact ⟨by rw [← HE2.out];rfl,hb⟩
theorem any_part (cv v:Value) (xs:List Nat) (bs:List Bool) (w0:World) (hv:RL 75 encP w0 0 v xs) (hl:xs.length = bs.length) (hn:xs.length≤100000)
  (hc:Hid (∀ (j x:Nat) (b:Bool) (w:World),xs[j]? = some x→bs[j]? = some b→Bl w0 w→Calls Tryz.prog 146 #[encP x,cv] w fun e w'=>e = .returned (.bool b)∧Bl w w')):
  Calls Tryz.prog 145 #[v,.func (.func 146) #[] #[cv]] w0 fun e w'=>e = .returned (.bool (bs.any id))∧Bl w0 w':=by
 have c1:=hide (idx_part cv v xs bs w0 hv hl hn hc)
 have hb:=hide (idxG_any bs 0 (by omega))
 clear hv hl hn hc
 generalize idxG bs 0 = r at *
 go_enter Tryz.func145,Tryz.ntmps145
 go_wp2_with (((with_reducible refine c1.out.mono ?_);rintro e w2 ⟨rfl,hb2⟩))
 go_ret
 exact ⟨ret_bool hb.out,hb2⟩
theorem idx_tid (cv v:Value) (xs:List Nat) (bs:List Bool) (w0:World) (hv:RL 95 encP w0 0 v xs) (hl:xs.length = bs.length) (hn:xs.length≤100000)
  (hc:Hid (∀ (j x:Nat) (b:Bool) (w:World),xs[j]? = some x→bs[j]? = some b→Bl w0 w→Calls Tryz.prog 143 #[encP x,cv] w fun e w'=>e = .returned (.bool b)∧Bl w w')):
  Calls Tryz.prog 182 #[v,.func (.func 143) #[] #[cv]] w0 fun e w'=>e = .returned (.int .i64 (idxG bs 0))∧Bl w0 w':=by
 have HN:=hide hn
 have HL:=hide hl
 clear hn hl
 rcases hv.form with ⟨rfl,rfl⟩ | ⟨g,c,cur,rfl,-,-,-,-,hcell⟩
 ·have hb:bs = []:=List.eq_nil_of_length_eq_zero HL.out.symm
  subst hb
  clear hv
  go_enter Tryz.func182,Tryz.ntmps182
  go_wp2_with fail
  refine wp_loop_rounds 1 ?_
  rw [rounds_succ]
  go_wp2_with fail
  go_ret
  exact ⟨rfl,.refl _⟩
 ·have HC:=hide hcell
  clear hv hcell
  go_enter Tryz.func182,Tryz.ntmps182
  go_wp2_with fail
  go_loopg [8] (xs.length + 1) (fun m i wr=>∃ j:Nat,m = xs.length + 1 - j∧Hid (j≤xs.length)∧Hid (idxG (bs.drop j) j = idxG bs 0)∧i = .int .i64 j∧Bl w0 wr)
  case atStart=>exact ⟨0,by omega,Nat.zero_le _,rfl,rfl,.refl _⟩
  case round=>
   obtain ⟨j,hm,hj,he,rfl,hb⟩:=hrel
   have HM:=hide hm
   clear hm
   have q3:(xs.length:Int)≤100000:=by have:=HN.out;omega
   by_cases hlt:j < xs.length
   ·obtain ⟨x,hx⟩:∃ x,xs[j]? = some x:=⟨_,List.getElem?_eq_getElem hlt⟩
    have hlt2:j < bs.length:=by have:=HL.out;omega
    obtain ⟨b,hbj⟩:∃ b,bs[j]? = some b:=⟨_,List.getElem?_eq_getElem hlt2⟩
    have hd:bs.drop j = b :: bs.drop (j + 1):=by rw [List.drop_eq_getElem_cons hlt2,(List.getElem?_eq_some_iff.1 hbj).2]
    have hcu:=cell_kept hb (HC.out j x hx)
    have q1:(j:Int) < xs.length:=by omega
    have q2:(0:Int)≤(j:Int):=by omega
    have c1:=hide (hc.out j x b wr hx hbj hb)
    have he2:=he.out
    rw [hd,idxG] at he2
    have HE2:=hide he2
    have HLT:=hide hlt
    clear hx hbj hd he he2 hlt hlt2
    cases b with
    | true=>
      have HE3:=HE2.out
      rw [if_pos rfl] at HE3
      replace HE3:=hide HE3
      go_wp2_with ((go_at_call 143;(with_reducible refine (c1.out).mono ?_);rintro e w' ⟨rfl,hb2⟩))
      go_ret
      exact ⟨by rw [← HE3.out];rfl,hb.trans hb2⟩
    | false=>
      have HE3:=HE2.out
      rw [if_neg (by decide)] at HE3
      replace HE3:=hide HE3
      go_wp2_with ((go_at_call 143;(with_reducible refine (c1.out).mono ?_);rintro e w' ⟨rfl,hb2⟩))
      go_roundg (xs.length + 1 - (j + 1))
      case measure=>have:=HM.out;have:=HLT.out;omega
      case rel=>exact ⟨j + 1,rfl,HLT.out,HE3.out,by go_num,hb.trans hb2⟩
   ·have hj':j = xs.length:=by have:=hj.out;omega
    subst hj'
    have hd:bs.drop xs.length = []:=List.drop_of_length_le (by have:=HL.out;omega)
    have he2:=he.out
    rw [hd,idxG] at he2
    have HE2:=hide he2
    have q1:¬ (xs.length:Int) < xs.length:=by omega
    clear hd he he2
    go_wp2_with fail
    go_ret
    exact ⟨by rw [← HE2.out];rfl,hb⟩
theorem any_tid (cv v:Value) (xs:List Nat) (bs:List Bool) (w0:World) (hv:RL 95 encP w0 0 v xs) (hl:xs.length = bs.length) (hn:xs.length≤100000)
  (hc:Hid (∀ (j x:Nat) (b:Bool) (w:World),xs[j]? = some x→bs[j]? = some b→Bl w0 w→Calls Tryz.prog 143 #[encP x,cv] w fun e w'=>e = .returned (.bool b)∧Bl w w')):
  Calls Tryz.prog 142 #[v,.func (.func 143) #[] #[cv]] w0 fun e w'=>e = .returned (.bool (bs.any id))∧Bl w0 w':=by
 have c1:=hide (idx_tid cv v xs bs w0 hv hl hn hc)
 have hb:=hide (idxG_any bs 0 (by omega))
 clear hv hl hn hc
 generalize idxG bs 0 = r at *
 go_enter Tryz.func142,Tryz.ntmps142
 go_wp2_with (((with_reducible refine c1.out.mono ?_);rintro e w2 ⟨rfl,hb2⟩))
 go_ret
 exact ⟨ret_bool hb.out,hb2⟩
theorem idx_int (cv v:Value) (xs:List Nat) (bs:List Bool) (w0:World) (hv:RL 3 encI w0 0 v xs) (hl:xs.length = bs.length) (hn:xs.length≤100000)
  (hc:Hid (∀ (j x:Nat) (b:Bool) (w:World),xs[j]? = some x→bs[j]? = some b→Bl w0 w→Calls Tryz.prog 141 #[encI x,cv] w fun e w'=>e = .returned (.bool b)∧Bl w w')):
  Calls Tryz.prog 123 #[v,.func (.func 141) #[] #[cv]] w0 fun e w'=>e = .returned (.int .i64 (idxG bs 0))∧Bl w0 w':=by
 have HN:=hide hn
 have HL:=hide hl
 clear hn hl
 rcases hv.form with ⟨rfl,rfl⟩ | ⟨g,c,cur,rfl,-,-,-,-,hcell⟩
 ·have hb:bs = []:=List.eq_nil_of_length_eq_zero HL.out.symm
  subst hb
  clear hv
  go_enter Tryz.func123,Tryz.ntmps123
  go_wp2_with fail
  refine wp_loop_rounds 1 ?_
  rw [rounds_succ]
  go_wp2_with fail
  go_ret
  exact ⟨rfl,.refl _⟩
 ·have HC:=hide hcell
  clear hv hcell
  go_enter Tryz.func123,Tryz.ntmps123
  go_wp2_with fail
  go_loopg [8] (xs.length + 1) (fun m i wr=>∃ j:Nat,m = xs.length + 1 - j∧Hid (j≤xs.length)∧Hid (idxG (bs.drop j) j = idxG bs 0)∧i = .int .i64 j∧Bl w0 wr)
  case atStart=>exact ⟨0,by omega,Nat.zero_le _,rfl,rfl,.refl _⟩
  case round=>
   obtain ⟨j,hm,hj,he,rfl,hb⟩:=hrel
   have HM:=hide hm
   clear hm
   have q3:(xs.length:Int)≤100000:=by have:=HN.out;omega
   by_cases hlt:j < xs.length
   ·obtain ⟨x,hx⟩:∃ x,xs[j]? = some x:=⟨_,List.getElem?_eq_getElem hlt⟩
    have hlt2:j < bs.length:=by have:=HL.out;omega
    obtain ⟨b,hbj⟩:∃ b,bs[j]? = some b:=⟨_,List.getElem?_eq_getElem hlt2⟩
    have hd:bs.drop j = b :: bs.drop (j + 1):=by rw [List.drop_eq_getElem_cons hlt2,(List.getElem?_eq_some_iff.1 hbj).2]
    have hcu:=cell_kept hb (HC.out j x hx)
    have q1:(j:Int) < xs.length:=by omega
    have q2:(0:Int)≤(j:Int):=by omega
    have c1:=hide (hc.out j x b wr hx hbj hb)
    have he2:=he.out
    rw [hd,idxG] at he2
    have HE2:=hide he2
    have HLT:=hide hlt
    clear hx hbj hd he he2 hlt hlt2
    cases b with
    | true=>
      have HE3:=HE2.out
      rw [if_pos rfl] at HE3
      replace HE3:=hide HE3
      go_wp2_with ((go_at_call 141;(with_reducible refine (c1.out).mono ?_);rintro e w' ⟨rfl,hb2⟩))
      go_ret
      exact ⟨by rw [← HE3.out];rfl,hb.trans hb2⟩
    | false=>
      have HE3:=HE2.out
      rw [if_neg (by decide)] at HE3
      replace HE3:=hide HE3
      go_wp2_with ((go_at_call 141;(with_reducible refine (c1.out).mono ?_);rintro e w' ⟨rfl,hb2⟩))
      go_roundg (xs.length + 1 - (j + 1))
      case measure=>have:=HM.out;have:=HLT.out;omega
      case rel=>exact ⟨j + 1,rfl,HLT.out,HE3.out,by go_num,hb.trans hb2⟩
   ·have hj':j = xs.length:=by have:=hj.out;omega
    subst hj'
    have hd:bs.drop xs.length = []:=List.drop_of_length_le (by have:=HL.out;omega)
    have he2:=he.out
    rw [hd,idxG] at he2
    have HE2:=hide he2
    have q1:¬ (xs.length:Int) < xs.length:=by omega
    clear hd he he2
    go_wp2_with fail
    go_ret
    exact ⟨by rw [← HE2.out];rfl,hb⟩
end Go.Proofs.YtbibkgcbdnldbaaGreat
namespace Go.Proofs.YtbibkgcbdnldbaaGreat
open Go.RowKit
attribute [local go_sem] mkfn
def Ts.sz:Ts→Nat
 | .nil=>0
 | .un _ _ _ o r n=>o.length + r.sz + n.sz + 1
 | .sum p n=>p.sz + n.sz + 1
 | .part o l n=>o.length + l.sz + n.sz + 1
theorem len_sz:∀ t:Ts,t.len≤t.sz
 | .nil=>Nat.le_refl _
 | .un k a b o r n=>by have:=len_sz n;simp [Ts.len,Ts.sz];omega
 | .sum p n=>by have:=len_sz n;simp [Ts.len,Ts.sz];omega
 | .part o l n=>by have:=len_sz n;simp [Ts.len,Ts.sz];omega
def Ts.hasL (x:Nat):Ts→List Bool
 | .nil=>[]
 | .un k a b _ r n=>((names3 k && (a == x || b == x)) || r.has x):: n.hasL x
 | .sum p n=>p.has x :: n.hasL x
 | .part _ l n=>l.has x :: n.hasL x
theorem hasL_len (x:Nat):∀ t:Ts,(t.hasL x).length = t.len
 | .nil=>rfl
 | .un k a b o r n=>by simp [Ts.hasL,Ts.len,hasL_len x n]
 | .sum p n=>by simp [Ts.hasL,Ts.len,hasL_len x n]
 | .part o l n=>by simp [Ts.hasL,Ts.len,hasL_len x n]
theorem hasL_any (x:Nat):∀ t:Ts,(t.hasL x).any id = t.has x
 | .nil=>rfl
 | .un k a b o r n=>by simp [Ts.hasL,Ts.has,hasL_any x n]
 | .sum p n=>by simp [Ts.hasL,Ts.has,hasL_any x n]
 | .part o l n=>by simp [Ts.hasL,Ts.has,hasL_any x n]
theorem clo_has (p B x:Nat) (b:Bool) (w:World) (hB:w.cell? ⟨B,0,none⟩= some (.int .i64 x))
  (c:Hid (Calls Tryz.prog 94 #[encP p,.int .i64 x] w fun e w'=>e = .returned (.bool b)∧Bl w w')):
  Calls Tryz.prog 183 #[encP p,.pointer (some ⟨B,0,none⟩)] w fun e w'=>e = .returned (.bool b)∧Bl w w':=by
 go_enter Tryz.func183,Tryz.ntmps183
 go_wp2_with ((go_at_call 94;(with_reducible refine (c.out).mono ?_);rintro e w' ⟨rfl,hb⟩))
 go_ret
 exact ⟨rfl,hb⟩
theorem clo_part (p B x:Nat) (b:Bool) (w:World) (hB:w.cell? ⟨B,0,none⟩= some (.int .i64 x))
  (c:Hid (Calls Tryz.prog 144 #[encP p,.int .i64 x] w fun e w'=>e = .returned (.bool b)∧Bl w w')):
  Calls Tryz.prog 146 #[encP p,.pointer (some ⟨B,0,none⟩)] w fun e w'=>e = .returned (.bool b)∧Bl w w':=by
 go_enter Tryz.func146,Tryz.ntmps146
 go_wp2_with ((go_at_call 144;(with_reducible refine (c.out).mono ?_);rintro e w' ⟨rfl,hb⟩))
 go_ret
 exact ⟨rfl,hb⟩
theorem lhas_c {P:Nat→Prop} (x:Nat) (o:List Nat) (t:Ts) (b:Nat) (w:World) (h:Lies2 P w o t b) (hs:t.sz≤100000)
  (ih:Hid (∀ (w:World) (qs:List Nat),Ths P w t qs→∀ (j p:Nat) (c:Bool),qs[j]? = some p→(t.hasL x)[j]? = some c→Calls Tryz.prog 94 #[encP p,.int .i64 x] w fun e w'=>e = .returned (.bool c)∧Bl w w')):
  Calls Tryz.prog 144 #[encP b,.int .i64 x] w fun e w'=>e = .returned (.bool (t.has x))∧Bl w w':=by
 obtain ⟨vo,vt,A,c,qs,p0,p1,hvt,hl,-,h4,h5⟩:=lvl_read h
 rw [hvt] at h4
 have c1:=hide (any_has (.pointer (some ⟨w.heap.size,0,none⟩)) (.slice A qs.length c) qs (t.hasL x) (w.alloc (.cells #[.int .i64 x] 3)) (h4.1.bl (bl_alloc _ _)) (by rw [hl.out,hasL_len]) (by have:=len_sz t;rw [hl.out];omega)
  (hide fun j p c w' hj hc hb=>clo_has p _ x c w' (cell_kept hb (by simp)) (hide (ih.out w' qs (h5.bl ((bl_alloc _ _).trans hb)) j p c hj hc))))
 have hr:=hide (hasL_any x t)
 have p2:=cell_kept (bl_alloc w (.cells #[.int .i64 x] 3)) p1
 clear h h4 h5 hvt hl ih hs
 generalize t.hasL x = bs at *
 go_enter Tryz.func144,Tryz.ntmps144
 go_wp2_with ((go_at_call 142;(with_reducible refine (c1.out).mono ?_);rintro e w' ⟨rfl,hb2⟩))
 go_ret
 exact ⟨ret_bool hr.out,(bl_alloc _ _).trans hb2⟩
theorem thas_test (p x k:Nat) (kk:UInt8) (a b:Nat) (lb:Nat) (w:World) (r:Bool) (h:Thr w p kk a b (encP lb) (.slice none 0 0)) (hk:kk = 63∨kk = 33∨kk = 61∨kk = 42∨kk = 126)
  (ih:Hid (∀ w',Bl w w'→Calls Tryz.prog 144 #[encP lb,.int .i64 x] w' fun e w''=>e = .returned (.bool r)∧Bl w' w'')):
  Calls Tryz.prog 94 #[encP p,.int .i64 x] w fun e w'=>e = .returned (.bool ((names3 kk && (a == x || b == x)) || r))∧Bl w w':=by
 obtain ⟨p0,p1,p2,p3,p4⟩:=Thr.c (blk_bl (bl_alloc w (.cells #[.int .i64 x] 3)) h)
 clear h
 have p5:(w.alloc (.cells #[.int .i64 x] 3)).cell? ⟨w.heap.size,0,none⟩= some (.int .i64 x):=by simp
 have hbW:Hid (Bl w (w.alloc (.cells #[.int .i64 x] 3))):=bl_alloc _ _
 have cN:Hid (∀ (w':World) (cv:Value),Calls Tryz.prog 145 #[.slice none 0 0,.func (.func 146) #[] #[cv]] w' fun e w''=>e = .returned (.bool false)∧Bl w' w''):=
  fun w' cv=>any_part cv (.slice none 0 0) [] [] w' (RL.nil _ _) rfl (Nat.zero_le _) (fun j p b w h=>by simp at h)
 have hr:Hid (∃ x1 x2:Bool,(names3 kk = true→((a:Int)== (x:Int))= x1∧((b:Int)== (x:Int))= x2)∧((names3 kk && (a == x || b == x)) || r)= ((names3 kk && (x1 || x2)) || r)):=
  ⟨a == x,b == x,fun _=>⟨by rw [Bool.eq_iff_iff];simp;omega,by rw [Bool.eq_iff_iff];simp;omega⟩,rfl⟩
 obtain ⟨x1,x2,hx,he⟩:=hr.out
 rw [he]
 clear hr he
 rcases hk with rfl | rfl | rfl | rfl | rfl
 all_goals
  first
   | (obtain ⟨m1,m2⟩:=hx rfl;clear hx;cases x1 <;> cases x2)
   | (clear hx)
 all_goals
  go_enter Tryz.func94,Tryz.ntmps94
  go_wp2_with fail
  generalize w.alloc (.cells #[.int .i64 x] 3)= W at *
  have k1:=cell_regrown p1
  have k2:=cell_regrown p2
  have k5:=cell_regrown p5
  refine wp_region_quiet_below (by kernel_rfl) (by kernel_rfl) ?_
  repeat (first | go_big_quiet_step (fail) | quiet_step (fail))
  refine wpQuiet_nil ?_
  rintro w3 ⟨⟨dq,osq⟩,hw3⟩
  have bw3:=bl_regrown hw3
  clear hw3 dq osq
  clear k1 k2 k5
  go_wp2_with fail
 all_goals first
  | (go_ret;exact ⟨rfl,hbW.out.trans bw3⟩)
  | skip
 all_goals
  have p3:=cell_kept bw3 p3
  have p4:=cell_kept bw3 p4
  have p5:=cell_kept bw3 p5
  have k3:=cell_regrown p3
  have k4:=cell_regrown p4
  have k5:=cell_regrown p5
  cases r
  all_goals
   refine wp_region_quiet_below (by kernel_rfl) (by kernel_rfl) ?_
   repeat (first | go_big_quiet_step ((first | (go_at_call 144;exact Calls.regrown_of (ih.out _ ((hbW.out.trans bw3).trans (below_regrown _ _ _)))) | (go_at_call 145;exact Calls.regrown_of (cN.out _ _)))) | quiet_step ((first | (go_at_call 144;exact Calls.regrown_of (ih.out _ ((hbW.out.trans bw3).trans (below_regrown _ _ _)))) | (go_at_call 145;exact Calls.regrown_of (cN.out _ _)))))
   refine wpQuiet_nil ?_
   rintro w4 ⟨⟨dq,osq⟩,hw4⟩
   have bw4:=bl_regrown hw4
   clear hw4 dq osq
   clear k3 k4 k5
   go_wp2_with fail
   go_ret
   exact ⟨rfl,(hbW.out.trans bw3).trans bw4⟩
theorem thas_sum (p x:Nat) (v:Value) (w:World) (r:Bool) (h:Thr w p 43 0 0 (.pointer none) v)
  (ih:Hid (∀ w',Bl (w.alloc (.cells #[.int .i64 x] 3)) w'→Calls Tryz.prog 145 #[v,.func (.func 146) #[] #[.pointer (some ⟨w.heap.size,0,none⟩)]] w' fun e w''=>e = .returned (.bool r)∧Bl w' w'')):
  Calls Tryz.prog 94 #[encP p,.int .i64 x] w fun e w'=>e = .returned (.bool r)∧Bl w w':=by
 obtain ⟨p0,p1,p2,p3,p4⟩:=Thr.c (blk_bl (bl_alloc w (.cells #[.int .i64 x] 3)) h)
 clear h
 have hbW:Hid (Bl w (w.alloc (.cells #[.int .i64 x] 3))):=bl_alloc _ _
 go_enter Tryz.func94,Tryz.ntmps94
 go_wp2_with fail
 generalize w.alloc (.cells #[.int .i64 x] 3)= W at *
 refine wp_region_quiet_below (by kernel_rfl) (by kernel_rfl) ?_
 repeat (first | go_big_quiet_step (fail) | quiet_step (fail))
 refine wpQuiet_nil ?_
 rintro w3 ⟨⟨dq,osq⟩,hw3⟩
 have bw3:=bl_regrown hw3
 clear hw3 dq osq
 go_wp2_with fail
 have p3:=cell_kept bw3 p3
 have p4:=cell_kept bw3 p4
 have k3:=cell_regrown p3
 have k4:=cell_regrown p4
 refine wp_region_quiet_below (by kernel_rfl) (by kernel_rfl) ?_
 repeat (first | go_big_quiet_step (((go_at_call 145;exact Calls.regrown_of (ih.out _ (bw3.trans (below_regrown _ _ _)))))) | quiet_step (((go_at_call 145;exact Calls.regrown_of (ih.out _ (bw3.trans (below_regrown _ _ _)))))))
 refine wpQuiet_nil ?_
 rintro w4 ⟨⟨dq,osq⟩,hw4⟩
 have bw4:=bl_regrown hw4
 clear hw4 dq osq
 clear k3 k4
 go_wp2_with fail
 go_ret
 exact ⟨rfl,(hbW.out.trans bw3).trans bw4⟩
theorem has_all {P:Nat→Prop} (x:Nat):∀ (t:Ts),t.sz≤100000→
  (t.ty true→∀ (w:World) (ps:List Nat),Ths P w t ps→∀ (j p:Nat) (c:Bool),ps[j]? = some p→(t.hasL x)[j]? = some c→Calls Tryz.prog 94 #[encP p,.int .i64 x] w fun e w'=>e = .returned (.bool c)∧Bl w w')∧
  (t.ty false→∀ (w:World) (ps:List Nat),Ths P w t ps→∀ (j p:Nat) (c:Bool),ps[j]? = some p→(t.hasL x)[j]? = some c→Calls Tryz.prog 144 #[encP p,.int .i64 x] w fun e w'=>e = .returned (.bool c)∧Bl w w'):=by
 intro t
 induction t with
 | nil=>
   intro _
   exact ⟨fun _ w ps h j p c hj=>by rw [show ps = [] from h] at hj;simp at hj,fun _ w ps h j p c hj=>by rw [show ps = [] from h] at hj;simp at hj⟩
 | un k a b o r n ih1 ih2=>
   intro hs
   simp only [Ts.sz] at hs
   refine ⟨?_,fun h=>by simp [Ts.ty] at h⟩
   rintro ⟨-,hk,hr,hn⟩ w ps ⟨p,ps',lb,vo,vt,qs,rfl,h1,h2,h3,h4,h5,h6,h7,h8⟩ j q c hj hc
   cases j with
   | zero=>
     simp only [List.getElem?_cons_zero,Option.some.injEq,Ts.hasL] at hj hc
     subst hj hc
     refine thas_test p x 0 k a b lb w (r.has x) h2 hk (hide fun w' hb=>lhas_c (P:=P) x o r lb w' (Lies2.bl hb ⟨h3,vo,vt,qs,h4,h5,h6,h7⟩) (by omega) (hide fun w2 qs2 h2=>(ih1 (by omega)).1 hr w2 qs2 h2))
   | succ j=>
     simp only [List.getElem?_cons_succ,Ts.hasL] at hj hc
     exact (ih2 (by omega)).1 hn w ps' h8 j q c hj hc
 | sum p n ih1 ih2=>
   intro hs
   simp only [Ts.sz] at hs
   refine ⟨?_,fun h=>by simp [Ts.ty] at h⟩
   rintro ⟨-,-,hp,hn⟩ w ps ⟨b,ps',v,qs,rfl,h1,h2,h3,h4,h5⟩ j q c hj hc
   cases j with
   | zero=>
     simp only [List.getElem?_cons_zero,Option.some.injEq,Ts.hasL] at hj hc
     subst hj hc
     refine thas_sum b x v w (p.has x) h2 (hide fun w' hb=>?_)
     rw [← hasL_any]
     have hB:=(bl_alloc w (.cells #[.int .i64 x] 3)).trans hb
     refine any_part _ v qs (p.hasL x) w' (h3.1.bl hB) (by rw [hasL_len,h4.len]) (by have:=len_sz p;rw [h4.len];omega) (hide fun j q c w2 hj hc hb2=>?_)
     exact clo_part q _ x c w2 (cell_kept (hb.trans hb2) (by simp)) (hide ((ih1 (by omega)).2 hp w2 qs (h4.bl (hB.trans hb2)) j q c hj hc))
   | succ j=>
     simp only [List.getElem?_cons_succ,Ts.hasL] at hj hc
     exact (ih2 (by omega)).1 hn w ps' h5 j q c hj hc
 | part o l n ih1 ih2=>
   intro hs
   simp only [Ts.sz] at hs
   refine ⟨fun h=>by simp [Ts.ty] at h,?_⟩
   rintro ⟨-,hl,hn⟩ w ps ⟨p,ps',vo,vt,qs,rfl,h1,h2,h3,h4,h5,h6⟩ j q c hj hc
   cases j with
   | zero=>
     simp only [List.getElem?_cons_zero,Option.some.injEq,Ts.hasL] at hj hc
     subst hj hc
     exact lhas_c (P:=P) x o l p w ⟨h1,vo,vt,qs,h2,h3,h4,h5⟩ (by omega) (hide fun w2 qs2 h2=>(ih1 (by omega)).1 hl w2 qs2 h2)
   | succ j=>
     simp only [List.getElem?_cons_succ,Ts.hasL] at hj hc
     exact (ih2 (by omega)).2 hn w ps' h6 j q c hj hc
theorem levelHas_c {P:Nat→Prop} (x:Nat) (o:List Nat) (t:Ts) (b:Nat) (w:World) (h:Lies2 P w o t b) (hs:t.sz≤100000) (hy:t.ty true):
  Calls Tryz.prog 144 #[encP b,.int .i64 x] w fun e w'=>e = .returned (.bool (t.has x))∧Bl w w':=
 lhas_c x o t b w h hs (hide fun w2 qs2 h2=>(has_all x t hs).1 hy w2 qs2 h2)
end Go.Proofs.YtbibkgcbdnldbaaGreat
namespace Go.Proofs.YtbibkgcbdnldbaaGreat
open Go.RowKit
attribute [local go_sem] mkfn
def isSumB:List Nat→Ts→Bool
 | [],.sum _ .nil=>true
 | _,_=>false
theorem isSum_a (b n m c c':Nat) (A A':Option Addr) (w:World) (h0:w.cell? ⟨b,0,none⟩= some (.slice A n c)) (h1:w.cell? ⟨b,1,none⟩= some (.slice A' m c')) (hn:n≠0∨m≠1):
  Calls Tryz.prog 139 #[encP b] w fun e w'=>e = .returned (.bool false)∧w = w':=by
 by_cases h:n = 0
 ·have hm:((m:Int)== 1)= false:=beq_eq_false_iff_ne.2 (by omega)
  subst h
  clear hn
  go_enter Tryz.func139,Tryz.ntmps139
  go_wp2_with fail
  go_ret
  exact ⟨rfl,rfl⟩
 ·have hm:((n:Int)== 0)= false:=beq_eq_false_iff_ne.2 (by omega)
  clear hn h
  go_enter Tryz.func139,Tryz.ntmps139
  go_wp2_with fail
  go_ret
  exact ⟨rfl,rfl⟩
theorem isSum_b (b c c' g p:Nat) (kk:UInt8) (A:Option Addr) (w:World) (h0:w.cell? ⟨b,0,none⟩= some (.slice A 0 c)) (h1:w.cell? ⟨b,1,none⟩= some (.slice (some ⟨g,0,none⟩) 1 c')) (h2:w.cell? ⟨g,0,none⟩= some (encP p)) (h3:w.cell? ⟨p,0,none⟩= some (.int .u8 kk.toNat)):
  Calls Tryz.prog 139 #[encP b] w fun e w'=>e = .returned (.bool (kk == 43))∧w = w':=by
 by_cases h:kk = 43
 ·subst h
  go_enter Tryz.func139,Tryz.ntmps139
  go_wp2_with fail
  go_ret
  exact ⟨rfl,rfl⟩
 ·have hm:((kk.toNat:Int)== 43)= false:=ne_int (d:=43) h
  have hr:(kk == 43)= false:=by simpa using h
  rw [hr]
  clear hr h
  go_enter Tryz.func139,Tryz.ntmps139
  go_wp2_with fail
  go_ret
  exact ⟨rfl,rfl⟩
theorem isSum_c {P:Nat→Prop} (o:List Nat) (t:Ts) (b:Nat) (w:World) (h:Lies2 P w o t b) (hy:t.ty true):
  Calls Tryz.prog 139 #[encP b] w fun e w'=>e = .returned (.bool (isSumB o t))∧w = w':=by
 obtain ⟨vo,vt,A,c,qs,p0,p1,hvt,hl,h3,h4,h5⟩:=lvl_read h
 obtain ⟨A',c',rfl⟩:=h3.1.slice
 rw [hvt] at h4
 by_cases ho:o.length≠0∨qs.length≠1
 ·have:isSumB o t = false:=by
   unfold isSumB
   split
   ·rcases ho with h | h
    ·simp at h
    ·rw [hl.out] at h;simp [Ts.len] at h
   ·rfl
  rw [this]
  exact isSum_a b _ _ _ _ _ _ w p0 p1 ho
 ·have ho1:o = []:=List.eq_nil_of_length_eq_zero (by omega)
  have ho2:qs.length = 1:=by omega
  subst ho1
  rcases h4.1.form with ⟨e,hq⟩ | ⟨g,cc,cur,e,_,_,_,_,hc⟩
  ·simp [hq] at ho2
  ·cases e
   rw [ho2] at p1
   cases t with
   | nil=>rw [show qs = [] from h5] at ho2;simp at ho2
   | un k a b' o' r n=>
     obtain ⟨p,ps',lb,vo,vt,qs',rfl,h1,h2,_⟩:=h5
     have e:isSumB [] (.un k a b' o' r n)= (k == 43):=by
      have:k≠43:=by rintro rfl;obtain ⟨_,h,_⟩:=hy;revert h;decide
      have h:(k == 43)= false:=by simpa using this
      rw [h];rfl
     rw [e]
     exact isSum_b b _ _ g p k _ w p0 p1 (hc 0 p rfl) h2.c.1
   | sum q n=>
     obtain ⟨p,ps',v,qs',rfl,h1,h2,_,_,hn⟩:=h5
     have hps:ps' = []:=by simpa using ho2
     subst hps
     have:n = .nil:=by
      have:=hn.len
      cases n <;> simp [Ts.len] at this ⊢
     subst this
     exact isSum_b b _ _ g p 43 _ w p0 p1 (hc 0 p rfl) h2.c.1
   | part o' l n=>simp [Ts.ty] at hy
end Go.Proofs.YtbibkgcbdnldbaaGreat
namespace Go.Proofs.YtbibkgcbdnldbaaGreat
open Go.RowKit
section
variable {P:Program} {ops:Array Oper} {Q:Exit→Act→World→Prop} {md:Region.Mode} {S:World→Prop} {T:Nat→Bool}
def AnyT (P:Program) (md:Region.Mode) (ops:Array Oper) (Q:Exit→Act→World→Prop) (S:World→Prop) (T:Nat→Bool):Nat→Array Bool→Act→World→Prop
 | 0,L,a,w=>Region.ready md ops L = []∧Q .normal a w
 | n + 1,L,a,w=>(Region.ready md ops L = []→Q .normal a w)∧∀ j∈Region.ready md ops L,wpOp P ops Q j (fun a' w'=>(T j = false→S w→S w')∧AnyT P md ops Q S T n (L.setIfInBounds j true) a' w') a w
theorem AnyT.any:∀ (n:Nat) (L:Array Bool) (a:Act) (w:World),AnyT P md ops Q S T n L a w→wpAny P md ops Q n L a w
 | 0,_,_,_,h=>h
 | n + 1,_,_,_,h=>⟨h.1,fun j hj=>wpOp_mono (fun _ _ h'=>AnyT.any n _ _ _ h'.2) (h.2 j hj)⟩
def waitT (md:Region.Mode) (ops:Array Oper) (T:Nat→Bool) (i:Nat):Bool:=
 (List.range ops.size).all fun j=>!T j || (match ops[j]? with | some o=>o.after.any fun e=>Region.binds md e && e.on == i | none=>true)
theorem not_ready {L:Array Bool} {i j:Nat} {oj:Oper} (hi:i∈Region.ready md ops L) (hj:j∈Region.ready md ops L) (hoj:ops[j]? = some oj):∀ e∈oj.after,Region.binds md e = true→e.on≠i:=by
 intro e he hb hon
 obtain ⟨hu,-⟩:=mem_ready.1 hi
 obtain ⟨-,o',ho',hall⟩:=mem_ready.1 hj
 obtain rfl:o' = oj:=Option.some.inj (ho'.symm.trans hoj)
 have hl:=hall e he hb
 rw [hon] at hl
 by_cases hsz:i < L.size
 ·simp [hsz] at hu hl;rw [hu] at hl;exact Bool.noConfusion hl
 ·simp [Array.getElem?_eq_none (Nat.le_of_not_lt hsz)] at hu
theorem waitT_out {L:Array Bool} {i j:Nat} (hw:waitT md ops T i = true) (hi:i∈Region.ready md ops L) (hj:j∈Region.ready md ops L):T j = false:=by
 obtain ⟨-,oj,hoj,-⟩:=mem_ready.1 hj
 have hlt:j < ops.size:=(Array.getElem?_eq_some_iff.1 hoj).1
 have h1:=List.all_eq_true.1 hw j (List.mem_range.2 hlt)
 rw [hoj] at h1
 cases hT:T j with
 | false=>rfl
 | true=>
   exfalso
   rw [hT] at h1
   simp only [Bool.not_true,Bool.false_or] at h1
   obtain ⟨e,he,hb⟩:=Array.any_eq_true'.1 h1
   simp only [Bool.and_eq_true,beq_iff_eq] at hb
   exact not_ready hi hj hoj e he hb.1 hb.2
theorem AnyT.front {R:World→Prop} {i:Nat} {o:Oper} {v:Value} (ho:ops[i]? = some o) (hns:Region.noSelect ops = true)
  (hR:∀ (L:Array Bool) (j:Nat) (w w':World),i∈Region.ready md ops L→j∈Region.ready md ops L→R w→(T j = false→S w→S w')→R w')
  (hQ:∀ c a w,Q (.panic c) (a.put o.dst v) w→Q (.panic c) a w):
  ∀ (n:Nat) (L:Array Bool) (a:Act) (w:World),
    (∀ j oj,ops[j]? = some oj→j≠i→L.getD j true = false→(∀ e∈oj.after,Region.binds md e = true→e.on≠i)→o.apart ops oj = true)→
    i∈Region.ready md ops L→YieldsIf P ops R o v a→R w→AnyT P md ops Q S T n (L.setIfInBounds i true) (a.put o.dst v) w→AnyT P md ops Q S T (n + 1) L a w:=by
 intro n
 induction n with
 | zero=>
   intro L a w hap hi hy hRw H
   refine ⟨fun h=>absurd (h ▸ hi) (by simp),fun j hj=>?_⟩
   rcases Nat.decEq j i with hne | rfl
   ·have hh:=ready_mono (listed:=L) hj hne
    rw [H.1] at hh;exact absurd hh (by simp)
   ·exact hy.wpOp ho hRw ⟨fun _ h=>h,H⟩
 | succ n ih=>
   intro L a w hap hi hy hRw H
   refine ⟨fun h=>absurd (h ▸ hi) (by simp),fun j hj=>?_⟩
   rcases Nat.decEq j i with hne | rfl
   ·obtain ⟨hun,oj,hoj,-⟩:=mem_ready.1 hj
    have sel:=Region.noSelect_spec hns
    have hb:=wpOp_putIf hoj (hap j oj hoj hne hun (not_ready hi hj hoj)) (fun cs b=>sel i o cs b ho) (fun cs b=>sel j oj cs b hoj) hQ hy (H.2 j (ready_mono hj hne))
    refine wpOp_mono (fun a' w' h3=>?_) hb
    obtain ⟨hy',hS',hK⟩:=h3
    refine ⟨hS',ih (L.setIfInBounds j true) a' w' (fun k ok hk hki hku hno=>hap k ok hk hki ?_ hno) (ready_mono hi (Ne.symm hne)) hy' (hR L j w w' hi hj hRw hS') (by rw [Array.setIfInBounds_comm _ _ hne];exact hK)⟩
    rcases Nat.decEq j k with hjk | rfl
    ·rw [getD_set_ne true hjk] at hku;exact hku
    ·exact hun
   ·exact hy.wpOp ho hRw ⟨fun _ h=>h,H⟩
theorem at_drop {i:Nat} {o:Oper} (h:(ops.toList.drop i).head? = some o):ops[i]? = some o:=by
 rw [List.head?_drop] at h;simpa using h
theorem AnyT.load {i:Nat} {o:Oper} {v:Value} {n:Nat} {L:Array Bool} {a:Act} {w:World} (ho':(ops.toList.drop i).head? = some o) (hns:Region.noSelect ops = true) (hw:waitT md ops T i = true) (hf:Region.free md ops L i = true)
  (hr:(Region.ready md ops L).contains i = true) (hQ:∀ c a w,Q (.panic c) (a.put o.dst v) w→Q (.panic c) a w) (hy:YieldsIf P ops S o v a) (hS:S w)
  (h:AnyT P md ops Q S T n (L.setIfInBounds i true) (a.put o.dst v) w):AnyT P md ops Q S T (n + 1) L a w:=
 AnyT.front (at_drop ho') hns (fun L j w w' hi hj hR hK=>hK (waitT_out hw hi hj) hR) hQ n L a w (Region.free_spec (at_drop ho') hf) (by simpa using hr) hy hS h
theorem AnyT.take {i:Nat} {o:Oper} {v:Value} {n:Nat} {L:Array Bool} {a:Act} {w:World} (ho':(ops.toList.drop i).head? = some o) (hns:Region.noSelect ops = true) (hf:Region.free md ops L i = true)
  (hr:(Region.ready md ops L).contains i = true) (hQ:∀ c a w,Q (.panic c) (a.put o.dst v) w→Q (.panic c) a w) (hy:Yields P ops o v a)
  (h:AnyT P md ops Q S T n (L.setIfInBounds i true) (a.put o.dst v) w):AnyT P md ops Q S T (n + 1) L a w:=
 AnyT.front (R:=fun _=>True) (at_drop ho') hns (fun _ _ _ _ _ _ _ _=>trivial) hQ n L a w (Region.free_spec (at_drop ho') hf) (by simpa using hr) hy.yieldsIf trivial h
theorem AnyT.ld (i:Nat) {o:Oper} {v:Value} {n:Nat} {L:Array Bool} {a:Act} {w:World} (h:AnyT P md ops Q S T n (L.setIfInBounds i true) (a.put o.dst v) w)
  (ho':(ops.toList.drop i).head? = some o:=by rfl) (hv:∀ w,S w→(execOp a.eval o).run P w = .ok (.value v) w:=by intro w hSw;(try dsimp only at hSw);go_simp;(try with_reducible rfl)) (hns:Region.noSelect ops = true:=by kernel_rfl) (hw:waitT md ops T i = true:=by kernel_rfl) (hf:Region.free md ops L i = true:=by kernel_rfl)
  (hr:(Region.ready md ops L).contains i = true:=by kernel_rfl) (hQ:∀ c a w,Q (.panic c) (a.put o.dst v) w→Q (.panic c) a w:=by exact fun _ _ _ h=>h) (hy:Region.wanted o (yielded ops a.tmps)= true:=by rfl) (hS:S w:=by assumption):AnyT P md ops Q S T (n + 1) L a w:=
 AnyT.load ho' hns hw hf hr hQ (.inl ⟨hy,hv⟩) hS h
theorem AnyT.tk (i:Nat) {o:Oper} {v:Value} {n:Nat} {L:Array Bool} {a:Act} {w:World} (h:AnyT P md ops Q S T n (L.setIfInBounds i true) (a.put o.dst v) w)
  (ho':(ops.toList.drop i).head? = some o:=by rfl) (hv:∀ w,(execOp a.eval o).run P w = .ok (.value v) w:=by intro w;go_simp;(try with_reducible rfl)) (hns:Region.noSelect ops = true:=by kernel_rfl) (hf:Region.free md ops L i = true:=by kernel_rfl)
  (hr:(Region.ready md ops L).contains i = true:=by kernel_rfl) (hQ:∀ c a w,Q (.panic c) (a.put o.dst v) w→Q (.panic c) a w:=by exact fun _ _ _ h=>h) (hy:Region.wanted o (yielded ops a.tmps)= true:=by rfl):AnyT P md ops Q S T (n + 1) L a w:=
 AnyT.take ho' hns hf hr hQ (.inl ⟨hy,hv⟩) h
theorem AnyT.one {i:Nat} {o:Oper} {n:Nat} {L:Array Bool} {a:Act} {w:World} (ho':(ops.toList.drop i).head? = some o) (hr:Region.ready md ops L = [i])
  (h:∀ K:Act→World→Prop,Hid (∀ a' w',S w'→(S w'→AnyT P md ops Q S T n (L.setIfInBounds i true) a' w')→K a' w')→if Region.wanted o (yielded ops a.tmps)= true then Oper.wp P o a w K Q else K (a.put o.dst undef) w):AnyT P md ops Q S T (n + 1) L a w:=by
 have ho:=at_drop ho'
 refine ⟨fun h0=>absurd (hr ▸ h0) (by simp),fun j hj=>?_⟩
 rw [hr] at hj
 obtain rfl:=List.mem_singleton.1 hj
 exact wpOp_step ho (fun K hK=>h K (fun a' w' hS hA=>hK a' w' ⟨fun _ _=>hS,hA hS⟩))
theorem AnyT.tail {i:Nat} {o:Oper} {n:Nat} {L:Array Bool} {a:Act} {w:World} (ho':(ops.toList.drop i).head? = some o) (hr:Region.ready md ops L = [i]) (hT:T i = true)
  (h:∀ K:Act→World→Prop,Hid (∀ a' w',AnyT P md ops Q S T n (L.setIfInBounds i true) a' w'→K a' w')→if Region.wanted o (yielded ops a.tmps)= true then Oper.wp P o a w K Q else K (a.put o.dst undef) w):AnyT P md ops Q S T (n + 1) L a w:=by
 have ho:=at_drop ho'
 refine ⟨fun h0=>absurd (hr ▸ h0) (by simp),fun j hj=>?_⟩
 rw [hr] at hj
 obtain rfl:=List.mem_singleton.1 hj
 exact wpOp_step ho (fun K hK=>h K (fun a' w' hA=>hK a' w' ⟨fun h _=>absurd (hT.symm.trans h) (by decide),hA⟩))
theorem AnyT.done {n:Nat} {L:Array Bool} {a:Act} {w:World} (hr:Region.ready md ops L = []) (h:Q .normal a w):AnyT P md ops Q S T n L a w:=by
 cases n with
 | zero=>exact ⟨hr,h⟩
 | succ n=>exact ⟨fun _=>h,fun j hj=>by rw [hr] at hj;simp at hj⟩
theorem AnyT.start {id:Nat} {a:Act} {w:World} (n:Nat) (S:World→Prop) (T:Nat→Bool) (hm:P.follows .mixedOrders = true) (hn:ops.size = n)
  (h:AnyT P .any ops Q S T n (Array.replicate n false) a w.drew):(Code.region id ops true).wp P Q a w:=by
 subst hn
 exact wp_region_any hm (AnyT.any _ _ _ _ h)
end
theorem sqa {α:Type} {l:List α} {i:Nat} {a:α}:l.toArray.setIfInBounds i a = (l.set i a).toArray:=List.setIfInBounds_toArray ..
theorem sqb {α:Type} {x:α} {xs:List α} {a:α}:(x :: xs).set 0 a = a :: xs:=rfl
theorem sqc {α:Type} {x:α} {xs:List α} {n:Nat} {a:α}:(x :: xs).set (n + 1) a = x :: xs.set n a:=rfl
end Go.Proofs.YtbibkgcbdnldbaaGreat
namespace Go.Proofs.YtbibkgcbdnldbaaGreat
open Go.RowKit
attribute [local go_sem] mkfn
attribute [local go_sem ↓] Go.wp_at_zero Go.wp_at_succ
structure Sh (w:World) (base b:Nat) (vo vt:Value) (o ps:List Nat):Prop where
 ge:base≤b
 lv:Lvl w b vo vt
 ro:RL 3 encI w base vo o
 rt:RL 95 encP w base vt ps
def shA (b:Nat) (vo vt:Value) (k:Nat):Prop:=k = b∨vo.ownBlock = some k∨vt.ownBlock = some k
theorem Sh.ne {w:World} {base b:Nat} {vo vt:Value} {o ps:List Nat} (h:Sh w base b vo vt o ps):vo.ownBlock≠some b∧vt.ownBlock≠some b∧∀ k,vo.ownBlock = some k→vt.ownBlock≠some k:=by
 have hb:=blk_shape h.lv
 refine ⟨fun e=>?_,fun e=>?_,fun k e e'=>?_⟩
 ·obtain ⟨n,h1⟩:=h.ro.shape e;rw [hb] at h1;cases h1
 ·obtain ⟨n,h1⟩:=h.rt.shape e;rw [hb] at h1;cases h1
 ·obtain ⟨n,h1⟩:=h.ro.shape e;obtain ⟨n',h2⟩:=h.rt.shape e';rw [h1] at h2;cases h2
theorem Sh.lt {w:World} {base b:Nat} {vo vt:Value} {o ps:List Nat} (h:Sh w base b vo vt o ps):∀ k,shA b vo vt k→base≤k∧k < w.heap.size:=by
 rintro k (rfl | h1 | h1)
 ·exact ⟨h.ge,lt_of_block h.lv⟩
 ·exact h.ro.lt k h1
 ·exact h.rt.lt k h1
theorem Sh.bl {w w':World} {base b:Nat} {vo vt:Value} {o ps:List Nat} (h:Sh w base b vo vt o ps) (hb:Bl w w'):Sh w' base b vo vt o ps:=⟨h.ge,blk_bl hb h.lv,h.ro.bl hb,h.rt.bl hb⟩
theorem Sh.fx {A:Nat→Prop} {w w':World} {base b:Nat} {vo vt:Value} {o ps:List Nat} (h:Sh w base b vo vt o ps) (hb:Fx A w w') (hA:∀ k,shA b vo vt k→¬ A k):Sh w' base b vo vt o ps:=
 ⟨h.ge,hb.heap (hA b (.inl rfl)) h.lv,h.ro.fx hb (fun k hk=>hA k (.inr (.inl hk))),h.rt.fx hb (fun k hk=>hA k (.inr (.inr hk)))⟩
theorem splice_c (base b b':Nat) (vo vt vo' vt':Value) (o ps o' ps':List Nat) (w:World) (h:Sh w base b vo vt o ps) (hbase:base≤w.heap.size)
  (g1:Lvl w b' vo' vt') (g2:RL 3 encI w 0 vo' o') (g3:RL 95 encP w 0 vt' ps') (n1:¬ shA b vo vt b') (n2:∀ k,vo'.ownBlock = some k→¬ shA b vo vt k) (n3:∀ k,vt'.ownBlock = some k→¬ shA b vo vt k)
  (l1:o.length + o'.length≤100000) (l2:ps.length + ps'.length≤100000):
  Calls Tryz.prog 138 #[encP b,encP b'] w fun e w'=>e = .returned (.tuple #[])∧∃ vo2 vt2,Sh w' base b vo2 vt2 (o ++ o') (ps ++ ps')∧Fx (shA b vo vt) w w'∧∀ k,shA b vo2 vt2 k→shA b vo vt k∨w.heap.size≤k:=by
 obtain ⟨p0,p1⟩:=h.lv.c
 obtain ⟨q0,q1⟩:=g1.c
 have f0:=blk_free (i:=0) h.lv
 have f1:=blk_free (i:=1) h.lv
 have H:=hide h
 have G1:=hide g1
 have G2:=hide g2
 have G3:=hide g3
 have N1:=hide n1
 have N2:=hide n2
 have N3:=hide n3
 have L1:=hide l1
 have L2:=hide l2
 clear h g1 g2 g3 n1 n2 n3 l1 l2
 go_enter Tryz.func138,Tryz.ntmps138
 go_wp2_with fail
 have L0:=H.out.ne
 have ra:=(show RL 3 encI w.drew base vo o from H.out.ro)
 have rb:=(show RL 3 encI w.drew 0 vo' o' from G2.out).src
 have HB:Hid (base≤w.drew.heap.size):=hbase
 have HL0:=hide L0
 have RA:=hide ra
 have RB:=hide rb
 clear L0 ra rb hbase
 refine AnyT.start 26 (fun w'=>w'.cell? ⟨b,0,none⟩= some vo∧w'.cell? ⟨b,1,none⟩= some vt∧w'.cell? ⟨b',0,none⟩= some vo'∧w'.cell? ⟨b',1,none⟩= some vt') (fun j=>[22,25].contains j) (by kernel_rfl) (by rfl) ?_
 have hHeld:(fun w':World=>w'.cell? ⟨b,0,none⟩= some vo∧w'.cell? ⟨b,1,none⟩= some vt∧w'.cell? ⟨b',0,none⟩= some vo'∧w'.cell? ⟨b',1,none⟩= some vt') w.drew:=⟨p0,p1,q0,q1⟩
 refine AnyT.tk 0 ?_
 refine AnyT.tk 1 ?_
 refine AnyT.tk 2 ?_
 refine AnyT.tk 3 ?_
 refine AnyT.tk 4 ?_
 refine AnyT.ld 5 ?_
 refine AnyT.tk 6 ?_
 refine AnyT.tk 7 ?_
 refine AnyT.tk 8 ?_
 refine AnyT.ld 9 ?_
 refine AnyT.tk 11 ?_
 refine AnyT.tk 12 ?_
 refine AnyT.tk 13 ?_
 refine AnyT.ld 14 ?_
 refine AnyT.tk 15 ?_
 refine AnyT.tk 16 ?_
 refine AnyT.tk 17 ?_
 refine AnyT.ld 18 ?_
 try simp only [Act.put,sqa,sqb,sqc]
 refine AnyT.one (i:=10) rfl (by kernel_rfl) (fun K hK=>?_)
 (refine rl_step rowInt one_encI _ (.tmp 9) (.tmp 13) base vo vo' o o' rfl rfl (by simp [Act.eval]) (by simp [Act.eval]) RA.out RB.out L1.out HB.out ?_;intro v2 w2 hs2 hg2 ha2;obtain ⟨A2,c2,rfl⟩:=hs2.slice;replace hs2:=hide hs2;replace hg2:=hide hg2;replace ha2:=hide ha2)
 refine hK.out _ _ ?_ ?_
 ·exact ⟨World.grownBy.cell hg2.out hHeld.1 (fun e=>HL0.out.1 e.symm),World.grownBy.cell hg2.out hHeld.2.1 (fun e=>HL0.out.1 e.symm),World.grownBy.cell hg2.out hHeld.2.2.1 (fun e=>N1.out (.inr (.inl e.symm))),World.grownBy.cell hg2.out hHeld.2.2.2 (fun e=>N1.out (.inr (.inl e.symm)))⟩
 intro hHeld
 clear hK K
 try simp only [Act.put,sqa,sqb,sqc]
 refine AnyT.one (i:=19) rfl (by kernel_rfl) (fun K hK=>?_)
 (refine rl_step rowThr one_encP w2 (.tmp 18) (.tmp 22) base vt vt' ps ps' rfl rfl (by simp [Act.eval]) (by simp [Act.eval]) ((show RL 95 encP w.drew base vt ps from H.out.rt).fx (fx_grown hg2.out) (fun k hk e=>HL0.out.2.2 k e hk)) (RSrc.fx (show RL 95 encP w.drew 0 vt' ps' from G3.out) (fx_grown hg2.out) (fun k hk e=>N3.out k hk (.inr (.inl e)))) L2.out (Nat.le_trans HB.out hg2.out.size) ?_;intro v3 w3 hs3 hg3 ha3;obtain ⟨A3,c3,rfl⟩:=hs3.slice;replace hs3:=hide hs3;replace hg3:=hide hg3;replace ha3:=hide ha3)
 refine hK.out _ _ ?_ ?_
 ·exact ⟨World.grownBy.cell hg3.out hHeld.1 (fun e=>HL0.out.2.1 e.symm),World.grownBy.cell hg3.out hHeld.2.1 (fun e=>HL0.out.2.1 e.symm),World.grownBy.cell hg3.out hHeld.2.2.1 (fun e=>N1.out (.inr (.inr e.symm))),World.grownBy.cell hg3.out hHeld.2.2.2 (fun e=>N1.out (.inr (.inr e.symm)))⟩
 intro hHeld
 clear hK K
 try simp only [Act.put,sqa,sqb,sqc]
 have hlv:=(fx_grown hg3.out).heap (fun e=>HL0.out.2.1 e) ((fx_grown hg2.out).heap (fun e=>HL0.out.1 e) (show Lvl w.drew b vo vt from H.out.lv))
 have f0:=blk_free (i:=0) hlv
 have f1:=blk_free (i:=1) hlv
 obtain ⟨p0,p1,q0,q1⟩:=hHeld
 have HLV:=hide hlv
 clear hlv
 refine AnyT.tk 20 ?_
 refine AnyT.tk 21 ?_
 try simp only [Act.put,sqa,sqb,sqc]
 refine AnyT.tail (i:=22) rfl (by kernel_rfl) (by rfl) (fun K hK=>?_)
 go_simp
 refine hK.out _ _ ?_
 clear hK K
 try simp only [Act.put,sqa,sqb,sqc]
 refine AnyT.tk 23 ?_
 refine AnyT.tk 24 ?_
 try simp only [Act.put,sqa,sqb,sqc]
 refine AnyT.tail (i:=25) rfl (by kernel_rfl) (by rfl) (fun K hK=>?_)
 go_simp
 refine hK.out _ _ ?_
 clear hK K
 try simp only [Act.put,sqa,sqb,sqc]
 refine AnyT.done (by kernel_rfl) ?_
 go_wp2_with fail
 go_end0
 have e1:(o ++ o').length = o.length + o'.length:=by simp
 have e2:(ps ++ ps').length = ps.length + ps'.length:=by simp
 rw [e1] at hs2 ha2
 rw [e2] at hs3 ha3
 have b2:∀ k,(Value.slice A2 (o.length + o'.length) c2).ownBlock = some k→vo.ownBlock = some k∨w.heap.size≤k:=fun k hk=>by
  rcases ha2.out with h | h
  ·exact .inl (h ▸ hk)
  ·rw [h] at hk;cases hk;exact .inr (Nat.le_refl _)
 have b3:∀ k,(Value.slice A3 (ps.length + ps'.length) c3).ownBlock = some k→vt.ownBlock = some k∨w.heap.size≤k:=fun k hk=>by
  rcases ha3.out with h | h
  ·exact .inl (h ▸ hk)
  ·rw [h] at hk;cases hk;exact .inr hg2.out.size
 have m2:∀ k,(Value.slice A2 (o.length + o'.length) c2).ownBlock = some k→vt.ownBlock≠some k∧k < w2.heap.size:=fun k hk=>by
  refine ⟨fun e=>?_,(hs2.out.lt k hk).2⟩
  rcases b2 k hk with h | h
  ·exact HL0.out.2.2 k h e
  ·have:=(H.out.rt.lt k e).2;omega
 refine ⟨rfl,.slice A2 (o.length + o'.length) c2,.slice A3 (ps.length + ps'.length) c3,⟨H.out.ge,?_,?_,?_⟩,?_,?_⟩
 ·exact blk_set (blk_set HLV.out _) _
 ·have h1:=hs2.out.fx (fx_grown hg3.out) (fun k hk e=>(m2 k hk).1 e)
  refine (h1.fx (fx_set _ _ _ _) (fun k hk e=>?_)).fx (fx_set _ _ _ _) (fun k hk e=>?_)
  all_goals
   obtain ⟨n,hn⟩:=h1.shape hk
   rw [e,blk_shape HLV.out] at hn
   cases hn
 ·refine (hs3.out.fx (fx_set _ _ _ _) (fun k hk e=>?_)).fx (fx_set _ _ _ _) (fun k hk e=>?_)
  all_goals
   obtain ⟨n,hn⟩:=hs3.out.shape hk
   rw [e,blk_shape HLV.out] at hn
   cases hn
 ·have h1:Fx (shA b vo vt) w w2:=(Fx.of_bl (bl_drew (Bl.refl w))).trans (fx_grown hg2.out) (fun k _ h=>.inr (.inl h))
  have h2:Fx (shA b vo vt) w w3:=h1.trans (fx_grown hg3.out) (fun k _ h=>.inr (.inr h))
  exact (h2.trans (fx_set _ _ _ _) (fun k _ h=>.inl h)).trans (fx_set _ _ _ _) (fun k _ h=>.inl h)
 ·rintro k (h | h | h)
  ·exact .inl (.inl h)
  ·exact (b2 k h).imp (fun h=>.inr (.inl h)) id
  ·exact (b3 k h).imp (fun h=>.inr (.inr h)) id
end Go.Proofs.YtbibkgcbdnldbaaGreat
namespace Go.Proofs.YtbibkgcbdnldbaaGreat
open Go.RowKit
theorem sm_sim : ∀ (d : Nat) (t : Tm) (fr : Str) (s : Nt) (ρ : UInt8 → Nat), t.size ≤ d → Fit fr t → s.kd → s.ds → Rep t ρ s →
  ∃ P:List (Tm × Nt),smF d t = P.map (·.1)∧smN s = P.map (·.2)∧∀ p∈P,Rep p.1 ρ p.2∧Fit fr p.1∧p.1.size≤t.size∧p.2.kd∧p.2.ds∧(∀ z∈usedS p.1,z∈usedS t)
 | 0,t,_,_,_,h,_,_,_,_=>by have:=size_pos t;omega
 | d + 1, t, fr, s, ρ, hd, hf, hk, hs, hr => by
   obtain ⟨s1,hr1,hk1,hs1,-,e1⟩:=peel_sim hk hs hr
   have hin:=smN_in hk hs
   rw [← e1] at hin ⊢
   have hps:=peel_size t
   have hpf:=hf.peel
   have hpu:=fun z=>@peel_used z wideB t hf.ok
   unfold smF
   match hpt:peel t with
   | .zero=>
     rw [hpt] at hr1
     rw [smN_dead hk1 hr1]
     exact ⟨[],rfl,rfl,by simp⟩
   | .un k a b p =>
     dsimp only
     rw [hpt] at hr1 hps hpf hpu
     by_cases hdd:deadT (.un k a b p)= true
     ·rw [if_pos hdd,smN_dead hk1 (by rw [hr1.dead,hdd])]
      exact ⟨[],rfl,rfl,by simp⟩
     ·rw [if_neg hdd]
      have hdd2:=hdd
      have hsd:=hr1.dead
      have hr2:=hr1
      rcases hr1 with ⟨h1,h2⟩ | ⟨a',b',s',rfl,h⟩
      ·exact (hdd h1).elim
      have hsm : smN (.un k a' b' s') = [.un k a' b' s'] := by
       have hne : ¬ (k = 61 ∧ a' = b') := by
        rintro ⟨rfl,rfl⟩
        have hab:a = b:=by
         rcases h with ⟨hk2,_⟩ | ⟨hk2,_⟩
         ·rcases hk2 with ⟨h,_⟩ | h <;> cases h
         ·rcases hk2 with ⟨h,_⟩ | ⟨_,⟨h,_⟩ | ⟨_,_,_,h⟩⟩ | h | h
          ·cases h
          ·exact h
          ·exact (h rfl).elim
          ·cases h
          ·cases h
        subst hab
        have : ∀ t : Tm, peel t = .un 61 a a p → False := by
         intro t
         induction t with
         | zero=>intro h;cases h
         | un k' a' b' p' ih=>
           intro h
           simp only [peel] at h
           split at h
           ·exact ih h
           ·split at h
            ·exact ih h
            ·rename_i h1 h2
             cases h;exact h1 ⟨rfl,rfl⟩
         | bin k' p' q' ih1 ih2=>
           intro h
           simp only [peel] at h
           split at h
           ·exact ih2 h
           ·split at h
            ·exact ih1 h
            ·cases h
        exact this t hpt
       simp only [smN]
       by_cases h35:k = 35
       ·subst h35
        rcases h with ⟨_,hfr,h⟩ | ⟨hk2,_⟩
        case inr=>rcases hk2 with ⟨h,_⟩ | ⟨h,_⟩ | h | h <;> cases h
        have hbu : b ∈ usedS p := by
         have : ∀ t : Tm, peel t = .un 35 a b p → b ∉ usedS p → False := by
          intro t
          induction t with
          | zero=>intro h;cases h
          | un k' a' b' p' ih=>
            intro h hb
            simp only [peel] at h
            split at h
            ·exact ih h hb
            ·split at h
             ·exact ih h hb
             ·rename_i h1 h2
              cases h;exact h2 ⟨rfl,hb⟩
          | bin k' p' q' ih1 ih2=>
            intro h hb
            simp only [peel] at h
            split at h
            ·exact ih2 h hb
            ·split at h
             ·exact ih1 h hb
             ·cases h
         exact Classical.byContradiction fun hb=>this t hpt hb
        rw [if_pos rfl,if_pos (h.used.2 ⟨b,hbu,by simp [upd]⟩)]
       ·rw [if_neg h35,if_neg hne,hsd];simp [hdd2]
      rw [hsm] at hin ⊢
      refine ⟨[(.un k a b p,.un k a' b' s')],rfl,rfl,?_⟩
      intro pp hpp
      rw [List.mem_singleton] at hpp;subst hpp
      have:=hin _ (List.mem_singleton.2 rfl)
      exact ⟨hr2,hpf,hps,this.1,this.2.1,fun z hz=>(hpu z).1 hz⟩
   | .bin k p q =>
     dsimp only
     have hpq : deadT p = false ∧ deadT q = false := by
      have : ∀ t : Tm, peel t = .bin k p q → deadT p = false ∧ deadT q = false := by
       intro t
       induction t with
       | zero=>intro h;cases h
       | un k' a' b' p' ih=>
         intro h
         simp only [peel] at h
         split at h
         ·exact ih h
         ·split at h
          ·exact ih h
          ·cases h
       | bin k' p' q' ih1 ih2=>
         intro h
         simp only [peel] at h
         split at h
         ·exact ih2 h
         ·split at h
          ·exact ih1 h
          ·rename_i e1 e2
           cases h;exact ⟨by simpa using e1,by simpa using e2⟩
      exact this t hpt
     have hdd:deadT (.bin k p q)= false:=by simp [deadT,hpq.1]
     rw [hpt] at hr1 hps hpf hpu
     have hr2:=hr1
     rcases hr1 with ⟨h1,h2⟩ | ⟨s',r',rfl,h1,h2⟩
     ·rw [hdd] at h1;cases h1
     simp only [Tm.size] at hps
     have hsm:smN (.bin k s' r')= if k = 43 then smN s' ++ smN r' else [.bin k s' r']:=by
      simp only [smN];rw [h1.dead,h2.dead,hpq.1,hpq.2];simp
     rw [hsm] at hin ⊢
     by_cases h43:k = 43
     ·rw [if_pos h43] at hin ⊢
      rw [if_pos h43]
      obtain ⟨f1,f2⟩:=hpf.bin
      obtain ⟨P,p1,p2,p3⟩:=sm_sim d p fr s' ρ (by omega) f1 hk1.2.1 hs1.2.2.2.1 h1
      obtain ⟨Q,q1,q2,q3⟩:=sm_sim d q fr r' ρ (by omega) f2 hk1.2.2 hs1.2.2.2.2 h2
      refine ⟨P ++ Q,by rw [p1,q1,List.map_append],by rw [p2,q2,List.map_append],?_⟩
      intro pp hpp
      have hm:pp.2∈smN s' ++ smN r':=by rw [p2,q2,← List.map_append];exact List.mem_map.2 ⟨pp,hpp,rfl⟩
      have hi:=hin _ hm
      rcases List.mem_append.1 hpp with h | h
      ·obtain ⟨a1,a2,a3,a4,a5,a6⟩:=p3 pp h
       exact ⟨a1,a2,by omega,a4,a5,fun z hz=>(hpu z).1 (mem_used_bin.2 (.inl (a6 z hz)))⟩
      ·obtain ⟨a1,a2,a3,a4,a5,a6⟩:=q3 pp h
       exact ⟨a1,a2,by omega,a4,a5,fun z hz=>(hpu z).1 (mem_used_bin.2 (.inr (a6 z hz)))⟩
     ·rw [if_neg h43] at hin ⊢
      rw [if_neg h43,hdd]
      refine ⟨[(.bin k p q,.bin k s' r')],rfl,rfl,?_⟩
      intro pp hpp
      rw [List.mem_singleton] at hpp;subst hpp
      have:=hin _ (List.mem_singleton.2 rfl)
      exact ⟨hr2,hpf,by simp only [Tm.size];omega,this.1,this.2.1,fun z hz=>(hpu z).1 hz⟩
def thrF (W:Tm→Str→Bool × Str) (t:Tm) (tk:Str):Bool × Str:=
 match t with
 | .zero=>(false,[])
 | .un k a b p=>
   if k = 63 then ((W (renF p.size p b (freshW tk)) (add (freshW tk) tk)).1,a :: 63 :: freshW tk :: 46 :: (W (renF p.size p b (freshW tk)) (add (freshW tk) tk)).2)
   else ((W p tk).1,(if k = 61 then matchS a b else hd k a b)++ (W p tk).2)
 | .bin k p q=>(((smF (Tm.bin k p q).size (.bin k p q)).map (fun u=>W u tk)).any (·.1),listS 43 (((smF (Tm.bin k p q).size (.bin k p q)).map (fun u=>W u tk)).map (·.2)))
def renAll:Tm→List (UInt8 × UInt8)→Tm
 | t,[]=>t
 | t,(x,y):: l=>renAll (renF t.size t x y) l
def freshL:Nat→Str→Str
 | 0,_=>[]
 | n + 1,tk=>freshW tk :: freshL n (add (freshW tk) tk)
def allL:Nat→Str→Str
 | 0,tk=>tk
 | n + 1,tk=>allL n (add (freshW tk) tk)
def headL (l:Str):Str:=l.flatMap (fun c=>[35,c,46])
def pickE:Str→List (UInt8 × Str)
 | []=>[]
 | x :: l=>(x,l):: (pickE l).map (fun p=>(p.1,x :: p.2))
def ordN:Nat→Str→List Str
 | 0,_=>[[]]
 | n + 1,s=>(pickE s).flatMap (fun p=>(ordN n p.2).map (p.1 :: ·))
def namedF (W:Tm→Str→Bool × Str) (ths:List Tm) (o letters all:Str):Bool × Str:=
 ((ths.map (fun t=>thrF W (renAll t (o.zip letters)) all)).any (·.1),listS 38 ((ths.map (fun t=>thrF W (renAll t (o.zip letters)) all)).map (·.2)))
def ordsF (once:Bool) (front:Str):List Str:=if once then (ordN front.length front).take 1 else ordN front.length front
def frontF (t:Tm):Str:=(gath t.size t []).1.filter (fun c=>decide (c∈(gath t.size t []).2.foldl (fun u t=>both u (usedS t)) []))
def wholeF (once : Bool) : Nat → Tm → Str → Bool × Str
 | 0,_,_=>(false,[48])
 | d + 1,t,tk=>
   if (gath t.size t []).2 = [] then (false,[48])
   else if 5 < (frontF t).length then (true,[48])
   else
    let rs:=(ordsF once (frontF t)).map (fun o=>namedF (wholeF once d) (gath t.size t []).2 o (freshL (frontF t).length tk) (allL (frontF t).length tk))
    (rs.any (·.1),headL (freshL (frontF t).length tk)++ leastS (rs.map (·.2)))
theorem mem_pickE {s:Str}:∀ {x:UInt8} {r:Str},(x,r)∈pickE s↔∃ a b,s = a ++ x :: b∧r = a ++ b:=by
 induction s with
 | nil=>intro x r;simp [pickE]
 | cons y l ih=>
   intro x r
   simp only [pickE,List.mem_cons,List.mem_map,Prod.exists,Prod.mk.injEq]
   constructor
   ·rintro (⟨rfl,rfl⟩ | ⟨x',r',h,rfl,rfl⟩)
    ·exact ⟨[],_,rfl,rfl⟩
    ·obtain ⟨a,b,rfl,rfl⟩:=ih.1 h
     exact ⟨y :: a,b,rfl,rfl⟩
   ·rintro ⟨a,b,h,rfl⟩
    cases a with
    | nil=>simp only [List.nil_append,List.cons.injEq] at h;exact .inl ⟨h.1.symm,by simp [h.2]⟩
    | cons z a=>
      simp only [List.cons_append,List.cons.injEq] at h
      obtain ⟨rfl,rfl⟩:=h
      exact .inr ⟨x,a ++ b,ih.2 ⟨a,b,rfl,rfl⟩,rfl,rfl⟩
theorem mem_ordN:∀ {n:Nat} {s o:Str},s.length = n→(o∈ordN n s↔o.Perm s)
 | 0,s,o,h=>by
   have:s = []:=List.eq_nil_of_length_eq_zero h
   subst this;simp [ordN]
 | n + 1,s,o,h=>by
   simp only [ordN,List.mem_flatMap,List.mem_map,Prod.exists]
   constructor
   ·rintro ⟨x,r,hp,o',ho,rfl⟩
    obtain ⟨a,b,rfl,rfl⟩:=mem_pickE.1 hp
    have:=(mem_ordN (n:=n) (s:=a ++ b) (by simp at h ⊢;omega)).1 ho
    exact (List.Perm.cons x this).trans List.perm_middle.symm
   ·intro hp
    cases o with
    | nil=>rw [List.nil_perm.1 hp] at h;simp at h
    | cons x o=>
      obtain ⟨a,b,rfl⟩:=List.append_of_mem (hp.mem_iff.1 (List.mem_cons_self))
      refine ⟨x,a ++ b,mem_pickE.2 ⟨a,b,rfl,rfl⟩,o,?_,rfl⟩
      exact (mem_ordN (n:=n) (s:=a ++ b) (by simp at h ⊢;omega)).2 (List.Perm.cons_inv (hp.trans List.perm_middle))
theorem ords_mem {once:Bool} {front o:Str} (h:o∈ordsF once front):o.Perm front:=by
 unfold ordsF at h
 split at h
 ·exact (mem_ordN rfl).1 (List.mem_of_mem_take h)
 ·exact (mem_ordN rfl).1 h
theorem ords_ne (once:Bool) (front:Str):ordsF once front≠[]:=by
 have h:ordN front.length front≠[]:=List.ne_nil_of_mem ((mem_ordN rfl).2 (.refl front))
 unfold ordsF
 split
 ·intro e
  cases hh:ordN front.length front with
  | nil=>exact h hh
  | cons x l=>rw [hh] at e;simp at e
 ·exact h
def EqS (s t:Str):Prop:=∀ c,c∈s↔c∈t
theorem beyond_congr {s t:Str} (h:EqS s t):∀ n c,beyond s n c = beyond t n c
 | 0,_=>rfl
 | n + 1,c=>by unfold beyond;rw [beyond_congr h n];simp only [h (UInt8.ofNat c)]
theorem freshW_congr {s t:Str} (h:EqS s t):freshW s = freshW t:=by
 unfold freshW;rw [freshS_congr (fun d _=>h d),beyond_congr h]
theorem EqS.same {s t:Str} (h:EqS s t):SameS s t:=fun d _=>h d
theorem EqS.add {s t:Str} (h:EqS s t) (c:UInt8):EqS (add c s) (c :: t):=fun d=>by rw [mem_add,List.mem_cons,h d]
theorem isF_W:IsF freshW:=fun s c h=>freshW_some h
theorem isW_W:IsW freshW:=fun s h=>by
 have:=freshW_beyond h
 unfold okB;simp;omega
theorem head_freshL:∀ {n:Nat} {tk tk':Str},EqS tk tk'→headL (freshL n tk)= headS freshW n tk'
 | 0,_,_,_=>rfl
 | n + 1,tk,tk',h=>by
   have:=@head_freshL n _ _ (h.add (freshW tk))
   simp only [freshL,headL,List.flatMap_cons,headS]
   rw [← freshW_congr h]
   rw [headL] at this
   rw [this];rfl
theorem all_take:∀ {n:Nat} {tk tk':Str},EqS tk tk'→EqS (allL n tk) (takeS freshW n tk')
 | 0,_,_,h=>h
 | n + 1,tk,tk',h=>by
   simp only [allL,takeS]
   rw [← freshW_congr h]
   exact all_take (h.add _)
theorem mem_allL {c:UInt8}:∀ {n:Nat} {tk:Str},c∈allL n tk↔c∈tk∨c∈freshL n tk
 | 0,tk=>by simp [allL,freshL]
 | n + 1,tk=>by simp only [allL,freshL,mem_allL (n:=n),mem_add,List.mem_cons];grind
theorem freshL_len:∀ (n:Nat) (tk:Str),(freshL n tk).length = n
 | 0,_=>rfl
 | n + 1,tk=>by simp [freshL,freshL_len n]
theorem freshL_new:∀ {n:Nat} {tk:Str},badS freshW n tk = false→(freshL n tk).Nodup∧∀ c∈freshL n tk,c∉tk∧smallB c = true
 | 0,_,_=>by simp [freshL]
 | n + 1, tk, h => by
   simp only [badS,Bool.or_eq_false_iff] at h
   have hb:badS freshW n (add (freshW tk) tk)= false:=by
    rw [badS_same isF_W isF_W n (t:=freshW tk :: tk) (fun d _=>by rw [mem_add,List.mem_cons])];exact h.2
   obtain ⟨h1,h2⟩:=freshL_new hb
   cases hs:freshS tk with
   | none=>rw [hs] at h;cases h.1
   | some c=>
     have hc:=freshS_some hs
     rw [← freshW_some hs] at hc
     simp only [freshL]
     refine ⟨List.nodup_cons.2 ⟨fun hm=>(h2 _ hm).1 (mem_add.2 (.inl rfl)),h1⟩,?_⟩
     intro d hd
     rcases List.mem_cons.1 hd with rfl | hd
     ·exact ⟨hc.2.1,hc.1⟩
     ·exact ⟨fun hm=>(h2 d hd).1 (mem_add.2 (.inr hm)),(h2 d hd).2⟩
theorem freshL_wide:∀ {n:Nat} {tk:Str} {c:UInt8},c∈freshL n tk→wideB c = true∧isGreat c = false
 | 0,_,_,h=>by simp [freshL] at h
 | n + 1,tk,c,h=>by
   simp only [freshL,List.mem_cons] at h
   rcases h with rfl | h
   ·exact ⟨freshW_wide _,fresh_nbg _⟩
   ·exact freshL_wide h
theorem bind_out {o:List Nat}:∀ {e:Nat→UInt8} {tk:Str} {x:Nat},x∉o→bindS freshW o e tk x = e x:=by
 induction o with
 | nil=>intros;rfl
 | cons y o ih=>
   intro e tk x h
   rw [List.mem_cons,not_or] at h
   simp only [bindS]
   rw [ih h.2];simp [updN,h.1]
theorem bind_in {ρ:UInt8→Nat}:∀ {o:Str} {e:Nat→UInt8} {tk tk':Str} {y l:UInt8},EqS tk tk'→(o.map ρ).Nodup→(y,l)∈o.zip (freshL o.length tk)→bindS freshW (o.map ρ) e tk' (ρ y)= l
 | [],_,_,_,_,_,_,_,h=>by simp at h
 | x :: o,e,tk,tk',y,l,he,hn,h=>by
   simp only [List.map_cons,List.nodup_cons] at hn
   simp only [List.length_cons,freshL,List.zip_cons_cons,List.mem_cons,Prod.mk.injEq] at h
   simp only [List.map_cons,bindS]
   rcases h with ⟨rfl,rfl⟩ | h
   ·rw [bind_out hn.1,freshW_congr he];simp [updN]
   ·have:=he.add (freshW tk)
    rw [← freshW_congr he]
    exact bind_in this hn.2 h
theorem renAll_size:∀ (L:List (UInt8 × UInt8)) (t:Tm),(renAll t L).size = t.size
 | [],_=>rfl
 | (x,y):: L,t=>by rw [renAll,renAll_size L,ren_size]
theorem renAll_sim:∀ (L:List (UInt8 × UInt8)) (t:Tm) (ρ:UInt8→Nat) (s:Nt) (fr:Str),Fit (L.map (·.1)++ fr) t→Rep t ρ s→(L.map (·.1)).Nodup→(L.map (·.2)).Nodup→
  (∀ l∈L.map (·.2),l∉usedS t∧smallB l = true)→(∀ y∈L.map (·.1),isGreat y = true)→
  ∃ ρ',Rep (renAll t L) ρ' s∧Fit fr (renAll t L)∧(∀ p∈L,ρ' p.2 = ρ p.1)∧(∀ z,z∉L.map (·.2)→ρ' z = ρ z)∧
    (∀ z∈usedS (renAll t L),z∈L.map (·.2)∨(z∈usedS t∧z∉L.map (·.1)))
 | [],t,ρ,s,fr,hf,hr,_,_,_,_=>⟨ρ,hr,by simpa [renAll] using hf,by simp,fun _ _=>rfl,fun z hz=>.inr ⟨hz,by simp⟩⟩
 | (x,y):: L,t,ρ,s,fr,hf,hr,n1,n2,hl,hg=>by
   simp only [List.map_cons,List.nodup_cons] at n1 n2
   simp only [List.map_cons,List.mem_cons,forall_eq_or_imp] at hl hg
   obtain ⟨⟨hy1,hy2⟩,hl⟩:=hl
   have hyg:isGreat y = false:=by unfold smallB at hy2;unfold isGreat;simp at hy2 ⊢;omega
   have hxy:x≠y:=by rintro rfl;rw [hg.1] at hyg;cases hyg
   have hu:=fun z=>(ren_used t.size t x y z hxy (Nat.le_refl _) hf.narrow).1
   have hf':Fit (L.map (·.1)++ fr) (renF t.size t x y):=Fit.ren_gone (by simpa using hf) hxy (small_wide hy2) hyg
   have hr':Rep (renF t.size t x y) (upd ρ y (ρ x)) s:=by
    refine Rep.ren _ _ _ _ _ _ (Nat.le_refl _) hf.narrow (hr.congr fun z hz=>?_)
    have hzy:z≠y:=by rintro rfl;exact hy1 hz
    unfold upd
    by_cases e:z = x
    ·subst e;simp
    ·simp [e,hzy]
   obtain ⟨ρ',g1,g2,g3,g4,g5⟩:=renAll_sim L (renF t.size t x y) (upd ρ y (ρ x)) s fr hf' hr' n1.2 n2.2
    (fun l hm=>⟨fun h=>by
     rcases hu l h with ⟨h1,_⟩ | ⟨rfl,_⟩
     ·exact (hl l hm).1 h1
     ·exact n2.1 hm,(hl l hm).2⟩) hg.2
   refine ⟨ρ',g1,g2,?_,?_,?_⟩
   ·intro p hp
    rcases List.mem_cons.1 hp with rfl | hp
    ·rw [g4 _ n2.1];simp [upd]
    ·rw [g3 p hp]
     have:p.1≠y:=by
      intro e
      have:=hg.2 p.1 (List.mem_map.2 ⟨p,hp,rfl⟩)
      rw [e,hyg] at this;cases this
     simp [upd,this]
   ·intro z hz
    simp only [List.map_cons,List.mem_cons,not_or] at hz
    rw [g4 z hz.2];simp [upd,hz.1]
   ·intro z hz
    simp only [List.map_cons,List.mem_cons,not_or]
    rcases g5 z hz with h | ⟨h1,h2⟩
    ·exact .inl (.inr h)
    ·rcases hu z h1 with ⟨h3,h4⟩ | ⟨rfl,_⟩
     ·exact .inr ⟨h3,h4,h2⟩
     ·exact .inl (.inl rfl)
structure Ok (once:Bool) (r:Bool × Str) (bd:Bool) (M A:Nat) (x:Str):Prop where
 good:bd = false→r.1 = decide (5 < M)∧(r.1 = false→(once = false→r.2 = x)∧r.2.count 35 = A)
 bad:bd = true→once = false→r.1 = true∨r.2.all okB = false
theorem Ok.pre {once:Bool} {r:Bool × Str} {bd:Bool} {M A:Nat} {x:Str} (h:Ok once r bd M A x) (p:Str) (hp:p.count 35 = 0):Ok once (r.1,p ++ r.2) bd M A (p ++ x):=by
 refine ⟨fun hb=>?_,fun hb ho=>?_⟩
 ·obtain ⟨h1,h2⟩:=h.good hb
  refine ⟨h1,fun hr=>?_⟩
  obtain ⟨h3,h4⟩:=h2 hr
  exact ⟨fun ho=>by rw [h3 ho],by rw [List.count_append,hp,h4,Nat.zero_add]⟩
 ·exact (h.bad hb ho).imp id (fun h=>by simp [h])
theorem join_count {k:UInt8} (hk:k≠35):∀ l:List Str,(joinS k l).count 35 = (l.map (List.count 35)).sum
 | []=>rfl
 | [x]=>by simp [joinS]
 | x :: y :: l=>by
   have:=join_count hk (y :: l)
   simp only [joinS,List.count_cons,List.count_append,this,List.map_cons,List.sum_cons]
   simp [hk]
theorem list_count {k:UInt8} (hk:k≠35) (l:List Str):(listS k l).count 35 = (l.map (List.count 35)).sum:=by
 unfold listS
 rw [join_count hk]
 exact ((List.mergeSort_perm l leB).map _).sum_nat
theorem maxL_lt {n:Nat}:∀ {l:List Nat},n < maxL l↔∃ x∈l,n < x
 | []=>by simp [maxL]
 | x :: l=>by
   have:=@maxL_lt n l
   simp only [maxL,List.mem_cons,exists_eq_or_imp,← this];omega
theorem Ok.list {α:Type} {once:Bool} {k:UInt8} (hk:k≠35) (r:α→Bool × Str) (bd:α→Bool) (M A:α→Nat) (x:α→Str) (L:List α) (h:∀ a∈L,Ok once (r a) (bd a) (M a) (A a) (x a)):
  Ok once ((L.map r).any (·.1),listS k ((L.map r).map (·.2))) (L.any bd) (maxL (L.map M)) ((L.map A).sum) (listS k (L.map x)):=by
 refine ⟨fun hb=>?_,fun hb ho=>?_⟩
 ·have hb:∀ a∈L,bd a = false:=by simpa using hb
  refine ⟨?_,fun hr=>?_⟩
  ·rw [Bool.eq_iff_iff]
   simp only [List.any_eq_true,List.mem_map,decide_eq_true_eq,maxL_lt]
   constructor
   ·rintro ⟨_,⟨a,ha,rfl⟩,h1⟩
    rw [((h a ha).good (hb a ha)).1] at h1
    exact ⟨_,⟨a,ha,rfl⟩,by simpa using h1⟩
   ·rintro ⟨_,⟨a,ha,rfl⟩,h1⟩
    refine ⟨_,⟨a,ha,rfl⟩,?_⟩
    rw [((h a ha).good (hb a ha)).1];simpa using h1
  ·have hr:∀ a∈L,(r a).1 = false:=by simpa using hr
   refine ⟨fun ho=>?_,?_⟩
   ·show listS k ((L.map r).map (·.2))= _
    rw [List.map_map]
    congr 1
    refine List.map_congr_left fun a ha=>?_
    exact (((h a ha).good (hb a ha)).2 (hr a ha)).1 ho
   ·show (listS k ((L.map r).map (·.2))).count 35 = _
    rw [list_count hk,List.map_map,List.map_map]
    congr 1
    refine List.map_congr_left fun a ha=>?_
    exact (((h a ha).good (hb a ha)).2 (hr a ha)).2
 ·obtain ⟨a,ha,hba⟩:=List.any_eq_true.1 hb
  rcases (h a ha).bad hba ho with h1 | h1
  ·exact .inl (List.any_eq_true.2 ⟨_,List.mem_map.2 ⟨a,ha,rfl⟩,h1⟩)
  ·exact .inr (list_bad ⟨_,List.mem_map.2 ⟨_,List.mem_map.2 ⟨a,ha,rfl⟩,rfl⟩,h1⟩)
def lvBd (s:Nt) (tk:Str):Bool:=levelB freshW (lv s).1 (lv s).2.isNil ((lv s).2.bd freshW) tk
def lvM (s:Nt):Nat:=max (lv s).1.length (lv s).2.frM
def lvA (s:Nt):Nat:=(lv s).1.length + (lv s).2.frA
def lvT (s:Nt) (e:Nat→UInt8) (tk:Str):Str:=levelS freshW (lv s).1 (lv s).2.isNil ((lv s).2.nm freshW) e tk
structure Set (t:Tm) (s:Nt) (ρ:UInt8→Nat) (e:Nat→UInt8) (tk tk':Str):Prop where
 fit:Fit [] t
 kd:s.kd
 ds:s.ds
 rep:Rep t ρ s
 env:∀ z∈usedS t,e (ρ z)= z∧z∈tk
 eqs:EqS tk tk'
theorem wide_35 {c:UInt8} (h:wideB c = true):c≠35:=wide_ne h rfl
def Nt.sz:Nt→Nat
 | .zero=>1
 | .un _ _ _ p=>p.sz + 1
 | .bin _ p q=>p.sz + q.sz + 1
theorem gN_sz:∀ {s:Nt},∀ t∈(gN s).2,t.sz≤s.sz
 | .zero,t,h=>by simp [gN] at h
 | .un k a b p,t,h=>by
   simp only [gN] at h
   simp only [Nt.sz]
   split at h
   ·have:=gN_sz t h;omega
   ·split at h
    ·have:=gN_sz t h;omega
    ·split at h
     ·simp at h
     ·rw [List.mem_singleton] at h;subst h;exact Nat.le_refl _
 | .bin k p q,t,h=>by
   simp only [gN] at h
   simp only [Nt.sz]
   split at h
   ·rcases List.mem_append.1 h with h | h
    ·have:=gN_sz t h;omega
    ·have:=gN_sz t h;omega
   ·split at h
    ·have:=gN_sz t h;omega
    ·split at h
     ·have:=gN_sz t h;omega
     ·rw [List.mem_singleton] at h;subst h;exact Nat.le_refl _
theorem gN_self_bin {k:UInt8} {p q:Nt} (h:gN (.bin k p q)= ([],[.bin k p q])):k≠38∧p.dead = false∧q.dead = false:=by
 simp only [gN] at h
 by_cases h38:k = 38
 ·rw [if_pos h38] at h
  have h':(gN p).2 ++ (gN q).2 = [Nt.bin k p q]:=congrArg Prod.snd h
  have hm:Nt.bin k p q∈(gN p).2 ++ (gN q).2:=by rw [h'];simp
  rcases List.mem_append.1 hm with hm | hm
  ·have:=gN_sz _ hm;simp only [Nt.sz] at this;omega
  ·have:=gN_sz _ hm;simp only [Nt.sz] at this;omega
 ·rw [if_neg h38] at h
  refine ⟨h38,?_⟩
  cases h3:p.dead
  ·cases h4:q.dead
   ·exact ⟨rfl,rfl⟩
   ·rw [h3,h4] at h
    simp only [Bool.false_eq_true,if_false,if_true] at h
    have:=gN_sz (s:=p) (.bin k p q) (by rw [h];simp)
    simp only [Nt.sz] at this;omega
  ·rw [h3] at h
   simp only [if_true] at h
   have:=gN_sz (s:=q) (.bin k p q) (by rw [h];simp)
   simp only [Nt.sz] at this;omega
theorem gN_self_un {k:UInt8} {a b:Nat} {p:Nt} (h:gN (.un k a b p)= ([],[.un k a b p])):k≠35∧¬ (k = 61∧a = b)∧¬ ((k = 61∨k = 42)∧p.dead = true):=by
 simp only [gN] at h
 by_cases h35:k = 35
 ·rw [if_pos h35] at h
  have h':(gN p).2 = [Nt.un k a b p]:=congrArg Prod.snd h
  have hm:Nt.un k a b p∈(gN p).2:=by rw [h'];simp
  have:=gN_sz _ hm;simp only [Nt.sz] at this;omega
 ·rw [if_neg h35] at h
  by_cases h61:k = 61∧a = b
  ·rw [if_pos h61] at h
   have:=gN_sz (s:=p) (.un k a b p) (by rw [h];simp)
   simp only [Nt.sz] at this;omega
  ·rw [if_neg h61] at h
   by_cases hc:(k = 61∨k = 42)∧p.dead = true
   ·rw [if_pos hc] at h;cases h
   ·exact ⟨h35,h61,hc⟩
theorem lv_sum {s' r':Nt} (hk:(Nt.bin 43 s' r').kd) (hs:(Nt.bin 43 s' r').ds) (hsd:s'.dead = false∧r'.dead = false):
  lv (.bin 43 s' r')= ([],.sum (cat ((smN (.bin 43 s' r')).map partL)) .nil):=by
 have hps:=parts_smN hk hs
 have e1:lv (.bin 43 s' r')= ofParts ((partsOf (lv s').1 (lv s').2).app (partsOf (lv r').1 (lv r').2)):=by simp only [lv];rw [if_neg (by decide)]
 have m1:(partsOf (lv s').1 (lv s').2).isNil = false:=by rw [partsOf_isNil (ty_lv hk.2.1),lv_dead hk.2.1,hsd.1]
 have m2:(partsOf (lv r').1 (lv r').2).isNil = false:=by rw [partsOf_isNil (ty_lv hk.2.2),lv_dead hk.2.2,hsd.2]
 rw [Ts.isNil_len] at m1 m2
 rw [ofParts_two (by rw [Ts.len_app];simp at m1 m2;omega)] at e1
 rw [e1] at hps
 have:partsOf ([]:List Nat) (.sum ((partsOf (lv s').1 (lv s').2).app (partsOf (lv r').1 (lv r').2)) .nil)= (partsOf (lv s').1 (lv s').2).app (partsOf (lv r').1 (lv r').2):=by simp [partsOf]
 rw [this] at hps
 rw [e1,hps]
theorem lv_thr {k:UInt8} {a b:Nat} {p:Nt} (hk:p.kd) (h:gN (.un k a b p)= ([],[.un k a b p])):lv (.un k a b p)= ([],.un k a b (lv p).1 (lv p).2 .nil):=by
 obtain ⟨h1,h2,h3⟩:=gN_self_un h
 simp only [lv]
 rw [if_neg h1,if_neg h2,if_neg (fun c=>h3 ⟨c.1,by rw [← lv_dead hk,Ts.isNil_iff.2 c.2]⟩)]
theorem thr_sim {once : Bool} {n : Nat} {W : Tm → Str → Bool × Str} (hW : ∀ t s ρ e tk tk', t.size < n → Set t s ρ e tk tk' → Ok once (W t tk) (lvBd s tk') (lvM s) (lvA s) (lvT s e tk'))
  {t:Tm} {s:Nt} {ρ:UInt8→Nat} {e:Nat→UInt8} {tk tk':Str} (hn:t.size≤n) (h:Set t s ρ e tk tk') (hg:gN s = ([],[s])) (hd:s.dead = false):
  ∃ x,(lv s).2.nm freshW e tk' = [x]∧Ok once (thrF W t tk) ((lv s).2.bd freshW tk') (lv s).2.frM (lv s).2.frA x:=by
 obtain ⟨hf,hk,hs,hr,he,hq⟩:=h
 have htd:deadT t = false:=by rw [← hr.dead,hd]
 cases t with
 | zero=>cases htd
 | bin k p q=>
   rcases hr with ⟨h1,_⟩ | ⟨s',r',rfl,h1,h2⟩
   ·rw [htd] at h1;cases h1
   obtain ⟨h38,hsd⟩:=gN_self_bin hg
   have h43:k = 43:=hk.1.resolve_right h38
   subst h43
   rw [lv_sum hk hs hsd]
   have hsz:(Tm.bin 43 p q).size = 1 + p.size + q.size:=rfl
   obtain ⟨f1,f2⟩:=hf.bin
   have hpq:deadT p = false∧deadT q = false:=⟨by rw [← h1.dead,hsd.1],by rw [← h2.dead,hsd.2]⟩
   have hsmF:smF (Tm.bin 43 p q).size (.bin 43 p q)= smF (p.size + q.size) p ++ smF (p.size + q.size) q:=by
    rw [hsz,show 1 + p.size + q.size = (p.size + q.size)+ 1 by omega]
    conv=>lhs;unfold smF
    simp only [peel,hpq.1,hpq.2];simp
   have hsmN:smN (.bin 43 s' r')= smN s' ++ smN r':=by simp only [smN];rw [hsd.1,hsd.2];simp
   obtain ⟨P,p1,p2,p3⟩:=sm_sim (p.size + q.size) p [] s' ρ (by omega) f1 hk.2.1 hs.2.2.2.1 h1
   obtain ⟨Q,q1,q2,q3⟩:=sm_sim (p.size + q.size) q [] r' ρ (by omega) f2 hk.2.2 hs.2.2.2.2 h2
   have hall:∀ pp∈P ++ Q,Ok once (W pp.1 tk) (lvBd pp.2 tk') (lvM pp.2) (lvA pp.2) (lvT pp.2 e tk'):=by
    intro pp hpp
    rcases List.mem_append.1 hpp with h | h
    ·obtain ⟨a1,a2,a3,a4,a5,a6⟩:=p3 pp h
     exact hW _ _ ρ e tk tk' (by omega) ⟨a2,a4,a5,a1,fun z hz=>he z (mem_used_bin.2 (.inl (a6 z hz))),hq⟩
    ·obtain ⟨a1,a2,a3,a4,a5,a6⟩:=q3 pp h
     exact hW _ _ ρ e tk tk' (by omega) ⟨a2,a4,a5,a1,fun z hz=>he z (mem_used_bin.2 (.inr (a6 z hz))),hq⟩
   have hl:=Ok.list (once:=once) (k:=43) (by decide) (fun pp:Tm × Nt=>W pp.1 tk) (fun pp=>lvBd pp.2 tk') (fun pp=>lvM pp.2) (fun pp=>lvA pp.2) (fun pp=>lvT pp.2 e tk') (P ++ Q) hall
   have hS:smN (.bin 43 s' r')= (P ++ Q).map (·.2):=by rw [hsmN,p2,q2,List.map_append]
   have hT:smF (Tm.bin 43 p q).size (.bin 43 p q)= (P ++ Q).map (·.1):=by rw [hsmF,p1,q1,List.map_append]
   refine ⟨listS 43 ((P ++ Q).map (fun pp=>lvT pp.2 e tk')),?_,?_⟩
   ·simp only [Ts.nm,cat_nm]
    rw [hS,List.map_map,List.flatMap_map]
    congr 2
    rw [List.flatMap_def,← List.flatMap_def]
    induction (P ++ Q) with
    | nil=>rfl
    | cons x l ih=>simp only [List.flatMap_cons,List.map_cons,ih];rfl
   ·have e1:thrF W (.bin 43 p q) tk = ((((P ++ Q).map (fun pp=>W pp.1 tk)).any (·.1)),listS 43 (((P ++ Q).map (fun pp=>W pp.1 tk)).map (·.2))):=by
     simp only [thrF,hT,List.map_map];rfl
    have e2:(Ts.sum (cat ((smN (.bin 43 s' r')).map partL)) .nil).bd freshW tk' = (P ++ Q).any (fun pp=>lvBd pp.2 tk'):=by
     simp only [Ts.bd,cat_bd,hS,List.map_map,List.any_map,Bool.or_false]
     congr 1
     funext pp
     simp [partL,Ts.bd,lvBd]
    have e3:(Ts.sum (cat ((smN (.bin 43 s' r')).map partL)) .nil).frM = maxL ((P ++ Q).map (fun pp=>lvM pp.2)):=by
     simp only [Ts.frM,cat_frM,hS,List.map_map]
     rw [Nat.max_eq_left (Nat.zero_le _)]
     congr 1
     refine List.map_congr_left fun pp _=>?_
     simp [partL,Ts.frM,lvM]
    have e4:(Ts.sum (cat ((smN (.bin 43 s' r')).map partL)) .nil).frA = ((P ++ Q).map (fun pp=>lvA pp.2)).sum:=by
     simp only [Ts.frA,cat_frA,hS,List.map_map,Nat.add_zero]
     congr 1
    rw [e1,e2,e3,e4];exact hl
 | un k a b p =>
   have hsz:p.size < n:=by simp only [Tm.size] at hn;omega
   rcases hr with ⟨h1,_⟩ | ⟨a',b',s',rfl,h⟩
   ·rw [htd] at h1;cases h1
   have hgu:=gN_self_un hg
   rw [lv_thr hk.2 hg]
   have hfp:=hf.un
   have hok:=hf.ok
   simp only [Tm.ok,Bool.and_eq_true] at hok
   have hname:∀ z∈namesT k a b,k≠61∨a≠b→e (ρ z)= z∧z∈tk:=fun z hz hc=>he z (mem_used_un.2 ⟨htd,by
    rw [if_neg (fun c=>by rcases hc with hc | hc;exact hc c.1;exact hc c.2)];exact .inr hz⟩)
   rcases h with ⟨hk2,hfr,h⟩ | ⟨hk2,h⟩
   ·rcases hk2 with ⟨rfl,rfl⟩ | rfl
    case inr=>exact (hgu.1 rfl).elim
    refine ⟨_,rfl,?_⟩
    have ha:e (ρ a)= a:=(hname a (by simp [namesT]) (.inl (by decide))).1
    have hab:wideB a = true∧wideB b = true:=by simpa [okhd] using hok.1
    simp only [Ts.bd,Ts.frM,Ts.frA,Bool.or_false,if_true,Nat.add_zero,Nat.max_eq_left (Nat.zero_le _),ha]
    have ex:freshW tk = freshW tk':=freshW_congr hq
    simp only [thrF,if_true]
    rw [← ex]
    have hcount:∀ r:Str,(a :: 63 :: freshW tk :: 46 :: r).count 35 = r.count 35:=by
     intro r
     have h1:=wide_35 hab.1
     have h2:=wide_35 (freshW_wide tk)
     simp [List.count_cons,h1,h2]
    cases hs2:freshS tk with
    | none=>
      have hs3:freshS tk' = none:=by rw [← freshS_congr hq.same,hs2]
      rw [hs3]
      refine ⟨fun hb=>by simp at hb,fun _ _=>.inr ?_⟩
      simp [isW_W tk hs2]
    | some c=>
      have hs3:freshS tk' = some c:=by rw [← freshS_congr hq.same,hs2]
      rw [hs3]
      have hc:=freshS_some hs2
      rw [← freshW_some hs2] at hc
      generalize freshW tk = x at hc hcount ⊢
      have hxu:x∉usedS p∨x = b:=by
       by_cases e1:x = b
       ·exact .inr e1
       ·refine .inl fun hx=>hc.2.1 (he x (mem_used_un.2 ⟨htd,?_⟩)).2
        rw [if_neg (by simp)];exact .inl ⟨hx,fun _=>e1⟩
      have hxg:isGreat x = false:=by have:=hc.1;unfold smallB at this;unfold isGreat;simp at this ⊢;omega
      have hset:Set (renF p.size p b x) s' (upd ρ x b') (updN e b' x) (add x tk) (x :: tk'):=by
       refine ⟨hfp.ren (small_wide hc.1) (fun hg=>by rw [hxg] at hg;cases hg),hk.2,hs.2,?_,?_,hq.add x⟩
       ·refine Rep.ren _ _ _ _ _ _ (Nat.le_refl _) hfp.narrow (h.congr fun z hz=>?_)
        unfold upd
        by_cases e1:z = b
        ·simp [e1]
        ·by_cases e2:z = x
         ·subst e2
          rcases hxu with h | h
          ·exact (h hz).elim
          ·exact (e1 h).elim
         ·simp [e1,e2]
       ·intro z hz
        have hz2:z = x∨(z∈usedS p∧z≠b):=by
         by_cases e1:b = x
         ·rw [ren_id (.inl e1)] at hz
          by_cases e2:z = x
          ·exact .inl e2
          ·exact .inr ⟨hz,fun e3=>e2 (e3.trans e1)⟩
         ·rcases (ren_used p.size p b x z e1 (Nat.le_refl _) hfp.narrow).1 hz with h | h
          ·exact .inr h
          ·exact .inl h.1
        by_cases e1:z = x
        ·subst e1
         exact ⟨by simp [upd,updN],mem_add.2 (.inl rfl)⟩
        ·obtain ⟨h3,h4⟩:=hz2.resolve_left e1
         have h5:=he z (mem_used_un.2 ⟨htd,by rw [if_neg (by simp)];exact .inl ⟨h3,fun _=>h4⟩⟩)
         refine ⟨?_,mem_add.2 (.inr h5.2)⟩
         have h6:=hfr z h3 h4
         simp [upd,updN,e1,h6,h5.1]
      have:=hW _ _ _ _ _ _ (by rw [ren_size];exact hsz) hset
      have h2:=this.pre (a :: 63 :: x :: [46]) (by have:=hcount [];simpa using this)
      simpa [lvBd,lvM,lvA,lvT] using h2
   ·have hset:Set p s' ρ e tk tk':=by
     refine ⟨hfp,hk.2,hs.2,h,fun z hz=>he z (mem_used_un.2 ⟨htd,?_⟩),hq⟩
     have hb:bindsB k = false:=by rcases hk2 with ⟨rfl,_⟩ | ⟨rfl,_⟩ | rfl | rfl <;> rfl
     split
     ·exact hz
     ·exact .inl ⟨hz,by simp [hb]⟩
    have hw:=hW _ _ _ _ _ _ hsz hset
    refine ⟨_,rfl,?_⟩
    have h63:k≠63:=by rcases hk2 with ⟨rfl,_⟩ | ⟨rfl,_⟩ | rfl | rfl <;> decide
    simp only [Ts.bd,Ts.frM,Ts.frA,Bool.or_false,if_neg h63,Nat.add_zero,Nat.max_eq_left (Nat.zero_le _),thrF]
    rcases hk2 with ⟨rfl,rfl,rfl⟩ | ⟨rfl,hk2⟩ | rfl | rfl
    ·have ha:=(hname a (by simp [namesT]) (.inl (by decide))).1
     have hb:=(hname b (by simp [namesT]) (.inl (by decide))).1
     have hab:wideB a = true∧wideB b = true:=by simpa [okhd] using hok.1
     have h2:=hw.pre [a,33,b,46] (by simp [List.count_cons,wide_35 hab.1,wide_35 hab.2])
     simpa [lvBd,lvM,lvA,lvT,Go.Proofs.YtbibkgcbdnldbaaGreat.hd,ha,hb] using h2
    ·have hab:a≠b∧a' = ρ a∧b' = ρ b:=by
      rcases hk2 with ⟨_,h⟩ | h
      ·exact (hgu.2.1 ⟨rfl,h⟩).elim
      ·exact ⟨h.1,h.2.1,h.2.2.1⟩
     obtain ⟨hab,rfl,rfl⟩:=hab
     have ha:=(hname a (by simp [namesT]) (.inr hab)).1
     have hb:=(hname b (by simp [namesT]) (.inr hab)).1
     have hw2:wideB a = true∧wideB b = true:=by simpa [okhd] using hok.1
     have h2:=hw.pre (matchS a b) (by unfold matchS;split <;> simp [List.count_cons,wide_35 hw2.1,wide_35 hw2.2])
     simpa [lvBd,lvM,lvA,lvT,ha,hb] using h2
    ·have h2:=hw.pre [42] (by simp)
     simpa [lvBd,lvM,lvA,lvT,Go.Proofs.YtbibkgcbdnldbaaGreat.hd] using h2
    ·have h2:=hw.pre [126,46] (by simp)
     simpa [lvBd,lvM,lvA,lvT,Go.Proofs.YtbibkgcbdnldbaaGreat.hd] using h2
theorem perm_map_inv {f:UInt8→Nat}:∀ {l:Str} {s:List Nat},s.Perm (l.map f)→∃ o:Str,o.Perm l∧s = o.map f:=by
 intro l
 induction l with
 | nil=>intro s h;exact ⟨[],.refl _,by simpa using h.eq_nil⟩
 | cons x l ih=>
   intro s h
   obtain ⟨a,b,rfl⟩:=List.append_of_mem (h.mem_iff.2 (by simp:f x∈(x :: l).map f))
   have h2:(a ++ b).Perm (l.map f):=List.Perm.cons_inv (List.perm_middle.symm.trans h)
   obtain ⟨o,ho,e⟩:=ih h2
   obtain ⟨o1,o2,rfl,rfl,rfl⟩:=List.append_eq_map_iff.1 e
   exact ⟨o1 ++ x :: o2,List.perm_middle.trans (ho.cons x),by simp⟩
theorem headS_bad {n:Nat} {tk:Str} (h:badS freshW n tk = true):(headS freshW n tk).all okB = false:=head_bad isW_W n h
theorem headL_count (l:Str) (h:∀ c∈l,c≠35):(headL l).count 35 = l.length:=by
 induction l with
 | nil=>rfl
 | cons x l ih=>
   have hx:x≠35:=h x (by simp)
   have:=ih (fun c hc=>h c (by simp [hc]))
   unfold headL at *
   simp [List.count_cons,this,hx]
theorem mem_foldl_both {z:UInt8}:∀ {l:List Tm} {u:Str},z∈l.foldl (fun u t=>both u (usedS t)) u↔z∈u∨∃ t∈l,z∈usedS t
 | [],u=>by simp
 | t :: l,u=>by
   rw [List.foldl_cons,mem_foldl_both,mem_both]
   simp only [List.mem_cons,exists_eq_or_imp];grind
theorem flatMap_single {α β:Type} {f:α→List β} {g:α→β}:∀ {L:List α},(∀ a∈L,f a = [g a])→L.flatMap f = L.map g
 | [],_=>rfl
 | a :: L,h=>by rw [List.flatMap_cons,List.map_cons,h a (by simp),flatMap_single (fun b hb=>h b (by simp [hb]))];rfl
theorem whole_sim (once : Bool) : ∀ (d : Nat) (t : Tm) (s : Nt) (ρ : UInt8 → Nat) (e : Nat → UInt8) (tk tk' : Str), t.size < d → t.size ≤ 130 → Set t s ρ e tk tk' →
  Ok once (wholeF once d t tk) (lvBd s tk') (lvM s) (lvA s) (lvT s e tk')
 | 0,t,_,_,_,_,_,h,_,_=>by omega
 | d + 1, t, s, ρ, e, tk, tk', hd, h130, h => by
   obtain ⟨hf,hk,hs,hr,he,hq⟩:=h
   obtain ⟨ys,a1,a2,a3,a4,a5,a6,a7,a8⟩:=gath_free t.size t [] [] 0 t.size (Nat.le_refl _) hf List.nodup_nil (by simp) (by simp) (by simp) h130
   obtain ⟨ys',ρ',P,b1,b2,b3,b4,b5,b6⟩:=gath_sim t.size t [] [] 0 t.size s ρ (Nat.le_refl _) hf List.nodup_nil (by simp) (by simp) (by simp) h130 hk hs hr
   have hyy:ys' = ys:=by simpa using b1.symm.trans a1
   subst hyy
   simp only [List.nil_append] at a1 a2 a4 b1
   obtain ⟨g1,g2,g3⟩:=gN_in hk hs
   have hlv:=lv_gN hk hs
   have hfront:frontF t = ys':=by
    unfold frontF
    rw [a1]
    refine List.filter_eq_self.2 fun y hy=>?_
    rw [decide_eq_true_eq,mem_foldl_both]
    exact .inr (a6 y hy)
   have hl1:(lv s).1 = ys'.map ρ':=by rw [hlv];exact b4
   have hl2:(lv s).2 = cat (P.map fun p=>(lv p.2).2):=by rw [hlv,b3,List.map_map];rfl
   have hlen:(lv s).1.length = ys'.length:=by rw [hl1,List.length_map]
   have hnd:(ys'.map ρ').Nodup:=by rw [← b4];exact g2
   have hz:(lv s).2.isNil = P.isEmpty:=by
    rw [hl2,cat_isNil]
    ·simp
    ·intro t ht
     obtain ⟨p,hp,rfl⟩:=List.mem_map.1 ht
     obtain ⟨q1,q2,q3,q4,_⟩:=g3 p.2 (by rw [b3];exact List.mem_map.2 ⟨p,hp,rfl⟩)
     rw [lv_dead q1,q4]
   unfold wholeF
   rw [b2,hfront]
   by_cases hP:P = []
   ·subst hP
    have hnil:(lv s).2 = .nil:=by rw [hl2];rfl
    have h1:(lv s).1 = []:=by
     have:=(kp_lv s).1
     rw [hnil] at this;rw [← this];simp [keep,Ts.has]
    rw [List.map_nil,if_pos rfl]
    refine ⟨fun _=>⟨by simp [lvM,h1,hnil,Ts.frM],fun _=>⟨fun _=>by simp [lvT,levelS,hnil,Ts.isNil],by simp [lvA,h1,hnil,Ts.frA]⟩⟩,fun hb=>?_⟩
    simp [lvBd,levelB,hnil,Ts.isNil] at hb
   rw [if_neg (by simpa using hP)]
   have hz:(lv s).2.isNil = false:=by rw [hz];simpa using hP
   by_cases h5:5 < ys'.length
   ·rw [if_pos h5]
    exact ⟨fun _=>⟨by simp [lvM,hlen];omega,fun h=>by cases h⟩,fun _ _=>.inl rfl⟩
   rw [if_neg h5]
   simp only
   -- each order
   have hword:∀ c∈freshL ys'.length tk,c≠35:=fun c hc=>wide_35 (freshL_wide hc).1
   have horder:badS freshW ys'.length tk' = false→∀ o,o.Perm ys'→Ok once (namedF (wholeF once d) (P.map (·.1)) o (freshL ys'.length tk) (allL ys'.length tk))
     ((lv s).2.bd freshW (takeS freshW ys'.length tk')) (lv s).2.frM (lv s).2.frA (listS 38 ((lv s).2.nm freshW (bindS freshW (o.map ρ') e tk') (takeS freshW ys'.length tk'))):=by
    intro hb o ho
    have hb2:badS freshW ys'.length tk = false:=by rw [badS_same isF_W isF_W _ hq.same];exact hb
    obtain ⟨n1,n2⟩:=freshL_new hb2
    have hol:o.length = ys'.length:=ho.length_eq
    have hzl:(o.zip (freshL ys'.length tk)).map (·.1)= o:=List.map_fst_zip (by rw [freshL_len,hol];exact Nat.le_refl _)
    have hzr:(o.zip (freshL ys'.length tk)).map (·.2)= freshL ys'.length tk:=List.map_snd_zip (by rw [freshL_len,hol];exact Nat.le_refl _)
    have hondo:(o.map ρ').Nodup:=(ho.map ρ').nodup_iff.2 hnd
    have hthr:∀ p∈P,∃ x,(lv p.2).2.nm freshW (bindS freshW (o.map ρ') e tk') (takeS freshW ys'.length tk')= [x]∧
      Ok once (thrF (wholeF once d) (renAll p.1 (o.zip (freshL ys'.length tk))) (allL ys'.length tk)) ((lv p.2).2.bd freshW (takeS freshW ys'.length tk')) (lv p.2).2.frM (lv p.2).2.frA x:=by
     intro p hp
     have hp1:p.1∈(gath t.size t []).2:=by rw [b2];exact List.mem_map.2 ⟨p,hp,rfl⟩
     have hp2:p.2∈(gN s).2:=by rw [b3];exact List.mem_map.2 ⟨p,hp,rfl⟩
     obtain ⟨f1,f2⟩:=a4 p.1 hp1
     obtain ⟨q1,q2,q3,q4,q5⟩:=g3 p.2 hp2
     have hlu:∀ l∈freshL ys'.length tk,l∉usedS p.1∧smallB l = true:=by
      intro l hl
      refine ⟨fun hu=>?_,(n2 l hl).2⟩
      rcases a8 p.1 hp1 l hu with h | h
      ·exact (n2 l hl).1 (he l h).2
      ·have:=a3 l h
       rw [(freshL_wide hl).2] at this;cases this
     have hfit:Fit (o ++ []) p.1:=f1.mono (fun z hz=>by simpa using ho.mem_iff.2 hz)
     obtain ⟨ρ2,r1,r2,r3,r4,r5⟩:=renAll_sim (o.zip (freshL ys'.length tk)) p.1 ρ' p.2 [] (by rw [hzl];exact hfit) (b6 p hp)
      (by rw [hzl];exact ho.nodup_iff.2 a2) (by rw [hzr];exact n1) (by rw [hzr];exact hlu) (by rw [hzl];exact fun y hy=>a3 y (ho.mem_iff.1 hy))
     refine thr_sim (n:=t.size) (fun t1 s1 ρ1 e1 k1 k1' hlt hset=>whole_sim once d t1 s1 ρ1 e1 k1 k1' (by omega) (by omega) hset) (by rw [renAll_size];exact f2) (ρ:=ρ2) ?_ q3 q4
     refine ⟨r2,q1,q2,r1,?_,all_take hq⟩
     intro z hz
     rcases r5 z hz with h | ⟨h1,h2⟩
     ·rw [hzr] at h
      obtain ⟨pp,hpp,e1⟩:=List.mem_map.1 (show z∈(o.zip (freshL ys'.length tk)).map (·.2) by rw [hzr];exact h)
      subst e1
      rw [r3 pp hpp]
      refine ⟨bind_in hq hondo (by rw [hol];exact hpp),mem_allL.2 (.inr h)⟩
     ·rw [hzl] at h2
      have hzt:z∈usedS t:=(a8 p.1 hp1 z h1).resolve_right (fun hh=>h2 (ho.mem_iff.2 hh))
      have hzf:z∉freshL ys'.length tk:=fun hh=>(hlu z hh).1 h1
      have hzy:z∉ys':=fun hh=>h2 (ho.mem_iff.2 hh)
      rw [r4 z (by rw [hzr];exact hzf),b5 z hzy]
      have hez:=he z hzt
      refine ⟨?_,mem_allL.2 (.inl hez.2)⟩
      rw [bind_out,hez.1]
      intro hm
      have hm2:ρ z∈(gN s).1:=by rw [b4];exact (ho.map ρ').mem_iff.1 hm
      exact (g1 _ hm2).2 (hr.used.2 ⟨z,hzt,rfl⟩)
    have hall:=fun p (hp:p∈P)=>(hthr p hp).choose_spec
    let x:=fun p:Tm × Nt=>((lv p.2).2.nm freshW (bindS freshW (o.map ρ') e tk') (takeS freshW ys'.length tk')).headD []
    have hx:∀ p∈P,(lv p.2).2.nm freshW (bindS freshW (o.map ρ') e tk') (takeS freshW ys'.length tk')= [x p]:=by
     intro p hp
     obtain ⟨y,hy,_⟩:=hthr p hp
     simp only [x,hy];rfl
    have hok:=Ok.list (once:=once) (k:=38) (by decide) (fun p:Tm × Nt=>thrF (wholeF once d) (renAll p.1 (o.zip (freshL ys'.length tk))) (allL ys'.length tk))
     (fun p=>(lv p.2).2.bd freshW (takeS freshW ys'.length tk')) (fun p=>(lv p.2).2.frM) (fun p=>(lv p.2).2.frA) x P (fun p hp=>by
      obtain ⟨y,hy,h⟩:=hthr p hp
      have:=hx p hp
      rw [hy] at this
      simp only [List.cons.injEq,and_true] at this
      rw [← this];exact h)
    have e1:(lv s).2.bd freshW (takeS freshW ys'.length tk')= P.any (fun p=>(lv p.2).2.bd freshW (takeS freshW ys'.length tk')):=by
     rw [hl2,cat_bd,List.any_map];rfl
    have e2:(lv s).2.frM = maxL (P.map (fun p=>(lv p.2).2.frM)):=by rw [hl2,cat_frM,List.map_map];rfl
    have e3:(lv s).2.frA = (P.map (fun p=>(lv p.2).2.frA)).sum:=by rw [hl2,cat_frA,List.map_map];rfl
    have e4:(lv s).2.nm freshW (bindS freshW (o.map ρ') e tk') (takeS freshW ys'.length tk')= P.map x:=by
     rw [hl2,cat_nm,List.flatMap_map]
     exact flatMap_single hx
    rw [e1,e2,e3,e4]
    unfold namedF
    rw [List.map_map]
    exact hok
   have hom:∀ o∈ordsF once ys',o.Perm ys':=fun o ho=>ords_mem ho
   have hBd:lvBd s tk' = (badS freshW ys'.length tk' || (lv s).2.bd freshW (takeS freshW ys'.length tk')):=by simp [lvBd,levelB,hz,hlen]
   obtain ⟨o0,ho0⟩:∃ o,o∈ordsF once ys':=by
    cases h:ordsF once ys' with
    | nil=>exact (ords_ne once ys' h).elim
    | cons o l=>exact ⟨o,by simp⟩
   refine ⟨fun hb=>?_,fun hb ho=>?_⟩
   ·rw [hBd, Bool.or_eq_false_iff] at hb
    have hO:=horder hb.1
    have h1:∀ o∈ordsF once ys',(namedF (wholeF once d) (P.map (·.1)) o (freshL ys'.length tk) (allL ys'.length tk)).1 = decide (5 < (lv s).2.frM):=fun o ho=>((hO o (hom o ho)).good hb.2).1
    have hM:decide (5 < lvM s)= decide (5 < (lv s).2.frM):=by
     unfold lvM;rw [hlen,Bool.eq_iff_iff,decide_eq_true_eq,decide_eq_true_eq];omega
    refine ⟨?_,fun hr1=>?_⟩
    ·rw [hM,Bool.eq_iff_iff,List.any_eq_true]
     constructor
     ·rintro ⟨x,hx,hx1⟩
      obtain ⟨o,ho,rfl⟩:=List.mem_map.1 hx
      rw [h1 o ho] at hx1;exact hx1
     ·intro hh
      exact ⟨_,List.mem_map.2 ⟨o0,ho0,rfl⟩,by rw [h1 o0 ho0];exact hh⟩
    ·have h2 : ∀ o ∈ ordsF once ys', (namedF (wholeF once d) (P.map (·.1)) o (freshL ys'.length tk) (allL ys'.length tk)).1 = false := by
      intro o ho
      have:=(List.any_eq_false.1 hr1) _ (List.mem_map.2 ⟨o,ho,rfl⟩)
      simpa using this
     have h3:=fun o (ho:o∈ordsF once ys')=>((hO o (hom o ho)).good hb.2).2 (h2 o ho)
     have hhead:(headL (freshL ys'.length tk)).count 35 = ys'.length:=by rw [headL_count _ hword,freshL_len]
     have hAeq:lvA s = ys'.length + (lv s).2.frA:=by unfold lvA;rw [hlen]
     cases once with
     | true=>
       refine ⟨fun h=>(by cases h),?_⟩
       have:∃ o,ordsF true ys' = [o]:=by
        unfold ordsF at ho0 ⊢
        rw [if_pos rfl] at ho0 ⊢
        cases hh:ordN ys'.length ys' with
        | nil=>rw [hh] at ho0;simp at ho0
        | cons a l=>exact ⟨a,by simp⟩
       obtain ⟨o,hoo⟩:=this
       rw [hoo]
       have:=(h3 o (by rw [hoo];simp)).2
       simp only [List.map_cons,List.map_nil,leastS,List.foldl_cons,List.foldl_nil,true_or,if_true]
       rw [List.count_append,hhead,this,hAeq]
     | false=>
       have hmem:∀ o,o∈ordsF false ys'↔o.Perm ys':=fun o=>by unfold ordsF;rw [if_neg (by decide)];exact mem_ordN rfl
       let T:=fun σ:List Nat=>listS 38 ((lv s).2.nm freshW (bindS freshW σ e tk') (takeS freshW ys'.length tk'))
       have hTne:∀ σ,T σ≠[]:=fun σ=>listS_ne (nm_ne _ _ _ _)
       have hL:((ordsF false ys').map (fun o=>namedF (wholeF false d) (P.map (·.1)) o (freshL ys'.length tk) (allL ys'.length tk))).map (·.2)= (ordsF false ys').map (fun o=>T (o.map ρ')):=by
        rw [List.map_map]
        exact List.map_congr_left fun o ho=>(h3 o ho).1 rfl
       have hLC:leastS ((ordsF false ys').map (fun o=>T (o.map ρ')))= leastS ((perms (lv s).1).map T):=by
        refine leastS_congr ?_ ?_
        ·intro x hx
         obtain ⟨o,_,rfl⟩:=List.mem_map.1 hx
         exact hTne _
        ·intro x
         simp only [List.mem_map,mem_perms,hmem]
         constructor
         ·rintro ⟨o,ho,rfl⟩
          exact ⟨_,by rw [hl1];exact ho.map ρ',rfl⟩
         ·rintro ⟨σ,hσ,rfl⟩
          rw [hl1] at hσ
          obtain ⟨o,ho,rfl⟩:=perm_map_inv hσ
          exact ⟨o,ho,rfl⟩
       have hcnt:(leastS ((ordsF false ys').map (fun o=>T (o.map ρ')))).count 35 = (lv s).2.frA:=by
        have hin:leastS ((ordsF false ys').map (fun o=>T (o.map ρ')))∈(ordsF false ys').map (fun o=>T (o.map ρ')):=by
         refine (leastS_spec ?_ ?_).1
         ·intro e;rw [List.map_eq_nil_iff] at e;exact ords_ne _ _ e
         ·intro x hx
          obtain ⟨o,_,rfl⟩:=List.mem_map.1 hx
          exact hTne _
        obtain ⟨o,ho,e1⟩:=List.mem_map.1 hin
        rw [← e1]
        have h4:=h3 o ho
        have h5:(namedF (wholeF false d) (P.map (·.1)) o (freshL ys'.length tk) (allL ys'.length tk)).2 = T (o.map ρ'):=h4.1 rfl
        rw [← h5];exact h4.2
       refine ⟨fun _=>?_,?_⟩
       ·rw [hL,hLC]
        unfold lvT levelS
        rw [hz,if_neg (by decide),head_freshL hq]
        have:(perms (lv s).1).map (fun σ=>headS freshW σ.length tk' ++ listS 38 ((lv s).2.nm freshW (bindS freshW σ e tk') (takeS freshW σ.length tk')))= ((perms (lv s).1).map T).map (headS freshW ys'.length tk' ++ ·):=by
         rw [List.map_map]
         refine List.map_congr_left fun σ hσ=>?_
         have:σ.length = ys'.length:=by rw [← hlen];exact (mem_perms.1 hσ).length_eq
         simp only [this,Function.comp,T]
        rw [this,leastS_pre (by simp [perms_ne]) (fun x hx=>by
         obtain ⟨o,_,rfl⟩:=List.mem_map.1 hx
         exact hTne _)]
       ·rw [hL,List.count_append,hhead,hcnt,hAeq]
   ·rw [hBd, Bool.or_eq_true] at hb
    subst ho
    cases hb1:badS freshW ys'.length tk' with
    | true=>
      right
      rw [List.all_append,head_freshL hq,headS_bad hb1];rfl
    | false=>
      have hb2:=hb.resolve_left (by rw [hb1];decide)
      have hO:=fun o (ho:o∈ordsF false ys')=>(horder hb1 o (hom o ho)).bad hb2 rfl
      by_cases hany:((ordsF false ys').map (fun o=>namedF (wholeF false d) (P.map (·.1)) o (freshL ys'.length tk) (allL ys'.length tk))).any (·.1)= true
      ·exact .inl hany
      ·right
       have hall:∀ x∈((ordsF false ys').map (fun o=>namedF (wholeF false d) (P.map (·.1)) o (freshL ys'.length tk) (allL ys'.length tk))).map (·.2),x.all okB = false:=by
        intro x hx
        obtain ⟨r,hr,rfl⟩:=List.mem_map.1 hx
        obtain ⟨o,ho,rfl⟩:=List.mem_map.1 hr
        rcases hO o ho with h | h
        ·exact (hany (List.any_eq_true.2 ⟨_,hr,h⟩)).elim
        ·exact h
       have hin:=(leastS_spec (l:=((ordsF false ys').map (fun o=>namedF (wholeF false d) (P.map (·.1)) o (freshL ys'.length tk) (allL ys'.length tk))).map (·.2)) (by
        intro e;simp only [List.map_eq_nil_iff] at e;exact ords_ne _ _ e) (fun x hx e=>by
         have:=hall x hx
         rw [e] at this;cases this)).1
       rw [List.all_append,hall _ hin,Bool.and_false]
def nfF (t:Tm):Bool × Str:=
 let one:=wholeF true (t.size + 1) t (usedS t)
 if one.1 || decide (8 < one.2.count 35) then (false,[]) else
 ((!(wholeF false (t.size + 1) t (usedS t)).1),(wholeF false (t.size + 1) t (usedS t)).2)
def numE (c:UInt8):Nat:=if smallB c then c.toNat - 97 else 0
def envE (x:Nat):UInt8:=UInt8.ofNat (97 + x)
theorem numE_lt (c:UInt8):numE c < 26:=by
 unfold numE smallB;split
 ·rename_i h;simp at h;omega
 ·omega
theorem envE_num {c:UInt8} (h:smallB c = true):envE (numE c)= c:=by
 unfold envE numE;rw [if_pos h]
 unfold smallB at h;simp at h
 have:97 + (c.toNat - 97)= c.toNat:=by omega
 rw [this];simp
theorem numE_inj {c d:UInt8} (hc:smallB c = true) (hd:smallB d = true) (h:numE c = numE d):c = d:=by rw [← envE_num hc,← envE_num hd,h]
def numT (t:Tm):Nt:=num t numE 0
theorem small_nbg:∀ {t:Tm},t.ok smallB = true→nbg t
 | .zero,_=>trivial
 | .un k a b p,h=>by
   simp only [Tm.ok,Bool.and_eq_true] at h
   refine ⟨fun hb=>?_,small_nbg h.2⟩
   have:smallB b = true:=by
    rcases okhd_cases h.1 with ⟨rfl,ha,hb⟩ | ⟨rfl,ha,hb⟩ | ⟨rfl,ha,hb⟩ | ⟨rfl,ha,hb⟩ | ⟨rfl,ha,hb⟩ | ⟨rfl,ha,hb⟩ <;> first | assumption | (rename_i hh;cases hh)
   unfold smallB at this;unfold isGreat;simp at this ⊢;omega
 | .bin k p q,h=>by
   simp only [Tm.ok,Bool.and_eq_true] at h
   exact ⟨small_nbg h.2.1,small_nbg h.2.2⟩
theorem set_num {t:Tm} (h:t.ok smallB = true):Set t (numT t) numE envE (usedS t) (usedS t):=by
 refine ⟨⟨Tm.ok_mono (fun _=>small_wide) h,(narrow_small h).1,small_nbg h,fun z hz hg=>?_⟩,num_kd h,num_ds (fun c=>by have:=numE_lt c;omega),num_rep (nm:=smallB) rfl h (fun c d=>numE_inj) (fun c=>by have:=numE_lt c;omega),fun z hz=>⟨envE_num (free_ok h (used_free hz)),hz⟩,fun _=>Iff.rfl⟩
 have:=free_ok h hz
 unfold smallB at this;unfold isGreat at hg;simp at this hg;omega
theorem nfF_eq {t:Tm} (h:t.ok smallB = true) (hs:t.size≤130):
  (lvBd (numT t) (usedS t)= false→(5 < lvM (numT t)∨8 < lvA (numT t))→(nfF t).1 = false)∧
  (lvBd (numT t) (usedS t)= false→¬ (5 < lvM (numT t)∨8 < lvA (numT t))→nfF t = (true,lvT (numT t) envE (usedS t)))∧
  (lvBd (numT t) (usedS t)= true→(nfF t).1 = false∨(nfF t).2.all okB = false):=by
 have s:=set_num h
 have one:=whole_sim true (t.size + 1) t _ _ _ _ _ (by omega) hs s
 have two:=whole_sim false (t.size + 1) t _ _ _ _ _ (by omega) hs s
 refine ⟨fun hb hm=>?_,fun hb hm=>?_,fun hb=>?_⟩
 ·obtain ⟨o1,o2⟩:=one.good hb
  unfold nfF
  cases h1:(wholeF true (t.size + 1) t (usedS t)).1
  ·have h2:=(o2 h1).2
   rw [h1] at o1
   have h3:8 < lvA (numT t):=hm.resolve_left (by simpa using o1.symm)
   simp [h2,h3]
  ·simp [h1]
 ·rw [not_or] at hm
  obtain ⟨o1,o2⟩:=one.good hb
  obtain ⟨t1,t2⟩:=two.good hb
  have h1:(wholeF true (t.size + 1) t (usedS t)).1 = false:=by rw [o1];simp;omega
  have h2:(wholeF false (t.size + 1) t (usedS t)).1 = false:=by rw [t1];simp;omega
  unfold nfF
  simp only [h1,h2,(o2 h1).2,(t2 h2).1 rfl]
  simp [hm.2]
 ·unfold nfF
  simp only
  split
  ·exact .inl rfl
  ·rcases two.bad hb rfl with h | h
   ·exact .inl (by simp [h])
   ·exact .inr h
end Go.Proofs.YtbibkgcbdnldbaaGreat
