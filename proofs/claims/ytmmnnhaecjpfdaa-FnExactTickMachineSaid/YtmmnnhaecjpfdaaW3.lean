/- Lemmas for the laws of this seat (my texts, put together), part 3. -/
import Derived.BigQuiet
import Derived.BigRegion
import Derived.Deep.AppendLies
import Derived.Deep.CutBlock
import Derived.Deep.DeepCutAuto
import Derived.Deep.DrawnRows
import Derived.Deep.QuietTactic
import Derived.Deep.RegionHeld3
import Derived.Deep.RegionLaw
import Derived.KernelRfl
import Derived.Laws.OwnMore
import Derived.Lib.QuietBelow
import Derived.Maps.AppendAt
import Derived.OrdersHeld
import Derived.OwnWalk
import Derived.Tactics2
import Derived.Test.YtmmnnhaecjpfdaaW2
set_option maxRecDepth 100000
set_option maxHeartbeats 8000000
set_option linter.unusedVariables false
set_option linter.unusedSimpArgs false
namespace Go.Proofs.Ytmmnnhaecjpfdaa
open Go.RowKit
attribute [local go_sem] S_size S_toList S_lit S_get S_extract S_append drop_all
structure Byt (w:World) (g:Nat) (xs:Str):Prop where
 c:∀ (j:Nat) (x:UInt8),xs[j]? = some x→w.cell? ⟨g,j,none⟩= some (.int .u8 x.toNat)
 z:∀ (j:Nat) (x:UInt8),xs[j]? = some x→w.frozen? ⟨g,j,none⟩= false
theorem Byt.bl {w w':World} (hb:Bl w w') {g:Nat} {xs:Str} (h:Byt w g xs):Byt w' g xs:=
 ⟨fun j x hj=>cell_kept hb (h.c j x hj),fun j x hj=>by rw [Below.frozen hb (cell_lt (h.c j x hj))];exact h.z j x hj⟩
theorem Byt.drew {w:World} {g:Nat} {xs:Str} (h:Byt w g xs):Byt w.drew g xs:=⟨h.c,h.z⟩
theorem Byt.set {w:World} {g:Nat} {xs:Str} (h:Byt w g xs) (i:Nat) (v y:UInt8) (hi:xs[i]? = some y):Byt (w.setCell ⟨g,i,none⟩ (.int .u8 v.toNat)) g (xs.set i v):=by
 refine ⟨fun j x hj=>?_,fun j x hj=>?_⟩
 ·rw [List.getElem?_set] at hj
  split at hj
  ·rename_i e;subst e
   split at hj
   ·obtain rfl:=Option.some.inj hj
    exact World.cell?_setCell_same _ _ _ (h.c _ _ hi)
   ·cases hj
  ·rename_i e
   rw [World.cell?_setCell_other _ _ _ _ (by simp [e])];exact h.c j x hj
 ·rw [List.getElem?_set] at hj
  have:w.frozen? ⟨g,j,none⟩= false:=by
   split at hj
   ·rename_i e;subst e
    exact h.z _ _ hi
   ·exact h.z j x hj
  simp [this]
theorem Byt.conv {w:World} {g:Nat} {xs:Str} (h:Byt w g xs) (n:Nat) (hn:n = xs.length) (c:Nat):(convert 52 9 (.slice (some ⟨g,0,none⟩) n c)).run Try.prog w = .ok (.string (S xs)) w:=by
 subst hn
 exact conv_at w g c xs (fun j hj=>h.c j _ (List.getElem?_eq_getElem hj))
def bc (w:World) (l:Str):Nat:=grownCap w (S l).size 0 5
def bw (w:World) (l:Str):World:=w.drew.alloc (.cells (bytesRow (S l) (bc w l)) 5 ((bytesRow (S l) (bc w l)).size,(bytesRow (S l) (bc w l)).size + 1))
theorem conv_bytes (w:World) (l:Str):(convert 9 52 (.string (S l))).run Try.prog w = .ok (.slice (some ⟨w.heap.size,0,none⟩) l.length (bc w l)) (bw w l):=by
 have:=run_bytes_of_string (P:=Try.prog) w 9 52 5 (S l) Try.underlying9 Try.underlying52 Try.underlying5
 rw [this,S_size];rfl
theorem bw_bl (w:World) (l:Str):Bl w (bw w l):=(bl_drew (Bl.refl w)).trans (bl_alloc _ _)
theorem bw_byt (w:World) (l:Str):Byt (bw w l) w.heap.size l:=by
 have hb:(bw w l).heap[w.heap.size]? = some (.cells (bytesRow (S l) (bc w l)) 5 ((bytesRow (S l) (bc w l)).size,(bytesRow (S l) (bc w l)).size + 1)):=by
  show (w.heap.push _)[w.heap.size]? = _
  simp
 have hx:∀ (j:Nat) (x:UInt8),l[j]? = some x→(bytesRow (S l) (bc w l))[j]? = some (.int .u8 x.toNat):=by
  intro j x hj
  obtain ⟨hlt,rfl⟩:=List.getElem?_eq_some_iff.1 hj
  have:=bytesRow_at (S l) (bc w l) j (by simpa [S] using hlt)
  simpa [S] using this
 refine ⟨fun j x hj=>?_,fun j x hj=>?_⟩
 ·rw [cell_of_row _ _ _ _ _ _ hb];exact hx j x hj
 ·have hlt:j < (bytesRow (S l) (bc w l)).size:=by
   have:=hx j x hj
   obtain ⟨h,_⟩:=Array.getElem?_eq_some_iff.1 this
   exact h
  unfold World.frozen?;rw [hb];simp;omega
attribute [local go_sem] conv_bytes
theorem bw_in (w:World) (l:Str):w.heap.size < (bw w l).heap.size:=by
 show _ < (w.heap.push _).size
 simp
theorem hd_len (k a b a' b':UInt8):(hd k a b).length = (hd k a' b').length:=by
 unfold hd
 by_cases h1:k = 42 <;> by_cases h2:k = 126 <;> by_cases h3:k = 35 <;> by_cases h4:k = 61 <;> simp [h1,h2,h3,h4]
theorem ren_len:∀ (d:Nat) (t:Tm) (x y:UInt8),(txt (renF d t x y)).length = (txt t).length
 | 0,_,_,_=>rfl
 | d + 1, t, x, y => by
   unfold renF
   split
   ·rfl
   ·split
    ·rfl
    ·rename_i k a b p hnc
     split
     ·simp only [txt,List.length_append]
      have h1:∀ q,(txt q).length = (txt p).length→(txt (if (if capB b x y p = true then capC x y p else b)= x then q else renF d q x y)).length = (txt p).length:=by
       intro q hq
       by_cases hbx:(if capB b x y p = true then capC x y p else b)= x
       ·rw [if_pos hbx];exact hq
       ·rw [if_neg hbx,ren_len d];exact hq
      rw [h1]
      ·rw [hd_len k _ _ a b]
      ·split
       ·rw [ren_len d]
       ·rfl
     ·split
      ·simp only [txt,List.length_append,ren_len d];rw [hd_len k _ _ a b]
      ·simp only [txt,List.length_append,ren_len d]
    ·simp only [txt,List.length_append,List.length_cons,ren_len d]
theorem tmRename_id (l:Str) (t:Tm) (x y:UInt8) (w:World) (hl:Hid (l = txt t)) (hk:t.ok wideB = true) (hs:Short l) (h:x = y∨x∉fvS t):
  Calls Try.prog 51 #[.string (S l),.int .u8 x.toNat,.int .u8 y.toNat] w fun e w'=>e = .returned (.string (S l))∧Bl w w':=by
 have c1:=hide fun w=>tmFree_c t w hk (by rw [← hl.out];exact hs)
 rw [← hl.out] at c1
 have hf:=fvS_len t
 have c2:=hide fun w=>tmIn_c (fvS t) x w (by unfold Short;omega)
 by_cases hxy:x = y
 ·subst hxy
  clear c1 c2 h hk
  go_enter Try.func51,Try.ntmps51
  go_wp2_with fail
  go_ret
  exact ⟨rfl,Bl.refl _⟩
 ·have h1:=ne_int hxy
  have h2:decide (x∈fvS t)= false:=by simpa using h.resolve_left hxy
  rw [h2] at c2
  generalize fvS t = f at c1 c2
  clear h hxy h2
  go_enter Try.func51,Try.ntmps51
  go_wp2_with (first | (go_at_call 73;(with_reducible refine (c1.out _).mono ?_);rintro e w' ⟨rfl,hb⟩) | (go_at_call 42;(with_reducible refine (c2.out _).mono ?_);rintro e w' ⟨rfl,rfl⟩))
  go_ret
  exact ⟨rfl,bls⟩
theorem bl_set {w w':World} (h:Bl w w') {g i:Nat} {v:Value} (hg:w.heap.size≤g):Bl w (w'.setCell ⟨g,i,none⟩ v):=Below.setCell h hg v
theorem bl_set2 {w w':World} (h:Bl w w') {g i j:Nat} {v u:Value} (hg:w.heap.size≤g):Bl w ((w'.setCell ⟨g,i,none⟩ v).setCell ⟨g,j,none⟩ u):=bl_set (bl_set h hg) hg
theorem tmRename_33 (l f:Str) (a b x y:UInt8) (p:Tm) (r:Str) (w:World) (U:UnL l 33 a b p) (hk:okhd wideB 33 a b = true) (hs:l.length≤1000000) (hxy:x≠y)
  (c1:Hid (∀ w,Calls Try.prog 73 #[.string (S l)] w fun e w'=>e = .returned (.string (S f))∧Bl w w'))
  (c2:Hid (∀ w,Calls Try.prog 42 #[.string (S f),.int .u8 x.toNat] w fun e w'=>e = .returned (.bool true)∧w = w')) (hr:r.length≤1000000)
  (ih:Hid (∀ w,Calls Try.prog 51 #[.string (S (txt p)),.int .u8 x.toNat,.int .u8 y.toNat] w fun e w'=>e = .returned (.string (S r))∧Bl w w')):
  Calls Try.prog 51 #[.string (S l),.int .u8 x.toNat,.int .u8 y.toNat] w fun e w'=>e = .returned (.string (S ([(sw a x y),33,(sw b x y),46] ++ r)))∧Bl w w':=by
 obtain ⟨k1,k2,-,k4,he⟩:=U
 have h1:=ne_int hxy
 have hl:l = a :: 33 :: b :: 46 :: txt p:=by rw [he.out];simp [txt,hd]
 have n1:(4:Int)≤l.length:=by have:=congrArg List.length hl;simp only [List.length_cons] at this;omega
 have t1:List.take 4 l = [a,33,b,46]:=by rw [hl];rfl
 have t2:List.drop 4 l = txt p:=by rw [hl];rfl
 have t3:List.take (List.length l - 4) (txt p)= txt p:=by rw [hl];simp
 have k4:Hid (∀ w,Calls Try.prog 74 #[.string (S l)] w fun e w'=>e = .returned (.tuple #[.int .u8 0,.bool false])∧w = w'):=k4
 have k2:Hid (∀ w,Calls Try.prog 71 #[.string (S l)] w fun e w'=>e = .returned (.int .i64 4)∧w = w'):=k2
 have s1:=hide fun w=>tmSwap_c a x y w
 have s2:=hide fun w=>tmSwap_c b x y w
 generalize sw a x y = a' at s1
 generalize sw b x y = b' at s2
 generalize txt p = tp at *
 have hB:=fun (w:World)=>bw_byt w [a,33,b,46]
 have hBl:=fun (w:World)=>bw_bl w [a,33,b,46]
 have hin:=fun (w:World)=>bw_in w [a,33,b,46]
 clear hl he hk hxy
 go_enter Try.func51,Try.ntmps51
 go_wp2_with (first | (go_at_call 73;(with_reducible refine (c1.out _).mono ?_);rintro e w' ⟨rfl,hb⟩;(have f0:=(hB w').c 0 a rfl;have f2:=(hB w').c 2 b rfl;have z0:=(hB w').z 0 a rfl;have z2:=(hB w').z 2 b rfl)) | (go_at_call 42;(with_reducible refine (c2.out _).mono ?_);rintro e w' ⟨rfl,rfl⟩) | (go_at_call 71;(with_reducible refine (k2.out _).mono ?_);rintro e w' ⟨rfl,rfl⟩) | (go_at_call 74;(with_reducible refine (k4.out _).mono ?_);rintro e w' ⟨rfl,rfl⟩) | (go_at_call 46;(with_reducible refine (k1.out _).mono ?_);rintro e w' ⟨rfl,rfl⟩) | (go_at_call 75;first | ((with_reducible refine (s1.out _).mono ?_);rintro e w1 ⟨rfl,rfl⟩) | ((with_reducible refine (s2.out _).mono ?_);rintro e w1 ⟨rfl,rfl⟩)))
 have HB:=((hB w').set 0 a' a rfl).set 2 b' b rfl
 have HL:Bl w (((bw w' [a,33,b,46]).setCell ⟨w'.heap.size,0,none⟩ (.int .u8 a'.toNat)).setCell ⟨w'.heap.size,2,none⟩ (.int .u8 b'.toNat)):=bl_set2 (hb.trans (hBl w')) (Below.size hb)
 generalize bc w' [a,33,b,46] = cp
 generalize ((bw w' [a,33,b,46]).setCell ⟨w'.heap.size,0,none⟩ (.int .u8 a'.toNat)).setCell ⟨w'.heap.size,2,none⟩ (.int .u8 b'.toNat)= W at HB HL
 generalize w'.heap.size = g at *
 clear f0 f2 z0 z2 hB hBl hin
 have hcv:=(Byt.drew HB).conv 4 rfl cp
 have HB:=hide HB
 go_region_with (go_at_call 51;(with_reducible refine (ih.out _).mono ?_);rintro e w2 ⟨rfl,hb2⟩;have hcv2:=(HB.out.drew.bl hb2).conv 4 rfl cp)
 all_goals
  go_wp2_with fail
  go_ret
  exact ⟨rfl,bls⟩
theorem tmRename_61 (l f:Str) (a b x y:UInt8) (p:Tm) (r:Str) (w:World) (U:UnL l 61 a b p) (hk:okhd wideB 61 a b = true) (hs:l.length≤1000000) (hxy:x≠y)
  (c1:Hid (∀ w,Calls Try.prog 73 #[.string (S l)] w fun e w'=>e = .returned (.string (S f))∧Bl w w'))
  (c2:Hid (∀ w,Calls Try.prog 42 #[.string (S f),.int .u8 x.toNat] w fun e w'=>e = .returned (.bool true)∧w = w')) (hr:r.length≤1000000)
  (ih:Hid (∀ w,Calls Try.prog 51 #[.string (S (txt p)),.int .u8 x.toNat,.int .u8 y.toNat] w fun e w'=>e = .returned (.string (S r))∧Bl w w')):
  Calls Try.prog 51 #[.string (S l),.int .u8 x.toNat,.int .u8 y.toNat] w fun e w'=>e = .returned (.string (S ([91,(sw a x y),61,(sw b x y),93] ++ r)))∧Bl w w':=by
 obtain ⟨k1,k2,-,k4,he⟩:=U
 have h1:=ne_int hxy
 have hl:l = 91 :: a :: 61 :: b :: 93 :: txt p:=by rw [he.out];simp [txt,hd]
 have n1:(5:Int)≤l.length:=by have:=congrArg List.length hl;simp only [List.length_cons] at this;omega
 have t1:List.take 5 l = [91,a,61,b,93]:=by rw [hl];rfl
 have t2:List.drop 5 l = txt p:=by rw [hl];rfl
 have t3:List.take (List.length l - 5) (txt p)= txt p:=by rw [hl];simp
 have k4:Hid (∀ w,Calls Try.prog 74 #[.string (S l)] w fun e w'=>e = .returned (.tuple #[.int .u8 0,.bool false])∧w = w'):=k4
 have k2:Hid (∀ w,Calls Try.prog 71 #[.string (S l)] w fun e w'=>e = .returned (.int .i64 5)∧w = w'):=k2
 have s1:=hide fun w=>tmSwap_c a x y w
 have s2:=hide fun w=>tmSwap_c b x y w
 generalize sw a x y = a' at s1
 generalize sw b x y = b' at s2
 generalize txt p = tp at *
 have hB:=fun (w:World)=>bw_byt w [91,a,61,b,93]
 have hBl:=fun (w:World)=>bw_bl w [91,a,61,b,93]
 have hin:=fun (w:World)=>bw_in w [91,a,61,b,93]
 clear hl he hk hxy
 go_enter Try.func51,Try.ntmps51
 go_wp2_with (first | (go_at_call 73;(with_reducible refine (c1.out _).mono ?_);rintro e w' ⟨rfl,hb⟩;(have f0:=(hB w').c 1 a rfl;have f2:=(hB w').c 3 b rfl;have z0:=(hB w').z 1 a rfl;have z2:=(hB w').z 3 b rfl)) | (go_at_call 42;(with_reducible refine (c2.out _).mono ?_);rintro e w' ⟨rfl,rfl⟩) | (go_at_call 71;(with_reducible refine (k2.out _).mono ?_);rintro e w' ⟨rfl,rfl⟩) | (go_at_call 74;(with_reducible refine (k4.out _).mono ?_);rintro e w' ⟨rfl,rfl⟩) | (go_at_call 46;(with_reducible refine (k1.out _).mono ?_);rintro e w' ⟨rfl,rfl⟩) | (go_at_call 75;first | ((with_reducible refine (s1.out _).mono ?_);rintro e w1 ⟨rfl,rfl⟩) | ((with_reducible refine (s2.out _).mono ?_);rintro e w1 ⟨rfl,rfl⟩)))
 have HB:=((hB w').set 1 a' a rfl).set 3 b' b rfl
 have HL:Bl w (((bw w' [91,a,61,b,93]).setCell ⟨w'.heap.size,1,none⟩ (.int .u8 a'.toNat)).setCell ⟨w'.heap.size,3,none⟩ (.int .u8 b'.toNat)):=bl_set2 (hb.trans (hBl w')) (Below.size hb)
 generalize bc w' [91,a,61,b,93] = cp
 generalize ((bw w' [91,a,61,b,93]).setCell ⟨w'.heap.size,1,none⟩ (.int .u8 a'.toNat)).setCell ⟨w'.heap.size,3,none⟩ (.int .u8 b'.toNat)= W at HB HL
 generalize w'.heap.size = g at *
 clear f0 f2 z0 z2 hB hBl hin
 have hcv:=(Byt.drew HB).conv 5 rfl cp
 have HB:=hide HB
 go_region_with (go_at_call 51;(with_reducible refine (ih.out _).mono ?_);rintro e w2 ⟨rfl,hb2⟩;have hcv2:=(HB.out.drew.bl hb2).conv 5 rfl cp)
 all_goals
  go_wp2_with fail
  go_ret
  exact ⟨rfl,bls⟩
theorem tmRename_42 (l f:Str) (a b x y:UInt8) (p:Tm) (r:Str) (w:World) (U:UnL l 42 a b p) (hk:okhd wideB 42 a b = true) (hs:l.length≤1000000) (hxy:x≠y)
  (c1:Hid (∀ w,Calls Try.prog 73 #[.string (S l)] w fun e w'=>e = .returned (.string (S f))∧Bl w w'))
  (c2:Hid (∀ w,Calls Try.prog 42 #[.string (S f),.int .u8 x.toNat] w fun e w'=>e = .returned (.bool true)∧w = w')) (hr:r.length≤1000000)
  (ih:Hid (∀ w,Calls Try.prog 51 #[.string (S (txt p)),.int .u8 x.toNat,.int .u8 y.toNat] w fun e w'=>e = .returned (.string (S r))∧Bl w w')):
  Calls Try.prog 51 #[.string (S l),.int .u8 x.toNat,.int .u8 y.toNat] w fun e w'=>e = .returned (.string (S ([42] ++ r)))∧Bl w w':=by
 obtain ⟨k1,k2,-,k4,he⟩:=U
 have h1:=ne_int hxy
 have hl:l = 42 :: txt p:=by rw [he.out];simp [txt,hd]
 have n1:(1:Int)≤l.length:=by have:=congrArg List.length hl;simp only [List.length_cons] at this;omega
 have t1:List.take 1 l = [42]:=by rw [hl];rfl
 have t2:List.drop 1 l = txt p:=by rw [hl];rfl
 have t3:List.take (List.length l - 1) (txt p)= txt p:=by rw [hl];simp
 have k4:Hid (∀ w,Calls Try.prog 74 #[.string (S l)] w fun e w'=>e = .returned (.tuple #[.int .u8 0,.bool false])∧w = w'):=k4
 have k2:Hid (∀ w,Calls Try.prog 71 #[.string (S l)] w fun e w'=>e = .returned (.int .i64 1)∧w = w'):=k2
 generalize txt p = tp at *
 have hB:=fun (w:World)=>bw_byt w [42]
 have hBl:=fun (w:World)=>bw_bl w [42]
 have hin:=fun (w:World)=>bw_in w [42]
 clear hl he hk hxy
 go_enter Try.func51,Try.ntmps51
 go_wp2_with (first | (go_at_call 73;(with_reducible refine (c1.out _).mono ?_);rintro e w' ⟨rfl,hb⟩) | (go_at_call 42;(with_reducible refine (c2.out _).mono ?_);rintro e w' ⟨rfl,rfl⟩) | (go_at_call 71;(with_reducible refine (k2.out _).mono ?_);rintro e w' ⟨rfl,rfl⟩) | (go_at_call 74;(with_reducible refine (k4.out _).mono ?_);rintro e w' ⟨rfl,rfl⟩) | (go_at_call 46;(with_reducible refine (k1.out _).mono ?_);rintro e w' ⟨rfl,rfl⟩))
 have HB:=hB w'
 have HL:Bl w (bw w' [42]):=hb.trans (hBl w')
 generalize bc w' [42] = cp
 generalize bw w' [42] = W at HB HL
 generalize w'.heap.size = g at *
 clear hB hBl hin
 have hcv:=(Byt.drew HB).conv 1 rfl cp
 have HB:=hide HB
 go_region_with (go_at_call 51;(with_reducible refine (ih.out _).mono ?_);rintro e w2 ⟨rfl,hb2⟩;have hcv2:=(HB.out.drew.bl hb2).conv 1 rfl cp)
 all_goals
  go_wp2_with fail
  go_ret
  exact ⟨rfl,bls⟩
theorem tmRename_126 (l f:Str) (a b x y:UInt8) (p:Tm) (r:Str) (w:World) (U:UnL l 126 a b p) (hk:okhd wideB 126 a b = true) (hs:l.length≤1000000) (hxy:x≠y)
  (c1:Hid (∀ w,Calls Try.prog 73 #[.string (S l)] w fun e w'=>e = .returned (.string (S f))∧Bl w w'))
  (c2:Hid (∀ w,Calls Try.prog 42 #[.string (S f),.int .u8 x.toNat] w fun e w'=>e = .returned (.bool true)∧w = w')) (hr:r.length≤1000000)
  (ih:Hid (∀ w,Calls Try.prog 51 #[.string (S (txt p)),.int .u8 x.toNat,.int .u8 y.toNat] w fun e w'=>e = .returned (.string (S r))∧Bl w w')):
  Calls Try.prog 51 #[.string (S l),.int .u8 x.toNat,.int .u8 y.toNat] w fun e w'=>e = .returned (.string (S ([126,46] ++ r)))∧Bl w w':=by
 obtain ⟨k1,k2,-,k4,he⟩:=U
 have h1:=ne_int hxy
 have hl:l = 126 :: 46 :: txt p:=by rw [he.out];simp [txt,hd]
 have n1:(2:Int)≤l.length:=by have:=congrArg List.length hl;simp only [List.length_cons] at this;omega
 have t1:List.take 2 l = [126,46]:=by rw [hl];rfl
 have t2:List.drop 2 l = txt p:=by rw [hl];rfl
 have t3:List.take (List.length l - 2) (txt p)= txt p:=by rw [hl];simp
 have k4:Hid (∀ w,Calls Try.prog 74 #[.string (S l)] w fun e w'=>e = .returned (.tuple #[.int .u8 0,.bool false])∧w = w'):=k4
 have k2:Hid (∀ w,Calls Try.prog 71 #[.string (S l)] w fun e w'=>e = .returned (.int .i64 2)∧w = w'):=k2
 generalize txt p = tp at *
 have hB:=fun (w:World)=>bw_byt w [126,46]
 have hBl:=fun (w:World)=>bw_bl w [126,46]
 have hin:=fun (w:World)=>bw_in w [126,46]
 clear hl he hk hxy
 go_enter Try.func51,Try.ntmps51
 go_wp2_with (first | (go_at_call 73;(with_reducible refine (c1.out _).mono ?_);rintro e w' ⟨rfl,hb⟩) | (go_at_call 42;(with_reducible refine (c2.out _).mono ?_);rintro e w' ⟨rfl,rfl⟩) | (go_at_call 71;(with_reducible refine (k2.out _).mono ?_);rintro e w' ⟨rfl,rfl⟩) | (go_at_call 74;(with_reducible refine (k4.out _).mono ?_);rintro e w' ⟨rfl,rfl⟩) | (go_at_call 46;(with_reducible refine (k1.out _).mono ?_);rintro e w' ⟨rfl,rfl⟩))
 have HB:=hB w'
 have HL:Bl w (bw w' [126,46]):=hb.trans (hBl w')
 generalize bc w' [126,46] = cp
 generalize bw w' [126,46] = W at HB HL
 generalize w'.heap.size = g at *
 clear hB hBl hin
 have hcv:=(Byt.drew HB).conv 2 rfl cp
 have HB:=hide HB
 go_region_with (go_at_call 51;(with_reducible refine (ih.out _).mono ?_);rintro e w2 ⟨rfl,hb2⟩;have hcv2:=(HB.out.drew.bl hb2).conv 2 rfl cp)
 all_goals
  go_wp2_with fail
  go_ret
  exact ⟨rfl,bls⟩
end Go.Proofs.Ytmmnnhaecjpfdaa
namespace Go.Proofs.Ytmmnnhaecjpfdaa
open Go.RowKit
abbrev strV (s:Str):Value:=.string (S s)
def SL (w:World) (base:Nat) (v:Value) (xs:List Str):Prop:=w.ownsRow base 9 1 v xs.length (xs.map strV)
theorem SL.nil (w:World) (base:Nat):SL w base (.slice none 0 0) []:=World.ownsRow_nil _ _ _ _
theorem SL.mono {w:World} {base b2:Nat} {v:Value} {xs:List Str} (h:SL w base v xs) (hb:b2≤base):SL w b2 v xs:=
 ⟨h.1,h.2.imp id (fun ⟨g,cap,cur,h1,h2,h3⟩=>⟨g,cap,cur,h1,Nat.le_trans hb h2,h3⟩)⟩
theorem SL.bl {w w':World} {base:Nat} {v:Value} {xs:List Str} (h:SL w base v xs) (hb:Bl w w'):SL w' base v xs:=by
 refine ⟨h.1,h.2.imp id ?_⟩
 rintro ⟨g,cap,cur,h1,h2,h3,h4⟩
 have hlt:g < w.heap.size:=by
  rcases Nat.lt_or_ge g w.heap.size with h | h
  ·exact h
  ·rw [Array.getElem?_eq_none h] at h3;cases h3
 exact ⟨g,cap,cur,h1,h2,(Below.block hb g hlt).trans h3,h4⟩
theorem SL.one (w:World) (s:Str) {base:Nat} (hb:base≤w.heap.size):SL (w.alloc (.cells #[.string (S s)] 9)) base (.slice (some ⟨w.heap.size,0,none⟩) 1 1) [s]:=
 World.ownsRow_lit w _ 1 hb (by decide) rfl
theorem SL.form {w:World} {base:Nat} {v:Value} {xs:List Str} (h:SL w base v xs):
  (v = .slice none 0 0∧xs = [])∨∃ g c,v = .slice (some ⟨g,0,none⟩) xs.length c∧base≤g∧(g < w.heap.size∧xs.length≤c)∧∀ (j:Nat) (x:Str),xs[j]? = some x→w.cell? ⟨g,j,none⟩= some (strV x):=by
 rcases h.2 with ⟨h1,h2⟩ | ⟨g,cap,cur,h1,h2,h3,h4,h5,h6,h7⟩
 ·exact .inl ⟨h1,List.eq_nil_of_length_eq_zero h2⟩
 ·refine .inr ⟨g,cap,h1,h2,⟨?_,h4⟩,fun j x hj=>?_⟩
  ·rcases Nat.lt_or_ge g w.heap.size with h | h
   ·exact h
   ·rw [Array.getElem?_eq_none h] at h3;cases h3
  ·rw [cell_of_row _ _ _ _ _ _ h3]
   have hlt:j < xs.length:=(List.getElem?_eq_some_iff.1 hj).1
   have:(cur.toList.take (xs.length * 1))[j]? = some (strV x):=by rw [h7,List.getElem?_map,hj];rfl
   rw [List.getElem?_take_of_lt (by omega)] at this
   simpa using this
theorem SL.lt {w:World} {base:Nat} {v:Value} {xs:List Str} (h:SL w base v xs):∀ k,v.ownBlock = some k→base≤k∧k < w.heap.size:=World.ownsRow.lt h
theorem str_info:(Try.prog.info? 9).map (fun i=>(i.zero,i.size,i.bytes))= some (some (.string (S [])),1,16):=by kernel_rfl
def Src (w:World) (u:Value) (ys:List Str):Prop:=∃ A c,u = .slice A ys.length c∧((A = none∧ys = [])∨∃ ad,A = some ad∧∀ (j:Nat) (x:Str),ys[j]? = some x→w.cell? (ad.add j)= some (strV x))
theorem SL.src {w:World} {base:Nat} {v:Value} {xs:List Str} (h:SL w base v xs):Src w v xs:=by
 rcases h.form with ⟨rfl,rfl⟩ | ⟨g,c,rfl,_,_,hc⟩
 ·exact ⟨none,0,rfl,.inl ⟨rfl,rfl⟩⟩
 ·refine ⟨_,c,rfl,.inr ⟨_,rfl,fun j x hj=>?_⟩⟩
  have e:(⟨g,0,none⟩:Addr).add j = ⟨g,j,none⟩:=by cases j <;> simp [Addr.add]
  rw [e];exact hc j x hj
theorem sl_append (w:World) (ty:TypeId) (base:Nat) (v u:Value) (xs ys:List Str) (h:SL w base v xs) (g:Src w u ys) (hl:xs.length + ys.length≤100000) (hb:base≤w.heap.size):
  ∃ v' w',(Builtin.append_ #[27,27] ty #[v,u]).run Try.prog w = .ok v' w'∧SL w' base v' (xs ++ ys)∧w.grownBy w' v.ownBlock∧(v'.ownBlock = v.ownBlock∨v'.ownBlock = some w.heap.size):=by
 obtain ⟨i,hi,hz,hs,hby⟩:=info_parts str_info
 have h1:∀ x∈ys.map strV,x.oneCell' = true:=by
  intro x hx
  obtain ⟨s,_,rfl⟩:=List.mem_map.1 hx
  rfl
 obtain ⟨A,c,rfl,⟨rfl,rfl⟩ | ⟨ad,rfl,hc⟩⟩:=g
 ·refine ⟨v,w,?_,by simpa using h,World.grownBy.refl _ _,.inl rfl⟩
  rcases h.2 with ⟨rfl,hn⟩ | ⟨g',cap,cur,rfl,_,_,hnc,_⟩
  ·simp [Builtin.append_,run_underlying Try.underlying27,sizeOf,typeInfo,hi,Builtin.lenOf,Builtin.firstCells]
  ·simp [Builtin.append_,run_underlying Try.underlying27,sizeOf,typeInfo,hi,Builtin.lenOf,Builtin.firstCells,hnc,storeCells]
 ·have hcells:∀ j x,(ys.map strV)[j]? = some x→w.cell? (ad.add j)= some x:=by
   intro j x hj
   rw [List.getElem?_map] at hj
   obtain ⟨s,hs2,rfl⟩:=Option.map_eq_some_iff.1 hj
   exact hc j s hs2
  obtain ⟨v',w',hrun,h2,h3,_,h5⟩:=run_append_own_at (P:=Try.prog) w base 27 ty 9 i (.string (S [])) 1 16 Try.underlying27 hi hz hs hby rfl (by decide) v xs.length (xs.map strV) h
   ad ys.length c (ys.map strV) (by simp) hcells h1 (by simp only [maxLen];omega) (by omega) hb
  refine ⟨v',w',hrun,?_,h3,h5⟩
  unfold SL
  rw [List.length_append,List.map_append];exact h2
theorem sl_op {ops:Array Oper} {rest:List Oper} {o:Oper} {a:Act} {Q:Exit→Act→World→Prop} (w:World) (s x:Operand) (base:Nat) (v u:Value) (xs ys:List Str)
  (hgd:o.guard = none) (ho:o.op = .call { callee:=.builtin .append,args:=#[s,x],argTypes:=#[27,27] })
  (hs:a.eval s = v) (hx:a.eval x = u) (h:SL w base v xs) (g:Src w u ys) (hl:xs.length + ys.length≤100000) (hb:base≤w.heap.size)
  (k:∀ v' w',SL w' base v' (xs ++ ys)→w.grownBy w' v.ownBlock→(v'.ownBlock = v.ownBlock∨v'.ownBlock = some w.heap.size)→wpList Try.prog ops Q rest (a.put o.dst v') w'):wpList Try.prog ops Q (o :: rest) a w:=by
 refine wpList_plain hgd fun K hK=>?_
 obtain ⟨v',w',hr,h1,h2,h3⟩:=sl_append w o.type base v u xs ys h g hl hb
 unfold Oper.wp execOp
 simp only [ho,resolve,invoke,builtin,Sem.run_bind,Sem.run_pure,Result.andThen_ok,List.map_toArray,List.map_cons,List.map_nil,hs,hx,hr]
 exact hK _ _ (k v' w' h1 h2 h3)
theorem sl_step {ops:Array Oper} {o:Oper} {a:Act} {K:Act→World→Prop} {Q:Exit→Act→World→Prop} {E:Prop} (w:World) (s x:Operand) (base:Nat) (v u:Value) (xs ys:List Str)
  (hgd:o.guard = none) (ho:o.op = .call { callee:=.builtin .append,args:=#[s,x],argTypes:=#[27,27] })
  (hs:a.eval s = v) (hx:a.eval x = u) (h:SL w base v xs) (g:Src w u ys) (hl:xs.length + ys.length≤100000) (hb:base≤w.heap.size)
  (k:∀ v' w',SL w' base v' (xs ++ ys)→w.grownBy w' v.ownBlock→(v'.ownBlock = v.ownBlock∨v'.ownBlock = some w.heap.size)→K (a.put o.dst v') w'):
  if Region.wanted o (yielded ops a.tmps)= true then Oper.wp Try.prog o a w K Q else E:=by
 have hw:Region.wanted o (yielded ops a.tmps)= true:=by simp [Region.wanted,hgd]
 rw [if_pos hw]
 obtain ⟨v',w',hr,h1,h2,h3⟩:=sl_append w o.type base v u xs ys h g hl hb
 unfold Oper.wp execOp
 simp only [ho,resolve,invoke,builtin,Sem.run_bind,Sem.run_pure,Result.andThen_ok,List.map_toArray,List.map_cons,List.map_nil,hs,hx,hr]
 exact k v' w' h1 h2 h3
theorem bl_grown {w0 w w':World} {v:Value} (h:Bl w0 w) (hg:w.grownBy w' v.ownBlock) (hv:∀ k,v.ownBlock = some k→w0.heap.size≤k):Bl w0 w':=
 Below.grown h hg (Below.size h) hv
theorem Src.bl {w w':World} {u:Value} {ys:List Str} (h:Src w u ys) (hb:Bl w w'):Src w' u ys:=by
 obtain ⟨A,c,h1,h2⟩:=h
 refine ⟨A,c,h1,h2.imp id ?_⟩
 rintro ⟨ad,h3,h4⟩
 exact ⟨ad,h3,fun j x hj=>cell_kept hb (h4 j x hj)⟩
theorem SL.zero (w:World) {base:Nat} (hb:base≤w.heap.size):SL (w.alloc (.cells #[] 9)) base (.slice (some ⟨w.heap.size,0,none⟩) 0 0) []:=
 World.ownsRow_lit w #[] 0 hb (by decide) rfl
theorem src_nil (w:World) (A:Option Addr) (c:Nat):Src w (.slice A 0 c) []:=by
 cases A with
 | none=>exact ⟨none,c,rfl,.inl ⟨rfl,rfl⟩⟩
 | some a=>exact ⟨_,c,rfl,.inr ⟨a,rfl,fun j x hj=>by simp at hj⟩⟩
theorem src_pre {w:World} {g c:Nat} {ys:List Str} (hc:∀ (j:Nat) (x:Str),ys[j]? = some x→w.cell? ⟨g,j,none⟩= some (strV x)) {k:Nat} (hk:k≤ys.length):Src w (.slice (some ⟨g,0,none⟩) k c) (ys.take k):=by
 refine ⟨some ⟨g,0,none⟩,c,by rw [List.length_take,Nat.min_eq_left hk],.inr ⟨_,rfl,fun j x hj=>?_⟩⟩
 have e:(⟨g,0,none⟩:Addr).add j = ⟨g,j,none⟩:=by cases j <;> simp [Addr.add]
 rw [e]
 rw [List.getElem?_take] at hj
 split at hj
 ·exact hc j x hj
 ·cases hj
theorem src_suf {w:World} {g c:Nat} {ys:List Str} (hc:∀ (j:Nat) (x:Str),ys[j]? = some x→w.cell? ⟨g,j,none⟩= some (strV x)) {k:Nat} (hk:k≤ys.length):Src w (.slice (some ⟨g,k,none⟩) (ys.length - k) c) (ys.drop k):=by
 refine ⟨some ⟨g,k,none⟩,c,by rw [List.length_drop],.inr ⟨_,rfl,fun j x hj=>?_⟩⟩
 have e:(⟨g,k,none⟩:Addr).add j = ⟨g,k + j,none⟩:=by cases j <;> simp [Addr.add]
 rw [e]
 rw [List.getElem?_drop] at hj
 exact hc _ x hj
theorem bl_src {w a b:World} (_:Bl a b) (k:Bl w a):Bl w a:=k
end Go.Proofs.Ytmmnnhaecjpfdaa
namespace Go.Proofs.Ytmmnnhaecjpfdaa
open Go.RowKit
structure Fx (A:Nat→Prop) (w w':World):Prop where
 os:w'.os = w.os
 tape:w'.tape = w.tape
 output:w'.output = w.output
 size:w.heap.size≤w'.heap.size
 block:∀ k,k < w.heap.size→¬ A k→w'.heap[k]? = w.heap[k]?
theorem Fx.refl (A:Nat→Prop) (w:World):Fx A w w:=⟨rfl,rfl,rfl,Nat.le_refl _,fun _ _ _=>rfl⟩
theorem Fx.trans {A B:Nat→Prop} {a b c:World} (h:Fx A a b) (k:Fx B b c) (hAB:∀ i,i < a.heap.size→B i→A i):Fx A a c:=
 ⟨k.os.trans h.os,k.tape.trans h.tape,k.output.trans h.output,Nat.le_trans h.size k.size,fun i hi hA=>(k.block i (Nat.lt_of_lt_of_le hi h.size) (fun hB=>hA (hAB i hi hB))).trans (h.block i hi hA)⟩
theorem Fx.weaken {A B:Nat→Prop} {w w':World} (h:Fx A w w') (hAB:∀ i,i < w.heap.size→A i→B i):Fx B w w':=
 ⟨h.os,h.tape,h.output,h.size,fun i hi hB=>h.block i hi (fun hA=>hB (hAB i hi hA))⟩
theorem Fx.of_bl {A:Nat→Prop} {w w':World} (h:Bl w w'):Fx A w w':=⟨Below.os h,Below.tape h,Below.output h,Below.size h,fun k hk _=>Below.block h k hk⟩
theorem Fx.of_bx {g:Nat} {w w':World} (h:Bx g w w'):Fx (· = g) w w':=⟨h.os,h.tape,h.output,h.size,fun k hk hg=>h.block k hk hg⟩
theorem Fx.bl {A:Nat→Prop} {w w':World} (h:Fx A w w') (hA:∀ k,A k→w.heap.size≤k):Bl w w':=
 ⟨h.os,h.tape,h.output,h.size,fun k hk=>h.block k hk (fun ha=>by have:=hA k ha;omega)⟩
theorem Fx.bl' {A:Nat→Prop} {a w w':World} (hb:Bl a w) (h:Fx A w w') (hA:∀ k,A k→a.heap.size≤k):Bl a w':=
 ⟨h.os.trans (Below.os hb),h.tape.trans (Below.tape hb),h.output.trans (Below.output hb),Nat.le_trans (Below.size hb) h.size,fun k hk=>(h.block k (Nat.lt_of_lt_of_le hk (Below.size hb)) (fun ha=>by have:=hA k ha;omega)).trans (Below.block hb k hk)⟩
theorem Fx.cell {A:Nat→Prop} {w w':World} (h:Fx A w w') {b i:Nat} {v:Value} (hg:¬ A b) (hv:w.cell? ⟨b,i,none⟩= some v):w'.cell? ⟨b,i,none⟩= some v:=by
 rw [World.cell?_of_block (w:=w) (h.block b (cell_lt hv) hg)];exact hv
theorem Fx.heap {A:Nat→Prop} {w w':World} (h:Fx A w w') {b:Nat} {o:Obj} (hg:¬ A b) (hv:w.heap[b]? = some o):w'.heap[b]? = some o:=by
 rw [h.block b (lt_of_block hv) hg];exact hv
theorem fx_grown {w w':World} {row:Option Nat} (h:w.grownBy w' row):Fx (fun k=>row = some k) w w':=⟨h.os,h.tape,h.output,h.size,fun k hk hr=>h.block k hk (fun e=>hr e.symm)⟩
theorem blk_cell {w:World} {b i:Nat} {cs:Array Value} {T:TypeId} {v:Value} (h:w.heap[b]? = some (.cells cs T (0,0))) (hv:cs[i]? = some v):w.cell? ⟨b,i,none⟩= some v:=by
 rw [cell_of_row _ _ _ _ _ _ h];exact hv
theorem blk_free {w:World} {b i:Nat} {cs:Array Value} {T:TypeId} (h:w.heap[b]? = some (.cells cs T (0,0))):w.frozen? ⟨b,i,none⟩= false:=by simp [World.frozen?,h]
theorem blk_shape {w:World} {b:Nat} {cs:Array Value} {T:TypeId} (h:w.heap[b]? = some (.cells cs T (0,0))):w.shape? b = some (T,cs.size):=by simp [World.shape?,h]
theorem blk_new (w:World) (cs:Array Value) (T:TypeId):(w.alloc (.cells cs T)).heap[w.heap.size]? = some (.cells cs T (0,0)):=by
 show (w.heap.push _)[w.heap.size]? = _
 simp
theorem blk_bl {w w':World} (hb:Bl w w') {b:Nat} {o:Obj} (h:w.heap[b]? = some o):w'.heap[b]? = some o:=by rw [Below.block hb b (lt_of_block h)];exact h
theorem blk_set {w:World} {b i:Nat} {cs:Array Value} {T:TypeId} (h:w.heap[b]? = some (.cells cs T (0,0))) (u:Value):(w.setCell ⟨b,i,none⟩ u).heap[b]? = some (.cells (cs.modify i (fun _=>u)) T (0,0)):=by
 have hlt:=lt_of_block h
 have h':w.heap[b] = .cells cs T (0,0):=by simpa [Array.getElem?_eq_getElem hlt] using h
 show (w.heap.modify b _)[b]? = _
 rw [Array.getElem?_eq_getElem (by simpa using hlt),Array.getElem_modify_self,h']
 simp
 rfl
structure RowTy (T S:TypeId) (z:Value):Prop where
 und:Try.prog.underlying S = some (.slice T)
 info:(Try.prog.info? T).map (fun i=>(i.zero,i.size,i.bytes))= some (some z,1,8)
 one:z.cells.size = 1
abbrev encI (x:Nat):Value:=.int .i64 x
abbrev encP (x:Nat):Value:=.pointer (some ⟨x,0,none⟩)
def RL (T:TypeId) (enc:Nat→Value) (w:World) (base:Nat) (v:Value) (xs:List Nat):Prop:=w.ownsRow base T 1 v xs.length (xs.map enc)
section
variable {T S:TypeId} {z:Value} {enc:Nat→Value}
theorem RL.nil (w:World) (base:Nat):RL T enc w base (.slice none 0 0) []:=World.ownsRow_nil _ _ _ _
theorem RL.mono {w:World} {base b2:Nat} {v:Value} {xs:List Nat} (h:RL T enc w base v xs) (hb:b2≤base):RL T enc w b2 v xs:=
 ⟨h.1,h.2.imp id (fun ⟨g,cap,cur,h1,h2,h3⟩=>⟨g,cap,cur,h1,Nat.le_trans hb h2,h3⟩)⟩
theorem RL.heap {w w':World} {base:Nat} {v:Value} {xs:List Nat} (h:RL T enc w base v xs) (hb:∀ k,v.ownBlock = some k→k < w.heap.size→w'.heap[k]? = w.heap[k]?):RL T enc w' base v xs:=by
 refine ⟨h.1,h.2.imp id ?_⟩
 rintro ⟨g,cap,cur,h1,h2,h3,h4⟩
 exact ⟨g,cap,cur,h1,h2,(hb g (by rw [h1];rfl) (lt_of_block h3)).trans h3,h4⟩
theorem RL.bl {w w':World} {base:Nat} {v:Value} {xs:List Nat} (h:RL T enc w base v xs) (hb:Bl w w'):RL T enc w' base v xs:=h.heap (fun k _ hk=>Below.block hb k hk)
theorem RL.lit (w:World) (x:Nat) {base:Nat} (hb:base≤w.heap.size):RL T enc (w.alloc (.cells #[enc x] T)) base (.slice (some ⟨w.heap.size,0,none⟩) 1 1) [x]:=
 World.ownsRow_lit w _ 1 hb (by decide) rfl
theorem RL.zero (w:World) {base:Nat} (hb:base≤w.heap.size):RL T enc (w.alloc (.cells #[] T)) base (.slice (some ⟨w.heap.size,0,none⟩) 0 0) []:=
 World.ownsRow_lit w #[] 0 hb (by decide) rfl
theorem RL.lt {w:World} {base:Nat} {v:Value} {xs:List Nat} (h:RL T enc w base v xs):∀ k,v.ownBlock = some k→base≤k∧k < w.heap.size:=World.ownsRow.lt h
theorem RL.form {w:World} {base:Nat} {v:Value} {xs:List Nat} (h:RL T enc w base v xs):
  (v = .slice none 0 0∧xs = [])∨∃ g c cur,v = .slice (some ⟨g,0,none⟩) xs.length c∧base≤g∧(g < w.heap.size∧xs.length≤c∧c≤maxLen∧cur.size = c)∧w.heap[g]? = some (.cells cur T (0,0))∧(∀ (j:Nat) (x:Nat),xs[j]? = some x→cur[j]? = some (enc x))∧∀ (j:Nat) (x:Nat),xs[j]? = some x→w.cell? ⟨g,j,none⟩= some (enc x):=by
 rcases h.2 with ⟨h1,h2⟩ | ⟨g,cap,cur,h1,h2,h3,h4,h5,h6,h7⟩
 ·exact .inl ⟨h1,List.eq_nil_of_length_eq_zero h2⟩
 ·have hh:∀ (j:Nat) (x:Nat),xs[j]? = some x→cur[j]? = some (enc x):=by
   intro j x hj
   have hlt:j < xs.length:=(List.getElem?_eq_some_iff.1 hj).1
   have:(cur.toList.take (xs.length * 1))[j]? = some (enc x):=by rw [h7,List.getElem?_map,hj];rfl
   rw [List.getElem?_take_of_lt (by omega)] at this
   simpa using this
  exact .inr ⟨g,cap,cur,h1,h2,⟨lt_of_block h3,h4,h5,by omega⟩,h3,hh,fun j x hj=>by rw [cell_of_row _ _ _ _ _ _ h3];exact hh j x hj⟩
theorem RL.slice {w:World} {base:Nat} {v:Value} {xs:List Nat} (h:RL T enc w base v xs):∃ A c,v = .slice A xs.length c:=by
 rcases h.form with ⟨rfl,rfl⟩ | ⟨g,c,cur,rfl,_⟩
 ·exact ⟨_,_,rfl⟩
 ·exact ⟨_,_,rfl⟩
def RSrc (enc:Nat→Value) (w:World) (u:Value) (ys:List Nat):Prop:=∃ A c,u = .slice A ys.length c∧((A = none∧ys = [])∨∃ ad,A = some ad∧∀ (j:Nat) (x:Nat),ys[j]? = some x→w.cell? (ad.add j)= some (enc x))
theorem RL.src {w:World} {base:Nat} {v:Value} {xs:List Nat} (h:RL T enc w base v xs):RSrc enc w v xs:=by
 rcases h.form with ⟨rfl,rfl⟩ | ⟨g,c,cur,rfl,_,_,_,_,hc⟩
 ·exact ⟨none,0,rfl,.inl ⟨rfl,rfl⟩⟩
 ·refine ⟨_,c,rfl,.inr ⟨_,rfl,fun j x hj=>?_⟩⟩
  have e:(⟨g,0,none⟩:Addr).add j = ⟨g,j,none⟩:=by cases j <;> simp [Addr.add]
  rw [e];exact hc j x hj
theorem rl_append (R:RowTy T S z) (he:∀ x,(enc x).oneCell' = true) (w:World) (ty:TypeId) (base:Nat) (v u:Value) (xs ys:List Nat) (h:RL T enc w base v xs) (g:RSrc enc w u ys) (hl:xs.length + ys.length≤100000) (hb:base≤w.heap.size):
  ∃ v' w',(Builtin.append_ #[S,S] ty #[v,u]).run Try.prog w = .ok v' w'∧RL T enc w' base v' (xs ++ ys)∧w.grownBy w' v.ownBlock∧(v'.ownBlock = v.ownBlock∨v'.ownBlock = some w.heap.size):=by
 obtain ⟨i,hi,hz,hs,hby⟩:=info_parts R.info
 have h1:∀ x∈ys.map enc,x.oneCell' = true:=by
  intro x hx
  obtain ⟨s,_,rfl⟩:=List.mem_map.1 hx
  exact he s
 obtain ⟨A,c,rfl,⟨rfl,rfl⟩ | ⟨ad,rfl,hc⟩⟩:=g
 ·refine ⟨v,w,?_,by simpa using h,World.grownBy.refl _ _,.inl rfl⟩
  rcases h.2 with ⟨rfl,hn⟩ | ⟨g',cap,cur,rfl,_,_,hnc,_⟩
  ·simp [Builtin.append_,run_underlying R.und,sizeOf,typeInfo,hi,Builtin.lenOf,Builtin.firstCells]
  ·simp [Builtin.append_,run_underlying R.und,sizeOf,typeInfo,hi,Builtin.lenOf,Builtin.firstCells,hnc,storeCells]
 ·have hcells:∀ j x,(ys.map enc)[j]? = some x→w.cell? (ad.add j)= some x:=by
   intro j x hj
   rw [List.getElem?_map] at hj
   obtain ⟨s,hs2,rfl⟩:=Option.map_eq_some_iff.1 hj
   exact hc j s hs2
  obtain ⟨v',w',hrun,h2,h3,_,h5⟩:=run_append_own_at (P:=Try.prog) w base S ty T i z 1 8 R.und hi hz hs hby R.one (by decide) v xs.length (xs.map enc) h
   ad ys.length c (ys.map enc) (by simp) hcells h1 (by simp only [maxLen];omega) (by omega) hb
  refine ⟨v',w',hrun,?_,h3,h5⟩
  unfold RL
  rw [List.length_append,List.map_append];exact h2
theorem rl_op (R:RowTy T S z) (he:∀ x,(enc x).oneCell' = true) {ops:Array Oper} {rest:List Oper} {o:Oper} {a:Act} {Q:Exit→Act→World→Prop} (w:World) (s x:Operand) (base:Nat) (v u:Value) (xs ys:List Nat)
  (hgd:o.guard = none) (ho:o.op = .call { callee:=.builtin .append,args:=#[s,x],argTypes:=#[S,S] })
  (hs:a.eval s = v) (hx:a.eval x = u) (h:RL T enc w base v xs) (g:RSrc enc w u ys) (hl:xs.length + ys.length≤100000) (hb:base≤w.heap.size)
  (k:∀ v' w',RL T enc w' base v' (xs ++ ys)→w.grownBy w' v.ownBlock→(v'.ownBlock = v.ownBlock∨v'.ownBlock = some w.heap.size)→wpList Try.prog ops Q rest (a.put o.dst v') w'):wpList Try.prog ops Q (o :: rest) a w:=by
 refine wpList_plain hgd fun K hK=>?_
 obtain ⟨v',w',hr,h1,h2,h3⟩:=rl_append R he w o.type base v u xs ys h g hl hb
 unfold Oper.wp execOp
 simp only [ho,resolve,invoke,builtin,Sem.run_bind,Sem.run_pure,Result.andThen_ok,List.map_toArray,List.map_cons,List.map_nil,hs,hx,hr]
 exact hK _ _ (k v' w' h1 h2 h3)
end
theorem one_encP (x:Nat):(encP x).oneCell' = true:=rfl
def RD (P:Nat→Prop) (T:TypeId) (enc:Nat→Value) (w:World) (v:Value) (xs:List Nat):Prop:=RL T enc w 0 v xs∧∀ k,v.ownBlock = some k→P k
theorem bl_regrown {w wq:World} {d:Nat} {os:Array Obj} (h:wq = Sort.grow (redrawn w d) os):Bl w wq:=by rw [h];exact below_regrown _ _ _
end Go.Proofs.Ytmmnnhaecjpfdaa
namespace Go.Proofs.Ytmmnnhaecjpfdaa
open Go.RowKit
section
variable {ops:Array Oper} {rest:List Oper} {o:Oper} {a:Act} {w:World} {K:Act→World→Prop} {Q:Exit→Act→World→Prop}
theorem wp_box (T:TypeId) (x:Operand) (ho:o.op = .box T x) (cs:Array Value) (v:Value) (hx:a.eval x = v) (hv:v.cells = cs)
  (k:∀ g Z,Z.heap[g]? = some (.cells cs T (0,0))→Bl w Z→Hid (w.heap.size = g∧Z.heap.size = g + 1)→K (a.put o.dst (.pointer (some ⟨g,0,none⟩))) Z):Oper.wp Try.prog o a w K Q:=by
 subst hv
 unfold Oper.wp execOp
 simp only [ho,hx]
 have:=k w.heap.size (w.alloc (.cells v.cells T)) (blk_new _ _ _) (bl_alloc _ _) ⟨rfl,by simp⟩
 simpa [Instr.box,newVar,newRow,go_sem] using this
theorem box_op (hgd:o.guard = none) (T:TypeId) (x:Operand) (ho:o.op = .box T x) (cs:Array Value) (v:Value) (hx:a.eval x = v) (hv:v.cells = cs)
  (k:∀ g Z,Z.heap[g]? = some (.cells cs T (0,0))→Bl w Z→Hid (w.heap.size = g∧Z.heap.size = g + 1)→wpList Try.prog ops Q rest (a.put o.dst (.pointer (some ⟨g,0,none⟩))) Z):wpList Try.prog ops Q (o :: rest) a w:=
 wpList_plain hgd fun _ hK=>wp_box T x ho cs v hx hv (fun g Z h1 h2 h3=>hK _ _ (k g Z h1 h2 h3))
theorem run_store1 (w:World) (b i:Nat) (T U:TypeId) (cs:Array Value) (v:Value) (hi:(Try.prog.info? T).map (·.size)= some 1) (hv:v.cells = #[v]) (h1:v.oneCell' = true) (hb:w.heap[b]? = some (.cells cs U (0,0))) (hlt:i < cs.size):
  (Instr.storeAt T (.pointer (some ⟨b,i,none⟩)) v).run Try.prog w = .ok () (w.setCell ⟨b,i,none⟩ v):=by
 have h2:(w.cell? ⟨b,i,none⟩).isSome = true:=by rw [cell_of_row _ _ _ _ _ _ hb];simp [hlt]
 have:=run_storeCells_cells (P:=Try.prog) b i [v] 0 w (fun j hj=>by
   have:j = 0:=by simp at hj;omega
   subst this;simpa using h2) (fun j hj=>by
   have:j = 0:=by simp at hj;omega
   subst this;simpa using blk_free (i:=i) hb) (fun u hu=>by rw [List.mem_singleton.1 hu];exact h1)
 cases hq:Try.prog.info? T with
 | none=>simp [hq] at hi
 | some t=>
   have hs:t.size = 1:=by simpa [hq] using hi
   simp only [Nat.add_zero] at this
   simp only [Instr.storeAt,Instr.sureAddr,Sem.run_bind,Sem.run_pure,Result.andThen_ok]
   simp [storeVar,sizeOf,typeInfo,hq,hv,hs,this,World.setCells]
theorem wp_store1 (T:TypeId) (x y:Operand) (ho:o.op = .store T x y) (b i:Nat) (U:TypeId) (cs:Array Value) (v:Value) (hx:a.eval x = .pointer (some ⟨b,i,none⟩)) (hy:a.eval y = v)
  (hi:(Try.prog.info? T).map (·.size)= some 1) (hv:v.cells = #[v]) (h1:v.oneCell' = true) (hb:w.heap[b]? = some (.cells cs U (0,0))) (hlt:i < cs.size)
  (k:∀ Z,Z.heap[b]? = some (.cells (cs.modify i fun _=>v) U (0,0))→Bx b w Z→Hid (Z.heap.size = w.heap.size)→K (a.put o.dst undef) Z):Oper.wp Try.prog o a w K Q:=by
 unfold Oper.wp execOp
 simp only [ho,hx,hy,run_store1 w b i T U cs v hi hv h1 hb hlt,Sem.run_bind,Sem.run_pure,Result.andThen_ok]
 exact k _ (blk_set hb v) (bx_set _ _ _ _) (by simp [Hid,World.setCell])
theorem store_op (hgd:o.guard = none) (T:TypeId) (x y:Operand) (ho:o.op = .store T x y) (b i:Nat) (U:TypeId) (cs:Array Value) (v:Value) (hx:a.eval x = .pointer (some ⟨b,i,none⟩)) (hy:a.eval y = v)
  (hi:(Try.prog.info? T).map (·.size)= some 1) (hv:v.cells = #[v]) (h1:v.oneCell' = true) (hb:w.heap[b]? = some (.cells cs U (0,0))) (hlt:i < cs.size)
  (k:∀ Z,Z.heap[b]? = some (.cells (cs.modify i fun _=>v) U (0,0))→Bx b w Z→Hid (Z.heap.size = w.heap.size)→wpList Try.prog ops Q rest (a.put o.dst undef) Z):wpList Try.prog ops Q (o :: rest) a w:=
 wpList_plain hgd fun _ hK=>wp_store1 T x y ho b i U cs v hx hy hi hv h1 hb hlt (fun Z h1 h2 h3=>hK _ _ (k Z h1 h2 h3))
theorem yieldsIf_blk {S:World→Prop} (hw:Region.wanted o (yielded ops a.tmps)= true) (ty:TypeId) (x:Operand) (ho:o.op = .load ty x) (b:Nat) (T:TypeId) (cs:Array Value) (d:TypeDesc)
  (hx:a.eval x = .pointer (some ⟨b,0,none⟩)) (hS:∀ w,S w→w.heap[b]? = some (.cells cs T (0,0))) (hu:Try.prog.underlying ty = some d) (hd:d.isRow = true) (hi:(Try.prog.info? ty).map (·.size)= some cs.size):YieldsIf Try.prog ops S o (.agg cs) a:=by
 have:=yieldsIf_load_mid (P:=Try.prog) (S:=S) hw ty x ho b 0 hx cs.toList d (fun w h j v hj=>by rw [cell_of_row _ _ _ _ _ _ (hS w h),Nat.zero_add];simpa using hj) hu hd (by simpa using hi)
 simpa using this
theorem wanted_wp {E:Prop} (hgd:o.guard = none) (h:Oper.wp Try.prog o a w K Q):if Region.wanted o (yielded ops a.tmps)= true then Oper.wp Try.prog o a w K Q else E:=by
 rw [if_pos (by simp [Region.wanted,hgd])];exact h
end
end Go.Proofs.Ytmmnnhaecjpfdaa
namespace Go.Proofs.Ytmmnnhaecjpfdaa
open Go.RowKit
section
variable {P:Program} {ops:Array Oper} {Q:Exit→Act→World→Prop} {md:Region.Mode} {S:World→Prop} {T:Nat→Bool}
def AnyT (P:Program) (md:Region.Mode) (ops:Array Oper) (Q:Exit→Act→World→Prop) (S:World→Prop) (T:Nat→Bool):Nat→Array Bool→Act→World→Prop
 | 0,L,a,w=>Region.ready md ops L = []∧Q .normal a w
 | n + 1,L,a,w=>(Region.ready md ops L = []→Q .normal a w)∧∀ j∈Region.ready md ops L,wpOp P ops Q j (fun a' w'=>(T j = false→S w→S w')∧AnyT P md ops Q S T n (L.setIfInBounds j true) a' w') a w
theorem AnyT.any:∀ (n:Nat) (L:Array Bool) (a:Act) (w:World),AnyT P md ops Q S T n L a w→wpAny P md ops Q n L a w
 | 0,_,_,_,h=>h
 | n + 1,_,_,_,h=>⟨h.1,fun j hj=>wpOp_mono (fun _ _ h'=>AnyT.any n _ _ _ h'.2) (h.2 j hj)⟩
def waitT (md:Region.Mode) (ops:Array Oper) (T:Nat→Bool) (i:Nat):Bool:=
 (List.range ops.size).all fun j=>!T j || (match ops[j]? with | some o=>o.after.any fun e=>Region.binds md e && e.on == i | none=>true)
theorem not_ready {L:Array Bool} {i j:Nat} {oj:Oper} (hi:i∈Region.ready md ops L) (hj:j∈Region.ready md ops L) (hoj:ops[j]? = some oj):∀ e∈oj.after,Region.binds md e = true→e.on≠i:=by
 intro e he hb hon
 obtain ⟨hu,-⟩:=mem_ready.1 hi
 obtain ⟨-,o',ho',hall⟩:=mem_ready.1 hj
 obtain rfl:o' = oj:=Option.some.inj (ho'.symm.trans hoj)
 have hl:=hall e he hb
 rw [hon] at hl
 by_cases hsz:i < L.size
 ·simp [hsz] at hu hl;rw [hu] at hl;exact Bool.noConfusion hl
 ·simp [Array.getElem?_eq_none (Nat.le_of_not_lt hsz)] at hu
theorem waitT_out {L:Array Bool} {i j:Nat} (hw:waitT md ops T i = true) (hi:i∈Region.ready md ops L) (hj:j∈Region.ready md ops L):T j = false:=by
 obtain ⟨-,oj,hoj,-⟩:=mem_ready.1 hj
 have hlt:j < ops.size:=(Array.getElem?_eq_some_iff.1 hoj).1
 have h1:=List.all_eq_true.1 hw j (List.mem_range.2 hlt)
 rw [hoj] at h1
 cases hT:T j with
 | false=>rfl
 | true=>
   exfalso
   rw [hT] at h1
   simp only [Bool.not_true,Bool.false_or] at h1
   obtain ⟨e,he,hb⟩:=Array.any_eq_true'.1 h1
   simp only [Bool.and_eq_true,beq_iff_eq] at hb
   exact not_ready hi hj hoj e he hb.1 hb.2
theorem AnyT.front {R:World→Prop} {i:Nat} {o:Oper} {v:Value} (ho:ops[i]? = some o) (hns:Region.noSelect ops = true)
  (hR:∀ (L:Array Bool) (j:Nat) (w w':World),i∈Region.ready md ops L→j∈Region.ready md ops L→R w→(T j = false→S w→S w')→R w')
  (hQ:∀ c a w,Q (.panic c) (a.put o.dst v) w→Q (.panic c) a w):
  ∀ (n:Nat) (L:Array Bool) (a:Act) (w:World),
    (∀ j oj,ops[j]? = some oj→j≠i→L.getD j true = false→(∀ e∈oj.after,Region.binds md e = true→e.on≠i)→o.apart ops oj = true)→
    i∈Region.ready md ops L→YieldsIf P ops R o v a→R w→AnyT P md ops Q S T n (L.setIfInBounds i true) (a.put o.dst v) w→AnyT P md ops Q S T (n + 1) L a w:=by
 intro n
 induction n with
 | zero=>
   intro L a w hap hi hy hRw H
   refine ⟨fun h=>absurd (h ▸ hi) (by simp),fun j hj=>?_⟩
   rcases Nat.decEq j i with hne | rfl
   ·have hh:=ready_mono (listed:=L) hj hne
    rw [H.1] at hh;exact absurd hh (by simp)
   ·exact hy.wpOp ho hRw ⟨fun _ h=>h,H⟩
 | succ n ih=>
   intro L a w hap hi hy hRw H
   refine ⟨fun h=>absurd (h ▸ hi) (by simp),fun j hj=>?_⟩
   rcases Nat.decEq j i with hne | rfl
   ·obtain ⟨hun,oj,hoj,-⟩:=mem_ready.1 hj
    have sel:=Region.noSelect_spec hns
    have hb:=wpOp_putIf hoj (hap j oj hoj hne hun (not_ready hi hj hoj)) (fun cs b=>sel i o cs b ho) (fun cs b=>sel j oj cs b hoj) hQ hy (H.2 j (ready_mono hj hne))
    refine wpOp_mono (fun a' w' h3=>?_) hb
    obtain ⟨hy',hS',hK⟩:=h3
    refine ⟨hS',ih (L.setIfInBounds j true) a' w' (fun k ok hk hki hku hno=>hap k ok hk hki ?_ hno) (ready_mono hi (Ne.symm hne)) hy' (hR L j w w' hi hj hRw hS') (by rw [Array.setIfInBounds_comm _ _ hne];exact hK)⟩
    rcases Nat.decEq j k with hjk | rfl
    ·rw [getD_set_ne true hjk] at hku;exact hku
    ·exact hun
   ·exact hy.wpOp ho hRw ⟨fun _ h=>h,H⟩
theorem at_drop {i:Nat} {o:Oper} (h:(ops.toList.drop i).head? = some o):ops[i]? = some o:=by
 rw [List.head?_drop] at h;simpa using h
theorem AnyT.load {i:Nat} {o:Oper} {v:Value} {n:Nat} {L:Array Bool} {a:Act} {w:World} (ho':(ops.toList.drop i).head? = some o) (hns:Region.noSelect ops = true) (hw:waitT md ops T i = true) (hf:Region.free md ops L i = true)
  (hr:(Region.ready md ops L).contains i = true) (hQ:∀ c a w,Q (.panic c) (a.put o.dst v) w→Q (.panic c) a w) (hy:YieldsIf P ops S o v a) (hS:S w)
  (h:AnyT P md ops Q S T n (L.setIfInBounds i true) (a.put o.dst v) w):AnyT P md ops Q S T (n + 1) L a w:=
 AnyT.front (at_drop ho') hns (fun L j w w' hi hj hR hK=>hK (waitT_out hw hi hj) hR) hQ n L a w (Region.free_spec (at_drop ho') hf) (by simpa using hr) hy hS h
theorem AnyT.take {i:Nat} {o:Oper} {v:Value} {n:Nat} {L:Array Bool} {a:Act} {w:World} (ho':(ops.toList.drop i).head? = some o) (hns:Region.noSelect ops = true) (hf:Region.free md ops L i = true)
  (hr:(Region.ready md ops L).contains i = true) (hQ:∀ c a w,Q (.panic c) (a.put o.dst v) w→Q (.panic c) a w) (hy:Yields P ops o v a)
  (h:AnyT P md ops Q S T n (L.setIfInBounds i true) (a.put o.dst v) w):AnyT P md ops Q S T (n + 1) L a w:=
 AnyT.front (R:=fun _=>True) (at_drop ho') hns (fun _ _ _ _ _ _ _ _=>trivial) hQ n L a w (Region.free_spec (at_drop ho') hf) (by simpa using hr) hy.yieldsIf trivial h
theorem AnyT.ld (i:Nat) {o:Oper} {v:Value} {n:Nat} {L:Array Bool} {a:Act} {w:World} (h:AnyT P md ops Q S T n (L.setIfInBounds i true) (a.put o.dst v) w)
  (ho':(ops.toList.drop i).head? = some o:=by rfl) (hv:∀ w,S w→(execOp a.eval o).run P w = .ok (.value v) w:=by intro w hSw;(try dsimp only at hSw);go_simp;(try with_reducible rfl)) (hns:Region.noSelect ops = true:=by kernel_rfl) (hw:waitT md ops T i = true:=by kernel_rfl) (hf:Region.free md ops L i = true:=by kernel_rfl)
  (hr:(Region.ready md ops L).contains i = true:=by kernel_rfl) (hQ:∀ c a w,Q (.panic c) (a.put o.dst v) w→Q (.panic c) a w:=by exact fun _ _ _ h=>h) (hy:Region.wanted o (yielded ops a.tmps)= true:=by rfl) (hS:S w:=by assumption):AnyT P md ops Q S T (n + 1) L a w:=
 AnyT.load ho' hns hw hf hr hQ (.inl ⟨hy,hv⟩) hS h
theorem AnyT.tk (i:Nat) {o:Oper} {v:Value} {n:Nat} {L:Array Bool} {a:Act} {w:World} (h:AnyT P md ops Q S T n (L.setIfInBounds i true) (a.put o.dst v) w)
  (ho':(ops.toList.drop i).head? = some o:=by rfl) (hv:∀ w,(execOp a.eval o).run P w = .ok (.value v) w:=by intro w;go_simp;(try with_reducible rfl)) (hns:Region.noSelect ops = true:=by kernel_rfl) (hf:Region.free md ops L i = true:=by kernel_rfl)
  (hr:(Region.ready md ops L).contains i = true:=by kernel_rfl) (hQ:∀ c a w,Q (.panic c) (a.put o.dst v) w→Q (.panic c) a w:=by exact fun _ _ _ h=>h) (hy:Region.wanted o (yielded ops a.tmps)= true:=by rfl):AnyT P md ops Q S T (n + 1) L a w:=
 AnyT.take ho' hns hf hr hQ (.inl ⟨hy,hv⟩) h
theorem AnyT.one {i:Nat} {o:Oper} {n:Nat} {L:Array Bool} {a:Act} {w:World} (ho':(ops.toList.drop i).head? = some o) (hr:Region.ready md ops L = [i])
  (h:∀ K:Act→World→Prop,Hid (∀ a' w',S w'→(S w'→AnyT P md ops Q S T n (L.setIfInBounds i true) a' w')→K a' w')→if Region.wanted o (yielded ops a.tmps)= true then Oper.wp P o a w K Q else K (a.put o.dst undef) w):AnyT P md ops Q S T (n + 1) L a w:=by
 have ho:=at_drop ho'
 refine ⟨fun h0=>absurd (hr ▸ h0) (by simp),fun j hj=>?_⟩
 rw [hr] at hj
 obtain rfl:=List.mem_singleton.1 hj
 exact wpOp_step ho (fun K hK=>h K (fun a' w' hS hA=>hK a' w' ⟨fun _ _=>hS,hA hS⟩))
theorem AnyT.tail {i:Nat} {o:Oper} {n:Nat} {L:Array Bool} {a:Act} {w:World} (ho':(ops.toList.drop i).head? = some o) (hr:Region.ready md ops L = [i]) (hT:T i = true)
  (h:∀ K:Act→World→Prop,Hid (∀ a' w',AnyT P md ops Q S T n (L.setIfInBounds i true) a' w'→K a' w')→if Region.wanted o (yielded ops a.tmps)= true then Oper.wp P o a w K Q else K (a.put o.dst undef) w):AnyT P md ops Q S T (n + 1) L a w:=by
 have ho:=at_drop ho'
 refine ⟨fun h0=>absurd (hr ▸ h0) (by simp),fun j hj=>?_⟩
 rw [hr] at hj
 obtain rfl:=List.mem_singleton.1 hj
 exact wpOp_step ho (fun K hK=>h K (fun a' w' hA=>hK a' w' ⟨fun h _=>absurd (hT.symm.trans h) (by decide),hA⟩))
theorem AnyT.done {n:Nat} {L:Array Bool} {a:Act} {w:World} (hr:Region.ready md ops L = []) (h:Q .normal a w):AnyT P md ops Q S T n L a w:=by
 cases n with
 | zero=>exact ⟨hr,h⟩
 | succ n=>exact ⟨fun _=>h,fun j hj=>by rw [hr] at hj;simp at hj⟩
theorem AnyT.start {id:Nat} {a:Act} {w:World} (n:Nat) (S:World→Prop) (T:Nat→Bool) (hm:P.follows .mixedOrders = true) (hn:ops.size = n)
  (h:AnyT P .any ops Q S T n (Array.replicate n false) a w.drew):(Code.region id ops true).wp P Q a w:=by
 subst hn
 exact wp_region_any hm (AnyT.any _ _ _ _ h)
end
theorem sqa {α:Type} {l:List α} {i:Nat} {a:α}:l.toArray.setIfInBounds i a = (l.set i a).toArray:=List.setIfInBounds_toArray ..
theorem sqb {α:Type} {x:α} {xs:List α} {a:α}:(x :: xs).set 0 a = a :: xs:=rfl
theorem sqc {α:Type} {x:α} {xs:List α} {n:Nat} {a:α}:(x :: xs).set (n + 1) a = x :: xs.set n a:=rfl
end Go.Proofs.Ytmmnnhaecjpfdaa
namespace Go.Proofs.Ytmmnnhaecjpfdaa
open Go.RowKit
theorem mkfn (fn:Fn) (first cap:Array Value) (w:World):(Instr.makeFunc fn first cap).run Try.prog w = .ok (.func fn first cap) w:=rfl
attribute [local go_sem] mkfn
def idxG:List Bool→Int→Int
 | [],_=>-1
 | b :: l,i=>if b = true then i else idxG l (i + 1)
theorem idxG_any:∀ (bs:List Bool) (i:Int),0≤i→decide ((0:Int)≤idxG bs i)= bs.any id
 | [],i,h=>rfl
 | b :: l, i, h => by
   cases b with
   | true=>simp [idxG,h]
   | false => have e : idxG (false :: l) i = idxG l (i + 1) := by simp [idxG]
              rw [e];simpa using idxG_any l (i + 1) (by omega)
end Go.Proofs.Ytmmnnhaecjpfdaa
namespace Go.Proofs.Ytmmnnhaecjpfdaa
open Go.RowKit
attribute [local go_sem] S_size S_toList S_lit S_get S_extract S_append drop_all
structure Own (w:World) (b:Nat) (k x y:UInt8) (s:Value):Prop where
 four:Four w b k x y s
 f0:w.frozen? ⟨b,0,none⟩= false
 f1:w.frozen? ⟨b,1,none⟩= false
 f2:w.frozen? ⟨b,2,none⟩= false
 f3:w.frozen? ⟨b,3,none⟩= false
theorem Own.bx {g:Nat} {w w':World} (hb:Bx g w w') (hg:Else w g) {b:Nat} {k x y:UInt8} {s:Value} (h:Own w b k x y s):Own w' b k x y s:=by
 have hne:b≠g:=by rintro rfl;exact (hg _ _ h.four.sh).1 rfl
 have hlt:=shape_lt h.four.sh
 exact ⟨h.four.bx hb hg,by rw [hb.frozen hne hlt];exact h.f0,by rw [hb.frozen hne hlt];exact h.f1,by rw [hb.frozen hne hlt];exact h.f2,by rw [hb.frozen hne hlt];exact h.f3⟩
theorem Own.new (w:World) (k x y:UInt8) (s:Value):Own (w.alloc (.cells #[.int .u8 k.toNat,.int .u8 x.toNat,.int .u8 y.toNat,s] 71)) w.heap.size k x y s:=
 ⟨⟨shape_alloc_new _ _ _,by simp,by simp,by simp,by simp⟩,by simp,by simp,by simp,by simp⟩
theorem Own.set0 {w:World} {b:Nat} {k x y:UInt8} {s:Value} (h:Own w b k x y s) (k':UInt8):Own (w.setCell ⟨b,0,none⟩ (.int .u8 k'.toNat)) b k' x y s:=
 ⟨⟨by rw [shape_set];exact h.four.sh,World.cell?_setCell_same _ _ _ h.four.c0,by rw [World.cell?_setCell_other _ _ _ _ (by simp)];exact h.four.c1,by rw [World.cell?_setCell_other _ _ _ _ (by simp)];exact h.four.c2,by rw [World.cell?_setCell_other _ _ _ _ (by simp)];exact h.four.c3⟩,by simp [h.f0],by simp [h.f1],by simp [h.f2],by simp [h.f3]⟩
theorem Own.set1 {w:World} {b:Nat} {k x y:UInt8} {s:Value} (h:Own w b k x y s) (k':UInt8):Own (w.setCell ⟨b,1,none⟩ (.int .u8 k'.toNat)) b k k' y s:=
 ⟨⟨by rw [shape_set];exact h.four.sh,by rw [World.cell?_setCell_other _ _ _ _ (by simp)];exact h.four.c0,World.cell?_setCell_same _ _ _ h.four.c1,by rw [World.cell?_setCell_other _ _ _ _ (by simp)];exact h.four.c2,by rw [World.cell?_setCell_other _ _ _ _ (by simp)];exact h.four.c3⟩,by simp [h.f0],by simp [h.f1],by simp [h.f2],by simp [h.f3]⟩
theorem Own.set2 {w:World} {b:Nat} {k x y:UInt8} {s:Value} (h:Own w b k x y s) (k':UInt8):Own (w.setCell ⟨b,2,none⟩ (.int .u8 k'.toNat)) b k x k' s:=
 ⟨⟨by rw [shape_set];exact h.four.sh,by rw [World.cell?_setCell_other _ _ _ _ (by simp)];exact h.four.c0,by rw [World.cell?_setCell_other _ _ _ _ (by simp)];exact h.four.c1,World.cell?_setCell_same _ _ _ h.four.c2,by rw [World.cell?_setCell_other _ _ _ _ (by simp)];exact h.four.c3⟩,by simp [h.f0],by simp [h.f1],by simp [h.f2],by simp [h.f3]⟩
theorem Own.set3 {w:World} {b:Nat} {k x y:UInt8} {s:Value} (h:Own w b k x y s) (v:Value):Own (w.setCell ⟨b,3,none⟩ v) b k x y v:=
 ⟨⟨by rw [shape_set];exact h.four.sh,by rw [World.cell?_setCell_other _ _ _ _ (by simp)];exact h.four.c0,by rw [World.cell?_setCell_other _ _ _ _ (by simp)];exact h.four.c1,by rw [World.cell?_setCell_other _ _ _ _ (by simp)];exact h.four.c2,World.cell?_setCell_same _ _ _ h.four.c3⟩,by simp [h.f0],by simp [h.f1],by simp [h.f2],by simp [h.f3]⟩
def Bad (w:World) (g:Nat) (l:Str):Prop:=∃ a,Rdr w g l a true∧a≤l.length
theorem next_bad (w:World) (g:Nat) (l:Str) (R:Bad w g l) (hs:Short l):
  Calls Try.prog 114 #[.pointer (some ⟨g,0,none⟩)] w fun e w'=>(∃ c:UInt8,e = .returned (.int .u8 c.toNat))∧Bad w' g l∧Bx g w w':=by
 obtain ⟨a,R,ha⟩:=R
 match hd:l.drop a with
 | []=>exact (next_no w g l a true R hd).mono fun e w' ⟨h1,h2,h3⟩=>⟨⟨0,h1⟩,⟨a,h2,ha⟩,h3⟩
 | c :: s=>exact (next_yes w g l a true R hs c s hd).mono fun e w' ⟨h1,h2,h3⟩=>⟨⟨c,h1⟩,⟨a + 1,h2,(drop_facts hd).1⟩,h3⟩
theorem need_bad (w:World) (g:Nat) (l:Str) (R:Bad w g l) (hs:Short l) (c:UInt8) (hc:c≠0):
  Calls Try.prog 116 #[.pointer (some ⟨g,0,none⟩),.int .u8 c.toNat] w fun e w'=>e = .returned (.tuple #[])∧Bad w' g l∧Bx g w w':=by
 obtain ⟨a,R,ha⟩:=R
 by_cases h:∃ s,l.drop a = c :: s
 ·obtain ⟨s,h⟩:=h
  exact (need_yes w g l a true R hs c s h).mono fun e w' ⟨h1,h2,h3⟩=>⟨h1,⟨a + 1,h2,(drop_facts h).1⟩,h3⟩
 ·exact (need_no w g l a true R hs c hc (fun s e=>h ⟨s,e⟩) ha).mono fun e w' ⟨h1,h2,h3⟩=>⟨h1,h2,h3⟩
theorem name_bad (w:World) (g:Nat) (l:Str) (R:Bad w g l) (hs:Short l):
  Calls Try.prog 115 #[.pointer (some ⟨g,0,none⟩)] w fun e w'=>(∃ c:UInt8,e = .returned (.int .u8 c.toNat))∧Bad w' g l∧Bx g w w':=by
 obtain ⟨a,R,ha⟩:=R
 by_cases h:∃ c s,l.drop a = c :: s∧smallB c = true
 ·obtain ⟨c,s,h,hc⟩:=h
  exact (name_yes w g l a true R hs c s h hc).mono fun e w' ⟨h1,h2,h3⟩=>⟨⟨c,h1⟩,⟨a + 1,h2,(drop_facts h).1⟩,h3⟩
 ·exact (name_no w g l a true R hs (fun c s e=>by
   cases hc:smallB c
   ·rfl
   ·exact (h ⟨c,s,e,hc⟩).elim) ha).mono fun e w' ⟨h1,h2,h3⟩=>⟨h1,h2,h3⟩
theorem Bad.bl {w w':World} (hb:Bl w w') {g:Nat} {l:Str} (h:Bad w g l):Bad w' g l:=by obtain ⟨a,h,ha⟩:=h;exact ⟨a,h.bl hb,ha⟩
theorem Bad.else_ {w:World} {g:Nat} {l:Str} (h:Bad w g l):Else w g:=by obtain ⟨a,h,ha⟩:=h;exact h.else_
theorem Rdr.lt {w:World} {g:Nat} {l:Str} {a:Nat} {bad:Bool} (h:Rdr w g l a bad):g < w.heap.size:=shape_lt h.sh
theorem term_bad (w:World) (g:Nat) (l:Str) (R:Bad w g l):
  Calls Try.prog 104 #[.pointer (some ⟨g,0,none⟩)] w fun e w'=>(∃ b,e = .returned (.pointer (some ⟨b,0,none⟩)))∧Bad w' g l∧Bx g w w':=by
 obtain ⟨a,R,ha⟩:=R
 have hlt:=R.lt
 have HR:=R
 obtain ⟨r0,r1,r2,r3,r4,r5⟩:=R
 go_enter Try.func104,Try.ntmps104
 go_wp2_with fail
 go_ret
 exact ⟨⟨_,rfl⟩,⟨a,HR.bl (bl_alloc _ _),ha⟩,bx_alloc _ _ _⟩
end Go.Proofs.Ytmmnnhaecjpfdaa
