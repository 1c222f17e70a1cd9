/- Lemmas for the laws of this seat (my texts, put together), part 2. -/
import Derived.Deep.Fields
import Derived.Laws.IdiomStrings
import Derived.Test.YtmmnnhaecjpfdaaW1
set_option maxRecDepth 100000
set_option maxHeartbeats 8000000
set_option linter.unusedVariables false
set_option linter.unusedSimpArgs false
namespace Go.Proofs.Ytmmnnhaecjpfdaa
open Go.RowKit
attribute [local go_sem] S_size S_toList S_lit S_get S_extract S_append drop_all
theorem get_at {l:Str} {j:Nat} (h:j < l.length):∃ x s,l.drop j = x :: s∧l[j]? = some x∧(∀ h:j < l.length,l[j]'h = x)∧l.drop (j + 1)= s∧l.take (j + 1)= l.take j ++ [x]:=by
 refine ⟨l[j],l.drop (j + 1),(List.drop_eq_getElem_cons h),by rw [List.getElem?_eq_getElem h],fun _=>rfl,rfl,?_⟩
 rw [List.take_succ_eq_append_getElem h]
theorem tmIn_c (l:Str) (c:UInt8) (w:World) (hs:Short l):Calls Try.prog 42 #[.string (S l),.int .u8 c.toNat] w fun e w'=>e = .returned (.bool (decide (c∈l)))∧w = w':=by
 unfold Short at hs
 go_enter Try.func42,Try.ntmps42
 go_wp2_with fail
 go_loopg [5] (l.length + 1) (fun k i wr=>∃ j:Nat,j≤l.length∧k = l.length + 1 - j∧i = .int .i64 j∧Hid (c∉l.take j)∧w = wr)
 case atStart=>exact ⟨0,by omega,by omega,rfl,by simp [Hid],rfl⟩
 case round=>
  obtain ⟨j,hj,hk,rfl,hn,rfl⟩:=hrel
  have HK:=hide hk
  clear hk
  by_cases hlt:j < l.length
  ·obtain ⟨x,s,h1,h2,h3,h4,h5⟩:=get_at hlt
   have hlt':(j:Int) < l.length:=by omega
   by_cases hx:x = c
   ·subst hx
    have hr:Hid (decide (x∈l)= true):=by
     unfold Hid;rw [decide_eq_true_eq];exact List.mem_of_getElem? h2
    clear h1 h2 h4 h5 hn HK
    go_wp2_with fail
    go_ret
    exact ⟨ret_bool hr.out.symm,rfl⟩
   ·have hx':=ne_int hx
    have hn':Hid (c∉l.take (j + 1)):=by
     unfold Hid;rw [h5,List.mem_append,List.mem_singleton];rintro (h | h)
     ·exact hn.out h
     ·exact hx h.symm
    clear h1 h2 h4 h5 hn hx
    go_wp2_with fail
    go_roundg (l.length + 1 - (j + 1))
    case measure=>have:=HK.out;omega
    case rel=>exact ⟨j + 1,by omega,rfl,by go_num,hn',rfl⟩
  ·have hlt':¬ (j:Int) < l.length:=by omega
   have hr:Hid (decide (c∈l)= false):=by
    unfold Hid;rw [decide_eq_false_iff_not];intro h
    exact hn.out (by rw [List.take_of_length_le (by omega)];exact h)
   clear hlt hn HK
   go_wp2_with fail
   go_ret
   exact ⟨ret_bool hr.out.symm,rfl⟩
theorem tmBinds_no (l:Str) (k:UInt8) (w:World) (h1:k≠63) (h2:k≠35) (c1:Hid (Calls Try.prog 46 #[.string (S l)] w fun e w'=>e = .returned (.int .u8 k.toNat)∧w = w')):
  Calls Try.prog 74 #[.string (S l)] w fun e w'=>e = .returned (.tuple #[.int .u8 0,.bool false])∧w = w':=by
 have h1:((k.toNat:Int)== 63)= false:=ne_int (d:=63) h1
 have h2:((k.toNat:Int)== 35)= false:=ne_int (d:=35) h2
 go_enter Try.func74,Try.ntmps74
 go_wp2_with ((go_at_call 46;(with_reducible refine (c1.out).mono ?_);rintro e w' ⟨rfl,rfl⟩))
 go_ret2
 exact ⟨rfl,rfl⟩
theorem tmBinds_un (k a b:UInt8) (p:Tm) (w:World) (hk:okhd wideB k a b = true):
  Calls Try.prog 74 #[.string (S (txt (.un k a b p)))] w fun e w'=>e = .returned (.tuple (if bindsB k then #[.int .u8 b.toNat,.bool true] else #[.int .u8 0,.bool false]))∧w = w':=by
 have c1:=hide (tmKind_un k a b p w hk)
 rcases okhd_cases hk with ⟨rfl,ha,hb⟩ | ⟨rfl,ha,hb⟩ | ⟨rfl,ha,hb⟩ | ⟨rfl,ha,hb⟩ | ⟨rfl,ha,hb⟩ | ⟨rfl,ha,hb⟩ <;> clear hk
 case inr.inl=>
  have hl:2 < (txt (.un 63 a b p)).length:=by simp [txt,hd]
  have hg:∀ h:2 < (txt (.un 63 a b p)).length,(txt (.un 63 a b p))[2]'h = b:=by simp [txt,hd]
  generalize txt (.un 63 a b p)= l at c1 hl hg ⊢
  have hl':(2:Int) < l.length:=by omega
  go_enter Try.func74,Try.ntmps74
  go_wp2_with ((go_at_call 46;(with_reducible refine (c1.out).mono ?_);rintro e w' ⟨rfl,rfl⟩))
  go_ret2
  exact ⟨rfl,rfl⟩
 case inr.inr.inr.inl=>
  have hl:1 < (txt (.un 35 a b p)).length:=by simp [txt,hd]
  have hg:∀ h:1 < (txt (.un 35 a b p)).length,(txt (.un 35 a b p))[1]'h = b:=by simp [txt,hd]
  generalize txt (.un 35 a b p)= l at c1 hl hg ⊢
  have hl':(1:Int) < l.length:=by omega
  go_enter Try.func74,Try.ntmps74
  go_wp2_with ((go_at_call 46;(with_reducible refine (c1.out).mono ?_);rintro e w' ⟨rfl,rfl⟩))
  go_ret2
  exact ⟨rfl,rfl⟩
 case inl=>exact tmBinds_no _ 33 w (by decide) (by decide) c1
 case inr.inr.inl=>exact tmBinds_no _ 61 w (by decide) (by decide) c1
 case inr.inr.inr.inr.inl=>exact tmBinds_no _ 42 w (by decide) (by decide) c1
 case inr.inr.inr.inr.inr=>exact tmBinds_no _ 126 w (by decide) (by decide) c1
theorem tmBinds_zero (w:World):Calls Try.prog 74 #[.string (S [48])] w fun e w'=>e = .returned (.tuple #[.int .u8 0,.bool false])∧w = w':=
 tmBinds_no _ 48 w (by decide) (by decide) (hide (tmKind_zero w))
theorem tmBinds_bin (k:UInt8) (p q:Tm) (w:World) (hk:k = 43∨k = 38) (hp:p.ok wideB = true) (hs:Short (txt (.bin k p q))):
  Calls Try.prog 74 #[.string (S (txt (.bin k p q)))] w fun e w'=>e = .returned (.tuple #[.int .u8 0,.bool false])∧w = w':=by
 have c1:=hide (tmKind_bin k p q w hp hs)
 rcases hk with rfl | rfl <;> exact tmBinds_no _ _ w (by decide) (by decide) c1
theorem conv_at (W:World) (b cap:Nat) (l:Str) (h:∀ j (hj:j < l.length),W.cell? ⟨b,j,none⟩= some (.int .u8 (l[j].toNat:Int))):
  (convert 52 9 (.slice (some ⟨b,0,none⟩) l.length cap)).run Try.prog W = .ok (.string (S l)) W:=
 run_convert_bytes_back W _ _ 5 ⟨b,0,none⟩ cap l Try.underlying52 Try.underlying5 Try.underlying9 (fun j hj=>by
  have e:(⟨b,0,none⟩:Addr).add j = ⟨b,j,none⟩:=by cases j <;> simp [Addr.add]
  rw [e];exact h j hj)
theorem conv1 (w:World) (c:UInt8):
  (convert 52 9 (.slice (some ⟨w.heap.size,0,none⟩) 1 1)).run Try.prog (w.alloc (.cells #[.int .u8 (c.toNat:Int)] 5))= .ok (.string (S [c])) (w.alloc (.cells #[.int .u8 (c.toNat:Int)] 5)):=
 conv_at _ _ 1 [c] (fun j hj=>by
  match j,hj with
  | 0,_=>simp)
theorem conv1d (w:World) (c:UInt8):
  (convert 52 9 (.slice (some ⟨w.heap.size,0,none⟩) 1 1)).run Try.prog (w.alloc (.cells #[.int .u8 (c.toNat:Int)] 5)).drew = .ok (.string (S [c])) (w.alloc (.cells #[.int .u8 (c.toNat:Int)] 5)).drew:=
 conv_at _ _ 1 [c] (fun j hj=>by
  match j,hj with
  | 0,_=>simp)
attribute [local go_sem] conv1 conv1d
theorem tmSmall_c (l:Str) (w:World) (hs:Short l):Calls Try.prog 64 #[.string (S l)] w fun e w'=>e = .returned (.bool (l.all okB))∧w = w':=by
 unfold Short at hs
 go_enter Try.func64,Try.ntmps64
 go_wp2_with fail
 go_loopg [3] (l.length + 1) (fun k i wr=>∃ j:Nat,j≤l.length∧k = l.length + 1 - j∧i = .int .i64 j∧Hid ((l.take j).all okB = true)∧w = wr)
 case atStart=>exact ⟨0,by omega,by omega,rfl,by simp [Hid],rfl⟩
 case round =>
  obtain ⟨j,hj,hk,rfl,hn,rfl⟩:=hrel
  have HK:=hide hk
  clear hk
  by_cases hlt:j < l.length
  ·obtain ⟨x,s,h1,h2,h3,h4,h5⟩:=get_at hlt
   have hlt':(j:Int) < l.length:=by omega
   by_cases hx:okB x = true
   ·have hn':Hid ((l.take (j + 1)).all okB = true):=by
     unfold Hid;rw [h5,List.all_append,hn.out];simp [hx]
    have hx':¬ (65≤x.toNat∧x.toNat≤90)∧x.toNat < 128:=by
     unfold okB at hx;simp at hx;omega
    have hlast:decide ((128:Int)≤x.toNat)= false:=decide_eq_false (by omega)
    clear h1 h2 h4 h5 hn hx
    by_cases h65:65≤x.toNat
    ·have d1:decide ((65:Int)≤x.toNat)= true:=decide_eq_true (by omega)
     have d2:decide ((x.toNat:Int)≤90)= false:=decide_eq_false (by omega)
     clear hx' h65
     go_wp2_with fail
     go_roundg (l.length + 1 - (j + 1))
     case measure=>have:=HK.out;omega
     case rel=>exact ⟨j + 1,by omega,rfl,by go_num,hn',rfl⟩
    ·have d1:decide ((65:Int)≤x.toNat)= false:=decide_eq_false (by omega)
     clear hx' h65
     go_wp2_with fail
     go_roundg (l.length + 1 - (j + 1))
     case measure=>have:=HK.out;omega
     case rel=>exact ⟨j + 1,by omega,rfl,by go_num,hn',rfl⟩
   ·have hr:Hid (l.all okB = false):=by
     unfold Hid;rw [Bool.eq_false_iff];intro h;rw [List.all_eq_true] at h
     exact hx (h _ (List.mem_of_getElem? h2))
    clear h1 h2 h4 h5 hn HK
    by_cases h65:65≤x.toNat∧x.toNat≤90
    ·have d1:decide ((65:Int)≤x.toNat)= true:=decide_eq_true (by omega)
     have d2:decide ((x.toNat:Int)≤90)= true:=decide_eq_true (by omega)
     clear hx h65
     go_wp2_with fail
     go_ret
     exact ⟨ret_bool hr.out.symm,rfl⟩
    ·have hlast:decide ((128:Int)≤x.toNat)= true:=decide_eq_true (by unfold okB at hx;simp at hx;omega)
     clear hx
     by_cases h65':65≤x.toNat
     ·have d1:decide ((65:Int)≤x.toNat)= true:=decide_eq_true (by omega)
      have d2:decide ((x.toNat:Int)≤90)= false:=decide_eq_false (by omega)
      clear h65 h65'
      go_wp2_with fail
      go_ret
      exact ⟨ret_bool hr.out.symm,rfl⟩
     ·have d1:decide ((65:Int)≤x.toNat)= false:=decide_eq_false (by omega)
      clear h65 h65'
      go_wp2_with fail
      go_ret
      exact ⟨ret_bool hr.out.symm,rfl⟩
  ·have hlt':¬ (j:Int) < l.length:=by omega
   have hr:Hid (l.all okB = true):=by
    have:=hn.out
    rw [List.take_of_length_le (by omega)] at this;exact this
   clear hlt hn HK
   go_wp2_with fail
   go_ret
   exact ⟨ret_bool hr.out.symm,rfl⟩
end Go.Proofs.Ytmmnnhaecjpfdaa
namespace Go.Proofs.Ytmmnnhaecjpfdaa
open Go.RowKit
attribute [local go_sem] S_size S_toList S_lit S_get S_extract S_append drop_all
structure Bx (g:Nat) (w w':World):Prop where
 os:w'.os = w.os
 tape:w'.tape = w.tape
 output:w'.output = w.output
 size:w.heap.size≤w'.heap.size
 block:∀ k,k < w.heap.size→k≠g→w'.heap[k]? = w.heap[k]?
theorem Bx.refl (g:Nat) (w:World):Bx g w w:=⟨rfl,rfl,rfl,Nat.le_refl _,fun _ _ _=>rfl⟩
theorem Bx.trans {g:Nat} {a b c:World} (h:Bx g a b) (k:Bx g b c):Bx g a c:=
 ⟨k.os.trans h.os,k.tape.trans h.tape,k.output.trans h.output,Nat.le_trans h.size k.size,fun i hi hg=>(k.block i (Nat.lt_of_lt_of_le hi h.size) hg).trans (h.block i hi hg)⟩
theorem Bx.of_bl {g:Nat} {w w':World} (h:Bl w w'):Bx g w w':=⟨Below.os h,Below.tape h,Below.output h,Below.size h,fun k hk _=>Below.block h k hk⟩
theorem Bx.drew {g:Nat} {w w':World} (h:Bx g w w'):Bx g w w'.drew:=⟨h.os,h.tape,h.output,h.size,h.block⟩
theorem bx_alloc (g:Nat) (w:World) (o:Obj):Bx g w (w.alloc o):=.of_bl (bl_alloc w o)
theorem bx_set (g i:Nat) (w:World) (v:Value):Bx g w (w.setCell ⟨g,i,none⟩ v):=
 ⟨rfl,rfl,rfl,by simp [World.setCell],fun k _ hk=>Below.heap_setCell _ _ _ _ hk⟩
theorem bx_set_new {g b i:Nat} {w w':World} {v:Value} (h:Bx g w w') (hb:w.heap.size≤b):Bx g w (w'.setCell ⟨b,i,none⟩ v):=
 ⟨h.os,h.tape,h.output,by simp [World.setCell];exact h.size,fun k hk hg=>(Below.heap_setCell _ _ _ _ (show k≠b by omega)).trans (h.block k hk hg)⟩
theorem Bx.cell {g:Nat} {w w':World} (h:Bx g w w') {b i:Nat} {v:Value} (hg:b≠g) (hv:w.cell? ⟨b,i,none⟩= some v):w'.cell? ⟨b,i,none⟩= some v:=by
 rw [World.cell?_of_block (w:=w) (h.block b (cell_lt hv) hg)];exact hv
theorem Bx.frozen {g:Nat} {w w':World} (h:Bx g w w') {b i:Nat} (hg:b≠g) (hb:b < w.heap.size):w'.frozen? ⟨b,i,none⟩= w.frozen? ⟨b,i,none⟩:=
 World.frozen?_of_block (w:=w) (h.block b hb hg)
theorem Bx.shape {g:Nat} {w w':World} (h:Bx g w w') {b:Nat} {s:TypeId × Nat} (hg:b≠g) (hs:w.shape? b = some s):w'.shape? b = some s:=by
 have hb:b < w.heap.size:=by
  unfold World.shape? at hs
  by_cases hlt:b < w.heap.size
  ·exact hlt
  ·rw [Array.getElem?_eq_none (by omega)] at hs;cases hs
 unfold World.shape? at hs ⊢
 rw [h.block b hb hg];exact hs
theorem Bl.shape {w w':World} (h:Bl w w') {b:Nat} {s:TypeId × Nat} (hs:w.shape? b = some s):w'.shape? b = some s:=by
 have hb:b < w.heap.size:=by
  unfold World.shape? at hs
  by_cases hlt:b < w.heap.size
  ·exact hlt
  ·rw [Array.getElem?_eq_none (by omega)] at hs;cases hs
 unfold World.shape? at hs ⊢
 rw [Below.block h b hb];exact hs
theorem shape_set (w:World) (a:Addr) (v:Value) (b:Nat):(w.setCell a v).shape? b = w.shape? b:=by
 unfold World.shape? World.setCell
 by_cases h:b = a.block
 ·subst h
  simp only [Array.getElem?_modify,if_true]
  cases hh:w.heap[a.block]? with
  | none=>rfl
  | some o=>
    cases o <;> simp
    split <;> simp
 ·simp only [Array.getElem?_modify];rw [if_neg (by omega)]
theorem shape_alloc_new (w:World) (cs:Array Value) (T:TypeId):(w.alloc (.cells cs T)).shape? w.heap.size = some (T,cs.size):=by
 have:(w.alloc (.cells cs T)).heap[w.heap.size]? = some (.cells cs T):=by
  show (w.heap.push _)[w.heap.size]? = _
  simp
 unfold World.shape?;rw [this]
theorem shape_lt {w:World} {b:Nat} {s:TypeId × Nat} (hs:w.shape? b = some s):b < w.heap.size:=by
 unfold World.shape? at hs
 by_cases hlt:b < w.heap.size
 ·exact hlt
 ·rw [Array.getElem?_eq_none (by omega)] at hs;cases hs
structure Four (w:World) (b:Nat) (k x y:UInt8) (s:Value):Prop where
 sh:w.shape? b = some (71,4)
 c0:w.cell? ⟨b,0,none⟩= some (.int .u8 k.toNat)
 c1:w.cell? ⟨b,1,none⟩= some (.int .u8 x.toNat)
 c2:w.cell? ⟨b,2,none⟩= some (.int .u8 y.toNat)
 c3:w.cell? ⟨b,3,none⟩= some s
structure Kid (w:World) (g n:Nat) (i:Nat) (p:Nat):Prop where
 sh:w.shape? g = some (66,n)
 c:w.cell? ⟨g,i,none⟩= some (.pointer (some ⟨p,0,none⟩))
def Lies (P:Nat→Prop) (w:World):Tm→Nat→Prop
 | .zero,b=>P b∧∃ A c,Four w b 48 0 0 (.slice A 0 c)
 | .un k x y p,b=>P b∧∃ g c n pb,P g∧Four w b k x y (.slice (some ⟨g,0,none⟩) 1 c)∧Kid w g n 0 pb∧Lies P w p pb
 | .bin k p q,b=>P b∧∃ g c n pb qb,P g∧Four w b k 0 0 (.slice (some ⟨g,0,none⟩) 2 c)∧Kid w g n 0 pb∧Kid w g n 1 qb∧Lies P w p pb∧Lies P w q qb
def Else (w:World) (g:Nat):Prop:=∀ n T,w.shape? g = some (T,n)→T≠71∧T≠66
theorem Four.bl {w w':World} (hb:Bl w w') {b:Nat} {k x y:UInt8} {s:Value} (h:Four w b k x y s):Four w' b k x y s:=
 ⟨hb.shape h.sh,cell_kept hb h.c0,cell_kept hb h.c1,cell_kept hb h.c2,cell_kept hb h.c3⟩
theorem Kid.bl {w w':World} (hb:Bl w w') {g n i p:Nat} (h:Kid w g n i p):Kid w' g n i p:=⟨hb.shape h.sh,cell_kept hb h.c⟩
theorem Lies.map {P Q:Nat→Prop} {w w':World} (hF:∀ {b k x y s},P b→Four w b k x y s→Q b∧Four w' b k x y s) (hK:∀ {b n i p},P b→Kid w b n i p→Q b∧Kid w' b n i p) {t:Tm}:∀ {b:Nat},Lies P w t b→Lies Q w' t b:=by
 induction t with
 | zero=>rintro b ⟨hp,A,c,h⟩;exact ⟨(hF hp h).1,A,c,(hF hp h).2⟩
 | un k x y p ih=>rintro b ⟨hp,g,c,n,pb,hg,h,hk,hl⟩;exact ⟨(hF hp h).1,g,c,n,pb,(hK hg hk).1,(hF hp h).2,(hK hg hk).2,ih hl⟩
 | bin k p q ih1 ih2=>rintro b ⟨hp,g,c,n,pb,qb,hg,h,hk,hq,hl,hr⟩;exact ⟨(hF hp h).1,g,c,n,pb,qb,(hK hg hk).1,(hF hp h).2,(hK hg hk).2,(hK hg hq).2,ih1 hl,ih2 hr⟩
theorem Lies.bl {P:Nat→Prop} {w w':World} (hb:Bl w w') {t:Tm} {b:Nat} (h:Lies P w t b):Lies P w' t b:=
 h.map (fun hp h=>⟨hp,h.bl hb⟩) (fun hp h=>⟨hp,h.bl hb⟩)
theorem Lies.mono {P Q:Nat→Prop} {w:World} (hPQ:∀ k,P k→Q k) {t:Tm} {b:Nat} (h:Lies P w t b):Lies Q w t b:=
 h.map (fun hp h=>⟨hPQ _ hp,h⟩) (fun hp h=>⟨hPQ _ hp,h⟩)
theorem Lies.lt {P:Nat→Prop} {w:World} {t:Tm} {b:Nat} (h:Lies P w t b):Lies (fun k=>P k∧k < w.heap.size) w t b:=
 h.map (fun hp h=>⟨⟨hp,shape_lt h.sh⟩,h⟩) (fun hp h=>⟨⟨hp,shape_lt h.sh⟩,h⟩)
theorem Four.set_ne {w:World} {g i:Nat} {v:Value} {b:Nat} {k x y:UInt8} {s:Value} (hne:g≠b) (h:Four w b k x y s):Four (w.setCell ⟨g,i,none⟩ v) b k x y s:=
 ⟨by rw [shape_set];exact h.sh,by rw [World.cell?_setCell_other _ _ _ _ (by simp [hne])];exact h.c0,by rw [World.cell?_setCell_other _ _ _ _ (by simp [hne])];exact h.c1,by rw [World.cell?_setCell_other _ _ _ _ (by simp [hne])];exact h.c2,by rw [World.cell?_setCell_other _ _ _ _ (by simp [hne])];exact h.c3⟩
theorem Kid.set_ne {w:World} {g i:Nat} {v:Value} {b n j p:Nat} (hne:g≠b) (h:Kid w b n j p):Kid (w.setCell ⟨g,i,none⟩ v) b n j p:=
 ⟨by rw [shape_set];exact h.sh,by rw [World.cell?_setCell_other _ _ _ _ (by simp [hne])];exact h.c⟩
theorem Lies.set_ne {P:Nat→Prop} {w:World} {g i:Nat} {v:Value} (hg:¬ P g) {t:Tm} {b:Nat} (h:Lies P w t b):Lies P (w.setCell ⟨g,i,none⟩ v) t b:=
 h.map (fun hp h=>⟨hp,h.set_ne (by rintro rfl;exact hg hp)⟩) (fun hp h=>⟨hp,h.set_ne (by rintro rfl;exact hg hp)⟩)
theorem Four.drew {w:World} {b:Nat} {k x y:UInt8} {s:Value} (h:Four w b k x y s):Four w.drew b k x y s:=⟨h.sh,h.c0,h.c1,h.c2,h.c3⟩
theorem Lies.drew {P:Nat→Prop} {w:World} {t:Tm} {b:Nat} (h:Lies P w t b):Lies P w.drew t b:=h.map (fun hp h=>⟨hp,h.drew⟩) (fun hp h=>⟨hp,⟨h.sh,h.c⟩⟩)
theorem Four.bx {g:Nat} {w w':World} (hb:Bx g w w') (hg:Else w g) {b:Nat} {k x y:UInt8} {s:Value} (h:Four w b k x y s):Four w' b k x y s:=by
 have hne:b≠g:=by rintro rfl;exact (hg _ _ h.sh).1 rfl
 exact ⟨hb.shape hne h.sh,hb.cell hne h.c0,hb.cell hne h.c1,hb.cell hne h.c2,hb.cell hne h.c3⟩
theorem Kid.bx {g:Nat} {w w':World} (hb:Bx g w w') (hg:Else w g) {b n i p:Nat} (h:Kid w b n i p):Kid w' b n i p:=by
 have hne:b≠g:=by rintro rfl;exact (hg _ _ h.sh).2 rfl
 exact ⟨hb.shape hne h.sh,hb.cell hne h.c⟩
theorem Lies.bx {P:Nat→Prop} {g:Nat} {w w':World} (hb:Bx g w w') (hg:Else w g) {t:Tm} {b:Nat} (h:Lies P w t b):Lies P w' t b:=
 h.map (fun hp h=>⟨hp,h.bx hb hg⟩) (fun hp h=>⟨hp,h.bx hb hg⟩)
structure Rdr (w:World) (g:Nat) (l:Str) (a:Nat) (bad:Bool):Prop where
 sh:w.shape? g = some (117,3)
 c0:w.cell? ⟨g,0,none⟩= some (.string (S l))
 c1:w.cell? ⟨g,1,none⟩= some (.int .i64 a)
 c2:w.cell? ⟨g,2,none⟩= some (.bool bad)
 f1:w.frozen? ⟨g,1,none⟩= false
 f2:w.frozen? ⟨g,2,none⟩= false
theorem Rdr.else_ {w:World} {g:Nat} {l:Str} {a:Nat} {bad:Bool} (h:Rdr w g l a bad):Else w g:=by
 intro n T hs;rw [h.sh] at hs
 obtain ⟨rfl,rfl⟩:=Prod.mk.inj (Option.some.inj hs)
 exact ⟨by decide,by decide⟩
theorem Rdr.bl {w w':World} (hb:Bl w w') {g:Nat} {l:Str} {a:Nat} {bad:Bool} (h:Rdr w g l a bad):Rdr w' g l a bad:=
 ⟨hb.shape h.sh,cell_kept hb h.c0,cell_kept hb h.c1,cell_kept hb h.c2,by rw [Below.frozen hb (shape_lt h.sh)];exact h.f1,by rw [Below.frozen hb (shape_lt h.sh)];exact h.f2⟩
theorem Rdr.set1 {w:World} {g:Nat} {l:Str} {a:Nat} {bad:Bool} (h:Rdr w g l a bad) (a':Nat) (i:Int) (hi:i = a'):Rdr (w.setCell ⟨g,1,none⟩ (.int .i64 i)) g l a' bad:=by
 subst hi
 exact ⟨by rw [shape_set];exact h.sh,by rw [World.cell?_setCell_other _ _ _ _ (by simp)];exact h.c0,World.cell?_setCell_same _ _ _ h.c1,by rw [World.cell?_setCell_other _ _ _ _ (by simp)];exact h.c2,by simp [h.f1],by simp [h.f2]⟩
theorem Rdr.set2 {w:World} {g:Nat} {l:Str} {a:Nat} {bad:Bool} (h:Rdr w g l a bad) (bad':Bool):Rdr (w.setCell ⟨g,2,none⟩ (.bool bad')) g l a bad':=
 ⟨by rw [shape_set];exact h.sh,by rw [World.cell?_setCell_other _ _ _ _ (by simp)];exact h.c0,by rw [World.cell?_setCell_other _ _ _ _ (by simp)];exact h.c1,World.cell?_setCell_same _ _ _ h.c2,by simp [h.f1],by simp [h.f2]⟩
theorem Rdr.drew {w:World} {g:Nat} {l:Str} {a:Nat} {bad:Bool} (h:Rdr w g l a bad):Rdr w.drew g l a bad:=⟨h.sh,h.c0,h.c1,h.c2,h.f1,h.f2⟩
theorem next_yes (w:World) (g:Nat) (l:Str) (a:Nat) (bad:Bool) (R:Rdr w g l a bad) (hs:Short l) (c:UInt8) (s:Str) (h:l.drop a = c :: s):
  Calls Try.prog 114 #[.pointer (some ⟨g,0,none⟩)] w fun e w'=>e = .returned (.int .u8 c.toNat)∧Rdr w' g l (a + 1) bad∧Bx g w w':=by
 have HR:=R
 obtain ⟨r0,r1,r2,r3,r4,r5⟩:=R
 obtain ⟨k1,k2,k3,k4⟩:=drop_facts h
 unfold Short at hs
 have h1:(a:Int) < l.length:=by omega
 have h2:¬ (l.length:Int)≤a:=by omega
 have h3:(0:Int)≤(a:Int):=by omega
 have w1:IntKind.i64.wrap ((a:Int)+ 1 - 1)= a:=by rw [IntWalk.i64_in _ (by omega)];omega
 have w2:((a:Int)+ 1 - 1)= a:=by omega
 clear k3 k4 h
 go_enter Try.func114,Try.ntmps114
 go_wp2_with fail
 go_region
 go_wp2_with fail
 go_region
 go_wp2_with fail
 go_ret
 exact ⟨rfl,((HR.set1 (a + 1) _ (by omega)).drew).drew,((bx_set _ _ _ _).drew).drew⟩
theorem next_no (w:World) (g:Nat) (l:Str) (a:Nat) (bad:Bool) (R:Rdr w g l a bad) (h:l.drop a = []):
  Calls Try.prog 114 #[.pointer (some ⟨g,0,none⟩)] w fun e w'=>e = .returned (.int .u8 0)∧Rdr w' g l a true∧Bx g w w':=by
 have HR:=R
 obtain ⟨r0,r1,r2,r3,r4,r5⟩:=R
 have h2:(l.length:Int)≤a:=by have:=congrArg List.length h;simp at this;omega
 clear h
 go_enter Try.func114,Try.ntmps114
 go_wp2_with fail
 go_region
 go_wp2_with fail
 go_ret
 exact ⟨rfl,(HR.set2 true).drew,(bx_set _ _ _ _).drew⟩
theorem isLetter_c (c:UInt8) (w:World):Calls Try.prog 53 #[.int .u8 c.toNat] w fun e w'=>e = .returned (.bool (smallB c))∧w = w':=by
 by_cases h:(97:Int)≤c.toNat
 ·have h':decide ((97:Int)≤c.toNat)= true:=decide_eq_true h
  go_enter Try.func53,Try.ntmps53
  go_wp2_with fail
  go_ret
  exact ⟨ret_bool (by unfold smallB;rw [Bool.eq_iff_iff];simp;omega),rfl⟩
 ·have h':decide ((97:Int)≤c.toNat)= false:=decide_eq_false h
  have hr:Hid (false = smallB c):=by unfold Hid smallB;simp;omega
  clear h
  go_enter Try.func53,Try.ntmps53
  go_wp2_with fail
  go_ret
  exact ⟨ret_bool hr.out,rfl⟩
theorem need_yes (w:World) (g:Nat) (l:Str) (a:Nat) (bad:Bool) (R:Rdr w g l a bad) (hs:Short l) (c:UInt8) (s:Str) (h:l.drop a = c :: s):
  Calls Try.prog 116 #[.pointer (some ⟨g,0,none⟩),.int .u8 c.toNat] w fun e w'=>e = .returned (.tuple #[])∧Rdr w' g l (a + 1) bad∧Bx g w w':=by
 have c1:=hide (next_yes w g l a bad R hs c s h)
 clear R h
 go_enter Try.func116,Try.ntmps116
 go_wp2_with ((go_at_call 114;(with_reducible refine (c1.out).mono ?_);rintro e w' ⟨rfl,hR,hb⟩))
 go_end0
 exact ⟨rfl,hR,hb⟩
theorem need_no (w:World) (g:Nat) (l:Str) (a:Nat) (bad:Bool) (R:Rdr w g l a bad) (hs:Short l) (c:UInt8) (h0:c≠0) (h:∀ s,l.drop a≠c :: s) (ha:a≤l.length):
  Calls Try.prog 116 #[.pointer (some ⟨g,0,none⟩),.int .u8 c.toNat] w fun e w'=>e = .returned (.tuple #[])∧(∃ a',Rdr w' g l a' true∧a'≤l.length)∧Bx g w w':=by
 match hd:l.drop a with
 | []=>
   have c1:=hide (next_no w g l a bad R hd)
   have n0:((0:Int)== (c.toNat:Int))= false:=ne_int (c:=0) (d:=c) (fun e=>h0 e.symm)
   have n1:=bne_of n0
   clear R h hd h0
   go_enter Try.func116,Try.ntmps116
   go_wp2_with ((go_at_call 114;(with_reducible refine (c1.out).mono ?_);rintro e w' ⟨rfl,hR,hb⟩;obtain ⟨r0,r1,r2,r3,r4,r5⟩:=id hR))
   go_end0
   exact ⟨rfl,⟨a,hR.set2 true,ha⟩,hb.trans (bx_set _ _ _ _)⟩
 | d :: s=>
   have c1:=hide (next_yes w g l a bad R hs d s hd)
   have hne:d≠c:=by rintro rfl;exact h s hd
   have n0:((d.toNat:Int)== (c.toNat:Int))= false:=ne_int hne
   have n1:=bne_of n0
   have hal:a + 1≤l.length:=(drop_facts hd).1
   clear R h hd h0 hne
   go_enter Try.func116,Try.ntmps116
   go_wp2_with ((go_at_call 114;(with_reducible refine (c1.out).mono ?_);rintro e w' ⟨rfl,hR,hb⟩;obtain ⟨r0,r1,r2,r3,r4,r5⟩:=id hR))
   go_end0
   exact ⟨rfl,⟨a + 1,hR.set2 true,hal⟩,hb.trans (bx_set _ _ _ _)⟩
theorem name_yes (w:World) (g:Nat) (l:Str) (a:Nat) (bad:Bool) (R:Rdr w g l a bad) (hs:Short l) (c:UInt8) (s:Str) (h:l.drop a = c :: s) (hc:smallB c = true):
  Calls Try.prog 115 #[.pointer (some ⟨g,0,none⟩)] w fun e w'=>e = .returned (.int .u8 c.toNat)∧Rdr w' g l (a + 1) bad∧Bx g w w':=by
 have c1:=hide (next_yes w g l a bad R hs c s h)
 have c2:=hide fun w=>isLetter_c c w
 rw [hc] at c2
 clear R h hc
 go_enter Try.func115,Try.ntmps115
 go_wp2_with (first | (go_at_call 114;(with_reducible refine (c1.out).mono ?_);rintro e w' ⟨rfl,hR,hb⟩) | (go_at_call 53;(with_reducible refine (c2.out _).mono ?_);rintro e w' ⟨rfl,rfl⟩))
 go_ret
 exact ⟨rfl,hR,hb⟩
theorem name_no (w:World) (g:Nat) (l:Str) (a:Nat) (bad:Bool) (R:Rdr w g l a bad) (hs:Short l) (h:∀ c s,l.drop a = c :: s→smallB c = false) (ha:a≤l.length):
  Calls Try.prog 115 #[.pointer (some ⟨g,0,none⟩)] w fun e w'=>(∃ c:UInt8,e = .returned (.int .u8 c.toNat))∧(∃ a',Rdr w' g l a' true∧a'≤l.length)∧Bx g w w':=by
 match hd:l.drop a with
 | []=>
   have c1:=hide (next_no w g l a bad R hd)
   have c2:Hid (∀ w,Calls Try.prog 53 #[.int .u8 0] w fun e w'=>e = .returned (.bool false)∧w = w'):=fun w=>isLetter_c 0 w
   clear R h hd
   go_enter Try.func115,Try.ntmps115
   go_wp2_with (first | (go_at_call 114;(with_reducible refine (c1.out).mono ?_);rintro e w' ⟨rfl,hR,hb⟩;obtain ⟨r0,r1,r2,r3,r4,r5⟩:=id hR) | (go_at_call 53;(with_reducible refine (c2.out _).mono ?_);rintro e w' ⟨rfl,rfl⟩))
   go_ret
   exact ⟨⟨0,rfl⟩,⟨a,hR.set2 true,ha⟩,hb.trans (bx_set _ _ _ _)⟩
 | d :: s=>
   have c1:=hide (next_yes w g l a bad R hs d s hd)
   have c2:=hide fun w=>isLetter_c d w
   rw [h d s hd] at c2
   have hal:a + 1≤l.length:=(drop_facts hd).1
   clear R h hd
   go_enter Try.func115,Try.ntmps115
   go_wp2_with (first | (go_at_call 114;(with_reducible refine (c1.out).mono ?_);rintro e w' ⟨rfl,hR,hb⟩;obtain ⟨r0,r1,r2,r3,r4,r5⟩:=id hR) | (go_at_call 53;(with_reducible refine (c2.out _).mono ?_);rintro e w' ⟨rfl,rfl⟩))
   go_ret
   exact ⟨⟨d,rfl⟩,⟨a + 1,hR.set2 true,hal⟩,hb.trans (bx_set _ _ _ _)⟩
end Go.Proofs.Ytmmnnhaecjpfdaa
namespace Go.Proofs.Ytmmnnhaecjpfdaa
open Go.RowKit
attribute [local go_sem] S_size S_toList S_lit S_get S_extract S_append drop_all
attribute [local go_sem] conv1 conv1d
def goodB (l:Str):Bool:=(proc? l).isSome
theorem goodB_iff {l:Str}:goodB l = true↔∃ t,l = txt t∧t.ok smallB = true∧l.length≤300∧t.size≤60:=by
 unfold goodB
 rw [Option.isSome_iff_exists]
 constructor
 ·rintro ⟨t,h⟩;exact ⟨t,proc?_some.1 h⟩
 ·rintro ⟨t,h⟩;exact ⟨t,proc?_some.2 h⟩
theorem goodB_txt {t:Tm} (ht:t.ok smallB = true):goodB (txt t)= (decide ((txt t).length≤300) && decide (t.size≤60)):=by
 rw [Bool.eq_iff_iff,goodB_iff];simp only [Bool.and_eq_true,decide_eq_true_eq]
 constructor
 ·rintro ⟨u,h,hu,hl⟩
  have:=txt_inj' (Tm.ok_mono (fun _=>small_wide) ht) (Tm.ok_mono (fun _=>small_wide) hu) h
  subst this;exact hl
 ·rintro ⟨h1,h2⟩;exact ⟨t,rfl,ht,h1,h2⟩
theorem tmGood_c (l:Str) (w:World) (hs:Short l):Calls Try.prog 37 #[.string (S l)] w fun e w'=>e = .returned (.bool (goodB l))∧Bl w w':=by
 by_cases h3:l.length≤300
 ·have h3':(l.length:Int)≤300:=by omega
  have c1:=hide fun w=>tmSmall_c l w hs
  by_cases ha:l.all okB = true
  ·rw [ha] at c1
   have c2:=hide fun w=>tmEnd_i l 0 0 w rfl (by omega) hs
   by_cases he:endR l 0 = l.length
   ·rw [he] at c2
    obtain ⟨t,rfl,hk⟩:∃ t,l = txt t∧t.ok wideB = true:=by
     unfold endR at he
     split at he
     ·rename_i t r hp
      obtain ⟨h1,h2⟩:=(prs_iff wideB (fun _ h=>h) _ _ _).1 hp
      have:r = []:=List.eq_nil_of_length_eq_zero (by omega)
      subst this
      exact ⟨t,by simpa using h1,h2⟩
     ·omega
    have hsm:=(txt_all hk).1 ha
    have c4:=hide fun w=>tmSize_c t w hk hs
    have hr:Hid (goodB (txt t)= decide ((t.size:Int)≤60)):=by
     unfold Hid;rw [goodB_txt hsm,Bool.eq_iff_iff];simp only [Bool.and_eq_true,decide_eq_true_eq];omega
    generalize txt t = l at c1 c2 c4 h3' hr ⊢
    clear ha he h3
    go_enter Try.func37,Try.ntmps37
    go_wp2_with (first | (go_at_call 64;(with_reducible refine (c1.out _).mono ?_);rintro e w' ⟨rfl,rfl⟩) | (go_at_call 65;(with_reducible refine (c2.out _).mono ?_);rintro e w' ⟨rfl,rfl⟩) | (go_at_call 66;(with_reducible refine (c4.out _).mono ?_);rintro e w' ⟨rfl,hb⟩))
    go_ret
    exact ⟨ret_bool hr.out.symm,hb⟩
   ·have hr:Hid (goodB l = false):=by
     unfold Hid;rw [Bool.eq_false_iff];intro h
     obtain ⟨t,rfl,ht,-⟩:=goodB_iff.1 h
     apply he
     have:=endR_txt (l:=txt t) (a:=0) (t:=t) (r:=[]) (by simp) (Tm.ok_mono (fun _=>small_wide) ht)
     rw [this];omega
    have he':(endR l 0 == (l.length:Int))= false:=beq_eq_false_iff_ne.2 he
    clear ha he h3
    go_enter Try.func37,Try.ntmps37
    go_wp2_with (first | (go_at_call 64;(with_reducible refine (c1.out _).mono ?_);rintro e w' ⟨rfl,rfl⟩) | (go_at_call 65;(with_reducible refine (c2.out _).mono ?_);rintro e w' ⟨rfl,rfl⟩))
    go_ret
    exact ⟨ret_bool hr.out.symm,Bl.refl _⟩
  ·have ha':l.all okB = false:=by simpa using ha
   rw [ha'] at c1
   have hr:Hid (goodB l = false):=by
    unfold Hid;rw [Bool.eq_false_iff];intro h
    obtain ⟨t,rfl,ht,-⟩:=goodB_iff.1 h
    exact ha ((txt_all (Tm.ok_mono (fun _=>small_wide) ht)).2 ht)
   clear ha ha' h3
   go_enter Try.func37,Try.ntmps37
   go_wp2_with ((go_at_call 64;(with_reducible refine (c1.out _).mono ?_);rintro e w' ⟨rfl,rfl⟩))
   go_ret
   exact ⟨ret_bool hr.out.symm,Bl.refl _⟩
 ·have h3':¬ (l.length:Int)≤300:=by omega
  have hr:Hid (goodB l = false):=by
   unfold Hid;rw [Bool.eq_false_iff];intro h
   obtain ⟨t,_,_,h4,_⟩:=goodB_iff.1 h
   exact h3 h4
  clear h3
  go_enter Try.func37,Try.ntmps37
  go_wp2_with fail
  go_ret
  exact ⟨ret_bool hr.out.symm,Bl.refl _⟩
def ifV (l:Str):Value:=.tuple #[.string (S (if goodB l then l else [])),.bool (goodB l)]
theorem less_snoc (c x:UInt8) (s:Str):less c (s ++ [x])= less c s ++ if x != c then [x] else []:=by
 unfold less;rw [List.filter_append];cases h:x != c <;> simp [h]
theorem tmLess_c (l:Str) (c:UInt8) (w:World) (hs:Short l):Calls Try.prog 90 #[.string (S l),.int .u8 c.toNat] w fun e w'=>e = .returned (.string (S (less c l)))∧w = w':=by
 unfold Short at hs
 go_enter Try.func90,Try.ntmps90
 go_wp2_with fail
 go_loopg [5,6] (l.length + 1) (fun k o i wr=>∃ j:Nat,∃ s:Str,j≤l.length∧k = l.length + 1 - j∧i = .int .i64 j∧o = .string (S s)∧Hid (s = less c (l.take j))∧s.length≤j∧w = wr)
 case atStart=>exact ⟨0,[],by omega,by omega,rfl,rfl,by simp [Hid,less],by simp,rfl⟩
 case round=>
  obtain ⟨j,s,hj,hk,rfl,rfl,hn,hsj,rfl⟩:=hrel
  have HK:=hide hk
  clear hk
  by_cases hlt:j < l.length
  ·obtain ⟨x,r,h1,h2,h3,h4,h5⟩:=get_at hlt
   have hlt':(j:Int) < l.length:=by omega
   have e1:Hid (((j:Int)+ 1).toNat - j = 1):=by unfold Hid;omega
   have ht:Hid ((l.drop j).take 1 = [x]):=by unfold Hid;rw [h1];rfl
   by_cases hx:x = c
   ·have hn':Hid (s = less c (l.take (j + 1))):=by
     unfold Hid;rw [h5,less_snoc,hn.out,hx];simp
    subst hx
    have hx':((x.toNat:Int) != x.toNat)= false:=by simp
    clear h1 h2 h4 h5 hn
    go_wp2_with fail
    go_roundg (l.length + 1 - (j + 1))
    case measure=>have:=HK.out;omega
    case rel=>exact ⟨j + 1,s,by omega,rfl,by go_num,rfl,hn',by omega,rfl⟩
   ·have hx':=ne_int hx
    have hx2:=bne_of hx'
    have hn':Hid (s ++ [x] = less c (l.take (j + 1))):=by
     unfold Hid;rw [h5,less_snoc,hn.out];simp [hx]
    have q1:(j:Int)+ 1≤l.length:=by omega
    have q2:(j:Int)≤(j:Int)+ 1:=by omega
    have q3:(0:Int)≤(j:Int):=by omega
    clear h1 h2 h4 h5 hn hx
    go_wp2_with fail
    go_roundg (l.length + 1 - (j + 1))
    case measure=>have:=HK.out;omega
    case rel=>exact ⟨j + 1,s ++ [x],by omega,rfl,by go_num,by rw [ht.out],hn',by simp;omega,rfl⟩
  ·have hlt':¬ (j:Int) < l.length:=by omega
   have hr:Hid (s = less c l):=by
    have:=hn.out;rw [List.take_of_length_le (by omega)] at this;exact this
   clear hlt hn HK
   go_wp2_with fail
   go_ret
   exact ⟨ret_str hr.out,rfl⟩
end Go.Proofs.Ytmmnnhaecjpfdaa
namespace Go.Proofs.Ytmmnnhaecjpfdaa
open Go.RowKit
attribute [local go_sem] S_size S_toList S_lit S_get S_extract S_append drop_all
attribute [local go_sem] conv1 conv1d
theorem add_lt {c:UInt8} {s:Str}:∀ {j:Nat},(∀ x∈s.take j,x.toNat < c.toNat)→add c s = s.take j ++ add c (s.drop j):=by
 induction s with
 | nil=>intro j h;simp
 | cons x s ih=>
   intro j h
   cases j with
   | zero=>simp
   | succ j=>
     have hx:=h x (by simp)
     simp only [List.take_succ_cons,List.drop_succ_cons,List.cons_append]
     rw [← ih (fun y hy=>h y (by simp [hy]))]
     rw [add,if_pos hx]
theorem tmAdd_c (l:Str) (c:UInt8) (w:World) (hs:Short l):Calls Try.prog 72 #[.string (S l),.int .u8 c.toNat] w fun e w'=>e = .returned (.string (S (add c l)))∧Bl w w':=by
 unfold Short at hs
 go_enter Try.func72,Try.ntmps72
 go_wp2_with fail
 go_loopg [5] (l.length + 1) (fun k i wr=>∃ j:Nat,j≤l.length∧k = l.length + 1 - j∧i = .int .i64 j∧Hid (∀ x∈l.take j,x.toNat < c.toNat)∧w = wr)
 case atStart=>exact ⟨0,by omega,by omega,rfl,by simp [Hid],rfl⟩
 case round =>
  obtain ⟨j,hj,hk,rfl,hn,rfl⟩:=hrel
  have HK:=hide hk
  clear hk
  have hA:=hide (add_lt hn.out)
  have q0:(0:Int)≤(j:Int):=by omega
  have q1:(j:Int)≤l.length:=by omega
  by_cases hlt:j < l.length
  ·obtain ⟨x,r,h1,h2,h3,h4,h5⟩:=get_at hlt
   have hlt':(j:Int) < l.length:=by omega
   by_cases hx:x.toNat < c.toNat
   ·have hx':decide ((x.toNat:Int) < c.toNat)= true:=decide_eq_true (by omega)
    have hn':Hid (∀ x∈l.take (j + 1),x.toNat < c.toNat):=by
     unfold Hid;rw [h5];intro y hy
     rcases List.mem_append.1 hy with hy | hy
     ·exact hn.out y hy
     ·rw [List.mem_singleton.1 hy];exact hx
    have hx'':decide (x.toNat < c.toNat)= true:=decide_eq_true hx
    clear h1 h2 h4 h5 hn hx hA
    go_wp2_with fail
    go_roundg (l.length + 1 - (j + 1))
    case measure=>have:=HK.out;omega
    case rel=>exact ⟨j + 1,by omega,rfl,by go_num,hn',rfl⟩
   ·have hx':decide ((x.toNat:Int) < c.toNat)= false:=decide_eq_false (by omega)
    have hx'':decide (x.toNat < c.toNat)= false:=decide_eq_false hx
    by_cases hc:x = c
    ·have hr:Hid (add c l = l):=by
      unfold Hid;rw [hA.out,h1,add,if_neg hx,if_pos hc,← h1,List.take_append_drop]
     have hc':((x.toNat:Int)== c.toNat)= true:=by rw [hc];simp
     clear h1 h2 h4 h5 hn hx hA hc
     go_wp2_with fail
     go_ret
     exact ⟨ret_str hr.out.symm,Bl.refl _⟩
    ·have hr:Hid (add c l = l.take j ++ [c] ++ l.drop j):=by
      unfold Hid;rw [hA.out,h1,add,if_neg hx,if_neg hc];simp
     have hc':=ne_int hc
     clear h1 h2 h4 h5 hn hx hA hc
     go_wp2_with fail
     go_region
     all_goals
      go_wp2_with fail
      go_ret
      refine ⟨ret_str ?_,?_⟩
      ·rw [hr.out];simp
      ·first | exact bl_drew (bl_alloc _ _) | exact bl_alloc _ _
  ·have hlt':¬ (j:Int) < l.length:=by omega
   have hr:Hid (add c l = l.take j ++ [c] ++ l.drop j):=by
    unfold Hid;rw [hA.out,List.drop_of_length_le (by omega),add];simp
   clear hlt hn HK hA
   go_wp2_with fail
   go_region
   all_goals
    go_wp2_with fail
    go_ret
    refine ⟨ret_str ?_,?_⟩
    ·rw [hr.out];simp
    ·first | exact bl_drew (bl_alloc _ _) | exact bl_alloc _ _
theorem add_short {c:UInt8} {l:Str}:(add c l).length≤l.length + 1:=add_nodup_len
theorem both_snoc (s t:Str) (x:UInt8):both s (t ++ [x])= add x (both s t):=by simp [both]
theorem both_len:∀ (t s:Str),(both s t).length≤s.length + t.length
 | [],s=>by simp [both]
 | x :: t,s=>by
   have:=both_len t (add x s)
   have h2:=add_short (c:=x) (l:=s)
   have e:both s (x :: t)= both (add x s) t:=rfl
   rw [e];simp only [List.length_cons];omega
theorem tmBoth_c (l m:Str) (w:World) (hl:(l.length:Int)+ m.length≤4611686018427387904):Calls Try.prog 49 #[.string (S l),.string (S m)] w fun e w'=>e = .returned (.string (S (both l m)))∧Bl w w':=by
 go_enter Try.func49,Try.ntmps49
 go_wp2_with fail
 go_loopg [0,5] (m.length + 1) (fun k s i wr=>∃ j:Nat,j≤m.length∧k = m.length + 1 - j∧i = .int .i64 j∧s = .string (S (both l (m.take j)))∧Bl w wr)
 case atStart=>exact ⟨0,by omega,by omega,rfl,rfl,Bl.refl _⟩
 case round=>
  obtain ⟨j,hj,hk,rfl,rfl,hb⟩:=hrel
  have HK:=hide hk
  clear hk
  by_cases hlt:j < m.length
  ·obtain ⟨x,r,h1,h2,h3,h4,h5⟩:=get_at hlt
   have hlt':(j:Int) < m.length:=by omega
   have hn':Hid (add x (both l (m.take j))= both l (m.take (j + 1))):=by
    unfold Hid;rw [h5,both_snoc]
   have c1:=hide fun w=>tmAdd_c (both l (m.take j)) x w (by have:=both_len (m.take j) l;rw [List.length_take] at this;unfold Short;omega)
   generalize both l (m.take j)= s at c1 hn'
   clear h1 h2 h4 h5
   go_wp2_with ((go_at_call 72;(with_reducible refine (c1.out _).mono ?_);rintro e w' ⟨rfl,hb2⟩))
   go_roundg (m.length + 1 - (j + 1))
   case measure=>have:=HK.out;omega
   case rel=>exact ⟨j + 1,by omega,rfl,by go_num,by rw [hn'.out],hb.trans hb2⟩
  ·have hlt':¬ (j:Int) < m.length:=by omega
   have hr:Hid (both l (m.take j)= both l m):=by
    unfold Hid;rw [List.take_of_length_le (by omega)]
   clear hlt HK
   go_wp2_with fail
   go_ret
   exact ⟨ret_str hr.out,hb⟩
end Go.Proofs.Ytmmnnhaecjpfdaa
namespace Go.Proofs.Ytmmnnhaecjpfdaa
open Go.RowKit
attribute [local go_sem] S_size S_toList S_lit S_get S_extract S_append drop_all
structure UnL (l:Str) (k a b:UInt8) (p:Tm):Prop where
 kind:Hid (∀ w,Calls Try.prog 46 #[.string (S l)] w fun e w'=>e = .returned (.int .u8 k.toNat)∧w = w')
 head:Hid (∀ w,Calls Try.prog 71 #[.string (S l)] w fun e w'=>e = .returned (.int .i64 (hd k a b).length)∧w = w')
 parts:Hid (∀ w,Calls Try.prog 47 #[.string (S l)] w fun e w'=>∃ v,e = .returned v∧One w' v (txt p)∧Bl w w')
 binds:Hid (∀ w,Calls Try.prog 74 #[.string (S l)] w fun e w'=>e = .returned (.tuple (if bindsB k then #[.int .u8 b.toNat,.bool true] else #[.int .u8 0,.bool false]))∧w = w')
 eq:Hid (l = txt (.un k a b p))
theorem unL (k a b:UInt8) (p:Tm) (hk:okhd wideB k a b = true):UnL (txt (.un k a b p)) k a b p:=
 ⟨fun w=>tmKind_un k a b p w hk,fun w=>tmHead_un k a b p w hk,fun w=>tmParts_un k a b p w hk,fun w=>tmBinds_un k a b p w hk,rfl⟩
structure BinL (l:Str) (k:UInt8) (p q:Tm):Prop where
 kind:Hid (∀ w,Calls Try.prog 46 #[.string (S l)] w fun e w'=>e = .returned (.int .u8 k.toNat)∧w = w')
 head:Hid (∀ w,Calls Try.prog 71 #[.string (S l)] w fun e w'=>e = .returned (.int .i64 1)∧w = w')
 parts:Hid (∀ w,Calls Try.prog 47 #[.string (S l)] w fun e w'=>∃ v,e = .returned v∧Two w' v (txt p) (txt q)∧Bl w w')
 binds:Hid (∀ w,Calls Try.prog 74 #[.string (S l)] w fun e w'=>e = .returned (.tuple #[.int .u8 0,.bool false])∧w = w')
 eq:Hid (l = txt (.bin k p q))
theorem binL (k:UInt8) (p q:Tm) (hk:k = 43∨k = 38) (hp:p.ok wideB = true) (hs:Short (txt (.bin k p q))):BinL (txt (.bin k p q)) k p q:=
 ⟨fun w=>tmKind_bin k p q w hp hs,fun w=>tmHead_bin k p q w hk hp hs,fun w=>tmParts_bin k p q w hk hp hs,fun w=>tmBinds_bin k p q w hk hp hs,rfl⟩
theorem byte_get {l:Str} {i:Nat} {x:UInt8} (h:l[i]? = some x):i < l.length∧∀ h:i < l.length,l[i]'h = x:=by
 obtain ⟨h1,h2⟩:=List.getElem?_eq_some_iff.1 h
 exact ⟨h1,fun _=>h2⟩
theorem short_of {l:Str} (h:l.length≤1000000):Short l:=by unfold Short;omega
theorem fvS_len (t:Tm):(fvS t).length≤256:=(fvS_srt t).len
theorem tmFree_un (l:Str) (k a b:UInt8) (p:Tm) (w:World) (U:UnL l k a b p) (hk:okhd wideB k a b = true)
  (ih:Hid (∀ w,Calls Try.prog 73 #[.string (S (txt p))] w fun e w'=>e = .returned (.string (S (fvS p)))∧Bl w w')):
  Calls Try.prog 73 #[.string (S l)] w fun e w'=>e = .returned (.string (S (fvS (.un k a b p))))∧Bl w w':=by
 obtain ⟨c1,-,c2,c3,he⟩:=U
 have hf:=fvS_len p
 have hb0:=both_len (fvS p) []
 have c4:=hide fun w=>tmBoth_c [] (fvS p) w (by simp;omega)
 have hm:(both [] (fvS p)).length≤256:=by simp at hb0;omega
 clear hb0 hf
 rcases okhd_cases hk with ⟨rfl,ha,hb⟩ | ⟨rfl,ha,hb⟩ | ⟨rfl,ha,hb⟩ | ⟨rfl,ha,hb⟩ | ⟨rfl,ha,hb⟩ | ⟨rfl,ha,hb⟩ <;> clear hk
 case inl=>
  obtain ⟨g1,g2⟩:=byte_get (l:=l) (i:=0) (x:=a) (by rw [he.out];simp [txt,hd])
  obtain ⟨g3,g4⟩:=byte_get (l:=l) (i:=2) (x:=b) (by rw [he.out];simp [txt,hd])
  have g1':(0:Int) < l.length:=by omega
  have g3':(2:Int) < l.length:=by omega
  have hr:Hid (fvS (.un 33 a b p)= add b (add a (both [] (fvS p)))):=by simp [fvS,Hid,bindsB]
  have c3:Hid (∀ w,Calls Try.prog 74 #[.string (S l)] w fun e w'=>e = .returned (.tuple #[.int .u8 0,.bool false])∧w = w'):=c3
  generalize both [] (fvS p)= o at c4 hm hr
  have d1:=hide fun w=>tmAdd_c o a w (by unfold Short;omega)
  have d2:=hide fun w=>tmAdd_c (add a o) b w (by have:=add_short (c:=a) (l:=o);unfold Short;omega)
  generalize add a o = o2 at d1 d2 hr
  go_enter Try.func73,Try.ntmps73
  go_wp2_with ((go_at_call 47;(with_reducible refine (c2.out _).mono ?_);rintro e w' ⟨v,rfl,⟨g,c,rfl,hc⟩,hb1⟩))
  refine wp_loop_rounds 2 ?_
  rw [rounds_succ]
  go_wp2_with (first | (go_at_call 73;(with_reducible refine (ih.out _).mono ?_);rintro e w' ⟨rfl,hb2⟩) | (go_at_call 49;(with_reducible refine (c4.out _).mono ?_);rintro e w' ⟨rfl,hb3⟩))
  rw [rounds_succ]
  go_wp2_with (first | (go_at_call 74;(with_reducible refine (c3.out _).mono ?_);rintro e w' ⟨rfl,rfl⟩) | (go_at_call 46;(with_reducible refine (c1.out _).mono ?_);rintro e w' ⟨rfl,rfl⟩))
  go_region_with (go_at_call 72;first | ((with_reducible refine (d1.out _).mono ?_);rintro e w' ⟨rfl,hb4⟩) | ((with_reducible refine (d2.out _).mono ?_);rintro e w' ⟨rfl,hb5⟩))
  all_goals
   go_wp2_with fail
   go_ret
   exact ⟨ret_str hr.out.symm,bls⟩
 case inr.inl=>
  obtain ⟨g1,g2⟩:=byte_get (l:=l) (i:=0) (x:=a) (by rw [he.out];simp [txt,hd])
  have g3:(0:Int) < l.length:=by omega
  have hr:Hid (fvS (.un 63 a b p)= add a (less b (both [] (fvS p)))):=by simp [fvS,Hid,bindsB]
  have c3:Hid (∀ w,Calls Try.prog 74 #[.string (S l)] w fun e w'=>e = .returned (.tuple #[.int .u8 b.toNat,.bool true])∧w = w'):=c3
  generalize both [] (fvS p)= o at c4 hm hr
  have d1:=hide fun w=>tmLess_c o b w (by unfold Short;omega)
  have d2:=hide fun w=>tmAdd_c (less b o) a w (by have:=List.length_filter_le (fun x=>x != b) o;unfold Short less;omega)
  generalize less b o = o2 at d1 d2 hr
  go_enter Try.func73,Try.ntmps73
  go_wp2_with ((go_at_call 47;(with_reducible refine (c2.out _).mono ?_);rintro e w' ⟨v,rfl,⟨g,c,rfl,hc⟩,hb1⟩))
  refine wp_loop_rounds 2 ?_
  rw [rounds_succ]
  go_wp2_with (first | (go_at_call 73;(with_reducible refine (ih.out _).mono ?_);rintro e w' ⟨rfl,hb2⟩) | (go_at_call 49;(with_reducible refine (c4.out _).mono ?_);rintro e w' ⟨rfl,hb3⟩))
  rw [rounds_succ]
  go_wp2_with (first | (go_at_call 74;(with_reducible refine (c3.out _).mono ?_);rintro e w' ⟨rfl,rfl⟩) | (go_at_call 46;(with_reducible refine (c1.out _).mono ?_);rintro e w' ⟨rfl,rfl⟩) | (go_at_call 90;(with_reducible refine (d1.out _).mono ?_);rintro e w' ⟨rfl,rfl⟩) | (go_at_call 72;(with_reducible refine (d2.out _).mono ?_);rintro e w' ⟨rfl,hb4⟩))
  go_ret
  exact ⟨ret_str hr.out.symm,bls⟩
 case inr.inr.inl=>
  obtain ⟨g1,g2⟩:=byte_get (l:=l) (i:=1) (x:=a) (by rw [he.out];simp [txt,hd])
  have g3:(1:Int) < l.length:=by omega
  obtain ⟨y1,y2⟩:=byte_get (l:=l) (i:=3) (x:=b) (by rw [he.out];simp [txt,hd])
  have y3:(3:Int) < l.length:=by omega
  have hr:Hid (fvS (.un 61 a b p)= add b (add a (both [] (fvS p)))):=by simp [fvS,Hid,bindsB]
  have c3:Hid (∀ w,Calls Try.prog 74 #[.string (S l)] w fun e w'=>e = .returned (.tuple #[.int .u8 0,.bool false])∧w = w'):=c3
  generalize both [] (fvS p)= o at c4 hm hr
  have d1:=hide fun w=>tmAdd_c o a w (by unfold Short;omega)
  have d2:=hide fun w=>tmAdd_c (add a o) b w (by have:=add_short (c:=a) (l:=o);unfold Short;omega)
  generalize add a o = o2 at d1 d2 hr
  go_enter Try.func73,Try.ntmps73
  go_wp2_with ((go_at_call 47;(with_reducible refine (c2.out _).mono ?_);rintro e w' ⟨v,rfl,⟨g,c,rfl,hc⟩,hb1⟩))
  refine wp_loop_rounds 2 ?_
  rw [rounds_succ]
  go_wp2_with (first | (go_at_call 73;(with_reducible refine (ih.out _).mono ?_);rintro e w' ⟨rfl,hb2⟩) | (go_at_call 49;(with_reducible refine (c4.out _).mono ?_);rintro e w' ⟨rfl,hb3⟩))
  rw [rounds_succ]
  go_wp2_with (first | (go_at_call 74;(with_reducible refine (c3.out _).mono ?_);rintro e w' ⟨rfl,rfl⟩) | (go_at_call 46;(with_reducible refine (c1.out _).mono ?_);rintro e w' ⟨rfl,rfl⟩))
  go_region_with (go_at_call 72;first | ((with_reducible refine (d1.out _).mono ?_);rintro e w' ⟨rfl,hb4⟩) | ((with_reducible refine (d2.out _).mono ?_);rintro e w' ⟨rfl,hb5⟩))
  all_goals
   go_wp2_with fail
   go_ret
   exact ⟨ret_str hr.out.symm,bls⟩
 case inr.inr.inr.inl=>
  have hr:Hid (fvS (.un 35 a b p)= less b (both [] (fvS p))):=by simp [fvS,Hid,bindsB]
  have c3:Hid (∀ w,Calls Try.prog 74 #[.string (S l)] w fun e w'=>e = .returned (.tuple #[.int .u8 b.toNat,.bool true])∧w = w'):=c3
  generalize both [] (fvS p)= o at c4 hm hr
  have d1:=hide fun w=>tmLess_c o b w (by unfold Short;omega)
  generalize less b o = o2 at d1 hr
  have ha:=hide ha
  go_enter Try.func73,Try.ntmps73
  go_wp2_with ((go_at_call 47;(with_reducible refine (c2.out _).mono ?_);rintro e w' ⟨v,rfl,⟨g,c,rfl,hc⟩,hb1⟩))
  refine wp_loop_rounds 2 ?_
  rw [rounds_succ]
  go_wp2_with (first | (go_at_call 73;(with_reducible refine (ih.out _).mono ?_);rintro e w' ⟨rfl,hb2⟩) | (go_at_call 49;(with_reducible refine (c4.out _).mono ?_);rintro e w' ⟨rfl,hb3⟩))
  rw [rounds_succ]
  go_wp2_with (first | (go_at_call 74;(with_reducible refine (c3.out _).mono ?_);rintro e w' ⟨rfl,rfl⟩) | (go_at_call 46;(with_reducible refine (c1.out _).mono ?_);rintro e w' ⟨rfl,rfl⟩) | (go_at_call 90;(with_reducible refine (d1.out _).mono ?_);rintro e w' ⟨rfl,rfl⟩))
  go_ret
  exact ⟨ret_str hr.out.symm,bls⟩
 case inr.inr.inr.inr.inl=>
  have hr:Hid (fvS (.un 42 a b p)= both [] (fvS p)):=by simp [fvS,Hid,bindsB]
  have c3:Hid (∀ w,Calls Try.prog 74 #[.string (S l)] w fun e w'=>e = .returned (.tuple #[.int .u8 0,.bool false])∧w = w'):=c3
  generalize both [] (fvS p)= o at c4 hm hr
  have ha:=hide ha
  have hb:=hide hb
  go_enter Try.func73,Try.ntmps73
  go_wp2_with ((go_at_call 47;(with_reducible refine (c2.out _).mono ?_);rintro e w' ⟨v,rfl,⟨g,c,rfl,hc⟩,hb1⟩))
  refine wp_loop_rounds 2 ?_
  rw [rounds_succ]
  go_wp2_with (first | (go_at_call 73;(with_reducible refine (ih.out _).mono ?_);rintro e w' ⟨rfl,hb2⟩) | (go_at_call 49;(with_reducible refine (c4.out _).mono ?_);rintro e w' ⟨rfl,hb3⟩))
  rw [rounds_succ]
  go_wp2_with (first | (go_at_call 74;(with_reducible refine (c3.out _).mono ?_);rintro e w' ⟨rfl,rfl⟩) | (go_at_call 46;(with_reducible refine (c1.out _).mono ?_);rintro e w' ⟨rfl,rfl⟩))
  go_ret
  exact ⟨ret_str hr.out.symm,bls⟩
 case inr.inr.inr.inr.inr=>
  have hr:Hid (fvS (.un 126 a b p)= both [] (fvS p)):=by simp [fvS,Hid,bindsB]
  have c3:Hid (∀ w,Calls Try.prog 74 #[.string (S l)] w fun e w'=>e = .returned (.tuple #[.int .u8 0,.bool false])∧w = w'):=c3
  generalize both [] (fvS p)= o at c4 hm hr
  have ha:=hide ha
  have hb:=hide hb
  go_enter Try.func73,Try.ntmps73
  go_wp2_with ((go_at_call 47;(with_reducible refine (c2.out _).mono ?_);rintro e w' ⟨v,rfl,⟨g,c,rfl,hc⟩,hb1⟩))
  refine wp_loop_rounds 2 ?_
  rw [rounds_succ]
  go_wp2_with (first | (go_at_call 73;(with_reducible refine (ih.out _).mono ?_);rintro e w' ⟨rfl,hb2⟩) | (go_at_call 49;(with_reducible refine (c4.out _).mono ?_);rintro e w' ⟨rfl,hb3⟩))
  rw [rounds_succ]
  go_wp2_with (first | (go_at_call 74;(with_reducible refine (c3.out _).mono ?_);rintro e w' ⟨rfl,rfl⟩) | (go_at_call 46;(with_reducible refine (c1.out _).mono ?_);rintro e w' ⟨rfl,rfl⟩))
  go_ret
  exact ⟨ret_str hr.out.symm,bls⟩
theorem tmFree_c (t:Tm):∀ (w:World),t.ok wideB = true→Short (txt t)→
  Calls Try.prog 73 #[.string (S (txt t))] w fun e w'=>e = .returned (.string (S (fvS t)))∧Bl w w':=by
 induction t with
 | zero=>
   intro w hk hs
   have c1:=hide (tmParts_zero w)
   have c2:=hide (tmBinds_zero w)
   have c3:=hide (tmKind_zero w)
   show Calls _ _ #[.string (S [48])] _ _
   go_enter Try.func73,Try.ntmps73
   go_wp2_with ((go_at_call 47;(with_reducible refine (c1.out).mono ?_);rintro e w' ⟨rfl,rfl⟩))
   refine wp_loop_rounds 1 ?_
   rw [rounds_succ]
   go_wp2_with (first | (go_at_call 74;(with_reducible refine (c2.out).mono ?_);rintro e w' ⟨rfl,rfl⟩) | (go_at_call 46;(with_reducible refine (c3.out).mono ?_);rintro e w' ⟨rfl,rfl⟩))
   go_ret
   exact ⟨rfl,Bl.refl _⟩
 | un k a b p ih=>
   intro w hk hs
   simp only [Tm.ok,Bool.and_eq_true] at hk
   exact tmFree_un _ k a b p w (unL k a b p hk.1) hk.1 (hide fun w=>ih w hk.2 (by unfold Short at *;simp [txt] at hs;omega))
 | bin k p q ih1 ih2=>
   intro w hk hs
   simp only [Tm.ok,Bool.and_eq_true,Bool.or_eq_true,beq_iff_eq] at hk
   obtain ⟨c1,-,c2,c3,-⟩:=binL k p q hk.1 hk.2.1 hs
   have i1:=hide fun w=>ih1 w hk.2.1 (by unfold Short at *;simp [txt] at hs;omega)
   have i2:=hide fun w=>ih2 w hk.2.2 (by unfold Short at *;simp [txt] at hs;omega)
   have hf:=fvS_len p
   have hg:=fvS_len q
   have hb0:=both_len (fvS p) []
   have c4:=hide fun w=>tmBoth_c [] (fvS p) w (by simp;omega)
   have c5:=hide fun w=>tmBoth_c (both [] (fvS p)) (fvS q) w (by simp at hb0;omega)
   have hr:Hid (fvS (.bin k p q)= both (both [] (fvS p)) (fvS q)):=rfl
   generalize txt (.bin k p q)= l at c1 c2 c3 ⊢
   generalize both [] (fvS p)= o at c4 c5 hr
   clear hf hg hb0 hs ih1 ih2
   have n1:((k.toNat:Int)== 33)= false:=ne_int (d:=33) (by rcases hk.1 with rfl | rfl <;> decide)
   have n2:((k.toNat:Int)== 63)= false:=ne_int (d:=63) (by rcases hk.1 with rfl | rfl <;> decide)
   have n3:((k.toNat:Int)== 61)= false:=ne_int (d:=61) (by rcases hk.1 with rfl | rfl <;> decide)
   clear hk
   go_enter Try.func73,Try.ntmps73
   go_wp2_with ((go_at_call 47;(with_reducible refine (c2.out _).mono ?_);rintro e w' ⟨v,rfl,⟨g,c,rfl,hc,hd⟩,hb1⟩))
   refine wp_loop_rounds 3 ?_
   rw [rounds_succ]
   go_wp2_with (first | (go_at_call 73;(with_reducible refine (i1.out _).mono ?_);rintro e w' ⟨rfl,hb2⟩) | (go_at_call 49;(with_reducible refine (c4.out _).mono ?_);rintro e w' ⟨rfl,hb3⟩))
   have hd2:=cell_kept (hb2.trans hb3) hd
   rw [rounds_succ]
   go_wp2_with (first | (go_at_call 73;(with_reducible refine (i2.out _).mono ?_);rintro e w' ⟨rfl,hb4⟩) | (go_at_call 49;(with_reducible refine (c5.out _).mono ?_);rintro e w' ⟨rfl,hb5⟩))
   rw [rounds_succ]
   go_wp2_with (first | (go_at_call 74;(with_reducible refine (c3.out _).mono ?_);rintro e w' ⟨rfl,rfl⟩) | (go_at_call 46;(with_reducible refine (c1.out _).mono ?_);rintro e w' ⟨rfl,rfl⟩))
   go_ret
   exact ⟨ret_str hr.out.symm,bls⟩
end Go.Proofs.Ytmmnnhaecjpfdaa
namespace Go.Proofs.Ytmmnnhaecjpfdaa
open Go.RowKit
attribute [local go_sem] S_size S_toList S_lit S_get S_extract S_append drop_all
theorem tmIn_i (l:Str) (i:Int) (n:Nat) (hi:(n:Int)= i) (hn:n < 256) (w:World) (hs:Short l):Calls Try.prog 42 #[.string (S l),.int .u8 i] w fun e w'=>e = .returned (.bool (decide (UInt8.ofNat n∈l)))∧w = w':=by
 have h:=tmIn_c l (UInt8.ofNat n) w hs
 rw [show (UInt8.ofNat n).toNat = n from by simp;omega,hi] at h
 exact h
theorem beyond_ge {s:Str}:∀ {n c:Nat},128≤c→c + n < 256→128≤(beyond s n c).toNat
 | 0,c,h,h2=>by unfold beyond;simp;omega
 | n + 1,c,h,h2=>by
   unfold beyond
   split
   ·exact beyond_ge (by omega) (by omega)
   ·simp;omega
theorem freshW_wide (s:Str):wideB (freshW s)= true:=by
 unfold freshW
 split
 ·rename_i c h;exact small_wide (freshS_some h).1
 ·have:=beyond_ge (s:=s) (n:=63) (c:=128) (by omega) (by omega)
  unfold wideB;simp;omega
theorem freshW_beyond {s:Str} (h:freshS s = none):128≤(freshW s).toNat:=by
 unfold freshW;rw [h];exact beyond_ge (by omega) (by omega)
theorem freshW_some {s:Str} {c:UInt8} (h:freshS s = some c):freshW s = c:=by unfold freshW;rw [h]
theorem tmFresh_c (l:Str) (w:World) (hs:Short l):Calls Try.prog 48 #[.string (S l)] w fun e w'=>e = .returned (.int .u8 (freshW l).toNat)∧w = w':=by
 go_enter Try.func48,Try.ntmps48
 go_wp2_with fail
 go_loopg [3] 27 (fun k i wr=>∃ j:Nat,j≤26∧k = 27 - j∧i = .int .u8 (97 + j)∧Hid (freshS l = freshN l (26 - j) j)∧w = wr)
 case atStart=>exact ⟨0,by omega,by omega,rfl,rfl,rfl⟩
 case round =>
  obtain ⟨j,hj,hk,rfl,hn,rfl⟩:=hrel
  have HK:=hide hk
  clear hk
  by_cases hlt:j < 26
  ·have hlt':(97:Int)+ j≤122:=by omega
   have c1:=hide (tmIn_i l (97 + j) (97 + j) (by omega) (by omega) w hs)
   have hun:freshN l (26 - j) j = if let_ j∈l then freshN l (26 - (j + 1)) (j + 1) else some (let_ j):=by
    obtain ⟨m,hm⟩:∃ m,26 - j = m + 1:=⟨25 - j,by omega⟩
    rw [hm,freshN,show 26 - (j + 1)= m from by omega]
   by_cases hin:let_ j∈l
   ·rw [decide_eq_true (show UInt8.ofNat (97 + j)∈l from hin)] at c1
    have hn':Hid (freshS l = freshN l (26 - (j + 1)) (j + 1)):=by unfold Hid;rw [hn.out,hun,if_pos hin]
    clear hun hin hn hs
    go_wp2_with ((go_at_call 42;(with_reducible refine (c1.out).mono ?_);rintro e w' ⟨rfl,rfl⟩))
    go_roundg (27 - (j + 1))
    case measure=>have:=HK.out;omega
    case rel=>exact ⟨j + 1,by omega,rfl,by simp;omega,hn',rfl⟩
   ·rw [decide_eq_false (show UInt8.ofNat (97 + j)∉l from hin)] at c1
    have hr:Hid ((97:Int)+ j = (freshW l).toNat):=by
     unfold Hid;rw [hun,if_neg hin] at hn
     rw [freshW_some hn.out,let_toNat hlt];omega
    clear hun hin hn hs
    go_wp2_with ((go_at_call 42;(with_reducible refine (c1.out).mono ?_);rintro e w' ⟨rfl,rfl⟩))
    go_ret
    exact ⟨ret_int hr.out,rfl⟩
  ·have hlt':¬ (97:Int)+ j≤122:=by omega
   have hno:Hid (freshS l = none):=by
    unfold Hid;rw [hn.out,show 26 - j = 0 from by omega];rfl
   clear hn HK hlt
   go_wp2_with fail
   go_loopg [4] 64 (fun k i wr=>∃ c:Nat,128≤c∧c≤191∧k = 192 - c∧i = .int .u8 c∧Hid (freshW l = beyond l (191 - c) c)∧w = wr)
   case atStart=>exact ⟨128,by omega,by omega,by omega,rfl,by unfold Hid freshW;rw [hno.out],rfl⟩
   case round=>
    obtain ⟨c,hc1,hc2,hk,rfl,hn,rfl⟩:=hrel
    have HK:=hide hk
    clear hk
    by_cases hlt:c < 191
    ·have hlt':(c:Int) < 191:=by omega
     have c1:=hide (tmIn_i l c c rfl (by omega) w hs)
     have hun:beyond l (191 - c) c = if c < 191∧UInt8.ofNat c∈l then beyond l (191 - (c + 1)) (c + 1) else UInt8.ofNat c:=by
      obtain ⟨m,hm⟩:∃ m,191 - c = m + 1:=⟨190 - c,by omega⟩
      rw [hm,beyond,show 191 - (c + 1)= m from by omega]
     by_cases hin:UInt8.ofNat c∈l
     ·rw [decide_eq_true hin] at c1
      have hn':Hid (freshW l = beyond l (191 - (c + 1)) (c + 1)):=by unfold Hid;rw [hn.out,hun,if_pos ⟨hlt,hin⟩]
      clear hun hin hn hs hlt
      go_wp2_with ((go_at_call 42;(with_reducible refine (c1.out).mono ?_);rintro e w' ⟨rfl,rfl⟩))
      go_roundg (192 - (c + 1))
      case measure=>have:=HK.out;omega
      case rel=>exact ⟨c + 1,by omega,by omega,rfl,by simp;try omega,hn',rfl⟩
     ·rw [decide_eq_false hin] at c1
      have hr:Hid ((c:Int)= (freshW l).toNat):=by
       unfold Hid;rw [hn.out,hun,if_neg (by simp [hin])];simp;omega
      clear hun hin hn hs hlt
      go_wp2_with ((go_at_call 42;(with_reducible refine (c1.out).mono ?_);rintro e w' ⟨rfl,rfl⟩))
      go_ret
      exact ⟨ret_int hr.out,rfl⟩
    ·have hlt':¬ (c:Int) < 191:=by omega
     have hr:Hid ((c:Int)= (freshW l).toNat):=by
      unfold Hid;rw [hn.out,show 191 - c = 0 from by omega,beyond];simp;omega
     clear hn hs hlt
     go_wp2_with fail
     go_ret
     exact ⟨ret_int hr.out,rfl⟩
end Go.Proofs.Ytmmnnhaecjpfdaa
namespace Go.Proofs.Ytmmnnhaecjpfdaa
open Go.RowKit
inductive Ts where
 | nil
 | un (k:UInt8) (a b:Nat) (o:List Nat) (r n:Ts)
 | sum (p n:Ts)
 | part (o:List Nat) (l n:Ts)
 deriving DecidableEq
namespace Ts
def app:Ts→Ts→Ts
 | .nil,u=>u
 | .un k a b o r n,u=>.un k a b o r (n.app u)
 | .sum p n,u=>.sum p (n.app u)
 | .part o l n,u=>.part o l (n.app u)
def len:Ts→Nat
 | .nil=>0
 | .un _ _ _ _ _ n=>n.len + 1
 | .sum _ n=>n.len + 1
 | .part _ _ n=>n.len + 1
def isNil:Ts→Bool
 | .nil=>true
 | _=>false
end Ts
def names3 (k:UInt8):Bool:=k == 33 || k == 61 || k == 63
def Ts.has (x:Nat):Ts→Bool
 | .nil=>false
 | .un k a b _ r n=>(names3 k && (a == x || b == x)) || r.has x || n.has x
 | .sum p n=>p.has x || n.has x
 | .part _ l n=>l.has x || n.has x
def Ts.frM:Ts→Nat
 | .nil=>0
 | .un _ _ _ o r n=>max (max o.length r.frM) n.frM
 | .sum p n=>max p.frM n.frM
 | .part o l n=>max (max o.length l.frM) n.frM
def Ts.frA:Ts→Nat
 | .nil=>0
 | .un _ _ _ o r n=>o.length + r.frA + n.frA
 | .sum p n=>p.frA + n.frA
 | .part o l n=>o.length + l.frA + n.frA
def keep (t:Ts) (o:List Nat):List Nat:=o.filter fun x=>t.has x
def partsOf (o:List Nat) (t:Ts):Ts:=
 match t with
 | .nil=>.nil
 | .sum q .nil=>if o = [] then q else .part o (.sum q .nil) .nil
 | t=>.part o t .nil
def ofParts:Ts→List Nat × Ts
 | .nil=>([],.nil)
 | .part o l .nil=>(o,l)
 | s=>([],.sum s .nil)
def Ts.tid:Ts→List Nat × Ts
 | .nil=>([],.nil)
 | .un k a b o r n=>
   let o':=keep r.tid.2 (o ++ r.tid.1)
   if k = 61∧a = b then (o' ++ n.tid.1,r.tid.2.app n.tid.2)
   else if (k = 61∨k = 42)∧r.tid.2 = .nil then n.tid
   else (n.tid.1,.un k a b o' r.tid.2 n.tid.2)
 | .sum p n=>((ofParts p.tid.2).1 ++ n.tid.1,(ofParts p.tid.2).2.app n.tid.2)
 | .part o l n=>(n.tid.1,(partsOf (keep l.tid.2 (o ++ l.tid.1)) l.tid.2).app n.tid.2)
def tidO (o:List Nat) (t:Ts):List Nat:=keep t.tid.2 (o ++ t.tid.1)
abbrev leB:Str→Str→Bool:=fun x y=>decide (x≤y)
def joinS (k:UInt8):List Str→Str
 | []=>[48]
 | [x]=>x
 | x :: y :: l=>40 :: (x ++ k :: (joinS k (y :: l)++ [41]))
def listS (k:UInt8) (l:List Str):Str:=joinS k (l.mergeSort leB)
def leastS (l:List Str):Str:=l.foldl (fun best t=>if best = []∨t < best then t else best) []
universe u
variable {α:Type u}
def insE (x:α):List α→List (List α)
 | []=>[[x]]
 | y :: l=>(x :: y :: l):: (insE x l).map (y :: ·)
def perms:List α→List (List α)
 | []=>[[]]
 | x :: l=>(perms l).flatMap (insE x)
def updN (e:Nat→UInt8) (x:Nat) (c:UInt8):Nat→UInt8:=fun y=>if y = x then c else e y
def headS (F:Str→UInt8):Nat→Str→Str
 | 0,_=>[]
 | n + 1,tk=>35 :: F tk :: 46 :: headS F n (F tk :: tk)
def takeS (F:Str→UInt8):Nat→Str→Str
 | 0,tk=>tk
 | n + 1,tk=>takeS F n (F tk :: tk)
def bindS (F:Str→UInt8):List Nat→(Nat→UInt8)→Str→(Nat→UInt8)
 | [],e,_=>e
 | x :: o,e,tk=>bindS F o (updN e x (F tk)) (F tk :: tk)
def badS (F:Str→UInt8):Nat→Str→Bool
 | 0,_=>false
 | n + 1,tk=>(freshS tk).isNone || badS F n (F tk :: tk)
def levelS (F:Str→UInt8) (o:List Nat) (z:Bool) (f:(Nat→UInt8)→Str→List Str) (e:Nat→UInt8) (tk:Str):Str:=
 if z then [48] else leastS ((perms o).map fun s=>headS F s.length tk ++ listS 38 (f (bindS F s e tk) (takeS F s.length tk)))
def matchS (a b:UInt8):Str:=if b < a then [91,b,61,a,93] else [91,a,61,b,93]
def Ts.nm (F : Str → UInt8) : Ts → (Nat → UInt8) → Str → List Str
 | .nil,_,_=>[]
 | .un k a b o r n,e,tk=>
   (if k = 63 then e a :: 63 :: F tk :: 46 :: levelS F o r.isNil (r.nm F) (updN e b (F tk)) (F tk :: tk)
    else if k = 42 then 42 :: levelS F o r.isNil (r.nm F) e tk
    else if k = 126 then 126 :: 46 :: levelS F o r.isNil (r.nm F) e tk
    else if k = 61 then matchS (e a) (e b)++ levelS F o r.isNil (r.nm F) e tk
    else e a :: 33 :: e b :: 46 :: levelS F o r.isNil (r.nm F) e tk):: n.nm F e tk
 | .sum p n,e,tk=>listS 43 (p.nm F e tk):: n.nm F e tk
 | .part o l n,e,tk=>levelS F o l.isNil (l.nm F) e tk :: n.nm F e tk
def levelB (F:Str→UInt8) (o:List Nat) (z:Bool) (f:Str→Bool) (tk:Str):Bool:=!z && (badS F o.length tk || f (takeS F o.length tk))
def Ts.bd (F:Str→UInt8):Ts→Str→Bool
 | .nil,_=>false
 | .un k _ _ o r n,tk=>
   (if k = 63 then (freshS tk).isNone || levelB F o r.isNil (r.bd F) (F tk :: tk) else levelB F o r.isNil (r.bd F) tk) || n.bd F tk
 | .sum p n,tk=>p.bd F tk || n.bd F tk
 | .part o l n,tk=>levelB F o l.isNil (l.bd F) tk || n.bd F tk
def Ts.eqv:Ts→Ts→Prop
 | .nil,.nil=>True
 | .un k a b o r n,.un k' a' b' o' r' n'=>k = k'∧a = a'∧b = b'∧o.Perm o'∧r.eqv r'∧n.eqv n'
 | .sum p n,.sum p' n'=>p.eqv p'∧n.eqv n'
 | .part o l n,.part o' l' n'=>o.Perm o'∧l.eqv l'∧n.eqv n'
 | _,_=>False
inductive Nt where
 | zero
 | un (k:UInt8) (a b:Nat) (p:Nt)
 | bin (k:UInt8) (p q:Nt)
def nmE (E:UInt8→Nat) (a:UInt8):Nat:=if a = 0 then 0 else E a
def upd (E:UInt8→Nat) (b:UInt8) (v:Nat):UInt8→Nat:=fun c=>if c = b then v else E c
def Tm.cnt:Tm→Nat
 | .zero=>0
 | .un k _ _ p=>(if bindsB k then 1 else 0)+ p.cnt
 | .bin _ p q=>p.cnt + q.cnt
def num:Tm→(UInt8→Nat)→Nat→Nt
 | .zero,_,_=>.zero
 | .un k a b p,E,n=>
   if bindsB k then .un k (nmE E a) (n + 101) (num p (upd E b (n + 101)) (n + 1))
   else .un k (nmE E a) (nmE E b) (num p E n)
 | .bin k p q,E,n=>.bin k (num p E n) (num q E (n + p.cnt))
def rawN:Nt→List Nat × Ts
 | .zero=>([],.nil)
 | .un k a b p=>if k = 35 then (b :: (rawN p).1,(rawN p).2) else ([],.un k a b (rawN p).1 (rawN p).2 .nil)
 | .bin k p q=>if k = 38 then ((rawN p).1 ++ (rawN q).1,(rawN p).2.app (rawN q).2) else ([],.sum (.part (rawN p).1 (rawN p).2 (.part (rawN q).1 (rawN q).2 .nil)) .nil)
def lv:Nt→List Nat × Ts
 | .zero=>([],.nil)
 | .un k a b p=>
   if k = 35 then (keep (lv p).2 (b :: (lv p).1),(lv p).2)
   else if k = 61∧a = b then lv p
   else if (k = 61∨k = 42)∧(lv p).2 = .nil then ([],.nil)
   else ([],.un k a b (lv p).1 (lv p).2 .nil)
 | .bin k p q=>
   if k = 38 then ((lv p).1 ++ (lv q).1,(lv p).2.app (lv q).2)
   else ofParts ((partsOf (lv p).1 (lv p).2).app (partsOf (lv q).1 (lv q).2))
end Go.Proofs.Ytmmnnhaecjpfdaa
namespace Go.Proofs.Ytmmnnhaecjpfdaa
open Go.RowKit
def Ts.kp:Ts→Prop
 | .nil=>True
 | .un _ _ _ o r n=>keep r o = o∧r.kp∧n.kp
 | .sum p n=>p.kp∧n.kp
 | .part o l n=>keep l o = o∧l.kp∧n.kp
def Ts.ow:Ts→List Nat
 | .nil=>[]
 | .un _ _ _ o r n=>o ++ (r.ow ++ n.ow)
 | .sum p n=>p.ow ++ n.ow
 | .part o l n=>o ++ (l.ow ++ n.ow)
def Nt.bs:Nt→List Nat
 | .zero=>[]
 | .un k _ b p=>if k = 35 then b :: p.bs else p.bs
 | .bin _ p q=>p.bs ++ q.bs
def Nt.oc (x:Nat):Nt→Bool
 | .zero=>false
 | .un k a b p=>(names3 k && (a == x || b == x)) || p.oc x
 | .bin _ p q=>p.oc x || q.oc x
def Nt.ap:Nt→Prop
 | .zero=>True
 | .un _ _ _ p=>p.ap
 | .bin _ p q=>(∀ x∈p.bs,q.oc x = false)∧(∀ x∈q.bs,p.oc x = false)∧p.ap∧q.ap
end Go.Proofs.Ytmmnnhaecjpfdaa
namespace Go.Proofs.Ytmmnnhaecjpfdaa
open Go.RowKit
def Ts.ty:Ts→Bool→Prop
 | .nil,_=>True
 | .un k _ _ _ r n,b=>b = true∧(k = 63∨k = 33∨k = 61∨k = 42∨k = 126)∧r.ty true∧n.ty true
 | .sum p n,b=>b = true∧2≤p.len∧p.ty false∧n.ty true
 | .part _ l n,b=>b = false∧l.ty true∧n.ty false
def Nt.kd:Nt→Prop
 | .zero=>True
 | .un k _ _ p=>(k = 35∨k = 63∨k = 33∨k = 61∨k = 42∨k = 126)∧p.kd
 | .bin k p q=>(k = 43∨k = 38)∧p.kd∧q.kd
def scL (V:Nat→Prop) (o:List Nat) (f:(Nat→Prop)→Prop):Prop:=o.Nodup∧(∀ x∈o,¬ V x)∧f (fun x=>V x∨x∈o)
def Ts.sc:Ts→(Nat→Prop)→Prop
 | .nil,_=>True
 | .un k a b o r n,V=>(names3 k = true→V a)∧((k = 33∨k = 61)→V b)∧(k = 63→¬ V b)∧scL (fun x=>V x∨(k = 63∧x = b)) o r.sc∧n.sc V
 | .sum p n,V=>p.sc V∧n.sc V
 | .part o l n,V=>scL V o l.sc∧n.sc V
def Ts.bn:Ts→(Nat→Prop)→Prop
 | .nil,_=>True
 | .un k _ b o r n,R=>(k = 63→R b)∧(∀ x∈o,R x)∧r.bn R∧n.bn R
 | .sum p n,R=>p.bn R∧n.bn R
 | .part o l n,R=>(∀ x∈o,R x)∧l.bn R∧n.bn R
def IsF (F:Str→UInt8):Prop:=∀ s c,freshS s = some c→F s = c
def SameS (s t:Str):Prop:=∀ d,smallB d = true→(d∈s↔d∈t)
def IsW (F:Str→UInt8):Prop:=∀ s,freshS s = none→okB (F s)= false
def anyBad (l:List Str):Prop:=∃ x∈l,x.all okB = false
end Go.Proofs.Ytmmnnhaecjpfdaa
namespace Go.Proofs.Ytmmnnhaecjpfdaa
open Go.RowKit
def deadK (k:UInt8):Bool:=!(k == 33 || k == 63 || k == 126)
def deadT:Tm→Bool
 | .zero=>true
 | .un k _ _ p=>deadK k && deadT p
 | .bin _ p q=>deadT p && deadT q
def Nt.dead:Nt→Bool
 | .zero=>true
 | .un k _ _ p=>deadK k && p.dead
 | .bin _ p q=>p.dead && q.dead
def namesT (k a b:UInt8):Str:=if k = 33∨k = 61 then [a,b] else if k = 63 then [a] else []
def namesN (k:UInt8) (a b:Nat):List Nat:=if k = 33∨k = 61 then [a,b] else if k = 63 then [a] else []
def usedS:Tm→Str
 | .zero=>[]
 | .un k a b p=>if deadT (.un k a b p) then [] else if k = 61∧a = b then usedS p else both (if bindsB k then less b (both [] (usedS p)) else both [] (usedS p)) (namesT k a b)
 | .bin k p q=>if deadT (.bin k p q) then [] else both (both [] (usedS p)) (usedS q)
def Nt.used:Nt→List Nat
 | .zero=>[]
 | .un k a b p=>if (Nt.un k a b p).dead then [] else if k = 61∧a = b then p.used else (if bindsB k then p.used.filter (fun x=>x != b) else p.used)++ namesN k a b
 | .bin k p q=>if (Nt.bin k p q).dead then [] else p.used ++ q.used
def sw (c x y:UInt8):UInt8:=if c = x then y else c
def capB (b x y:UInt8) (p:Tm):Bool:=decide (b = y) && decide (x∈fvS p)
def capC (x y:UInt8) (p:Tm):UInt8:=freshW (both (fvS p) [x,y])
def renF:Nat→Tm→UInt8→UInt8→Tm
 | 0,t,_,_=>t
 | d + 1, t, x, y => if x = y ∨ x ∉ fvS t then t else match t with
   | .zero=>.zero
   | .un k a b p=>
     if bindsB k then
      let b':=if capB b x y p then capC x y p else b
      let p':=if capB b x y p then renF d p b (capC x y p) else p
      .un k (if k = 63 then sw a x y else a) b' (if b' = x then p' else renF d p' x y)
     else if k = 33∨k = 61 then .un k (sw a x y) (sw b x y) (renF d p x y)
     else .un k a b (renF d p x y)
   | .bin k p q=>.bin k (renF d p x y) (renF d q x y)
theorem ren_size:∀ (d:Nat) (t:Tm) (x y:UInt8),(renF d t x y).size = t.size
 | 0,_,_,_=>rfl
 | d + 1, t, x, y => by
   unfold renF
   split
   ·rfl
   ·split
    ·rfl
    ·split
     ·simp only [Tm.size];repeat' split
      all_goals simp only [ren_size d]
     ·split <;> simp only [Tm.size,ren_size d]
    ·simp only [Tm.size,ren_size d]
theorem ren_ok : ∀ (d : Nat) (t : Tm) (x y : UInt8), wideB y = true → t.ok wideB = true → (renF d t x y).ok wideB = true
 | 0,_,_,_,_,h=>h
 | d + 1, t, x, y, hy, h => by
   have hs:∀ c,wideB c = true→wideB (sw c x y)= true:=fun c hc=>by unfold sw;split <;> assumption
   unfold renF
   split
   ·exact h
   ·split
    ·rfl
    ·rename_i k a b p hnc
     simp only [Tm.ok,Bool.and_eq_true] at h
     obtain ⟨h1,h2⟩:=h
     have hcw:wideB (capC x y p)= true:=freshW_wide _
     split
     ·have hp':(if capB b x y p = true then renF d p b (capC x y p) else p).ok wideB = true:=by split;exact ren_ok d _ _ _ hcw h2;exact h2
      have hb:bindsB k = true:=by assumption
      simp only [Tm.ok,Bool.and_eq_true]
      refine ⟨?_,?_⟩
      ·rcases okhd_cases h1 with ⟨rfl,ha,hb⟩ | ⟨rfl,ha,hb⟩ | ⟨rfl,ha,hb⟩ | ⟨rfl,ha,hb⟩ | ⟨rfl,ha,hb⟩ | ⟨rfl,ha,hb⟩
       ·cases ‹bindsB 33 = true›
       ·have:wideB (if capB b x y p = true then capC x y p else b)= true:=by split <;> assumption
        simp [okhd,hs a ha,this]
       ·cases ‹bindsB 61 = true›
       ·have:wideB (if capB b x y p = true then capC x y p else b)= true:=by split <;> assumption
        simp [okhd,ha,this]
       ·cases ‹bindsB 42 = true›
       ·cases ‹bindsB 126 = true›
      ·by_cases hbx:(if capB b x y p = true then capC x y p else b)= x
       ·rw [if_pos hbx];exact hp'
       ·rw [if_neg hbx];exact ren_ok d _ _ _ hy hp'
     ·split
      ·rename_i hk
       simp only [Tm.ok,Bool.and_eq_true]
       refine ⟨?_,ren_ok d _ _ _ hy h2⟩
       rcases okhd_cases h1 with ⟨rfl,ha,hb⟩ | ⟨rfl,ha,hb⟩ | ⟨rfl,ha,hb⟩ | ⟨rfl,ha,hb⟩ | ⟨rfl,ha,hb⟩ | ⟨rfl,ha,hb⟩
       all_goals first | (simp at hk;done) | simp [okhd,hs a ha,hs b hb]
      ·simp only [Tm.ok,Bool.and_eq_true]
       exact ⟨h1,ren_ok d _ _ _ hy h2⟩
    ·simp only [Tm.ok,Bool.and_eq_true] at h ⊢
     exact ⟨h.1,ren_ok d _ _ _ hy h.2.1,ren_ok d _ _ _ hy h.2.2⟩
theorem ren_id {d:Nat} {t:Tm} {x y:UInt8} (h:x = y∨x∉fvS t):renF d t x y = t:=by
 cases d with
 | zero=>rfl
 | succ d=>unfold renF;exact if_pos h
def narrow:Tm→Prop
 | .zero=>True
 | .un k a b p=>(fvS p).length≤26∧narrow p
 | .bin _ p q=>(fvS p).length≤26∧(fvS q).length≤26∧narrow p∧narrow q
def Rep:Tm→(UInt8→Nat)→Nt→Prop
 | .zero,_,s=>s.dead = true
 | .un k a b p,ρ,s=>(deadT (.un k a b p)= true∧s.dead = true)∨∃ a' b' s',s = .un k a' b' s'∧
   ((k = 63∧a' = ρ a∨k = 35)∧(∀ z∈usedS p,z≠b→ρ z≠b')∧Rep p (upd ρ b b') s'
   ∨(k = 33∧a' = ρ a∧b' = ρ b∨k = 61∧(a = b∧a' = b'∨a≠b∧a' = ρ a∧b' = ρ b∧a'≠b')∨k = 42∨k = 126)∧Rep p ρ s')
 | .bin k p q,ρ,s=>(deadT (.bin k p q)= true∧s.dead = true)∨∃ s' r',s = .bin k s' r'∧Rep p ρ s'∧Rep q ρ r'
end Go.Proofs.Ytmmnnhaecjpfdaa
namespace Go.Proofs.Ytmmnnhaecjpfdaa
open Go.RowKit
def cat:List Ts→Ts
 | []=>.nil
 | t :: l=>t.app (cat l)
def maxL:List Nat→Nat
 | []=>0
 | x :: l=>max x (maxL l)
def Ts.ne:Ts→Prop
 | .nil=>True
 | .un _ _ _ _ r n=>r.ne∧n.ne
 | .sum p n=>p.ne∧n.ne
 | .part _ l n=>l≠.nil∧l.ne∧n.ne
def Nt.bb:Nt→List Nat
 | .zero=>[]
 | .un k _ b p=>if bindsB k then b :: p.bb else p.bb
 | .bin _ p q=>p.bb ++ q.bb
def Nt.ds:Nt→Prop
 | .zero=>True
 | .un k _ b p=>(bindsB k = true→b∉p.bb)∧p.ds
 | .bin _ p q=>(∀ x∈p.bb,x∉q.bb)∧(∀ x∈p.bb,x∉q.used)∧(∀ x∈q.bb,x∉p.used)∧p.ds∧q.ds
def gN:Nt→List Nat × List Nt
 | .zero=>([],[])
 | .un k a b p=>
   if k = 35 then (if b∈p.used then b :: (gN p).1 else (gN p).1,(gN p).2)
   else if k = 61∧a = b then gN p
   else if (k = 61∨k = 42)∧p.dead = true then ([],[])
   else ([],[.un k a b p])
 | .bin k p q=>
   if k = 38 then ((gN p).1 ++ (gN q).1,(gN p).2 ++ (gN q).2)
   else if p.dead then gN q else if q.dead then gN p else ([],[.bin k p q])
def smN:Nt→List Nt
 | .zero=>[]
 | .un k a b p=>
   if k = 35 then (if b∈p.used then [.un k a b p] else smN p)
   else if k = 61∧a = b then smN p
   else if (Nt.un k a b p).dead then [] else [.un k a b p]
 | .bin k p q=>if p.dead then smN q else if q.dead then smN p else if k = 43 then smN p ++ smN q else [.bin k p q]
def partL (t:Nt):Ts:=.part (lv t).1 (lv t).2 .nil
end Go.Proofs.Ytmmnnhaecjpfdaa
namespace Go.Proofs.Ytmmnnhaecjpfdaa
open Go.RowKit
def peel:Tm→Tm
 | .zero=>.zero
 | .un k a b p=>if k = 61∧a = b then peel p else if k = 35∧b∉usedS p then peel p else .un k a b p
 | .bin k p q=>if deadT p then peel q else if deadT q then peel p else .bin k p q
def gl (i:Nat):UInt8:=UInt8.ofNat (if i < 26 then 65 + i else 166 + i)
def greatN (s:Str):Nat→Nat→UInt8
 | 0,i=>gl i
 | n + 1,i=>if gl i∈s then greatN s n (i + 1) else gl i
def greatL (s:Str):UInt8:=greatN s 89 0
def isGreat (c:UInt8):Bool:=(decide (65≤c.toNat) && decide (c.toNat≤90)) || decide (192≤c.toNat)
def gath:Nat→Tm→Str→Str × List Tm
 | 0,_,fr=>(fr,[])
 | d + 1,t,fr=>if deadT (peel t) then (fr,[]) else match peel t with
   | .zero=>(fr,[])
   | .un k a b p=>if k = 35 then gath d (renF p.size p b (greatL (fr ++ fvS (.un k a b p)))) (fr ++ [greatL (fr ++ fvS (.un k a b p))]) else (fr,[.un k a b p])
   | .bin k p q=>if k = 38 then ((gath d q (gath d p fr).1).1,(gath d p fr).2 ++ (gath d q (gath d p fr).1).2) else (fr,[.bin k p q])
def smF:Nat→Tm→List Tm
 | 0,_=>[]
 | d + 1,t=>match peel t with
   | .zero=>[]
   | .un k a b p=>if deadT (.un k a b p) then [] else [.un k a b p]
   | .bin k p q=>if k = 43 then smF d p ++ smF d q else if deadT (.bin k p q) then [] else [.bin k p q]
def nbg:Tm→Prop
 | .zero=>True
 | .un k _ b p=>(bindsB k = true→isGreat b = false)∧nbg p
 | .bin _ p q=>nbg p∧nbg q
structure Fit (fr:Str) (t:Tm):Prop where
 ok:t.ok wideB = true
 narrow:narrow t
 nbg:nbg t
 free:∀ z,Free z t→isGreat z = true→z∈fr
def szs (l:List Tm):Nat:=(l.map Tm.size).sum
end Go.Proofs.Ytmmnnhaecjpfdaa
namespace Go.Proofs.Ytmmnnhaecjpfdaa
open Go.RowKit
attribute [local go_sem] S_size S_toList S_lit S_get S_extract S_append drop_all
theorem tmSwap_c (c x y:UInt8) (w:World):Calls Try.prog 75 #[.int .u8 c.toNat,.int .u8 x.toNat,.int .u8 y.toNat] w fun e w'=>e = .returned (.int .u8 (sw c x y).toNat)∧w = w':=by
 by_cases h:c = x
 ·subst h
  have hr:Hid (sw c c y = y):=by simp [sw,Hid]
  go_enter Try.func75,Try.ntmps75
  go_wp2_with fail
  go_ret
  exact ⟨ret_int (by rw [hr.out]),rfl⟩
 ·have h1:=ne_int h
  have hr:Hid (sw c x y = c):=by simp [sw,Hid,h]
  clear h
  go_enter Try.func75,Try.ntmps75
  go_wp2_with fail
  go_ret
  exact ⟨ret_int (by rw [hr.out]),rfl⟩
theorem tmWith_c (l:Str) (k:UInt8) (p q:Tm) (x y:Str) (g c:Nat) (w:World) (B:BinL l k p q) (hk:k = 43∨k = 38) (hx:x.length + y.length≤1000000)
  (h0:w.cell? ⟨g,0,none⟩= some (.string (S x))) (h1:w.cell? ⟨g,1,none⟩= some (.string (S y))):
  Calls Try.prog 76 #[.string (S l),.slice (some ⟨g,0,none⟩) 2 c] w fun e w'=>e = .returned (.string (S (40 :: (x ++ k :: (y ++ [41])))))∧Bl w w':=by
 obtain ⟨c1,-,-,-,-⟩:=B
 have n1:(x.length:Int)+ y.length≤1000000:=by omega
 clear hx
 rcases hk with rfl | rfl
 all_goals
  go_enter Try.func76,Try.ntmps76
  go_wp2_with ((go_at_call 46;(with_reducible refine (c1.out _).mono ?_);rintro e w' ⟨rfl,rfl⟩))
  go_region
  all_goals
   go_wp2_with fail
   go_ret
   exact ⟨ret_str (by simp),bls⟩
end Go.Proofs.Ytmmnnhaecjpfdaa
