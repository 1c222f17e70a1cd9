/- Lemmas for the laws of this seat (my texts, put together), part 11. -/
import Derived.Test.YtmmnnhaecjpfdaaW10
set_option maxRecDepth 100000
set_option maxHeartbeats 8000000
set_option linter.unusedVariables false
set_option linter.unusedSimpArgs false
namespace Go.Proofs.Ytmmnnhaecjpfdaa
open Go.RowKit
theorem sz_u8:(Try.prog.info? 5).map (·.size)= some 1:=by kernel_rfl
theorem swap_c (c x y:UInt8) (w:World):Calls Try.prog 117 #[.int .u8 c.toNat,.int .u8 x.toNat,.int .u8 y.toNat] w fun e w'=>e = .returned (.int .u8 (sw c x y).toNat)∧w = w':=by
 by_cases h:c = x
 ·subst h
  go_enter Try.func117,Try.ntmps117
  go_wp2_with fail
  go_ret
  exact ⟨by simp [sw],rfl⟩
 ·have e1:=ne_int h
  go_enter Try.func117,Try.ntmps117
  go_wp2_with fail
  go_ret
  exact ⟨by simp [sw,h],rfl⟩
def RenR (P:Nat→Prop) (w:World) (o:Option Tm) (e:Ending) (w':World):Prop:=Bl w w'∧match o with
 | some t=>∃ b,e = .returned (.tuple #[encP b,.bool true])∧Lies (fun k=>P k∨w.heap.size≤k) w' t b
 | none=>e = .returned (.tuple #[.pointer none,.bool false])
theorem rename_same {P:Nat→Prop} (t:Tm) (b:Nat) (x y:UInt8) (w:World) (hL:Lies P w t b) (ht:t.ok smallB = true) (hx:smallB x = true) (h:x = y∨x∉fvS t):
  Calls Try.prog 113 #[encP b,.int .u8 x.toNat,.int .u8 y.toNat] w (RenR P w (some t)):=by
 by_cases hxy:x = y
 ·subst hxy
  go_enter Try.func113,Try.ntmps113
  go_wp2_with fail
  go_ret2
  exact ⟨Bl.refl _,b,rfl,hL.mono fun _=>.inl⟩
 ·have hn:=h.resolve_left hxy
  have e1:=ne_int hxy
  have t1:=and_none hx hn
  have cf:=hide (free_c t P b w hL ht)
  have cb:=hide fun w=>bit_c x w hx
  have HL:=hide hL
  generalize msk (fvS t)= mt at *
  generalize bitOf x = qx at *
  clear h hn hxy ht hL
  go_enter Try.func113,Try.ntmps113
  go_wp2_with (first | (go_at_call 99;(with_reducible refine (cf.out).mono ?_);rintro e w' ⟨rfl,b1⟩) | (go_at_call 110;(with_reducible refine (cb.out _).mono ?_);rintro e w' ⟨rfl,rfl⟩))
  go_ret2
  exact ⟨b1,b,rfl,(HL.out.bl b1).mono fun _=>.inl⟩
structure CutU (P:Nat→Prop) (w:World) (d:Nat) (x y k:UInt8) (t:Tm) (O:Nat) (a' b':UInt8) (g1 c1 pb1:Nat) (p1:Tm) (wc:World):Prop where
 bl:Bl w wc
 hO:wc.heap[O]? = some (.cells #[.int .u8 k.toNat,.int .u8 a'.toNat,.int .u8 b'.toNat,.slice none 0 0] 71 (0,0))
 ge:w.heap.size≤O
 kid:wc.cell? ⟨g1,0,none⟩= some (encP pb1)
 lies:Lies (fun k=>(P k∧k < w.heap.size∨w.heap.size≤k)∧k≠O) wc p1 pb1
 ok:p1.ok smallB = true
 sz:p1.size≤d
 eq:renI (d + 1) t x y = (renI d p1 x y).map (.un k a' b' ·)
theorem lies_old {P:Nat→Prop} {w w':World} {t:Tm} {b O:Nat} (h:Lies P w t b) (hb:Bl w w') (hO:w.heap.size≤O):Lies (fun k=>(P k∧k < w.heap.size∨w.heap.size≤k)∧k≠O) w' t b:=
 (h.lt.bl hb).mono fun k hk=>⟨.inl hk,by have:=hk.2;omega⟩
theorem RL.bx2 {w w':World} {base O:Nat} {v:Value} {xs:List Nat} {T:TypeId} {enc:Nat→Value} (h:RL T enc w base v xs) (hb:Bx O w w') (hO:O < base):RL T enc w' base v xs:=
 h.heap fun k hk hl=>hb.block k hl (by have:=(h.lt k hk).1;omega)
theorem lies_un {Q R:Nat→Prop} {w:World} {base O c pb:Nat} {A:Option Addr} {k a b:UInt8} {p:Tm} (hr:RL 66 encP w base (.slice A 1 c) [pb]) (hO:w.heap[O]? = some (.cells #[.int .u8 k.toNat,.int .u8 a.toNat,.int .u8 b.toNat,.slice A 1 c] 71 (0,0))) (hQO:Q O) (hQ:∀ k,base≤k→Q k)
  (hp:Lies R w p pb) (hRQ:∀ k,R k→Q k):Lies Q w (.un k a b p) O:=by
 rcases hr.form with ⟨-,e⟩ | ⟨g,c',cur,e,hg,⟨hg2,-⟩,hblk,-,hc⟩
 ·cases e
 ·cases e
  exact ⟨hQO,g,c,cur.size,pb,hQ g hg,⟨blk_shape hO,blk_cell (i:=0) hO rfl,blk_cell (i:=1) hO rfl,blk_cell (i:=2) hO rfl,blk_cell (i:=3) hO rfl⟩,⟨blk_shape hblk,hc 0 pb rfl⟩,hp.mono hRQ⟩
theorem sz_stm:(Try.prog.info? 69).map (·.size)= some 1:=by kernel_rfl
theorem Kid.bxn {O:Nat} {w w':World} (hb:Bx O w w') {g n i p:Nat} (hg:g≠O) (h:Kid w g n i p):Kid w' g n i p:=⟨hb.shape hg h.sh,hb.cell hg h.c⟩
theorem renI_some {d:Nat} {t t':Tm} {x y:UInt8} (hx:smallB x = true) (hy:smallB y = true) (ht:t.ok smallB = true) (hd:t.size≤d) (h:renI d t x y = some t'):t'.ok smallB = true∧t'.size = t.size:=by
 rw [renI_eq d t x y hx hy ht hd] at h
 unfold optS at h
 split at h
 ·rename_i hk
  cases h
  exact ⟨hk,ren_size _ _ _ _⟩
 ·cases h
theorem lies_bin {Q R:Nat→Prop} {w:World} {base O c pb qb:Nat} {A:Option Addr} {k:UInt8} {p q:Tm} (hr:RL 66 encP w base (.slice A 2 c) [pb,qb]) (hO:w.heap[O]? = some (.cells #[.int .u8 k.toNat,.int .u8 (UInt8.toNat 0),.int .u8 (UInt8.toNat 0),.slice A 2 c] 71 (0,0))) (hQO:Q O) (hQ:∀ k,base≤k→Q k)
  (hp:Lies R w p pb) (hq:Lies R w q qb) (hRQ:∀ k,R k→Q k):Lies Q w (.bin k p q) O:=by
 rcases hr.form with ⟨-,e⟩ | ⟨g,c',cur,e,hg,⟨hg2,-⟩,hblk,-,hc⟩
 ·cases e
 ·cases e
  exact ⟨hQO,g,c,cur.size,pb,qb,hQ g hg,⟨blk_shape hO,blk_cell (i:=0) hO rfl,blk_cell (i:=1) hO rfl,blk_cell (i:=2) hO rfl,blk_cell (i:=3) hO rfl⟩,⟨blk_shape hblk,hc 0 pb rfl⟩,⟨blk_shape hblk,hc 1 qb rfl⟩,hp.mono hRQ,hq.mono hRQ⟩
theorem RL.cons {T:TypeId} {enc:Nat→Value} {w:World} {base:Nat} {v:Value} {x:Nat} {xs:List Nat} (h:RL T enc w base v (x :: xs)):∃ g c,v = .slice (some ⟨g,0,none⟩) (x :: xs).length c:=by
 rcases h.form with ⟨-,e⟩ | ⟨g,c,cur,e,-⟩
 ·cases e
 ·exact ⟨g,c,e⟩
abbrev RenIH (d:Nat):Prop:=∀ (P:Nat→Prop) (t:Tm) (b:Nat) (x y:UInt8) (w:World),Lies P w t b→t.ok smallB = true→smallB x = true→smallB y = true→t.size≤d→Calls Try.prog 113 #[encP b,.int .u8 x.toNat,.int .u8 y.toNat] w (RenR P w (renI d t x y))
end Go.Proofs.Ytmmnnhaecjpfdaa
