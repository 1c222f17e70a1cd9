/- Lemmas for the laws of this seat (my texts, put together), part 9. -/
import Derived.Test.YtmmnnhaecjpfdaaW8
set_option maxRecDepth 100000
set_option maxHeartbeats 8000000
set_option linter.unusedVariables false
set_option linter.unusedSimpArgs false
namespace Go.Proofs.Ytmmnnhaecjpfdaa
open Go.RowKit
attribute [local go_sem] mkfn
def SimR (w:World) (l:Str) (e:Ending) (w':World):Prop:=
 Bl w w'∧match proc? l with
  | some t=>∃ b,e = .returned (.tuple #[encP b,.bool (smpB t)])∧Lies (fun k=>w.heap.size≤k) w' t b
  | none=>∃ p,e = .returned (.tuple #[.pointer p,.bool false])
theorem simpleTerm_c (l:Str) (w:World) (hs:Short l):Calls Try.prog 55 #[.string (S l)] w (SimR w l):=by
 have cr:=hide (read_c l w hs)
 unfold ReadR at cr
 unfold SimR
 cases hp:proc? l with
 | none=>
   rw [hp] at cr
   go_enter Try.func55,Try.ntmps55
   go_wp2_with ((go_at_call 78;(with_reducible refine cr.out.mono ?_);rintro e w1 ⟨b1,p,rfl⟩))
   go_ret2
   exact ⟨b1,_,rfl⟩
 | some t=>
   rw [hp] at cr
   have hk:=(proc?_some.1 hp).2.1
   have cs:=hide fun (b:Nat) (w2:World) (h:Lies (fun k=>w.heap.size≤k) w2 t b)=>simple_c t b w2 h hk
   clear hk
   go_enter Try.func55,Try.ntmps55
   go_wp2_with (first | (go_at_call 78;(with_reducible refine cr.out.mono ?_);rintro e w1 ⟨b1,b,rfl,hL⟩) | (go_at_call 79;(with_reducible refine (cs.out b _ hL).mono ?_);rintro e w2 ⟨rfl,b2⟩))
   go_ret2
   exact ⟨b1.trans b2,b,rfl,hL.bl b2⟩
def meetB (t u:Tm):Bool:=(offT t).any fun x=>(offT u).any fun y=>fitB x.k x.a y.k y.a
theorem any_map {α β:Type} (f:α→β) (g:β→Bool) (l:List α):(l.map f).any g = l.any (fun x=>g (f x)):=List.any_map
theorem any_wy {P:Nat→Prop} {w:World} (f:UInt8→UInt8→Bool) {xs:List OfT} {ys:List Wy} (h:WyL P w xs ys):(ys.any fun z=>f z.k z.a)= xs.any fun z=>f z.k z.a:=by
 induction h with
 | nil=>rfl
 | cons h _ ih=>simp only [List.any_cons,ih,h.k,h.a]
theorem canMeet1_c {P:Nat→Prop} (u:Tm) (b V:Nat) (y:Wy) (w0 w:World) (hL:Lies P w0 u b) (hk:u.ok smallB = true) (hz:u.size≤10000) (hb:Bl w0 w) (hV:w.cell? ⟨V,0,none⟩= some (encP b)):
  Calls Try.prog 82 #[y.val,.pointer (some ⟨V,0,none⟩)] w fun e w'=>e = .returned (.bool ((offT u).any fun x=>fitB y.k y.a x.k x.a))∧Bl w w':=by
 have cw:=hide fun w2 (h2:Bl w w2)=>ways_c u P b w0 w2 hL hk hz (hb.trans h2)
 have ho:(offT u).length≤100000:=by have:=offT_len u;omega
 have HO:=hide ho
 have ca:=hide fun (v:Value) (ys:List Wy) (w2:World) (h:WysL w2 w2.heap.size v ys)=>any_fit y v ys (ys.map fun z=>fitB y.k y.a z.k z.a) w2
 clear hL hk hz hb ho ca
 go_enter Try.func82,Try.ntmps82
 go_wp2_with ((refine box_op rfl 75 (.tmp 0) rfl (encY y).toArray _ rfl (by rfl) ?_;intro G W1 hG b1 s1;replace hV:=cell_kept b1 hV))
 have hG0:=hide hG
 have HB1:=hide b1
 clear hG b1 s1
 refine AnyT.start 6 (fun w2=>w2.cell? ⟨V,0,none⟩= some (encP b)∧w2.heap[G]? = some (.cells (encY y).toArray 75 (0,0))) (fun j=>[].contains j) (by kernel_rfl) (by rfl) ?_
 have hHeld:(fun w2:World=>w2.cell? ⟨V,0,none⟩= some (encP b)∧w2.heap[G]? = some (.cells (encY y).toArray 75 (0,0))) W1.drew:=⟨hV,hG0.out⟩
 refine AnyT.ld 0 ?_
 try simp only [Act.put,sqa,sqb,sqc]
 refine AnyT.load (i:=2) rfl (by kernel_rfl) (by kernel_rfl) (by kernel_rfl) (by kernel_rfl) (fun _ _ _ h=>h) (yieldsIf_blk (by rfl) 75 (.tmp 2) rfl G 75 (encY y).toArray _ rfl (fun w h=>h.2) Try.underlying75 rfl sz_way) (by assumption) ?_
 try simp only [Act.put,sqa,sqb,sqc]
 refine AnyT.tk 3 ?_
 try simp only [Act.put,sqa,sqb,sqc]
 have bw1:=HB1.out.trans (bl_drew (Bl.refl W1))
 refine AnyT.one (i:=1) rfl (by kernel_rfl) (fun K hK=>?_)
 go_simp
 go_at_call 57
 (with_reducible refine (cw.out _ bw1).mono ?_)
 rintro e W2 ⟨v,ys,rfl,r2,g2,b2⟩
 obtain ⟨A,c,rfl⟩:=r2.slice;replace r2:=hide r2;replace g2:=hide g2
 go_wp2_with fail
 refine hK.out _ _ ?_ ?_
 ·exact ⟨cell_kept b2 hHeld.1,blk_bl b2 hHeld.2⟩
 intro hHeld
 clear hK K
 try simp only [Act.put,sqa,sqb,sqc]
 have hyl:Hid (ys.length≤100000):=by have e1:=g2.out.len;have:=HO.out;unfold Hid;omega
 refine AnyT.one (i:=4) rfl (by kernel_rfl) (fun K hK=>?_)
 go_simp
 go_at_call 56
 (with_reducible refine (any_fit y (.slice A ys.length c) ys (ys.map fun z=>fitB y.k y.a z.k z.a) W2 (r2.out.mono (Nat.zero_le _)) (by simp) hyl.out (hide (fun j z bb w3 h1 h2 h3=>by rw [List.getElem?_map,h1,Option.map_some] at h2;rw [← Option.some.inj h2];exact fits_c y z w3))).mono ?_)
 rintro e W3 ⟨rfl,b3⟩
 go_wp2_with fail
 refine hK.out _ _ ?_ ?_
 ·exact ⟨cell_kept b3 hHeld.1,blk_bl b3 hHeld.2⟩
 intro hHeld
 clear hK K
 try simp only [Act.put,sqa,sqb,sqc]
 refine AnyT.tk 5 ?_
 try simp only [Act.put,sqa,sqb,sqc]
 refine AnyT.done (by kernel_rfl) ?_
 go_wp2_with fail
 go_ret
 exact ⟨ret_bool (any_wy (fun k a=>fitB y.k y.a k a) g2.out),(bw1.trans b2).trans b3⟩
theorem canMeet_c {P Q:Nat→Prop} (t u:Tm) (b b2:Nat) (w0 w:World) (hL:Lies P w0 t b) (hM:Lies Q w0 u b2) (hk:t.ok smallB = true) (hk2:u.ok smallB = true) (hz:t.size≤10000) (hz2:u.size≤10000) (hb:Bl w0 w):
  Calls Try.prog 61 #[encP b,encP b2] w fun e w'=>e = .returned (.bool (meetB t u))∧Bl w w':=by
 have cw:=hide fun w2 (h2:Bl w w2)=>ways_c t P b w0 w2 hL hk hz (hb.trans h2)
 have cm:=hide fun (V:Nat) (y:Wy) (w2:World) (h2:Bl w w2) (hV:w2.cell? ⟨V,0,none⟩= some (encP b2))=>canMeet1_c u b2 V y w0 w2 hM hk2 hz2 (hb.trans h2) hV
 have ho:(offT t).length≤100000:=by have:=offT_len t;omega
 have HO:=hide ho
 clear hL hM hk hk2 hz hz2 hb ho
 go_enter Try.func61,Try.ntmps61
 go_wp2_with (first | (refine box_op rfl 66 (.tmp 1) rfl #[encP b2] _ rfl (by rfl) ?_;intro G W1 hG b1 s1;have hG0:=blk_cell (i:=0) hG rfl;have HB1:=hide b1;clear hG b1 s1) | (go_at_call 57;(with_reducible refine (cw.out _ HB1.out).mono ?_);rintro e W2 ⟨v,ys,rfl,r2,g2,b2⟩;replace hG0:=cell_kept b2 hG0;obtain ⟨A,c,rfl⟩:=r2.slice;replace r2:=hide r2;replace g2:=hide g2;have HG0:=hide hG0;have HB2:=hide (HB1.out.trans b2);have hyl:Hid (ys.length≤100000):=(by have e1:=g2.out.len;have:=HO.out;unfold Hid;omega);have hca:=hide (any_meet (.pointer (some ⟨G,0,none⟩)) (.slice A ys.length c) ys (ys.map fun z=>(offT u).any fun x=>fitB z.k z.a x.k x.a) W2 (r2.out.mono (Nat.zero_le _)) (by simp) hyl.out (hide (fun j z bb w3 h1 h2 h3=>by rw [List.getElem?_map,h1,Option.map_some] at h2;rw [← Option.some.inj h2];exact cm.out G z w3 (HB2.out.trans h3) (cell_kept h3 HG0.out))));clear b2 hG0) | (go_at_call 56;(with_reducible refine hca.out.mono ?_);rintro e W3 ⟨rfl,b3⟩))
 go_ret
 exact ⟨ret_bool (any_wy (fun k a=>(offT u).any fun x=>fitB k a x.k x.a) g2.out),HB2.out.trans b3⟩
end Go.Proofs.Ytmmnnhaecjpfdaa
