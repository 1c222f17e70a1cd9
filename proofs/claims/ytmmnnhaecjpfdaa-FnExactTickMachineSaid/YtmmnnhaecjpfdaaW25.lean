/- Lemmas for the laws of this seat (my texts, put together), part 25. -/
import Derived.Test.YtmmnnhaecjpfdaaW24
set_option maxRecDepth 100000
set_option maxHeartbeats 8000000
set_option linter.unusedVariables false
set_option linter.unusedSimpArgs false
namespace Go.Proofs.Ytmmnnhaecjpfdaa
open Go.RowKit
theorem res_c1 {fn:Func} {p:Tmp} (h:fn.results = #[.cell p 33]) (tmps:Array Value) (w:World) (g:Nat) (x y z:Value)
  (hp:tmps.getD p undef = .pointer (some ⟨g,0,none⟩)) (hg:w.heap[g]? = some (.cells #[x,y,z] 33 (0,0))):
  (results fn tmps).run Try.prog w = .ok (.agg #[x,y,z]) w:=by
 have hp':tmps[p]?.getD undef = .pointer (some ⟨g,0,none⟩):=by simpa using hp
 simp [results,h,hp',asAddr,run_loadVar_row w g _ _ _ _ _ hg Try.underlying33 rfl sz_mach]
theorem res_c2 {fn:Func} {p q:Tmp} (h:fn.results = #[.cell p 33,.tmp q]) (tmps:Array Value) (w:World) (g:Nat) (x y z:Value)
  (hp:tmps.getD p undef = .pointer (some ⟨g,0,none⟩)) (hg:w.heap[g]? = some (.cells #[x,y,z] 33 (0,0))):
  (results fn tmps).run Try.prog w = .ok (.tuple #[.agg #[x,y,z],tmps.getD q undef]) w:=by
 have hp':tmps[p]?.getD undef = .pointer (some ⟨g,0,none⟩):=by simpa using hp
 simp [results,h,hp',asAddr,run_loadVar_row w g _ _ _ _ _ hg Try.underlying33 rfl sz_mach]
theorem res_c3 {fn:Func} {p q r:Tmp} (h:fn.results = #[.cell p 33,.tmp q,.tmp r]) (tmps:Array Value) (w:World) (g:Nat) (x y z:Value)
  (hp:tmps.getD p undef = .pointer (some ⟨g,0,none⟩)) (hg:w.heap[g]? = some (.cells #[x,y,z] 33 (0,0))):
  (results fn tmps).run Try.prog w = .ok (.tuple #[.agg #[x,y,z],tmps.getD q undef,tmps.getD r undef]) w:=by
 have hp':tmps[p]?.getD undef = .pointer (some ⟨g,0,none⟩):=by simpa using hp
 simp [results,h,hp',asAddr,run_loadVar_row w g _ _ _ _ _ hg Try.underlying33 rfl sz_mach]
theorem mach_one (x:Str) (A A2:Option Addr) (n c n2 c2:Nat):(#[strV x,.slice A n c,.slice A2 n2 c2]:Array Value).all (·.oneCell')= true:=all_oneCell_toArray (cs:=[strV x,.slice A n c,.slice A2 n2 c2]) (by
 intro v hv
 simp only [List.mem_cons,List.not_mem_nil,or_false] at hv
 rcases hv with rfl | rfl | rfl <;> rfl)
theorem clone_c (v:Value) (xs:List Str) (base:Nat) (w:World) (h:SL w base v xs) (hn:xs.length≤1000000):Calls Try.prog 84 #[v] w fun e w'=>∃ u,e = .returned u∧SL w' w.heap.size u xs∧Bl w w':=by
 rcases h.form with ⟨rfl,rfl⟩ | ⟨g,c,rfl,-,-,hc⟩
 ·refine (Try.slices_Clone_string_nil 0 0 w).mono ?_
  rintro e w' ⟨rfl,rfl⟩
  exact ⟨_,rfl,SL.nil _ _,Bl.refl _⟩
 ·refine (Try.slices_Clone_string g 0 xs.length c (xs.map S) w (by simp) (by omega) (fun j hj=>?_)).mono ?_
  ·rw [List.length_map] at hj
   have:=hc j _ (List.getElem?_eq_getElem hj)
   simpa [List.getD_eq_getElem?_getD,hj] using this
  ·rintro e w' ⟨u,rfl,h1,h2,h3⟩
   refine ⟨u,rfl,?_,h3⟩
   unfold SL
   rw [List.take_of_length_le (by simp),List.map_map] at h1
   exact h1
theorem copied_c (own:Str) (vR vW:Value) (rd wt:List Str) (w:World) (hR:SL w 0 vR rd) (hW:SL w 0 vW wt) (hn:rd.length≤1000000) (hn2:wt.length≤1000000):
  Calls Try.prog 62 #[.agg #[strV own,vR,vW]] w fun e w'=>∃ uR uW,e = .returned (.agg #[strV own,uR,uW])∧SL w' w.heap.size uR rd∧SL w' w.heap.size uW wt∧(∀ k,uR.ownBlock = some k→uW.ownBlock≠some k)∧Bl w w':=by
 obtain ⟨AR,cR,rfl⟩:=hR.slen
 obtain ⟨AW,cW,rfl⟩:=hW.slen
 have c1:=hide fun (w2:World) (h:Bl w w2)=>clone_c _ rd 0 w2 (hR.bl h) hn
 have c2:=hide fun (w2:World) (h:Bl w w2)=>clone_c _ wt 0 w2 (hW.bl h) hn2
 clear hR hW hn hn2
 go_enter Try.func62,Try.ntmps62
 go_wp2_with (first | (refine box_op rfl 33 (.tmp 0) rfl #[strV own,.slice AR rd.length cR,.slice AW wt.length cW] _ rfl (by rfl) ?_;intro G1 W1 hG1 b1 s1) | (refine alloc_op rfl 33 rfl _ zero_mach ?_;intro G2 W2 hG2 b2 s2))
 have B2:Hid (Bl w W2):=b1.trans b2
 have HG1:=hide (blk_bl b2 hG1)
 have HG2:=hide hG2
 have hge:Hid (w.heap.size≤G2):=by have h1:=s2.out.1;have h2:=Below.size b1;unfold Hid;omega
 clear hG1 hG2 b1 b2 s1 s2
 have h0:=blk_cell (i:=0) HG1.out rfl
 have h1:=blk_cell (i:=1) HG1.out rfl
 have h2:=blk_cell (i:=2) HG1.out rfl
 refine AnyT.start 10 (fun w2=>w2.cell? ⟨G1,0,none⟩= some (strV own)∧w2.cell? ⟨G1,1,none⟩= some (.slice AR rd.length cR)∧w2.cell? ⟨G1,2,none⟩= some (.slice AW wt.length cW)) (fun j=>[9].contains j) (by kernel_rfl) (by rfl) ?_
 have hHeld:(fun w2:World=>w2.cell? ⟨G1,0,none⟩= some (strV own)∧w2.cell? ⟨G1,1,none⟩= some (.slice AR rd.length cR)∧w2.cell? ⟨G1,2,none⟩= some (.slice AW wt.length cW)) W2.drew:=⟨h0,h1,h2⟩
 refine AnyT.tk 0 ?_
 refine AnyT.ld 1 ?_
 refine AnyT.tk 2 ?_
 refine AnyT.ld 3 ?_
 try simp only [Act.put,sqa,sqb,sqc]
 refine AnyT.tk 5 ?_
 refine AnyT.ld 6 ?_
 try simp only [Act.put,sqa,sqb,sqc]
 have bd:=B2.out.trans (bl_drew (Bl.refl W2))
 refine AnyT.one (i:=4) rfl (by kernel_rfl) (fun K hK=>?_)
 go_simp
 go_at_call 84
 (with_reducible refine (c1.out _ bd).mono ?_)
 rintro e W3 ⟨uR,rfl,r3,b3⟩
 obtain ⟨A3,c3,rfl⟩:=r3.slen;have R3:=hide r3;clear r3
 go_wp2_with fail
 refine hK.out _ _ ?_ ?_
 ·exact ⟨cell_kept b3 hHeld.1,cell_kept b3 hHeld.2.1,cell_kept b3 hHeld.2.2⟩
 intro hHeld
 clear hK K
 try simp only [Act.put,sqa,sqb,sqc]
 refine AnyT.one (i:=7) rfl (by kernel_rfl) (fun K hK=>?_)
 go_simp
 go_at_call 84
 (with_reducible refine (c2.out _ (bd.trans b3)).mono ?_)
 rintro e W4 ⟨uW,rfl,r4,b4⟩
 obtain ⟨A4,c4,rfl⟩:=r4.slen;have R4:=hide r4;clear r4
 go_wp2_with fail
 refine hK.out _ _ ?_ ?_
 ·exact ⟨cell_kept b4 hHeld.1,cell_kept b4 hHeld.2.1,cell_kept b4 hHeld.2.2⟩
 intro hHeld
 clear hK K
 try simp only [Act.put,sqa,sqb,sqc]
 refine AnyT.tk 8 ?_
 try simp only [Act.put,sqa,sqb,sqc]
 have hG4:=blk_bl (((bl_drew (Bl.refl W2)).trans b3).trans b4) HG2.out
 refine AnyT.tail (i:=9) rfl (by kernel_rfl) (by rfl) (fun K hK=>?_)
 (refine wanted_wp rfl (wp_stb 33 (.tmp 2) (.tmp 11) rfl G2 33 _ #[strV own,.slice A3 rd.length c3,.slice A4 wt.length c4] (by simp [Act.eval]) (by simp [Act.eval]) hG4 rfl sz_mach (mach_one _ _ _ _ _ _ _) ?_);intro W5 hG5 b5)
 refine hK.out _ _ ?_
 clear hK K
 try simp only [Act.put,sqa,sqb,sqc]
 refine AnyT.done (by kernel_rfl) ?_
 have z3:=Below.size (bd.trans b3)
 have z4:=Below.size ((bd.trans b3).trans b4)
 have zd:w.heap.size≤W2.drew.heap.size:=Below.size bd
 have hGl:=lt_of_block HG2.out
 have zb:=Below.size b3
 have b15:Bl w W5:=Fx.bl' ((bd.trans b3).trans b4) (.of_bx b5) (fun k hk=>by subst hk;exact hge.out)
 have hGd:G2 < W2.drew.heap.size:=hGl
 have fR:=(R3.out.bl b4).fx (.of_bx b5) (fun k hk e=>by subst e;have:=(R3.out.lt _ hk).1;omega)
 have fW:=R4.out.fx (.of_bx b5) (fun k hk e=>by subst e;have:=(R4.out.lt _ hk).1;omega)
 have fd:∀ k,(Value.slice A3 rd.length c3).ownBlock = some k→(Value.slice A4 wt.length c4).ownBlock≠some k:=fun k hk e=>by have h5:=(R3.out.lt k hk).2;have h6:=(R4.out.lt k e).1;omega
 have FR:=hide (fR.mono zd)
 have FW:=hide (fW.mono z3)
 have FD:=hide fd
 clear hHeld b5 hG4 fR fW fd R3 R4
 go_wp2_with fail
 refine bodyPost_ret (v:=.agg #[strV own,.slice A3 rd.length c3,.slice A4 wt.length c4]) (res_c1 rfl _ W5 G2 _ _ _ (by rfl) hG5) rfl ?_
 exact ⟨_,_,rfl,FR.out,FW.out,FD.out,b15⟩
end Go.Proofs.Ytmmnnhaecjpfdaa
namespace Go.Proofs.Ytmmnnhaecjpfdaa
open Go.RowKit
structure Sht (s:KS) (n:Nat):Prop where
 rd:∀ l∈s.rd,l.length≤300
 wt:∀ l∈s.wt,l.length≤300
 nr:s.rd.length≤n
 nw:s.wt.length≤n
 no:s.own.length≤n
theorem told_short (t:Tm):(toldS t).length≤300:=by
 unfold toldS
 split
 ·rename_i h
  obtain ⟨u,-,-,h1,-⟩:=goodB_iff.1 h
  exact h1
 ·exact Nat.zero_le _
theorem Sht.ready {s:KS} {n:Nat} (h:Sht s n) (t:Tm):Sht (s.ready t) (n + 1):=by
 refine ⟨fun l hl=>?_,h.wt,?_,Nat.le_succ_of_le h.nw,Nat.le_succ_of_le h.no⟩
 ·rcases List.mem_append.1 hl with hl | hl
  ·exact h.rd l hl
  ·rw [List.mem_singleton.1 hl];exact told_short t
 ·rw [ready_len];exact Nat.succ_le_succ h.nr
theorem Sht.given {s:KS} {n:Nat} (h:Sht s n) (p:Tm) (b y:UInt8):Sht (s.given p b y) n:=⟨h.rd,h.wt,h.nr,h.nw,h.no⟩
theorem Sht.met {s:KS} {n:Nat} (h:Sht s n) (x z:OfT):Sht (s.met x z) (n + 2):=((h.ready _).given _ _ _).ready _
theorem Sht.meet {s:KS} {n:Nat} (h:Sht s n) (x:OfT) (i:Nat) (u:Tm) (z:OfT):Sht (s.meet x i u z) (n + 2):=by
 have h1:Sht ({ s with wt:=if u.kind = 42 then s.wt else s.wt.eraseIdx i }:KS) n:=by
  refine ⟨h.rd,fun l hl=>?_,h.nr,?_,h.no⟩
  ·dsimp only at hl
   split at hl
   ·exact h.wt l hl
   ·exact h.wt l (List.mem_of_mem_eraseIdx hl)
  ·dsimp only
   split
   ·exact h.nw
   ·exact Nat.le_trans (List.length_eraseIdx_le _ _) h.nw
 exact h1.met x z
theorem Sht.again {s:KS} {n:Nat} (h:Sht s n) (c:Prop) [Decidable c] {p:Str} (hp:p.length≤300):Sht (s.again c p) (n + 1):=by
 unfold KS.again
 split
 ·refine ⟨fun l hl=>?_,h.wt,by simpa using h.nr,Nat.le_succ_of_le h.nw,Nat.le_succ_of_le h.no⟩
  rcases List.mem_append.1 hl with hl | hl
  ·exact h.rd l hl
  ·rw [List.mem_singleton.1 hl];exact hp
 ·exact ⟨h.rd,h.wt,Nat.le_succ_of_le h.nr,Nat.le_succ_of_le h.nw,Nat.le_succ_of_le h.no⟩
theorem Sht.wait {s:KS} {n:Nat} (h:Sht s n) {p:Str} (hp:p.length≤300):Sht (s.wait p) (n + 1):=by
 refine ⟨h.rd,fun l hl=>?_,Nat.le_succ_of_le h.nr,by simpa [KS.wait] using h.nw,Nat.le_succ_of_le h.no⟩
 rcases List.mem_append.1 hl with hl | hl
 ·exact h.wt l hl
 ·rw [List.mem_singleton.1 hl];exact hp
theorem Sht.mono {s:KS} {n m:Nat} (h:Sht s n) (hm:n≤m):Sht s m:=⟨h.rd,h.wt,Nat.le_trans h.nr hm,Nat.le_trans h.nw hm,Nat.le_trans h.no hm⟩
theorem Sht.offer {s:KS} {n:Nat} (h:Sht s n) {p:Str} (hp:p.length≤300) (t:Tm):Sht (s.offer p t).1 (n + 3):=by
 unfold KS.offer
 split
 ·exact (h.wait hp).mono (by omega)
 ·exact ((h.ready _).again _ hp).mono (by omega)
 ·exact (h.meet _ _ _ _).again _ hp
theorem Sht.own {s:KS} {n:Nat} (h:Sht s n) (t p:Tm) (b:UInt8):Sht (s.ownK t p b).1 (n + 3):=by
 unfold KS.ownK
 split
 ·exact ⟨h.rd,h.wt,Nat.le_trans h.nr (by omega),Nat.le_trans h.nw (by omega),Nat.le_trans h.no (by omega)⟩
 ·rename_i c _
  have h1:=(h.given p b c).ready ((givenO p b c).getD p)
  refine ⟨h1.rd,h1.wt,Nat.le_trans h1.nr (by omega),Nat.le_trans h1.nw (by omega),?_⟩
  show (s.own ++ [c]).length≤_
  have:=h.no
  rw [List.length_append,List.length_singleton];omega
theorem Sht.tick {s:KS} {n:Nat} (h:Sht s n) {p:Str} (hp:p.length≤300) (t:Tm):Sht (s.tickT p t).1 (n + 3):=by
 cases t with
 | zero=>exact h.mono (by omega)
 | bin k q r=>
   rw [KS.tickT]
   split
   ·exact ((h.ready q).ready r).mono (by omega)
   ·exact h.offer hp _
 | un k a b q=>
   rw [KS.tickT]
   split
   ·exact h.own _ _ _
   ·split
    ·split
     ·exact (h.ready q).mono (by omega)
     ·exact (h.wait hp).mono (by omega)
    ·exact h.offer hp _
def KS.mac (s:KS):Mac:=⟨s.own,s.rd,s.wt⟩
def tickO (m:Mac) (p:Str) (rest:List Str) (t:Tm):Option (Mac × Str):=
 if (!((⟨m.own,rest,m.wt,false⟩:KS).tickT p t).1.bad && goodMac ((⟨m.own,rest,m.wt,false⟩:KS).tickT p t).1.mac)= true then some (((⟨m.own,rest,m.wt,false⟩:KS).tickT p t).1.mac,((⟨m.own,rest,m.wt,false⟩:KS).tickT p t).2) else none
def MacR (w w':World) (m:Mac) (v:Value):Prop:=∃ uR uW,v = .agg #[strV m.own,uR,uW]∧SL w' w.heap.size uR m.rd∧SL w' w.heap.size uW m.wt∧∀ k,uR.ownBlock = some k→uW.ownBlock≠some k
abbrev nilM:Value:=.agg #[strV [],.slice none 0 0,.slice none 0 0]
def TickedR (o:Option (Mac × Str)) (w:World) (e:Ending) (w':World):Prop:=Bl w w'∧match o with
 | some (m,ev)=>∃ v,e = .returned (.tuple #[v,strV ev,.bool true])∧MacR w w' m v
 | none=>e = .returned (.tuple #[nilM,strV [],.bool false])
theorem ldm {w:World} {g:Nat} {x y z u:Value} (h:w.heap[g]? = some (.cells #[x,y,z,u] 84 (0,0))):∀ (j:Nat) (v:Value),([x,y,z]:List Value)[j]? = some v→w.cell? ⟨g,0 + j,none⟩= some v:=by
 intro j v hv
 rw [Nat.zero_add]
 match j,hv with
 | 0,hv=>cases hv;exact blk_cell (i:=0) h rfl
 | 1,hv=>cases hv;exact blk_cell (i:=1) h rfl
 | 2,hv=>cases hv;exact blk_cell (i:=2) h rfl
theorem ticked_c (m:Mac) (p:Str) (rest:List Str) (t:Tm) (vR vW:Value) (w:World) (hR:SL w 0 vR m.rd) (hW:SL w 0 vW m.wt) (hrd:m.rd = p :: rest) (hp:proc? p = some t) (ho:m.own.all smallB = true) (hol:m.own.length≤1000) (hall:∀ l∈m.rd ++ m.wt,∃ u,proc? l = some u) (hn:m.rd.length≤1000) (hn2:m.wt.length≤1000):
  Calls Try.prog 36 #[.agg #[strV m.own,vR,vW]] w (TickedR (tickO m p rest t) w):=by
 obtain ⟨AR,cR,rfl⟩:=hR.slen
 obtain ⟨AW,cW,rfl⟩:=hW.slen
 have cc:=hide fun (w2:World) (h:Bl w w2)=>copied_c m.own _ _ m.rd m.wt w2 (hR.bl h) (hW.bl h) (by omega) (by omega)
 have HA:=hide (And.intro hrd (And.intro hp (And.intro ho (And.intro hol (And.intro hall (And.intro hn hn2))))))
 clear hR hW hrd hp ho hol hall hn hn2
 go_enter Try.func36,Try.ntmps36
 go_upto_region 1 with (first | (refine box_op rfl 33 (.tmp 0) rfl #[strV m.own,.slice AR m.rd.length cR,.slice AW m.wt.length cW] _ rfl (by rfl) ?_;intro G1 W1 hG1 b1 s1) | (refine alloc_op rfl 33 rfl _ zero_mach ?_;intro G2 W2 hG2 b2 s2))
 have B2:Hid (Bl w W2):=b1.trans b2
 have HG1:=hide (blk_bl b2 hG1)
 have HG2:=hide hG2
 have hge:Hid (w.heap.size≤G2):=by have h1:=s2.out.1;have h2:=Below.size b1;unfold Hid;omega
 clear hG1 hG2 b1 b2 s1 s2
 go_wp2_with (first | (refine ld_blk rfl 33 (.tmp 1) rfl G1 33 #[strV m.own,.slice AR m.rd.length cR,.slice AW m.wt.length cW] _ rfl HG1.out Try.underlying33 rfl sz_mach ?_) | (go_at_call 62;(with_reducible refine (cc.out _ B2.out).mono ?_);rintro e W3 ⟨uR,uW,rfl,r3,q3,d3,b3⟩;obtain ⟨A3,c3,rfl⟩:=r3.slen;obtain ⟨A4,c4,rfl⟩:=q3.slen))
 have bA:=bl_alloc W3 (.cells #[strV m.own,.slice A3 m.rd.length c3,.slice A4 m.wt.length c4,.bool false] 84)
 have z2:=Below.size B2.out
 have K0:Tk w.heap.size (W3.alloc (.cells #[strV m.own,.slice A3 m.rd.length c3,.slice A4 m.wt.length c4,.bool false] 84)) W3.heap.size ⟨m.own,m.rd,m.wt,false⟩:=
  ⟨Nat.le_trans z2 (Below.size b3),_,_,blk_new W3 _ _,(r3.bl bA).mono z2,(q3.bl bA).mono z2,d3⟩
 obtain ⟨R,hR⟩:∃ R,R = (⟨m.own,rest,m.wt,false⟩:KS).tickT p t:=⟨_,rfl⟩
 have ct:=tick_c w.heap.size W3.heap.size ⟨m.own,m.rd,m.wt,false⟩ p rest t _ K0 (Nat.le_trans (Nat.le_trans z2 (Below.size b3)) (Below.size bA)) HA.out.1 HA.out.2.1 HA.out.2.2.1 HA.out.2.2.2.1 HA.out.2.2.2.2.1 (by have:=HA.out.2.2.2.2.2.1;show m.rd.length≤30000;omega) (by have:=HA.out.2.2.2.2.2.2;show m.wt.length≤30000;omega)
 dsimp only at ct
 rw [← hR] at ct
 have CT:=hide ct
 have hall:∀ l∈m.rd ++ m.wt,l.length≤300:=fun l hl=>by obtain ⟨u,hu⟩:=HA.out.2.2.2.2.1 l hl;exact (proc?_some.1 hu).2.2.1
 have SH:Hid (Sht R.1 1003):=by
  rw [hR]
  refine Sht.tick (n:=1000) ⟨fun l hl=>hall l (by rw [HA.out.1];simp only [List.cons_append,List.mem_cons,List.mem_append];exact .inr (.inl hl)),fun l hl=>hall l (List.mem_append_right _ hl),?_,HA.out.2.2.2.2.2.2,HA.out.2.2.2.1⟩ (hall p (by rw [HA.out.1];simp)) t
  have:=HA.out.2.2.2.2.2.1
  rw [HA.out.1,List.length_cons] at this
  show rest.length≤1000;omega
 have HTO:Hid (tickO m p rest t = if (!R.1.bad && goodMac R.1.mac)= true then some (R.1.mac,R.2) else none):=by unfold Hid tickO;rw [← hR]
 have HGA:=hide (blk_bl (b3.trans bA) HG2.out)
 have BLA:Hid (Bl w (W3.alloc (.cells #[strV m.own,.slice A3 m.rd.length c3,.slice A4 m.wt.length c4,.bool false] 84))):=(B2.out.trans b3).trans bA
 clear r3 q3 d3 b3 bA z2 K0 hR ct hall cc HA
 go_upto_region 3 with (go_at_call 63;(with_reducible refine CT.out.mono ?_);rintro e W5 ⟨rfl,k5,t5⟩)
 have HG5:Hid (W5.heap[G2]? = some (.cells #[strV [],.slice none 0 0,.slice none 0 0] 33 (0,0))):=t5.heap (fun ⟨_,n,e⟩=>by rw [blk_shape HGA.out] at e;rcases e with e | e <;> simp at e) HGA.out
 have BL5:Hid (Bl w W5):=t5.bl BLA.out (Nat.le_refl _)
 obtain ⟨hgB,uR,uW,hg5,k5R,k5W,k5d⟩:=k5
 obtain ⟨A5,c5,rfl⟩:=k5R.slen
 obtain ⟨A6,c6,rfl⟩:=k5W.slen
 have HR5:=hide k5R
 have HW5:=hide k5W
 have HD5:=hide k5d
 have HGT:=hide hg5
 have b3c:=blk_cell (i:=3) hg5 rfl
 have cim:=hide (isMachine_c R.1.mac (.slice A5 R.1.rd.length c5) (.slice A6 R.1.wt.length c6) W5 (k5R.mono (Nat.zero_le _)) (k5W.mono (Nat.zero_le _)) (by have:=SH.out.no;show R.1.own.length≤_;omega) (fun l hl=>short_of (by have:=SH.out.rd l hl;omega)) (fun l hl=>short_of (by have:=SH.out.wt l hl;omega)) (by have:=SH.out.nr;show R.1.rd.length≤_;omega) (by have:=SH.out.nw;show R.1.wt.length≤_;omega))
 clear CT t5 k5R k5W k5d hgB
 obtain ⟨⟨own,rd,wt,bad⟩,ev⟩:=R
 dsimp only [KS.mac] at *
 cases bad with
 | true=>
   have HT:Hid (tickO m p rest t = none):=HTO.out
   go_wp2_with ((refine st_blk rfl 33 (.tmp 2) (.tmp 25) rfl G2 33 _ #[strV [],.slice none 0 0,.slice none 0 0] rfl (by simp [Act.eval,Act.put];rfl) HG5.out rfl sz_mach (mach_one _ _ _ _ _ _ _) ?_;intro w7 hg7 b7))
   refine bodyPost_ret (res_c3 rfl _ w7 G2 _ _ _ (by rfl) hg7) rfl ?_
   refine ⟨Fx.bl' BL5.out (.of_bx b7) (fun k hk=>by subst hk;exact hge.out),?_⟩
   rw [HT.out]
   rfl
 | false=>
   have t0c:W5.cell? ⟨W3.heap.size,0,none⟩= some (strV own):=blk_cell (i:=0) HGT.out rfl
   have t1c:W5.cell? ⟨W3.heap.size,1,none⟩= some (.slice A5 rd.length c5):=blk_cell (i:=1) HGT.out rfl
   have t2c:W5.cell? ⟨W3.heap.size,2,none⟩= some (.slice A6 wt.length c6):=blk_cell (i:=2) HGT.out rfl
   cases hgm:goodMac ⟨own,rd,wt⟩ with
   | false=>
     have HT:Hid (tickO m p rest t = none):=HTO.out.trans (if_neg (by show ¬ ((!false && goodMac ⟨own,rd,wt⟩)= true);rw [hgm];decide))
     rw [hgm] at cim
     clear hgm HTO
     go_upto_region 4 with (first | (go_at_call 35;(with_reducible refine cim.out.mono ?_);rintro e W6 ⟨rfl,b6⟩))
     have HG6:=hide (blk_bl b6 HG5.out)
     have BL6:=hide (BL5.out.trans b6)
     go_wp2_with ((refine st_blk rfl 33 (.tmp 2) (.tmp 25) rfl G2 33 _ #[strV [],.slice none 0 0,.slice none 0 0] rfl (by simp [Act.eval,Act.put];rfl) HG6.out rfl sz_mach (mach_one _ _ _ _ _ _ _) ?_;intro w7 hg7 b7))
     refine bodyPost_ret (res_c3 rfl _ w7 G2 _ _ _ (by rfl) hg7) rfl ?_
     refine ⟨Fx.bl' BL6.out (.of_bx b7) (fun k hk=>by subst hk;exact hge.out),?_⟩
     rw [HT.out]
     rfl
   | true=>
     have HT:Hid (tickO m p rest t = some (⟨own,rd,wt⟩,ev)):=HTO.out.trans (if_pos (by show (!false && goodMac ⟨own,rd,wt⟩)= true;rw [hgm];decide))
     rw [hgm] at cim
     clear hgm HTO
     go_upto_region 5 with (first | (go_at_call 35;(with_reducible refine cim.out.mono ?_);rintro e W6 ⟨rfl,b6⟩))
     have HG6:=hide (blk_bl b6 HG5.out)
     have BL6:=hide (BL5.out.trans b6)
     have HGT6:=hide (blk_bl b6 HGT.out)
     have FR:=hide (HR5.out.bl b6)
     have FW:=hide (HW5.out.bl b6)
     clear b6
     go_wp2_with (first | (refine wpList_load_mid rfl 33 (.tmp 28) rfl W3.heap.size 0 (by simp [Act.eval,Act.put]) [strV own,.slice A5 rd.length c5,.slice A6 wt.length c6] _ (ldm HGT6.out) Try.underlying33 rfl sz_mach ?_) | (refine st_blk rfl 33 (.tmp 2) (.tmp 29) rfl G2 33 _ #[strV own,.slice A5 rd.length c5,.slice A6 wt.length c6] rfl (by simp [Act.eval,Act.put]) HG6.out rfl sz_mach (mach_one _ _ _ _ _ _ _) ?_;intro w7 hg7 b7))
     refine bodyPost_ret (res_c3 rfl _ w7 G2 _ _ _ (by rfl) hg7) rfl ?_
     refine ⟨Fx.bl' BL6.out (.of_bx b7) (fun k hk=>by subst hk;exact hge.out),?_⟩
     rw [HT.out]
     have hsh:=blk_shape HG6.out
     exact ⟨_,rfl,_,_,rfl,FR.out.fx (.of_bx b7) (fun k hk e=>by subst e;obtain ⟨n,h9⟩:=FR.out.shape hk;rw [hsh] at h9;simp at h9),FW.out.fx (.of_bx b7) (fun k hk e=>by subst e;obtain ⟨n,h9⟩:=FW.out.shape hk;rw [hsh] at h9;simp at h9),HD5.out⟩
end Go.Proofs.Ytmmnnhaecjpfdaa
namespace Go.Proofs.Ytmmnnhaecjpfdaa
open Go.RowKit
theorem ownOk_small:∀ {s ps:Str},ownOk ps s = true→s.all smallB = true
 | [],_,_=>rfl
 | c :: s,ps,h=>by
   simp only [ownOk,Bool.and_eq_true] at h
   simp only [List.all_cons,Bool.and_eq_true]
   exact ⟨h.1.1,ownOk_small h.2⟩
theorem ownOk_nodup:∀ {s ps:Str},ownOk ps s = true→s.Nodup∧∀ c∈s,c∉ps
 | [],_,_=>⟨List.nodup_nil,by simp⟩
 | c :: s,ps,h=>by
   simp only [ownOk,Bool.and_eq_true,Bool.not_eq_true',decide_eq_false_iff_not] at h
   obtain ⟨h1,h2⟩:=ownOk_nodup h.2
   refine ⟨List.nodup_cons.2 ⟨fun hc=>h2 c hc (by simp),h1⟩,fun d hd=>?_⟩
   rcases List.mem_cons.1 hd with rfl | hd
   ·exact h.1.2
   ·exact fun hp=>h2 d hd (by simp [hp])
theorem nodup_len:∀ (n:Nat) (l:List Nat),l.Nodup→(∀ x∈l,x < n)→l.length≤n
 | 0,l,_,h=>by
   cases l with
   | nil=>exact Nat.le_refl _
   | cons x l=>exact absurd (h x (by simp)) (by omega)
 | n + 1,l,hd,h=>by
   have h1:=nodup_len n (l.erase n) (hd.erase n) (fun x hx=>by
    have h2:=h x (List.mem_of_mem_erase hx)
    have h3:x≠n:=fun e=>by subst e;exact (List.Nodup.not_mem_erase hd) hx
    omega)
   have h2:l.length≤(l.erase n).length + 1:=by
    rw [List.length_erase];split <;> omega
   omega
theorem nodup_256 (s:Str) (h:s.Nodup):s.length≤256:=by
 have:=nodup_len 256 (s.map UInt8.toNat) (List.Pairwise.map _ (fun a b hab e=>hab (UInt8.toNat_inj.1 e)) h) (fun x hx=>by
  obtain ⟨c,-,rfl⟩:=List.mem_map.1 hx
  exact UInt8.toNat_lt c)
 simpa using this
theorem goodWt_all:∀ {ls:List Str} {us:List Tm},goodWt us ls = true→∀ l∈ls,∃ u,proc? l = some u∧smpB u = true∧wtB u = true
 | [],_,_,_,h=>by simp at h
 | l :: ls, us, hg, l', h => by
   simp only [goodWt] at hg
   cases hp:proc? l with
   | none=>rw [hp] at hg;cases hg
   | some t=>
     rw [hp] at hg
     simp only [Bool.and_eq_true] at hg
     rcases List.mem_cons.1 h with rfl | h
     ·exact ⟨t,hp,hg.1.1.1,hg.1.1.2⟩
     ·exact goodWt_all hg.2 l' h
theorem thrB_some {l:Str} (h:thrB l = true):∃ u,proc? l = some u∧smpB u = true:=by
 unfold thrB at h
 cases hp:proc? l with
 | none=>rw [hp] at h;cases h
 | some t=>rw [hp] at h;exact ⟨t,rfl,h⟩
structure GoodF (m:Mac):Prop where
 own:m.own.all smallB = true
 ol:m.own.length≤256
 all:∀ l∈m.rd ++ m.wt,∃ u,proc? l = some u∧smpB u = true
 nr:m.rd.length + m.wt.length≤40
theorem good_f {m:Mac} (h:goodMac m = true):GoodF m:=by
 simp only [goodMac,Bool.and_eq_true,decide_eq_true_eq] at h
 obtain ⟨⟨⟨h1,h2⟩,h3⟩,h4⟩:=h
 refine ⟨ownOk_small h1,nodup_256 _ (ownOk_nodup h1).1,fun l hl=>?_,h2⟩
 rcases List.mem_append.1 hl with hl | hl
 ·exact thrB_some (List.all_eq_true.1 h3 l hl)
 ·obtain ⟨u,h5,h6,-⟩:=goodWt_all h4 l hl
  exact ⟨u,h5,h6⟩
def tickM (m:Mac):Option (Mac × Str):=match m.rd with
 | []=>none
 | p :: rest=>match proc? p with
   | none=>none
   | some t=>tickO m p rest t
theorem tickM_good {m m':Mac} {ev:Str} (h:tickM m = some (m',ev)):goodMac m' = true:=by
 unfold tickM at h
 split at h
 ·cases h
 ·split at h
  ·cases h
  ·unfold tickO at h
   split at h
   ·rename_i hc
    cases h
    simp only [Bool.and_eq_true] at hc
    exact hc.2
   ·cases h
theorem ticked2_c (m:Mac) (hg:goodMac m = true) (hne:m.rd≠[]) (vR vW:Value) (w:World) (hR:SL w 0 vR m.rd) (hW:SL w 0 vW m.wt):
  Calls Try.prog 36 #[.agg #[strV m.own,vR,vW]] w (TickedR (tickM m) w):=by
 have G:=good_f hg
 cases hrd:m.rd with
 | nil=>exact absurd hrd hne
 | cons p rest=>
   obtain ⟨t,ht,-⟩:=G.all p (by rw [hrd];simp)
   have e:tickM m = tickO m p rest t:=by unfold tickM;rw [hrd];dsimp only;rw [ht]
   rw [e]
   exact ticked_c m p rest t vR vW w hR hW hrd ht G.own (by have:=G.ol;omega) (fun l hl=>by obtain ⟨u,h1,-⟩:=G.all l hl;exact ⟨u,h1⟩) (by have:=G.nr;omega) (by have:=G.nr;omega)
theorem start_c (l:Str) (w:World) (hs:Short l):Calls Try.prog 39 #[strV l] w fun e w'=>Bl w w'∧if thrB l = true then ∃ v,e = .returned (.tuple #[v,.bool true])∧MacR w w' ⟨[],[l],[]⟩ v else e = .returned (.tuple #[nilM,.bool false]):=by
 have cs:=hide fun w=>simpleTerm_c l w hs
 have ct:Hid (∀ w,Calls Try.prog 55 #[strV l] w fun e w'=>∃ p,e = .returned (.tuple #[.pointer p,.bool (thrB l)])∧Bl w w'):=fun w=>by
  refine (cs.out w).mono ?_
  rintro e w' ⟨h1,h2⟩
  unfold thrB
  cases hp:proc? l with
  | none=>rw [hp] at h2;obtain ⟨p,rfl⟩:=h2;exact ⟨_,rfl,h1⟩
  | some t=>rw [hp] at h2;obtain ⟨b,rfl,-⟩:=h2;exact ⟨_,rfl,h1⟩
 clear cs hs
 cases hb:thrB l with
 | false=>
   rw [hb] at ct
   go_enter Try.func39,Try.ntmps39
   go_wp2_with (first | (refine alloc_op rfl 33 rfl _ zero_mach ?_;intro G W1 hG b1 s1;have HB1:=hide b1;have HGE:Hid (w.heap.size≤G):=(by have:=s1.out.1;unfold Hid;omega);clear b1 s1) | (go_at_call 55;(with_reducible refine (ct.out _).mono ?_);rintro e W2 ⟨p,rfl,b2⟩;have hG2:=blk_bl b2 hG;have HB2:=hide (HB1.out.trans b2);clear b2) | (refine st_blk rfl 33 (.tmp 2) (.tmp 13) rfl G 33 _ #[strV [],.slice none 0 0,.slice none 0 0] rfl (by simp [Act.eval,Act.put];rfl) hG2 rfl sz_mach (mach_one _ _ _ _ _ _ _) ?_;intro w7 hg7 b7))
   refine bodyPost_ret (res_c2 rfl _ w7 G _ _ _ (by rfl) hg7) rfl ?_
   exact ⟨Fx.bl' HB2.out (.of_bx b7) (fun k hk=>by subst hk;exact HGE.out),rfl⟩
 | true=>
   rw [hb] at ct
   go_enter Try.func39,Try.ntmps39
   go_wp2_with (first | (refine alloc_op rfl 33 rfl _ zero_mach ?_;intro G W1 hG b1 s1;have HB1:=hide b1;have HGE:Hid (w.heap.size≤G):=(by have:=s1.out.1;unfold Hid;omega);clear b1 s1) | (go_at_call 55;(with_reducible refine (ct.out _).mono ?_);rintro e W2 ⟨p,rfl,b2⟩;have hG2:=blk_bl (b2.trans (bl_alloc W2 (.cells #[strV l] 9))) hG;have HB2:=hide (HB1.out.trans b2);clear b2) | (refine st_blk rfl 33 (.tmp 2) (.tmp 16) rfl G 33 _ #[strV [],.slice (some ⟨W2.heap.size,0,none⟩) 1 1,.slice none 0 0] rfl (by simp [Act.eval,Act.put];rfl) hG2 rfl sz_mach (mach_one _ _ _ _ _ _ _) ?_;intro w7 hg7 b7))
   refine bodyPost_ret (res_c2 rfl _ w7 G _ _ _ (by rfl) hg7) rfl ?_
   have BA:=bl_alloc W2 (.cells #[strV l] 9)
   have hsz:=Below.size HB2.out
   have hsl:SL w7 w.heap.size (.slice (some ⟨W2.heap.size,0,none⟩) 1 1) [l]:=(SL.one W2 l hsz).fx (.of_bx b7) (fun k hk e=>by cases hk;subst e;rw [blk_new] at hG2;simp at hG2)
   refine ⟨Fx.bl' (HB2.out.trans BA) (.of_bx b7) (fun k hk=>by subst hk;exact HGE.out),?_⟩
   exact ⟨_,rfl,_,_,rfl,hsl,SL.nil _ _,fun k _ e=>by cases e⟩
end Go.Proofs.Ytmmnnhaecjpfdaa
namespace Go.Proofs.Ytmmnnhaecjpfdaa
open Go.RowKit
def tickI (m:Mac):Option (Mac × Str):=if goodMac m = true then tickM m else none
end Go.Proofs.Ytmmnnhaecjpfdaa
namespace Go.Proofs.Ytmmnnhaecjpfdaa
open Go.RowKit
def runI:Nat→Mac→List Str→Option (Mac × List Str)
 | 0,m,evs=>some (m,evs)
 | n + 1,m,evs=>if m.rd = [] then some (m,evs) else match tickM m with
   | none=>none
   | some (m',ev)=>runI n m' (evs ++ [ev])
def runO (l:Str) (k:Int):Option (Mac × List Str):=if thrB l = true∧0≤k∧k≤200 then runI k.toNat ⟨[],[l],[]⟩ [] else none
def RunR (o:Option (Mac × List Str)) (w:World) (e:Ending) (w':World):Prop:=Bl w w'∧match o with
 | some (m,evs)=>∃ v u,e = .returned (.tuple #[v,u,.bool true])∧MacR w w' m v∧SL w' w.heap.size u evs
 | none=>e = .returned (.tuple #[nilM,.slice none 0 0,.bool false])
theorem res_r3 {fn:Func} {p q r:Tmp} (h:fn.results = #[.cell p 33,.tmp q,.tmp r]) (tmps:Array Value) (w:World) (g:Nat) (x y z:Value)
  (hp:tmps.getD p undef = .pointer (some ⟨g,0,none⟩)) (hg:w.heap[g]? = some (.cells #[x,y,z] 33 (0,0))):
  (results fn tmps).run Try.prog w = .ok (.tuple #[.agg #[x,y,z],tmps.getD q undef,tmps.getD r undef]) w:=res_c3 h tmps w g x y z hp hg
structure RunS (w:World) (G4 G7 n:Nat) (l:Str) (v:Value) (m:Mac) (evs:List Str) (uR uW:Value) (wr:World):Prop where
 bl:Bl w wr
 g4:wr.heap[G4]? = some (.cells #[strV [],.slice none 0 0,.slice none 0 0] 33 (0,0))
 ge:w.heap.size≤G4∧G4 < G7
 g7:wr.heap[G7]? = some (.cells #[strV m.own,uR,uW] 33 (0,0))
 r:SL wr w.heap.size uR m.rd
 q:SL wr w.heap.size uW m.wt
 d:∀ k,uR.ownBlock = some k→uW.ownBlock≠some k
 s:SL wr w.heap.size v evs
 d1:∀ k,v.ownBlock = some k→uR.ownBlock≠some k∧uW.ownBlock≠some k
 good:goodMac m = true
 le:evs.length≤n
 eq:runI (n - evs.length) m evs = runI n ⟨[],[l],[]⟩ []
theorem blk_lt {w:World} {g:Nat} {b} (h:w.heap[g]? = some b):g < w.heap.size:=by
 by_cases hc:g < w.heap.size
 ·exact hc
 ·rw [Array.getElem?_eq_none (by omega)] at h;cases h
theorem run_no (l:Str) (k:Int) (w:World) (hs:Short l) (h:¬ (thrB l = true∧0≤k∧k≤200)):Calls Try.prog 28 #[strV l,.int .i64 k] w (RunR (runO l k) w):=by
 have HT:Hid (runO l k = none):=if_neg h
 have cs:=hide fun w=>start_c l w hs
 by_cases hb:thrB l = true
 ·have ct:Hid (∀ w,Calls Try.prog 39 #[strV l] w fun e w'=>∃ uR uW,e = .returned (.tuple #[.agg #[strV [],uR,uW],.bool true])∧Bl w w'∧(∃ A c,uR = .slice A 1 c)∧(∃ A c,uW = .slice A 0 c)):=fun w=>by
   refine (cs.out w).mono ?_
   rintro e w' ⟨h1,h2⟩
   rw [if_pos hb] at h2
   obtain ⟨v,rfl,uR,uW,rfl,h3,h4,-⟩:=h2
   exact ⟨uR,uW,rfl,h1,h3.slen,h4.slen⟩
  have hk:k < 0∨200 < k:=by
   by_cases h1:0≤k
   ·by_cases h2:k≤200
    ·exact absurd ⟨hb,h1,h2⟩ h
    ·exact .inr (by omega)
   ·exact .inl (by omega)
  clear cs hb h hs
  rcases hk with hk | hk
  ·have e1:decide (k < 0)= true:=decide_eq_true hk
   go_enter Try.func28,Try.ntmps28
   go_wp2_with (first | (refine alloc_op rfl 33 rfl _ zero_mach ?_;first | (intro G4 W1 hG4 b1 s1;have HB1:=hide b1;have HGE:Hid (w.heap.size≤G4):=(by have:=s1.out.1;unfold Hid;omega);clear b1 s1) | (intro G7 W3 hG7 b3 s3;have HLT:Hid (G4 < G7):=(by have h1:=s3.out.1;have h2:=blk_lt HG42.out;unfold Hid;omega);have HG43:=hide (blk_bl b3 HG42.out);have HB3:=hide (HB2.out.trans b3);clear b3 s3)) | (go_at_call 39;(with_reducible refine (ct.out _).mono ?_);rintro e W2 ⟨uR,uW,rfl,b2,⟨A1,c1,rfl⟩,⟨A2,c2,rfl⟩⟩;have HG42:=hide (blk_bl b2 hG4);have HB2:=hide (HB1.out.trans b2);clear b2 hG4) | (refine st_blk rfl 33 (.tmp 7) (.tmp 16) rfl G7 33 _ #[strV [],.slice A1 1 c1,.slice A2 0 c2] rfl (by simp [Act.eval,Act.put]) hG7 rfl sz_mach (mach_one _ _ _ _ _ _ _) ?_;intro W5 hG75 b5;have HG45:=hide ((b5.block G4 (blk_lt HG43.out) (by have:=HLT.out;omega)).trans HG43.out);have HB5:Hid (Bl w W5):=Fx.bl' HB3.out (.of_bx b5) (fun k hk=>by subst hk;have h1:=HGE.out;have h2:=HLT.out;omega);clear b5 hG7) | (refine st_blk rfl 33 (.tmp 4) (.tmp 28) rfl G4 33 _ #[strV [],.slice none 0 0,.slice none 0 0] rfl (by simp [Act.eval,Act.put];rfl) HG45.out rfl sz_mach (mach_one _ _ _ _ _ _ _) ?_;intro w7 hg7 b7))
   refine bodyPost_ret (res_r3 rfl _ w7 G4 _ _ _ (by rfl) hg7) rfl ?_
   refine ⟨Fx.bl' HB5.out (.of_bx b7) (fun k hk=>by subst hk;exact HGE.out),?_⟩
   rw [HT.out]
   rfl
  ·have e1:decide (k < 0)= false:=decide_eq_false (by omega)
   have e1':¬ k < 0:=by omega
   have e2:decide (200 < k)= true:=decide_eq_true hk
   go_enter Try.func28,Try.ntmps28
   go_wp2_with (first | (refine alloc_op rfl 33 rfl _ zero_mach ?_;first | (intro G4 W1 hG4 b1 s1;have HB1:=hide b1;have HGE:Hid (w.heap.size≤G4):=(by have:=s1.out.1;unfold Hid;omega);clear b1 s1) | (intro G7 W3 hG7 b3 s3;have HLT:Hid (G4 < G7):=(by have h1:=s3.out.1;have h2:=blk_lt HG42.out;unfold Hid;omega);have HG43:=hide (blk_bl b3 HG42.out);have HB3:=hide (HB2.out.trans b3);clear b3 s3)) | (go_at_call 39;(with_reducible refine (ct.out _).mono ?_);rintro e W2 ⟨uR,uW,rfl,b2,⟨A1,c1,rfl⟩,⟨A2,c2,rfl⟩⟩;have HG42:=hide (blk_bl b2 hG4);have HB2:=hide (HB1.out.trans b2);clear b2 hG4) | (refine st_blk rfl 33 (.tmp 7) (.tmp 16) rfl G7 33 _ #[strV [],.slice A1 1 c1,.slice A2 0 c2] rfl (by simp [Act.eval,Act.put]) hG7 rfl sz_mach (mach_one _ _ _ _ _ _ _) ?_;intro W5 hG75 b5;have HG45:=hide ((b5.block G4 (blk_lt HG43.out) (by have:=HLT.out;omega)).trans HG43.out);have HB5:Hid (Bl w W5):=Fx.bl' HB3.out (.of_bx b5) (fun k hk=>by subst hk;have h1:=HGE.out;have h2:=HLT.out;omega);clear b5 hG7) | (refine st_blk rfl 33 (.tmp 4) (.tmp 28) rfl G4 33 _ #[strV [],.slice none 0 0,.slice none 0 0] rfl (by simp [Act.eval,Act.put];rfl) HG45.out rfl sz_mach (mach_one _ _ _ _ _ _ _) ?_;intro w7 hg7 b7))
   refine bodyPost_ret (res_r3 rfl _ w7 G4 _ _ _ (by rfl) hg7) rfl ?_
   refine ⟨Fx.bl' HB5.out (.of_bx b7) (fun k hk=>by subst hk;exact HGE.out),?_⟩
   rw [HT.out]
   rfl
 ·have ct:Hid (∀ w,Calls Try.prog 39 #[strV l] w fun e w'=>e = .returned (.tuple #[nilM,.bool false])∧Bl w w'):=fun w=>by
   refine (cs.out w).mono ?_
   rintro e w' ⟨h1,h2⟩
   rw [if_neg hb] at h2
   exact ⟨h2,h1⟩
  clear cs hb h hs
  go_enter Try.func28,Try.ntmps28
  go_wp2_with (first | (refine alloc_op rfl 33 rfl _ zero_mach ?_;first | (intro G4 W1 hG4 b1 s1;have HB1:=hide b1;have HGE:Hid (w.heap.size≤G4):=(by have:=s1.out.1;unfold Hid;omega);clear b1 s1) | (intro G7 W3 hG7 b3 s3;have HLT:Hid (G4 < G7):=(by have h1:=s3.out.1;have h2:=blk_lt HG42.out;unfold Hid;omega);have HG43:=hide (blk_bl b3 HG42.out);have HB3:=hide (HB2.out.trans b3);clear b3 s3)) | (go_at_call 39;(with_reducible refine (ct.out _).mono ?_);rintro e W2 ⟨rfl,b2⟩;have HG42:=hide (blk_bl b2 hG4);have HB2:=hide (HB1.out.trans b2);clear b2 hG4) | (refine st_blk rfl 33 (.tmp 7) (.tmp 16) rfl G7 33 _ #[strV [],.slice none 0 0,.slice none 0 0] rfl (by simp [Act.eval,Act.put]) hG7 rfl sz_mach (mach_one _ _ _ _ _ _ _) ?_;intro W5 hG75 b5;have HG45:=hide ((b5.block G4 (blk_lt HG43.out) (by have:=HLT.out;omega)).trans HG43.out);have HB5:Hid (Bl w W5):=Fx.bl' HB3.out (.of_bx b5) (fun k hk=>by subst hk;have h1:=HGE.out;have h2:=HLT.out;omega);clear b5 hG7) | (refine st_blk rfl 33 (.tmp 4) (.tmp 28) rfl G4 33 _ #[strV [],.slice none 0 0,.slice none 0 0] rfl (by simp [Act.eval,Act.put];rfl) HG45.out rfl sz_mach (mach_one _ _ _ _ _ _ _) ?_;intro w7 hg7 b7))
  refine bodyPost_ret (res_r3 rfl _ w7 G4 _ _ _ (by rfl) hg7) rfl ?_
  refine ⟨Fx.bl' HB5.out (.of_bx b7) (fun k hk=>by subst hk;exact HGE.out),?_⟩
  rw [HT.out]
  rfl
theorem mne {w:World} {base:Nat} {v:Value} {xs:List Str} (h:SL w base v xs) {g:Nat} {cs:Array Value} (hg:w.heap[g]? = some (.cells cs 33 (0,0))):v.ownBlock≠some g:=fun e=>by
 obtain ⟨n,h9⟩:=h.shape e
 rw [blk_shape hg] at h9
 simp at h9
theorem goodMac_start {l:Str} (h:thrB l = true):goodMac ⟨[],[l],[]⟩= true:=by
 unfold goodMac
 simp [h,ownOk,goodWt]
theorem run_yes (l : Str) (k : Int) (w : World) (hs : Short l) (hb : thrB l = true) (h0 : 0 ≤ k) (h2 : k ≤ 200) : Calls Try.prog 28 #[strV l, .int .i64 k] w (RunR (runO l k) w) := by
 obtain ⟨n,rfl⟩:∃ n:Nat,k = n:=⟨k.toNat,by omega⟩
 have HT:Hid (runO l n = runI n ⟨[],[l],[]⟩ []):=by unfold Hid runO;rw [if_pos ⟨hb,h0,h2⟩];rfl
 have cs:=hide fun w=>start_c l w hs
 have ct:Hid (∀ w,Calls Try.prog 39 #[strV l] w fun e w'=>∃ uR uW,e = .returned (.tuple #[.agg #[strV [],uR,uW],.bool true])∧Bl w w'∧SL w' w.heap.size uR [l]∧SL w' w.heap.size uW []∧∀ k,uR.ownBlock = some k→uW.ownBlock≠some k):=fun w=>by
  refine (cs.out w).mono ?_
  rintro e w' ⟨h1,h2⟩
  rw [if_pos hb] at h2
  obtain ⟨v,rfl,uR,uW,rfl,h3,h4,h5⟩:=h2
  exact ⟨uR,uW,rfl,h1,h3,h4,h5⟩
 have HGM:=hide (goodMac_start hb)
 have q1:¬ (n:Int) < 0:=by omega
 have q2:¬ 200 < (n:Int):=by omega
 have q3:(0:Int)≤(n:Int):=h0
 clear cs hb hs h0 h2
 go_enter Try.func28,Try.ntmps28
 go_wp2_with (first | (refine alloc_op rfl 33 rfl _ zero_mach ?_;first | (intro G4 W1 hG4 b1 s1;have HB1:=hide b1;have HGE:Hid (w.heap.size≤G4):=(by have:=s1.out.1;unfold Hid;omega);clear b1 s1) | (intro G7 W3 hG7 b3 s3;have HLT:Hid (G4 < G7):=(by have h1:=s3.out.1;have h2:=blk_lt HG42.out;unfold Hid;omega);have HG43:=hide (blk_bl b3 HG42.out);have HB23:=hide b3;have HB3:=hide (HB2.out.trans b3);clear b3 s3)) | (go_at_call 39;(with_reducible refine (ct.out _).mono ?_);rintro e W2 ⟨uR,uW,rfl,b2,r2,w2,d2⟩;obtain ⟨A1,c1,rfl⟩:=r2.slen;obtain ⟨A2,c2,rfl⟩:=w2.slen;have R2:=hide r2;have Q2:=hide w2;have D2:=hide d2;have SZ2:=hide (Below.size HB1.out);have HG42:=hide (blk_bl b2 hG4);have HB2:=hide (HB1.out.trans b2);clear b2 hG4 r2 w2 d2) | (refine st_blk rfl 33 (.tmp 7) (.tmp 16) rfl G7 33 _ #[strV [],.slice A1 1 c1,.slice A2 0 c2] rfl (by simp [Act.eval,Act.put]) hG7 rfl sz_mach (mach_one _ _ _ _ _ _ _) ?_;intro W5 hG75 b5;have HG73:=hide hG7;have B57:=hide b5;have HG45:=hide ((b5.block G4 (blk_lt HG43.out) (by have:=HLT.out;omega)).trans HG43.out);have HB5:Hid (Bl w W5):=Fx.bl' HB3.out (.of_bx b5) (fun k hk=>by subst hk;have h1:=HGE.out;have h2:=HLT.out;omega);clear b5 hG7))
 have BA:=bl_alloc W5 (.cells #[] 9)
 have h57:=Below.size HB5.out
 have RS0:Hid (RunS w G4 G7 n l (.slice (some ⟨W5.heap.size,0,none⟩) 0 0) ⟨[],[l],[]⟩ [] (.slice A1 1 c1) (.slice A2 0 c2) (W5.alloc (.cells #[] 9))):=by
  have f25:Fx (· = G7) W3 W5:=.of_bx B57.out
  have r5:=((R2.out.bl HB23.out).fx f25 (fun k hk e=>by subst e;exact mne (R2.out.bl HB23.out) HG73.out hk))
  have w5:=((Q2.out.bl HB23.out).fx f25 (fun k hk e=>by subst e;exact mne (Q2.out.bl HB23.out) HG73.out hk))
  refine ⟨HB5.out.trans BA,blk_bl BA HG45.out,⟨HGE.out,HLT.out⟩,blk_bl BA hG75,(r5.bl BA).mono SZ2.out,(w5.bl BA).mono SZ2.out,D2.out,SL.zero W5 h57,?_,HGM.out,Nat.zero_le _,rfl⟩
  intro k hk
  cases hk
  exact ⟨fun e=>Nat.lt_irrefl _ (SL.lt r5 _ e).2,fun e=>Nat.lt_irrefl _ (SL.lt w5 _ e).2⟩
 generalize W5.alloc (.cells #[] 9)= WL at *
 generalize (some ⟨W5.heap.size,0,none⟩:Option Addr)= AL at *
 clear R2 Q2 D2 SZ2 HB1 HB2 HB3 HB5 HB23 HG45 hG75 HGE HLT HG42 HG43 HG73 B57 BA h57 ct HGM
 go_loopg [9] (n + 1) (fun mm v wr=>∃ (m:Mac) (evs:List Str) (uR uW:Value) (A:Option Addr) (c k:Nat),mm = n + 1 - k∧v = .slice A k c∧Hid (k = evs.length)∧Hid (RunS w G4 G7 n l v m evs uR uW wr))
 case atStart=>exact ⟨⟨[],[l],[]⟩,[],_,_,AL,0,0,rfl,rfl,rfl,RS0.out⟩
 case round =>
  obtain ⟨m,evs,uR,uW,A,c,k,hm,rfl,hk,hS⟩:=hrel
  obtain ⟨AR,cR,rfl⟩:=hS.out.r.slen
  obtain ⟨AW,cW,rfl⟩:=hS.out.q.slen
  have HBL:=hide hS.out.bl
  have HG4:=hide hS.out.g4
  have HG7:=hide hS.out.g7
  have HGE:=hide hS.out.ge
  have h1:=blk_cell (i:=1) hS.out.g7 rfl
  have HM:=hide hm
  have qk:(k:Int)≤200:=by have h5:=hS.out.le;have h6:k = evs.length:=hk;omega
  have qk0:(0:Int)≤(k:Int):=by omega
  clear hm
  by_cases hr:m.rd = []
  ·have HE:Hid (runI n ⟨[],[l],[]⟩ [] = some (m,evs)):=by
    have h5:=hS.out.eq
    unfold Hid
    rw [← h5]
    cases n - evs.length <;> simp [runI,hr]
   have e1:¬ (0:Int) < (m.rd.length:Int):=by rw [hr];simp
   have e1':(m.rd.length:Int)= 0:=by rw [hr];rfl
   clear hr
   go_wp2_with (first | (refine ld_blk rfl 33 (.tmp 7) rfl G7 33 #[strV m.own,.slice AR m.rd.length cR,.slice AW m.wt.length cW] _ rfl HG7.out Try.underlying33 rfl sz_mach ?_) | (refine st_blk rfl 33 (.tmp 4) (.tmp 54) rfl G4 33 _ #[strV m.own,.slice AR m.rd.length cR,.slice AW m.wt.length cW] rfl (by simp [Act.eval,Act.put]) HG4.out rfl sz_mach (mach_one _ _ _ _ _ _ _) ?_;intro w7 hg7 b7))
   refine bodyPost_ret (res_r3 rfl _ w7 G4 _ _ _ (by rfl) hg7) rfl ?_
   refine ⟨Fx.bl' HBL.out (.of_bx b7) (fun j hj=>by subst hj;exact HGE.out.1),?_⟩
   rw [HT.out,HE.out]
   exact ⟨_,_,rfl,⟨_,_,rfl,hS.out.r.fx (.of_bx b7) (fun j hj e=>by subst e;exact mne hS.out.r HG4.out hj),hS.out.q.fx (.of_bx b7) (fun j hj e=>by subst e;exact mne hS.out.q HG4.out hj),hS.out.d⟩,hS.out.s.fx (.of_bx b7) (fun j hj e=>by subst e;exact mne hS.out.s HG4.out hj)⟩
  have e1:(0:Int) < (m.rd.length:Int):=by have:=List.length_pos_iff.2 hr;omega
  by_cases hlt:k < n
  ·have e2 : (k : Int) < (n : Int) := by omega
   have ct:=hide fun (w2:World) (h:Bl wr w2)=>ticked2_c m hS.out.good hr _ _ w2 ((hS.out.r.bl h).mono (Nat.zero_le _)) ((hS.out.q.bl h).mono (Nat.zero_le _))
   have HE:Hid (runI n ⟨[],[l],[]⟩ [] = match tickM m with
     | none=>none
     | some (m',ev)=>runI (n - (k + 1)) m' (evs ++ [ev])):=by
    have h5:=hS.out.eq
    have h6:n - evs.length = (n - (k + 1))+ 1:=by have h7:k = evs.length:=hk;omega
    unfold Hid
    rw [← h5,h6,runI,if_neg hr]
   have HLT:=hide hlt
   unfold TickedR at ct
   clear hr hlt
   cases hto:tickM m with
   | none=>
     rw [hto] at ct HE
     clear hto
     go_wp2_with (first | (refine ld_blk rfl 33 (.tmp 7) rfl G7 33 #[strV m.own,.slice AR m.rd.length cR,.slice AW m.wt.length cW] _ rfl HG7.out Try.underlying33 rfl sz_mach ?_) | (go_at_call 36;(with_reducible refine (ct.out _ (Bl.refl _)).mono ?_);rintro e W4 ⟨b4,rfl⟩;have B4:=hide b4;clear b4) | (refine alloc_op rfl 33 rfl _ zero_mach ?_;intro G10 W6 hG10 b6 s6;have HGE6:Hid (wr.heap.size≤G10):=(by have h1:=s6.out.1;have h2:=Below.size B4.out;unfold Hid;omega);have BW6:=hide (B4.out.trans b6);have HG10:=hide hG10;clear b6 s6 hG10) | (refine st_blk rfl 33 (.tmp 10) (.tmp 43) rfl G10 33 _ #[strV [],.slice none 0 0,.slice none 0 0] rfl (by simp [Act.eval,Act.put]) HG10.out rfl sz_mach (mach_one _ _ _ _ _ _ _) ?_;intro W8 hg8 b8;have BW8:Hid (Bl wr W8):=Fx.bl' BW6.out (.of_bx b8) (fun j hj=>by subst hj;exact HGE6.out);have HG48:=hide (blk_bl BW8.out HG4.out);have B68:=hide b8;have HG108:=hide hg8;clear b8 hg8) | (refine st_blk rfl 33 (.tmp 4) (.tmp 48) rfl G4 33 _ #[strV [],.slice none 0 0,.slice none 0 0] rfl (by simp [Act.eval,Act.put];rfl) HG48.out rfl sz_mach (mach_one _ _ _ _ _ _ _) ?_;intro w7 hg7 b7))
     refine bodyPost_ret (res_r3 rfl _ w7 G4 _ _ _ (by rfl) hg7) rfl ?_
     refine ⟨Fx.bl' (HBL.out.trans BW8.out) (.of_bx b7) (fun j hj=>by subst hj;exact HGE.out.1),?_⟩
     rw [HT.out,HE.out]
     rfl
   | some r=>
     obtain ⟨m',ev⟩:=r
     have HGD:=hide (tickM_good hto)
     rw [hto] at ct HE
     clear hto
     go_upto_region 9 with (first | (refine ld_blk rfl 33 (.tmp 7) rfl G7 33 #[strV m.own,.slice AR m.rd.length cR,.slice AW m.wt.length cW] _ rfl HG7.out Try.underlying33 rfl sz_mach ?_) | (go_at_call 36;(with_reducible refine (ct.out _ (Bl.refl _)).mono ?_);rintro e W4 ⟨b4,v,rfl,uR,uW,rfl,r4,q4,d4⟩;obtain ⟨A4,c4,rfl⟩:=r4.slen;obtain ⟨A5,c5,rfl⟩:=q4.slen;have R4:=hide r4;have Q4:=hide q4;have D4:=hide d4;have B4:=hide b4;clear b4 r4 q4 d4) | (refine alloc_op rfl 33 rfl _ zero_mach ?_;intro G10 W6 hG10 b6 s6;have HGE6:Hid (wr.heap.size≤G10):=(by have h1:=s6.out.1;have h2:=Below.size B4.out;unfold Hid;omega);have B46:=hide b6;have BW6:=hide (B4.out.trans b6);have HG10:=hide hG10;clear b6 s6 hG10) | (refine st_blk rfl 33 (.tmp 10) (.tmp 43) rfl G10 33 _ #[strV m'.own,.slice A4 m'.rd.length c4,.slice A5 m'.wt.length c5] rfl (by simp [Act.eval,Act.put]) HG10.out rfl sz_mach (mach_one _ _ _ _ _ _ _) ?_;intro W8 hg8 b8;have BW8:Hid (Bl wr W8):=Fx.bl' BW6.out (.of_bx b8) (fun j hj=>by subst hj;exact HGE6.out);have HG48:=hide (blk_bl BW8.out HG4.out);have B68:=hide b8;have HG108:=hide hg8;clear b8 hg8))
     have r8:SL W8 wr.heap.size (.slice A4 m'.rd.length c4) m'.rd:=(R4.out.bl B46.out).fx (.of_bx B68.out) (fun j hj e=>by subst e;exact mne (R4.out.bl B46.out) HG10.out hj)
     have q8:SL W8 wr.heap.size (.slice A5 m'.wt.length c5) m'.wt:=(Q4.out.bl B46.out).fx (.of_bx B68.out) (fun j hj e=>by subst e;exact mne (Q4.out.bl B46.out) HG10.out hj)
     have R8:=hide r8
     have Q8:=hide q8
     have HGA:=hide HG108.out
     clear r8 q8 R4 Q4 B46 B68 HG10 BW6 HGE6 B4 HG108 h1
     refine AnyT.start 7 (fun w2=>w2.heap[G10]? = some (.cells #[strV m'.own,.slice A4 m'.rd.length c4,.slice A5 m'.wt.length c5] 33 (0,0))) (fun j=>[5].contains j) (by kernel_rfl) (by rfl) ?_
     have hHeld:(fun w2:World=>w2.heap[G10]? = some (.cells #[strV m'.own,.slice A4 m'.rd.length c4,.slice A5 m'.wt.length c5] 33 (0,0))) W8.drew:=HGA.out
     have BD:Hid (Bl W8 W8.drew):=bl_drew (Bl.refl _)
     clear HGA
     generalize W8.drew = D at *
     refine AnyT.load (i:=0) rfl (by kernel_rfl) (by kernel_rfl) (by kernel_rfl) (by kernel_rfl) (fun _ _ _ h=>h) (yieldsIf_blk (by rfl) 33 (.tmp 10) rfl G10 33 #[strV m'.own,.slice A4 m'.rd.length c4,.slice A5 m'.wt.length c5] _ (by rfl) (fun w h=>h) Try.underlying33 rfl sz_mach) (by assumption) ?_
     try simp only [Act.put,sqa,sqb,sqc]
     refine AnyT.tk 1 ?_
     refine AnyT.tk 2 ?_
     try simp only [Act.put,sqa,sqb,sqc]
     refine AnyT.one (i:=3) rfl (by kernel_rfl) (fun K hK=>?_)
     go_simp
     refine hK.out _ _ ?_ ?_
     ·exact blk_bl (bl_alloc _ _) hHeld
     intro hHeld
     clear hK K
     try simp only [Act.put,sqa,sqb,sqc]
     have b3:Bl W8 (D.alloc (.cells #[.string (S ev)] 9)):=BD.out.trans (bl_alloc _ _)
     have zD:w.heap.size≤D.heap.size:=Below.size ((HBL.out.trans BW8.out).trans BD.out)
     have hone:=hide (SL.one D ev zD).src
     have s3:=hide (hS.out.s.bl (BW8.out.trans b3))
     have hlen:Hid (evs.length + [ev].length≤100000):=by have h7:k = evs.length:=hk;unfold Hid;simp;omega
     have zB:Hid (w.heap.size≤(D.alloc (.cells #[.string (S ev)] 9)).heap.size):=Nat.le_trans zD (Below.size (bl_alloc _ _))
     have HNL:Hid ((evs ++ [ev]).length = k + 1):=by have h7:k = evs.length:=hk;unfold Hid;rw [List.length_append,h7];rfl
     have B3:=hide b3
     have HG103:=hide hHeld
     clear b3 zD BD
     obtain ⟨ND,hND⟩:∃ x:Option Addr,x = some ⟨D.heap.size,0,none⟩:=⟨_,rfl⟩
     generalize hW3:D.alloc (.cells #[.string (S ev)] 9)= W3 at *
     refine AnyT.one (i:=4) rfl (by kernel_rfl) (fun K hK=>?_)
     (refine sl_step W3 (.tmp 50) (.tmp 52) w.heap.size (.slice A k c) (.slice (some ⟨D.heap.size,0,none⟩) 1 1) evs [ev] rfl rfl (by simp [Act.eval]) (by simp [Act.eval]) s3.out hone.out hlen.out zB.out ?_;intro v9 W9 hs9 hg9 ha9;obtain ⟨A9,c9,e9⟩:=hs9.slen;rw [HNL.out] at e9;subst e9)
     refine hK.out _ _ ?_ ?_
     ·exact (fx_grown hg9).heap (fun e=>mne s3.out HG103.out e) HG103.out
     intro hHeld
     clear hK K
     try simp only [Act.put,sqa,sqb,sqc]
     have HG79:=hide ((fx_grown hg9).heap (fun e=>mne s3.out (blk_bl (BW8.out.trans B3.out) HG7.out) e) (blk_bl (BW8.out.trans B3.out) HG7.out))
     refine AnyT.tail (i:=5) rfl (by kernel_rfl) (by rfl) (fun K hK=>?_)
     (refine wanted_wp rfl (wp_stb 33 (.tmp 7) (.tmp 49) rfl G7 33 _ #[strV m'.own,.slice A4 m'.rd.length c4,.slice A5 m'.wt.length c5] rfl (by simp [Act.eval]) HG79.out rfl sz_mach (mach_one _ _ _ _ _ _ _) ?_);intro W5 h5 b5)
     refine hK.out _ _ ?_
     clear hK K
     try simp only [Act.put,sqa,sqb,sqc]
     refine AnyT.tk 6 ?_
     try simp only [Act.put,sqa,sqb,sqc]
     refine AnyT.done (by kernel_rfl) ?_
     have z3:=Below.size (BW8.out.trans B3.out)
     have bl9:Bl w W9:=Fx.bl' (HBL.out.trans (BW8.out.trans B3.out)) (fx_grown hg9) (fun j hj=>(SL.lt s3.out j hj).1)
     have bl5:Bl w W5:=Fx.bl' bl9 (.of_bx b5) (fun j hj=>by subst hj;have:=HGE.out;omega)
     have f5:Fx (· = G7) W9 W5:=.of_bx b5
     have hold:∀ j,(Value.slice A k c).ownBlock = some j→j < wr.heap.size:=fun j hj=>(SL.lt hS.out.s j hj).2
     have r3:=R8.out.bl B3.out
     have q3':=Q8.out.bl B3.out
     have r9:=r3.fx (fx_grown hg9) (fun j hj e=>by have h5:=hold j e;have h6:=(SL.lt r3 j hj).1;omega)
     have q9:=q3'.fx (fx_grown hg9) (fun j hj e=>by have h5:=hold j e;have h6:=(SL.lt q3' j hj).1;omega)
     have g49:=(fx_grown hg9).heap (fun e=>mne s3.out (blk_bl B3.out HG48.out) e) (blk_bl B3.out HG48.out)
     have z0:=Below.size HBL.out
     have hRS:Hid (RunS w G4 G7 n l (.slice A9 (k + 1) c9) m' (evs ++ [ev]) (.slice A4 m'.rd.length c4) (.slice A5 m'.wt.length c5) W5):=by
      refine ⟨bl5,f5.heap (fun e=>by have h6:=HGE.out;have h7:G4 = G7:=e;omega) g49,HGE.out,h5,(r9.fx f5 (fun j hj e=>by subst e;exact mne r9 HG79.out hj)).mono z0,(q9.fx f5 (fun j hj e=>by subst e;exact mne q9 HG79.out hj)).mono z0,D4.out,hs9.fx f5 (fun j hj e=>by subst e;exact mne hs9 HG79.out hj),?_,HGD.out,?_,?_⟩
      ·intro j hj
       rcases ha9 with h | h
       ·rw [h] at hj
        have h6:=hold j hj
        exact ⟨fun e=>by have h7:=(SL.lt r3 j e).1;omega,fun e=>by have h7:=(SL.lt q3' j e).1;omega⟩
       ·rw [h] at hj
        cases hj
        exact ⟨fun e=>Nat.lt_irrefl _ (SL.lt r3 _ e).2,fun e=>Nat.lt_irrefl _ (SL.lt q3' _ e).2⟩
      ·rw [HNL.out];exact HLT.out
      ·rw [HNL.out];exact HE.out.symm
     clear z3 bl9 bl5 f5 hold r3 q3' r9 q9 g49 z0 hs9 hg9 ha9 h5 b5
     go_wp2_with fail
     go_roundg (n + 1 - (k + 1))
     case measure=>have h7:=HM.out;have h8:=HLT.out;omega
     case rel=>exact ⟨m',evs ++ [ev],_,_,A9,c9,k + 1,rfl,by go_num,HNL.out.symm,hRS.out⟩
  ·have e2:¬ (k:Int) < (n:Int):=by omega
   have HE:Hid (runI n ⟨[],[l],[]⟩ [] = some (m,evs)):=by
    have h5:=hS.out.eq
    have h6:n - evs.length = 0:=by have h7:k = evs.length:=hk;omega
    unfold Hid
    rw [← h5,h6]
    rfl
   clear hr hlt
   go_wp2_with (first | (refine ld_blk rfl 33 (.tmp 7) rfl G7 33 #[strV m.own,.slice AR m.rd.length cR,.slice AW m.wt.length cW] _ rfl HG7.out Try.underlying33 rfl sz_mach ?_) | (refine st_blk rfl 33 (.tmp 4) (.tmp 54) rfl G4 33 _ #[strV m.own,.slice AR m.rd.length cR,.slice AW m.wt.length cW] rfl (by simp [Act.eval,Act.put]) HG4.out rfl sz_mach (mach_one _ _ _ _ _ _ _) ?_;intro w7 hg7 b7))
   refine bodyPost_ret (res_r3 rfl _ w7 G4 _ _ _ (by rfl) hg7) rfl ?_
   refine ⟨Fx.bl' HBL.out (.of_bx b7) (fun j hj=>by subst hj;exact HGE.out.1),?_⟩
   rw [HT.out,HE.out]
   exact ⟨_,_,rfl,⟨_,_,rfl,hS.out.r.fx (.of_bx b7) (fun j hj e=>by subst e;exact mne hS.out.r HG4.out hj),hS.out.q.fx (.of_bx b7) (fun j hj e=>by subst e;exact mne hS.out.q HG4.out hj),hS.out.d⟩,hS.out.s.fx (.of_bx b7) (fun j hj e=>by subst e;exact mne hS.out.s HG4.out hj)⟩
theorem run_c (l:Str) (k:Int) (w:World) (hs:Short l):Calls Try.prog 28 #[strV l,.int .i64 k] w (RunR (runO l k) w):=by
 by_cases h:thrB l = true∧0≤k∧k≤200
 ·exact run_yes l k w hs h.1 h.2.1 h.2.2
 ·exact run_no l k w hs h
end Go.Proofs.Ytmmnnhaecjpfdaa
namespace Go.Proofs.Ytmmnnhaecjpfdaa
open Go.RowKit
attribute [local go_sem] S_size S_toList S_lit S_get S_extract S_append drop_all
def runM (o:Option (Mac × List Str)):Mac:=(o.map (·.1)).getD ⟨[],[],[]⟩
def runE (o:Option (Mac × List Str)):List Str:=(o.map (·.2)).getD []
def RunU (m:Mac) (evs:List Str) (ok:Bool) (w:World) (e:Ending) (w':World):Prop:=Bl w w'∧∃ uR uW u,e = .returned (.tuple #[.agg #[strV m.own,uR,uW],u,.bool ok])∧SL w' w.heap.size uR m.rd∧SL w' w.heap.size uW m.wt∧(∀ k,uR.ownBlock = some k→uW.ownBlock≠some k)∧SL w' w.heap.size u evs
theorem run_u (l:Str) (k:Int) (w:World) (hs:Short l):Calls Try.prog 28 #[strV l,.int .i64 k] w (RunU (runM (runO l k)) (runE (runO l k)) (runO l k).isSome w):=by
 refine (run_c l k w hs).mono ?_
 rintro e w' ⟨h1,h2⟩
 refine ⟨h1,?_⟩
 cases ho:runO l k with
 | none=>rw [ho] at h2;exact ⟨_,_,_,h2,SL.nil _ _,SL.nil _ _,fun k e=>(by cases e),SL.nil _ _⟩
 | some r=>
   obtain ⟨m,evs⟩:=r
   rw [ho] at h2
   obtain ⟨v,u,rfl,⟨uR,uW,rfl,h3,h4,h5⟩,h6⟩:=h2
   exact ⟨uR,uW,u,rfl,h3,h4,h5,h6⟩
theorem traceOf_c (l:Str) (k:Int) (w:World) (hs:Short l):Calls Try.prog 13 #[strV l,.int .i64 k] w fun e w'=>Bl w w'∧∃ u,e = .returned (.tuple #[u,.bool (runO l k).isSome])∧SL w' w.heap.size u (runE (runO l k)):=by
 have cr:=hide fun w=>run_u l k w hs
 clear hs
 generalize runM (runO l k)= m at *
 generalize runE (runO l k)= evs at *
 generalize (runO l k).isSome = ok at *
 go_enter Try.func13,Try.ntmps13
 go_wp2_with (first | (go_at_call 28;(with_reducible refine (cr.out _).mono ?_);rintro e W2 ⟨b2,uR,uW,u,rfl,r2,q2,d2,s2⟩;obtain ⟨A1,c1,rfl⟩:=r2.slen;obtain ⟨A2,c2,rfl⟩:=q2.slen;obtain ⟨A3,c3,rfl⟩:=s2.slen;have R2:=hide r2;have Q2:=hide q2;have D2:=hide d2;have S2:=hide s2;have B2:=hide b2;clear b2 r2 q2 d2 s2) | (refine alloc_op rfl 33 rfl _ zero_mach ?_;intro G6 W3 hG6 b3 s3;have HGE6:Hid (w.heap.size≤G6):=(by have h1:=s3.out.1;have h2:=Below.size B2.out;unfold Hid;omega);have B23:=hide b3;have HG63:=hide hG6;clear b3 s3) | (refine st_blk rfl 33 (.tmp 6) (.tmp 13) rfl G6 33 _ #[strV m.own,.slice A1 m.rd.length c1,.slice A2 m.wt.length c2] rfl (by simp [Act.eval,Act.put]) hG6 rfl sz_mach (mach_one _ _ _ _ _ _ _) ?_;intro W5 hG65 b5))
 go_ret2
 refine ⟨Fx.bl' (B2.out.trans B23.out) (.of_bx b5) (fun j hj=>by subst hj;exact HGE6.out),_,rfl,?_⟩
 exact (S2.out.bl B23.out).fx (.of_bx b5) (fun j hj e=>by subst e;exact mne (S2.out.bl B23.out) HG63.out hj)
theorem runMachine_c (l:Str) (k:Int) (w:World) (hs:Short l):Calls Try.prog 18 #[strV l,.int .i64 k] w fun e w'=>Bl w w'∧∃ v,e = .returned (.tuple #[v,.bool (runO l k).isSome])∧MacR w w' (runM (runO l k)) v:=by
 have cr:=hide fun w=>run_u l k w hs
 clear hs
 generalize runM (runO l k)= m at *
 generalize runE (runO l k)= evs at *
 generalize (runO l k).isSome = ok at *
 go_enter Try.func18,Try.ntmps18
 go_wp2_with (first | (refine alloc_op rfl 33 rfl _ zero_mach ?_;first | (intro G4 W1 hG4 b1 s1;have HB1:=hide b1;have HGE:Hid (w.heap.size≤G4):=(by have:=s1.out.1;unfold Hid;omega);clear b1 s1) | (intro G6 W3 hG6 b3 s3;have HLT:Hid (G4 < G6):=(by have h1:=s3.out.1;have h2:=blk_lt HG42.out;unfold Hid;omega);have HG43:=hide (blk_bl b3 HG42.out);have B23:=hide b3;have HG63:=hide hG6;clear b3 s3)) | (go_at_call 28;(with_reducible refine (cr.out _).mono ?_);rintro e W2 ⟨b2,uR,uW,u,rfl,r2,q2,d2,s2⟩;obtain ⟨A1,c1,rfl⟩:=r2.slen;obtain ⟨A2,c2,rfl⟩:=q2.slen;obtain ⟨A3,c3,rfl⟩:=s2.slen;have R2:=hide r2;have Q2:=hide q2;have D2:=hide d2;have S2:=hide s2;have B2:=hide b2;clear b2 r2 q2 d2 s2;have HG42:=hide (blk_bl B2.out hG4);clear hG4) | (refine st_blk rfl 33 (.tmp 6) (.tmp 13) rfl G6 33 _ #[strV m.own,.slice A1 m.rd.length c1,.slice A2 m.wt.length c2] rfl (by simp [Act.eval,Act.put]) hG6 rfl sz_mach (mach_one _ _ _ _ _ _ _) ?_;intro W5 hG65 b5;have HG45:=hide ((b5.block G4 (blk_lt HG43.out) (by have:=HLT.out;omega)).trans HG43.out);have B5:=hide b5;have HG65:=hide hG65;clear b5) | (refine ld_blk rfl 33 (.tmp 6) rfl G6 33 #[strV m.own,.slice A1 m.rd.length c1,.slice A2 m.wt.length c2] _ rfl HG65.out Try.underlying33 rfl sz_mach ?_) | (refine st_blk rfl 33 (.tmp 4) (.tmp 16) rfl G4 33 _ #[strV m.own,.slice A1 m.rd.length c1,.slice A2 m.wt.length c2] rfl (by simp [Act.eval,Act.put]) HG45.out rfl sz_mach (mach_one _ _ _ _ _ _ _) ?_;intro w7 hg7 b7))
 refine bodyPost_ret (res_c2 rfl _ w7 G4 _ _ _ (by rfl) hg7) rfl ?_
 have z2:=Below.size HB1.out
 have f5:Fx (· = G6) W3 W5:=.of_bx B5.out
 have f7:Fx (· = G4) W5 w7:=.of_bx b7
 have r3:=R2.out.bl B23.out
 have q3:=Q2.out.bl B23.out
 have r5:=r3.fx f5 (fun j hj e=>by subst e;exact mne r3 HG63.out hj)
 have q5:=q3.fx f5 (fun j hj e=>by subst e;exact mne q3 HG63.out hj)
 refine ⟨Fx.bl' (Fx.bl' ((HB1.out.trans B2.out).trans B23.out) f5 (fun j hj=>by subst hj;have h1:=HGE.out;have h2:=HLT.out;omega)) f7 (fun j hj=>by subst hj;exact HGE.out),_,rfl,_,_,rfl,?_,?_,D2.out⟩
 ·exact (r5.fx f7 (fun j hj e=>by subst e;exact mne r5 HG45.out hj)).mono z2
 ·exact (q5.fx f7 (fun j hj e=>by subst e;exact mne q5 HG45.out hj)).mono z2
def restI (l:Str):Option Nat:=if (runO l 200).isSome = true∧(runM (runO l 200)).rd = [] then some (runE (runO l 200)).length else none
theorem ticksToRest_c (l:Str) (w:World) (hs:Short l):Calls Try.prog 9 #[strV l] w fun e w'=>Bl w w'∧e = .returned (.tuple #[.int .i64 (((restI l).getD 0:Nat):Int),.bool (restI l).isSome]):=by
 have cr:=hide fun w=>run_u l 200 w hs
 have HR:Hid (restI l = if (runO l 200).isSome = true∧(runM (runO l 200)).rd = [] then some (runE (runO l 200)).length else none):=rfl
 clear hs
 generalize runM (runO l 200)= m at *
 generalize runE (runO l 200)= evs at *
 generalize (runO l 200).isSome = ok at *
 cases ok with
 | false=>
   have HR2:Hid (restI l = none):=HR.out.trans (if_neg (by simp))
   go_enter Try.func9,Try.ntmps9
   go_wp2_with (first | (go_at_call 28;(with_reducible refine (cr.out _).mono ?_);rintro e W2 ⟨b2,uR,uW,u,rfl,r2,q2,d2,s2⟩;obtain ⟨A1,c1,rfl⟩:=r2.slen;obtain ⟨A2,c2,rfl⟩:=q2.slen;obtain ⟨A3,c3,rfl⟩:=s2.slen;have R2:=hide r2;have Q2:=hide q2;have D2:=hide d2;have S2:=hide s2;have B2:=hide b2;clear b2 r2 q2 d2 s2) | (refine alloc_op rfl 33 rfl _ zero_mach ?_;intro G6 W3 hG6 b3 s3;have HGE6:Hid (w.heap.size≤G6):=(by have h1:=s3.out.1;have h2:=Below.size B2.out;unfold Hid;omega);have B23:=hide b3;have HG63:=hide hG6;clear b3 s3) | (refine st_blk rfl 33 (.tmp 4) (.tmp 10) rfl G6 33 _ #[strV m.own,.slice A1 m.rd.length c1,.slice A2 m.wt.length c2] rfl (by simp [Act.eval,Act.put]) hG6 rfl sz_mach (mach_one _ _ _ _ _ _ _) ?_;intro W5 hG65 b5))
   go_ret2
   rw [HR2.out]
   exact ⟨Fx.bl' (B2.out.trans B23.out) (.of_bx b5) (fun j hj=>by subst hj;exact HGE6.out),rfl⟩
 | true=>
   by_cases hr:m.rd = []
   ·have HR2:Hid (restI l = some evs.length):=HR.out.trans (if_pos ⟨rfl,hr⟩)
    have e1:¬ (0:Int) < (m.rd.length:Int):=by rw [hr];simp
    have e1':(m.rd.length:Int)= 0:=by rw [hr];rfl
    clear hr
    go_enter Try.func9,Try.ntmps9
    go_wp2_with (first | (go_at_call 28;(with_reducible refine (cr.out _).mono ?_);rintro e W2 ⟨b2,uR,uW,u,rfl,r2,q2,d2,s2⟩;obtain ⟨A1,c1,rfl⟩:=r2.slen;obtain ⟨A2,c2,rfl⟩:=q2.slen;obtain ⟨A3,c3,rfl⟩:=s2.slen;have R2:=hide r2;have Q2:=hide q2;have D2:=hide d2;have S2:=hide s2;have B2:=hide b2;clear b2 r2 q2 d2 s2) | (refine alloc_op rfl 33 rfl _ zero_mach ?_;intro G6 W3 hG6 b3 s3;have HGE6:Hid (w.heap.size≤G6):=(by have h1:=s3.out.1;have h2:=Below.size B2.out;unfold Hid;omega);have B23:=hide b3;have HG63:=hide hG6;clear b3 s3) | (refine st_blk rfl 33 (.tmp 4) (.tmp 10) rfl G6 33 _ #[strV m.own,.slice A1 m.rd.length c1,.slice A2 m.wt.length c2] rfl (by simp [Act.eval,Act.put]) hG6 rfl sz_mach (mach_one _ _ _ _ _ _ _) ?_;intro W5 hG65 b5;have h1:=blk_cell (i:=1) hG65 rfl))
    go_ret2
    rw [HR2.out]
    exact ⟨Fx.bl' (B2.out.trans B23.out) (.of_bx b5) (fun j hj=>by subst hj;exact HGE6.out),rfl⟩
   ·have HR2:Hid (restI l = none):=HR.out.trans (if_neg (by simp [hr]))
    have e1:(0:Int) < (m.rd.length:Int):=by have:=List.length_pos_iff.2 hr;omega
    clear hr
    go_enter Try.func9,Try.ntmps9
    go_wp2_with (first | (go_at_call 28;(with_reducible refine (cr.out _).mono ?_);rintro e W2 ⟨b2,uR,uW,u,rfl,r2,q2,d2,s2⟩;obtain ⟨A1,c1,rfl⟩:=r2.slen;obtain ⟨A2,c2,rfl⟩:=q2.slen;obtain ⟨A3,c3,rfl⟩:=s2.slen;have R2:=hide r2;have Q2:=hide q2;have D2:=hide d2;have S2:=hide s2;have B2:=hide b2;clear b2 r2 q2 d2 s2) | (refine alloc_op rfl 33 rfl _ zero_mach ?_;intro G6 W3 hG6 b3 s3;have HGE6:Hid (w.heap.size≤G6):=(by have h1:=s3.out.1;have h2:=Below.size B2.out;unfold Hid;omega);have B23:=hide b3;have HG63:=hide hG6;clear b3 s3) | (refine st_blk rfl 33 (.tmp 4) (.tmp 10) rfl G6 33 _ #[strV m.own,.slice A1 m.rd.length c1,.slice A2 m.wt.length c2] rfl (by simp [Act.eval,Act.put]) hG6 rfl sz_mach (mach_one _ _ _ _ _ _ _) ?_;intro W5 hG65 b5;have h1:=blk_cell (i:=1) hG65 rfl))
    go_ret2
    rw [HR2.out]
    exact ⟨Fx.bl' (B2.out.trans B23.out) (.of_bx b5) (fun j hj=>by subst hj;exact HGE6.out),rfl⟩
theorem runI_len:∀ (n:Nat) (m:Mac) (evs:List Str) (m':Mac) (evs':List Str),runI n m evs = some (m',evs')→evs'.length≤evs.length + n:=by
 intro n
 induction n with
 | zero=>intro m evs m' evs' h;cases h;omega
 | succ n ih=>
   intro m evs m' evs' h
   unfold runI at h
   split at h
   ·cases h;omega
   ·split at h
    ·cases h
    ·have:=ih _ _ _ _ h
     rw [List.length_append] at this
     simp at this
     omega
theorem runE_len (l:Str) (k:Int):(runE (runO l k)).length≤200:=by
 unfold runE
 cases h:runO l k with
 | none=>simp
 | some r=>
   obtain ⟨m,evs⟩:=r
   unfold runO at h
   split at h
   ·rename_i h2
    have:=runI_len _ _ _ _ _ h
    simp at this ⊢
    omega
   ·cases h
def big3 (e:Str):Bool:=decide (e.length = 3)
def mtI (l:Str) (k:Int):Nat:=((runE (runO l k)).filter big3).length
theorem meetingsOf_c (l:Str) (k:Int) (w:World) (hs:Short l):Calls Try.prog 11 #[strV l,.int .i64 k] w fun e w'=>Bl w w'∧e = .returned (.tuple #[.int .i64 ((mtI l k:Nat):Int),.bool (runO l k).isSome]):=by
 have cr:=hide fun w=>run_u l k w hs
 have hlen:=runE_len l k
 unfold mtI
 clear hs
 generalize runM (runO l k)= m at *
 generalize runE (runO l k)= evs at *
 generalize (runO l k).isSome = ok at *
 have q1:(evs.length:Int)≤200:=by omega
 have q0:(0:Int)≤(evs.length:Int):=by omega
 go_enter Try.func11,Try.ntmps11
 go_wp2_with (first | (go_at_call 28;(with_reducible refine (cr.out _).mono ?_);rintro e W2 ⟨b2,uR,uW,u,rfl,r2,q2,d2,s2⟩;obtain ⟨A1,c1,rfl⟩:=r2.slen;obtain ⟨A2,c2,rfl⟩:=q2.slen;obtain ⟨A3,c3,rfl⟩:=s2.slen;have R2:=hide r2;have Q2:=hide q2;have D2:=hide d2;have S2:=hide s2;have B2:=hide b2;clear b2 r2 q2 d2 s2) | (refine alloc_op rfl 33 rfl _ zero_mach ?_;intro G6 W3 hG6 b3 s3;have HGE6:Hid (w.heap.size≤G6):=(by have h1:=s3.out.1;have h2:=Below.size B2.out;unfold Hid;omega);have B23:=hide b3;have HG63:=hide hG6;clear b3 s3) | (refine st_blk rfl 33 (.tmp 6) (.tmp 16) rfl G6 33 _ #[strV m.own,.slice A1 m.rd.length c1,.slice A2 m.wt.length c2] rfl (by simp [Act.eval,Act.put]) hG6 rfl sz_mach (mach_one _ _ _ _ _ _ _) ?_;intro W5 hG65 b5))
 have BL:Hid (Bl w W5):=Fx.bl' (B2.out.trans B23.out) (.of_bx b5) (fun j hj=>by subst hj;exact HGE6.out)
 have S5:Hid (SL W5 w.heap.size (.slice A3 evs.length c3) evs):=(S2.out.bl B23.out).fx (.of_bx b5) (fun j hj e=>by subst e;exact mne (S2.out.bl B23.out) HG63.out hj)
 clear B2 B23 b5 hG65 HGE6 HG63 S2 R2 Q2 D2 cr
 go_loopg [9,21] (evs.length + 1) (fun mm v i wr=>∃ (j n:Nat),mm = evs.length + 1 - j∧i = .int .i64 j∧v = .int .i64 n∧Hid (j≤evs.length)∧Hid (n≤j)∧Hid (n + ((evs.drop j).filter big3).length = (evs.filter big3).length)∧Bl W5 wr)
 case atStart=>exact ⟨0,0,rfl,rfl,rfl,Nat.zero_le _,Nat.le_refl _,by unfold Hid;simp,Bl.refl _⟩
 case round=>
  obtain ⟨j,n,hm,rfl,rfl,hj,hn,hE,hbw⟩:=hrel
  have HM:=hide hm
  have q2:(0:Int)≤(j:Int):=by omega
  have q4:(0:Int)≤(n:Int):=by omega
  have q5:(n:Int)≤200:=by have h5:=hj.out;have h6:=hn.out;omega
  have HBW:=hide hbw
  clear hm hbw
  by_cases hlt:j < evs.length
  ·have q3:(j:Int) < (evs.length:Int):=by omega
   obtain ⟨l2,hl⟩:∃ l,evs[j]? = some l:=⟨_,List.getElem?_eq_getElem hlt⟩
   rcases (S5.out.bl HBW.out).form with ⟨e,hq⟩ | ⟨gr,cr,e,-,-,hcell⟩
   ·rw [hq] at hlt;simp at hlt
   cases e
   have hcl:=hcell j l2 hl
   have hdr:evs.drop j = l2 :: evs.drop (j + 1):=by
    rw [List.drop_eq_getElem_cons hlt]
    congr 1
    exact (List.getElem?_eq_some_iff.1 hl).2
   have HLT:=hide hlt
   by_cases h3:l2.length = 3
   ·have q6:((l2.length:Int)== 3)= true:=by rw [h3];rfl
    have q7:(l2.length:Int)= 3:=by omega
    have hE2:Hid ((n + 1)+ ((evs.drop (j + 1)).filter big3).length = (evs.filter big3).length):=by
     have h7:=hE.out
     rw [hdr,List.filter_cons_of_pos (by simp [big3,h3])] at h7
     unfold Hid
     rw [← h7,List.length_cons]
     omega
    clear hcell hl hlt hdr hE h3
    go_wp2_with fail
    go_roundg (evs.length + 1 - (j + 1))
    case measure=>have:=HM.out;have:=HLT.out;omega
    case rel=>exact ⟨j + 1,n + 1,rfl,by go_num,by go_num,HLT.out,Nat.succ_le_succ hn.out,hE2.out,HBW.out⟩
   ·have q6:((l2.length:Int)== 3)= false:=beq_eq_false_iff_ne.2 (by omega)
    have q7:¬ (l2.length:Int)= 3:=by omega
    have hE2:Hid (n + ((evs.drop (j + 1)).filter big3).length = (evs.filter big3).length):=by
     have h7:=hE.out
     rw [hdr,List.filter_cons_of_neg (by simp [big3,h3])] at h7
     exact h7
    clear hcell hl hlt hdr hE h3
    go_wp2_with fail
    go_roundg (evs.length + 1 - (j + 1))
    case measure=>have:=HM.out;have:=HLT.out;omega
    case rel=>exact ⟨j + 1,n,rfl,by go_num,rfl,HLT.out,Nat.le_succ_of_le hn.out,hE2.out,HBW.out⟩
  ·obtain rfl:j = evs.length:=by have:=hj.out;omega
   have hN:n = (evs.filter big3).length:=by
    have h7:=hE.out
    rw [List.drop_length] at h7
    simpa using h7
   have q3:¬ ((evs.length:Nat):Int) < (evs.length:Int):=by omega
   clear hE hlt
   go_wp2_with fail
   go_ret2
   exact ⟨BL.out.trans HBW.out,rfl⟩
end Go.Proofs.Ytmmnnhaecjpfdaa
namespace Go.Proofs.Ytmmnnhaecjpfdaa
open Go.RowKit
theorem maThread_c (l:Str) (w:World) (hs:Short l):Calls Try.prog 26 #[strV l] w fun e w'=>e = .returned (.bool (thrB l))∧Bl w w':=by
 have cg:=hide (tmGood_c l w hs)
 cases hp:proc? l with
 | none=>
   have hg:goodB l = false:=by unfold goodB;rw [hp];rfl
   have hT:Hid (thrB l = false):=by unfold Hid thrB;rw [hp]
   rw [hg] at cg
   clear hs hp hg
   go_enter Try.func26,Try.ntmps26
   go_wp2_with ((go_at_call 37;(with_reducible refine (cg.out).mono ?_);rintro e w' ⟨rfl,b1⟩;have B1:=hide b1;clear b1))
   go_ret
   rw [hT.out]
   exact ⟨rfl,B1.out⟩
 | some t=>
   have hg:goodB l = true:=by unfold goodB;rw [hp];rfl
   have hT:Hid (thrB l = smpB t):=by unfold Hid thrB;rw [hp]
   obtain ⟨hl,hk,h3,-⟩:=proc?_some.1 hp
   have cs:Hid (∀ w,Calls Try.prog 38 #[strV l] w fun e w'=>e = .returned (.bool (smpB t))∧Bl w w'):=fun w=>by
    rw [hl]
    exact tmSimple_c t w (Tm.ok_mono (fun _=>small_wide) hk) (by rw [← hl];exact hs)
   rw [hg] at cg
   clear hs hp hg hl hk h3
   generalize smpB t = v at *
   go_enter Try.func26,Try.ntmps26
   go_wp2_with (first | (go_at_call 37;(with_reducible refine (cg.out).mono ?_);rintro e w' ⟨rfl,b1⟩;have B1:=hide b1;clear b1) | (go_at_call 38;(with_reducible refine (cs.out _).mono ?_);rintro e w' ⟨rfl,b2⟩;have B2:=hide b2;clear b2))
   go_ret
   rw [hT.out]
   exact ⟨rfl,B1.out.trans B2.out⟩
theorem l1In_c (n lo hi:Int) (w:World):Calls Try.prog 40 #[.int .i64 n,.int .i64 lo,.int .i64 hi] w fun e w'=>e = .returned (.bool (decide (lo≤n) && decide (n≤hi)))∧w = w':=by
 by_cases h:lo≤n
 ·have h':decide (lo≤n)= true:=decide_eq_true h
  go_enter Try.func40,Try.ntmps40
  go_wp2_with fail
  go_ret
  exact ⟨ret_bool (by simp [h]),rfl⟩
 ·have h':decide (lo≤n)= false:=decide_eq_false h
  have h2:Hid (¬ lo≤n):=h
  clear h
  go_enter Try.func40,Try.ntmps40
  go_wp2_with fail
  go_ret
  exact ⟨ret_bool (by simp [h2.out]),rfl⟩
def tupleB (l:Str):Bool:=decide (1≤l.length) && decide (l.length≤4) && l.all smallB
theorem maTicks_c (l:Str) (k:Int) (w:World) (hs:Short l):Calls Try.prog 29 #[strV l,.int .i64 k] w fun e w'=>e = .returned (.bool (thrB l && (decide (0≤k) && decide (k≤200))))∧Bl w w':=by
 have ct:=hide (maThread_c l w hs)
 have cl:=hide fun w=>l1In_c k 0 200 w
 clear hs
 cases hb:thrB l with
 | false=>
   rw [hb] at ct
   clear hb
   go_enter Try.func29,Try.ntmps29
   go_wp2_with ((go_at_call 26;(with_reducible refine (ct.out).mono ?_);rintro e w' ⟨rfl,b1⟩;have B1:=hide b1;clear b1))
   go_ret
   exact ⟨rfl,B1.out⟩
 | true=>
   rw [hb] at ct
   clear hb
   generalize (decide (0≤k) && decide (k≤200))= v at *
   go_enter Try.func29,Try.ntmps29
   go_wp2_with (first | (go_at_call 26;(with_reducible refine (ct.out).mono ?_);rintro e w' ⟨rfl,b1⟩;have B1:=hide b1;clear b1) | (go_at_call 40;(with_reducible refine (cl.out _).mono ?_);rintro e w' ⟨rfl,rfl⟩))
   go_ret
   exact ⟨rfl,B1.out⟩
end Go.Proofs.Ytmmnnhaecjpfdaa
namespace Go.Proofs.Ytmmnnhaecjpfdaa
open Go.RowKit
def offV (x:OfT):Value:=.agg #[.int .u8 x.k.toNat,.int .u8 x.a.toNat,.int .u8 x.b.toNat,strV (txt x.p),.bool x.st]
theorem maMatch_c (x y:OfT) (w:World):Calls Try.prog 70 #[offV x,offV y] w fun e w'=>e = .returned (.bool (fitB x.k x.a y.k y.a))∧Bl w w':=by
 obtain ⟨k,a,b,p,s⟩:=x
 obtain ⟨k2,a2,b2,p2,s2⟩:=y
 show Calls Try.prog 70 #[.agg #[.int .u8 k.toNat,.int .u8 a.toNat,.int .u8 b.toNat,strV (txt p),.bool s],.agg #[.int .u8 k2.toNat,.int .u8 a2.toNat,.int .u8 b2.toNat,strV (txt p2),.bool s2]] w fun e w'=>e = .returned (.bool (fitB k a k2 a2))∧Bl w w'
 by_cases ha:a = a2
 ·subst ha
  by_cases h1:k = 33
  ·subst h1
   by_cases h2:k2 = 63
   ·subst h2
    go_enter Try.func70,Try.ntmps70
    go_wp2_with fail
    go_ret
    exact ⟨by simp [fitB],bls⟩
   ·have e2:((k2.toNat:Int)== 63)= false:=ne_int (d:=63) h2
    go_enter Try.func70,Try.ntmps70
    go_wp2_with fail
    go_ret
    exact ⟨by simp [fitB,h2],bls⟩
  ·have e1:((k.toNat:Int)== 33)= false:=ne_int (d:=33) h1
   by_cases h3:k = 63
   ·subst h3
    by_cases h2:k2 = 33
    ·subst h2
     go_enter Try.func70,Try.ntmps70
     go_wp2_with fail
     go_ret
     exact ⟨by simp [fitB],bls⟩
    ·have e2:((k2.toNat:Int)== 33)= false:=ne_int (d:=33) h2
     go_enter Try.func70,Try.ntmps70
     go_wp2_with fail
     go_ret
     exact ⟨by simp [fitB,h2],bls⟩
   ·have e3:((k.toNat:Int)== 63)= false:=ne_int (d:=63) h3
    go_enter Try.func70,Try.ntmps70
    go_wp2_with fail
    go_ret
    exact ⟨by simp [fitB,h1,h3],bls⟩
 ·have e1:((a.toNat:Int)== (a2.toNat:Int))= false:=ne_int ha
  go_enter Try.func70,Try.ntmps70
  go_wp2_with fail
  go_ret
  exact ⟨by simp [fitB,ha],bls⟩
end Go.Proofs.Ytmmnnhaecjpfdaa
