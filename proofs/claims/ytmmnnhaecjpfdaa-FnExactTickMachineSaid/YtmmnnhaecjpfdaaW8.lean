/- Lemmas for the laws of this seat (my texts, put together), part 8. -/
import Derived.Deep.MidRow
import Derived.OwnWalk
import Derived.Test.YtmmnnhaecjpfdaaShelg
import Derived.Test.YtmmnnhaecjpfdaaW7
set_option maxRecDepth 100000
set_option maxHeartbeats 8000000
set_option linter.unusedVariables false
set_option linter.unusedSimpArgs false
namespace Go.Proofs.Ytmmnnhaecjpfdaa
open Go.RowKit
attribute [local go_sem] S_size S_toList S_lit S_get S_extract S_append drop_all
def encT (x:OfT):List Value:=[.int .u8 x.k.toNat,.int .u8 x.a.toNat,.int .u8 x.b.toNat,strV (txt x.p),.bool x.st]
theorem encT_len (x:OfT):(encT x).length = 5:=rfl
theorem encT_one (x:OfT):∀ u∈encT x,u.oneCell' = true:=by
 intro u hu
 simp only [encT,List.mem_cons,List.not_mem_nil,or_false] at hu
 rcases hu with rfl | rfl | rfl | rfl | rfl <;> rfl
theorem rowOfT:RowK 61 88 (.agg #[.int .u8 0,.int .u8 0,.int .u8 0,.string (S []),.bool false]) 5 32:=
 ⟨Try.underlying88,by kernel_rfl,rfl,by decide,by decide⟩
abbrev OfL (w:World) (base:Nat) (v:Value) (xs:List OfT):Prop:=RK 61 5 encT w base v xs
def MkOf (w:World) (xs:List OfT) (e:Ending) (w':World):Prop:=∃ v,e = .returned v∧OfL w' w.heap.size v xs∧Bl w w'
theorem offT_len:∀ t:Tm,(offT t).length≤t.size
 | .zero=>by simp [offT]
 | .un k a b p=>by
   have:=offT_len p
   simp only [offT,Tm.size];split
   ·simp
   ·split
    ·simp;omega
    ·simp
 | .bin k p q=>by
   have:=offT_len p
   have:=offT_len q
   simp only [offT,Tm.size];split
   ·simp;omega
   ·simp
theorem rdOff_nil (l:Str) (k:UInt8) (w:World) (hk:k = 48∨k = 38∨k = 35∨k = 61)
  (ck:Hid (∀ w,Calls Try.prog 46 #[.string (S l)] w fun e w'=>e = .returned (.int .u8 k.toNat)∧w = w')):
  Calls Try.prog 69 #[.string (S l)] w (MkOf w []):=by
 rcases hk with rfl | rfl | rfl | rfl
 all_goals
  go_enter Try.func69,Try.ntmps69
  go_wp2_with ((go_at_call 46;(with_reducible refine (ck.out _).mono ?_);rintro e w' ⟨rfl,rfl⟩))
  go_ret
  exact ⟨_,rfl,RK.nil _ _,Bl.refl _⟩
theorem rdOff_126 (l:Str) (p:Tm) (w:World) (he:l = 126 :: 46 :: txt p)
  (ck:Hid (∀ w,Calls Try.prog 46 #[.string (S l)] w fun e w'=>e = .returned (.int .u8 126)∧w = w')):
  Calls Try.prog 69 #[.string (S l)] w (MkOf w [⟨126,0,0,p,false⟩]):=by
 have q0:(2:Int)≤l.length:=by rw [he];simp only [List.length_cons];omega
 have q1:l.drop 2 = txt p:=by rw [he];rfl
 have q2:List.take (l.length - 2) (txt p)= txt p:=by rw [List.take_of_length_le];rw [he];simp
 clear he
 go_enter Try.func69,Try.ntmps69
 go_wp2_with ((go_at_call 46;(with_reducible refine (ck.out _).mono ?_);rintro e w' ⟨rfl,rfl⟩))
 go_ret
 exact ⟨_,rfl,RK.lit w _ _ (Nat.le_refl _) rfl rfl,bl_alloc _ _⟩
theorem rdOff_name (l:Str) (k a b:UInt8) (p:Tm) (w:World) (hk:k = 33∨k = 63) (he:l = a :: k :: b :: 46 :: txt p)
  (ck:Hid (∀ w,Calls Try.prog 46 #[.string (S l)] w fun e w'=>e = .returned (.int .u8 k.toNat)∧w = w')):
  Calls Try.prog 69 #[.string (S l)] w (MkOf w [⟨k,a,b,p,false⟩]):=by
 obtain ⟨g1,g2⟩:=byte_get (l:=l) (i:=2) (x:=b) (by rw [he];rfl)
 obtain ⟨g3,g4⟩:=byte_get (l:=l) (i:=0) (x:=a) (by rw [he];rfl)
 have q4:(4:Int)≤l.length:=by rw [he];simp only [List.length_cons];omega
 have q7:(2:Int) < l.length:=by omega
 have q8:(0:Int) < l.length:=by omega
 have q1:l.drop 4 = txt p:=by rw [he];rfl
 have q2:List.take (l.length - 4) (txt p)= txt p:=by rw [List.take_of_length_le];rw [he];simp
 clear he
 rcases hk with rfl | rfl
 all_goals
  go_enter Try.func69,Try.ntmps69
  go_wp2_with ((go_at_call 46;(with_reducible refine (ck.out _).mono ?_);rintro e w' ⟨rfl,rfl⟩))
  refine AnyT.start 11 (fun _=>True) (fun j=>[9].contains j) (by kernel_rfl) (by rfl) ?_
  have hHeld:(fun _:World=>True) w.drew:=trivial
  refine AnyT.tk 0 ?_
  refine AnyT.tk 2 ?_
  refine AnyT.tk 3 ?_
  refine AnyT.tk 4 ?_
  refine AnyT.tk 5 ?_
  refine AnyT.tk 6 ?_
  refine AnyT.tk 7 ?_
  try simp only [Act.put,sqa,sqb,sqc]
  refine AnyT.one (i:=1) rfl (by kernel_rfl) (fun K hK=>?_)
  go_simp
  go_at_call 46
  (with_reducible refine (ck.out _).mono ?_)
  rintro e W1 ⟨rfl,rfl⟩
  go_wp2_with fail
  refine hK.out _ _ ?_ ?_
  ·exact trivial
  intro hHeld
  clear hK K
  try simp only [Act.put,sqa,sqb,sqc]
  refine AnyT.tk 8 ?_
  try simp only [Act.put,sqa,sqb,sqc]
  refine AnyT.tail (i:=9) rfl (by kernel_rfl) (by rfl) (fun K hK=>?_)
  go_simp
  refine hK.out _ _ ?_
  clear hK K
  try simp only [Act.put,sqa,sqb,sqc]
  refine AnyT.tk 10 ?_
  try simp only [Act.put,sqa,sqb,sqc]
  refine AnyT.done (by kernel_rfl) ?_
  go_wp2_with fail
  go_ret
  exact ⟨_,rfl,RK.lit _ _ _ (Nat.le_refl _) rfl rfl,bl_drew (Bl.refl _) |>.trans (bl_alloc _ _)⟩
theorem rdOff_bin (l:Str) (p q:Tm) (xs ys:List OfT) (w:World) (B:BinL l 43 p q) (hl:xs.length + ys.length≤100000)
  (i1:Hid (∀ w,Calls Try.prog 69 #[.string (S (txt p))] w (MkOf w xs)))
  (i2:Hid (∀ w,Calls Try.prog 69 #[.string (S (txt q))] w (MkOf w ys))):
  Calls Try.prog 69 #[.string (S l)] w (MkOf w (xs ++ ys)):=by
 obtain ⟨ck,-,c2,-,-⟩:=B
 generalize txt p = tp at *
 generalize txt q = tq at *
 go_enter Try.func69,Try.ntmps69
 go_wp2_with (first | (go_at_call 46;(with_reducible refine (ck.out _).mono ?_);rintro e w' ⟨rfl,rfl⟩) | (go_at_call 47;(with_reducible refine (c2.out _).mono ?_);rintro e w1 ⟨v,rfl,⟨g,c,rfl,p0,p1⟩,hb1⟩))
 have HL:Bl w w1:=hb1
 have hgl:Hid (g < w1.heap.size):=cell_lt p0
 have hR:=Bl.refl w1
 clear hb1
 go_region_held3 (fun w'=>w'.cell? ⟨g,0,none⟩= some (.string (S tp))∧w'.cell? ⟨g,1,none⟩= some (.string (S tq))) (go_keep)
  (first | (go_at_call 69;first | ((with_reducible refine (i1.out _).mono ?_);rintro e w2 ⟨v1,rfl,hs1,hb2⟩;have p0:=cell_kept hb2 p0;have p1:=cell_kept hb2 p1;have hs1:=RK.mono hs1 (Below.size (bl_src hb2 (show Bl w1 _ from bls)));first | (have hs2:=RK.bl hs2 hb2) | skip) | ((with_reducible refine (i2.out _).mono ?_);rintro e w3 ⟨v2,rfl,hs2,hb3⟩;have p0:=cell_kept hb3 p0;have p1:=cell_kept hb3 p1;have hs2:=RK.mono hs2 (Below.size (bl_src hb3 (show Bl w1 _ from bls)));first | (have hs1:=RK.bl hs1 hb3) | skip)) | (refine rk_step rowOfT encT_len encT_one _ (.tmp 34) (.tmp 38) w1.heap.size v1 v2 xs ys rfl rfl (by simp [Act.eval,Act.put]) (by simp [Act.eval,Act.put]) hs1 hs2.src hl (Below.size (show Bl w1 _ from bls)) ?_;intro v3 w4 hs3 hg3 ha3;have p0:=World.grownBy.cell hg3 p0 (fun e=>by have:=(RK.lt hs1 _ e.symm).1;have:=hgl.out;simp at *;omega);have p1:=World.grownBy.cell hg3 p1 (fun e=>by have:=(RK.lt hs1 _ e.symm).1;have:=hgl.out;simp at *;omega)))
 all_goals
  have hb4:Bl w w4:=bl_grown (show Bl w _ from bls) hg3 (fun k hk=>Nat.le_trans (Below.size HL) (RK.lt hs1 k hk).1)
  have hs3:=RK.mono hs3 (Below.size HL)
  go_wp2_with fail
  go_ret
  exact ⟨_,rfl,hs3,hb4⟩
theorem rdOff_42 (l:Str) (a b c d:UInt8) (p:Tm) (w:World) (he:l = 42 :: txt (.un 63 a b p))
  (ck:Hid (∀ w,Calls Try.prog 46 #[.string (S l)] w fun e w'=>e = .returned (.int .u8 42)∧w = w'))
  (ih:Hid (∀ w,Calls Try.prog 69 #[.string (S (txt (.un 63 a b p)))] w (MkOf w [⟨63,a,b,p,false⟩]))):
  Calls Try.prog 69 #[.string (S l)] w (MkOf w [⟨63,a,b,p,true⟩]):=by
 have q0:(1:Int)≤l.length:=by rw [he];simp only [List.length_cons];omega
 have q1:l.drop 1 = txt (.un 63 a b p):=by rw [he];rfl
 have q2:List.take (l.length - 1) (txt (.un 63 a b p))= txt (.un 63 a b p):=by rw [List.take_of_length_le];rw [he];simp
 clear he
 generalize txt (.un 63 a b p)= tp at *
 go_enter Try.func69,Try.ntmps69
 go_wp2_with (first | (go_at_call 46;(with_reducible refine (ck.out _).mono ?_);rintro e w' ⟨rfl,rfl⟩) | (go_at_call 69;(with_reducible refine (ih.out _).mono ?_);rintro e w1 ⟨v,rfl,hs1,hb1⟩;obtain ⟨-,hno⟩ | ⟨g,cp,cur,rfl,hbg,⟨hgl,hc1,hc2,hc3⟩,hblk,hcells⟩:=hs1.form encT_len))
 ·cases hno
 have p4:=hcells 0 _ rfl 4 _ rfl
 have f4:=blk_free (i:=0 * 5 + 4) hblk
 have HS:=hide hs1
 have HB:=hide hb1
 have hsz:(0 * 5 + 4) < cur.size:=by have h1:1≤cp:=hc1;omega
 clear hs1 hcells hblk hb1
 refine wp_loop_rounds 2 ?_
 rw [rounds_succ]
 go_wp2_with fail
 rw [rounds_succ]
 go_wp2_with fail
 go_ret
 have h2:=HS.out.setc encT_len (g:=g) rfl (j:=0) (i:=4) (x:=⟨63,a,b,p,false⟩) (x':=⟨63,a,b,p,true⟩) rfl (by decide) (u:=.bool true) rfl
 exact ⟨_,rfl,h2,Bl.via HB.out (bx_set _ _ _ _) hbg⟩
theorem rdOffers_c (t:Tm):∀ (w:World),t.ok wideB = true→smpT t→(txt t).length≤40000→t.size≤10000→Calls Try.prog 69 #[.string (S (txt t))] w (MkOf w (offT t)):=by
 induction t with
 | zero=>intro w _ _ _ _;exact rdOff_nil _ 48 w (.inl rfl) (hide fun w=>tmKind_zero w)
 | un k a b p ih0 =>
   intro w hk hm hl hz
   have hk0:=hk
   simp only [Tm.ok,Bool.and_eq_true] at hk
   have ck:=hide fun w=>tmKind_un k a b p w hk.1
   have h2:(txt p).length≤40000:=by simp only [txt,List.length_append] at hl;omega
   have h3:p.size≤10000:=by simp only [Tm.size] at hz;omega
   have ih:=hide fun w=>ih0 w hk.2 hm.2 h2 h3
   rcases okhd_cases hk.1 with ⟨rfl,ha,hb⟩ | ⟨rfl,ha,hb⟩ | ⟨rfl,ha,hb⟩ | ⟨rfl,ha,hb⟩ | ⟨rfl,ha,hb⟩ | ⟨rfl,ha,hb⟩
   ·exact rdOff_name _ 33 a b p w (.inl rfl) rfl ck
   ·exact rdOff_name _ 63 a b p w (.inr rfl) rfl ck
   ·exact rdOff_nil _ 61 w (.inr (.inr (.inr rfl))) ck
   ·exact rdOff_nil _ 35 w (.inr (.inr (.inl rfl))) ck
   ·have hp:=hm.1 rfl
    cases p with
    | un k2 a2 b2 p2=>
      obtain rfl:k2 = 63:=hp
      exact rdOff_42 _ a2 b2 a b p2 w rfl ck ih
    | zero=>cases hp
    | bin k2 p2 q2=>
      have hp:k2 = 63:=hp
      simp only [Tm.ok,Bool.and_eq_true,Bool.or_eq_true,beq_iff_eq] at hk
      rcases hk.2.1 with h | h <;> rw [hp] at h <;> cases h
   ·subst ha hb
    exact rdOff_126 _ p w rfl ck
 | bin k p q ih1 ih2=>
   intro w hk hm hl hz
   simp only [Tm.ok,Bool.and_eq_true,Bool.or_eq_true,beq_iff_eq] at hk
   have hs:Short (txt (.bin k p q)):=short_of (by omega)
   have B:=binL k p q hk.1 hk.2.1 hs
   have h2:(txt p).length≤40000∧(txt q).length≤40000:=by simp only [txt,List.length_cons,List.length_append] at hl;omega
   have h3:p.size + q.size≤10000:=by simp only [Tm.size] at hz;omega
   rcases hk.1 with rfl | rfl
   ·have l1:=offT_len p
    have l2:=offT_len q
    exact rdOff_bin _ p q _ _ w B (by omega) (hide fun w=>ih1 w hk.2.1 hm.2.1 h2.1 (by omega)) (hide fun w=>ih2 w hk.2.2 hm.2.2 h2.2 (by omega))
   ·exact rdOff_nil _ 38 w (.inr (.inl rfl)) B.kind
end Go.Proofs.Ytmmnnhaecjpfdaa
namespace Go.Proofs.Ytmmnnhaecjpfdaa
open Go.RowKit
structure Wy where
 k:UInt8
 a:UInt8
 b:UInt8
 p:Nat
def encY (y:Wy):List Value:=[.int .u8 y.k.toNat,.int .u8 y.a.toNat,.int .u8 y.b.toNat,encP y.p]
abbrev Wy.val (y:Wy):Value:=.agg (encY y).toArray
theorem encY_len (x:Wy):(encY x).length = 4:=rfl
theorem encY_one (x:Wy):∀ u∈encY x,u.oneCell' = true:=by
 intro u hu
 simp only [encY,List.mem_cons,List.not_mem_nil,or_false] at hu
 rcases hu with rfl | rfl | rfl | rfl <;> rfl
theorem rowWay:RowK 75 73 (.agg #[.int .u8 0,.int .u8 0,.int .u8 0,.pointer none]) 4 16:=
 ⟨Try.underlying73,by kernel_rfl,rfl,by decide,by decide⟩
structure WyR (P:Nat→Prop) (w:World) (x:OfT) (y:Wy):Prop where
 k:y.k = x.k
 a:y.a = x.a
 b:y.b = x.b
 l:Lies P w x.p y.p
inductive WyL (P:Nat→Prop) (w:World):List OfT→List Wy→Prop
 | nil:WyL P w [] []
 | cons {x y xs ys}:WyR P w x y→WyL P w xs ys→WyL P w (x :: xs) (y :: ys)
theorem WyL.len {P:Nat→Prop} {w:World} {xs ys} (h:WyL P w xs ys):xs.length = ys.length:=by
 induction h with
 | nil=>rfl
 | cons _ _ ih=>simp [ih]
theorem WyL.map {P Q:Nat→Prop} {w w':World} {xs ys} (hf:∀ t b,Lies P w t b→Lies Q w' t b) (h:WyL P w xs ys):WyL Q w' xs ys:=by
 induction h with
 | nil=>exact .nil
 | cons h _ ih=>exact .cons ⟨h.k,h.a,h.b,hf _ _ h.l⟩ ih
theorem WyL.bl {P:Nat→Prop} {w w':World} {xs ys} (hb:Bl w w') (h:WyL P w xs ys):WyL P w' xs ys:=h.map fun _ _=>Lies.bl hb
theorem WyL.app {P:Nat→Prop} {w:World} {xs ys xs2 ys2} (h:WyL P w xs ys) (h2:WyL P w xs2 ys2):WyL P w (xs ++ xs2) (ys ++ ys2):=by
 induction h with
 | nil=>exact h2
 | cons h _ ih=>exact .cons h ih
theorem WyL.st {P:Nat→Prop} {w:World} {xs ys} (h:WyL P w xs ys):WyL P w (xs.map fun x=>{ x with st:=true }) ys:=by
 induction h with
 | nil=>exact .nil
 | cons h _ ih=>exact .cons ⟨h.k,h.a,h.b,h.l⟩ ih
theorem WyL.get {P:Nat→Prop} {w:World} {xs ys} (h:WyL P w xs ys):∀ {j:Nat} {x:OfT} {y:Wy},xs[j]? = some x→ys[j]? = some y→WyR P w x y:=by
 induction h with
 | nil=>intro j x y h;simp at h
 | cons h _ ih=>
   intro j x y h1 h2
   cases j with
   | zero=>cases h1;cases h2;exact h
   | succ j=>exact ih h1 h2
abbrev WysL (w:World) (base:Nat) (v:Value) (ys:List Wy):Prop:=RK 75 4 encY w base v ys
def MkWy (P:Nat→Prop) (w0 w:World) (xs:List OfT) (e:Ending) (w':World):Prop:=∃ v ys,e = .returned v∧WysL w' w.heap.size v ys∧WyL P w0 xs ys∧Bl w w'
theorem ways_nil {P:Nat→Prop} (w0:World) (b:Nat) (k:UInt8) (w:World) (h0:w.cell? ⟨b,0,none⟩= some (.int .u8 k.toNat)) (hk:k = 48∨k = 38∨k = 35∨k = 61):Calls Try.prog 57 #[encP b] w (MkWy P w0 w []):=by
 rcases hk with rfl | rfl | rfl | rfl
 all_goals
  go_enter Try.func57,Try.ntmps57
  go_wp2_with fail
  go_ret
  exact ⟨_,[],rfl,RK.nil _ _,.nil,Bl.refl _⟩
theorem ways_42 {P:Nat→Prop} (w0:World) (b g c pb:Nat) (xs:List OfT) (w:World) (h0:w.cell? ⟨b,0,none⟩= some (.int .u8 42)) (h3:w.cell? ⟨b,3,none⟩= some (.slice (some ⟨g,0,none⟩) 1 c))
  (hp:w.cell? ⟨g,0,none⟩= some (encP pb)) (ih:Hid (Calls Try.prog 57 #[encP pb] w (MkWy P w0 w xs))):Calls Try.prog 57 #[encP b] w (MkWy P w0 w xs):=by
 go_enter Try.func57,Try.ntmps57
 go_wp2_with ((go_at_call 57;(with_reducible refine ih.out.mono ?_);rintro e w1 ⟨v,ys,rfl,h1,h2,h4⟩))
 go_ret
 exact ⟨_,ys,rfl,h1,h2,h4⟩
theorem ways_name {P:Nat→Prop} (w0:World) (k:UInt8) (hk:k = 126∨k = 33∨k = 63) (b g c pb:Nat) (x y:UInt8) (p:Tm) (w:World) (h0:w.cell? ⟨b,0,none⟩= some (.int .u8 k.toNat)) (h1:w.cell? ⟨b,1,none⟩= some (.int .u8 x.toNat)) (h2:w.cell? ⟨b,2,none⟩= some (.int .u8 y.toNat))
  (h3:w.cell? ⟨b,3,none⟩= some (.slice (some ⟨g,0,none⟩) 1 c)) (hp:w.cell? ⟨g,0,none⟩= some (encP pb)) (hL:Hid (Lies P w0 p pb)):Calls Try.prog 57 #[encP b] w (MkWy P w0 w [⟨k,x,y,p,false⟩]):=by
 have hw:Hid (MkWy P w0 w [⟨k,x,y,p,false⟩] (.returned (.slice (some ⟨w.drew.heap.size,0,none⟩) 1 1)) (w.drew.alloc (.cells #[.int .u8 k.toNat,.int .u8 x.toNat,.int .u8 y.toNat,encP pb] 75))):=
  ⟨_,[⟨k,x,y,pb⟩],rfl,RK.lit w.drew _ _ (Nat.le_refl _) rfl rfl,.cons ⟨rfl,rfl,rfl,hL.out⟩ .nil,(bl_drew (Bl.refl w)).trans (bl_alloc _ _)⟩
 rcases hk with rfl | rfl | rfl
 ·go_enter Try.func57,Try.ntmps57
  go_wp2_with fail
  refine AnyT.start 21 (fun w2=>w2.cell? ⟨b,0,none⟩= some (.int .u8 (UInt8.toNat 126))∧w2.cell? ⟨b,1,none⟩= some (.int .u8 x.toNat)∧w2.cell? ⟨b,2,none⟩= some (.int .u8 y.toNat)∧w2.cell? ⟨b,3,none⟩= some (.slice (some ⟨g,0,none⟩) 1 c)∧w2.cell? ⟨g,0,none⟩= some (encP pb)) (fun j=>[].contains j) (by kernel_rfl) (by rfl) ?_
  have hHeld:w.drew.cell? ⟨b,0,none⟩= some (.int .u8 (UInt8.toNat 126))∧w.drew.cell? ⟨b,1,none⟩= some (.int .u8 x.toNat)∧w.drew.cell? ⟨b,2,none⟩= some (.int .u8 y.toNat)∧w.drew.cell? ⟨b,3,none⟩= some (.slice (some ⟨g,0,none⟩) 1 c)∧w.drew.cell? ⟨g,0,none⟩= some (encP pb):=⟨h0,h1,h2,h3,hp⟩
  refine AnyT.tk 0 ?_
  refine AnyT.tk 1 ?_
  refine AnyT.tk 2 ?_
  refine AnyT.ld 3 ?_
  refine AnyT.tk 4 ?_
  refine AnyT.tk 5 ?_
  refine AnyT.tk 6 ?_
  refine AnyT.ld 7 ?_
  refine AnyT.tk 8 ?_
  refine AnyT.tk 9 ?_
  refine AnyT.tk 10 ?_
  refine AnyT.ld 11 ?_
  refine AnyT.tk 12 ?_
  refine AnyT.tk 13 ?_
  refine AnyT.tk 14 ?_
  refine AnyT.ld 15 ?_
  refine AnyT.tk 16 ?_
  refine AnyT.ld 17 ?_
  refine AnyT.tk 18 ?_
  try simp only [Act.put,sqa,sqb,sqc]
  refine AnyT.one (i:=19) rfl (by kernel_rfl) (fun K hK=>?_)
  go_simp
  refine hK.out _ _ ?_ ?_
  ·exact ⟨cell_kept (bl_alloc _ _) hHeld.1,cell_kept (bl_alloc _ _) hHeld.2.1,cell_kept (bl_alloc _ _) hHeld.2.2.1,cell_kept (bl_alloc _ _) hHeld.2.2.2.1,cell_kept (bl_alloc _ _) hHeld.2.2.2.2⟩
  intro hHeld
  clear hK K
  try simp only [Act.put,sqa,sqb,sqc]
  refine AnyT.tk 20 ?_
  try simp only [Act.put,sqa,sqb,sqc]
  refine AnyT.done (by kernel_rfl) ?_
  go_wp2_with fail
  go_ret
  exact hw.out
 ·go_enter Try.func57,Try.ntmps57
  go_wp2_with fail
  refine AnyT.start 21 (fun w2=>w2.cell? ⟨b,0,none⟩= some (.int .u8 (UInt8.toNat 33))∧w2.cell? ⟨b,1,none⟩= some (.int .u8 x.toNat)∧w2.cell? ⟨b,2,none⟩= some (.int .u8 y.toNat)∧w2.cell? ⟨b,3,none⟩= some (.slice (some ⟨g,0,none⟩) 1 c)∧w2.cell? ⟨g,0,none⟩= some (encP pb)) (fun j=>[].contains j) (by kernel_rfl) (by rfl) ?_
  have hHeld:w.drew.cell? ⟨b,0,none⟩= some (.int .u8 (UInt8.toNat 33))∧w.drew.cell? ⟨b,1,none⟩= some (.int .u8 x.toNat)∧w.drew.cell? ⟨b,2,none⟩= some (.int .u8 y.toNat)∧w.drew.cell? ⟨b,3,none⟩= some (.slice (some ⟨g,0,none⟩) 1 c)∧w.drew.cell? ⟨g,0,none⟩= some (encP pb):=⟨h0,h1,h2,h3,hp⟩
  refine AnyT.tk 0 ?_
  refine AnyT.tk 1 ?_
  refine AnyT.tk 2 ?_
  refine AnyT.ld 3 ?_
  refine AnyT.tk 4 ?_
  refine AnyT.tk 5 ?_
  refine AnyT.tk 6 ?_
  refine AnyT.ld 7 ?_
  refine AnyT.tk 8 ?_
  refine AnyT.tk 9 ?_
  refine AnyT.tk 10 ?_
  refine AnyT.ld 11 ?_
  refine AnyT.tk 12 ?_
  refine AnyT.tk 13 ?_
  refine AnyT.tk 14 ?_
  refine AnyT.ld 15 ?_
  refine AnyT.tk 16 ?_
  refine AnyT.ld 17 ?_
  refine AnyT.tk 18 ?_
  try simp only [Act.put,sqa,sqb,sqc]
  refine AnyT.one (i:=19) rfl (by kernel_rfl) (fun K hK=>?_)
  go_simp
  refine hK.out _ _ ?_ ?_
  ·exact ⟨cell_kept (bl_alloc _ _) hHeld.1,cell_kept (bl_alloc _ _) hHeld.2.1,cell_kept (bl_alloc _ _) hHeld.2.2.1,cell_kept (bl_alloc _ _) hHeld.2.2.2.1,cell_kept (bl_alloc _ _) hHeld.2.2.2.2⟩
  intro hHeld
  clear hK K
  try simp only [Act.put,sqa,sqb,sqc]
  refine AnyT.tk 20 ?_
  try simp only [Act.put,sqa,sqb,sqc]
  refine AnyT.done (by kernel_rfl) ?_
  go_wp2_with fail
  go_ret
  exact hw.out
 ·go_enter Try.func57,Try.ntmps57
  go_wp2_with fail
  refine AnyT.start 21 (fun w2=>w2.cell? ⟨b,0,none⟩= some (.int .u8 (UInt8.toNat 63))∧w2.cell? ⟨b,1,none⟩= some (.int .u8 x.toNat)∧w2.cell? ⟨b,2,none⟩= some (.int .u8 y.toNat)∧w2.cell? ⟨b,3,none⟩= some (.slice (some ⟨g,0,none⟩) 1 c)∧w2.cell? ⟨g,0,none⟩= some (encP pb)) (fun j=>[].contains j) (by kernel_rfl) (by rfl) ?_
  have hHeld:w.drew.cell? ⟨b,0,none⟩= some (.int .u8 (UInt8.toNat 63))∧w.drew.cell? ⟨b,1,none⟩= some (.int .u8 x.toNat)∧w.drew.cell? ⟨b,2,none⟩= some (.int .u8 y.toNat)∧w.drew.cell? ⟨b,3,none⟩= some (.slice (some ⟨g,0,none⟩) 1 c)∧w.drew.cell? ⟨g,0,none⟩= some (encP pb):=⟨h0,h1,h2,h3,hp⟩
  refine AnyT.tk 0 ?_
  refine AnyT.tk 1 ?_
  refine AnyT.tk 2 ?_
  refine AnyT.ld 3 ?_
  refine AnyT.tk 4 ?_
  refine AnyT.tk 5 ?_
  refine AnyT.tk 6 ?_
  refine AnyT.ld 7 ?_
  refine AnyT.tk 8 ?_
  refine AnyT.tk 9 ?_
  refine AnyT.tk 10 ?_
  refine AnyT.ld 11 ?_
  refine AnyT.tk 12 ?_
  refine AnyT.tk 13 ?_
  refine AnyT.tk 14 ?_
  refine AnyT.ld 15 ?_
  refine AnyT.tk 16 ?_
  refine AnyT.ld 17 ?_
  refine AnyT.tk 18 ?_
  try simp only [Act.put,sqa,sqb,sqc]
  refine AnyT.one (i:=19) rfl (by kernel_rfl) (fun K hK=>?_)
  go_simp
  refine hK.out _ _ ?_ ?_
  ·exact ⟨cell_kept (bl_alloc _ _) hHeld.1,cell_kept (bl_alloc _ _) hHeld.2.1,cell_kept (bl_alloc _ _) hHeld.2.2.1,cell_kept (bl_alloc _ _) hHeld.2.2.2.1,cell_kept (bl_alloc _ _) hHeld.2.2.2.2⟩
  intro hHeld
  clear hK K
  try simp only [Act.put,sqa,sqb,sqc]
  refine AnyT.tk 20 ?_
  try simp only [Act.put,sqa,sqb,sqc]
  refine AnyT.done (by kernel_rfl) ?_
  go_wp2_with fail
  go_ret
  exact hw.out
theorem ways_43 {P:Nat→Prop} (w0:World) (b g c pb qb:Nat) (xs ys:List OfT) (w:World) (h0:w.cell? ⟨b,0,none⟩= some (.int .u8 43)) (h3:w.cell? ⟨b,3,none⟩= some (.slice (some ⟨g,0,none⟩) 2 c))
  (hp:w.cell? ⟨g,0,none⟩= some (encP pb)) (hq:w.cell? ⟨g,1,none⟩= some (encP qb)) (hl:xs.length + ys.length≤100000)
  (i1:Hid (∀ w2,Bl w w2→Calls Try.prog 57 #[encP pb] w2 (MkWy P w0 w2 xs))) (i2:Hid (∀ w2,Bl w w2→Calls Try.prog 57 #[encP qb] w2 (MkWy P w0 w2 ys))):
  Calls Try.prog 57 #[encP b] w (MkWy P w0 w (xs ++ ys)):=by
 go_enter Try.func57,Try.ntmps57
 go_wp2_with fail
 refine AnyT.start 16 (fun w2=>w2.cell? ⟨b,3,none⟩= some (.slice (some ⟨g,0,none⟩) 2 c)∧w2.cell? ⟨g,0,none⟩= some (encP pb)∧w2.cell? ⟨g,1,none⟩= some (encP qb)) (fun j=>[].contains j) (by kernel_rfl) (by rfl) ?_
 have hHeld:w.drew.cell? ⟨b,3,none⟩= some (.slice (some ⟨g,0,none⟩) 2 c)∧w.drew.cell? ⟨g,0,none⟩= some (encP pb)∧w.drew.cell? ⟨g,1,none⟩= some (encP qb):=⟨h3,hp,hq⟩
 refine AnyT.tk 0 ?_
 refine AnyT.tk 1 ?_
 refine AnyT.tk 2 ?_
 refine AnyT.ld 3 ?_
 refine AnyT.tk 4 ?_
 refine AnyT.ld 5 ?_
 refine AnyT.tk 7 ?_
 refine AnyT.tk 8 ?_
 refine AnyT.tk 9 ?_
 refine AnyT.ld 10 ?_
 refine AnyT.tk 11 ?_
 refine AnyT.ld 12 ?_
 try simp only [Act.put,sqa,sqb,sqc]
 refine AnyT.one (i:=6) rfl (by kernel_rfl) (fun K hK=>?_)
 go_simp
 go_at_call 57
 (with_reducible refine (i1.out _ (bl_drew (Bl.refl w))).mono ?_)
 rintro e W1 ⟨v1,y1,rfl,r1,g1,b1⟩
 obtain ⟨A1,c1,rfl⟩:=r1.slice;replace r1:=hide r1;replace g1:=hide g1
 go_wp2_with fail
 refine hK.out _ _ ?_ ?_
 ·exact ⟨cell_kept b1 hHeld.1,cell_kept b1 hHeld.2.1,cell_kept b1 hHeld.2.2⟩
 intro hHeld
 clear hK K
 try simp only [Act.put,sqa,sqb,sqc]
 have bw1:=(bl_drew (Bl.refl w)).trans b1
 refine AnyT.one (i:=13) rfl (by kernel_rfl) (fun K hK=>?_)
 go_simp
 go_at_call 57
 (with_reducible refine (i2.out _ bw1).mono ?_)
 rintro e W2 ⟨v2,y2,rfl,r2,g2,b2⟩
 obtain ⟨A2,c2,rfl⟩:=r2.slice;replace r2:=hide r2;replace g2:=hide g2
 go_wp2_with fail
 refine hK.out _ _ ?_ ?_
 ·exact ⟨cell_kept b2 hHeld.1,cell_kept b2 hHeld.2.1,cell_kept b2 hHeld.2.2⟩
 intro hHeld
 clear hK K
 try simp only [Act.put,sqa,sqb,sqc]
 have hz:Hid (y1.length + y2.length≤100000):=by have e1:=g1.out.len;have e2:=g2.out.len;unfold Hid;omega
 have r12:=hide ((r1.out.bl b2).mono (show w.heap.size≤w.drew.heap.size from Nat.le_refl _))
 have bs:Hid (w.heap.size≤W2.heap.size):=Below.size (bw1.trans b2)
 refine AnyT.one (i:=14) rfl (by kernel_rfl) (fun K hK=>?_)
 (refine rk_step rowWay encY_len encY_one W2 (.tmp 48) (.tmp 55) w.heap.size (.slice A1 y1.length c1) (.slice A2 y2.length c2) y1 y2 rfl rfl (by simp [Act.eval]) (by simp [Act.eval]) r12.out r2.out.src hz.out bs.out ?_;intro v3 W3 r3 gr3 ha3;replace r3:=hide r3;replace gr3:=hide gr3)
 refine hK.out _ _ ?_ ?_
 ·exact ⟨World.grownBy.cell gr3.out hHeld.1 (fun e=>by have h1:w.heap.size≤b:=(r12.out.lt _ e.symm).1;have h2:b < w.heap.size:=cell_lt h3;omega),World.grownBy.cell gr3.out hHeld.2.1 (fun e=>by have h1:w.heap.size≤g:=(r12.out.lt _ e.symm).1;have h2:g < w.heap.size:=cell_lt hp;omega),World.grownBy.cell gr3.out hHeld.2.2 (fun e=>by have h1:w.heap.size≤g:=(r12.out.lt _ e.symm).1;have h2:g < w.heap.size:=cell_lt hp;omega)⟩
 intro hHeld
 clear hK K
 try simp only [Act.put,sqa,sqb,sqc]
 refine AnyT.tk 15 ?_
 try simp only [Act.put,sqa,sqb,sqc]
 refine AnyT.done (by kernel_rfl) ?_
 go_wp2_with fail
 go_ret
 have b3:Bl w W3:=bl_grown (bw1.trans b2) gr3.out (fun k hk=>(r12.out.lt k hk).1)
 exact ⟨_,y1 ++ y2,rfl,r3.out,g1.out.app g2.out,b3⟩
theorem ways_c (t:Tm):∀ (P:Nat→Prop) (b:Nat) (w0 w:World),Lies P w0 t b→t.ok smallB = true→t.size≤10000→Bl w0 w→Calls Try.prog 57 #[encP b] w (MkWy P w0 w (offT t)):=by
 induction t with
 | zero=>
   intro P b w0 w h _ _ hb
   obtain ⟨-,A,c,hF⟩:=h.bl hb
   exact ways_nil w0 b 48 w hF.c0 (.inl rfl)
 | un k a y p ih=>
   intro P b w0 w h ht hz hb
   simp only [Tm.ok,Bool.and_eq_true] at ht
   obtain ⟨-,g,c,n,pb,-,hF,hK,hp⟩:=h.bl hb
   have hz2:p.size≤10000:=by simp only [Tm.size] at hz;omega
   have hp0:Lies P w0 p pb:=by
    obtain ⟨-,g',c',n',pb',-,hF',hK',hp'⟩:=h
    have e1:=cell_kept hb hF'.c3
    rw [hF.c3] at e1
    simp only [Option.some.injEq,Value.slice.injEq,Addr.mk.injEq,and_true] at e1
    obtain ⟨rfl,-⟩:=e1
    have e2:=cell_kept hb hK'.c
    rw [hK.c] at e2
    simp only [Option.some.injEq,Value.pointer.injEq,Addr.mk.injEq,and_true] at e2
    subst e2
    exact hp'
   rcases okhd_cases ht.1 with ⟨rfl,ha,hb'⟩ | ⟨rfl,ha,hb'⟩ | ⟨rfl,ha,hb'⟩ | ⟨rfl,ha,hb'⟩ | ⟨rfl,ha,hb'⟩ | ⟨rfl,ha,hb'⟩
   ·exact ways_name w0 33 (.inr (.inl rfl)) b g c pb a y p w hF.c0 hF.c1 hF.c2 hF.c3 hK.c hp0
   ·exact ways_name w0 63 (.inr (.inr rfl)) b g c pb a y p w hF.c0 hF.c1 hF.c2 hF.c3 hK.c hp0
   ·exact ways_nil w0 b 61 w hF.c0 (.inr (.inr (.inr rfl)))
   ·exact ways_nil w0 b 35 w hF.c0 (.inr (.inr (.inl rfl)))
   ·have h2:=ih P pb w0 w hp0 ht.2 hz2 hb
    exact ways_42 w0 b g c pb _ w hF.c0 hF.c3 hK.c (hide (h2.mono fun e w' h=>by obtain ⟨v,ys,he,h1,h3,h4⟩:=h;exact ⟨v,ys,he,h1,h3.st,h4⟩))
   ·exact ways_name w0 126 (.inl rfl) b g c pb a y p w hF.c0 hF.c1 hF.c2 hF.c3 hK.c hp0
 | bin k p q ih1 ih2=>
   intro P b w0 w h ht hz hb
   simp only [Tm.ok,Bool.and_eq_true,Bool.or_eq_true,beq_iff_eq] at ht
   obtain ⟨-,g,c,n,pb,qb,-,hF,hK,hK2,hp,hq⟩:=h
   have hF:=hF.bl hb
   have hK:=hK.bl hb
   have hK2:=hK2.bl hb
   have hz2:p.size + q.size≤10000:=by simp only [Tm.size] at hz;omega
   rcases ht.1 with rfl | rfl
   ·have l1:=offT_len p
    have l2:=offT_len q
    exact ways_43 w0 b g c pb qb _ _ w hF.c0 hF.c3 hK.c hK2.c (by omega) (fun w2 h2=>ih1 P pb w0 w2 hp ht.2.1 (by omega) (hb.trans h2)) (fun w2 h2=>ih2 P qb w0 w2 hq ht.2.2 (by omega) (hb.trans h2))
   ·exact ways_nil w0 b 38 w hF.c0 (.inr (.inl rfl))
end Go.Proofs.Ytmmnnhaecjpfdaa
namespace Go.Proofs.Ytmmnnhaecjpfdaa
open Go.RowKit
theorem block_setCells (b:Nat) (T:TypeId):∀ (vs:List Value) (o:Nat) (w:World) (cs:Array Value),w.heap[b]? = some (.cells cs T (0,0))→o + vs.length = cs.size→
  (w.setCells b o vs).heap[b]? = some (.cells ((cs.toList.take o ++ vs).toArray) T (0,0))
 | [],o,w,cs,h,hl=>by
   have:cs.toList.take o = cs.toList:=List.take_of_length_le (by simp at hl;simp [hl])
   rw [World.setCells,List.append_nil,this];simpa using h
 | v :: vs, o, w, cs, h, hl => by
   rw [World.setCells]
   simp only [List.length_cons] at hl
   have h1:=blk_set (i:=o) h v
   have h2:=block_setCells b T vs (o + 1) (w.setCell ⟨b,o,none⟩ v) _ h1 (by simp;omega)
   rw [h2]
   congr 3
   have:(cs.modify o (fun _=>v)).toList.take (o + 1)= cs.toList.take o ++ [v]:=by
    have ho:o < cs.toList.length:=by simp;omega
    simp only [Array.toList_modify]
    rw [List.take_add_one]
    simp only [List.getElem?_modify]
    simp only [if_true]
    congr 1
    ·apply List.ext_getElem?
     intro i
     simp only [List.getElem?_take]
     split
     ·rename_i hio
      simp only [List.getElem?_modify,if_neg (show ¬ o = i by omega)];cases cs.toList[i]? <;> rfl
     ·rfl
    ·rw [List.getElem?_eq_getElem ho];rfl
   rw [this];simp
theorem there_blk {w:World} {b:Nat} {cs:Array Value} {T:TypeId} (h:w.heap[b]? = some (.cells cs T (0,0))) {n:Nat} (hn:n≤cs.size):w.there b 0 n:=by
 intro j hj
 refine ⟨?_,blk_free h⟩
 rw [cell_of_row _ _ _ _ _ _ h,Nat.zero_add]
 simp only [Option.isSome_iff_exists,← Array.getElem?_eq_some_iff];exact ⟨cs[j],by simp⟩
theorem setCells_bx (b:Nat):∀ (vs:List Value) (o:Nat) (w w':World),Bx b w w'→Bx b w (w'.setCells b o vs)
 | [],o,w,w',h=>h
 | v :: vs,o,w,w',h=>setCells_bx b vs (o + 1) w _ (h.trans (bx_set b o w' v))
theorem st_blk {ops:Array Oper} {rest:List Oper} {op:Oper} {a:Act} {w:World} {Q:Exit→Act→World→Prop} (hgd:op.guard = none) (ty:TypeId) (x y:Operand) (ho:op.op = .store ty x y)
  (b:Nat) (T:TypeId) (old cells:Array Value) (hx:a.eval x = .pointer (some ⟨b,0,none⟩)) (hy:a.eval y = .agg cells)
  (hb:w.heap[b]? = some (.cells old T (0,0))) (hsz:cells.size = old.size) (hi:(Try.prog.info? ty).map (·.size)= some cells.size) (h1:cells.all (·.oneCell')= true)
  (k:∀ Z,Z.heap[b]? = some (.cells cells T (0,0))→Bx b w Z→wpList Try.prog ops Q rest (a.put op.dst undef) Z):wpList Try.prog ops Q (op :: rest) a w:=by
 refine wpList_store_mid hgd ty x y ho b 0 cells hx hy (there_blk hb (by omega)) hi h1 (k _ ?_ ?_)
 ·have:=block_setCells b T cells.toList 0 w old hb (by simp;omega)
  simpa using this
 ·exact setCells_bx b _ 0 w w (Bx.refl b w)
theorem ld_blk {ops:Array Oper} {rest:List Oper} {op:Oper} {a:Act} {w:World} {Q:Exit→Act→World→Prop} (hgd:op.guard = none) (ty:TypeId) (x:Operand) (ho:op.op = .load ty x)
  (b:Nat) (T:TypeId) (cells:Array Value) (d:TypeDesc) (hx:a.eval x = .pointer (some ⟨b,0,none⟩)) (hb:w.heap[b]? = some (.cells cells T (0,0))) (hu:Try.prog.underlying ty = some d) (hd:d.isRow = true) (hi:(Try.prog.info? ty).map (·.size)= some cells.size)
  (h:wpList Try.prog ops Q rest (a.put op.dst (.agg cells)) w):wpList Try.prog ops Q (op :: rest) a w:=
 wpList_load_mid hgd ty x ho b 0 hx cells.toList d (fun j v hj=>by rw [cell_of_row _ _ _ _ _ _ hb,Nat.zero_add];simpa using hj) hu hd (by simpa using hi) (by simpa using h)
section
variable {ops:Array Oper} {Q:Exit→Act→World→Prop} {S:World→Prop} {T:Nat→Bool} {md:Region.Mode}
theorem wp_alloc {o:Oper} {a:Act} {w:World} {K:Act→World→Prop} {Q:Exit→Act→World→Prop} (T:TypeId) (ho:o.op = .alloc T) (z:Value) (hz:∀ w,(zeroValue T).run Try.prog w = .ok z w)
  (k:∀ g Z,Z.heap[g]? = some (.cells z.cells T (0,0))→Bl w Z→Hid (w.heap.size = g∧Z.heap.size = g + 1)→K (a.put o.dst (.pointer (some ⟨g,0,none⟩))) Z):Oper.wp Try.prog o a w K Q:=by
 unfold Oper.wp execOp
 simp only [ho]
 have:=k w.heap.size (w.alloc (.cells z.cells T)) (blk_new _ _ _) (bl_alloc _ _) ⟨rfl,by simp⟩
 simpa [Instr.alloc,hz,newVar,newRow,go_sem] using this
theorem act_comm (a:Act) (i j:Nat) (x y:Value) (h:i≠j):(a.put (some i) x).put (some j) y = (a.put (some j) y).put (some i) x:=by
 simp only [Act.put]
 rw [Array.setIfInBounds_comm _ _ h]
theorem AnyT.two {i j di dj:Nat} {o p:Oper} {n:Nat} {L:Array Bool} {a:Act} {w:World} (ho':(ops.toList.drop i).head? = some o) (hp':(ops.toList.drop j).head? = some p)
  (Ti Tj:TypeId) (zi zj:Value) (ho:o.op = .alloc Ti) (hp:p.op = .alloc Tj) (hdi:o.dst = some di) (hdj:p.dst = some dj) (hd:di≠dj) (hgo:o.guard = none) (hgp:p.guard = none)
  (hzi:∀ w,(zeroValue Ti).run Try.prog w = .ok zi w) (hzj:∀ w,(zeroValue Tj).run Try.prog w = .ok zj w)
  (hr:Region.ready md ops L = [i,j]) (hri:Region.ready md ops (L.setIfInBounds i true)= [j]) (hrj:Region.ready md ops (L.setIfInBounds j true)= [i]) (hij:i≠j)
  (hS:∀ W W',Bl W W'→S W→S W')
  (h:∀ gi gj Z,gi≠gj→Z.heap[gi]? = some (.cells zi.cells Ti (0,0))→Z.heap[gj]? = some (.cells zj.cells Tj (0,0))→Bl w Z→Hid (w.heap.size≤gi∧w.heap.size≤gj)→
   AnyT Try.prog md ops Q S T n ((L.setIfInBounds i true).setIfInBounds j true) ((a.put (some di) (.pointer (some ⟨gi,0,none⟩))).put (some dj) (.pointer (some ⟨gj,0,none⟩))) Z):AnyT Try.prog md ops Q S T (n + 2) L a w:=by
 have eo:=at_drop ho'
 have ep:=at_drop hp'
 refine ⟨fun h0=>absurd (hr ▸ h0) (by simp),fun x hx=>?_⟩
 rw [hr] at hx
 have hx:x = i∨x = j:=by simpa using hx
 rcases hx with rfl | rfl
 ·refine wpOp_step eo (fun K hK=>wanted_wp hgo (wp_alloc Ti ho zi hzi (fun g Z h1 h2 h3=>hK _ _ ⟨fun _ s=>hS _ _ h2 s,fun h0=>absurd (hri ▸ h0) (by simp),fun y hy=>?_⟩)))
  rw [hri] at hy
  obtain rfl:=List.mem_singleton.1 hy
  refine wpOp_step ep (fun K2 hK2=>wanted_wp hgp (wp_alloc Tj hp zj hzj (fun g2 Z2 k1 k2 k3=>hK2 _ _ ⟨fun _ s=>hS _ _ k2 s,?_⟩)))
  rw [hdi,hdj]
  have z3:=h3.out
  have y3:=k3.out
  exact h g g2 Z2 (by omega) (blk_bl k2 h1) k1 (h2.trans k2) ⟨by omega,by omega⟩
 ·refine wpOp_step ep (fun K hK=>wanted_wp hgp (wp_alloc Tj hp zj hzj (fun g Z h1 h2 h3=>hK _ _ ⟨fun _ s=>hS _ _ h2 s,fun h0=>absurd (hrj ▸ h0) (by simp),fun y hy=>?_⟩)))
  rw [hrj] at hy
  obtain rfl:=List.mem_singleton.1 hy
  refine wpOp_step eo (fun K2 hK2=>wanted_wp hgo (wp_alloc Ti ho zi hzi (fun g2 Z2 k1 k2 k3=>hK2 _ _ ⟨fun _ s=>hS _ _ k2 s,?_⟩)))
  rw [hdi,hdj,act_comm _ _ _ _ _ (Ne.symm hd),Array.setIfInBounds_comm _ _ (Ne.symm hij)]
  have z3:=h3.out
  have y3:=k3.out
  exact h g2 g Z2 (by omega) k1 (blk_bl k2 h1) (h2.trans k2) ⟨by omega,by omega⟩
end
theorem alloc_op {ops:Array Oper} {rest:List Oper} {o:Oper} {a:Act} {w:World} {Q:Exit→Act→World→Prop} (hgd:o.guard = none) (T:TypeId) (ho:o.op = .alloc T) (z:Value) (hz:∀ w,(zeroValue T).run Try.prog w = .ok z w)
  (k:∀ g Z,Z.heap[g]? = some (.cells z.cells T (0,0))→Bl w Z→Hid (w.heap.size = g∧Z.heap.size = g + 1)→wpList Try.prog ops Q rest (a.put o.dst (.pointer (some ⟨g,0,none⟩))) Z):wpList Try.prog ops Q (o :: rest) a w:=
 wpList_plain hgd fun _ hK=>wp_alloc T ho z hz (fun g Z h1 h2 h3=>hK _ _ (k g Z h1 h2 h3))
theorem SL.heap {w w':World} {base:Nat} {v:Value} {xs:List Str} (h:SL w base v xs) (hb:∀ k,v.ownBlock = some k→k < w.heap.size→w'.heap[k]? = w.heap[k]?):SL w' base v xs:=by
 refine ⟨h.1,h.2.imp id ?_⟩
 rintro ⟨g,cap,cur,h1,h2,h3,h4⟩
 exact ⟨g,cap,cur,h1,h2,(hb g (by rw [h1];rfl) (lt_of_block h3)).trans h3,h4⟩
theorem SL.fx {A:Nat→Prop} {w w':World} {base:Nat} {v:Value} {xs:List Str} (h:SL w base v xs) (hb:Fx A w w') (hA:∀ k,v.ownBlock = some k→¬ A k):SL w' base v xs:=
 h.heap (fun k hk hl=>hb.block k hl (hA k hk))
theorem SL.slen {w:World} {base:Nat} {v:Value} {xs:List Str} (h:SL w base v xs):∃ A c,v = .slice A xs.length c:=by
 rcases h.form with ⟨rfl,rfl⟩ | ⟨g,c,rfl,-⟩
 ·exact ⟨_,_,rfl⟩
 ·exact ⟨_,_,rfl⟩
theorem bl_drewN {w w':World} {n:Nat} (h:Bl w w'):Bl w (w'.drewN n):=by
 unfold Bl at *;exact ⟨h.os,h.tape,h.output,h.size,h.block⟩
theorem four_fx {A:Nat→Prop} {P:Nat→Prop} {w w':World} (h:Fx A w w') (hA:∀ k,P k→¬ A k) {t:Tm} {b:Nat} (hl:Lies P w t b):Lies P w' t b:=
 hl.map (fun {b k x y s} hp h4=>⟨hp,⟨by
   have:=h4.sh;unfold World.shape? at *;rw [h.block b (shape_lt h4.sh) (hA _ hp)];exact this,h.cell (hA _ hp) h4.c0,h.cell (hA _ hp) h4.c1,h.cell (hA _ hp) h4.c2,h.cell (hA _ hp) h4.c3⟩⟩)
  (fun {b n i p} hp hk=>⟨hp,⟨by
   have:=hk.sh;unfold World.shape? at *;rw [h.block b (shape_lt hk.sh) (hA _ hp)];exact this,h.cell (hA _ hp) hk.c⟩⟩)
theorem sz_str:(Try.prog.info? 9).map (·.size)= some 1:=by kernel_rfl
theorem sz_sstr:(Try.prog.info? 27).map (·.size)= some 1:=by kernel_rfl
theorem sz_bool:(Try.prog.info? 4).map (·.size)= some 1:=by kernel_rfl
theorem sz_way:(Try.prog.info? 75).map (·.size)= some 4:=by kernel_rfl
theorem sz_mach:(Try.prog.info? 33).map (·.size)= some 3:=by kernel_rfl
theorem zero_mach (w:World):(zeroValue 33).run Try.prog w = .ok (.agg #[.string (S []),.slice none 0 0,.slice none 0 0]) w:=by kernel_rfl
theorem zero_way (w:World):(zeroValue 75).run Try.prog w = .ok (.agg #[.int .u8 0,.int .u8 0,.int .u8 0,.pointer none]) w:=by kernel_rfl
theorem encY_all (x:Wy):(encY x).toArray.all (·.oneCell')= true:=all_oneCell_toArray (encY_one x)
theorem sz_tptr:(Try.prog.info? 66).map (·.size)= some 1:=by kernel_rfl
theorem zero_tptr (w:World):(zeroValue 66).run Try.prog w = .ok (.pointer none) w:=by kernel_rfl
end Go.Proofs.Ytmmnnhaecjpfdaa
namespace Go.Proofs.Ytmmnnhaecjpfdaa
open Go.RowKit
attribute [local go_sem] mkfn
def fitB (k a k2 a2:UInt8):Bool:=decide (a = a2) && (decide (k = 33) && decide (k2 = 63) || decide (k = 63) && decide (k2 = 33))
theorem fits_c (x y:Wy) (w:World):Calls Try.prog 83 #[x.val,y.val] w fun e w'=>e = .returned (.bool (fitB x.k x.a y.k y.a))∧Bl w w':=by
 obtain ⟨k,a,b,p⟩:=x
 obtain ⟨k2,a2,b2,p2⟩:=y
 show Calls Try.prog 83 #[.agg #[.int .u8 k.toNat,.int .u8 a.toNat,.int .u8 b.toNat,encP p],.agg #[.int .u8 k2.toNat,.int .u8 a2.toNat,.int .u8 b2.toNat,encP p2]] w fun e w'=>e = .returned (.bool (fitB k a k2 a2))∧Bl w w'
 by_cases ha:a = a2
 ·subst ha
  by_cases h1:k = 33
  ·subst h1
   by_cases h2:k2 = 63
   ·subst h2
    go_enter Try.func83,Try.ntmps83
    go_wp2_with fail
    go_ret
    exact ⟨by simp [fitB],bls⟩
   ·have e2:((k2.toNat:Int)== 63)= false:=ne_int (d:=63) h2
    go_enter Try.func83,Try.ntmps83
    go_wp2_with fail
    go_ret
    exact ⟨by simp [fitB,h2],bls⟩
  ·have e1:((k.toNat:Int)== 33)= false:=ne_int (d:=33) h1
   by_cases h3:k = 63
   ·subst h3
    by_cases h2:k2 = 33
    ·subst h2
     go_enter Try.func83,Try.ntmps83
     go_wp2_with fail
     go_ret
     exact ⟨by simp [fitB],bls⟩
    ·have e2:((k2.toNat:Int)== 33)= false:=ne_int (d:=33) h2
     go_enter Try.func83,Try.ntmps83
     go_wp2_with fail
     go_ret
     exact ⟨by simp [fitB,h2],bls⟩
   ·have e3:((k.toNat:Int)== 63)= false:=ne_int (d:=63) h3
    go_enter Try.func83,Try.ntmps83
    go_wp2_with fail
    go_ret
    exact ⟨by simp [fitB,h1,h3],bls⟩
 ·have e1:((a.toNat:Int)== (a2.toNat:Int))= false:=ne_int ha
  go_enter Try.func83,Try.ntmps83
  go_wp2_with fail
  go_ret
  exact ⟨by simp [fitB,ha],bls⟩
theorem still_c (y:Wy) (w:World):Calls Try.prog 58 #[y.val] w fun e w'=>e = .returned (.bool (decide (y.k = 126)))∧Bl w w':=by
 obtain ⟨k,a,b,p⟩:=y
 show Calls Try.prog 58 #[.agg #[.int .u8 k.toNat,.int .u8 a.toNat,.int .u8 b.toNat,encP p]] w fun e w'=>e = .returned (.bool (decide (k = 126)))∧Bl w w'
 by_cases h:k = 126
 ·subst h
  go_enter Try.func58,Try.ntmps58
  go_wp2_with fail
  go_ret
  exact ⟨rfl,bls⟩
 ·have e1:((k.toNat:Int)== 126)= false:=ne_int (d:=126) h
  go_enter Try.func58,Try.ntmps58
  go_wp2_with fail
  go_ret
  exact ⟨by simp [h],bls⟩
theorem idx_fit (x:Wy) (v:Value) (ys:List Wy) (bs:List Bool) (w0:World) (hv:WysL w0 0 v ys) (hl:ys.length = bs.length) (hn:ys.length≤100000)
  (hc:Hid (∀ (j:Nat) (y:Wy) (b:Bool) (w:World),ys[j]? = some y→bs[j]? = some b→Bl w0 w→Calls Try.prog 83 #[x.val,y.val] w fun e w'=>e = .returned (.bool b)∧Bl w w')):
  Calls Try.prog 80 #[v,.func (.func 83) #[x.val] #[]] w0 fun e w'=>e = .returned (.int .i64 (idxG bs 0))∧Bl w0 w':=by
 have HN:=hide hn
 have HL:=hide hl
 clear hn hl
 rcases hv.form encY_len with ⟨rfl,rfl⟩ | ⟨g,c,cur,rfl,-,-,-,hcell⟩
 ·have hb:bs = []:=List.eq_nil_of_length_eq_zero HL.out.symm
  subst hb
  clear hv
  go_enter Try.func80,Try.ntmps80
  go_wp2_with fail
  refine wp_loop_rounds 1 ?_
  rw [rounds_succ]
  go_wp2_with fail
  go_ret
  exact ⟨rfl,.refl _⟩
 ·have HC:=hide hcell
  clear hv hcell
  go_enter Try.func80,Try.ntmps80
  go_wp2_with fail
  go_loopg [8] (ys.length + 1) (fun m i wr=>∃ j:Nat,m = ys.length + 1 - j∧Hid (j≤ys.length)∧Hid (idxG (bs.drop j) j = idxG bs 0)∧i = .int .i64 j∧Bl w0 wr)
  case atStart=>exact ⟨0,by omega,Nat.zero_le _,rfl,rfl,.refl _⟩
  case round=>
   obtain ⟨j,hm,hj,he,rfl,hb⟩:=hrel
   have HM:=hide hm
   clear hm
   have q3:(ys.length:Int)≤100000:=by have:=HN.out;omega
   by_cases hlt:j < ys.length
   ·obtain ⟨y,hx⟩:∃ y,ys[j]? = some y:=⟨_,List.getElem?_eq_getElem hlt⟩
    have hlt2:j < bs.length:=by have:=HL.out;omega
    obtain ⟨b,hbj⟩:∃ b,bs[j]? = some b:=⟨_,List.getElem?_eq_getElem hlt2⟩
    have hd:bs.drop j = b :: bs.drop (j + 1):=by rw [List.drop_eq_getElem_cons hlt2,(List.getElem?_eq_some_iff.1 hbj).2]
    have hcu:Hid (∀ (i:Nat) (u:Value),(encY y)[i]? = some u→wr.cell? ⟨g,j * 4 + i,none⟩= some u):=fun i u hu=>cell_kept hb (HC.out j y hx i u hu)
    have q1:(j:Int) < ys.length:=by omega
    have q2:(0:Int)≤(j:Int):=by omega
    have c1:=hide (hc.out j y b wr hx hbj hb)
    have he2:=he.out
    rw [hd,idxG] at he2
    have HE2:=hide he2
    have HLT:=hide hlt
    clear hx hbj hd he he2 hlt hlt2
    cases b with
    | true=>
      have HE3:=HE2.out
      rw [if_pos rfl] at HE3
      replace HE3:=hide HE3
      go_wp2_with (first | (refine ld_row rfl 75 (.tmp 14) rfl g (j * 4) (encY y) _ (by simp [Act.eval,Act.put]) hcu.out Try.underlying75 rfl sz_way ?_) | (go_at_call 83;(with_reducible refine (c1.out).mono ?_);rintro e w' ⟨rfl,hb2⟩))
      go_ret
      exact ⟨by rw [← HE3.out];rfl,hb.trans hb2⟩
    | false=>
      have HE3:=HE2.out
      rw [if_neg (by decide)] at HE3
      replace HE3:=hide HE3
      go_wp2_with (first | (refine ld_row rfl 75 (.tmp 14) rfl g (j * 4) (encY y) _ (by simp [Act.eval,Act.put]) hcu.out Try.underlying75 rfl sz_way ?_) | (go_at_call 83;(with_reducible refine (c1.out).mono ?_);rintro e w' ⟨rfl,hb2⟩))
      go_roundg (ys.length + 1 - (j + 1))
      case measure=>have:=HM.out;have:=HLT.out;omega
      case rel=>exact ⟨j + 1,rfl,HLT.out,HE3.out,by go_num,hb.trans hb2⟩
   ·have hj':j = ys.length:=by have:=hj.out;omega
    subst hj'
    have hd:bs.drop ys.length = []:=List.drop_of_length_le (by have:=HL.out;omega)
    have he2:=he.out
    rw [hd,idxG] at he2
    have HE2:=hide he2
    have q1:¬ (ys.length:Int) < ys.length:=by omega
    clear hd he he2
    go_wp2_with fail
    go_ret
    exact ⟨by rw [← HE2.out];rfl,hb⟩
theorem any_fit (x:Wy) (v:Value) (ys:List Wy) (bs:List Bool) (w0:World) (hv:WysL w0 0 v ys) (hl:ys.length = bs.length) (hn:ys.length≤100000)
  (hc:Hid (∀ (j:Nat) (y:Wy) (b:Bool) (w:World),ys[j]? = some y→bs[j]? = some b→Bl w0 w→Calls Try.prog 83 #[x.val,y.val] w fun e w'=>e = .returned (.bool b)∧Bl w w')):
  Calls Try.prog 56 #[v,.func (.func 83) #[x.val] #[]] w0 fun e w'=>e = .returned (.bool (bs.any id))∧Bl w0 w':=by
 have c1:=hide (idx_fit x v ys bs w0 hv hl hn hc)
 have hb:=hide (idxG_any bs 0 (by omega))
 clear hv hl hn hc
 generalize idxG bs 0 = r at *
 go_enter Try.func56,Try.ntmps56
 go_wp2_with (((with_reducible refine c1.out.mono ?_);rintro e w2 ⟨rfl,hb2⟩))
 go_ret
 exact ⟨ret_bool hb.out,hb2⟩
theorem idx_meet (cv:Value) (v:Value) (ys:List Wy) (bs:List Bool) (w0:World) (hv:WysL w0 0 v ys) (hl:ys.length = bs.length) (hn:ys.length≤100000)
  (hc:Hid (∀ (j:Nat) (y:Wy) (b:Bool) (w:World),ys[j]? = some y→bs[j]? = some b→Bl w0 w→Calls Try.prog 82 #[y.val,cv] w fun e w'=>e = .returned (.bool b)∧Bl w w')):
  Calls Try.prog 80 #[v,.func (.func 82) #[] #[cv]] w0 fun e w'=>e = .returned (.int .i64 (idxG bs 0))∧Bl w0 w':=by
 have HN:=hide hn
 have HL:=hide hl
 clear hn hl
 rcases hv.form encY_len with ⟨rfl,rfl⟩ | ⟨g,c,cur,rfl,-,-,-,hcell⟩
 ·have hb:bs = []:=List.eq_nil_of_length_eq_zero HL.out.symm
  subst hb
  clear hv
  go_enter Try.func80,Try.ntmps80
  go_wp2_with fail
  refine wp_loop_rounds 1 ?_
  rw [rounds_succ]
  go_wp2_with fail
  go_ret
  exact ⟨rfl,.refl _⟩
 ·have HC:=hide hcell
  clear hv hcell
  go_enter Try.func80,Try.ntmps80
  go_wp2_with fail
  go_loopg [8] (ys.length + 1) (fun m i wr=>∃ j:Nat,m = ys.length + 1 - j∧Hid (j≤ys.length)∧Hid (idxG (bs.drop j) j = idxG bs 0)∧i = .int .i64 j∧Bl w0 wr)
  case atStart=>exact ⟨0,by omega,Nat.zero_le _,rfl,rfl,.refl _⟩
  case round=>
   obtain ⟨j,hm,hj,he,rfl,hb⟩:=hrel
   have HM:=hide hm
   clear hm
   have q3:(ys.length:Int)≤100000:=by have:=HN.out;omega
   by_cases hlt:j < ys.length
   ·obtain ⟨y,hx⟩:∃ y,ys[j]? = some y:=⟨_,List.getElem?_eq_getElem hlt⟩
    have hlt2:j < bs.length:=by have:=HL.out;omega
    obtain ⟨b,hbj⟩:∃ b,bs[j]? = some b:=⟨_,List.getElem?_eq_getElem hlt2⟩
    have hd:bs.drop j = b :: bs.drop (j + 1):=by rw [List.drop_eq_getElem_cons hlt2,(List.getElem?_eq_some_iff.1 hbj).2]
    have hcu:Hid (∀ (i:Nat) (u:Value),(encY y)[i]? = some u→wr.cell? ⟨g,j * 4 + i,none⟩= some u):=fun i u hu=>cell_kept hb (HC.out j y hx i u hu)
    have q1:(j:Int) < ys.length:=by omega
    have q2:(0:Int)≤(j:Int):=by omega
    have c1:=hide (hc.out j y b wr hx hbj hb)
    have he2:=he.out
    rw [hd,idxG] at he2
    have HE2:=hide he2
    have HLT:=hide hlt
    clear hx hbj hd he he2 hlt hlt2
    cases b with
    | true=>
      have HE3:=HE2.out
      rw [if_pos rfl] at HE3
      replace HE3:=hide HE3
      go_wp2_with (first | (refine ld_row rfl 75 (.tmp 14) rfl g (j * 4) (encY y) _ (by simp [Act.eval,Act.put]) hcu.out Try.underlying75 rfl sz_way ?_) | (go_at_call 82;(with_reducible refine (c1.out).mono ?_);rintro e w' ⟨rfl,hb2⟩))
      go_ret
      exact ⟨by rw [← HE3.out];rfl,hb.trans hb2⟩
    | false=>
      have HE3:=HE2.out
      rw [if_neg (by decide)] at HE3
      replace HE3:=hide HE3
      go_wp2_with (first | (refine ld_row rfl 75 (.tmp 14) rfl g (j * 4) (encY y) _ (by simp [Act.eval,Act.put]) hcu.out Try.underlying75 rfl sz_way ?_) | (go_at_call 82;(with_reducible refine (c1.out).mono ?_);rintro e w' ⟨rfl,hb2⟩))
      go_roundg (ys.length + 1 - (j + 1))
      case measure=>have:=HM.out;have:=HLT.out;omega
      case rel=>exact ⟨j + 1,rfl,HLT.out,HE3.out,by go_num,hb.trans hb2⟩
   ·have hj':j = ys.length:=by have:=hj.out;omega
    subst hj'
    have hd:bs.drop ys.length = []:=List.drop_of_length_le (by have:=HL.out;omega)
    have he2:=he.out
    rw [hd,idxG] at he2
    have HE2:=hide he2
    have q1:¬ (ys.length:Int) < ys.length:=by omega
    clear hd he he2
    go_wp2_with fail
    go_ret
    exact ⟨by rw [← HE2.out];rfl,hb⟩
theorem any_meet (cv:Value) (v:Value) (ys:List Wy) (bs:List Bool) (w0:World) (hv:WysL w0 0 v ys) (hl:ys.length = bs.length) (hn:ys.length≤100000)
  (hc:Hid (∀ (j:Nat) (y:Wy) (b:Bool) (w:World),ys[j]? = some y→bs[j]? = some b→Bl w0 w→Calls Try.prog 82 #[y.val,cv] w fun e w'=>e = .returned (.bool b)∧Bl w w')):
  Calls Try.prog 56 #[v,.func (.func 82) #[] #[cv]] w0 fun e w'=>e = .returned (.bool (bs.any id))∧Bl w0 w':=by
 have c1:=hide (idx_meet cv v ys bs w0 hv hl hn hc)
 have hb:=hide (idxG_any bs 0 (by omega))
 clear hv hl hn hc
 generalize idxG bs 0 = r at *
 go_enter Try.func56,Try.ntmps56
 go_wp2_with (((with_reducible refine c1.out.mono ?_);rintro e w2 ⟨rfl,hb2⟩))
 go_ret
 exact ⟨ret_bool hb.out,hb2⟩
theorem idx_still (v:Value) (ys:List Wy) (bs:List Bool) (w0:World) (hv:WysL w0 0 v ys) (hl:ys.length = bs.length) (hn:ys.length≤100000)
  (hc:Hid (∀ (j:Nat) (y:Wy) (b:Bool) (w:World),ys[j]? = some y→bs[j]? = some b→Bl w0 w→Calls Try.prog 58 #[y.val] w fun e w'=>e = .returned (.bool b)∧Bl w w')):
  Calls Try.prog 80 #[v,.func (.func 58) #[] #[]] w0 fun e w'=>e = .returned (.int .i64 (idxG bs 0))∧Bl w0 w':=by
 have HN:=hide hn
 have HL:=hide hl
 clear hn hl
 rcases hv.form encY_len with ⟨rfl,rfl⟩ | ⟨g,c,cur,rfl,-,-,-,hcell⟩
 ·have hb:bs = []:=List.eq_nil_of_length_eq_zero HL.out.symm
  subst hb
  clear hv
  go_enter Try.func80,Try.ntmps80
  go_wp2_with fail
  refine wp_loop_rounds 1 ?_
  rw [rounds_succ]
  go_wp2_with fail
  go_ret
  exact ⟨rfl,.refl _⟩
 ·have HC:=hide hcell
  clear hv hcell
  go_enter Try.func80,Try.ntmps80
  go_wp2_with fail
  go_loopg [8] (ys.length + 1) (fun m i wr=>∃ j:Nat,m = ys.length + 1 - j∧Hid (j≤ys.length)∧Hid (idxG (bs.drop j) j = idxG bs 0)∧i = .int .i64 j∧Bl w0 wr)
  case atStart=>exact ⟨0,by omega,Nat.zero_le _,rfl,rfl,.refl _⟩
  case round=>
   obtain ⟨j,hm,hj,he,rfl,hb⟩:=hrel
   have HM:=hide hm
   clear hm
   have q3:(ys.length:Int)≤100000:=by have:=HN.out;omega
   by_cases hlt:j < ys.length
   ·obtain ⟨y,hx⟩:∃ y,ys[j]? = some y:=⟨_,List.getElem?_eq_getElem hlt⟩
    have hlt2:j < bs.length:=by have:=HL.out;omega
    obtain ⟨b,hbj⟩:∃ b,bs[j]? = some b:=⟨_,List.getElem?_eq_getElem hlt2⟩
    have hd:bs.drop j = b :: bs.drop (j + 1):=by rw [List.drop_eq_getElem_cons hlt2,(List.getElem?_eq_some_iff.1 hbj).2]
    have hcu:Hid (∀ (i:Nat) (u:Value),(encY y)[i]? = some u→wr.cell? ⟨g,j * 4 + i,none⟩= some u):=fun i u hu=>cell_kept hb (HC.out j y hx i u hu)
    have q1:(j:Int) < ys.length:=by omega
    have q2:(0:Int)≤(j:Int):=by omega
    have c1:=hide (hc.out j y b wr hx hbj hb)
    have he2:=he.out
    rw [hd,idxG] at he2
    have HE2:=hide he2
    have HLT:=hide hlt
    clear hx hbj hd he he2 hlt hlt2
    cases b with
    | true=>
      have HE3:=HE2.out
      rw [if_pos rfl] at HE3
      replace HE3:=hide HE3
      go_wp2_with (first | (refine ld_row rfl 75 (.tmp 14) rfl g (j * 4) (encY y) _ (by simp [Act.eval,Act.put]) hcu.out Try.underlying75 rfl sz_way ?_) | (go_at_call 58;(with_reducible refine (c1.out).mono ?_);rintro e w' ⟨rfl,hb2⟩))
      go_ret
      exact ⟨by rw [← HE3.out];rfl,hb.trans hb2⟩
    | false=>
      have HE3:=HE2.out
      rw [if_neg (by decide)] at HE3
      replace HE3:=hide HE3
      go_wp2_with (first | (refine ld_row rfl 75 (.tmp 14) rfl g (j * 4) (encY y) _ (by simp [Act.eval,Act.put]) hcu.out Try.underlying75 rfl sz_way ?_) | (go_at_call 58;(with_reducible refine (c1.out).mono ?_);rintro e w' ⟨rfl,hb2⟩))
      go_roundg (ys.length + 1 - (j + 1))
      case measure=>have:=HM.out;have:=HLT.out;omega
      case rel=>exact ⟨j + 1,rfl,HLT.out,HE3.out,by go_num,hb.trans hb2⟩
   ·have hj':j = ys.length:=by have:=hj.out;omega
    subst hj'
    have hd:bs.drop ys.length = []:=List.drop_of_length_le (by have:=HL.out;omega)
    have he2:=he.out
    rw [hd,idxG] at he2
    have HE2:=hide he2
    have q1:¬ (ys.length:Int) < ys.length:=by omega
    clear hd he he2
    go_wp2_with fail
    go_ret
    exact ⟨by rw [← HE2.out];rfl,hb⟩
theorem any_still (v:Value) (ys:List Wy) (bs:List Bool) (w0:World) (hv:WysL w0 0 v ys) (hl:ys.length = bs.length) (hn:ys.length≤100000)
  (hc:Hid (∀ (j:Nat) (y:Wy) (b:Bool) (w:World),ys[j]? = some y→bs[j]? = some b→Bl w0 w→Calls Try.prog 58 #[y.val] w fun e w'=>e = .returned (.bool b)∧Bl w w')):
  Calls Try.prog 56 #[v,.func (.func 58) #[] #[]] w0 fun e w'=>e = .returned (.bool (bs.any id))∧Bl w0 w':=by
 have c1:=hide (idx_still v ys bs w0 hv hl hn hc)
 have hb:=hide (idxG_any bs 0 (by omega))
 clear hv hl hn hc
 generalize idxG bs 0 = r at *
 go_enter Try.func56,Try.ntmps56
 go_wp2_with (((with_reducible refine c1.out.mono ?_);rintro e w2 ⟨rfl,hb2⟩))
 go_ret
 exact ⟨ret_bool hb.out,hb2⟩
end Go.Proofs.Ytmmnnhaecjpfdaa
namespace Go.Proofs.Ytmmnnhaecjpfdaa
open Go.RowKit
attribute [local go_sem] S_size S_toList S_lit S_get S_extract S_append drop_all
attribute [local go_sem] mkfn
def gH:Tm→Bool
 | .bin k p q=>if k = 43 then sumB p.kind && sumB q.kind else true
 | _=>true
def iH:Tm→Bool
 | .un k _ _ p=>if k = 42 then decide (p.kind = 63) else true
 | _=>true
def allT (h:Tm→Bool):Tm→Bool
 | .zero=>h .zero
 | .un k a b p=>h (.un k a b p) && allT h p
 | .bin k p q=>h (.bin k p q) && allT h p && allT h q
theorem allT_g:∀ t:Tm,allT gH t = grdT t
 | .zero=>rfl
 | .un k a b p=>by simp [allT,gH,grdT,allT_g p]
 | .bin k p q=>by
   simp only [allT,gH,grdT,allT_g p,allT_g q]
   split
   ·cases sumB p.kind <;> cases sumB q.kind <;> cases grdT p <;> cases grdT q <;> rfl
   ·simp
theorem allT_i:∀ t:Tm,allT iH t = inpT t
 | .zero=>rfl
 | .un k a b p=>by
   simp only [allT,iH,inpT,allT_i p]
   split <;> simp
 | .bin k p q=>by simp [allT,iH,inpT,allT_i p,allT_i q]
theorem idx_in (s:Str) (c:UInt8) (h:c∈s):∃ i:Int,0≤i∧∀ w,Calls Try.prog 54 #[.string (S s),.int .u8 c.toNat] w fun e w'=>e = .returned (.int .i64 i)∧w = w':=by
 refine ⟨Lib.indexByte s c,?_,fun w=>?_⟩
 ·induction s with
  | nil=>cases h
  | cons b l ih=>
    unfold Lib.indexByte
    by_cases e:b = c
    ·simp [e]
    ·have:=ih (by simpa [Ne.symm e] using h)
     simp [e];split <;> omega
 ·refine (Try.strings_IndexByte (S s) c.toNat w).mono fun e w' ⟨h1,h2⟩=>⟨?_,h2.symm⟩
  rw [h1];simp [S]
theorem idx_out (s:Str) (c:UInt8) (h:c∉s):∀ w,Calls Try.prog 54 #[.string (S s),.int .u8 c.toNat] w fun e w'=>e = .returned (.int .i64 (-1))∧w = w':=by
 have h0:Lib.indexByte s c = -1:=by
  induction s with
  | nil=>rfl
  | cons b l ih=>
    unfold Lib.indexByte
    rw [List.mem_cons,not_or] at h
    rw [ih h.2];simp [Ne.symm h.1]
 intro w
 refine (Try.strings_IndexByte (S s) c.toNat w).mono fun e w' ⟨h1,h2⟩=>⟨?_,h2.symm⟩
 rw [h1,← h0];simp [S]
theorem idx_sum (k:UInt8):∃ i:Int,decide (0≤i)= sumB k∧∀ w,Calls Try.prog 54 #[.string (S [33,63,126,43,48]),.int .u8 k.toNat] w fun e w'=>e = .returned (.int .i64 i)∧w = w':=by
 unfold sumB
 by_cases h:k∈([33,63,126,43,48]:Str)
 ·obtain ⟨i,h0,h1⟩:=idx_in _ k h
  exact ⟨i,by simp only [h,h0,decide_true],h1⟩
 ·exact ⟨-1,by simp only [h];decide,idx_out _ k h⟩
theorem kind_cell {P:Nat→Prop} {w:World} {t:Tm} {b:Nat} (h:Lies P w t b):w.cell? ⟨b,0,none⟩= some (.int .u8 t.kind.toNat):=by
 cases t with
 | zero=>obtain ⟨-,A,c,h⟩:=h;exact h.c0
 | un k x y p=>obtain ⟨-,g,c,n,pb,-,h,-⟩:=h;exact h.c0
 | bin k p q=>obtain ⟨-,g,c,n,pb,qb,-,h,-⟩:=h;exact h.c0
theorem gH_no (b:Nat) (k:UInt8) (w:World) (h0:w.cell? ⟨b,0,none⟩= some (.int .u8 k.toNat)) (hk:k≠43):Calls Try.prog 105 #[encP b] w fun e w'=>e = .returned (.bool true)∧w = w':=by
 have h1:=ne_int (d:=43) hk
 have h1':((k.toNat:Int)== 43)= false:=h1
 have h2:((k.toNat:Int) != 43)= true:=bne_of h1'
 go_enter Try.func105,Try.ntmps105
 go_wp2_with fail
 go_ret
 exact ⟨rfl,rfl⟩
theorem gH_43 (b g c pb qb:Nat) (kp kq:UInt8) (w:World) (h0:w.cell? ⟨b,0,none⟩= some (.int .u8 43)) (h3:w.cell? ⟨b,3,none⟩= some (.slice (some ⟨g,0,none⟩) 2 c))
  (hp:w.cell? ⟨g,0,none⟩= some (encP pb)) (hq:w.cell? ⟨g,1,none⟩= some (encP qb)) (kp0:w.cell? ⟨pb,0,none⟩= some (.int .u8 kp.toNat)) (kq0:w.cell? ⟨qb,0,none⟩= some (.int .u8 kq.toNat)):
  Calls Try.prog 105 #[encP b] w fun e w'=>e = .returned (.bool (sumB kp && sumB kq))∧w = w':=by
 obtain ⟨i,hi,ci⟩:=idx_sum kp
 obtain ⟨j,hj,cj⟩:=idx_sum kq
 have ci:=hide ci
 have cj:=hide cj
 rw [← hi,← hj]
 by_cases h1:(0:Int)≤i
 ·by_cases h2:(0:Int)≤j
  ·simp only [h1,h2,decide_true,Bool.and_true]
   clear hi hj
   go_enter Try.func105,Try.ntmps105
   go_wp2_with (first | (go_at_call 54;(with_reducible refine (ci.out _).mono ?_);rintro e w' ⟨rfl,rfl⟩) | (go_at_call 54;(with_reducible refine (cj.out _).mono ?_);rintro e w' ⟨rfl,rfl⟩))
   go_ret
   exact ⟨rfl,rfl⟩
  ·simp only [h1,h2,decide_true,decide_false,Bool.and_false]
   clear hi hj
   go_enter Try.func105,Try.ntmps105
   go_wp2_with (first | (go_at_call 54;(with_reducible refine (ci.out _).mono ?_);rintro e w' ⟨rfl,rfl⟩) | (go_at_call 54;(with_reducible refine (cj.out _).mono ?_);rintro e w' ⟨rfl,rfl⟩))
   go_ret
   exact ⟨by first | rfl | simp [h2],rfl⟩
 ·simp only [h1,decide_false,Bool.false_and]
  clear hi hj
  go_enter Try.func105,Try.ntmps105
  go_wp2_with (first | (go_at_call 54;(with_reducible refine (ci.out _).mono ?_);rintro e w' ⟨rfl,rfl⟩) | (go_at_call 54;(with_reducible refine (cj.out _).mono ?_);rintro e w' ⟨rfl,rfl⟩))
  go_ret
  exact ⟨rfl,rfl⟩
theorem iH_no (b:Nat) (k:UInt8) (w:World) (h0:w.cell? ⟨b,0,none⟩= some (.int .u8 k.toNat)) (hk:k≠42):Calls Try.prog 96 #[encP b] w fun e w'=>e = .returned (.bool true)∧w = w':=by
 have h1:=ne_int (d:=42) hk
 have h1':((k.toNat:Int)== 42)= false:=h1
 have h2:((k.toNat:Int) != 42)= true:=bne_of h1'
 go_enter Try.func96,Try.ntmps96
 go_wp2_with fail
 go_ret
 exact ⟨rfl,rfl⟩
theorem iH_42 (b g c pb:Nat) (kp:UInt8) (w:World) (h0:w.cell? ⟨b,0,none⟩= some (.int .u8 42)) (h3:w.cell? ⟨b,3,none⟩= some (.slice (some ⟨g,0,none⟩) 1 c))
  (hp:w.cell? ⟨g,0,none⟩= some (encP pb)) (kp0:w.cell? ⟨pb,0,none⟩= some (.int .u8 kp.toNat)):
  Calls Try.prog 96 #[encP b] w fun e w'=>e = .returned (.bool (decide (kp = 63)))∧w = w':=by
 have h63:((kp.toNat:Int)== 63)= decide (kp = 63):=by
  rw [Bool.eq_iff_iff]
  simp only [beq_iff_eq,decide_eq_true_eq]
  constructor
  ·intro h;exact UInt8.toNat_inj.1 (by show kp.toNat = 63;omega)
  ·intro h;rw [h];rfl
 go_enter Try.func96,Try.ntmps96
 go_wp2_with fail
 go_ret
 exact ⟨rfl,rfl⟩
theorem gH_c {P:Nat→Prop} (t:Tm) (b:Nat) (w:World) (h:Lies P w t b) (ht:t.ok smallB = true):Calls Try.prog 105 #[encP b] w fun e w'=>e = .returned (.bool (gH t))∧w = w':=by
 have h0:=kind_cell h
 cases t with
 | zero=>exact gH_no b 48 w h0 (by decide)
 | un k x y p=>
   simp only [Tm.ok,Bool.and_eq_true] at ht
   exact gH_no b k w h0 (okhd_ne ht.1).2.1
 | bin k p q=>
   simp only [Tm.ok,Bool.and_eq_true,Bool.or_eq_true,beq_iff_eq] at ht
   obtain ⟨-,g,c,n,pb,qb,-,hF,hK,hK2,hp,hq⟩:=h
   rcases ht.1 with rfl | rfl
   ·exact gH_43 b g c pb qb p.kind q.kind w hF.c0 hF.c3 hK.c hK2.c (kind_cell hp) (kind_cell hq)
   ·exact gH_no b 38 w h0 (by decide)
theorem iH_c {P:Nat→Prop} (t:Tm) (b:Nat) (w:World) (h:Lies P w t b) (ht:t.ok smallB = true):Calls Try.prog 96 #[encP b] w fun e w'=>e = .returned (.bool (iH t))∧w = w':=by
 have h0:=kind_cell h
 cases t with
 | zero=>exact iH_no b 48 w h0 (by decide)
 | un k x y p=>
   by_cases hk:k = 42
   ·subst hk
    obtain ⟨-,g,c,n,pb,-,hF,hK,hp⟩:=h
    exact iH_42 b g c pb p.kind w hF.c0 hF.c3 hK.c (kind_cell hp)
   ·have e:iH (.un k x y p)= true:=by simp [iH,hk]
    rw [e]
    exact iH_no b k w h0 hk
 | bin k p q=>
   simp only [Tm.ok,Bool.and_eq_true,Bool.or_eq_true,beq_iff_eq] at ht
   exact iH_no b k w h0 (by rcases ht.1 with rfl | rfl <;> decide)
theorem zero_bool (w:World):(zeroValue 4).run Try.prog w = .ok (.bool false) w:=by kernel_rfl
theorem sz_bool1:(Try.prog.info? 4).map (·.size)= some 1:=by kernel_rfl
abbrev Bo (w:World) (G:Nat) (b:Bool):Prop:=w.heap[G]? = some (.cells #[.bool b] 4 (0,0))
theorem Bo.else_ {w:World} {G:Nat} {b:Bool} (h:Bo w G b):Else w G:=by
 intro n T hs
 rw [blk_shape h] at hs
 obtain ⟨rfl,-⟩:=Prod.mk.inj (Option.some.inj hs)
 exact ⟨by decide,by decide⟩
theorem all1_gH (b G H:Nat) (bl r:Bool) (w:World) (hG:Bo w G bl) (hH:w.cell? ⟨H,0,none⟩= some (.func (.func 105) #[] #[]))
  (ch:Hid (∀ w',Bl w w'→Calls Try.prog 105 #[encP b] w' fun e w''=>e = .returned (.bool r)∧w' = w'')):
  Calls Try.prog 107 #[encP b,encP G,encP H] w fun e w'=>e = .returned (.tuple #[])∧Bo w' G (bl && r)∧Bx G w w':=by
 have g0:=blk_cell (i:=0) hG rfl
 have f0:=blk_free (i:=0) hG
 have HG:=hide hG
 clear hG
 cases bl
 ·go_enter Try.func107,Try.ntmps107
  go_wp2_with fail
  refine bodyPost_end (results_none rfl _ _ _) rfl ?_
  exact ⟨rfl,blk_set (i:=0) HG.out _,bx_set _ _ _ _⟩
 ·go_enter Try.func107,Try.ntmps107
  go_wp2_with ((go_at_call 105;(with_reducible refine (ch.out _ (Bl.refl _)).mono ?_);rintro e w' ⟨rfl,rfl⟩))
  refine bodyPost_end (results_none rfl _ _ _) rfl ?_
  exact ⟨rfl,by rw [Bool.true_and];exact blk_set (i:=0) HG.out _,bx_set _ _ _ _⟩
theorem each_zero_gH (b G H c:Nat) (A:Option Addr) (bl r:Bool) (w:World) (h3:w.cell? ⟨b,3,none⟩= some (.slice A 0 c)) (hne:b≠G)
  (c1:Hid (Calls Try.prog 107 #[encP b,encP G,encP H] w fun e w'=>e = .returned (.tuple #[])∧Bo w' G (bl && r)∧Bx G w w')):
  Calls Try.prog 106 #[encP b,.func (.func 107) #[] #[encP G,encP H]] w fun e w'=>e = .returned (.tuple #[])∧Bo w' G (bl && r)∧Bx G w w':=by
 go_enter Try.func106,Try.ntmps106
 go_wp2_with ((go_at_call 107;(with_reducible refine (c1.out).mono ?_);rintro e w1 ⟨rfl,g1,x1⟩;replace g1:=hide g1;replace h3:=x1.cell hne h3))
 refine wp_loop_rounds 1 ?_
 rw [rounds_succ]
 go_wp2_with fail
 refine bodyPost_end (results_none rfl _ _ _) rfl ?_
 exact ⟨rfl,g1.out,x1⟩
theorem each_un_gH (b G H g c pb:Nat) (bl r s:Bool) (w:World) (h3:w.cell? ⟨b,3,none⟩= some (.slice (some ⟨g,0,none⟩) 1 c)) (hp:w.cell? ⟨g,0,none⟩= some (encP pb)) (hne:b≠G∧g≠G)
  (c1:Hid (Calls Try.prog 107 #[encP b,encP G,encP H] w fun e w'=>e = .returned (.tuple #[])∧Bo w' G (bl && r)∧Bx G w w'))
  (c2:Hid (∀ w',Bo w' G (bl && r)→Bx G w w'→Calls Try.prog 106 #[encP pb,.func (.func 107) #[] #[encP G,encP H]] w' fun e w''=>e = .returned (.tuple #[])∧Bo w'' G ((bl && r) && s)∧Bx G w' w'')):
  Calls Try.prog 106 #[encP b,.func (.func 107) #[] #[encP G,encP H]] w fun e w'=>e = .returned (.tuple #[])∧Bo w' G (bl && (r && s))∧Bx G w w':=by
 go_enter Try.func106,Try.ntmps106
 go_wp2_with ((go_at_call 107;(with_reducible refine (c1.out).mono ?_);rintro e w1 ⟨rfl,g1,x1⟩;replace g1:=hide g1;replace x1:=hide x1;replace h3:=x1.out.cell hne.1 h3;replace hp:=x1.out.cell hne.2 hp))
 refine wp_loop_rounds 2 ?_
 rw [rounds_succ]
 go_wp2_with ((go_at_call 106;(with_reducible refine (c2.out _ g1.out x1.out).mono ?_);rintro e w2 ⟨rfl,g2,x2⟩;replace g2:=hide g2))
 rw [rounds_succ]
 go_wp2_with fail
 refine bodyPost_end (results_none rfl _ _ _) rfl ?_
 exact ⟨rfl,by rw [← Bool.and_assoc];exact g2.out,x1.out.trans x2⟩
theorem each_bin_gH (b G H g c pb qb:Nat) (bl r s u:Bool) (w:World) (h3:w.cell? ⟨b,3,none⟩= some (.slice (some ⟨g,0,none⟩) 2 c)) (hp:w.cell? ⟨g,0,none⟩= some (encP pb)) (hq:w.cell? ⟨g,1,none⟩= some (encP qb)) (hne:b≠G∧g≠G)
  (c1:Hid (Calls Try.prog 107 #[encP b,encP G,encP H] w fun e w'=>e = .returned (.tuple #[])∧Bo w' G (bl && r)∧Bx G w w'))
  (c2:Hid (∀ w',Bo w' G (bl && r)→Bx G w w'→Calls Try.prog 106 #[encP pb,.func (.func 107) #[] #[encP G,encP H]] w' fun e w''=>e = .returned (.tuple #[])∧Bo w'' G ((bl && r) && s)∧Bx G w' w''))
  (c3:Hid (∀ w',Bo w' G ((bl && r) && s)→Bx G w w'→Calls Try.prog 106 #[encP qb,.func (.func 107) #[] #[encP G,encP H]] w' fun e w''=>e = .returned (.tuple #[])∧Bo w'' G (((bl && r) && s) && u)∧Bx G w' w'')):
  Calls Try.prog 106 #[encP b,.func (.func 107) #[] #[encP G,encP H]] w fun e w'=>e = .returned (.tuple #[])∧Bo w' G (bl && ((r && s) && u))∧Bx G w w':=by
 go_enter Try.func106,Try.ntmps106
 go_wp2_with ((go_at_call 107;(with_reducible refine (c1.out).mono ?_);rintro e w1 ⟨rfl,g1,x1⟩;replace g1:=hide g1;replace x1:=hide x1;replace h3:=x1.out.cell hne.1 h3;replace hp:=x1.out.cell hne.2 hp;replace hq:=x1.out.cell hne.2 hq))
 refine wp_loop_rounds 3 ?_
 rw [rounds_succ]
 go_wp2_with ((go_at_call 106;(with_reducible refine (c2.out _ g1.out x1.out).mono ?_);rintro e w2 ⟨rfl,g2,x2⟩;replace g2:=hide g2;replace hq:=x2.cell hne.2 hq;replace x2:=hide (x1.out.trans x2)))
 rw [rounds_succ]
 go_wp2_with ((go_at_call 106;(with_reducible refine (c3.out _ g2.out x2.out).mono ?_);rintro e w3 ⟨rfl,g3,x3⟩;replace g3:=hide g3))
 rw [rounds_succ]
 go_wp2_with fail
 refine bodyPost_end (results_none rfl _ _ _) rfl ?_
 exact ⟨rfl,by rw [← Bool.and_assoc,← Bool.and_assoc];exact g3.out,x2.out.trans x3⟩
theorem each_gH (G H:Nat) (hGH:H≠G) {P:Nat→Prop}:∀ (t:Tm) (b:Nat) (bl:Bool) (w:World),Lies P w t b→t.ok smallB = true→Bo w G bl→w.cell? ⟨H,0,none⟩= some (.func (.func 105) #[] #[])→
  Calls Try.prog 106 #[encP b,.func (.func 107) #[] #[encP G,encP H]] w fun e w'=>e = .returned (.tuple #[])∧Bo w' G (bl && allT gH t)∧Bx G w w':=by
 intro t
 induction t with
 | zero=>
   intro b bl w hL hk hG hH
   have c1:=hide (all1_gH b G H bl (gH .zero) w hG hH (hide fun w' hb=>gH_c .zero b w' (hL.bl hb) hk))
   obtain ⟨-,A,c,hF⟩:=hL
   exact each_zero_gH b G H c A bl _ w hF.c3 (by rintro rfl;exact (hG.else_ _ _ hF.sh).1 rfl) c1
 | un k x y p ih=>
   intro b bl w hL hk hG hH
   have c1:=hide (all1_gH b G H bl (gH (.un k x y p)) w hG hH (hide fun w' hb=>gH_c _ b w' (hL.bl hb) hk))
   obtain ⟨-,g,c,n,pb,-,hF,hK,hp⟩:=hL
   simp only [Tm.ok,Bool.and_eq_true] at hk
   exact each_un_gH b G H g c pb bl _ _ w hF.c3 hK.c ⟨by rintro rfl;exact (hG.else_ _ _ hF.sh).1 rfl,by rintro rfl;exact (hG.else_ _ _ hK.sh).2 rfl⟩ c1 (hide fun w' h1 h2=>ih pb _ w' (hp.bx h2 hG.else_) hk.2 h1 (h2.cell hGH hH))
 | bin k p q ih1 ih2=>
   intro b bl w hL hk hG hH
   have c1:=hide (all1_gH b G H bl (gH (.bin k p q)) w hG hH (hide fun w' hb=>gH_c _ b w' (hL.bl hb) hk))
   obtain ⟨-,g,c,n,pb,qb,-,hF,hK,hK2,hp,hq⟩:=hL
   simp only [Tm.ok,Bool.and_eq_true] at hk
   exact each_bin_gH b G H g c pb qb bl _ _ _ w hF.c3 hK.c hK2.c ⟨by rintro rfl;exact (hG.else_ _ _ hF.sh).1 rfl,by rintro rfl;exact (hG.else_ _ _ hK.sh).2 rfl⟩ c1 (hide fun w' h1 h2=>ih1 pb _ w' (hp.bx h2 hG.else_) hk.2.1 h1 (h2.cell hGH hH)) (hide fun w' h1 h2=>ih2 qb _ w' (hq.bx h2 hG.else_) hk.2.2 h1 (h2.cell hGH hH))
theorem all_gH {P:Nat→Prop} (t:Tm) (b:Nat) (w:World) (hL:Lies P w t b) (hk:t.ok smallB = true):
  Calls Try.prog 95 #[encP b,.func (.func 105) #[] #[]] w fun e w'=>e = .returned (.bool (allT gH t))∧Bl w w':=by
 have HL:=hide hL
 have HK:=hide hk
 clear hL hk
 go_enter Try.func95,Try.ntmps95
 go_wp2_with (first | (refine box_op rfl 80 (.tmp 1) rfl #[.func (.func 105) #[] #[]] _ rfl (by rfl) ?_;intro H W1 hH b1 s1) | (refine alloc_op rfl 4 rfl (.bool false) zero_bool ?_;intro G W2 hG b2 s2) | (refine store_op rfl 4 (.tmp 5) (.const (.bool true)) rfl G 0 4 #[.bool false] (.bool true) rfl rfl sz_bool1 rfl rfl hG (show 0 < 1 by decide) ?_;intro W3 hG3 b3 s3))
 have hGH:Hid (H≠G):=by unfold Hid;have h1:=s1.out;have h2:=s2.out;omega
 have hG3:Bo W3 G true:=hG3
 have HG:=hide hG3
 have hH3:Hid (W3.cell? ⟨H,0,none⟩= some (.func (.func 105) #[] #[])):=b3.cell hGH.out (cell_kept b2 (blk_cell (i:=0) hH rfl))
 have bw:Hid (Bl w W3):=Fx.bl' (b1.trans b2) (.of_bx b3) (fun k hk=>by subst hk;have h1:=s1.out;have h2:=s2.out;omega)
 have hGw:Hid (w.heap.size≤G):=by unfold Hid;have h1:=s1.out;have h2:=s2.out;omega
 have hL3:=hide (HL.out.bl bw.out)
 clear hH hG hG3 b1 b2 b3 s1 s2 s3
 go_wp2_with ((go_at_call 106;(with_reducible refine (each_gH G H hGH.out t b true W3 hL3.out HK.out HG.out hH3.out).mono ?_);rintro e W4 ⟨rfl,g4,x4⟩;have g0:W4.cell? ⟨G,0,none⟩= some (.bool (true && allT gH t)):=blk_cell (i:=0) g4 rfl))
 go_ret
 exact ⟨rfl,Fx.bl' bw.out (.of_bx x4) (fun k hk=>by subst hk;exact hGw.out)⟩
theorem all1_iH (b G H:Nat) (bl r:Bool) (w:World) (hG:Bo w G bl) (hH:w.cell? ⟨H,0,none⟩= some (.func (.func 96) #[] #[]))
  (ch:Hid (∀ w',Bl w w'→Calls Try.prog 96 #[encP b] w' fun e w''=>e = .returned (.bool r)∧w' = w'')):
  Calls Try.prog 107 #[encP b,encP G,encP H] w fun e w'=>e = .returned (.tuple #[])∧Bo w' G (bl && r)∧Bx G w w':=by
 have g0:=blk_cell (i:=0) hG rfl
 have f0:=blk_free (i:=0) hG
 have HG:=hide hG
 clear hG
 cases bl
 ·go_enter Try.func107,Try.ntmps107
  go_wp2_with fail
  refine bodyPost_end (results_none rfl _ _ _) rfl ?_
  exact ⟨rfl,blk_set (i:=0) HG.out _,bx_set _ _ _ _⟩
 ·go_enter Try.func107,Try.ntmps107
  go_wp2_with ((go_at_call 96;(with_reducible refine (ch.out _ (Bl.refl _)).mono ?_);rintro e w' ⟨rfl,rfl⟩))
  refine bodyPost_end (results_none rfl _ _ _) rfl ?_
  exact ⟨rfl,by rw [Bool.true_and];exact blk_set (i:=0) HG.out _,bx_set _ _ _ _⟩
theorem each_zero_iH (b G H c:Nat) (A:Option Addr) (bl r:Bool) (w:World) (h3:w.cell? ⟨b,3,none⟩= some (.slice A 0 c)) (hne:b≠G)
  (c1:Hid (Calls Try.prog 107 #[encP b,encP G,encP H] w fun e w'=>e = .returned (.tuple #[])∧Bo w' G (bl && r)∧Bx G w w')):
  Calls Try.prog 106 #[encP b,.func (.func 107) #[] #[encP G,encP H]] w fun e w'=>e = .returned (.tuple #[])∧Bo w' G (bl && r)∧Bx G w w':=by
 go_enter Try.func106,Try.ntmps106
 go_wp2_with ((go_at_call 107;(with_reducible refine (c1.out).mono ?_);rintro e w1 ⟨rfl,g1,x1⟩;replace g1:=hide g1;replace h3:=x1.cell hne h3))
 refine wp_loop_rounds 1 ?_
 rw [rounds_succ]
 go_wp2_with fail
 refine bodyPost_end (results_none rfl _ _ _) rfl ?_
 exact ⟨rfl,g1.out,x1⟩
theorem each_un_iH (b G H g c pb:Nat) (bl r s:Bool) (w:World) (h3:w.cell? ⟨b,3,none⟩= some (.slice (some ⟨g,0,none⟩) 1 c)) (hp:w.cell? ⟨g,0,none⟩= some (encP pb)) (hne:b≠G∧g≠G)
  (c1:Hid (Calls Try.prog 107 #[encP b,encP G,encP H] w fun e w'=>e = .returned (.tuple #[])∧Bo w' G (bl && r)∧Bx G w w'))
  (c2:Hid (∀ w',Bo w' G (bl && r)→Bx G w w'→Calls Try.prog 106 #[encP pb,.func (.func 107) #[] #[encP G,encP H]] w' fun e w''=>e = .returned (.tuple #[])∧Bo w'' G ((bl && r) && s)∧Bx G w' w'')):
  Calls Try.prog 106 #[encP b,.func (.func 107) #[] #[encP G,encP H]] w fun e w'=>e = .returned (.tuple #[])∧Bo w' G (bl && (r && s))∧Bx G w w':=by
 go_enter Try.func106,Try.ntmps106
 go_wp2_with ((go_at_call 107;(with_reducible refine (c1.out).mono ?_);rintro e w1 ⟨rfl,g1,x1⟩;replace g1:=hide g1;replace x1:=hide x1;replace h3:=x1.out.cell hne.1 h3;replace hp:=x1.out.cell hne.2 hp))
 refine wp_loop_rounds 2 ?_
 rw [rounds_succ]
 go_wp2_with ((go_at_call 106;(with_reducible refine (c2.out _ g1.out x1.out).mono ?_);rintro e w2 ⟨rfl,g2,x2⟩;replace g2:=hide g2))
 rw [rounds_succ]
 go_wp2_with fail
 refine bodyPost_end (results_none rfl _ _ _) rfl ?_
 exact ⟨rfl,by rw [← Bool.and_assoc];exact g2.out,x1.out.trans x2⟩
theorem each_bin_iH (b G H g c pb qb:Nat) (bl r s u:Bool) (w:World) (h3:w.cell? ⟨b,3,none⟩= some (.slice (some ⟨g,0,none⟩) 2 c)) (hp:w.cell? ⟨g,0,none⟩= some (encP pb)) (hq:w.cell? ⟨g,1,none⟩= some (encP qb)) (hne:b≠G∧g≠G)
  (c1:Hid (Calls Try.prog 107 #[encP b,encP G,encP H] w fun e w'=>e = .returned (.tuple #[])∧Bo w' G (bl && r)∧Bx G w w'))
  (c2:Hid (∀ w',Bo w' G (bl && r)→Bx G w w'→Calls Try.prog 106 #[encP pb,.func (.func 107) #[] #[encP G,encP H]] w' fun e w''=>e = .returned (.tuple #[])∧Bo w'' G ((bl && r) && s)∧Bx G w' w''))
  (c3:Hid (∀ w',Bo w' G ((bl && r) && s)→Bx G w w'→Calls Try.prog 106 #[encP qb,.func (.func 107) #[] #[encP G,encP H]] w' fun e w''=>e = .returned (.tuple #[])∧Bo w'' G (((bl && r) && s) && u)∧Bx G w' w'')):
  Calls Try.prog 106 #[encP b,.func (.func 107) #[] #[encP G,encP H]] w fun e w'=>e = .returned (.tuple #[])∧Bo w' G (bl && ((r && s) && u))∧Bx G w w':=by
 go_enter Try.func106,Try.ntmps106
 go_wp2_with ((go_at_call 107;(with_reducible refine (c1.out).mono ?_);rintro e w1 ⟨rfl,g1,x1⟩;replace g1:=hide g1;replace x1:=hide x1;replace h3:=x1.out.cell hne.1 h3;replace hp:=x1.out.cell hne.2 hp;replace hq:=x1.out.cell hne.2 hq))
 refine wp_loop_rounds 3 ?_
 rw [rounds_succ]
 go_wp2_with ((go_at_call 106;(with_reducible refine (c2.out _ g1.out x1.out).mono ?_);rintro e w2 ⟨rfl,g2,x2⟩;replace g2:=hide g2;replace hq:=x2.cell hne.2 hq;replace x2:=hide (x1.out.trans x2)))
 rw [rounds_succ]
 go_wp2_with ((go_at_call 106;(with_reducible refine (c3.out _ g2.out x2.out).mono ?_);rintro e w3 ⟨rfl,g3,x3⟩;replace g3:=hide g3))
 rw [rounds_succ]
 go_wp2_with fail
 refine bodyPost_end (results_none rfl _ _ _) rfl ?_
 exact ⟨rfl,by rw [← Bool.and_assoc,← Bool.and_assoc];exact g3.out,x2.out.trans x3⟩
theorem each_iH (G H:Nat) (hGH:H≠G) {P:Nat→Prop}:∀ (t:Tm) (b:Nat) (bl:Bool) (w:World),Lies P w t b→t.ok smallB = true→Bo w G bl→w.cell? ⟨H,0,none⟩= some (.func (.func 96) #[] #[])→
  Calls Try.prog 106 #[encP b,.func (.func 107) #[] #[encP G,encP H]] w fun e w'=>e = .returned (.tuple #[])∧Bo w' G (bl && allT iH t)∧Bx G w w':=by
 intro t
 induction t with
 | zero=>
   intro b bl w hL hk hG hH
   have c1:=hide (all1_iH b G H bl (iH .zero) w hG hH (hide fun w' hb=>iH_c .zero b w' (hL.bl hb) hk))
   obtain ⟨-,A,c,hF⟩:=hL
   exact each_zero_iH b G H c A bl _ w hF.c3 (by rintro rfl;exact (hG.else_ _ _ hF.sh).1 rfl) c1
 | un k x y p ih=>
   intro b bl w hL hk hG hH
   have c1:=hide (all1_iH b G H bl (iH (.un k x y p)) w hG hH (hide fun w' hb=>iH_c _ b w' (hL.bl hb) hk))
   obtain ⟨-,g,c,n,pb,-,hF,hK,hp⟩:=hL
   simp only [Tm.ok,Bool.and_eq_true] at hk
   exact each_un_iH b G H g c pb bl _ _ w hF.c3 hK.c ⟨by rintro rfl;exact (hG.else_ _ _ hF.sh).1 rfl,by rintro rfl;exact (hG.else_ _ _ hK.sh).2 rfl⟩ c1 (hide fun w' h1 h2=>ih pb _ w' (hp.bx h2 hG.else_) hk.2 h1 (h2.cell hGH hH))
 | bin k p q ih1 ih2=>
   intro b bl w hL hk hG hH
   have c1:=hide (all1_iH b G H bl (iH (.bin k p q)) w hG hH (hide fun w' hb=>iH_c _ b w' (hL.bl hb) hk))
   obtain ⟨-,g,c,n,pb,qb,-,hF,hK,hK2,hp,hq⟩:=hL
   simp only [Tm.ok,Bool.and_eq_true] at hk
   exact each_bin_iH b G H g c pb qb bl _ _ _ w hF.c3 hK.c hK2.c ⟨by rintro rfl;exact (hG.else_ _ _ hF.sh).1 rfl,by rintro rfl;exact (hG.else_ _ _ hK.sh).2 rfl⟩ c1 (hide fun w' h1 h2=>ih1 pb _ w' (hp.bx h2 hG.else_) hk.2.1 h1 (h2.cell hGH hH)) (hide fun w' h1 h2=>ih2 qb _ w' (hq.bx h2 hG.else_) hk.2.2 h1 (h2.cell hGH hH))
theorem all_iH {P:Nat→Prop} (t:Tm) (b:Nat) (w:World) (hL:Lies P w t b) (hk:t.ok smallB = true):
  Calls Try.prog 95 #[encP b,.func (.func 96) #[] #[]] w fun e w'=>e = .returned (.bool (allT iH t))∧Bl w w':=by
 have HL:=hide hL
 have HK:=hide hk
 clear hL hk
 go_enter Try.func95,Try.ntmps95
 go_wp2_with (first | (refine box_op rfl 80 (.tmp 1) rfl #[.func (.func 96) #[] #[]] _ rfl (by rfl) ?_;intro H W1 hH b1 s1) | (refine alloc_op rfl 4 rfl (.bool false) zero_bool ?_;intro G W2 hG b2 s2) | (refine store_op rfl 4 (.tmp 5) (.const (.bool true)) rfl G 0 4 #[.bool false] (.bool true) rfl rfl sz_bool1 rfl rfl hG (show 0 < 1 by decide) ?_;intro W3 hG3 b3 s3))
 have hGH:Hid (H≠G):=by unfold Hid;have h1:=s1.out;have h2:=s2.out;omega
 have hG3:Bo W3 G true:=hG3
 have HG:=hide hG3
 have hH3:Hid (W3.cell? ⟨H,0,none⟩= some (.func (.func 96) #[] #[])):=b3.cell hGH.out (cell_kept b2 (blk_cell (i:=0) hH rfl))
 have bw:Hid (Bl w W3):=Fx.bl' (b1.trans b2) (.of_bx b3) (fun k hk=>by subst hk;have h1:=s1.out;have h2:=s2.out;omega)
 have hGw:Hid (w.heap.size≤G):=by unfold Hid;have h1:=s1.out;have h2:=s2.out;omega
 have hL3:=hide (HL.out.bl bw.out)
 clear hH hG hG3 b1 b2 b3 s1 s2 s3
 go_wp2_with ((go_at_call 106;(with_reducible refine (each_iH G H hGH.out t b true W3 hL3.out HK.out HG.out hH3.out).mono ?_);rintro e W4 ⟨rfl,g4,x4⟩;have g0:W4.cell? ⟨G,0,none⟩= some (.bool (true && allT iH t)):=blk_cell (i:=0) g4 rfl))
 go_ret
 exact ⟨rfl,Fx.bl' bw.out (.of_bx x4) (fun k hk=>by subst hk;exact hGw.out)⟩
theorem guarded_c {P:Nat→Prop} (t:Tm) (b:Nat) (w:World) (hL:Lies P w t b) (hk:t.ok smallB = true):Calls Try.prog 94 #[encP b] w fun e w'=>e = .returned (.bool (grdT t))∧Bl w w':=by
 have c1:=hide (all_gH t b w hL hk)
 rw [allT_g] at c1
 go_enter Try.func94,Try.ntmps94
 go_wp2_with ((go_at_call 95;(with_reducible refine (c1.out).mono ?_);rintro e w' ⟨rfl,b1⟩))
 go_ret
 exact ⟨rfl,b1⟩
theorem simple_c {P:Nat→Prop} (t:Tm) (b:Nat) (w:World) (hL:Lies P w t b) (hk:t.ok smallB = true):Calls Try.prog 79 #[encP b] w fun e w'=>e = .returned (.bool (smpB t))∧Bl w w':=by
 have c1:=hide (guarded_c t b w hL hk)
 have c2:=hide fun w' (hb:Bl w w')=>all_iH t b w' (hL.bl hb) hk
 unfold smpB
 simp only [allT_i] at c2
 clear hL hk
 generalize grdT t = x at *
 generalize inpT t = y at *
 cases x
 ·go_enter Try.func79,Try.ntmps79
  go_wp2_with ((go_at_call 94;(with_reducible refine (c1.out).mono ?_);rintro e w' ⟨rfl,b1⟩))
  go_ret
  exact ⟨rfl,b1⟩
 ·go_enter Try.func79,Try.ntmps79
  go_wp2_with (first | (go_at_call 94;(with_reducible refine (c1.out).mono ?_);rintro e w' ⟨rfl,b1⟩) | (go_at_call 95;(with_reducible refine (c2.out _ b1).mono ?_);rintro e w' ⟨rfl,b2⟩))
  go_ret
  exact ⟨rfl,b1.trans b2⟩
end Go.Proofs.Ytmmnnhaecjpfdaa
