/- Lemmas for the laws of this seat (my texts, put together), part 4. -/
import Derived.Test.YtbibkgcbdnldbaaGreatW3
set_option maxRecDepth 100000
set_option maxHeartbeats 2000000
set_option linter.unusedVariables false
set_option linter.unusedSimpArgs false
namespace Go.Proofs.YtbibkgcbdnldbaaGreat
open Go.RowKit
attribute [local go_sem] mkfn
def badL:List TypeId:=[119,54,94,3,95,75,145,89]
abbrev MkT (T:TypeId):Prop:=T∉badL
theorem MkT.no {T S:TypeId} {n k:Nat} (h:MkT T) (e:some (T,n)= some (S,k)) (hs:S∈badL):False:=by
 obtain ⟨rfl,-⟩:=Prod.mk.inj (Option.some.inj e)
 exact h hs
abbrev Mkr (X:List Value) (T:TypeId) (w:World) (m n:Nat):Prop:=w.heap[m]? = some (.cells (.int .i64 n :: X).toArray T (0,0))
theorem number_c {X:List Value} {T:TypeId} (m n:Nat) (w:World) (h:Mkr X T w m n) (hn:n≤100000):
  Calls Tryz.prog 137 #[encP m] w fun e w'=>e = .returned (.int .i64 ((n + 101:Nat):Int))∧Mkr X T w' m (n + 1)∧Bx m w w':=by
 have p0:=blk_cell (i:=0) h rfl
 have f0:=blk_free (i:=0) h
 have n1:(n:Int)≤100000:=by omega
 have n2:(0:Int)≤(n:Int):=by omega
 have H:=hide h
 clear h hn
 go_enter Tryz.func137,Tryz.ntmps137
 go_wp2_with fail
 go_ret
 exact ⟨by first | rfl | (congr 2;omega),(by rw [Mkr,show ((n + 1:Nat):Int)= (n:Int)+ 1 by omega];exact blk_set (i:=0) H.out _),bx_set _ _ _ _⟩
def envC (E:UInt8→Nat):Array Value:=((List.range 26).map fun i=>(.int .i64 (E (let_ i)):Value)).toArray
theorem envC_size (E:UInt8→Nat):(envC E).size = 26:=by simp [envC]
theorem envC_get (E:UInt8→Nat) {c:UInt8} (hc:smallB c = true):(envC E)[c.toNat - 97]? = some (.int .i64 (E c)):=by
 obtain ⟨i,hi,rfl⟩:=small_let hc
 rw [let_toNat hi]
 simp [envC,hi]
theorem let_inj {i j:Nat} (hi:i < 26) (hj:j < 26) (h:let_ i = let_ j):i = j:=by
 have:=congrArg UInt8.toNat h
 rw [let_toNat hi,let_toNat hj] at this;omega
theorem envC_upd (E:UInt8→Nat) {c:UInt8} (hc:smallB c = true) (x:Nat):(envC E).modify (c.toNat - 97) (fun _=>.int .i64 x)= envC (upd E c x):=by
 obtain ⟨i,hi,rfl⟩:=small_let hc
 rw [let_toNat hi]
 apply Array.ext
 ·simp [envC]
 ·intro j h1 h2
  have hj:j < 26:=by simpa [envC] using h2
  rw [Array.getElem_modify]
  simp only [envC,List.getElem_toArray,List.getElem_map,List.getElem_range,upd]
  by_cases h:97 + i - 97 = j
  ·have:j = i:=by omega
   subst this
   simp
  ·rw [if_neg h,if_neg (fun e=>h (by have:=let_inj hj hi e;omega))]
def zer:List Value:=List.replicate 26 (.int .i64 0)
theorem sz60:(Tryz.prog.info? 89).map (·.size)= some 26:=by kernel_rfl
theorem block_setCells (b:Nat) (T:TypeId):∀ (vs:List Value) (o:Nat) (w:World) (cs:Array Value),w.heap[b]? = some (.cells cs T (0,0))→o + vs.length = cs.size→
  (w.setCells b o vs).heap[b]? = some (.cells ((cs.toList.take o ++ vs).toArray) T (0,0))
 | [],o,w,cs,h,hl=>by
   have:cs.toList.take o = cs.toList:=List.take_of_length_le (by simp at hl;simp [hl])
   rw [World.setCells,List.append_nil,this];simpa using h
 | v :: vs, o, w, cs, h, hl => by
   rw [World.setCells]
   simp only [List.length_cons] at hl
   have h1:=blk_set (i:=o) h v
   have h2:=block_setCells b T vs (o + 1) (w.setCell ⟨b,o,none⟩ v) _ h1 (by simp;omega)
   rw [h2]
   congr 3
   have:(cs.modify o (fun _=>v)).toList.take (o + 1)= cs.toList.take o ++ [v]:=by
    have ho:o < cs.toList.length:=by simp;omega
    simp only [Array.toList_modify]
    rw [List.take_add_one]
    simp only [List.getElem?_modify]
    simp only [if_true]
    congr 1
    ·apply List.ext_getElem?
     intro i
     simp only [List.getElem?_take]
     split
     ·rename_i hio
      simp only [List.getElem?_modify,if_neg (show ¬ o = i by omega)];cases cs.toList[i]? <;> rfl
     ·rfl
    ·rw [List.getElem?_eq_getElem ho];rfl
   rw [this];simp
theorem zer_one:zer.toArray.all (·.oneCell')= true:=all_oneCell_toArray (by intro v hv;rw [List.eq_of_mem_replicate hv];rfl)
theorem there_blk {w:World} {b:Nat} {cs:Array Value} {T:TypeId} (h:w.heap[b]? = some (.cells cs T (0,0))) {n:Nat} (hn:n≤cs.size):w.there b 0 n:=by
 intro j hj
 refine ⟨?_,blk_free h⟩
 rw [cell_of_row _ _ _ _ _ _ h,Nat.zero_add]
 simp only [Option.isSome_iff_exists,← Array.getElem?_eq_some_iff];exact ⟨cs[j],by simp⟩
theorem setCells_bx (b:Nat):∀ (vs:List Value) (o:Nat) (w w':World),Bx b w w'→Bx b w (w'.setCells b o vs)
 | [],o,w,w',h=>h
 | v :: vs,o,w,w',h=>setCells_bx b vs (o + 1) w _ (h.trans (bx_set b o w' v))
theorem st_blk {ops:Array Oper} {rest:List Oper} {op:Oper} {a:Act} {w:World} {Q:Exit→Act→World→Prop} (hgd:op.guard = none) (ty:TypeId) (x y:Operand) (ho:op.op = .store ty x y)
  (b:Nat) (T:TypeId) (old cells:Array Value) (hx:a.eval x = .pointer (some ⟨b,0,none⟩)) (hy:a.eval y = .agg cells)
  (hb:w.heap[b]? = some (.cells old T (0,0))) (hsz:cells.size = old.size) (hi:(Tryz.prog.info? ty).map (·.size)= some cells.size) (h1:cells.all (·.oneCell')= true)
  (k:∀ Z,Z.heap[b]? = some (.cells cells T (0,0))→Bx b w Z→wpList Tryz.prog ops Q rest (a.put op.dst undef) Z):wpList Tryz.prog ops Q (op :: rest) a w:=by
 refine wpList_store_mid hgd ty x y ho b 0 cells hx hy (there_blk hb (by omega)) hi h1 (k _ ?_ ?_)
 ·have:=block_setCells b T cells.toList 0 w old hb (by simp;omega)
  simpa using this
 ·exact setCells_bx b _ 0 w w (Bx.refl b w)
theorem ld_blk {ops:Array Oper} {rest:List Oper} {op:Oper} {a:Act} {w:World} {Q:Exit→Act→World→Prop} (hgd:op.guard = none) (ty:TypeId) (x:Operand) (ho:op.op = .load ty x)
  (b:Nat) (T:TypeId) (cells:Array Value) (d:TypeDesc) (hx:a.eval x = .pointer (some ⟨b,0,none⟩)) (hb:w.heap[b]? = some (.cells cells T (0,0))) (hu:Tryz.prog.underlying ty = some d) (hd:d.isRow = true) (hi:(Tryz.prog.info? ty).map (·.size)= some cells.size)
  (h:wpList Tryz.prog ops Q rest (a.put op.dst (.agg cells)) w):wpList Tryz.prog ops Q (op :: rest) a w:=
 wpList_load_mid hgd ty x ho b 0 hx cells.toList d (fun j v hj=>by rw [cell_of_row _ _ _ _ _ _ hb,Nat.zero_add];simpa using hj) hu hd (by simpa using hi) (by simpa using h)
theorem envC_one (E:UInt8→Nat):(envC E).all (·.oneCell')= true:=all_oneCell_toArray (by
 intro v hv
 obtain ⟨i,_,rfl⟩:=List.mem_map.1 hv
 rfl)
def envP (k:Nat):Array Value:=((List.range 26).map fun i=>(.int .i64 (if i < k then (i:Int) else 0):Value)).toArray
theorem envP_zero:envP 0 = zer.toArray:=by rfl
theorem envP_all:envP 26 = envC numE:=by
 apply Array.ext
 ·simp [envP,envC]
 ·intro j h1 h2
  have h:j < 26:=by simpa [envC] using h2
  simp only [envP,envC,List.getElem_toArray,List.getElem_map,List.getElem_range]
  rw [if_pos h]
  unfold numE
  rw [if_pos (let_small h),let_toNat h]
  congr 1;omega
theorem envP_succ {k:Nat} (hk:k < 26):(envP k).modify k (fun _=>.int .i64 k)= envP (k + 1):=by
 apply Array.ext
 ·simp [envP]
 ·intro j h1 h2
  rw [Array.getElem_modify]
  simp only [envP,List.getElem_toArray,List.getElem_map,List.getElem_range]
  by_cases h:k = j
  ·subst h;simp
  ·rw [if_neg h];congr 1
   by_cases h2:j < k
   ·rw [if_pos h2,if_pos (by omega)]
   ·rw [if_neg h2,if_neg (by omega)]
theorem two_new (w:World) (cs cs':Array Value) (T:TypeId):((w.alloc (.cells cs T)).alloc (.cells cs' T)).heap[w.heap.size + 1]? = some (.cells cs' T (0,0)):=by
 have e:(w.alloc (.cells cs T)).heap.size = w.heap.size + 1:=by simp
 have h:=blk_new (w.alloc (.cells cs T)) cs' T
 rw [e] at h;exact h
theorem two_old (w:World) (cs cs':Array Value) (T:TypeId):((w.alloc (.cells cs T)).alloc (.cells cs' T)).heap[w.heap.size]? = some (.cells cs T (0,0)):=
 blk_bl (bl_alloc _ _) (blk_new w cs T)
theorem everyName_c (w:World):Calls Tryz.prog 92 #[] w fun e w'=>e = .returned (.agg (envC numE))∧Bl w w':=by
 go_enter Tryz.func92,Tryz.ntmps92
 go_wp2_with ((refine st_blk rfl 89 (.tmp 1) (.tmp 3) rfl (w.heap.size + 1) 89 _ zer.toArray (by rfl) (by rfl) (two_new w _ _ _) (by rfl) sz60 zer_one ?_);intro Z hZ bZ)
 have hZ0:Z.heap[w.heap.size]? = some (.cells zer.toArray 89 (0,0)):=by
  rw [bZ.block _ (by simp;omega) (by omega)];exact two_old w _ _ _
 have hbl:Hid (Bl w Z):=⟨bZ.os,bZ.tape,bZ.output,Nat.le_trans (by simp;omega) bZ.size,fun k hk=>by
  rw [bZ.block _ (by simp;omega) (by omega)]
  exact Below.block ((bl_alloc w _).trans (bl_alloc _ _)) k hk⟩
 have HZ:=hide hZ
 have HZ0:=hide hZ0
 clear hZ hZ0 bZ
 go_loopg [4] 27 (fun m i wr=>∃ j:Nat,m = 27 - j∧Hid (j≤26)∧i = .int .i64 j∧Hid (wr.heap[w.heap.size + 1]? = some (.cells (envP j) 89 (0,0)))∧Hid (wr.heap[w.heap.size]? = some (.cells zer.toArray 89 (0,0)))∧Hid (Bl w wr))
 case atStart=>exact ⟨0,rfl,Nat.zero_le _,rfl,by rw [envP_zero];exact HZ.out,HZ0.out,hbl.out⟩
 case round=>
  obtain ⟨j,hm,hj,rfl,h1,h0,hb⟩:=hrel
  have HM:=hide hm
  clear hm HZ HZ0 hbl
  by_cases hlt:j < 26
  ·have p0:wr.cell? ⟨w.heap.size + 1,j,none⟩= some (.int .i64 0):=blk_cell h1.out (by simp [envP,hlt])
   have f0:=blk_free (i:=j) h1.out
   have q1:(j:Int) < 26:=by omega
   have q2:(0:Int)≤(j:Int):=by omega
   have HLT:=hide hlt
   clear hlt
   go_wp2_with fail
   go_roundg (27 - (j + 1))
   case measure=>have:=HM.out;have:=HLT.out;omega
   case rel=>
    refine ⟨j + 1,rfl,HLT.out,by go_num,?_,?_,?_⟩
    ·rw [← envP_succ HLT.out];exact blk_set h1.out _
    ·exact blk_set_ne h0.out (by omega) _
    ·exact bl_set hb.out (by omega)
  ·have hj':j = 26:=by have:=hj.out;omega
   subst hj'
   have h26:=h1.out
   rw [envP_all] at h26
   have H26:=hide h26
   clear h26 h1 hlt
   go_wp2_with (first
    | (refine ld_blk rfl 89 (.tmp 1) rfl (w.heap.size + 1) 89 (envC numE) _ (by rfl) H26.out Tryz.underlying89 rfl (by rw [sz60];simp [envC_size]) ?_)
    | ((refine st_blk rfl 89 (.tmp 0) (.tmp 11) rfl w.heap.size 89 _ (envC numE) (by rfl) (by rfl) h0.out (by simp [envC_size,zer]) (by rw [sz60];simp [envC_size]) (envC_one _) ?_);intro Z2 hZ2 bZ2))
   refine bodyPost_ret (v:=.agg (envC numE)) (results_cell_row rfl _ Z2 w.heap.size _ _ _ _ (by rfl) hZ2 Tryz.underlying89 rfl (by rw [sz60];simp [envC_size])) rfl ⟨rfl,?_⟩
   exact ⟨bZ2.os.trans (Below.os hb.out),bZ2.tape.trans (Below.tape hb.out),bZ2.output.trans (Below.output hb.out),Nat.le_trans (Below.size hb.out) bZ2.size,fun k hk=>(bZ2.block k (Nat.lt_of_lt_of_le hk (Below.size hb.out)) (by omega)).trans (Below.block hb.out k hk)⟩
end Go.Proofs.YtbibkgcbdnldbaaGreat
namespace Go.Proofs.YtbibkgcbdnldbaaGreat
open Go.RowKit
attribute [local go_sem] mkfn
def shT (w:World) (k:Nat):Prop:=∃ n,w.shape? k = some (94,n)∨w.shape? k = some (3,n)∨w.shape? k = some (95,n)
def LvB (w:World) (base N b:Nat) (o:List Nat) (t:Ts):Prop:=
 ∃ vo vt ps,Sh w base b vo vt o ps∧(∀ k,shA b vo vt k→k < N)∧Ths (fun k=>base≤k∧k < N∧¬ shA b vo vt k) w t ps
theorem Sh.shT {w:World} {base b:Nat} {vo vt:Value} {o ps:List Nat} (h:Sh w base b vo vt o ps) {k:Nat} (hk:shA b vo vt k):shT w k:=by
 rcases hk with rfl | hk | hk
 ·exact ⟨_,.inl (blk_shape h.lv)⟩
 ·obtain ⟨n,h⟩:=h.ro.shape hk;exact ⟨n,.inr (.inl h)⟩
 ·obtain ⟨n,h⟩:=h.rt.shape hk;exact ⟨n,.inr (.inr h)⟩
theorem LvB.lies {w:World} {base N b:Nat} {o:List Nat} {t:Ts} (h:LvB w base N b o t):Lies2 (fun k=>base≤k) w o t b:=by
 obtain ⟨vo,vt,ps,h1,h2,h3⟩:=h
 exact ⟨h1.ge,vo,vt,ps,h1.lv,⟨h1.ro.mono (Nat.zero_le _),fun k hk=>(h1.ro.lt k hk).1⟩,⟨h1.rt.mono (Nat.zero_le _),fun k hk=>(h1.rt.lt k hk).1⟩,h3.mono (fun k hk _=>hk.1)⟩
theorem LvB.bl {w w':World} {base N b:Nat} {o:List Nat} {t:Ts} (h:LvB w base N b o t) (hb:Bl w w'):LvB w' base N b o t:=by
 obtain ⟨vo,vt,ps,h1,h2,h3⟩:=h
 exact ⟨vo,vt,ps,h1.bl hb,h2,h3.bl hb⟩
theorem LvB.fx {A:Nat→Prop} {w w':World} {base N b:Nat} {o:List Nat} {t:Ts} (h:LvB w base N b o t) (hb:Fx A w w') (hA:∀ k,k < w.heap.size→A k→k < base∨N≤k):LvB w' base N b o t:=by
 obtain ⟨vo,vt,ps,h1,h2,h3⟩:=h
 refine ⟨vo,vt,ps,h1.fx hb (fun k hk ha=>?_),h2,h3.map (fun k hk hl=>⟨hk,hb.block k hl (fun ha=>?_)⟩)⟩
 ·have:=hA k (h1.lt k hk).2 ha;have:=(h1.lt k hk).1;have:=h2 k hk;omega
 ·have:=hA k hl ha;omega
theorem splice_lv (base N b b':Nat) (o o':List Nat) (t t':Ts) (w:World) (h:LvB w base N b o t) (hN:base≤N) (hNw:N≤w.heap.size) (g:Lies2 (fun k=>N≤k) w o' t' b')
  (l1:o.length + o'.length≤100000) (l2:t.len + t'.len≤100000):
  Calls Tryz.prog 138 #[encP b,encP b'] w fun e w'=>e = .returned (.tuple #[])∧LvB w' base w'.heap.size b (o ++ o') (t.app t')∧Fx (fun k=>base≤k∧k < N∧shT w k) w w':=by
 obtain ⟨vo,vt,ps,h1,h2,h3⟩:=h
 obtain ⟨g0,vo',vt',ps',g1,g2,g3,g4⟩:=g
 have e1:=h3.len
 have e2:=g4.len
 refine (splice_c base b b' vo vt vo' vt' o ps o' ps' w h1 (Nat.le_trans hN hNw) g1 g2.1 g3.1 (fun hk=>by have:=h2 _ hk;omega) (fun k hk hs=>by have:=h2 _ hs;have:=g2.2 k hk;omega) (fun k hk hs=>by have:=h2 _ hs;have:=g3.2 k hk;omega) l1 (by omega)).mono ?_
 rintro e w' ⟨rfl,vo2,vt2,k1,k2,k3⟩
 refine ⟨rfl,⟨vo2,vt2,ps ++ ps',k1,fun k hk=>(k1.lt k hk).2,?_⟩,k2.weaken (fun k hk hs=>⟨(h1.lt k hs).1,h2 k hs,h1.shT hs⟩)⟩
 have hne:∀ k,k < w.heap.size→¬ shA b vo vt k→¬ shA b vo2 vt2 k:=fun k hk hs hs2=>(k3 k hs2).elim hs (fun h=>by omega)
 refine Ths.app (h3.map (fun k hk hl=>⟨⟨hk.1,Nat.lt_of_lt_of_le hl k2.size,hne k hl hk.2.2⟩,k2.block k hl hk.2.2⟩)) (g4.map (fun k hk hl=>?_))
 have hs:¬ shA b vo vt k:=fun hs=>by have:=h2 k hs;omega
 exact ⟨⟨by omega,Nat.lt_of_lt_of_le hl k2.size,hne k hl hs⟩,k2.block k hl hs⟩
end Go.Proofs.YtbibkgcbdnldbaaGreat
namespace Go.Proofs.YtbibkgcbdnldbaaGreat
open Go.RowKit
section
variable {ops:Array Oper} {rest:List Oper} {o:Oper} {a:Act} {w:World} {K:Act→World→Prop} {Q:Exit→Act→World→Prop}
theorem wp_box (T:TypeId) (x:Operand) (ho:o.op = .box T x) (cs:Array Value) (v:Value) (hx:a.eval x = v) (hv:v.cells = cs)
  (k:∀ g Z,Z.heap[g]? = some (.cells cs T (0,0))→Bl w Z→Hid (w.heap.size = g∧Z.heap.size = g + 1)→K (a.put o.dst (.pointer (some ⟨g,0,none⟩))) Z):Oper.wp Tryz.prog o a w K Q:=by
 subst hv
 unfold Oper.wp execOp
 simp only [ho,hx]
 have:=k w.heap.size (w.alloc (.cells v.cells T)) (blk_new _ _ _) (bl_alloc _ _) ⟨rfl,by simp⟩
 simpa [Instr.box,newVar,newRow,go_sem] using this
theorem box_op (hgd:o.guard = none) (T:TypeId) (x:Operand) (ho:o.op = .box T x) (cs:Array Value) (v:Value) (hx:a.eval x = v) (hv:v.cells = cs)
  (k:∀ g Z,Z.heap[g]? = some (.cells cs T (0,0))→Bl w Z→Hid (w.heap.size = g∧Z.heap.size = g + 1)→wpList Tryz.prog ops Q rest (a.put o.dst (.pointer (some ⟨g,0,none⟩))) Z):wpList Tryz.prog ops Q (o :: rest) a w:=
 wpList_plain hgd fun _ hK=>wp_box T x ho cs v hx hv (fun g Z h1 h2 h3=>hK _ _ (k g Z h1 h2 h3))
theorem run_store1 (w:World) (b i:Nat) (T U:TypeId) (cs:Array Value) (v:Value) (hi:(Tryz.prog.info? T).map (·.size)= some 1) (hv:v.cells = #[v]) (h1:v.oneCell' = true) (hb:w.heap[b]? = some (.cells cs U (0,0))) (hlt:i < cs.size):
  (Instr.storeAt T (.pointer (some ⟨b,i,none⟩)) v).run Tryz.prog w = .ok () (w.setCell ⟨b,i,none⟩ v):=by
 have h2:(w.cell? ⟨b,i,none⟩).isSome = true:=by rw [cell_of_row _ _ _ _ _ _ hb];simp [hlt]
 have:=run_storeCells_cells (P:=Tryz.prog) b i [v] 0 w (fun j hj=>by
   have:j = 0:=by simp at hj;omega
   subst this;simpa using h2) (fun j hj=>by
   have:j = 0:=by simp at hj;omega
   subst this;simpa using blk_free (i:=i) hb) (fun u hu=>by rw [List.mem_singleton.1 hu];exact h1)
 cases hq:Tryz.prog.info? T with
 | none=>simp [hq] at hi
 | some t=>
   have hs:t.size = 1:=by simpa [hq] using hi
   simp only [Nat.add_zero] at this
   simp only [Instr.storeAt,Instr.sureAddr,Sem.run_bind,Sem.run_pure,Result.andThen_ok]
   simp [storeVar,sizeOf,typeInfo,hq,hv,hs,this,World.setCells]
theorem wp_store1 (T:TypeId) (x y:Operand) (ho:o.op = .store T x y) (b i:Nat) (U:TypeId) (cs:Array Value) (v:Value) (hx:a.eval x = .pointer (some ⟨b,i,none⟩)) (hy:a.eval y = v)
  (hi:(Tryz.prog.info? T).map (·.size)= some 1) (hv:v.cells = #[v]) (h1:v.oneCell' = true) (hb:w.heap[b]? = some (.cells cs U (0,0))) (hlt:i < cs.size)
  (k:∀ Z,Z.heap[b]? = some (.cells (cs.modify i fun _=>v) U (0,0))→Bx b w Z→Hid (Z.heap.size = w.heap.size)→K (a.put o.dst undef) Z):Oper.wp Tryz.prog o a w K Q:=by
 unfold Oper.wp execOp
 simp only [ho,hx,hy,run_store1 w b i T U cs v hi hv h1 hb hlt,Sem.run_bind,Sem.run_pure,Result.andThen_ok]
 exact k _ (blk_set hb v) (bx_set _ _ _ _) (by simp [Hid,World.setCell])
theorem store_op (hgd:o.guard = none) (T:TypeId) (x y:Operand) (ho:o.op = .store T x y) (b i:Nat) (U:TypeId) (cs:Array Value) (v:Value) (hx:a.eval x = .pointer (some ⟨b,i,none⟩)) (hy:a.eval y = v)
  (hi:(Tryz.prog.info? T).map (·.size)= some 1) (hv:v.cells = #[v]) (h1:v.oneCell' = true) (hb:w.heap[b]? = some (.cells cs U (0,0))) (hlt:i < cs.size)
  (k:∀ Z,Z.heap[b]? = some (.cells (cs.modify i fun _=>v) U (0,0))→Bx b w Z→Hid (Z.heap.size = w.heap.size)→wpList Tryz.prog ops Q rest (a.put o.dst undef) Z):wpList Tryz.prog ops Q (o :: rest) a w:=
 wpList_plain hgd fun _ hK=>wp_store1 T x y ho b i U cs v hx hy hi hv h1 hb hlt (fun Z h1 h2 h3=>hK _ _ (k Z h1 h2 h3))
theorem yieldsIf_blk {S:World→Prop} (hw:Region.wanted o (yielded ops a.tmps)= true) (ty:TypeId) (x:Operand) (ho:o.op = .load ty x) (b:Nat) (T:TypeId) (cs:Array Value) (d:TypeDesc)
  (hx:a.eval x = .pointer (some ⟨b,0,none⟩)) (hS:∀ w,S w→w.heap[b]? = some (.cells cs T (0,0))) (hu:Tryz.prog.underlying ty = some d) (hd:d.isRow = true) (hi:(Tryz.prog.info? ty).map (·.size)= some cs.size):YieldsIf Tryz.prog ops S o (.agg cs) a:=by
 have:=yieldsIf_load_mid (P:=Tryz.prog) (S:=S) hw ty x ho b 0 hx cs.toList d (fun w h j v hj=>by rw [cell_of_row _ _ _ _ _ _ (hS w h),Nat.zero_add];simpa using hj) hu hd (by simpa using hi)
 simpa using this
theorem wanted_wp {E:Prop} (hgd:o.guard = none) (h:Oper.wp Tryz.prog o a w K Q):if Region.wanted o (yielded ops a.tmps)= true then Oper.wp Tryz.prog o a w K Q else E:=by
 rw [if_pos (by simp [Region.wanted,hgd])];exact h
end
theorem sz_int:(Tryz.prog.info? 3).map (·.size)= some 1:=by kernel_rfl
theorem sz_lev:(Tryz.prog.info? 75).map (·.size)= some 1:=by kernel_rfl
theorem sz_sint:(Tryz.prog.info? 36).map (·.size)= some 1:=by kernel_rfl
theorem sz_sthr:(Tryz.prog.info? 92).map (·.size)= some 1:=by kernel_rfl
theorem sz_slev:(Tryz.prog.info? 143).map (·.size)= some 1:=by kernel_rfl
end Go.Proofs.YtbibkgcbdnldbaaGreat
namespace Go.Proofs.YtbibkgcbdnldbaaGreat
open Go.RowKit
attribute [local go_sem] S_size S_toList S_lit S_get S_extract S_append drop_all
structure Own (w:World) (b:Nat) (k x y:UInt8) (s:Value):Prop where
 four:Four w b k x y s
 f0:w.frozen? ⟨b,0,none⟩= false
 f1:w.frozen? ⟨b,1,none⟩= false
 f2:w.frozen? ⟨b,2,none⟩= false
 f3:w.frozen? ⟨b,3,none⟩= false
theorem Own.bx {g:Nat} {w w':World} (hb:Bx g w w') (hg:Else w g) {b:Nat} {k x y:UInt8} {s:Value} (h:Own w b k x y s):Own w' b k x y s:=by
 have hne:b≠g:=by rintro rfl;exact (hg _ _ h.four.sh).1 rfl
 have hlt:=shape_lt h.four.sh
 exact ⟨h.four.bx hb hg,by rw [hb.frozen hne hlt];exact h.f0,by rw [hb.frozen hne hlt];exact h.f1,by rw [hb.frozen hne hlt];exact h.f2,by rw [hb.frozen hne hlt];exact h.f3⟩
theorem Own.new (w:World) (k x y:UInt8) (s:Value):Own (w.alloc (.cells #[.int .u8 k.toNat,.int .u8 x.toNat,.int .u8 y.toNat,s] 119)) w.heap.size k x y s:=
 ⟨⟨shape_alloc_new _ _ _,by simp,by simp,by simp,by simp⟩,by simp,by simp,by simp,by simp⟩
theorem Own.set0 {w:World} {b:Nat} {k x y:UInt8} {s:Value} (h:Own w b k x y s) (k':UInt8):Own (w.setCell ⟨b,0,none⟩ (.int .u8 k'.toNat)) b k' x y s:=
 ⟨⟨by rw [shape_set];exact h.four.sh,World.cell?_setCell_same _ _ _ h.four.c0,by rw [World.cell?_setCell_other _ _ _ _ (by simp)];exact h.four.c1,by rw [World.cell?_setCell_other _ _ _ _ (by simp)];exact h.four.c2,by rw [World.cell?_setCell_other _ _ _ _ (by simp)];exact h.four.c3⟩,by simp [h.f0],by simp [h.f1],by simp [h.f2],by simp [h.f3]⟩
theorem Own.set1 {w:World} {b:Nat} {k x y:UInt8} {s:Value} (h:Own w b k x y s) (k':UInt8):Own (w.setCell ⟨b,1,none⟩ (.int .u8 k'.toNat)) b k k' y s:=
 ⟨⟨by rw [shape_set];exact h.four.sh,by rw [World.cell?_setCell_other _ _ _ _ (by simp)];exact h.four.c0,World.cell?_setCell_same _ _ _ h.four.c1,by rw [World.cell?_setCell_other _ _ _ _ (by simp)];exact h.four.c2,by rw [World.cell?_setCell_other _ _ _ _ (by simp)];exact h.four.c3⟩,by simp [h.f0],by simp [h.f1],by simp [h.f2],by simp [h.f3]⟩
theorem Own.set2 {w:World} {b:Nat} {k x y:UInt8} {s:Value} (h:Own w b k x y s) (k':UInt8):Own (w.setCell ⟨b,2,none⟩ (.int .u8 k'.toNat)) b k x k' s:=
 ⟨⟨by rw [shape_set];exact h.four.sh,by rw [World.cell?_setCell_other _ _ _ _ (by simp)];exact h.four.c0,by rw [World.cell?_setCell_other _ _ _ _ (by simp)];exact h.four.c1,World.cell?_setCell_same _ _ _ h.four.c2,by rw [World.cell?_setCell_other _ _ _ _ (by simp)];exact h.four.c3⟩,by simp [h.f0],by simp [h.f1],by simp [h.f2],by simp [h.f3]⟩
theorem Own.set3 {w:World} {b:Nat} {k x y:UInt8} {s:Value} (h:Own w b k x y s) (v:Value):Own (w.setCell ⟨b,3,none⟩ v) b k x y v:=
 ⟨⟨by rw [shape_set];exact h.four.sh,by rw [World.cell?_setCell_other _ _ _ _ (by simp)];exact h.four.c0,by rw [World.cell?_setCell_other _ _ _ _ (by simp)];exact h.four.c1,by rw [World.cell?_setCell_other _ _ _ _ (by simp)];exact h.four.c2,World.cell?_setCell_same _ _ _ h.four.c3⟩,by simp [h.f0],by simp [h.f1],by simp [h.f2],by simp [h.f3]⟩
def Bad (w:World) (g:Nat) (l:Str):Prop:=∃ a,Rdr w g l a true∧a≤l.length
theorem next_bad (w:World) (g:Nat) (l:Str) (R:Bad w g l) (hs:Short l):
  Calls Tryz.prog 178 #[.pointer (some ⟨g,0,none⟩)] w fun e w'=>(∃ c:UInt8,e = .returned (.int .u8 c.toNat))∧Bad w' g l∧Bx g w w':=by
 obtain ⟨a,R,ha⟩:=R
 match hd:l.drop a with
 | []=>exact (next_no w g l a true R hd).mono fun e w' ⟨h1,h2,h3⟩=>⟨⟨0,h1⟩,⟨a,h2,ha⟩,h3⟩
 | c :: s=>exact (next_yes w g l a true R hs c s hd).mono fun e w' ⟨h1,h2,h3⟩=>⟨⟨c,h1⟩,⟨a + 1,h2,(drop_facts hd).1⟩,h3⟩
theorem need_bad (w:World) (g:Nat) (l:Str) (R:Bad w g l) (hs:Short l) (c:UInt8) (hc:c≠0):
  Calls Tryz.prog 181 #[.pointer (some ⟨g,0,none⟩),.int .u8 c.toNat] w fun e w'=>e = .returned (.tuple #[])∧Bad w' g l∧Bx g w w':=by
 obtain ⟨a,R,ha⟩:=R
 by_cases h:∃ s,l.drop a = c :: s
 ·obtain ⟨s,h⟩:=h
  exact (need_yes w g l a true R hs c s h).mono fun e w' ⟨h1,h2,h3⟩=>⟨h1,⟨a + 1,h2,(drop_facts h).1⟩,h3⟩
 ·exact (need_no w g l a true R hs c hc (fun s e=>h ⟨s,e⟩) ha).mono fun e w' ⟨h1,h2,h3⟩=>⟨h1,h2,h3⟩
theorem name_bad (w:World) (g:Nat) (l:Str) (R:Bad w g l) (hs:Short l):
  Calls Tryz.prog 180 #[.pointer (some ⟨g,0,none⟩)] w fun e w'=>(∃ c:UInt8,e = .returned (.int .u8 c.toNat))∧Bad w' g l∧Bx g w w':=by
 obtain ⟨a,R,ha⟩:=R
 by_cases h:∃ c s,l.drop a = c :: s∧smallB c = true
 ·obtain ⟨c,s,h,hc⟩:=h
  exact (name_yes w g l a true R hs c s h hc).mono fun e w' ⟨h1,h2,h3⟩=>⟨⟨c,h1⟩,⟨a + 1,h2,(drop_facts h).1⟩,h3⟩
 ·exact (name_no w g l a true R hs (fun c s e=>by
   cases hc:smallB c
   ·rfl
   ·exact (h ⟨c,s,e,hc⟩).elim) ha).mono fun e w' ⟨h1,h2,h3⟩=>⟨h1,h2,h3⟩
theorem Bad.bl {w w':World} (hb:Bl w w') {g:Nat} {l:Str} (h:Bad w g l):Bad w' g l:=by obtain ⟨a,h,ha⟩:=h;exact ⟨a,h.bl hb,ha⟩
theorem Bad.else_ {w:World} {g:Nat} {l:Str} (h:Bad w g l):Else w g:=by obtain ⟨a,h,ha⟩:=h;exact h.else_
theorem Rdr.lt {w:World} {g:Nat} {l:Str} {a:Nat} {bad:Bool} (h:Rdr w g l a bad):g < w.heap.size:=shape_lt h.sh
theorem term_bad (w:World) (g:Nat) (l:Str) (R:Bad w g l):
  Calls Tryz.prog 135 #[.pointer (some ⟨g,0,none⟩)] w fun e w'=>(∃ b,e = .returned (.pointer (some ⟨b,0,none⟩)))∧Bad w' g l∧Bx g w w':=by
 obtain ⟨a,R,ha⟩:=R
 have hlt:=R.lt
 have HR:=R
 obtain ⟨r0,r1,r2,r3,r4,r5⟩:=R
 go_enter Tryz.func135,Tryz.ntmps135
 go_wp2_with fail
 go_ret
 exact ⟨⟨_,rfl⟩,⟨a,HR.bl (bl_alloc _ _),ha⟩,bx_alloc _ _ _⟩
end Go.Proofs.YtbibkgcbdnldbaaGreat
namespace Go.Proofs.YtbibkgcbdnldbaaGreat
open Go.RowKit
attribute [local go_sem] S_size S_toList S_lit S_get S_extract S_append drop_all
theorem Rdr.set_ne {w:World} {g:Nat} {l:Str} {a:Nat} {bad:Bool} (h:Rdr w g l a bad) {b i:Nat} (v:Value) (hne:b≠g):Rdr (w.setCell ⟨b,i,none⟩ v) g l a bad:=
 ⟨by rw [shape_set];exact h.sh,by rw [World.cell?_setCell_other _ _ _ _ (by simp [hne])];exact h.c0,by rw [World.cell?_setCell_other _ _ _ _ (by simp [hne])];exact h.c1,by rw [World.cell?_setCell_other _ _ _ _ (by simp [hne])];exact h.c2,by simp [h.f1],by simp [h.f2]⟩
theorem Bad.set_ne {w:World} {g:Nat} {l:Str} (h:Bad w g l) {b i:Nat} (v:Value) (hne:b≠g):Bad (w.setCell ⟨b,i,none⟩ v) g l:=by
 obtain ⟨a,h,ha⟩:=h;exact ⟨a,h.set_ne v hne,ha⟩
theorem Rdr.bad {w:World} {g:Nat} {l:Str} {a:Nat} {bad:Bool} (h:Rdr w g l a bad) (ha:a≤l.length):Bad (w.setCell ⟨g,2,none⟩ (.bool true)) g l:=⟨a,h.set2 true,ha⟩
theorem Bad.set2 {w:World} {g:Nat} {l:Str} (h:Bad w g l):Bad (w.setCell ⟨g,2,none⟩ (.bool true)) g l:=by obtain ⟨a,h,ha⟩:=h;exact ⟨a,h.set2 true,ha⟩
theorem Rdr.ne {w:World} {g:Nat} {l:Str} {a:Nat} {bad:Bool} (h:Rdr w g l a bad) {b:Nat} {k x y:UInt8} {s:Value} (o:Four w b k x y s):b≠g:=by
 rintro rfl;exact (h.else_ _ _ o.sh).1 rfl
theorem need_badi (w:World) (g:Nat) (l:Str) (R:Bad w g l) (hs:Short l) (c:UInt8) (hc:c≠0) (i:Int) (hi:(c.toNat:Int)= i):
  Calls Tryz.prog 181 #[.pointer (some ⟨g,0,none⟩),.int .u8 i] w fun e w'=>e = .returned (.tuple #[])∧Bad w' g l∧Bx g w w':=by
 subst hi;exact need_bad w g l R hs c hc
theorem need_yesi (w:World) (g:Nat) (l:Str) (a:Nat) (bad:Bool) (R:Rdr w g l a bad) (hs:Short l) (c:UInt8) (s:Str) (h:l.drop a = c :: s) (i:Int) (hi:(c.toNat:Int)= i):
  Calls Tryz.prog 181 #[.pointer (some ⟨g,0,none⟩),.int .u8 i] w fun e w'=>e = .returned (.tuple #[])∧Rdr w' g l (a + 1) bad∧Bx g w w':=by
 subst hi;exact need_yes w g l a bad R hs c s h
theorem need_noi (w:World) (g:Nat) (l:Str) (a:Nat) (bad:Bool) (R:Rdr w g l a bad) (hs:Short l) (c:UInt8) (h0:c≠0) (h:∀ s,l.drop a≠c :: s) (ha:a≤l.length) (i:Int) (hi:(c.toNat:Int)= i):
  Calls Tryz.prog 181 #[.pointer (some ⟨g,0,none⟩),.int .u8 i] w fun e w'=>e = .returned (.tuple #[])∧Bad w' g l∧Bx g w w':=by
 subst hi;exact need_no w g l a bad R hs c h0 h ha
theorem name_noi (w:World) (g:Nat) (l:Str) (a:Nat) (bad:Bool) (R:Rdr w g l a bad) (hs:Short l) (h:∀ c s,l.drop a = c :: s→smallB c = false) (ha:a≤l.length):
  Calls Tryz.prog 180 #[.pointer (some ⟨g,0,none⟩)] w fun e w'=>(∃ c:UInt8,e = .returned (.int .u8 c.toNat))∧Bad w' g l∧Bx g w w':=name_no w g l a bad R hs h ha
theorem Own.setI0 {w:World} {b:Nat} {k x y:UInt8} {s:Value} (h:Own w b k x y s) (k':UInt8) (i:Int) (hi:(k'.toNat:Int)= i):Own (w.setCell ⟨b,0,none⟩ (.int .u8 i)) b k' x y s:=by
 subst hi;exact h.set0 k'
theorem Bx.setNew {g b i:Nat} {w w':World} {v:Value} (h:Bx g w w') (hb:w.heap.size≤b):Bx g w (w'.setCell ⟨b,i,none⟩ v):=bx_set_new h hb
def Out (w:World) (g:Nat) (l:Str) (o:Option (Tm × Str)) (e:Ending) (w':World):Prop:=
 ∃ b,e = .returned (.pointer (some ⟨b,0,none⟩))∧Bx g w w'∧match o with
   | some (t,r)=>Lies (fun k=>w.heap.size≤k) w' t b∧∃ a',Rdr w' g l a' false∧l.drop a' = r∧a'≤l.length
   | none=>Bad w' g l
def Mid (w:World) (g:Nat) (l:Str) (a b:Nat) (wc:World):Prop:=
 Bx g w wc∧((∃ k x y a',Own wc b k x y (.slice none 0 0)∧Rdr wc g l a' false∧a < a'∧a'≤l.length∧prs smallB (l.drop a)= (prs smallB (l.drop a')).map fun z=>(.un k x y z.1,z.2))∨
  ((∃ k x y,Own wc b k x y (.slice none 0 0))∧Bad wc g l∧prs smallB (l.drop a)= none))
theorem Own.bl {w w':World} (hb:Bl w w') {b:Nat} {k x y:UInt8} {s:Value} (h:Own w b k x y s):Own w' b k x y s:=by
 have hlt:=shape_lt h.four.sh
 exact ⟨h.four.bl hb,by rw [Below.frozen hb hlt];exact h.f0,by rw [Below.frozen hb hlt];exact h.f1,by rw [Below.frozen hb hlt];exact h.f2,by rw [Below.frozen hb hlt];exact h.f3⟩
theorem term_cons (n : Nat) (g : Nat) (l : Str) (hs : Short l)
  (ih:∀ (a:Nat) (w:World),l.length - a < n→a≤l.length→Rdr w g l a false→Calls Tryz.prog 135 #[.pointer (some ⟨g,0,none⟩)] w (Out w g l (prs smallB (l.drop a))))
  (a:Nat) (w:World) (hn:l.length - a < n + 1) (R:Rdr w g l a false) (c:UInt8) (s:Str) (hd:l.drop a = c :: s):
  Calls Tryz.prog 135 #[.pointer (some ⟨g,0,none⟩)] w (Out w g l (prs smallB (l.drop a))):=by
 have hal:a + 1≤l.length:=(drop_facts hd).1
 have hlt:=R.lt
 have HR:=R
 obtain ⟨r0,r1,r2,r3,r4,r5⟩:=R
 have HD:=hide hd
 have HIH:=hide ih
 have HN:=hide hn
 clear ih hn hd
 go_enter Tryz.func135,Tryz.ntmps135
 go_upto_block 0 with (go_at_call 178;(with_reducible refine (next_yes _ g l a false (HR.bl (bl_alloc _ _)) hs c s HD.out).mono ?_);rintro e w1 ⟨rfl,hR1,hb1⟩)
 have hO:Own (w.alloc (.cells #[.int .u8 48,.int .u8 0,.int .u8 0,.slice none 0 0] 119)) w.heap.size 48 0 0 (.slice none 0 0):=Own.new w 48 0 0 _
 have hO1:=hO.bx hb1 (HR.bl (bl_alloc _ _)).else_
 have hB1:=(bx_alloc g w (.cells #[.int .u8 48,.int .u8 0,.int .u8 0,.slice none 0 0] 119)).trans hb1
 have hne:=hR1.ne hO1.four
 clear hO hb1 r0 r1 r2 r3 r4 r5
 have hw0:Hid (w.heap.size≤w.heap.size):=Nat.le_refl _
 generalize hb0:w.heap.size = b at hO1 hne ⊢
 have hb0:=hide hb0
 go_cut [] (fun wc=>Mid w g l a b wc)
 case first =>
  have hbw:w.heap.size≤b:=Nat.le_of_eq hb0.out
  have K3:=hide (drop_facts HD.out).2.2.1
  have hprs:Hid (prs smallB (l.drop a)= prs smallB (c :: s)):=by unfold Hid;rw [HD.out]
  obtain ⟨⟨q0,q1,q2,q3,q4⟩,p0,p1,p2,p3⟩:=id hO1
  by_cases c0:c = 48
  ·subst c0
   go_wp2_with fail
   go_ret
   refine ⟨b,rfl,hB1,?_⟩
   rw [hprs.out,prs_48]
   exact ⟨⟨hbw,_,_,hO1.four⟩,a + 1,hR1,K3.out,hal⟩
  have n0:((c.toNat:Int)== 48)= false:=ne_int (d:=48) c0
  clear c0
  by_cases cl:smallB c = true
  ·have cL := hide fun w => isLetter_c c w
   rw [cl] at cL
   match s with
   | []=>
     go_wp2_with (first | (go_at_call 179;(with_reducible refine (cL.out _).mono ?_);rintro e w' ⟨rfl,rfl⟩) | (go_at_call 178;(with_reducible refine (next_no _ g l (a + 1) false hR1 K3.out).mono ?_);rintro e w2 ⟨rfl,hR2,hB2⟩;have hO2:=hO1.bx hB2 hR1.else_;obtain ⟨⟨q0,q1,q2,q3,q4⟩,p0,p1,p2,p3⟩:=id hO2;obtain ⟨r0,r1,r2,r3,r4,r5⟩:=id hR2) | (go_at_call 180;(with_reducible refine (name_bad _ g l (((hR2.set_ne _ hne).set_ne _ hne).bad hal) hs).mono ?_);rintro e w3 ⟨⟨d,rfl⟩,hR3,hB3⟩;have hO3:=((((hO2.set1 c).setI0 0 0 rfl).bx (bx_set g 2 _ (.bool true)) ((hR2.set_ne _ hne).set_ne _ hne).else_)).bx hB3 (((hR2.set_ne _ hne).set_ne _ hne).bad hal).else_;obtain ⟨⟨q0,q1,q2,q3,q4⟩,p0,p1,p2,p3⟩:=id hO3) | (go_at_call 181;(with_reducible refine (need_badi _ g l (hR3.set_ne _ hne) hs 46 (by decide) 46 rfl).mono ?_);rintro e w4 ⟨rfl,hR4,hB4⟩;have hO4:=(hO3.set2 d).bx hB4 (hR3.set_ne _ hne).else_;obtain ⟨⟨q0,q1,q2,q3,q4⟩,p0,p1,p2,p3⟩:=id hO4))
     go_meet
     case rel=>exact ⟨(((((((hB1).trans hB2).setNew hbw).setNew hbw).trans (bx_set g 2 _ _)).trans hB3).setNew hbw).trans hB4,.inr ⟨⟨_,_,_,hO4⟩,hR4,by rw [hprs.out];exact prs_name_no (fun _ h=>small_wide h) c [] cl (by simp)⟩⟩
   | k :: s =>
     have K4:=hide (drop_facts K3.out).2.2.1
     have hal2:a + 1 + 1≤l.length:=(drop_facts K3.out).1
     by_cases hk:k = 33∨k = 63
     ·by_cases hb:∃ b' s',s = b' :: s'∧smallB b' = true
      ·obtain ⟨b',s',rfl,hb⟩:=hb
       have K5:=hide (drop_facts K4.out).2.2.1
       have hal3:a + 1 + 1 + 1≤l.length:=(drop_facts K4.out).1
       by_cases h46:∃ s3,s' = 46 :: s3
       ·obtain ⟨s3,rfl⟩:=h46
        have hal4:a + 1 + 1 + 1 + 1≤l.length:=(drop_facts K5.out).1
        have K6:=hide (drop_facts K5.out).2.2.1
        rcases hk with rfl | rfl
        ·
         go_wp2_with (first | (go_at_call 179;(with_reducible refine (cL.out _).mono ?_);rintro e w' ⟨rfl,rfl⟩) | (go_at_call 178;(with_reducible refine (next_yes _ g l (a + 1) false hR1 hs 33 _ K3.out).mono ?_);rintro e w2 ⟨rfl,hR2,hB2⟩;have hO2:=hO1.bx hB2 hR1.else_;obtain ⟨⟨q0,q1,q2,q3,q4⟩,p0,p1,p2,p3⟩:=id hO2;obtain ⟨r0,r1,r2,r3,r4,r5⟩:=id hR2) | (go_at_call 180;(with_reducible refine (name_yes _ g l (a + 1 + 1) false ((hR2.set_ne _ hne).set_ne _ hne) hs b' _ K4.out hb).mono ?_);rintro e w3 ⟨rfl,hR3,hB3⟩;have hO3:=((hO2.set1 c).setI0 33 33 rfl).bx hB3 ((hR2.set_ne _ hne).set_ne _ hne).else_;obtain ⟨⟨q0,q1,q2,q3,q4⟩,p0,p1,p2,p3⟩:=id hO3) | (go_at_call 181;(with_reducible refine (need_yesi _ g l (a + 1 + 1 + 1) false (hR3.set_ne _ hne) hs 46 s3 K5.out 46 rfl).mono ?_);rintro e w4 ⟨rfl,hR4,hB4⟩;have hO4:=(hO3.set2 b').bx hB4 (hR3.set_ne _ hne).else_;obtain ⟨⟨q0,q1,q2,q3,q4⟩,p0,p1,p2,p3⟩:=id hO4))
         go_meet
         case rel=>exact ⟨((((((hB1).trans hB2).setNew hbw).setNew hbw).trans hB3).setNew hbw).trans hB4,.inl ⟨_,_,_,_,hO4,hR4,by omega,hal4,by rw [hprs.out,K6.out];exact prs_name (fun _ h=>small_wide h) c 33 b' s3 cl (by decide) hb⟩⟩
        ·
         go_wp2_with (first | (go_at_call 179;(with_reducible refine (cL.out _).mono ?_);rintro e w' ⟨rfl,rfl⟩) | (go_at_call 178;(with_reducible refine (next_yes _ g l (a + 1) false hR1 hs 63 _ K3.out).mono ?_);rintro e w2 ⟨rfl,hR2,hB2⟩;have hO2:=hO1.bx hB2 hR1.else_;obtain ⟨⟨q0,q1,q2,q3,q4⟩,p0,p1,p2,p3⟩:=id hO2;obtain ⟨r0,r1,r2,r3,r4,r5⟩:=id hR2) | (go_at_call 180;(with_reducible refine (name_yes _ g l (a + 1 + 1) false ((hR2.set_ne _ hne).set_ne _ hne) hs b' _ K4.out hb).mono ?_);rintro e w3 ⟨rfl,hR3,hB3⟩;have hO3:=((hO2.set1 c).setI0 63 63 rfl).bx hB3 ((hR2.set_ne _ hne).set_ne _ hne).else_;obtain ⟨⟨q0,q1,q2,q3,q4⟩,p0,p1,p2,p3⟩:=id hO3) | (go_at_call 181;(with_reducible refine (need_yesi _ g l (a + 1 + 1 + 1) false (hR3.set_ne _ hne) hs 46 s3 K5.out 46 rfl).mono ?_);rintro e w4 ⟨rfl,hR4,hB4⟩;have hO4:=(hO3.set2 b').bx hB4 (hR3.set_ne _ hne).else_;obtain ⟨⟨q0,q1,q2,q3,q4⟩,p0,p1,p2,p3⟩:=id hO4))
         go_meet
         case rel=>exact ⟨((((((hB1).trans hB2).setNew hbw).setNew hbw).trans hB3).setNew hbw).trans hB4,.inl ⟨_,_,_,_,hO4,hR4,by omega,hal4,by rw [hprs.out,K6.out];exact prs_name (fun _ h=>small_wide h) c 63 b' s3 cl (by decide) hb⟩⟩
       ·have hn46:∀ s3,l.drop (a + 1 + 1 + 1)≠46 :: s3:=fun s3 e=>h46 ⟨s3,K5.out.symm.trans e⟩
        have hpn:Hid (prs smallB (c :: k :: b' :: s')= none):=prs_name_no (fun _ h=>small_wide h) c _ cl (fun _ _ r q _ _=>h46 ⟨r,(List.cons.inj (List.cons.inj q).2).2⟩)
        rcases hk with rfl | rfl
        ·
         go_wp2_with (first | (go_at_call 179;(with_reducible refine (cL.out _).mono ?_);rintro e w' ⟨rfl,rfl⟩) | (go_at_call 178;(with_reducible refine (next_yes _ g l (a + 1) false hR1 hs 33 _ K3.out).mono ?_);rintro e w2 ⟨rfl,hR2,hB2⟩;have hO2:=hO1.bx hB2 hR1.else_;obtain ⟨⟨q0,q1,q2,q3,q4⟩,p0,p1,p2,p3⟩:=id hO2;obtain ⟨r0,r1,r2,r3,r4,r5⟩:=id hR2) | (go_at_call 180;(with_reducible refine (name_yes _ g l (a + 1 + 1) false ((hR2.set_ne _ hne).set_ne _ hne) hs b' _ K4.out hb).mono ?_);rintro e w3 ⟨rfl,hR3,hB3⟩;have hO3:=((hO2.set1 c).setI0 33 33 rfl).bx hB3 ((hR2.set_ne _ hne).set_ne _ hne).else_;obtain ⟨⟨q0,q1,q2,q3,q4⟩,p0,p1,p2,p3⟩:=id hO3) | (go_at_call 181;(with_reducible refine (need_noi _ g l (a + 1 + 1 + 1) false (hR3.set_ne _ hne) hs 46 (by decide) hn46 hal3 46 rfl).mono ?_);rintro e w4 ⟨rfl,hR4,hB4⟩;have hO4:=(hO3.set2 b').bx hB4 (hR3.set_ne _ hne).else_;obtain ⟨⟨q0,q1,q2,q3,q4⟩,p0,p1,p2,p3⟩:=id hO4))
         go_meet
         case rel=>exact ⟨((((((hB1).trans hB2).setNew hbw).setNew hbw).trans hB3).setNew hbw).trans hB4,.inr ⟨⟨_,_,_,hO4⟩,hR4,by rw [hprs.out];exact hpn.out⟩⟩
        ·
         go_wp2_with (first | (go_at_call 179;(with_reducible refine (cL.out _).mono ?_);rintro e w' ⟨rfl,rfl⟩) | (go_at_call 178;(with_reducible refine (next_yes _ g l (a + 1) false hR1 hs 63 _ K3.out).mono ?_);rintro e w2 ⟨rfl,hR2,hB2⟩;have hO2:=hO1.bx hB2 hR1.else_;obtain ⟨⟨q0,q1,q2,q3,q4⟩,p0,p1,p2,p3⟩:=id hO2;obtain ⟨r0,r1,r2,r3,r4,r5⟩:=id hR2) | (go_at_call 180;(with_reducible refine (name_yes _ g l (a + 1 + 1) false ((hR2.set_ne _ hne).set_ne _ hne) hs b' _ K4.out hb).mono ?_);rintro e w3 ⟨rfl,hR3,hB3⟩;have hO3:=((hO2.set1 c).setI0 63 63 rfl).bx hB3 ((hR2.set_ne _ hne).set_ne _ hne).else_;obtain ⟨⟨q0,q1,q2,q3,q4⟩,p0,p1,p2,p3⟩:=id hO3) | (go_at_call 181;(with_reducible refine (need_noi _ g l (a + 1 + 1 + 1) false (hR3.set_ne _ hne) hs 46 (by decide) hn46 hal3 46 rfl).mono ?_);rintro e w4 ⟨rfl,hR4,hB4⟩;have hO4:=(hO3.set2 b').bx hB4 (hR3.set_ne _ hne).else_;obtain ⟨⟨q0,q1,q2,q3,q4⟩,p0,p1,p2,p3⟩:=id hO4))
         go_meet
         case rel=>exact ⟨((((((hB1).trans hB2).setNew hbw).setNew hbw).trans hB3).setNew hbw).trans hB4,.inr ⟨⟨_,_,_,hO4⟩,hR4,by rw [hprs.out];exact hpn.out⟩⟩
      ·have hnn:∀ c s',l.drop (a + 1 + 1)= c :: s'→smallB c = false:=by
        intro d s' e
        cases hd:smallB d
        ·rfl
        ·exact (hb ⟨d,s',K4.out.symm.trans e,hd⟩).elim
       have hpn:Hid (prs smallB (c :: k :: s)= none):=prs_name_no (fun _ h=>small_wide h) c _ cl (fun _ b' r q _ h=>hb ⟨b',_,(List.cons.inj q).2,h⟩)
       rcases hk with rfl | rfl
       ·
        go_wp2_with (first | (go_at_call 179;(with_reducible refine (cL.out _).mono ?_);rintro e w' ⟨rfl,rfl⟩) | (go_at_call 178;(with_reducible refine (next_yes _ g l (a + 1) false hR1 hs 33 _ K3.out).mono ?_);rintro e w2 ⟨rfl,hR2,hB2⟩;have hO2:=hO1.bx hB2 hR1.else_;obtain ⟨⟨q0,q1,q2,q3,q4⟩,p0,p1,p2,p3⟩:=id hO2;obtain ⟨r0,r1,r2,r3,r4,r5⟩:=id hR2) | (go_at_call 180;(with_reducible refine (name_noi _ g l (a + 1 + 1) false ((hR2.set_ne _ hne).set_ne _ hne) hs hnn hal2).mono ?_);rintro e w3 ⟨⟨d,rfl⟩,hR3,hB3⟩;have hO3:=((hO2.set1 c).setI0 33 33 rfl).bx hB3 ((hR2.set_ne _ hne).set_ne _ hne).else_;obtain ⟨⟨q0,q1,q2,q3,q4⟩,p0,p1,p2,p3⟩:=id hO3) | (go_at_call 181;(with_reducible refine (need_badi _ g l (hR3.set_ne _ hne) hs 46 (by decide) 46 rfl).mono ?_);rintro e w4 ⟨rfl,hR4,hB4⟩;have hO4:=(hO3.set2 d).bx hB4 (hR3.set_ne _ hne).else_;obtain ⟨⟨q0,q1,q2,q3,q4⟩,p0,p1,p2,p3⟩:=id hO4))
        go_meet
        case rel=>exact ⟨((((((hB1).trans hB2).setNew hbw).setNew hbw).trans hB3).setNew hbw).trans hB4,.inr ⟨⟨_,_,_,hO4⟩,hR4,by rw [hprs.out];exact hpn.out⟩⟩
       ·
        go_wp2_with (first | (go_at_call 179;(with_reducible refine (cL.out _).mono ?_);rintro e w' ⟨rfl,rfl⟩) | (go_at_call 178;(with_reducible refine (next_yes _ g l (a + 1) false hR1 hs 63 _ K3.out).mono ?_);rintro e w2 ⟨rfl,hR2,hB2⟩;have hO2:=hO1.bx hB2 hR1.else_;obtain ⟨⟨q0,q1,q2,q3,q4⟩,p0,p1,p2,p3⟩:=id hO2;obtain ⟨r0,r1,r2,r3,r4,r5⟩:=id hR2) | (go_at_call 180;(with_reducible refine (name_noi _ g l (a + 1 + 1) false ((hR2.set_ne _ hne).set_ne _ hne) hs hnn hal2).mono ?_);rintro e w3 ⟨⟨d,rfl⟩,hR3,hB3⟩;have hO3:=((hO2.set1 c).setI0 63 63 rfl).bx hB3 ((hR2.set_ne _ hne).set_ne _ hne).else_;obtain ⟨⟨q0,q1,q2,q3,q4⟩,p0,p1,p2,p3⟩:=id hO3) | (go_at_call 181;(with_reducible refine (need_badi _ g l (hR3.set_ne _ hne) hs 46 (by decide) 46 rfl).mono ?_);rintro e w4 ⟨rfl,hR4,hB4⟩;have hO4:=(hO3.set2 d).bx hB4 (hR3.set_ne _ hne).else_;obtain ⟨⟨q0,q1,q2,q3,q4⟩,p0,p1,p2,p3⟩:=id hO4))
        go_meet
        case rel=>exact ⟨((((((hB1).trans hB2).setNew hbw).setNew hbw).trans hB3).setNew hbw).trans hB4,.inr ⟨⟨_,_,_,hO4⟩,hR4,by rw [hprs.out];exact hpn.out⟩⟩
     ·have k1:((k.toNat:Int)== 33)= false:=ne_int (d:=33) (fun e=>hk (.inl e))
      have k2:((k.toNat:Int)== 63)= false:=ne_int (d:=63) (fun e=>hk (.inr e))
      have k1':=bne_of k1
      have k2':=bne_of k2
      have hpn:Hid (prs smallB (c :: k :: s)= none):=prs_name_no (fun _ h=>small_wide h) c _ cl (fun _ _ r q h _=>hk (by rw [(List.cons.inj q).1];exact h))
      clear hk
      go_wp2_with (first | (go_at_call 179;(with_reducible refine (cL.out _).mono ?_);rintro e w' ⟨rfl,rfl⟩) | (go_at_call 178;(with_reducible refine (next_yes _ g l (a + 1) false hR1 hs k s K3.out).mono ?_);rintro e w2 ⟨rfl,hR2,hB2⟩;have hO2:=hO1.bx hB2 hR1.else_;obtain ⟨⟨q0,q1,q2,q3,q4⟩,p0,p1,p2,p3⟩:=id hO2;obtain ⟨r0,r1,r2,r3,r4,r5⟩:=id hR2) | (go_at_call 180;(with_reducible refine (name_bad _ g l (((hR2.set_ne _ hne).set_ne _ hne).bad hal2) hs).mono ?_);rintro e w3 ⟨⟨d,rfl⟩,hR3,hB3⟩;have hO3:=((((hO2.set1 c).set0 k).bx (bx_set g 2 _ (.bool true)) ((hR2.set_ne _ hne).set_ne _ hne).else_)).bx hB3 (((hR2.set_ne _ hne).set_ne _ hne).bad hal2).else_;obtain ⟨⟨q0,q1,q2,q3,q4⟩,p0,p1,p2,p3⟩:=id hO3) | (go_at_call 181;(with_reducible refine (need_badi _ g l (hR3.set_ne _ hne) hs 46 (by decide) 46 rfl).mono ?_);rintro e w4 ⟨rfl,hR4,hB4⟩;have hO4:=(hO3.set2 d).bx hB4 (hR3.set_ne _ hne).else_;obtain ⟨⟨q0,q1,q2,q3,q4⟩,p0,p1,p2,p3⟩:=id hO4))
      go_meet
      case rel=>exact ⟨(((((((hB1).trans hB2).setNew hbw).setNew hbw).trans (bx_set g 2 _ _)).trans hB3).setNew hbw).trans hB4,.inr ⟨⟨_,_,_,hO4⟩,hR4,by rw [hprs.out];exact hpn.out⟩⟩
  have cl':smallB c = false:=by simpa using cl
  clear cl
  have K1:=K3
  obtain ⟨s1,e⟩:∃ s1,s1 = s:=⟨s,rfl⟩
  subst e
  by_cases c1:c = 126
  ·subst c1
   have cL:Hid (∀ w,Calls Tryz.prog 179 #[.int .u8 126] w fun e w'=>e = .returned (.bool false)∧w = w'):=fun w=>isLetter_c 126 w
   by_cases hx1:∃ s',s1 = 46 :: s'
   ·obtain ⟨s2,rfl⟩:=hx1
    have K2:=hide (drop_facts K1.out).2.2.1
    have hal2:(a + 1 + 1)≤l.length:=(drop_facts K1.out).1
    go_wp2_with (first | (go_at_call 179;(with_reducible refine (cL.out _).mono ?_);rintro e w' ⟨rfl,rfl⟩) | (go_at_call 181;(with_reducible refine (need_yesi _ g l (a + 1) false ((hR1).set_ne _ hne) hs 46 _ K1.out 46 rfl).mono ?_);rintro e w2 ⟨rfl,hR2,hB2⟩;have hO2:=((hO1).setI0 126 126 rfl).bx hB2 ((hR1).set_ne _ hne).else_;obtain ⟨⟨q0,q1,q2,q3,q4⟩,p0,p1,p2,p3⟩:=id hO2))
    go_meet
    case rel=>exact ⟨((hB1).setNew hbw).trans hB2,.inl ⟨_,_,_,_,hO2,hR2,by omega,hal2,by rw [hprs.out,K2.out];exact prs_126 (fun _ h=>small_wide h) s2⟩⟩
   ·have hnn:∀ s',l.drop (a + 1)≠46 :: s':=fun s' e=>hx1 ⟨s',K1.out.symm.trans e⟩
    have hpn:Hid (prs smallB (l.drop a)= none):=by unfold Hid;rw [hprs.out];exact prs_126_no _ (fun r e=>hx1 ⟨r,e⟩)
    go_wp2_with (first | (go_at_call 179;(with_reducible refine (cL.out _).mono ?_);rintro e w' ⟨rfl,rfl⟩) | (go_at_call 181;(with_reducible refine (need_noi _ g l (a + 1) false ((hR1).set_ne _ hne) hs 46 (by decide) hnn hal 46 rfl).mono ?_);rintro e w2 ⟨rfl,hR2,hB2⟩;have hO2:=((hO1).setI0 126 126 rfl).bx hB2 ((hR1).set_ne _ hne).else_;obtain ⟨⟨q0,q1,q2,q3,q4⟩,p0,p1,p2,p3⟩:=id hO2))
    go_meet
    case rel=>exact ⟨((hB1).setNew hbw).trans hB2,.inr ⟨⟨_,_,_,hO2⟩,hR2,hpn.out⟩⟩
  by_cases c2:c = 42
  ·subst c2
   have cL:Hid (∀ w,Calls Tryz.prog 179 #[.int .u8 42] w fun e w'=>e = .returned (.bool false)∧w = w'):=fun w=>isLetter_c 42 w
   go_wp2_with (first | (go_at_call 179;(with_reducible refine (cL.out _).mono ?_);rintro e w' ⟨rfl,rfl⟩))
   go_meet
   case rel=>exact ⟨(hB1).setNew hbw,.inl ⟨_,_,_,_,(hO1).setI0 42 42 rfl,(hR1).set_ne _ hne,by omega,hal,by rw [hprs.out,K1.out];exact prs_42 s1⟩⟩
  by_cases c3:c = 35
  ·subst c3
   have cL:Hid (∀ w,Calls Tryz.prog 179 #[.int .u8 35] w fun e w'=>e = .returned (.bool false)∧w = w'):=fun w=>isLetter_c 35 w
   by_cases hx1:∃ x s',s1 = x :: s'∧smallB x = true
   ·obtain ⟨x,s2,rfl,hx⟩:=hx1
    have K2:=hide (drop_facts K1.out).2.2.1
    have hal2:(a + 1 + 1)≤l.length:=(drop_facts K1.out).1
    by_cases hx2:∃ s',s2 = 46 :: s'
    ·obtain ⟨s3,rfl⟩:=hx2
     have K3:=hide (drop_facts K2.out).2.2.1
     have hal3:(a + 1 + 1 + 1)≤l.length:=(drop_facts K2.out).1
     go_wp2_with (first | (go_at_call 179;(with_reducible refine (cL.out _).mono ?_);rintro e w' ⟨rfl,rfl⟩) | (go_at_call 180;(with_reducible refine (name_yes _ g l (a + 1) false (hR1) hs x _ K1.out hx).mono ?_);rintro e w2 ⟨rfl,hR2,hB2⟩;have hO2:=(hO1).bx hB2 (hR1).else_;obtain ⟨⟨q0,q1,q2,q3,q4⟩,p0,p1,p2,p3⟩:=id hO2) | (go_at_call 181;(with_reducible refine (need_yesi _ g l (a + 1 + 1) false (((hR2).set_ne _ hne).set_ne _ hne) hs 46 _ K2.out 46 rfl).mono ?_);rintro e w3 ⟨rfl,hR3,hB3⟩;have hO3:=(((hO2).setI0 35 35 rfl).set2 x).bx hB3 (((hR2).set_ne _ hne).set_ne _ hne).else_;obtain ⟨⟨q0,q1,q2,q3,q4⟩,p0,p1,p2,p3⟩:=id hO3))
     go_meet
     case rel=>exact ⟨((((hB1).trans hB2).setNew hbw).setNew hbw).trans hB3,.inl ⟨_,_,_,_,hO3,hR3,by omega,hal3,by rw [hprs.out,K3.out];exact prs_35 (fun _ h=>small_wide h) x s3 hx⟩⟩
    ·have hnn:∀ s',l.drop (a + 1 + 1)≠46 :: s':=fun s' e=>hx2 ⟨s',K2.out.symm.trans e⟩
     have hpn:Hid (prs smallB (l.drop a)= none):=by unfold Hid;rw [hprs.out];exact prs_35_no _ (fun b r q _=>hx2 ⟨r,(List.cons.inj q).2⟩)
     go_wp2_with (first | (go_at_call 179;(with_reducible refine (cL.out _).mono ?_);rintro e w' ⟨rfl,rfl⟩) | (go_at_call 180;(with_reducible refine (name_yes _ g l (a + 1) false (hR1) hs x _ K1.out hx).mono ?_);rintro e w2 ⟨rfl,hR2,hB2⟩;have hO2:=(hO1).bx hB2 (hR1).else_;obtain ⟨⟨q0,q1,q2,q3,q4⟩,p0,p1,p2,p3⟩:=id hO2) | (go_at_call 181;(with_reducible refine (need_noi _ g l (a + 1 + 1) false (((hR2).set_ne _ hne).set_ne _ hne) hs 46 (by decide) hnn hal2 46 rfl).mono ?_);rintro e w3 ⟨rfl,hR3,hB3⟩;have hO3:=(((hO2).setI0 35 35 rfl).set2 x).bx hB3 (((hR2).set_ne _ hne).set_ne _ hne).else_;obtain ⟨⟨q0,q1,q2,q3,q4⟩,p0,p1,p2,p3⟩:=id hO3))
     go_meet
     case rel=>exact ⟨((((hB1).trans hB2).setNew hbw).setNew hbw).trans hB3,.inr ⟨⟨_,_,_,hO3⟩,hR3,hpn.out⟩⟩
   ·have hnn:∀ c s',l.drop (a + 1)= c :: s'→smallB c = false:=by
     intro d s' e
     cases hd:smallB d
     ·rfl
     ·exact (hx1 ⟨d,s',K1.out.symm.trans e,hd⟩).elim
    have hpn:Hid (prs smallB (l.drop a)= none):=by unfold Hid;rw [hprs.out];exact prs_35_no _ (fun b r q h=>hx1 ⟨b,_,q,h⟩)
    go_wp2_with (first | (go_at_call 179;(with_reducible refine (cL.out _).mono ?_);rintro e w' ⟨rfl,rfl⟩) | (go_at_call 180;(with_reducible refine (name_noi _ g l (a + 1) false (hR1) hs hnn hal).mono ?_);rintro e w2 ⟨⟨d2,rfl⟩,hR2,hB2⟩;have hO2:=(hO1).bx hB2 (hR1).else_;obtain ⟨⟨q0,q1,q2,q3,q4⟩,p0,p1,p2,p3⟩:=id hO2) | (go_at_call 181;(with_reducible refine (need_badi _ g l (((hR2).set_ne _ hne).set_ne _ hne) hs 46 (by decide) 46 rfl).mono ?_);rintro e w3 ⟨rfl,hR3,hB3⟩;have hO3:=(((hO2).setI0 35 35 rfl).set2 d2).bx hB3 (((hR2).set_ne _ hne).set_ne _ hne).else_;obtain ⟨⟨q0,q1,q2,q3,q4⟩,p0,p1,p2,p3⟩:=id hO3))
    go_meet
    case rel=>exact ⟨((((hB1).trans hB2).setNew hbw).setNew hbw).trans hB3,.inr ⟨⟨_,_,_,hO3⟩,hR3,hpn.out⟩⟩
  by_cases c4:c = 91
  ·subst c4
   have cL:Hid (∀ w,Calls Tryz.prog 179 #[.int .u8 91] w fun e w'=>e = .returned (.bool false)∧w = w'):=fun w=>isLetter_c 91 w
   by_cases hx1:∃ x s',s1 = x :: s'∧smallB x = true
   ·obtain ⟨x,s2,rfl,hx⟩:=hx1
    have K2:=hide (drop_facts K1.out).2.2.1
    have hal2:(a + 1 + 1)≤l.length:=(drop_facts K1.out).1
    by_cases hx2:∃ s',s2 = 61 :: s'
    ·obtain ⟨s3,rfl⟩:=hx2
     have K3:=hide (drop_facts K2.out).2.2.1
     have hal3:(a + 1 + 1 + 1)≤l.length:=(drop_facts K2.out).1
     by_cases hx3:∃ x s',s3 = x :: s'∧smallB x = true
     ·obtain ⟨y,s4,rfl,hy⟩:=hx3
      have K4:=hide (drop_facts K3.out).2.2.1
      have hal4:(a + 1 + 1 + 1 + 1)≤l.length:=(drop_facts K3.out).1
      by_cases hx4:∃ s',s4 = 93 :: s'
      ·obtain ⟨s5,rfl⟩:=hx4
       have K5:=hide (drop_facts K4.out).2.2.1
       have hal5:(a + 1 + 1 + 1 + 1 + 1)≤l.length:=(drop_facts K4.out).1
       go_wp2_with (first | (go_at_call 179;(with_reducible refine (cL.out _).mono ?_);rintro e w' ⟨rfl,rfl⟩) | (go_at_call 180;(with_reducible refine (name_yes _ g l (a + 1) false (hR1) hs x _ K1.out hx).mono ?_);rintro e w2 ⟨rfl,hR2,hB2⟩;have hO2:=(hO1).bx hB2 (hR1).else_;obtain ⟨⟨q0,q1,q2,q3,q4⟩,p0,p1,p2,p3⟩:=id hO2) | (go_at_call 181;(with_reducible refine (need_yesi _ g l (a + 1 + 1) false (((hR2).set_ne _ hne).set_ne _ hne) hs 61 _ K2.out 61 rfl).mono ?_);rintro e w3 ⟨rfl,hR3,hB3⟩;have hO3:=(((hO2).setI0 61 61 rfl).set1 x).bx hB3 (((hR2).set_ne _ hne).set_ne _ hne).else_;obtain ⟨⟨q0,q1,q2,q3,q4⟩,p0,p1,p2,p3⟩:=id hO3) | (go_at_call 180;(with_reducible refine (name_yes _ g l (a + 1 + 1 + 1) false (hR3) hs y _ K3.out hy).mono ?_);rintro e w4 ⟨rfl,hR4,hB4⟩;have hO4:=(hO3).bx hB4 (hR3).else_;obtain ⟨⟨q0,q1,q2,q3,q4⟩,p0,p1,p2,p3⟩:=id hO4) | (go_at_call 181;(with_reducible refine (need_yesi _ g l (a + 1 + 1 + 1 + 1) false ((hR4).set_ne _ hne) hs 93 _ K4.out 93 rfl).mono ?_);rintro e w5 ⟨rfl,hR5,hB5⟩;have hO5:=((hO4).set2 y).bx hB5 ((hR4).set_ne _ hne).else_;obtain ⟨⟨q0,q1,q2,q3,q4⟩,p0,p1,p2,p3⟩:=id hO5))
       go_meet
       case rel=>exact ⟨(((((((hB1).trans hB2).setNew hbw).setNew hbw).trans hB3).trans hB4).setNew hbw).trans hB5,.inl ⟨_,_,_,_,hO5,hR5,by omega,hal5,by rw [hprs.out,K5.out];exact prs_91 (fun _ h=>small_wide h) x y s5 hx hy⟩⟩
      ·have hnn:∀ s',l.drop (a + 1 + 1 + 1 + 1)≠93 :: s':=fun s' e=>hx4 ⟨s',K4.out.symm.trans e⟩
       have hpn:Hid (prs smallB (l.drop a)= none):=by unfold Hid;rw [hprs.out];exact prs_91_no _ (fun a b r q _ _=>hx4 ⟨r,(List.cons.inj (List.cons.inj (List.cons.inj q).2).2).2⟩)
       go_wp2_with (first | (go_at_call 179;(with_reducible refine (cL.out _).mono ?_);rintro e w' ⟨rfl,rfl⟩) | (go_at_call 180;(with_reducible refine (name_yes _ g l (a + 1) false (hR1) hs x _ K1.out hx).mono ?_);rintro e w2 ⟨rfl,hR2,hB2⟩;have hO2:=(hO1).bx hB2 (hR1).else_;obtain ⟨⟨q0,q1,q2,q3,q4⟩,p0,p1,p2,p3⟩:=id hO2) | (go_at_call 181;(with_reducible refine (need_yesi _ g l (a + 1 + 1) false (((hR2).set_ne _ hne).set_ne _ hne) hs 61 _ K2.out 61 rfl).mono ?_);rintro e w3 ⟨rfl,hR3,hB3⟩;have hO3:=(((hO2).setI0 61 61 rfl).set1 x).bx hB3 (((hR2).set_ne _ hne).set_ne _ hne).else_;obtain ⟨⟨q0,q1,q2,q3,q4⟩,p0,p1,p2,p3⟩:=id hO3) | (go_at_call 180;(with_reducible refine (name_yes _ g l (a + 1 + 1 + 1) false (hR3) hs y _ K3.out hy).mono ?_);rintro e w4 ⟨rfl,hR4,hB4⟩;have hO4:=(hO3).bx hB4 (hR3).else_;obtain ⟨⟨q0,q1,q2,q3,q4⟩,p0,p1,p2,p3⟩:=id hO4) | (go_at_call 181;(with_reducible refine (need_noi _ g l (a + 1 + 1 + 1 + 1) false ((hR4).set_ne _ hne) hs 93 (by decide) hnn hal4 93 rfl).mono ?_);rintro e w5 ⟨rfl,hR5,hB5⟩;have hO5:=((hO4).set2 y).bx hB5 ((hR4).set_ne _ hne).else_;obtain ⟨⟨q0,q1,q2,q3,q4⟩,p0,p1,p2,p3⟩:=id hO5))
       go_meet
       case rel=>exact ⟨(((((((hB1).trans hB2).setNew hbw).setNew hbw).trans hB3).trans hB4).setNew hbw).trans hB5,.inr ⟨⟨_,_,_,hO5⟩,hR5,hpn.out⟩⟩
     ·have hnn:∀ c s',l.drop (a + 1 + 1 + 1)= c :: s'→smallB c = false:=by
       intro d s' e
       cases hd:smallB d
       ·rfl
       ·exact (hx3 ⟨d,s',K3.out.symm.trans e,hd⟩).elim
      have hpn:Hid (prs smallB (l.drop a)= none):=by unfold Hid;rw [hprs.out];exact prs_91_no _ (fun a b r q _ h=>hx3 ⟨b,_,(List.cons.inj (List.cons.inj q).2).2,h⟩)
      go_wp2_with (first | (go_at_call 179;(with_reducible refine (cL.out _).mono ?_);rintro e w' ⟨rfl,rfl⟩) | (go_at_call 180;(with_reducible refine (name_yes _ g l (a + 1) false (hR1) hs x _ K1.out hx).mono ?_);rintro e w2 ⟨rfl,hR2,hB2⟩;have hO2:=(hO1).bx hB2 (hR1).else_;obtain ⟨⟨q0,q1,q2,q3,q4⟩,p0,p1,p2,p3⟩:=id hO2) | (go_at_call 181;(with_reducible refine (need_yesi _ g l (a + 1 + 1) false (((hR2).set_ne _ hne).set_ne _ hne) hs 61 _ K2.out 61 rfl).mono ?_);rintro e w3 ⟨rfl,hR3,hB3⟩;have hO3:=(((hO2).setI0 61 61 rfl).set1 x).bx hB3 (((hR2).set_ne _ hne).set_ne _ hne).else_;obtain ⟨⟨q0,q1,q2,q3,q4⟩,p0,p1,p2,p3⟩:=id hO3) | (go_at_call 180;(with_reducible refine (name_noi _ g l (a + 1 + 1 + 1) false (hR3) hs hnn hal3).mono ?_);rintro e w4 ⟨⟨d4,rfl⟩,hR4,hB4⟩;have hO4:=(hO3).bx hB4 (hR3).else_;obtain ⟨⟨q0,q1,q2,q3,q4⟩,p0,p1,p2,p3⟩:=id hO4) | (go_at_call 181;(with_reducible refine (need_badi _ g l ((hR4).set_ne _ hne) hs 93 (by decide) 93 rfl).mono ?_);rintro e w5 ⟨rfl,hR5,hB5⟩;have hO5:=((hO4).set2 d4).bx hB5 ((hR4).set_ne _ hne).else_;obtain ⟨⟨q0,q1,q2,q3,q4⟩,p0,p1,p2,p3⟩:=id hO5))
      go_meet
      case rel=>exact ⟨(((((((hB1).trans hB2).setNew hbw).setNew hbw).trans hB3).trans hB4).setNew hbw).trans hB5,.inr ⟨⟨_,_,_,hO5⟩,hR5,hpn.out⟩⟩
    ·have hnn:∀ s',l.drop (a + 1 + 1)≠61 :: s':=fun s' e=>hx2 ⟨s',K2.out.symm.trans e⟩
     have hpn:Hid (prs smallB (l.drop a)= none):=by unfold Hid;rw [hprs.out];exact prs_91_no _ (fun a b r q _ _=>hx2 ⟨_,(List.cons.inj q).2⟩)
     go_wp2_with (first | (go_at_call 179;(with_reducible refine (cL.out _).mono ?_);rintro e w' ⟨rfl,rfl⟩) | (go_at_call 180;(with_reducible refine (name_yes _ g l (a + 1) false (hR1) hs x _ K1.out hx).mono ?_);rintro e w2 ⟨rfl,hR2,hB2⟩;have hO2:=(hO1).bx hB2 (hR1).else_;obtain ⟨⟨q0,q1,q2,q3,q4⟩,p0,p1,p2,p3⟩:=id hO2) | (go_at_call 181;(with_reducible refine (need_noi _ g l (a + 1 + 1) false (((hR2).set_ne _ hne).set_ne _ hne) hs 61 (by decide) hnn hal2 61 rfl).mono ?_);rintro e w3 ⟨rfl,hR3,hB3⟩;have hO3:=(((hO2).setI0 61 61 rfl).set1 x).bx hB3 (((hR2).set_ne _ hne).set_ne _ hne).else_;obtain ⟨⟨q0,q1,q2,q3,q4⟩,p0,p1,p2,p3⟩:=id hO3) | (go_at_call 180;(with_reducible refine (name_bad _ g l (hR3) hs).mono ?_);rintro e w4 ⟨⟨d4,rfl⟩,hR4,hB4⟩;have hO4:=(hO3).bx hB4 (hR3).else_;obtain ⟨⟨q0,q1,q2,q3,q4⟩,p0,p1,p2,p3⟩:=id hO4) | (go_at_call 181;(with_reducible refine (need_badi _ g l ((hR4).set_ne _ hne) hs 93 (by decide) 93 rfl).mono ?_);rintro e w5 ⟨rfl,hR5,hB5⟩;have hO5:=((hO4).set2 d4).bx hB5 ((hR4).set_ne _ hne).else_;obtain ⟨⟨q0,q1,q2,q3,q4⟩,p0,p1,p2,p3⟩:=id hO5))
     go_meet
     case rel=>exact ⟨(((((((hB1).trans hB2).setNew hbw).setNew hbw).trans hB3).trans hB4).setNew hbw).trans hB5,.inr ⟨⟨_,_,_,hO5⟩,hR5,hpn.out⟩⟩
   ·have hnn:∀ c s',l.drop (a + 1)= c :: s'→smallB c = false:=by
     intro d s' e
     cases hd:smallB d
     ·rfl
     ·exact (hx1 ⟨d,s',K1.out.symm.trans e,hd⟩).elim
    have hpn:Hid (prs smallB (l.drop a)= none):=by unfold Hid;rw [hprs.out];exact prs_91_no _ (fun a b r q h _=>hx1 ⟨a,_,q,h⟩)
    go_wp2_with (first | (go_at_call 179;(with_reducible refine (cL.out _).mono ?_);rintro e w' ⟨rfl,rfl⟩) | (go_at_call 180;(with_reducible refine (name_noi _ g l (a + 1) false (hR1) hs hnn hal).mono ?_);rintro e w2 ⟨⟨d2,rfl⟩,hR2,hB2⟩;have hO2:=(hO1).bx hB2 (hR1).else_;obtain ⟨⟨q0,q1,q2,q3,q4⟩,p0,p1,p2,p3⟩:=id hO2) | (go_at_call 181;(with_reducible refine (need_badi _ g l (((hR2).set_ne _ hne).set_ne _ hne) hs 61 (by decide) 61 rfl).mono ?_);rintro e w3 ⟨rfl,hR3,hB3⟩;have hO3:=(((hO2).setI0 61 61 rfl).set1 d2).bx hB3 (((hR2).set_ne _ hne).set_ne _ hne).else_;obtain ⟨⟨q0,q1,q2,q3,q4⟩,p0,p1,p2,p3⟩:=id hO3) | (go_at_call 180;(with_reducible refine (name_bad _ g l (hR3) hs).mono ?_);rintro e w4 ⟨⟨d4,rfl⟩,hR4,hB4⟩;have hO4:=(hO3).bx hB4 (hR3).else_;obtain ⟨⟨q0,q1,q2,q3,q4⟩,p0,p1,p2,p3⟩:=id hO4) | (go_at_call 181;(with_reducible refine (need_badi _ g l ((hR4).set_ne _ hne) hs 93 (by decide) 93 rfl).mono ?_);rintro e w5 ⟨rfl,hR5,hB5⟩;have hO5:=((hO4).set2 d4).bx hB5 ((hR4).set_ne _ hne).else_;obtain ⟨⟨q0,q1,q2,q3,q4⟩,p0,p1,p2,p3⟩:=id hO5))
    go_meet
    case rel=>exact ⟨(((((((hB1).trans hB2).setNew hbw).setNew hbw).trans hB3).trans hB4).setNew hbw).trans hB5,.inr ⟨⟨_,_,_,hO5⟩,hR5,hpn.out⟩⟩
  by_cases c5:c = 40
  ·subst c5
   have cL:Hid (∀ w,Calls Tryz.prog 179 #[.int .u8 40] w fun e w'=>e = .returned (.bool false)∧w = w'):=fun w=>isLetter_c 40 w
   have hb1l:b < w1.heap.size:=shape_lt hO1.four.sh
   have hp40:=prs_40 (nm:=smallB) (fun _ h=>small_wide h) s1
   have e40:prs smallB (l.drop a)= prs smallB (40 :: s1):=hprs.out
   have t1:=HIH.out (a + 1) w1 (by have:=HN.out;omega) hal hR1
   rw [K1.out] at t1
   match hp1:prs smallB s1 with
   | none=>
     rw [hp1] at t1 hp40
     have t1:Hid (Calls Tryz.prog 135 #[.pointer (some ⟨g,0,none⟩)] w1 fun e w'=>∃ b,e = .returned (.pointer (some ⟨b,0,none⟩))∧Bx g w1 w'∧Bad w' g l):=t1
     have hp40:=hide hp40
     have e40:=hide e40
     go_wp2_with (first | (go_at_call 179;(with_reducible refine (cL.out _).mono ?_);rintro e w' ⟨rfl,rfl⟩) | (go_at_call 135;(with_reducible refine (t1.out).mono ?_);rintro e w2 ⟨pb,rfl,hB2,hR2⟩;have hO2:=hO1.bx hB2 hR1.else_;obtain ⟨⟨q0,q1,q2,q3,q4⟩,p0,p1,p2,p3⟩:=id hO2) | (go_at_call 178;(with_reducible refine (next_bad _ g l hR2 hs).mono ?_);rintro e w3 ⟨⟨d,rfl⟩,hR3,hB3⟩;have hO3p:=hO2.bx hB3 hR2.else_;obtain ⟨⟨q0,q1,q2,q3,q4⟩,p0,p1,p2,p3⟩:=id hO3p;have hO3:=hO3p.set0 d;have hRs:=hR3.set_ne (b:=b) (i:=0) (.int .u8 d.toNat) hne;obtain ⟨a3,⟨r0,r1,r2,r3,r4,r5⟩,ha3⟩:=id hR3) | (go_at_call 135;(with_reducible refine (term_bad _ g l (hR3.set_ne _ hne)).mono ?_);rintro e w4 ⟨⟨qb,rfl⟩,hR4,hB4⟩;have hO4:=((hO3p.setI0 43 43 rfl).bx hB4 (hR3.set_ne _ hne).else_).bl (bl_alloc w4 (.cells #[.pointer (some ⟨pb,0,none⟩),.pointer (some ⟨qb,0,none⟩)] 54));obtain ⟨⟨q0,q1,q2,q3,q4⟩,p0,p1,p2,p3⟩:=id hO4;have hBB:=hB4) | (go_at_call 135;(with_reducible refine (term_bad _ g l (hR3.set_ne _ hne)).mono ?_);rintro e w4 ⟨⟨qb,rfl⟩,hR4,hB4⟩;have hO4:=((hO3p.setI0 38 38 rfl).bx hB4 (hR3.set_ne _ hne).else_).bl (bl_alloc w4 (.cells #[.pointer (some ⟨pb,0,none⟩),.pointer (some ⟨qb,0,none⟩)] 54));obtain ⟨⟨q0,q1,q2,q3,q4⟩,p0,p1,p2,p3⟩:=id hO4;have hBB:=hB4) | (go_at_call 135;(with_reducible refine (term_bad _ g l (hR3.set_ne _ hne)).mono ?_);rintro e w4 ⟨⟨qb,rfl⟩,hR4,hB4⟩;have hO4:=((hO3p.set0 d).bx hB4 (hR3.set_ne _ hne).else_).bl (bl_alloc w4 (.cells #[.pointer (some ⟨pb,0,none⟩),.pointer (some ⟨qb,0,none⟩)] 54));obtain ⟨⟨q0,q1,q2,q3,q4⟩,p0,p1,p2,p3⟩:=id hO4;have hBB:=hB4) | (go_at_call 135;(with_reducible refine (term_bad _ g l (hRs.set2)).mono ?_);rintro e w4 ⟨⟨qb,rfl⟩,hR4,hB4⟩;have hO4:=((hO3.bx (bx_set g 2 _ (.bool true)) hRs.else_).bx hB4 (hRs.set2).else_).bl (bl_alloc w4 (.cells #[.pointer (some ⟨pb,0,none⟩),.pointer (some ⟨qb,0,none⟩)] 54));obtain ⟨⟨q0,q1,q2,q3,q4⟩,p0,p1,p2,p3⟩:=id hO4;have hBB:=hB4) | (go_at_call 181;(with_reducible refine (need_badi _ g l ((hR4.bl (bl_alloc _ _)).set_ne _ hne) hs 41 (by decide) 41 rfl).mono ?_);rintro e w5 ⟨rfl,hR5,hB5⟩;skip))
     all_goals
      go_ret
      refine ⟨b,rfl,?_,?_⟩
      ·first | exact ((((((hB1.trans hB2).trans hB3).setNew hbw).trans hBB).trans (bx_alloc g _ _)).setNew hbw).trans hB5 | exact (((((((hB1.trans hB2).trans hB3).setNew hbw).trans (bx_set g 2 _ _)).trans hBB).trans (bx_alloc g _ _)).setNew hbw).trans hB5
      ·rw [e40.out,hp40.out];exact hR5
   | some (tt, r) =>
     rw [hp1] at t1 hp40
     have t1:Hid (Calls Tryz.prog 135 #[.pointer (some ⟨g,0,none⟩)] w1 fun e w'=>∃ b,e = .returned (.pointer (some ⟨b,0,none⟩))∧Bx g w1 w'∧Lies (fun k=>w1.heap.size≤k) w' tt b∧∃ a',Rdr w' g l a' false∧l.drop a' = r∧a'≤l.length):=t1
     dsimp only [Option.bind_some] at hp40
     have hS:=((prs_iff smallB (fun _ h=>small_wide h) _ _ _).1 hp1).1
     match r with
     | []=>
       have hp40:=hide hp40
       have e40:=hide e40
       clear hp1 hS
       go_wp2_with (first | (go_at_call 179;(with_reducible refine (cL.out _).mono ?_);rintro e w' ⟨rfl,rfl⟩) | (go_at_call 135;(with_reducible refine (t1.out).mono ?_);rintro e w2 ⟨pb,rfl,hB2,hl,a2,hR2,hd2,ha2⟩;have hO2:=hO1.bx hB2 hR1.else_;have hd2:=hide hd2;obtain ⟨⟨q0,q1,q2,q3,q4⟩,p0,p1,p2,p3⟩:=id hO2) | (go_at_call 178;(with_reducible refine (next_no _ g l a2 false hR2 hd2.out).mono ?_);rintro e w3 ⟨rfl,hR3,hB3⟩;have hO3p:=hO2.bx hB3 hR2.else_;obtain ⟨⟨q0,q1,q2,q3,q4⟩,p0,p1,p2,p3⟩:=id hO3p;have hO3:=hO3p.setI0 0 0 rfl;have hRs:=hR3.set_ne (b:=b) (i:=0) (.int .u8 0) hne;obtain ⟨r0,r1,r2,r3,r4,r5⟩:=id hR3) | (go_at_call 135;(with_reducible refine (term_bad _ g l (hRs.bad ha2)).mono ?_);rintro e w4 ⟨⟨qb,rfl⟩,hR4,hB4⟩;have hO4:=((hO3.bx (bx_set g 2 _ (.bool true)) hRs.else_).bx hB4 (hRs.bad ha2).else_).bl (bl_alloc w4 (.cells #[.pointer (some ⟨pb,0,none⟩),.pointer (some ⟨qb,0,none⟩)] 54));obtain ⟨⟨q0,q1,q2,q3,q4⟩,p0,p1,p2,p3⟩:=id hO4;have hBB:=hB4) | (go_at_call 181;(with_reducible refine (need_badi _ g l ((hR4.bl (bl_alloc _ _)).set_ne _ hne) hs 41 (by decide) 41 rfl).mono ?_);rintro e w5 ⟨rfl,hR5,hB5⟩;skip))
       go_ret
       exact ⟨b,rfl,(((((((hB1.trans hB2).trans hB3).setNew hbw).trans (bx_set g 2 _ _)).trans hBB).trans (bx_alloc g _ _)).setNew hbw).trans hB5,by rw [e40.out,hp40.out];exact hR5⟩
     | k :: r =>
       dsimp only at hp40
       have hrn:r.length < n:=by
        have h1:=congrArg List.length K1.out
        have h2:=congrArg List.length hS
        have h3:=HN.out
        rw [List.length_drop] at h1
        simp only [List.length_append,List.length_cons] at h2
        omega
       clear hp1 hS
       by_cases hk:k = 43∨k = 38
       ·rw [if_pos hk] at hp40
        have t2:∀ (a:Nat) (w:World),l.drop a = k :: r→Rdr w g l (a + 1) false→Calls Tryz.prog 135 #[.pointer (some ⟨g,0,none⟩)] w (Out w g l (prs smallB r)):=by
         intro a w e h3
         obtain ⟨f1,-,f3,f4⟩:=drop_facts e
         have:=HIH.out (a + 1) w (by omega) f1 h3
         rw [f3] at this;exact this
        clear hrn
        match hp2:prs smallB r with
        | none=>
          rw [hp2] at hp40 t2
          have t2:Hid (∀ (a:Nat) (w:World),l.drop a = k :: r→Rdr w g l (a + 1) false→Calls Tryz.prog 135 #[.pointer (some ⟨g,0,none⟩)] w fun e w'=>∃ b,e = .returned (.pointer (some ⟨b,0,none⟩))∧Bx g w w'∧Bad w' g l):=t2
          have hp40:=hide hp40
          have e40:=hide e40
          clear hp2
          rcases hk with rfl | rfl
          ·go_wp2_with (first | (go_at_call 179;(with_reducible refine (cL.out _).mono ?_);rintro e w' ⟨rfl,rfl⟩) | (go_at_call 135;(with_reducible refine (t1.out).mono ?_);rintro e w2 ⟨pb,rfl,hB2,hl,a2,hR2,hd2,ha2⟩;have hO2:=hO1.bx hB2 hR1.else_;have hd2:=hide hd2;obtain ⟨⟨q0,q1,q2,q3,q4⟩,p0,p1,p2,p3⟩:=id hO2) | (go_at_call 178;(with_reducible refine (next_yes _ g l a2 false hR2 hs 43 _ hd2.out).mono ?_);rintro e w3 ⟨rfl,hR3,hB3⟩;have hO3p:=hO2.bx hB3 hR2.else_;obtain ⟨⟨q0,q1,q2,q3,q4⟩,p0,p1,p2,p3⟩:=id hO3p;have hO3:=hO3p.setI0 43 43 rfl;have hRs:=hR3.set_ne (b:=b) (i:=0) (.int .u8 43) hne;have ha3:a2 + 1≤l.length:=(drop_facts hd2.out).1;obtain ⟨r0,r1,r2,r3,r4,r5⟩:=id hR3) | (go_at_call 135;(with_reducible refine (t2.out a2 _ hd2.out hRs).mono ?_);rintro e w4 ⟨qb,rfl,hB4,hR4⟩;have hO4:=(hO3.bx hB4 hRs.else_).bl (bl_alloc w4 (.cells #[.pointer (some ⟨pb,0,none⟩),.pointer (some ⟨qb,0,none⟩)] 54));obtain ⟨⟨q0,q1,q2,q3,q4⟩,p0,p1,p2,p3⟩:=id hO4;have hBB:=hB4) | (go_at_call 181;(with_reducible refine (need_badi _ g l ((hR4.bl (bl_alloc _ _)).set_ne _ hne) hs 41 (by decide) 41 rfl).mono ?_);rintro e w5 ⟨rfl,hR5,hB5⟩;skip))
           go_ret
           exact ⟨b,rfl,((((((hB1.trans hB2).trans hB3).setNew hbw).trans hBB).trans (bx_alloc g _ _)).setNew hbw).trans hB5,by rw [e40.out,hp40.out];exact hR5⟩
          ·go_wp2_with (first | (go_at_call 179;(with_reducible refine (cL.out _).mono ?_);rintro e w' ⟨rfl,rfl⟩) | (go_at_call 135;(with_reducible refine (t1.out).mono ?_);rintro e w2 ⟨pb,rfl,hB2,hl,a2,hR2,hd2,ha2⟩;have hO2:=hO1.bx hB2 hR1.else_;have hd2:=hide hd2;obtain ⟨⟨q0,q1,q2,q3,q4⟩,p0,p1,p2,p3⟩:=id hO2) | (go_at_call 178;(with_reducible refine (next_yes _ g l a2 false hR2 hs 38 _ hd2.out).mono ?_);rintro e w3 ⟨rfl,hR3,hB3⟩;have hO3p:=hO2.bx hB3 hR2.else_;obtain ⟨⟨q0,q1,q2,q3,q4⟩,p0,p1,p2,p3⟩:=id hO3p;have hO3:=hO3p.setI0 38 38 rfl;have hRs:=hR3.set_ne (b:=b) (i:=0) (.int .u8 38) hne;have ha3:a2 + 1≤l.length:=(drop_facts hd2.out).1;obtain ⟨r0,r1,r2,r3,r4,r5⟩:=id hR3) | (go_at_call 135;(with_reducible refine (t2.out a2 _ hd2.out hRs).mono ?_);rintro e w4 ⟨qb,rfl,hB4,hR4⟩;have hO4:=(hO3.bx hB4 hRs.else_).bl (bl_alloc w4 (.cells #[.pointer (some ⟨pb,0,none⟩),.pointer (some ⟨qb,0,none⟩)] 54));obtain ⟨⟨q0,q1,q2,q3,q4⟩,p0,p1,p2,p3⟩:=id hO4;have hBB:=hB4) | (go_at_call 181;(with_reducible refine (need_badi _ g l ((hR4.bl (bl_alloc _ _)).set_ne _ hne) hs 41 (by decide) 41 rfl).mono ?_);rintro e w5 ⟨rfl,hR5,hB5⟩;skip))
           go_ret
           exact ⟨b,rfl,((((((hB1.trans hB2).trans hB3).setNew hbw).trans hBB).trans (bx_alloc g _ _)).setNew hbw).trans hB5,by rw [e40.out,hp40.out];exact hR5⟩
        | some (uu,v)=>
          rw [hp2] at hp40 t2
          dsimp only [Option.bind_some] at hp40
          have t2:Hid (∀ (a:Nat) (w:World),l.drop a = k :: r→Rdr w g l (a + 1) false→Calls Tryz.prog 135 #[.pointer (some ⟨g,0,none⟩)] w fun e w'=>∃ b,e = .returned (.pointer (some ⟨b,0,none⟩))∧Bx g w w'∧Lies (fun k=>w.heap.size≤k) w' uu b∧∃ a',Rdr w' g l a' false∧l.drop a' = v∧a'≤l.length):=t2
          clear hp2
          by_cases hv:∃ v',v = 41 :: v'
          ·obtain ⟨v',rfl⟩:=hv
           dsimp only at hp40
           rw [if_pos rfl] at hp40
           have hp40:=hide hp40
           have e40:=hide e40
           rcases hk with rfl | rfl
           ·go_wp2_with (first | (go_at_call 179;(with_reducible refine (cL.out _).mono ?_);rintro e w' ⟨rfl,rfl⟩) | (go_at_call 135;(with_reducible refine (t1.out).mono ?_);rintro e w2 ⟨pb,rfl,hB2,hl,a2,hR2,hd2,ha2⟩;have hO2:=hO1.bx hB2 hR1.else_;have hd2:=hide hd2;obtain ⟨⟨q0,q1,q2,q3,q4⟩,p0,p1,p2,p3⟩:=id hO2) | (go_at_call 178;(with_reducible refine (next_yes _ g l a2 false hR2 hs 43 _ hd2.out).mono ?_);rintro e w3 ⟨rfl,hR3,hB3⟩;have hO3p:=hO2.bx hB3 hR2.else_;obtain ⟨⟨q0,q1,q2,q3,q4⟩,p0,p1,p2,p3⟩:=id hO3p;have hO3:=hO3p.setI0 43 43 rfl;have hRs:=hR3.set_ne (b:=b) (i:=0) (.int .u8 43) hne;have ha3:a2 + 1≤l.length:=(drop_facts hd2.out).1;obtain ⟨r0,r1,r2,r3,r4,r5⟩:=id hR3) | (go_at_call 135;(with_reducible refine (t2.out a2 _ hd2.out hRs).mono ?_);rintro e w4 ⟨qb,rfl,hB4,hl2,a4,hR4,hd4,ha4⟩;have hO4:=(hO3.bx hB4 hRs.else_).bl (bl_alloc w4 (.cells #[.pointer (some ⟨pb,0,none⟩),.pointer (some ⟨qb,0,none⟩)] 54));obtain ⟨⟨q0,q1,q2,q3,q4⟩,p0,p1,p2,p3⟩:=id hO4;have hBB:=hB4;have hd4:=hide hd4) | (go_at_call 181;(with_reducible refine (need_yesi _ g l a4 false ((hR4.bl (bl_alloc _ _)).set_ne _ hne) hs 41 _ hd4.out 41 rfl).mono ?_);rintro e w5 ⟨rfl,hR5,hB5⟩;skip))
            go_ret
            refine ⟨b,rfl,((((((hB1.trans hB2).trans hB3).setNew hbw).trans hBB).trans (bx_alloc g _ _)).setNew hbw).trans hB5,?_⟩
            rw [e40.out,hp40.out]
            have hEl:=((hR4.bl (bl_alloc w4 (.cells #[.pointer (some ⟨pb,0,none⟩),.pointer (some ⟨qb,0,none⟩)] 54))).set_ne (b:=b) (i:=3) (.slice (some ⟨w4.heap.size,0,none⟩) 2 2) hne).else_
            have s2:=hB2.size
            have s3:=hB3.size
            have s4:=hB4.size
            have s4':w3.heap.size≤w4.heap.size:=by simpa [World.setCell] using s4
            have hFin:=(hO4.set3 (.slice (some ⟨w4.heap.size,0,none⟩) 2 2)).bx hB5 hEl
            refine ⟨⟨hbw,w4.heap.size,_,2,pb,qb,by have:=hB1.size;omega,hFin.four,?_,?_,?_,?_⟩,a4 + 1,hR5,(drop_facts hd4.out).2.2.1,(drop_facts hd4.out).1⟩
            ·exact Kid.bx hB5 hEl (Kid.set_ne (by omega) ⟨shape_alloc_new _ _ _,by simp⟩)
            ·exact Kid.bx hB5 hEl (Kid.set_ne (by omega) ⟨shape_alloc_new _ _ _,by simp⟩)
            ·have z1:=(((hl.bx hB3 hR2.else_).set_ne (g:=b) (i:=0) (v:=.int .u8 43) (by omega)).bx hB4 hRs.else_).bl (bl_alloc w4 (.cells #[.pointer (some ⟨pb,0,none⟩),.pointer (some ⟨qb,0,none⟩)] 54))
             exact ((z1.set_ne (g:=b) (i:=3) (by omega)).bx hB5 hEl).mono (fun k hk=>by have:=hB1.size;omega)
            ·have z1:=hl2.bl (bl_alloc w4 (.cells #[.pointer (some ⟨pb,0,none⟩),.pointer (some ⟨qb,0,none⟩)] 54))
             exact ((z1.set_ne (g:=b) (i:=3) (by simp [World.setCell];omega)).bx hB5 hEl).mono (fun k hk=>by have:=hB1.size;simp [World.setCell] at hk;omega)
           ·go_wp2_with (first | (go_at_call 179;(with_reducible refine (cL.out _).mono ?_);rintro e w' ⟨rfl,rfl⟩) | (go_at_call 135;(with_reducible refine (t1.out).mono ?_);rintro e w2 ⟨pb,rfl,hB2,hl,a2,hR2,hd2,ha2⟩;have hO2:=hO1.bx hB2 hR1.else_;have hd2:=hide hd2;obtain ⟨⟨q0,q1,q2,q3,q4⟩,p0,p1,p2,p3⟩:=id hO2) | (go_at_call 178;(with_reducible refine (next_yes _ g l a2 false hR2 hs 38 _ hd2.out).mono ?_);rintro e w3 ⟨rfl,hR3,hB3⟩;have hO3p:=hO2.bx hB3 hR2.else_;obtain ⟨⟨q0,q1,q2,q3,q4⟩,p0,p1,p2,p3⟩:=id hO3p;have hO3:=hO3p.setI0 38 38 rfl;have hRs:=hR3.set_ne (b:=b) (i:=0) (.int .u8 38) hne;have ha3:a2 + 1≤l.length:=(drop_facts hd2.out).1;obtain ⟨r0,r1,r2,r3,r4,r5⟩:=id hR3) | (go_at_call 135;(with_reducible refine (t2.out a2 _ hd2.out hRs).mono ?_);rintro e w4 ⟨qb,rfl,hB4,hl2,a4,hR4,hd4,ha4⟩;have hO4:=(hO3.bx hB4 hRs.else_).bl (bl_alloc w4 (.cells #[.pointer (some ⟨pb,0,none⟩),.pointer (some ⟨qb,0,none⟩)] 54));obtain ⟨⟨q0,q1,q2,q3,q4⟩,p0,p1,p2,p3⟩:=id hO4;have hBB:=hB4;have hd4:=hide hd4) | (go_at_call 181;(with_reducible refine (need_yesi _ g l a4 false ((hR4.bl (bl_alloc _ _)).set_ne _ hne) hs 41 _ hd4.out 41 rfl).mono ?_);rintro e w5 ⟨rfl,hR5,hB5⟩;skip))
            go_ret
            refine ⟨b,rfl,((((((hB1.trans hB2).trans hB3).setNew hbw).trans hBB).trans (bx_alloc g _ _)).setNew hbw).trans hB5,?_⟩
            rw [e40.out,hp40.out]
            have hEl:=((hR4.bl (bl_alloc w4 (.cells #[.pointer (some ⟨pb,0,none⟩),.pointer (some ⟨qb,0,none⟩)] 54))).set_ne (b:=b) (i:=3) (.slice (some ⟨w4.heap.size,0,none⟩) 2 2) hne).else_
            have s2:=hB2.size
            have s3:=hB3.size
            have s4:=hB4.size
            have s4':w3.heap.size≤w4.heap.size:=by simpa [World.setCell] using s4
            have hFin:=(hO4.set3 (.slice (some ⟨w4.heap.size,0,none⟩) 2 2)).bx hB5 hEl
            refine ⟨⟨hbw,w4.heap.size,_,2,pb,qb,by have:=hB1.size;omega,hFin.four,?_,?_,?_,?_⟩,a4 + 1,hR5,(drop_facts hd4.out).2.2.1,(drop_facts hd4.out).1⟩
            ·exact Kid.bx hB5 hEl (Kid.set_ne (by omega) ⟨shape_alloc_new _ _ _,by simp⟩)
            ·exact Kid.bx hB5 hEl (Kid.set_ne (by omega) ⟨shape_alloc_new _ _ _,by simp⟩)
            ·have z1:=(((hl.bx hB3 hR2.else_).set_ne (g:=b) (i:=0) (v:=.int .u8 38) (by omega)).bx hB4 hRs.else_).bl (bl_alloc w4 (.cells #[.pointer (some ⟨pb,0,none⟩),.pointer (some ⟨qb,0,none⟩)] 54))
             exact ((z1.set_ne (g:=b) (i:=3) (by omega)).bx hB5 hEl).mono (fun k hk=>by have:=hB1.size;omega)
            ·have z1:=hl2.bl (bl_alloc w4 (.cells #[.pointer (some ⟨pb,0,none⟩),.pointer (some ⟨qb,0,none⟩)] 54))
             exact ((z1.set_ne (g:=b) (i:=3) (by simp [World.setCell];omega)).bx hB5 hEl).mono (fun k hk=>by have:=hB1.size;simp [World.setCell] at hk;omega)
          ·have hnn:Hid (∀ a s',l.drop a = v→l.drop a≠41 :: s'):=fun a s' e e2=>hv ⟨s',e.symm.trans e2⟩
           have hpn:Hid (prs smallB (l.drop a)= none):=by
            unfold Hid;rw [e40,hp40]
            match v with
            | []=>rfl
            | x :: v'=>exact if_neg (fun e=>hv ⟨v',by rw [e]⟩)
           clear hp40 e40 hv
           rcases hk with rfl | rfl
           ·go_wp2_with (first | (go_at_call 179;(with_reducible refine (cL.out _).mono ?_);rintro e w' ⟨rfl,rfl⟩) | (go_at_call 135;(with_reducible refine (t1.out).mono ?_);rintro e w2 ⟨pb,rfl,hB2,hl,a2,hR2,hd2,ha2⟩;have hO2:=hO1.bx hB2 hR1.else_;have hd2:=hide hd2;obtain ⟨⟨q0,q1,q2,q3,q4⟩,p0,p1,p2,p3⟩:=id hO2) | (go_at_call 178;(with_reducible refine (next_yes _ g l a2 false hR2 hs 43 _ hd2.out).mono ?_);rintro e w3 ⟨rfl,hR3,hB3⟩;have hO3p:=hO2.bx hB3 hR2.else_;obtain ⟨⟨q0,q1,q2,q3,q4⟩,p0,p1,p2,p3⟩:=id hO3p;have hO3:=hO3p.setI0 43 43 rfl;have hRs:=hR3.set_ne (b:=b) (i:=0) (.int .u8 43) hne;have ha3:a2 + 1≤l.length:=(drop_facts hd2.out).1;obtain ⟨r0,r1,r2,r3,r4,r5⟩:=id hR3) | (go_at_call 135;(with_reducible refine (t2.out a2 _ hd2.out hRs).mono ?_);rintro e w4 ⟨qb,rfl,hB4,hl2,a4,hR4,hd4,ha4⟩;have hO4:=(hO3.bx hB4 hRs.else_).bl (bl_alloc w4 (.cells #[.pointer (some ⟨pb,0,none⟩),.pointer (some ⟨qb,0,none⟩)] 54));obtain ⟨⟨q0,q1,q2,q3,q4⟩,p0,p1,p2,p3⟩:=id hO4;have hBB:=hB4;have hd4:=hide hd4) | (go_at_call 181;(with_reducible refine (need_noi _ g l a4 false ((hR4.bl (bl_alloc _ _)).set_ne _ hne) hs 41 (by decide) (fun s'=>hnn.out a4 s' hd4.out) ha4 41 rfl).mono ?_);rintro e w5 ⟨rfl,hR5,hB5⟩;skip))
            go_ret
            exact ⟨b,rfl,((((((hB1.trans hB2).trans hB3).setNew hbw).trans hBB).trans (bx_alloc g _ _)).setNew hbw).trans hB5,by rw [hpn.out];exact hR5⟩
           ·go_wp2_with (first | (go_at_call 179;(with_reducible refine (cL.out _).mono ?_);rintro e w' ⟨rfl,rfl⟩) | (go_at_call 135;(with_reducible refine (t1.out).mono ?_);rintro e w2 ⟨pb,rfl,hB2,hl,a2,hR2,hd2,ha2⟩;have hO2:=hO1.bx hB2 hR1.else_;have hd2:=hide hd2;obtain ⟨⟨q0,q1,q2,q3,q4⟩,p0,p1,p2,p3⟩:=id hO2) | (go_at_call 178;(with_reducible refine (next_yes _ g l a2 false hR2 hs 38 _ hd2.out).mono ?_);rintro e w3 ⟨rfl,hR3,hB3⟩;have hO3p:=hO2.bx hB3 hR2.else_;obtain ⟨⟨q0,q1,q2,q3,q4⟩,p0,p1,p2,p3⟩:=id hO3p;have hO3:=hO3p.setI0 38 38 rfl;have hRs:=hR3.set_ne (b:=b) (i:=0) (.int .u8 38) hne;have ha3:a2 + 1≤l.length:=(drop_facts hd2.out).1;obtain ⟨r0,r1,r2,r3,r4,r5⟩:=id hR3) | (go_at_call 135;(with_reducible refine (t2.out a2 _ hd2.out hRs).mono ?_);rintro e w4 ⟨qb,rfl,hB4,hl2,a4,hR4,hd4,ha4⟩;have hO4:=(hO3.bx hB4 hRs.else_).bl (bl_alloc w4 (.cells #[.pointer (some ⟨pb,0,none⟩),.pointer (some ⟨qb,0,none⟩)] 54));obtain ⟨⟨q0,q1,q2,q3,q4⟩,p0,p1,p2,p3⟩:=id hO4;have hBB:=hB4;have hd4:=hide hd4) | (go_at_call 181;(with_reducible refine (need_noi _ g l a4 false ((hR4.bl (bl_alloc _ _)).set_ne _ hne) hs 41 (by decide) (fun s'=>hnn.out a4 s' hd4.out) ha4 41 rfl).mono ?_);rintro e w5 ⟨rfl,hR5,hB5⟩;skip))
            go_ret
            exact ⟨b,rfl,((((((hB1.trans hB2).trans hB3).setNew hbw).trans hBB).trans (bx_alloc g _ _)).setNew hbw).trans hB5,by rw [hpn.out];exact hR5⟩
       ·rw [if_neg hk] at hp40
        have hp40:=hide hp40
        have e40:=hide e40
        have k1:((k.toNat:Int)== 43)= false:=ne_int (d:=43) (fun e=>hk (.inl e))
        have k2:((k.toNat:Int)== 38)= false:=ne_int (d:=38) (fun e=>hk (.inr e))
        have k1':=bne_of k1
        have k2':=bne_of k2
        clear hk hrn
        go_wp2_with (first | (go_at_call 179;(with_reducible refine (cL.out _).mono ?_);rintro e w' ⟨rfl,rfl⟩) | (go_at_call 135;(with_reducible refine (t1.out).mono ?_);rintro e w2 ⟨pb,rfl,hB2,hl,a2,hR2,hd2,ha2⟩;have hO2:=hO1.bx hB2 hR1.else_;have hd2:=hide hd2;obtain ⟨⟨q0,q1,q2,q3,q4⟩,p0,p1,p2,p3⟩:=id hO2) | (go_at_call 178;(with_reducible refine (next_yes _ g l a2 false hR2 hs k _ hd2.out).mono ?_);rintro e w3 ⟨rfl,hR3,hB3⟩;have hO3p:=hO2.bx hB3 hR2.else_;obtain ⟨⟨q0,q1,q2,q3,q4⟩,p0,p1,p2,p3⟩:=id hO3p;have hO3:=hO3p.set0 k;have hRs:=hR3.set_ne (b:=b) (i:=0) (.int .u8 k.toNat) hne;have ha3:a2 + 1≤l.length:=(drop_facts hd2.out).1;obtain ⟨r0,r1,r2,r3,r4,r5⟩:=id hR3) | (go_at_call 135;(with_reducible refine (term_bad _ g l (hRs.bad ha3)).mono ?_);rintro e w4 ⟨⟨qb,rfl⟩,hR4,hB4⟩;have hO4:=((hO3.bx (bx_set g 2 _ (.bool true)) hRs.else_).bx hB4 (hRs.bad ha3).else_).bl (bl_alloc w4 (.cells #[.pointer (some ⟨pb,0,none⟩),.pointer (some ⟨qb,0,none⟩)] 54));obtain ⟨⟨q0,q1,q2,q3,q4⟩,p0,p1,p2,p3⟩:=id hO4;have hBB:=hB4) | (go_at_call 181;(with_reducible refine (need_badi _ g l ((hR4.bl (bl_alloc _ _)).set_ne _ hne) hs 41 (by decide) 41 rfl).mono ?_);rintro e w5 ⟨rfl,hR5,hB5⟩;skip))
        go_ret
        exact ⟨b,rfl,(((((((hB1.trans hB2).trans hB3).setNew hbw).trans (bx_set g 2 _ _)).trans hBB).trans (bx_alloc g _ _)).setNew hbw).trans hB5,by rw [e40.out,hp40.out];exact hR5⟩
  have cL:=hide fun w=>isLetter_c c w
  rw [cl'] at cL
  have n1:((c.toNat:Int)== 126)= false:=ne_int (d:=126) c1
  have n2:((c.toNat:Int)== 42)= false:=ne_int (d:=42) c2
  have n3:((c.toNat:Int)== 35)= false:=ne_int (d:=35) c3
  have n4:((c.toNat:Int)== 91)= false:=ne_int (d:=91) c4
  have n5:((c.toNat:Int)== 40)= false:=ne_int (d:=40) c5
  have hpn:Hid (prs smallB (l.drop a)= none):=by unfold Hid;rw [hprs.out];exact prs_other c s1 cl' (fun e=>by rw [e] at n0;simp at n0) c2 c1 c3 c4 c5
  obtain ⟨r0,r1,r2,r3,r4,r5⟩:=id hR1
  clear c1 c2 c3 c4 c5
  go_wp2_with ((go_at_call 179;(with_reducible refine (cL.out _).mono ?_);rintro e w' ⟨rfl,rfl⟩))
  go_meet
  case rel=>exact ⟨hB1.trans (bx_set g 2 _ _),.inr ⟨⟨_,_,_,hO1.bx (bx_set g 2 _ (.bool true)) hR1.else_⟩,hR1.bad hal,hpn.out⟩⟩
 case rest=>
  obtain ⟨hB,hC⟩:=hcut
  rcases hC with ⟨k,x,y,a',hO,hR,h1,h2,hp⟩ | ⟨⟨k,x,y,hO⟩,hR,hp⟩
  ·have hp:=hide hp
   have hO':=hO
   obtain ⟨⟨o0,o1,o2,o3,o4⟩,p0,p1,p2,p3⟩:=hO'
   have hbw:w.heap.size≤b:=Nat.le_of_eq hb0.out
   have hbl:=shape_lt o0
   clear o0 o1 o2 o3 o4 p0 p1 p2 p3 hR1 hO1
   go_wp2_with ((go_at_call 135;(with_reducible refine (HIH.out a' _ (by have:=HN.out;omega) h2 hR).mono ?_);rintro e w' ⟨pb,rfl,hB2,hm⟩;have hO3:=(hO.bx hB2 hR.else_).bl (bl_alloc w' (.cells #[.pointer (some ⟨pb,0,none⟩)] 54));obtain ⟨⟨q0,q1,q2,q3,q4⟩,p0,p1,p2,p3⟩:=id hO3))
   go_ret
   refine ⟨b,rfl,bx_set_new ((hB.trans hB2).trans (bx_alloc g _ _)) hbw,?_⟩
   rw [hp.out]
   cases hq:prs smallB (l.drop a') with
   | none=>rw [hq] at hm;exact (hm.bl (bl_alloc _ _)).set_ne _ hne
   | some z=>
     obtain ⟨t,r⟩:=z
     rw [hq] at hm
     obtain ⟨hl,a2,hR2,h3,h4⟩:=hm
     refine ⟨⟨hbw,_,_,_,pb,Nat.le_trans hB.size hB2.size,(hO3.set3 _).four,⟨by rw [shape_set];exact shape_alloc_new _ _ _,?_⟩,?_⟩,a2,(hR2.bl (bl_alloc _ _)).set_ne _ hne,h3,h4⟩
     ·rw [World.cell?_setCell_other _ _ _ _ (by simp)];simp
     ·exact ((hl.bl (bl_alloc _ _)).set_ne (by omega)).mono (fun k hk=>Nat.le_trans hB.size hk)
  ·have hp:=hide hp
   have hbw:w.heap.size≤b:=Nat.le_of_eq hb0.out
   clear hR1 hO1
   go_wp2_with ((go_at_call 135;(with_reducible refine (term_bad _ g l hR).mono ?_);rintro e w' ⟨⟨pb,rfl⟩,hR2,hB2⟩;have hO3:=(hO.bx hB2 hR.else_).bl (bl_alloc w' (.cells #[.pointer (some ⟨pb,0,none⟩)] 54));obtain ⟨⟨q0,q1,q2,q3,q4⟩,p0,p1,p2,p3⟩:=id hO3))
   go_ret
   refine ⟨b,rfl,bx_set_new ((hB.trans hB2).trans (bx_alloc g _ _)) hbw,?_⟩
   rw [hp.out]
   exact (hR2.bl (bl_alloc _ _)).set_ne _ hne
end Go.Proofs.YtbibkgcbdnldbaaGreat
namespace Go.Proofs.YtbibkgcbdnldbaaGreat
open Go.RowKit
attribute [local go_sem] S_size S_toList S_lit S_get S_extract S_append drop_all
theorem term_nil (g:Nat) (l:Str) (a:Nat) (w:World) (R:Rdr w g l a false) (ha:a≤l.length) (hd:l.drop a = []):
  Calls Tryz.prog 135 #[.pointer (some ⟨g,0,none⟩)] w (Out w g l (prs smallB (l.drop a))):=by
 have hlt:=R.lt
 have HR:=R
 obtain ⟨r0,r1,r2,r3,r4,r5⟩:=R
 have hp:Hid (prs smallB (l.drop a)= none):=by unfold Hid;rw [hd];rfl
 have HD:=hide hd
 clear hd
 have cL:Hid (∀ w,Calls Tryz.prog 179 #[.int .u8 0] w fun e w'=>e = .returned (.bool false)∧w = w'):=fun w=>isLetter_c 0 w
 go_enter Tryz.func135,Tryz.ntmps135
 go_upto_block 0 with (go_at_call 178;(with_reducible refine (next_no _ g l a false (HR.bl (bl_alloc _ _)) HD.out).mono ?_);rintro e w1 ⟨rfl,hR1,hb1⟩)
 have hO:Own (w.alloc (.cells #[.int .u8 48,.int .u8 0,.int .u8 0,.slice none 0 0] 119)) w.heap.size 48 0 0 (.slice none 0 0):=Own.new w 48 0 0 _
 have hO1:=hO.bx hb1 (HR.bl (bl_alloc _ _)).else_
 have hB1:=(bx_alloc g w (.cells #[.int .u8 48,.int .u8 0,.int .u8 0,.slice none 0 0] 119)).trans hb1
 have hne:=hR1.ne hO1.four
 clear hO hb1 r0 r1 r2 r3 r4 r5
 obtain ⟨r0,r1,r2,r3,r4,r5⟩:=id hR1
 have hO2:=hO1.bx (bx_set g 2 _ (.bool true)) hR1.else_
 generalize hb0:w.heap.size = b at hO1 hne hO2 ⊢
 have hbw:w.heap.size≤b:=Nat.le_of_eq hb0
 have hb0:=hide hb0
 have hR2:=hR1.bad ha
 go_wp2_with (first | (go_at_call 179;(with_reducible refine (cL.out _).mono ?_);rintro e w' ⟨rfl,rfl⟩) | (go_at_call 135;(with_reducible refine (term_bad _ g l hR2).mono ?_);rintro e w' ⟨⟨pb,rfl⟩,hR3,hB2⟩;have hO3:=(hO2.bx hB2 hR2.else_).bl (bl_alloc w' (.cells #[.pointer (some ⟨pb,0,none⟩)] 54));obtain ⟨⟨q0,q1,q2,q3,q4⟩,p0,p1,p2,p3⟩:=id hO3))
 go_ret
 refine ⟨b,rfl,bx_set_new (((hB1.trans (bx_set g 2 _ _)).trans hB2).trans (bx_alloc g _ _)) hbw,?_⟩
 rw [hp.out]
 exact (hR3.bl (bl_alloc _ _)).set_ne _ hne
theorem term_c (g:Nat) (l:Str) (hs:Short l):∀ (n a:Nat) (w:World),l.length - a < n→a≤l.length→Rdr w g l a false→
  Calls Tryz.prog 135 #[.pointer (some ⟨g,0,none⟩)] w (Out w g l (prs smallB (l.drop a))):=by
 intro n
 induction n with
 | zero=>intro a w h;omega
 | succ n ih=>
   intro a w hn ha R
   match hd:l.drop a with
   | []=>have:=term_nil g l a w R ha hd;rw [hd] at this;exact this
   | c :: s=>have:=term_cons n g l hs ih a w hn R c s hd;rw [hd] at this;exact this
def ParseR (w:World) (l:Str) (e:Ending) (w':World):Prop:=
 Bl w w'∧∃ b,(∃ t,l = txt t∧t.ok smallB = true∧e = .returned (.tuple #[.pointer (some ⟨b,0,none⟩),.bool true])∧Lies (fun k=>w.heap.size≤k) w' t b)∨
  ((∀ t,l = txt t→t.ok smallB = true→False)∧e = .returned (.tuple #[.pointer (some ⟨b,0,none⟩),.bool false]))
theorem Bl.via {w w0 w':World} {g:Nat} (h0:Bl w w0) (h:Bx g w0 w') (hg:w.heap.size≤g):Bl w w':=
 ⟨h.os.trans (Below.os h0),h.tape.trans (Below.tape h0),h.output.trans (Below.output h0),Nat.le_trans (Below.size h0) h.size,
  fun k hk=>(h.block k (Nat.lt_of_lt_of_le hk (Below.size h0)) (by omega)).trans (Below.block h0 k hk)⟩
theorem at_end {l:Str} {a:Nat} (hd:l.drop a = []) (ha:a≤l.length):((a:Int)== (l.length:Int))= true:=by
 have:=congrArg List.length hd
 rw [List.length_drop,List.length_nil] at this
 exact beq_iff_eq.2 (by omega)
theorem parse_c (l:Str) (w:World) (hs:Short l):Calls Tryz.prog 90 #[.string (S l)] w (ParseR w l):=by
 have hR0:Rdr (w.alloc (.cells #[.string (S l),.int .i64 0,.bool false] 141)) w.heap.size l 0 false:=
  ⟨shape_alloc_new _ _ _,by simp,by simp,by simp,by simp,by simp⟩
 have hc:=term_c w.heap.size l hs (l.length + 1) 0 _ (by omega) (by omega) hR0
 rw [List.drop_zero] at hc
 have hB0:=bl_alloc w (.cells #[.string (S l),.int .i64 0,.bool false] 141)
 have hsz:w.heap.size≤(w.alloc (.cells #[.string (S l),.int .i64 0,.bool false] 141)).heap.size:=hB0.size
 match hp:prs smallB l with
 | none=>
   rw [hp] at hc
   replace hc:=hide hc
   have hno:∀ t,l = txt t→t.ok smallB = true→False:=by
    intro t e ht
    have:=prs_txt smallB (fun _ h=>small_wide h) (r:=[]) ht
    rw [List.append_nil,← e,hp] at this;cases this
   replace hno:=hide hno
   clear hp
   go_enter Tryz.func90,Tryz.ntmps90
   go_wp2_with ((go_at_call 135;(with_reducible refine (hc.out).mono ?_);rintro e w' ⟨b,rfl,hB,a',⟨r0,r1,r2,r3,r4,r5⟩,ha⟩))
   go_region
   go_wp2_with fail
   go_ret2
   exact ⟨bl_drew (hB0.via hB (Nat.le_refl _)),b,.inr ⟨hno.out,rfl⟩⟩
 | some (t,r)=>
   rw [hp] at hc
   obtain ⟨hl,hk⟩:=(prs_iff smallB (fun _ h=>small_wide h) _ _ _).1 hp
   clear hp
   have hc:Hid (Calls Tryz.prog 135 #[.pointer (some ⟨w.heap.size,0,none⟩)] (w.alloc (.cells #[.string (S l),.int .i64 0,.bool false] 141)) fun e w'=>∃ b,e = .returned (.pointer (some ⟨b,0,none⟩))∧Bx w.heap.size (w.alloc (.cells #[.string (S l),.int .i64 0,.bool false] 141)) w'∧Lies (fun k=>(w.alloc (.cells #[.string (S l),.int .i64 0,.bool false] 141)).heap.size≤k) w' t b∧∃ a',Rdr w' w.heap.size l a' false∧l.drop a' = r∧a'≤l.length):=hc
   match r with
   | []=>
     rw [List.append_nil] at hl
     replace hl:=hide hl
     go_enter Tryz.func90,Tryz.ntmps90
     go_wp2_with ((go_at_call 135;(with_reducible refine (hc.out).mono ?_);rintro e w' ⟨b,rfl,hB,hL,a',⟨r0,r1,r2,r3,r4,r5⟩,hd,ha⟩;have e1:=at_end hd ha;clear hd ha))
     go_region
     go_wp2_with fail
     go_ret2
     exact ⟨bl_drew (hB0.via hB (Nat.le_refl _)),b,.inl ⟨t,hl.out,hk,rfl,hL.drew.mono (fun k h=>Nat.le_trans hsz h)⟩⟩
   | c :: r=>
     have hno:∀ u,l = txt u→u.ok smallB = true→False:=by
      intro u e hu
      rw [hl] at e
      have:=(txt_inj (r:=c :: r) (v:=[]) (Tm.ok_mono (fun _=>small_wide) hk) (Tm.ok_mono (fun _=>small_wide) hu) (by simpa using e)).2
      cases this
     replace hno:=hide hno
     clear hl
     go_enter Tryz.func90,Tryz.ntmps90
     go_wp2_with ((go_at_call 135;(with_reducible refine (hc.out).mono ?_);rintro e w' ⟨b,rfl,hB,hL,a',⟨r0,r1,r2,r3,r4,r5⟩,hd,ha⟩;have e1:((a':Int)== (l.length:Int))= false:=beq_eq_false_iff_ne.2 (by have:=congrArg List.length hd;rw [List.length_drop] at this;simp at this;omega);clear hd ha))
     go_region
     go_wp2_with fail
     go_ret2
     exact ⟨bl_drew (hB0.via hB (Nat.le_refl _)),b,.inr ⟨hno.out,rfl⟩⟩
theorem size_c (t:Tm):∀ (P:Nat→Prop) (b:Nat) (w:World),Lies P w t b→(txt t).length≤1000000→
  Calls Tryz.prog 110 #[.pointer (some ⟨b,0,none⟩)] w fun e w'=>e = .returned (.int .i64 t.size)∧Bl w w':=by
 induction t with
 | zero=>
   rintro P b w ⟨-,A,c,h⟩ hs
   obtain ⟨-,-,-,-,h3⟩:=h
   go_enter Tryz.func110,Tryz.ntmps110
   go_wp2_with fail
   refine wp_loop_rounds 1 ?_
   rw [rounds_succ]
   go_wp2_with fail
   go_ret
   exact ⟨rfl,Bl.refl _⟩
 | un k x y p ih=>
   rintro P b w ⟨-,g,c,n,pb,-,h,⟨-,hk⟩,hl⟩ hs
   have hl2:(txt p).length≤1000000:=by simp [txt] at hs;omega
   have ih:=hide fun w hl=>ih P pb w hl hl2
   have e1:(p.size:Int)≤1000000:=by have:=size_le_txt p;omega
   have e0:(0:Int)≤p.size:=by omega
   have hsz:Hid ((((Tm.un k x y p).size:Nat):Int)= 1 + (p.size:Int)):=by unfold Hid;simp only [Tm.size];omega
   obtain ⟨-,-,-,-,h3⟩:=h
   clear hs hl2
   go_enter Tryz.func110,Tryz.ntmps110
   go_wp2_with fail
   refine wp_loop_rounds 2 ?_
   rw [rounds_succ]
   go_wp2_with ((go_at_call 110;(with_reducible refine (ih.out _ hl).mono ?_);rintro e w' ⟨rfl,hb2⟩))
   rw [rounds_succ]
   go_wp2_with fail
   go_ret
   exact ⟨ret_int hsz.out.symm,hb2⟩
 | bin k p q ih1 ih2=>
   rintro P b w ⟨-,g,c,n,pb,qb,-,h,⟨-,hk⟩,⟨-,hq⟩,hl,hr⟩ hs
   have hl2:(txt p).length + (txt q).length≤1000000:=by simp [txt] at hs;omega
   have i1:=hide fun w hl=>ih1 P pb w hl (by omega)
   have i2:=hide fun w hl=>ih2 P qb w hl (by omega)
   have e1:(p.size:Int)+ q.size≤1000000:=by have:=size_le_txt p;have:=size_le_txt q;omega
   have e0:(0:Int)≤p.size:=by omega
   have e2:(0:Int)≤q.size:=by omega
   have hsz:Hid ((((Tm.bin k p q).size:Nat):Int)= 1 + (p.size:Int)+ (q.size:Int)):=by unfold Hid;simp only [Tm.size];omega
   obtain ⟨-,-,-,-,h3⟩:=h
   clear hs hl2 ih1 ih2
   go_enter Tryz.func110,Tryz.ntmps110
   go_wp2_with fail
   refine wp_loop_rounds 3 ?_
   rw [rounds_succ]
   go_wp2_with ((go_at_call 110;(with_reducible refine (i1.out _ hl).mono ?_);rintro e w' ⟨rfl,hb2⟩))
   rw [rounds_succ]
   have hq2:=cell_kept hb2 hq
   have hr2:=hr.bl hb2
   go_wp2_with ((go_at_call 110;(with_reducible refine (i2.out _ hr2).mono ?_);rintro e w' ⟨rfl,hb3⟩))
   rw [rounds_succ]
   go_wp2_with fail
   go_ret
   exact ⟨ret_int hsz.out.symm,hb2.trans hb3⟩
def ReadR (w:World) (l:Str) (e:Ending) (w':World):Prop:=
 Bl w w'∧match proc? l with
  | some t=>∃ b,e = .returned (.tuple #[.pointer (some ⟨b,0,none⟩),.bool true])∧Lies (fun k=>w.heap.size≤k) w' t b
  | none=>∃ p,e = .returned (.tuple #[.pointer p,.bool false])
theorem read_c (l:Str) (w:World) (hs:Short l):Calls Tryz.prog 63 #[.string (S l)] w (ReadR w l):=by
 by_cases h3:l.length≤300
 ·have h3' : (l.length : Int) ≤ 300 := by omega
  have hc:=hide (parse_c l w hs)
  by_cases ht:∃ t,l = txt t∧t.ok smallB = true
  ·obtain ⟨t,hl,hk⟩:=ht
   have hc:Hid (Calls Tryz.prog 90 #[.string (S l)] w fun e w'=>∃ b,e = .returned (.tuple #[.pointer (some ⟨b,0,none⟩),.bool true])∧Bl w w'∧Lies (fun k=>w.heap.size≤k) w' t b):=by
    refine hc.out.mono ?_
    rintro e w' ⟨hb,b,⟨u,h1,h2,h3,h4⟩ | ⟨h1,h2⟩⟩
    ·have:=txt_inj' (Tm.ok_mono (fun _=>small_wide) hk) (Tm.ok_mono (fun _=>small_wide) h2) (hl.symm.trans h1)
     subst this
     exact ⟨b,h3,hb,h4⟩
    ·exact (h1 t hl hk).elim
   have c2:=hide fun b (w:World) P (hl':Lies P w t b)=>size_c t P b w hl' (by rw [← hl];omega)
   have hr:Hid (proc? l = if t.size≤60 then some t else none):=by
    unfold Hid
    split
    ·rename_i h6;exact proc?_some.2 ⟨hl,hk,h3,h6⟩
    ·rename_i h6
     cases hp:proc? l with
     | none=>rfl
     | some u=>
       obtain ⟨h1,h2,-,h4⟩:=proc?_some.1 hp
       have:=txt_inj' (Tm.ok_mono (fun _=>small_wide) hk) (Tm.ok_mono (fun _=>small_wide) h2) (hl.symm.trans h1)
       subst this;exact (h6 h4).elim
   clear hl hk h3
   by_cases h6:t.size≤60
   ·have hr:Hid (proc? l = some t):=by have:=hr.out;rw [if_pos h6] at this;exact this
    have h6':((t.size:Nat):Int)≤60:=by omega
    have h6'':decide (((t.size:Nat):Int)≤60)= true:=decide_eq_true h6'
    clear h6
    go_enter Tryz.func63,Tryz.ntmps63
    go_wp2_with (first | (go_at_call 90;(with_reducible refine (hc.out).mono ?_);rintro e w' ⟨b,rfl,hb,hL⟩) | (go_at_call 110;(with_reducible refine (c2.out b _ _ hL).mono ?_);rintro e w' ⟨rfl,hb2⟩))
    go_ret2
    refine ⟨hb.trans hb2,?_⟩
    rw [hr.out]
    exact ⟨b,rfl,hL.bl hb2⟩
   ·have hr:Hid (proc? l = none):=by have:=hr.out;rw [if_neg h6] at this;exact this
    have h6'':decide (((t.size:Nat):Int)≤60)= false:=decide_eq_false (by omega)
    have h6':(60:Int) < ((t.size:Nat):Int):=by omega
    clear h6
    go_enter Tryz.func63,Tryz.ntmps63
    go_wp2_with (first | (go_at_call 90;(with_reducible refine (hc.out).mono ?_);rintro e w' ⟨b,rfl,hb,hL⟩) | (go_at_call 110;(with_reducible refine (c2.out b _ _ hL).mono ?_);rintro e w' ⟨rfl,hb2⟩))
    go_ret2
    refine ⟨hb.trans hb2,?_⟩
    rw [hr.out]
    exact ⟨_,rfl⟩
  ·have hc:Hid (Calls Tryz.prog 90 #[.string (S l)] w fun e w'=>∃ b,e = .returned (.tuple #[.pointer (some ⟨b,0,none⟩),.bool false])∧Bl w w'):=by
    refine hc.out.mono ?_
    rintro e w' ⟨hb,b,⟨u,h1,h2,h3,h4⟩ | ⟨h1,h2⟩⟩
    ·exact (ht ⟨u,h1,h2⟩).elim
    ·exact ⟨b,h2,hb⟩
   have hr:Hid (proc? l = none):=by
    unfold Hid
    cases hp:proc? l with
    | none=>rfl
    | some u=>obtain ⟨h1,h2,-⟩:=proc?_some.1 hp;exact (ht ⟨u,h1,h2⟩).elim
   clear ht h3
   go_enter Tryz.func63,Tryz.ntmps63
   go_wp2_with ((go_at_call 90;(with_reducible refine (hc.out).mono ?_);rintro e w' ⟨b,rfl,hb⟩))
   go_ret2
   refine ⟨hb,?_⟩
   rw [hr.out]
   exact ⟨_,rfl⟩
 ·have h3':¬ (l.length:Int)≤300:=by omega
  have hr:Hid (proc? l = none):=by
   unfold Hid
   cases hp:proc? l with
   | none=>rfl
   | some u=>obtain ⟨-,-,h2,-⟩:=proc?_some.1 hp;exact (h3 h2).elim
  clear h3
  go_enter Tryz.func63,Tryz.ntmps63
  go_wp2_with fail
  go_ret2
  refine ⟨Bl.refl _,?_⟩
  rw [hr.out]
  exact ⟨_,rfl⟩
theorem isProcess_c (l:Str) (w:World) (hs:Short l):Calls Tryz.prog 149 #[.string (S l)] w fun e w'=>e = .returned (.bool (goodB l))∧Bl w w':=by
 have hc:Hid (Calls Tryz.prog 63 #[.string (S l)] w fun e w'=>(∃ p,e = .returned (.tuple #[.pointer p,.bool (goodB l)]))∧Bl w w'):=by
  refine (read_c l w hs).mono ?_
  rintro e w' ⟨hb,hm⟩
  unfold goodB
  cases hp:proc? l with
  | none=>rw [hp] at hm;exact ⟨hm,hb⟩
  | some t=>rw [hp] at hm;obtain ⟨b,h,-⟩:=hm;exact ⟨⟨_,h⟩,hb⟩
 go_enter Tryz.func149,Tryz.ntmps149
 go_wp2_with ((go_at_call 63;(with_reducible refine (hc.out).mono ?_);rintro e w' ⟨⟨p,rfl⟩,hb⟩))
 go_ret
 exact ⟨rfl,hb⟩
end Go.Proofs.YtbibkgcbdnldbaaGreat
namespace Go.Proofs.YtbibkgcbdnldbaaGreat
def bitOf (c:UInt8):Nat:=if smallB c then 2 ^ (c.toNat - 97) else 0
def msk (s:Str):Nat:=s.foldr (fun c m=>bitOf c ||| m) 0
theorem bitOf_test (c:UInt8) (i:Nat):(bitOf c).testBit i = decide (smallB c = true∧c.toNat - 97 = i):=by
 unfold bitOf
 split
 ·rename_i h;rw [Nat.testBit_two_pow];simp [h]
 ·rename_i h;simp [h]
theorem msk_test (s:Str) (i:Nat):(msk s).testBit i = decide (∃ c∈s,smallB c = true∧c.toNat - 97 = i):=by
 induction s with
 | nil=>simp [msk]
 | cons c s ih=>
   have:msk (c :: s)= bitOf c ||| msk s:=rfl
   rw [this,Nat.testBit_or,ih,bitOf_test,Bool.eq_iff_iff]
   simp
theorem msk_let (s:Str) {c:UInt8} (hc:smallB c = true):(msk s).testBit (c.toNat - 97)= decide (c∈s):=by
 rw [msk_test,Bool.eq_iff_iff];simp only [decide_eq_true_eq]
 constructor
 ·rintro ⟨d,hd,h1,h2⟩
  have:d = c:=by
   apply UInt8.toNat_inj.1
   unfold smallB at h1 hc;simp at h1 hc;omega
  rw [← this];exact hd
 ·intro h;exact ⟨c,h,hc,rfl⟩
theorem bitOf_lt (c:UInt8):bitOf c < 2 ^ 26:=by
 unfold bitOf
 split
 ·rename_i h;unfold smallB at h;simp at h;exact Nat.pow_lt_pow_right (by omega) (by omega)
 ·decide
theorem msk_lt:∀ s:Str,msk s < 2 ^ 26
 | []=>by decide
 | c :: s=>Nat.or_lt_two_pow (bitOf_lt c) (msk_lt s)
theorem msk_one (c:UInt8):msk [c] = bitOf c:=by simp [msk]
theorem msk_or (s t:Str):msk s ||| msk t = msk (s ++ t):=by
 apply Nat.eq_of_testBit_eq
 intro i
 rw [Nat.testBit_or,msk_test,msk_test,msk_test,Bool.eq_iff_iff]
 simp only [Bool.or_eq_true,decide_eq_true_eq,List.mem_append]
 grind
theorem msk_and (s:Str) {c:UInt8} (hc:smallB c = true):(msk s &&& bitOf c = 0)↔c∉s:=by
 have hb:bitOf c = 2 ^ (c.toNat - 97):=by unfold bitOf;rw [if_pos hc]
 have ht:=msk_let s hc
 rw [hb]
 constructor
 ·intro h hm
  have:=congrArg (fun n=>n.testBit (c.toNat - 97)) h
  simp only [Nat.testBit_and,Nat.testBit_two_pow,ht,Nat.zero_testBit] at this
  simp [hm] at this
 ·intro hm
  apply Nat.eq_of_testBit_eq
  intro i
  rw [Nat.testBit_and,Nat.testBit_two_pow,Nat.zero_testBit]
  by_cases e:c.toNat - 97 = i
  ·subst e;rw [ht];simp [hm]
  ·simp [e]
def lettersF:Nat→Nat→Str→Str
 | 0,_,_=>[]
 | n + 1,i,s=>if let_ i∈s then let_ i :: lettersF n (i + 1) s else lettersF n (i + 1) s
def lettersS (s:Str):Str:=lettersF 26 0 s
theorem mem_lettersF {x:UInt8} {s:Str}:∀ {n i:Nat},x∈lettersF n i s↔∃ j,i≤j∧j < i + n∧x = let_ j∧x∈s
 | 0,i=>by
   simp only [lettersF,List.not_mem_nil,false_iff]
   rintro ⟨j,h1,h2,-⟩;omega
 | n + 1, i => by
   unfold lettersF
   split
   ·rename_i h
    rw [List.mem_cons,mem_lettersF (n:=n)]
    constructor
    ·rintro (h' | ⟨j,h1,h2,h3⟩)
     ·exact ⟨i,by omega,by omega,h',by rw [h'];exact h⟩
     ·exact ⟨j,by omega,by omega,h3⟩
    ·rintro ⟨j,h1,h2,h3,h4⟩
     by_cases e:j = i
     ·left;rw [h3,e]
     ·right;exact ⟨j,by omega,by omega,h3,h4⟩
   ·rename_i h
    rw [mem_lettersF (n:=n)]
    constructor
    ·rintro ⟨j,h1,h2,h3⟩;exact ⟨j,by omega,by omega,h3⟩
    ·rintro ⟨j,h1,h2,h3,h4⟩
     by_cases e:j = i
     ·subst e;exact (h (h3 ▸ h4)).elim
     ·exact ⟨j,by omega,by omega,h3,h4⟩
theorem lettersF_srt {s:Str}:∀ {n i:Nat},i + n≤26→Srt (lettersF n i s)
 | 0,_,_=>Srt.nil
 | n + 1,i,h=>by
   unfold lettersF
   split
   ·refine List.pairwise_cons.2 ⟨fun y hy=>?_,lettersF_srt (by omega)⟩
    obtain ⟨j,h1,h2,rfl,-⟩:=mem_lettersF.1 hy
    rw [let_toNat (by omega),let_toNat (by omega)];omega
   ·exact lettersF_srt (by omega)
theorem mem_lettersS {x:UInt8} {s:Str}:x∈lettersS s↔smallB x = true∧x∈s:=by
 unfold lettersS;rw [mem_lettersF]
 constructor
 ·rintro ⟨j,-,h2,rfl,h4⟩;exact ⟨let_small (by omega),h4⟩
 ·rintro ⟨h1,h2⟩
  obtain ⟨i,hi,rfl⟩:=small_let h1
  exact ⟨i,by omega,by omega,rfl,h2⟩
theorem lettersS_eq {s:Str} (hs:Srt s) (ha:∀ x∈s,smallB x = true):lettersS s = s:=
 Srt.ext (lettersF_srt (by omega)) hs (fun x=>by rw [mem_lettersS];exact ⟨fun h=>h.2,fun h=>⟨ha x h,h⟩⟩)
theorem lettersF_congr {s t:Str} (h:∀ c,smallB c = true→(c∈s↔c∈t)):∀ n i,i + n≤26→lettersF n i s = lettersF n i t
 | 0,_,_=>rfl
 | n + 1,i,hi=>by
   unfold lettersF
   rw [lettersF_congr h n (i + 1) (by omega)]
   simp only [h (let_ i) (let_small (by omega))]
theorem lettersS_congr {s t:Str} (h:∀ c,smallB c = true→(c∈s↔c∈t)):lettersS s = lettersS t:=lettersF_congr h 26 0 (by omega)
end Go.Proofs.YtbibkgcbdnldbaaGreat
namespace Go.Proofs.YtbibkgcbdnldbaaGreat
open Go.RowKit
attribute [local go_sem] S_size S_toList S_lit S_get S_extract S_append drop_all
theorem bit_c (c:UInt8) (w:World) (hc:smallB c = true):Calls Tryz.prog 173 #[.int .u8 c.toNat] w fun e w'=>e = .returned (.int .u32 (bitOf c))∧w = w':=by
 have h:97≤c.toNat∧c.toNat≤122:=by unfold smallB at hc;simpa using hc
 obtain ⟨h1,h2⟩:=h
 have h1':(97:Int)≤c.toNat:=by omega
 have h2':(c.toNat:Int)≤122:=by omega
 have hb:Hid (bitOf c = 2 ^ (c.toNat - 97)):=by unfold Hid bitOf;rw [if_pos hc]
 clear hc
 go_enter Tryz.func173,Tryz.ntmps173
 go_wp2_with fail
 go_ret
 refine ⟨ret_int ?_,rfl⟩
 rw [hb.out]
 have:(2:Int) ^ (c.toNat - 97)= ((2 ^ (c.toNat - 97):Nat):Int):=by norm_cast
 rw [this]
 have h3:2 ^ (c.toNat - 97) < 2 ^ 26:=Nat.pow_lt_pow_right (by omega) (by omega)
 generalize 2 ^ (c.toNat - 97)= q at h3 ⊢
 omega
theorem bit_i (c:UInt8) (i:Int) (hi:(c.toNat:Int)= i) (w:World) (hc:smallB c = true):Calls Tryz.prog 173 #[.int .u8 i] w fun e w'=>e = .returned (.int .u32 (bitOf c))∧w = w':=by
 subst hi;exact bit_c c w hc
theorem binds_c (b:Nat) (k x y:UInt8) (s:Value) (w:World) (h:Four w b k x y s):Calls Tryz.prog 136 #[.pointer (some ⟨b,0,none⟩)] w fun e w'=>e = .returned (.bool (bindsB k))∧w = w':=by
 obtain ⟨-,h0,-,-,-⟩:=h
 by_cases h1:k = 63
 ·subst h1
  go_enter Tryz.func136,Tryz.ntmps136
  go_wp2_with fail
  go_ret
  exact ⟨rfl,rfl⟩
 ·have h1':=ne_int (d:=63) h1
  by_cases h2:k = 35
  ·subst h2
   go_enter Tryz.func136,Tryz.ntmps136
   go_wp2_with fail
   go_ret
   exact ⟨rfl,rfl⟩
  ·have h2':=ne_int (d:=35) h2
   have hr:Hid (false = bindsB k):=by unfold Hid bindsB;simp [h1,h2]
   clear h1 h2
   have h1':((k.toNat:Int)== 63)= false:=h1'
   have h2':((k.toNat:Int)== 35)= false:=h2'
   go_enter Tryz.func136,Tryz.ntmps136
   go_wp2_with fail
   go_ret
   exact ⟨ret_bool hr.out,rfl⟩
end Go.Proofs.YtbibkgcbdnldbaaGreat
namespace Go.Proofs.YtbibkgcbdnldbaaGreat
open Go.RowKit
attribute [local go_sem] mkfn
def RawR (X:List Value) (T:TypeId) (m:Nat) (E:UInt8→Nat) (n:Nat) (t:Tm) (w:World) (e:Ending) (w':World):Prop:=
 ∃ lb,e = .returned (encP lb)∧Lies2 (fun k=>w.heap.size≤k) w' (rawN (num t E n)).1 (rawN (num t E n)).2 lb∧Mkr X T w' m (n + t.cnt)∧Bx m w w'
theorem raw_zero {X:List Value} {T:TypeId} (hT:MkT T) (m b:Nat) (E:UInt8→Nat) (n:Nat) (P:Nat→Prop) (w:World) (h:Lies P w .zero b) (M:Mkr X T w m n):
  Calls Tryz.prog 91 #[encP m,encP b,.agg (envC E)] w (RawR X T m E n .zero w):=by
 obtain ⟨-,A,c,hF⟩:=h
 have HF:=hide hF
 have HM:=hide M
 clear M hF
 go_enter Tryz.func91,Tryz.ntmps91
 go_wp2_with (first | (refine box_op rfl 89 (.tmp 2) rfl (envC E) _ rfl rfl ?_;intro B W1 hB b1 s1;obtain ⟨k0,k1,k2,k3,k4⟩:=HF.out.bl b1) | (refine box_op rfl 145 (.tmp 13) rfl _ _ rfl rfl ?_;intro O W2 hO b2 s2;obtain ⟨k0,k1,k2,k3,k4⟩:=(HF.out.bl b1).bl b2) | (go_at_call 136;(with_reducible refine (binds_c b 48 0 0 (.slice A 0 c) _ ((HF.out.bl b1).bl b2)).mono ?_);rintro e w' ⟨rfl,rfl⟩) | (refine box_op rfl 94 (.tmp 55) rfl _ _ rfl rfl ?_;intro L W3 hL b3 s3;obtain ⟨k0,k1,k2,k3,k4⟩:=((HF.out.bl b1).bl b2).bl b3))
 go_ret
 refine ⟨L,rfl,⟨?_,_,_,[],hL,⟨RL.nil _ _,fun k hk=>by cases hk⟩,⟨RL.nil _ _,fun k hk=>by cases hk⟩,rfl⟩,blk_bl b3 (blk_bl b2 (blk_bl b1 HM.out)),.of_bl (b1.trans (b2.trans b3))⟩
 have h1:=s1.out;have h2:=s2.out;have h3:=s3.out
 show w.heap.size≤L
 omega
theorem un_lies {P:Nat→Prop} {Z:World} {L O g c lb:Nat} {k:UInt8} {a b:Nat} {o:List Nat} {r:Ts} (hL:Lvl Z L (.slice none 0 0) (.slice (some ⟨g,0,none⟩) 1 c)) (hg:RL 95 encP Z 0 (.slice (some ⟨g,0,none⟩) 1 c) [O])
  (hO:Thr Z O k a b (encP lb) (.slice none 0 0)) (hr:Lies2 P Z o r lb) (pL:P L) (pg:P g) (pO:P O):Lies2 P Z [] (.un k a b o r .nil) L:=by
 obtain ⟨h1,vo,vt,qs,h2,h3,h4,h5⟩:=hr
 exact ⟨pL,_,_,[O],hL,⟨RL.nil _ _,fun k hk=>by cases hk⟩,⟨hg,fun k hk=>by cases hk;exact pg⟩,O,[],lb,vo,vt,qs,rfl,pO,hO,h1,h2,h3,h4,h5,rfl⟩
abbrev RawIH (X:List Value) (T:TypeId) (m:Nat) (p:Tm):Prop:=∀ (E:UInt8→Nat) (n:Nat) (P:Nat→Prop) (pb:Nat) (w:World),Lies P w p pb→Mkr X T w m n→n + 10 * p.size≤100000→Calls Tryz.prog 91 #[encP m,encP pb,.agg (envC E)] w (RawR X T m E n p w)
theorem Bx.far {m O:Nat} {w a b:World} (h:Bx m w a) (k:Bx O a b) (hO:w.heap.size≤O):Bx m w b:=
 ⟨k.os.trans h.os,k.tape.trans h.tape,k.output.trans h.output,Nat.le_trans h.size k.size,fun i hi hm=>(k.block i (Nat.lt_of_lt_of_le hi h.size) (by omega)).trans (h.block i hi hm)⟩
theorem ne0 {c:UInt8} (h:smallB c = true):(c = 0)= False:=by
 apply eq_false;rintro rfl;revert h;decide
theorem raw_sz:∀ s:Nt,(rawN s).1.length + (rawN s).2.sz≤3 * s.sz
 | .zero=>by simp [rawN,Ts.sz,Nt.sz]
 | .un k a b p=>by
   have:=raw_sz p
   simp only [rawN,Nt.sz]
   split <;> simp [Ts.sz] <;> omega
 | .bin k p q=>by
   have h1:=raw_sz p
   have h2:=raw_sz q
   have h3:∀ t u:Ts,(t.app u).sz = t.sz + u.sz:=by
    intro t u
    induction t with
    | nil=>simp [Ts.app,Ts.sz]
    | un k a b o r n _ ih=>simp [Ts.app,Ts.sz,ih];omega
    | sum p n _ ih=>simp [Ts.app,Ts.sz,ih];omega
    | part o l n _ ih=>simp [Ts.app,Ts.sz,ih];omega
   simp only [rawN,Nt.sz]
   split <;> simp [Ts.sz,h3] <;> omega
theorem num_sz:∀ (t:Tm) (E:UInt8→Nat) (n:Nat),(num t E n).sz = t.size
 | .zero,_,_=>rfl
 | .un k a b p,E,n=>by
   simp only [num]
   split <;> simp [Nt.sz,Tm.size,num_sz p] <;> omega
 | .bin k p q,E,n=>by simp [num,Nt.sz,Tm.size,num_sz p,num_sz q];omega
theorem raw_l1 {n:Nat} {k a b:UInt8} {p:Tm} {E:UInt8→Nat} {n' x:Nat} (_:Unit) (h:n + 10 * (Tm.un k a b p).size≤100000):[x].length + (rawN (num p E n')).1.length≤100000:=by
 have h1:=raw_sz (num p E n')
 rw [num_sz] at h1
 simp only [Tm.size] at h
 simp only [List.length_cons,List.length_nil];omega
theorem raw_l2 {n:Nat} {k a b:UInt8} {p:Tm} {E:UInt8→Nat} {n':Nat} (_:Unit) (h:n + 10 * (Tm.un k a b p).size≤100000):Ts.nil.len + (rawN (num p E n')).2.len≤100000:=by
 have h1:=raw_sz (num p E n')
 have h2:=len_sz (rawN (num p E n')).2
 rw [num_sz] at h1
 simp only [Tm.size] at h
 simp only [Ts.len];omega
theorem Bx.toFx {g:Nat} {w w':World} (h:Bx g w w'):Fx (· = g) w w':=.of_bx h
theorem raw_33 {X : List Value} {T : TypeId} (hT : MkT T) (m b : Nat) (x y : UInt8) (p : Tm) (E : UInt8 → Nat) (n : Nat) (P : Nat → Prop) (w : World) (h : Lies P w (.un 33 x y p) b) (M : Mkr X T w m n) (hx : smallB x = true) (hy : smallB y = true) (hn : n + 10 * (Tm.un 33 x y p).size ≤ 100000) (ih : Hid (RawIH X T m p)) :
  Calls Tryz.prog 91 #[encP m,encP b,.agg (envC E)] w (RawR X T m E n (.un 33 x y p) w):=by
 obtain ⟨-,g,c,nk,pb,-,hF,hK,hL⟩:=h
 have HF:=hide hF
 have HM:=hide M
 have HK:=hide hK
 have HL:=hide hL
 have HN:=hide hn
 have HMW:Hid (m < w.heap.size):=lt_of_block M
 have x1:(97:Int)≤x.toNat:=by unfold smallB at hx;simp at hx;omega
 have x2:(x.toNat:Int)≤122:=by unfold smallB at hx;simp at hx;omega
 have x3:((x.toNat:Int) - 97).toNat = x.toNat - 97:=by omega
 have x4:((x.toNat:Int)== 0)= false:=beq_eq_false_iff_ne.2 (by omega)
 have x5:((x.toNat:Int) != 0)= true:=by rw [bne,x4];rfl
 have HX:=hide hx
 have y1:(97:Int)≤y.toNat:=by unfold smallB at hy;simp at hy;omega
 have y2:(y.toNat:Int)≤122:=by unfold smallB at hy;simp at hy;omega
 have y3:((y.toNat:Int) - 97).toNat = y.toNat - 97:=by omega
 have y4:((y.toNat:Int)== 0)= false:=beq_eq_false_iff_ne.2 (by omega)
 have y5:((y.toNat:Int) != 0)= true:=by rw [bne,y4];rfl
 have HY:=hide hy
 clear M hF hK hL hn hx hy
 go_enter Tryz.func91,Tryz.ntmps91
 go_wp2_with (first | (refine box_op rfl 89 (.tmp 2) rfl (envC E) _ rfl rfl ?_;intro B W1 hB b1 s1;obtain ⟨k0,k1,k2,k3,k4⟩:=HF.out.bl b1;have bw:=b1) | (refine box_op rfl 145 (.tmp 13) rfl #[.int .u8 (UInt8.toNat 33),.int .i64 (0:Nat),.int .i64 (0:Nat),.pointer none,.slice none 0 0] _ rfl (by rfl) ?_;intro O W2 hO b2 s2;obtain ⟨k0,k1,k2,k3,k4⟩:=(HF.out.bl b1).bl b2;replace hB:=blk_bl b2 hB;have hOw:w.heap.size≤O:=(by have h1:=s1.out;have h2:=s2.out;omega);replace bw:=bw.trans b2;have ex:=blk_cell hB (envC_get E HX.out);have ey:=blk_cell hB (envC_get E HY.out)) | (refine store_op rfl 3 (.tmp 29) (.tmp 27) rfl O 1 145 _ _ rfl rfl sz_int rfl rfl hO (show 1 < 5 by decide) ?_;intro W3 hO3 b3 s3;have n1:b≠O:=(by rintro rfl;have:=blk_shape hO;rw [k0] at this;cases this);have n2:B≠O:=(by rintro rfl;have:=blk_shape hO;rw [blk_shape hB] at this;cases this);replace k1:=b3.cell n1 k1;replace k2:=b3.cell n1 k2;replace k3:=b3.cell n1 k3;replace k4:=b3.cell n1 k4;replace k0:=b3.shape n1 k0;replace hB:=Fx.heap (.of_bx b3) n2 hB;replace bw:=Bl.via bw b3 hOw;replace hO3:W3.heap[O]? = some (.cells #[.int .u8 (UInt8.toNat 33),.int .i64 (E x),.int .i64 (0:Nat),.pointer none,.slice none 0 0] 145 (0,0)):=hO3;replace ex:=blk_cell hB (envC_get E HX.out);replace ey:=blk_cell hB (envC_get E HY.out)) | (go_at_call 136;(with_reducible refine (binds_c b 33 x y _ W3 ⟨k0,k1,k2,k3,k4⟩).mono ?_);rintro e w' ⟨rfl,rfl⟩) | (refine store_op rfl 3 (.tmp 54) (.tmp 52) rfl O 2 145 _ _ rfl rfl sz_int rfl rfl hO3 (show 2 < 5 by decide) ?_;intro W4 hO4 b4 s4;have n1:b≠O:=(by rintro rfl;have:=blk_shape hO3;rw [k0] at this;cases this);have n2:B≠O:=(by rintro rfl;have:=blk_shape hO3;rw [blk_shape hB] at this;cases this);replace k1:=b4.cell n1 k1;replace k2:=b4.cell n1 k2;replace k3:=b4.cell n1 k3;replace k4:=b4.cell n1 k4;replace k0:=b4.shape n1 k0;replace hB:=Fx.heap (.of_bx b4) n2 hB;replace bw:=Bl.via bw b4 hOw;replace hO4:W4.heap[O]? = some (.cells #[.int .u8 (UInt8.toNat 33),.int .i64 (E x),.int .i64 (E y),.pointer none,.slice none 0 0] 145 (0,0)):=hO4;replace ex:=blk_cell hB (envC_get E HX.out);replace ey:=blk_cell hB (envC_get E HY.out)) | (refine box_op rfl 94 (.tmp 55) rfl #[.slice none 0 0,.slice none 0 0] _ rfl (by rfl) ?_;intro L W5 hL b5 s5;replace k1:=cell_kept b5 k1;replace k2:=cell_kept b5 k2;replace k3:=cell_kept b5 k3;replace k4:=cell_kept b5 k4;replace k0:=b5.shape k0;replace hB:=blk_bl b5 hB;have hO5:=blk_bl b5 hO4;have bwp:=bw;replace bw:=bw.trans b5))
 have NN:Hid (b≠m∧g≠m∧B≠m∧O≠m∧L≠m∧L≠O∧L < W5.heap.size∧O < W5.heap.size∧w.heap.size≤B∧w.heap.size≤O∧w.heap.size≤L):=by
  have hm:=HMW.out
  have hmz:=blk_shape HM.out
  have h1:=s1.out;have h2:=s2.out;have h5:=s5.out
  have z5:=lt_of_block hL
  have zO:=lt_of_block hO5
  refine ⟨?_,?_,by omega,by omega,?_,?_,z5,zO,by omega,hOw,?_⟩
  ·rintro rfl;have:=HF.out.sh;rw [hmz] at this;exact hT.no this (by decide)
  ·rintro rfl;have:=HK.out.sh;rw [hmz] at this;exact hT.no this (by decide)
  ·have:=Below.size bwp;omega
  ·rintro rfl;have:=blk_shape hL;rw [blk_shape hO5] at this;cases this
  ·have:=Below.size bwp;omega
 have hq:=(HK.out.bl bw).c
 refine AnyT.start 13 (fun w'=>w'.cell? ⟨b,3,none⟩= some (.slice (some ⟨g,0,none⟩) 1 c)∧w'.cell? ⟨g,0,none⟩= some (encP pb)∧w'.heap[B]? = some (.cells (envC E) 89 (0,0))∧w'.heap[O]? = some (.cells #[.int .u8 (UInt8.toNat 33),.int .i64 (E x),.int .i64 (E y),.pointer none,.slice none 0 0] 145 (0,0))∧Lvl w' L (.slice none 0 0) (.slice none 0 0)) (fun j=>[12].contains j) (by kernel_rfl) (by rfl) ?_
 have hHeld:(fun w':World=>w'.cell? ⟨b,3,none⟩= some (.slice (some ⟨g,0,none⟩) 1 c)∧w'.cell? ⟨g,0,none⟩= some (encP pb)∧w'.heap[B]? = some (.cells (envC E) 89 (0,0))∧w'.heap[O]? = some (.cells #[.int .u8 (UInt8.toNat 33),.int .i64 (E x),.int .i64 (E y),.pointer none,.slice none 0 0] 145 (0,0))∧Lvl w' L (.slice none 0 0) (.slice none 0 0)) W5.drew:=⟨k4,hq,hB,hO5,hL⟩
 refine AnyT.tk 0 ?_
 refine AnyT.tk 1 ?_
 refine AnyT.tk 2 ?_
 refine AnyT.tk 3 ?_
 refine AnyT.tk 4 ?_
 refine AnyT.ld 5 ?_
 refine AnyT.tk 6 ?_
 refine AnyT.ld 7 ?_
 try simp only [Act.put,sqa,sqb,sqc]
 refine AnyT.load (i:=8) rfl (by kernel_rfl) (by kernel_rfl) (by kernel_rfl) (by kernel_rfl) (fun _ _ _ h=>h) (yieldsIf_blk (by rfl) 89 (.tmp 5) rfl B 89 (envC E) _ (by rfl) (fun w h=>h.2.2.1) Tryz.underlying89 rfl (by rw [sz60,envC_size])) (by assumption) ?_
 try simp only [Act.put,sqa,sqb,sqc]
 refine AnyT.one (i:=9) rfl (by kernel_rfl) (fun K hK=>?_)
 go_simp
 go_at_call 91
 (with_reducible refine (ih.out E n P pb _ (HL.out.bl (bl_drew bw)) (blk_bl (bl_drew bw) HM.out) (by have:=HN.out;simp [Tm.size] at this;omega)).mono ?_)
 rintro e W6 ⟨lb,rfl,hl6,hM6,b6⟩
 replace hl6:=hide hl6;replace hM6:=hide hM6
 go_wp2_with fail
 refine hK.out _ _ ?_ ?_
 ·exact ⟨b6.cell NN.out.1 hHeld.1,b6.cell NN.out.2.1 hHeld.2.1,Fx.heap (.of_bx b6) NN.out.2.2.1 hHeld.2.2.1,Fx.heap (.of_bx b6) NN.out.2.2.2.1 hHeld.2.2.2.1,Fx.heap (.of_bx b6) NN.out.2.2.2.2.1 hHeld.2.2.2.2⟩
 intro hHeld
 clear hK K
 try simp only [Act.put,sqa,sqb,sqc]
 refine AnyT.tk 10 ?_
 refine AnyT.tk 11 ?_
 try simp only [Act.put,sqa,sqb,sqc]
 refine AnyT.tail (i:=12) rfl (by kernel_rfl) (by rfl) (fun K hK=>?_)
 (refine wanted_wp rfl (wp_store1 75 (.tmp 72) (.tmp 70) rfl O 3 145 _ (encP lb) rfl rfl sz_lev rfl rfl hHeld.2.2.2.1 (show 3 < 5 by decide) ?_);intro W7 hO7 b7 s7)
 refine hK.out _ _ ?_
 clear hK K
 try simp only [Act.put,sqa,sqb,sqc]
 refine AnyT.done (by kernel_rfl) ?_
 have hL7:=Fx.heap (.of_bx b7) NN.out.2.2.2.2.2.1 hHeld.2.2.2.2
 go_wp2_with ((refine store_op rfl 92 (.tmp 151) (.tmp 149) rfl L 1 94 _ _ rfl rfl sz_sthr rfl rfl (blk_bl (bl_alloc _ _) hL7) (show 1 < 2 by decide) ?_;intro W8 hL8 b8 s8))
 go_ret
 have hg:=RL.lit (T:=95) (enc:=encP) W7 O (base:=0) (Nat.zero_le _)
 have z7:W5.heap.size≤W7.heap.size:=Nat.le_trans b6.size b7.size
 obtain ⟨-,-,-,nOm,nLm,nLO,z5,zO,-,wO,wL⟩:=NN.out
 have hg8 := hg.fx (.of_bx b8) (fun k hk e => by have hk2 : W7.heap.size = k := by simpa [Value.ownBlock] using hk
                                                 omega)
 have hO8:=Fx.heap (.of_bx b8) (Ne.symm nLO) (blk_bl (bl_alloc W7 _) hO7)
 have hr:=((hl6.out.fx (.of_bx b7) (fun k hk e=>by have:W5.heap.size≤k:=hk;omega)).bl (bl_alloc W7 (.cells #[encP O] 95))).fx (.of_bx b8) (fun k hk e=>by have:W5.heap.size≤k:=hk;omega)
 have hw5:=Below.size bw
 refine ⟨L,rfl,?_,?_,?_⟩
 ·rw [show num (.un 33 x y p) E n = .un 33 (E x) (E y) (num p E n) from by simp [num,bindsB,nmE,ne0 HX.out,ne0 HY.out]]
  exact un_lies hL8 hg8 hO8 (hr.mono (fun k hk _=>by have:W5.heap.size≤k:=hk;show w.heap.size≤k;omega)) wL (show w.heap.size≤W7.heap.size by omega) wO
 ·rw [show (Tm.un 33 x y p).cnt = p.cnt by simp [Tm.cnt,bindsB]]
  exact Fx.heap (.of_bx b8) (Ne.symm nLm) (blk_bl (bl_alloc W7 _) (Fx.heap (.of_bx b7) (Ne.symm nOm) hM6.out))
 ·exact ((((Bx.of_bl (bl_drew bw)).trans b6).far b7 wO).trans (.of_bl (bl_alloc W7 _))).far b8 wL
theorem raw_61 {X : List Value} {T : TypeId} (hT : MkT T) (m b : Nat) (x y : UInt8) (p : Tm) (E : UInt8 → Nat) (n : Nat) (P : Nat → Prop) (w : World) (h : Lies P w (.un 61 x y p) b) (M : Mkr X T w m n) (hx : smallB x = true) (hy : smallB y = true) (hn : n + 10 * (Tm.un 61 x y p).size ≤ 100000) (ih : Hid (RawIH X T m p)) :
  Calls Tryz.prog 91 #[encP m,encP b,.agg (envC E)] w (RawR X T m E n (.un 61 x y p) w):=by
 obtain ⟨-,g,c,nk,pb,-,hF,hK,hL⟩:=h
 have HF:=hide hF
 have HM:=hide M
 have HK:=hide hK
 have HL:=hide hL
 have HN:=hide hn
 have HMW:Hid (m < w.heap.size):=lt_of_block M
 have x1:(97:Int)≤x.toNat:=by unfold smallB at hx;simp at hx;omega
 have x2:(x.toNat:Int)≤122:=by unfold smallB at hx;simp at hx;omega
 have x3:((x.toNat:Int) - 97).toNat = x.toNat - 97:=by omega
 have x4:((x.toNat:Int)== 0)= false:=beq_eq_false_iff_ne.2 (by omega)
 have x5:((x.toNat:Int) != 0)= true:=by rw [bne,x4];rfl
 have HX:=hide hx
 have y1:(97:Int)≤y.toNat:=by unfold smallB at hy;simp at hy;omega
 have y2:(y.toNat:Int)≤122:=by unfold smallB at hy;simp at hy;omega
 have y3:((y.toNat:Int) - 97).toNat = y.toNat - 97:=by omega
 have y4:((y.toNat:Int)== 0)= false:=beq_eq_false_iff_ne.2 (by omega)
 have y5:((y.toNat:Int) != 0)= true:=by rw [bne,y4];rfl
 have HY:=hide hy
 clear M hF hK hL hn hx hy
 go_enter Tryz.func91,Tryz.ntmps91
 go_wp2_with (first | (refine box_op rfl 89 (.tmp 2) rfl (envC E) _ rfl rfl ?_;intro B W1 hB b1 s1;obtain ⟨k0,k1,k2,k3,k4⟩:=HF.out.bl b1;have bw:=b1) | (refine box_op rfl 145 (.tmp 13) rfl #[.int .u8 (UInt8.toNat 61),.int .i64 (0:Nat),.int .i64 (0:Nat),.pointer none,.slice none 0 0] _ rfl (by rfl) ?_;intro O W2 hO b2 s2;obtain ⟨k0,k1,k2,k3,k4⟩:=(HF.out.bl b1).bl b2;replace hB:=blk_bl b2 hB;have hOw:w.heap.size≤O:=(by have h1:=s1.out;have h2:=s2.out;omega);replace bw:=bw.trans b2;have ex:=blk_cell hB (envC_get E HX.out);have ey:=blk_cell hB (envC_get E HY.out)) | (refine store_op rfl 3 (.tmp 29) (.tmp 27) rfl O 1 145 _ _ rfl rfl sz_int rfl rfl hO (show 1 < 5 by decide) ?_;intro W3 hO3 b3 s3;have n1:b≠O:=(by rintro rfl;have:=blk_shape hO;rw [k0] at this;cases this);have n2:B≠O:=(by rintro rfl;have:=blk_shape hO;rw [blk_shape hB] at this;cases this);replace k1:=b3.cell n1 k1;replace k2:=b3.cell n1 k2;replace k3:=b3.cell n1 k3;replace k4:=b3.cell n1 k4;replace k0:=b3.shape n1 k0;replace hB:=Fx.heap (.of_bx b3) n2 hB;replace bw:=Bl.via bw b3 hOw;replace hO3:W3.heap[O]? = some (.cells #[.int .u8 (UInt8.toNat 61),.int .i64 (E x),.int .i64 (0:Nat),.pointer none,.slice none 0 0] 145 (0,0)):=hO3;replace ex:=blk_cell hB (envC_get E HX.out);replace ey:=blk_cell hB (envC_get E HY.out)) | (go_at_call 136;(with_reducible refine (binds_c b 61 x y _ W3 ⟨k0,k1,k2,k3,k4⟩).mono ?_);rintro e w' ⟨rfl,rfl⟩) | (refine store_op rfl 3 (.tmp 54) (.tmp 52) rfl O 2 145 _ _ rfl rfl sz_int rfl rfl hO3 (show 2 < 5 by decide) ?_;intro W4 hO4 b4 s4;have n1:b≠O:=(by rintro rfl;have:=blk_shape hO3;rw [k0] at this;cases this);have n2:B≠O:=(by rintro rfl;have:=blk_shape hO3;rw [blk_shape hB] at this;cases this);replace k1:=b4.cell n1 k1;replace k2:=b4.cell n1 k2;replace k3:=b4.cell n1 k3;replace k4:=b4.cell n1 k4;replace k0:=b4.shape n1 k0;replace hB:=Fx.heap (.of_bx b4) n2 hB;replace bw:=Bl.via bw b4 hOw;replace hO4:W4.heap[O]? = some (.cells #[.int .u8 (UInt8.toNat 61),.int .i64 (E x),.int .i64 (E y),.pointer none,.slice none 0 0] 145 (0,0)):=hO4;replace ex:=blk_cell hB (envC_get E HX.out);replace ey:=blk_cell hB (envC_get E HY.out)) | (refine box_op rfl 94 (.tmp 55) rfl #[.slice none 0 0,.slice none 0 0] _ rfl (by rfl) ?_;intro L W5 hL b5 s5;replace k1:=cell_kept b5 k1;replace k2:=cell_kept b5 k2;replace k3:=cell_kept b5 k3;replace k4:=cell_kept b5 k4;replace k0:=b5.shape k0;replace hB:=blk_bl b5 hB;have hO5:=blk_bl b5 hO4;have bwp:=bw;replace bw:=bw.trans b5))
 have NN:Hid (b≠m∧g≠m∧B≠m∧O≠m∧L≠m∧L≠O∧L < W5.heap.size∧O < W5.heap.size∧w.heap.size≤B∧w.heap.size≤O∧w.heap.size≤L):=by
  have hm:=HMW.out
  have hmz:=blk_shape HM.out
  have h1:=s1.out;have h2:=s2.out;have h5:=s5.out
  have z5:=lt_of_block hL
  have zO:=lt_of_block hO5
  refine ⟨?_,?_,by omega,by omega,?_,?_,z5,zO,by omega,hOw,?_⟩
  ·rintro rfl;have:=HF.out.sh;rw [hmz] at this;exact hT.no this (by decide)
  ·rintro rfl;have:=HK.out.sh;rw [hmz] at this;exact hT.no this (by decide)
  ·have:=Below.size bwp;omega
  ·rintro rfl;have:=blk_shape hL;rw [blk_shape hO5] at this;cases this
  ·have:=Below.size bwp;omega
 have hq:=(HK.out.bl bw).c
 refine AnyT.start 13 (fun w'=>w'.cell? ⟨b,3,none⟩= some (.slice (some ⟨g,0,none⟩) 1 c)∧w'.cell? ⟨g,0,none⟩= some (encP pb)∧w'.heap[B]? = some (.cells (envC E) 89 (0,0))∧w'.heap[O]? = some (.cells #[.int .u8 (UInt8.toNat 61),.int .i64 (E x),.int .i64 (E y),.pointer none,.slice none 0 0] 145 (0,0))∧Lvl w' L (.slice none 0 0) (.slice none 0 0)) (fun j=>[12].contains j) (by kernel_rfl) (by rfl) ?_
 have hHeld:(fun w':World=>w'.cell? ⟨b,3,none⟩= some (.slice (some ⟨g,0,none⟩) 1 c)∧w'.cell? ⟨g,0,none⟩= some (encP pb)∧w'.heap[B]? = some (.cells (envC E) 89 (0,0))∧w'.heap[O]? = some (.cells #[.int .u8 (UInt8.toNat 61),.int .i64 (E x),.int .i64 (E y),.pointer none,.slice none 0 0] 145 (0,0))∧Lvl w' L (.slice none 0 0) (.slice none 0 0)) W5.drew:=⟨k4,hq,hB,hO5,hL⟩
 refine AnyT.tk 0 ?_
 refine AnyT.tk 1 ?_
 refine AnyT.tk 2 ?_
 refine AnyT.tk 3 ?_
 refine AnyT.tk 4 ?_
 refine AnyT.ld 5 ?_
 refine AnyT.tk 6 ?_
 refine AnyT.ld 7 ?_
 try simp only [Act.put,sqa,sqb,sqc]
 refine AnyT.load (i:=8) rfl (by kernel_rfl) (by kernel_rfl) (by kernel_rfl) (by kernel_rfl) (fun _ _ _ h=>h) (yieldsIf_blk (by rfl) 89 (.tmp 5) rfl B 89 (envC E) _ (by rfl) (fun w h=>h.2.2.1) Tryz.underlying89 rfl (by rw [sz60,envC_size])) (by assumption) ?_
 try simp only [Act.put,sqa,sqb,sqc]
 refine AnyT.one (i:=9) rfl (by kernel_rfl) (fun K hK=>?_)
 go_simp
 go_at_call 91
 (with_reducible refine (ih.out E n P pb _ (HL.out.bl (bl_drew bw)) (blk_bl (bl_drew bw) HM.out) (by have:=HN.out;simp [Tm.size] at this;omega)).mono ?_)
 rintro e W6 ⟨lb,rfl,hl6,hM6,b6⟩
 replace hl6:=hide hl6;replace hM6:=hide hM6
 go_wp2_with fail
 refine hK.out _ _ ?_ ?_
 ·exact ⟨b6.cell NN.out.1 hHeld.1,b6.cell NN.out.2.1 hHeld.2.1,Fx.heap (.of_bx b6) NN.out.2.2.1 hHeld.2.2.1,Fx.heap (.of_bx b6) NN.out.2.2.2.1 hHeld.2.2.2.1,Fx.heap (.of_bx b6) NN.out.2.2.2.2.1 hHeld.2.2.2.2⟩
 intro hHeld
 clear hK K
 try simp only [Act.put,sqa,sqb,sqc]
 refine AnyT.tk 10 ?_
 refine AnyT.tk 11 ?_
 try simp only [Act.put,sqa,sqb,sqc]
 refine AnyT.tail (i:=12) rfl (by kernel_rfl) (by rfl) (fun K hK=>?_)
 (refine wanted_wp rfl (wp_store1 75 (.tmp 72) (.tmp 70) rfl O 3 145 _ (encP lb) rfl rfl sz_lev rfl rfl hHeld.2.2.2.1 (show 3 < 5 by decide) ?_);intro W7 hO7 b7 s7)
 refine hK.out _ _ ?_
 clear hK K
 try simp only [Act.put,sqa,sqb,sqc]
 refine AnyT.done (by kernel_rfl) ?_
 have hL7:=Fx.heap (.of_bx b7) NN.out.2.2.2.2.2.1 hHeld.2.2.2.2
 go_wp2_with ((refine store_op rfl 92 (.tmp 151) (.tmp 149) rfl L 1 94 _ _ rfl rfl sz_sthr rfl rfl (blk_bl (bl_alloc _ _) hL7) (show 1 < 2 by decide) ?_;intro W8 hL8 b8 s8))
 go_ret
 have hg:=RL.lit (T:=95) (enc:=encP) W7 O (base:=0) (Nat.zero_le _)
 have z7:W5.heap.size≤W7.heap.size:=Nat.le_trans b6.size b7.size
 obtain ⟨-,-,-,nOm,nLm,nLO,z5,zO,-,wO,wL⟩:=NN.out
 have hg8 := hg.fx (.of_bx b8) (fun k hk e => by have hk2 : W7.heap.size = k := by simpa [Value.ownBlock] using hk
                                                 omega)
 have hO8:=Fx.heap (.of_bx b8) (Ne.symm nLO) (blk_bl (bl_alloc W7 _) hO7)
 have hr:=((hl6.out.fx (.of_bx b7) (fun k hk e=>by have:W5.heap.size≤k:=hk;omega)).bl (bl_alloc W7 (.cells #[encP O] 95))).fx (.of_bx b8) (fun k hk e=>by have:W5.heap.size≤k:=hk;omega)
 have hw5:=Below.size bw
 refine ⟨L,rfl,?_,?_,?_⟩
 ·rw [show num (.un 61 x y p) E n = .un 61 (E x) (E y) (num p E n) from by simp [num,bindsB,nmE,ne0 HX.out,ne0 HY.out]]
  exact un_lies hL8 hg8 hO8 (hr.mono (fun k hk _=>by have:W5.heap.size≤k:=hk;show w.heap.size≤k;omega)) wL (show w.heap.size≤W7.heap.size by omega) wO
 ·rw [show (Tm.un 61 x y p).cnt = p.cnt by simp [Tm.cnt,bindsB]]
  exact Fx.heap (.of_bx b8) (Ne.symm nLm) (blk_bl (bl_alloc W7 _) (Fx.heap (.of_bx b7) (Ne.symm nOm) hM6.out))
 ·exact ((((Bx.of_bl (bl_drew bw)).trans b6).far b7 wO).trans (.of_bl (bl_alloc W7 _))).far b8 wL
theorem raw_42 {X : List Value} {T : TypeId} (hT : MkT T) (m b : Nat) (p : Tm) (E : UInt8 → Nat) (n : Nat) (P : Nat → Prop) (w : World) (h : Lies P w (.un 42 0 0 p) b) (M : Mkr X T w m n)  (hn : n + 10 * (Tm.un 42 0 0 p).size ≤ 100000) (ih : Hid (RawIH X T m p)) :
  Calls Tryz.prog 91 #[encP m,encP b,.agg (envC E)] w (RawR X T m E n (.un 42 0 0 p) w):=by
 obtain ⟨-,g,c,nk,pb,-,hF,hK,hL⟩:=h
 have HF:=hide hF
 have HM:=hide M
 have HK:=hide hK
 have HL:=hide hL
 have HN:=hide hn
 have HMW:Hid (m < w.heap.size):=lt_of_block M
 clear M hF hK hL hn
 go_enter Tryz.func91,Tryz.ntmps91
 go_wp2_with (first | (refine box_op rfl 89 (.tmp 2) rfl (envC E) _ rfl rfl ?_;intro B W1 hB b1 s1;obtain ⟨k0,k1,k2,k3,k4⟩:=HF.out.bl b1;have bw:=b1) | (refine box_op rfl 145 (.tmp 13) rfl #[.int .u8 (UInt8.toNat 42),.int .i64 (0:Nat),.int .i64 (0:Nat),.pointer none,.slice none 0 0] _ rfl (by rfl) ?_;intro O W2 hO b2 s2;obtain ⟨k0,k1,k2,k3,k4⟩:=(HF.out.bl b1).bl b2;replace hB:=blk_bl b2 hB;have hOw:w.heap.size≤O:=(by have h1:=s1.out;have h2:=s2.out;omega);replace bw:=bw.trans b2) | (go_at_call 136;(with_reducible refine (binds_c b 42 0 0 _ W2 ⟨k0,k1,k2,k3,k4⟩).mono ?_);rintro e w' ⟨rfl,rfl⟩) | (refine box_op rfl 94 (.tmp 55) rfl #[.slice none 0 0,.slice none 0 0] _ rfl (by rfl) ?_;intro L W5 hL b5 s5;replace k1:=cell_kept b5 k1;replace k2:=cell_kept b5 k2;replace k3:=cell_kept b5 k3;replace k4:=cell_kept b5 k4;replace k0:=b5.shape k0;replace hB:=blk_bl b5 hB;have hO5:=blk_bl b5 hO;have bwp:=bw;replace bw:=bw.trans b5))
 have NN:Hid (b≠m∧g≠m∧B≠m∧O≠m∧L≠m∧L≠O∧L < W5.heap.size∧O < W5.heap.size∧w.heap.size≤B∧w.heap.size≤O∧w.heap.size≤L):=by
  have hm:=HMW.out
  have hmz:=blk_shape HM.out
  have h1:=s1.out;have h2:=s2.out;have h5:=s5.out
  have z5:=lt_of_block hL
  have zO:=lt_of_block hO5
  refine ⟨?_,?_,by omega,by omega,?_,?_,z5,zO,by omega,hOw,?_⟩
  ·rintro rfl;have:=HF.out.sh;rw [hmz] at this;exact hT.no this (by decide)
  ·rintro rfl;have:=HK.out.sh;rw [hmz] at this;exact hT.no this (by decide)
  ·have:=Below.size bwp;omega
  ·rintro rfl;have:=blk_shape hL;rw [blk_shape hO5] at this;cases this
  ·have:=Below.size bwp;omega
 have hq:=(HK.out.bl bw).c
 refine AnyT.start 13 (fun w'=>w'.cell? ⟨b,3,none⟩= some (.slice (some ⟨g,0,none⟩) 1 c)∧w'.cell? ⟨g,0,none⟩= some (encP pb)∧w'.heap[B]? = some (.cells (envC E) 89 (0,0))∧w'.heap[O]? = some (.cells #[.int .u8 (UInt8.toNat 42),.int .i64 (0:Nat),.int .i64 (0:Nat),.pointer none,.slice none 0 0] 145 (0,0))∧Lvl w' L (.slice none 0 0) (.slice none 0 0)) (fun j=>[12].contains j) (by kernel_rfl) (by rfl) ?_
 have hHeld:(fun w':World=>w'.cell? ⟨b,3,none⟩= some (.slice (some ⟨g,0,none⟩) 1 c)∧w'.cell? ⟨g,0,none⟩= some (encP pb)∧w'.heap[B]? = some (.cells (envC E) 89 (0,0))∧w'.heap[O]? = some (.cells #[.int .u8 (UInt8.toNat 42),.int .i64 (0:Nat),.int .i64 (0:Nat),.pointer none,.slice none 0 0] 145 (0,0))∧Lvl w' L (.slice none 0 0) (.slice none 0 0)) W5.drew:=⟨k4,hq,hB,hO5,hL⟩
 refine AnyT.tk 0 ?_
 refine AnyT.tk 1 ?_
 refine AnyT.tk 2 ?_
 refine AnyT.tk 3 ?_
 refine AnyT.tk 4 ?_
 refine AnyT.ld 5 ?_
 refine AnyT.tk 6 ?_
 refine AnyT.ld 7 ?_
 try simp only [Act.put,sqa,sqb,sqc]
 refine AnyT.load (i:=8) rfl (by kernel_rfl) (by kernel_rfl) (by kernel_rfl) (by kernel_rfl) (fun _ _ _ h=>h) (yieldsIf_blk (by rfl) 89 (.tmp 5) rfl B 89 (envC E) _ (by rfl) (fun w h=>h.2.2.1) Tryz.underlying89 rfl (by rw [sz60,envC_size])) (by assumption) ?_
 try simp only [Act.put,sqa,sqb,sqc]
 refine AnyT.one (i:=9) rfl (by kernel_rfl) (fun K hK=>?_)
 go_simp
 go_at_call 91
 (with_reducible refine (ih.out E n P pb _ (HL.out.bl (bl_drew bw)) (blk_bl (bl_drew bw) HM.out) (by have:=HN.out;simp [Tm.size] at this;omega)).mono ?_)
 rintro e W6 ⟨lb,rfl,hl6,hM6,b6⟩
 replace hl6:=hide hl6;replace hM6:=hide hM6
 go_wp2_with fail
 refine hK.out _ _ ?_ ?_
 ·exact ⟨b6.cell NN.out.1 hHeld.1,b6.cell NN.out.2.1 hHeld.2.1,Fx.heap (.of_bx b6) NN.out.2.2.1 hHeld.2.2.1,Fx.heap (.of_bx b6) NN.out.2.2.2.1 hHeld.2.2.2.1,Fx.heap (.of_bx b6) NN.out.2.2.2.2.1 hHeld.2.2.2.2⟩
 intro hHeld
 clear hK K
 try simp only [Act.put,sqa,sqb,sqc]
 refine AnyT.tk 10 ?_
 refine AnyT.tk 11 ?_
 try simp only [Act.put,sqa,sqb,sqc]
 refine AnyT.tail (i:=12) rfl (by kernel_rfl) (by rfl) (fun K hK=>?_)
 (refine wanted_wp rfl (wp_store1 75 (.tmp 72) (.tmp 70) rfl O 3 145 _ (encP lb) rfl rfl sz_lev rfl rfl hHeld.2.2.2.1 (show 3 < 5 by decide) ?_);intro W7 hO7 b7 s7)
 refine hK.out _ _ ?_
 clear hK K
 try simp only [Act.put,sqa,sqb,sqc]
 refine AnyT.done (by kernel_rfl) ?_
 have hL7:=Fx.heap (.of_bx b7) NN.out.2.2.2.2.2.1 hHeld.2.2.2.2
 go_wp2_with ((refine store_op rfl 92 (.tmp 151) (.tmp 149) rfl L 1 94 _ _ rfl rfl sz_sthr rfl rfl (blk_bl (bl_alloc _ _) hL7) (show 1 < 2 by decide) ?_;intro W8 hL8 b8 s8))
 go_ret
 have hg:=RL.lit (T:=95) (enc:=encP) W7 O (base:=0) (Nat.zero_le _)
 have z7:W5.heap.size≤W7.heap.size:=Nat.le_trans b6.size b7.size
 obtain ⟨-,-,-,nOm,nLm,nLO,z5,zO,-,wO,wL⟩:=NN.out
 have hg8 := hg.fx (.of_bx b8) (fun k hk e => by have hk2 : W7.heap.size = k := by simpa [Value.ownBlock] using hk
                                                 omega)
 have hO8:=Fx.heap (.of_bx b8) (Ne.symm nLO) (blk_bl (bl_alloc W7 _) hO7)
 have hr:=((hl6.out.fx (.of_bx b7) (fun k hk e=>by have:W5.heap.size≤k:=hk;omega)).bl (bl_alloc W7 (.cells #[encP O] 95))).fx (.of_bx b8) (fun k hk e=>by have:W5.heap.size≤k:=hk;omega)
 have hw5:=Below.size bw
 refine ⟨L,rfl,?_,?_,?_⟩
 ·rw [show num (.un 42 0 0 p) E n = .un 42 0 0 (num p E n) from by simp [num,bindsB,nmE]]
  exact un_lies hL8 hg8 hO8 (hr.mono (fun k hk _=>by have:W5.heap.size≤k:=hk;show w.heap.size≤k;omega)) wL (show w.heap.size≤W7.heap.size by omega) wO
 ·rw [show (Tm.un 42 0 0 p).cnt = p.cnt by simp [Tm.cnt,bindsB]]
  exact Fx.heap (.of_bx b8) (Ne.symm nLm) (blk_bl (bl_alloc W7 _) (Fx.heap (.of_bx b7) (Ne.symm nOm) hM6.out))
 ·exact ((((Bx.of_bl (bl_drew bw)).trans b6).far b7 wO).trans (.of_bl (bl_alloc W7 _))).far b8 wL
theorem raw_126 {X:List Value} {T:TypeId} (hT:MkT T) (m b:Nat) (p:Tm) (E:UInt8→Nat) (n:Nat) (P:Nat→Prop) (w:World) (h:Lies P w (.un 126 0 0 p) b) (M:Mkr X T w m n) (hn:n + 10 * (Tm.un 126 0 0 p).size≤100000) (ih:Hid (RawIH X T m p)):
  Calls Tryz.prog 91 #[encP m,encP b,.agg (envC E)] w (RawR X T m E n (.un 126 0 0 p) w):=by
 obtain ⟨-,g,c,nk,pb,-,hF,hK,hL⟩:=h
 have HF:=hide hF
 have HM:=hide M
 have HK:=hide hK
 have HL:=hide hL
 have HN:=hide hn
 have HMW:Hid (m < w.heap.size):=lt_of_block M
 clear M hF hK hL hn
 go_enter Tryz.func91,Tryz.ntmps91
 go_wp2_with (first | (refine box_op rfl 89 (.tmp 2) rfl (envC E) _ rfl rfl ?_;intro B W1 hB b1 s1;obtain ⟨k0,k1,k2,k3,k4⟩:=HF.out.bl b1;have bw:=b1) | (refine box_op rfl 145 (.tmp 13) rfl #[.int .u8 (UInt8.toNat 126),.int .i64 (0:Nat),.int .i64 (0:Nat),.pointer none,.slice none 0 0] _ rfl (by rfl) ?_;intro O W2 hO b2 s2;obtain ⟨k0,k1,k2,k3,k4⟩:=(HF.out.bl b1).bl b2;replace hB:=blk_bl b2 hB;have hOw:w.heap.size≤O:=(by have h1:=s1.out;have h2:=s2.out;omega);replace bw:=bw.trans b2) | (go_at_call 136;(with_reducible refine (binds_c b 126 0 0 _ W2 ⟨k0,k1,k2,k3,k4⟩).mono ?_);rintro e w' ⟨rfl,rfl⟩) | (refine box_op rfl 94 (.tmp 55) rfl #[.slice none 0 0,.slice none 0 0] _ rfl (by rfl) ?_;intro L W5 hL b5 s5;replace k1:=cell_kept b5 k1;replace k2:=cell_kept b5 k2;replace k3:=cell_kept b5 k3;replace k4:=cell_kept b5 k4;replace k0:=b5.shape k0;replace hB:=blk_bl b5 hB;have hO5:=blk_bl b5 hO;have bwp:=bw;replace bw:=bw.trans b5))
 have NN:Hid (b≠m∧g≠m∧B≠m∧O≠m∧L≠m∧L≠O∧L < W5.heap.size∧O < W5.heap.size∧w.heap.size≤B∧w.heap.size≤O∧w.heap.size≤L):=by
  have hm:=HMW.out
  have hmz:=blk_shape HM.out
  have h1:=s1.out;have h2:=s2.out;have h5:=s5.out
  have z5:=lt_of_block hL
  have zO:=lt_of_block hO5
  refine ⟨?_,?_,by omega,by omega,?_,?_,z5,zO,by omega,hOw,?_⟩
  ·rintro rfl;have:=HF.out.sh;rw [hmz] at this;exact hT.no this (by decide)
  ·rintro rfl;have:=HK.out.sh;rw [hmz] at this;exact hT.no this (by decide)
  ·have:=Below.size bwp;omega
  ·rintro rfl;have:=blk_shape hL;rw [blk_shape hO5] at this;cases this
  ·have:=Below.size bwp;omega
 have hq:=(HK.out.bl bw).c
 refine AnyT.start 13 (fun w'=>w'.cell? ⟨b,3,none⟩= some (.slice (some ⟨g,0,none⟩) 1 c)∧w'.cell? ⟨g,0,none⟩= some (encP pb)∧w'.heap[B]? = some (.cells (envC E) 89 (0,0))∧w'.heap[O]? = some (.cells #[.int .u8 (UInt8.toNat 126),.int .i64 (0:Nat),.int .i64 (0:Nat),.pointer none,.slice none 0 0] 145 (0,0))∧Lvl w' L (.slice none 0 0) (.slice none 0 0)) (fun j=>[12].contains j) (by kernel_rfl) (by rfl) ?_
 have hHeld:(fun w':World=>w'.cell? ⟨b,3,none⟩= some (.slice (some ⟨g,0,none⟩) 1 c)∧w'.cell? ⟨g,0,none⟩= some (encP pb)∧w'.heap[B]? = some (.cells (envC E) 89 (0,0))∧w'.heap[O]? = some (.cells #[.int .u8 (UInt8.toNat 126),.int .i64 (0:Nat),.int .i64 (0:Nat),.pointer none,.slice none 0 0] 145 (0,0))∧Lvl w' L (.slice none 0 0) (.slice none 0 0)) W5.drew:=⟨k4,hq,hB,hO5,hL⟩
 refine AnyT.tk 0 ?_
 refine AnyT.tk 1 ?_
 refine AnyT.tk 2 ?_
 refine AnyT.tk 3 ?_
 refine AnyT.tk 4 ?_
 refine AnyT.ld 5 ?_
 refine AnyT.tk 6 ?_
 refine AnyT.ld 7 ?_
 try simp only [Act.put,sqa,sqb,sqc]
 refine AnyT.load (i:=8) rfl (by kernel_rfl) (by kernel_rfl) (by kernel_rfl) (by kernel_rfl) (fun _ _ _ h=>h) (yieldsIf_blk (by rfl) 89 (.tmp 5) rfl B 89 (envC E) _ (by rfl) (fun w h=>h.2.2.1) Tryz.underlying89 rfl (by rw [sz60,envC_size])) (by assumption) ?_
 try simp only [Act.put,sqa,sqb,sqc]
 refine AnyT.one (i:=9) rfl (by kernel_rfl) (fun K hK=>?_)
 go_simp
 go_at_call 91
 (with_reducible refine (ih.out E n P pb _ (HL.out.bl (bl_drew bw)) (blk_bl (bl_drew bw) HM.out) (by have:=HN.out;simp [Tm.size] at this;omega)).mono ?_)
 rintro e W6 ⟨lb,rfl,hl6,hM6,b6⟩
 replace hl6:=hide hl6;replace hM6:=hide hM6
 go_wp2_with fail
 refine hK.out _ _ ?_ ?_
 ·exact ⟨b6.cell NN.out.1 hHeld.1,b6.cell NN.out.2.1 hHeld.2.1,Fx.heap (.of_bx b6) NN.out.2.2.1 hHeld.2.2.1,Fx.heap (.of_bx b6) NN.out.2.2.2.1 hHeld.2.2.2.1,Fx.heap (.of_bx b6) NN.out.2.2.2.2.1 hHeld.2.2.2.2⟩
 intro hHeld
 clear hK K
 try simp only [Act.put,sqa,sqb,sqc]
 refine AnyT.tk 10 ?_
 refine AnyT.tk 11 ?_
 try simp only [Act.put,sqa,sqb,sqc]
 refine AnyT.tail (i:=12) rfl (by kernel_rfl) (by rfl) (fun K hK=>?_)
 (refine wanted_wp rfl (wp_store1 75 (.tmp 72) (.tmp 70) rfl O 3 145 _ (encP lb) rfl rfl sz_lev rfl rfl hHeld.2.2.2.1 (show 3 < 5 by decide) ?_);intro W7 hO7 b7 s7)
 refine hK.out _ _ ?_
 clear hK K
 try simp only [Act.put,sqa,sqb,sqc]
 refine AnyT.done (by kernel_rfl) ?_
 have hL7:=Fx.heap (.of_bx b7) NN.out.2.2.2.2.2.1 hHeld.2.2.2.2
 go_wp2_with ((refine store_op rfl 92 (.tmp 151) (.tmp 149) rfl L 1 94 _ _ rfl rfl sz_sthr rfl rfl (blk_bl (bl_alloc _ _) hL7) (show 1 < 2 by decide) ?_;intro W8 hL8 b8 s8))
 go_ret
 have hg:=RL.lit (T:=95) (enc:=encP) W7 O (base:=0) (Nat.zero_le _)
 have z7:W5.heap.size≤W7.heap.size:=Nat.le_trans b6.size b7.size
 obtain ⟨-,-,-,nOm,nLm,nLO,z5,zO,-,wO,wL⟩:=NN.out
 have hg8 := hg.fx (.of_bx b8) (fun k hk e => by have hk2 : W7.heap.size = k := by simpa [Value.ownBlock] using hk
                                                 omega)
 have hO8:=Fx.heap (.of_bx b8) (Ne.symm nLO) (blk_bl (bl_alloc W7 _) hO7)
 have hr:=((hl6.out.fx (.of_bx b7) (fun k hk e=>by have:W5.heap.size≤k:=hk;omega)).bl (bl_alloc W7 (.cells #[encP O] 95))).fx (.of_bx b8) (fun k hk e=>by have:W5.heap.size≤k:=hk;omega)
 have hw5:=Below.size bw
 refine ⟨L,rfl,?_,?_,?_⟩
 ·rw [show num (.un 126 0 0 p) E n = .un 126 0 0 (num p E n) from by simp [num,bindsB,nmE]]
  exact un_lies hL8 hg8 hO8 (hr.mono (fun k hk _=>by have:W5.heap.size≤k:=hk;show w.heap.size≤k;omega)) wL (show w.heap.size≤W7.heap.size by omega) wO
 ·rw [show (Tm.un 126 0 0 p).cnt = p.cnt by simp [Tm.cnt,bindsB]]
  exact Fx.heap (.of_bx b8) (Ne.symm nLm) (blk_bl (bl_alloc W7 _) (Fx.heap (.of_bx b7) (Ne.symm nOm) hM6.out))
 ·exact ((((Bx.of_bl (bl_drew bw)).trans b6).far b7 wO).trans (.of_bl (bl_alloc W7 _))).far b8 wL
end Go.Proofs.YtbibkgcbdnldbaaGreat
