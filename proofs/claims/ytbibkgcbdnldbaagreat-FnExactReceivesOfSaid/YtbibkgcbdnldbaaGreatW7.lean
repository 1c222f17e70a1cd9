/- Lemmas for the laws of this seat (my texts, put together), part 7. -/
import Derived.Test.YtbibkgcbdnldbaaGreatW6
set_option maxRecDepth 100000
set_option maxHeartbeats 2000000
set_option linter.unusedVariables false
set_option linter.unusedSimpArgs false
namespace Go.Proofs.YtbibkgcbdnldbaaGreat
open Go.RowKit Go.Maps
attribute [local go_sem] S_size S_toList S_lit S_get S_extract S_append drop_all
def freshZ (s:Str):UInt8:=(freshS s).getD 122
theorem freshZ_small (s:Str):smallB (freshZ s)= true:=by
 unfold freshZ
 cases h:freshS s with
 | none=>rfl
 | some c=>exact (freshS_some h).1
theorem isF_Z:IsF freshZ:=fun s c h=>by unfold freshZ;rw [h];rfl
theorem nodup_bound:∀ (n:Nat) (L:List Nat),L.Nodup→(∀ x∈L,x < n)→L.length≤n
 | 0,[],_,_=>Nat.le_refl _
 | 0,x :: L,_,h=>by have:=h x (by simp);omega
 | n + 1, L, h, hb => by
   by_cases hn:n∈L
   ·have h1:=nodup_bound n (L.erase n) (h.erase n) (fun x hx=>by
     have h2:=hb x (List.mem_of_mem_erase hx)
     have h3:x≠n:=fun e=>by subst e;exact (h.not_mem_erase hx)
     omega)
    rw [List.length_erase_of_mem hn] at h1;omega
   ·have:=nodup_bound n L h (fun x hx=>by
     have h2:=hb x hx
     have h3:x≠n:=fun e=>by subst e;exact hn hx
     omega)
    omega
theorem intKey:Keyed Tryz.prog 3:=int_keyed Tryz.underlying3
theorem zero_u8 (w:World):(zeroValue 5).run Tryz.prog w = .ok (.int .u8 0) w:=by kernel_rfl
theorem wf_nat {x:Nat} (h:x < 100000):(Lit.int .i64 (x:Int)).wf = true:=WalkArith.wf_i64 (by omega)
theorem wf_u8 (c:UInt8):(Lit.int .u8 (c.toNat:Int)).wf = true:=by
 have h:=c.toNat_lt
 have h1:(IntKind.u8.min:Int)= 0:=by decide
 have h2:(IntKind.u8.max:Int)= 255:=by decide
 simp only [Lit.wf,Bool.and_eq_true,decide_eq_true_eq]
 omega
theorem lit_inj {x y:Nat} (h:x≠y):(Lit.int .i64 (x:Int))≠.int .i64 (y:Int):=fun e=>by
 simp only [Lit.int.injEq,true_and] at e;exact h (by omega)
structure EnvM (w:World) (M:Nat) (V:Nat→Prop) (e:Nat→UInt8):Prop where
 mp:∃ (D:DataW Unit) (L:List Nat),w.ownsMap Tryz.prog 3 (plainElem Tryz.prog 5) M L.length D∧L.Nodup∧(∀ x∈L,x < 100000)∧(∀ x:Nat,Maps.has D (.int .i64 (x:Int))= decide (x∈L))∧Maps.size D = L.length∧
  ∀ x,V x→26≤x→D.atKey (.int .i64 (x:Int)) (.lit (.int .u8 0))= .lit (.int .u8 (e x).toNat)
 lo:∀ x,V x→x < 26→e x = let_ x
 sm:∀ x,V x→smallB (e x)= true
theorem ownsMap_least {w:World} {k:TypeId} {R:Value→Option (DataW Unit × List MemPlace)} {b n:Nat} {D:DataW Unit} (h:w.ownsMap Tryz.prog k R b n D):w.ownsMap Tryz.prog k R b (Maps.size D) D:=by
 obtain ⟨es,clock,hb,F,hs,rfl⟩:=h
 exact ⟨es,clock,hb,F,by simp [Maps.size,length_sorted],rfl⟩
theorem EnvM.made (w:World) (V:Nat→Prop) (e:Nat→UInt8) (hV:∀ x,V x→x < 26) (h:∀ x,V x→e x = let_ x):EnvM (w.alloc (.map #[] 0)) w.heap.size V e:=
 ⟨⟨.map [],[],World.ownsMap_made _ _ _ _,List.nodup_nil,by simp,by simp [Maps.has],rfl,fun x hx h2=>by have:=hV x hx;omega⟩,fun x hx _=>h x hx,fun x hx=>by rw [h x hx];exact let_small (hV x hx)⟩
theorem EnvM.narrow {w:World} {M:Nat} {V V':Nat→Prop} {e:Nat→UInt8} (h:EnvM w M V e) (hV:∀ x,V' x→V x):EnvM w M V' e:=by
 obtain ⟨⟨D,L,h1,h2,h3,h4,h5,h6⟩,h7,h8⟩:=h
 exact ⟨⟨D,L,h1,h2,h3,h4,h5,fun x hx=>h6 x (hV x hx)⟩,fun x hx=>h7 x (hV x hx),fun x hx=>h8 x (hV x hx)⟩
theorem EnvM.congr {w:World} {M:Nat} {V:Nat→Prop} {e e':Nat→UInt8} (h:EnvM w M V e) (he:∀ x,V x→e x = e' x):EnvM w M V e':=by
 obtain ⟨⟨D,L,h1,h2,h3,h4,h5,h6⟩,h7,h8⟩:=h
 exact ⟨⟨D,L,h1,h2,h3,h4,h5,fun x hx=>by rw [← he x hx];exact h6 x hx⟩,fun x hx=>by rw [← he x hx];exact h7 x hx,fun x hx=>by rw [← he x hx];exact h8 x hx⟩
theorem EnvM.heap {w w':World} {M:Nat} {V:Nat→Prop} {e:Nat→UInt8} (h:EnvM w M V e) (hg:M < w.heap.size→w'.heap[M]? = w.heap[M]?):EnvM w' M V e:=by
 obtain ⟨⟨D,L,h1,h2⟩,h7,h8⟩:=h
 refine ⟨⟨D,L,?_,h2⟩,h7,h8⟩
 have hl:=h1.lt
 obtain ⟨es,clock,hb,r⟩:=h1
 exact ⟨es,clock,(hg hl).trans hb,r⟩
theorem EnvM.lt {w:World} {M:Nat} {V:Nat→Prop} {e:Nat→UInt8} (h:EnvM w M V e):M < w.heap.size:=by
 obtain ⟨⟨D,L,h1,h2⟩,h7,h8⟩:=h
 exact h1.lt
theorem EnvM.ne {w:World} {M b:Nat} {V:Nat→Prop} {e:Nat→UInt8} (h:EnvM w M V e) {cs:Array Value} {T:TypeId} (hb:w.heap[b]? = some (.cells cs T (0,0))):b≠M:=by
 obtain ⟨⟨D,L,⟨es,clock,h1,h2⟩,h3⟩,h7,h8⟩:=h
 rintro rfl
 rw [hb] at h1;cases h1
theorem EnvM.look {w:World} {M:Nat} {V:Nat→Prop} {e:Nat→UInt8} (h:EnvM w M V e) {x:Nat} (hx:V x) (h26:26≤x) (hlt:x < 100000):
  (Instr.lookup 155 (.map (some M)) (.int .i64 (x:Int)) false).run Tryz.prog w = .ok (.int .u8 (e x).toNat) w:=by
 obtain ⟨⟨D,L,h1,h2,h3,h4,h5,h6⟩,h7,h8⟩:=h
 obtain ⟨c,hrun,hat,-⟩:=h1.lookup_int intKey Tryz.underlying155 Tryz.underlying5 (zero_u8 w) (keyOf_int_mk Tryz.underlying3 (wf_nat hlt))
 rw [h6 x hx h26] at hat
 have:c = ((e x).toNat:Int):=by
  have:=(DataW.lit.inj hat)
  simp only [Lit.int.injEq,true_and] at this
  exact this.symm
 rw [hrun,this]
theorem EnvM.upd {w:World} {M:Nat} {V:Nat→Prop} {e:Nat→UInt8} (h:EnvM w M V e) {x:Nat} (h26:26≤x) (hlt:x < 100000) {c:UInt8} (hc:smallB c = true):
  ∃ w',(Instr.mapUpdate 155 (.map (some M)) (.int .i64 (x:Int)) (.int .u8 c.toNat)).run Tryz.prog w = .ok () w'∧EnvM w' M (fun y=>V y∨y = x) (updN e x c)∧w.grownBy w' (some M):=by
 obtain ⟨⟨D,L,h1,h2,h3,h4,h5,h6⟩,h7,h8⟩:=h
 have hL:=nodup_bound 100000 L h2 h3
 have hkey:=keyOf_int_mk (P:=Tryz.prog) Tryz.underlying3 (wf_nat hlt)
 obtain ⟨w',hrun,hown,hg⟩:=h1.update intKey Tryz.underlying155 (by simp only [maxLen];omega) hkey (plainElem_int Tryz.underlying5 (wf_u8 c))
 have hD:=h1.isMap
 have hT:=h1.tidy intKey
 have hk:WideAt.IsKeyLit (.int .i64 (x:Int)):=by trivial
 refine ⟨w',hrun,⟨⟨D.put (.int .i64 (x:Int)) (.lit (.int .u8 (c.toNat:Int))),if x∈L then L else x :: L,?_,?_,?_,?_,?_,?_⟩,?_,?_⟩,hg⟩
 ·have hs:Maps.size (D.put (.int .i64 (x:Int)) (.lit (.int .u8 (c.toNat:Int))))= (if x∈L then L else x :: L).length:=by
   rw [size_put hT,h4 x,h5]
   by_cases hx:x∈L <;> simp [hx]
  rw [← hs];exact ownsMap_least hown
 ·split
  ·exact h2
  ·exact List.nodup_cons.2 ⟨by assumption,h2⟩
 ·intro y hy
  split at hy
  ·exact h3 y hy
  ·rcases List.mem_cons.1 hy with rfl | hy
   ·exact hlt
   ·exact h3 y hy
 ·intro y
  by_cases hxy:y = x
  ·subst hxy
   rw [has_put_same hD hk]
   by_cases hx:y∈L <;> simp [hx]
  ·rw [has_put_other (lit_inj hxy),h4 y]
   by_cases hx:x∈L
   ·simp [hx]
   ·simp [hx,hxy]
 ·rw [size_put hT,h4 x,h5]
  by_cases hx:x∈L <;> simp [hx]
 ·intro y hy h26y
  by_cases hxy:y = x
  ·subst hxy
   rw [atKey_put_same hD hk];simp [updN]
  ·rw [atKey_put_other (lit_inj hxy),h6 y (hy.resolve_right hxy) h26y]
   simp [updN,hxy]
 ·intro y hy hy26
  have hxy:y≠x:=by omega
  rw [updN,if_neg hxy];exact h7 y (hy.resolve_right hxy) hy26
 ·intro y hy
  unfold updN
  split
  ·exact hc
  ·rename_i hxy;exact h8 y (hy.resolve_right hxy)
structure Nmr (w:World) (n M:Nat) (tk:Str) (bad:Bool) (V:Nat→Prop) (e:Nat→UInt8):Prop where
 blk:w.heap[n]? = some (.cells #[.map (some M),.int .u32 (msk tk),.bool bad,.int .i64 0] 157 (0,0))
 env:EnvM w M V e
theorem Nmr.bl {w w':World} {n M:Nat} {tk:Str} {bad:Bool} {V:Nat→Prop} {e:Nat→UInt8} (h:Nmr w n M tk bad V e) (hb:Bl w w'):Nmr w' n M tk bad V e:=
 ⟨blk_bl hb h.blk,h.env.heap (fun hl=>Below.block hb _ hl)⟩
theorem Nmr.fx {A:Nat→Prop} {w w':World} {n M:Nat} {tk:Str} {bad:Bool} {V:Nat→Prop} {e:Nat→UInt8} (h:Nmr w n M tk bad V e) (hb:Fx A w w') (h1:¬ A n) (h2:¬ A M):Nmr w' n M tk bad V e:=
 ⟨hb.heap h1 h.blk,h.env.heap (fun hl=>hb.block _ hl h2)⟩
theorem Nmr.ne {w:World} {n M:Nat} {tk:Str} {bad:Bool} {V:Nat→Prop} {e:Nat→UInt8} (h:Nmr w n M tk bad V e):n≠M:=h.env.ne h.blk
theorem Nmr.take {w Z:World} {n M:Nat} {tk tk':Str} {bad:Bool} {V:Nat→Prop} {e:Nat→UInt8} (h:Nmr w n M tk bad V e) (hz:Z.heap[n]? = some (.cells #[.map (some M),.int .u32 (msk tk'),.bool bad,.int .i64 0] 157 (0,0))) (hb:Bx n w Z):Nmr Z n M tk' bad V e:=
 ⟨hz,h.env.heap (fun hl=>hb.block _ hl (Ne.symm h.ne))⟩
theorem name_c {V:Nat→Prop} {e:Nat→UInt8} (n M x:Nat) (tk:Str) (bad:Bool) (w:World) (h:Nmr w n M tk bad V e) (hx:V x) (hlt:x < 100000):
  Calls Tryz.prog 189 #[encP n,encI x] w fun r w'=>r = .returned (.string (S [e x]))∧w = w':=by
 have q1:(0:Int)≤(x:Int):=by omega
 have q2:(x:Int) < 100000:=by omega
 by_cases h26:x < 26
 ·have q3:(x:Int) < 26:=by omega
  have en:=encode_let h26
  have hr:Hid ([let_ x] = [e x]):=by unfold Hid;rw [h.env.lo x hx h26]
  clear h hx hlt
  go_enter Tryz.func189,Tryz.ntmps189
  go_wp2_with fail
  go_ret
  exact ⟨ret_str hr.out,rfl⟩
 ·have q3:¬ (x:Int) < 26:=by omega
  have hl:=h.env.look hx (by omega) hlt
  have hs:=h.env.sm x hx
  have en:Utf8.encode ((e x).toNat:Int)= S [e x]:=encode_S _ (by unfold smallB at hs;simp at hs;omega)
  have p0:=blk_cell (i:=0) h.blk rfl
  have z1:((e x).toNat:Int) < 256:=by have:=(e x).toNat_lt;omega
  have z2:(0:Int)≤((e x).toNat:Int):=by omega
  clear h hx hlt h26 hs
  generalize e x = c at *
  go_enter Tryz.func189,Tryz.ntmps189
  go_wp2_with fail
  go_ret
  exact ⟨rfl,rfl⟩
end Go.Proofs.YtbibkgcbdnldbaaGreat
namespace Go.Proofs.YtbibkgcbdnldbaaGreat
open Go.RowKit Go.Maps
attribute [local go_sem] S_size S_toList S_lit S_get S_extract S_append drop_all
theorem msk_cons (c:UInt8) (s:Str):msk (c :: s)= bitOf c ||| msk s:=rfl
theorem msk_add (c:UInt8) (s:Str):bits .or .u32 (msk s:Int) (bitOf c:Int)= (msk (c :: s):Nat):=by
 rw [u32_or_nat _ _ (by have:=msk_lt s;omega) (by have:=bitOf_lt c;omega),msk_cons,Nat.or_comm]
abbrev NmC (M:Nat) (tk:Str) (bad:Bool):Array Value:=#[.map (some M),.int .u32 (msk tk),.bool bad,.int .i64 0]
theorem sz_u32:(Tryz.prog.info? 134).map (·.size)= some 1:=by kernel_rfl
theorem bind_c {V:Nat→Prop} {e:Nat→UInt8} (n M x:Nat) (tk:Str) (bad:Bool) (w:World) (h:Nmr w n M tk bad V e) (h26:26≤x) (hlt:x < 100000):
  Calls Tryz.prog 188 #[encP n,encI x] w fun r w'=>r = .returned (.int .u32 (msk tk))∧Nmr w' n M (freshZ tk :: tk) (bad || (freshS tk).isNone) (fun y=>V y∨y = x) (updN e x (freshZ tk))∧Fx (fun k=>k = n∨k = M) w w':=by
 have H:=hide h
 have p0:=blk_cell (i:=0) h.blk rfl
 have p1:=blk_cell (i:=1) h.blk rfl
 have p2:=blk_cell (i:=2) h.blk rfl
 have f1:=blk_free (i:=1) h.blk
 have f2:=blk_free (i:=2) h.blk
 have c1:=hide fun w=>fresh_c tk w
 have HX:=hide (And.intro h26 hlt)
 have hm:=msk_add (freshZ tk) tk
 have cb:=hide fun w=>bit_c (freshZ tk) w (freshZ_small tk)
 have hcs:=hide (freshZ_small tk)
 clear h h26 hlt
 cases hf:freshS tk with
 | some c=>
   have hz:freshZ tk = c:=by unfold freshZ;rw [hf];rfl
   rw [freshV_some hf] at c1
   have hB:Hid ((bad || (some c).isNone)= bad):=by unfold Hid;simp
   rw [hB.out]
   clear hf hB
   subst hz
   generalize freshZ tk = c at *
   generalize bitOf c = q at *
   have hmm:Hid (msk (c :: tk)= msk (c :: tk)):=rfl
   obtain ⟨mm,hmm⟩:∃ mm,mm = msk (c :: tk):=⟨_,rfl⟩
   have HMM:=hide hmm
   rw [← hmm] at hm
   clear hmm
   go_enter Tryz.func188,Tryz.ntmps188
   go_wp2_with ((go_at_call 214;(with_reducible refine (c1.out _).mono ?_);rintro e w' ⟨rfl,rfl⟩))
   have FX0:Fx (fun k=>k = n∨k = M) w w.drew:=.of_bl (bl_drew (Bl.refl w))
   refine AnyT.start 10 (fun w2=>w2.cell? ⟨n,1,none⟩= some (.int .u32 (msk tk))) (fun j=>[9].contains j) (by kernel_rfl) (by rfl) ?_
   have hHeld:(fun w2:World=>w2.cell? ⟨n,1,none⟩= some (.int .u32 (msk tk))) w.drew:=p1
   refine AnyT.tk 0 ?_
   refine AnyT.tk 1 ?_
   refine AnyT.tk 2 ?_
   refine AnyT.ld 3 ?_
   refine AnyT.tk 4 ?_
   try simp only [Act.put,sqa,sqb,sqc]
   refine AnyT.one (i:=5) rfl (by kernel_rfl) (fun K hK=>?_)
   go_simp
   go_at_call 173
   (with_reducible refine (cb.out _).mono ?_)
   rintro e W5 ⟨rfl,rfl⟩
   go_wp2_with fail
   refine hK.out _ _ ?_ ?_
   ·exact hHeld
   intro hHeld
   clear hK K
   try simp only [Act.put,sqa,sqb,sqc]
   refine AnyT.tk 6 ?_
   refine AnyT.tk 7 ?_
   refine AnyT.tk 8 ?_
   try simp only [Act.put,sqa,sqb,sqc]
   refine AnyT.tail (i:=9) rfl (by kernel_rfl) (by rfl) (fun K hK=>?_)
   (refine wanted_wp rfl (wp_store1 134 (.tmp 33) (.tmp 31) rfl n 1 157 _ (.int .u32 mm) rfl (by simp [Act.eval,hm]) sz_u32 rfl rfl H.out.blk (show 1 < 4 by decide) ?_);intro W9 h9 b9 s9)
   refine hK.out _ _ ?_
   clear hK K
   try simp only [Act.put,sqa,sqb,sqc]
   refine AnyT.done (by kernel_rfl) ?_
   have hE9:EnvM W9 M V e:=H.out.env.heap (fun hl=>(b9.block M (by have:=Nat.le_refl w.heap.size;simpa using Nat.lt_of_lt_of_le hl this) (Ne.symm H.out.ne)).trans rfl)
   obtain ⟨W10,hrun,hE10,hg10⟩:=hE9.upd HX.out.1 HX.out.2 hcs.out
   have p9:=blk_cell (i:=0) h9 rfl
   have H9:=hide h9
   have HE:=hide hE10
   have HG:=hide hg10
   clear h9 hE9 hE10 hg10 p0 p1 p2 f1 f2
   go_wp2_with fail
   go_ret
   refine ⟨rfl,⟨?_,HE.out⟩,?_⟩
   ·rw [HG.out.block n (lt_of_block H9.out) (fun e=>H.out.ne (Option.some.inj e)),H9.out,← HMM.out];rfl
   ·exact (FX0.trans (.of_bx b9) (fun k _ h=>.inl h)).trans (fx_grown HG.out) (fun k _ h=>.inr (Option.some.inj h).symm)
 | none=>
   have hz:freshZ tk = 122:=by unfold freshZ;rw [hf];rfl
   rw [freshV_none hf] at c1
   have hB:Hid ((bad || (none:Option UInt8).isNone)= true):=by unfold Hid;simp
   rw [hB.out]
   clear hf hB
   rw [hz] at cb hm hcs ⊢
   clear hz
   generalize bitOf 122 = q at *
   have cb:Hid (∀ w,Calls Tryz.prog 173 #[.int .u8 122] w fun r w'=>r = .returned (.int .u32 q)∧w = w'):=cb
   obtain ⟨mm,hmm⟩:∃ mm,mm = msk (122 :: tk):=⟨_,rfl⟩
   have HMM:=hide hmm
   rw [← hmm] at hm
   clear hmm
   go_enter Tryz.func188,Tryz.ntmps188
   go_wp2_with ((go_at_call 214;(with_reducible refine (c1.out _).mono ?_);rintro e w' ⟨rfl,rfl⟩))
   obtain ⟨W4,hW4⟩:∃ W,W = w.setCell ⟨n,2,none⟩ (.bool true):=⟨_,rfl⟩
   rw [← hW4]
   have h4:W4.heap[n]? = some (.cells (NmC M tk true) 157 (0,0)):=by rw [hW4];exact blk_set H.out.blk _
   have b4:Bx n w W4:=by rw [hW4];exact bx_set _ _ _ _
   have FX0:Fx (fun k=>k = n∨k = M) w W4.drew:=(Fx.of_bx b4).weaken (fun k _ h=>.inl h) |>.trans (.of_bl (bl_drew (Bl.refl W4))) (fun k _ h=>h)
   have p1:=blk_cell (i:=1) h4 rfl
   have H4:=hide h4
   clear hW4 h4 p0 p2 f1 f2
   refine AnyT.start 10 (fun w2=>w2.cell? ⟨n,1,none⟩= some (.int .u32 (msk tk))) (fun j=>[9].contains j) (by kernel_rfl) (by rfl) ?_
   have hHeld:(fun w2:World=>w2.cell? ⟨n,1,none⟩= some (.int .u32 (msk tk))) W4.drew:=p1
   refine AnyT.tk 0 ?_
   refine AnyT.tk 1 ?_
   refine AnyT.tk 2 ?_
   refine AnyT.ld 3 ?_
   refine AnyT.tk 4 ?_
   try simp only [Act.put,sqa,sqb,sqc]
   refine AnyT.one (i:=5) rfl (by kernel_rfl) (fun K hK=>?_)
   go_simp
   go_at_call 173
   (with_reducible refine (cb.out _).mono ?_)
   rintro e W5 ⟨rfl,rfl⟩
   go_wp2_with fail
   refine hK.out _ _ ?_ ?_
   ·exact hHeld
   intro hHeld
   clear hK K
   try simp only [Act.put,sqa,sqb,sqc]
   refine AnyT.tk 6 ?_
   refine AnyT.tk 7 ?_
   refine AnyT.tk 8 ?_
   try simp only [Act.put,sqa,sqb,sqc]
   refine AnyT.tail (i:=9) rfl (by kernel_rfl) (by rfl) (fun K hK=>?_)
   (refine wanted_wp rfl (wp_store1 134 (.tmp 33) (.tmp 31) rfl n 1 157 _ (.int .u32 mm) rfl (by simp [Act.eval,hm]) sz_u32 rfl rfl H4.out (show 1 < 4 by decide) ?_);intro W9 h9 b9 s9)
   refine hK.out _ _ ?_
   clear hK K
   try simp only [Act.put,sqa,sqb,sqc]
   refine AnyT.done (by kernel_rfl) ?_
   have hE9:EnvM W9 M V e:=H.out.env.heap (fun hl=>(b9.block M (Nat.lt_of_lt_of_le hl b4.size) (Ne.symm H.out.ne)).trans (b4.block M hl (Ne.symm H.out.ne)))
   obtain ⟨W10,hrun,hE10,hg10⟩:=hE9.upd HX.out.1 HX.out.2 hcs.out
   rw [show (((122:UInt8).toNat:Int))= 122 from rfl] at hrun
   have p9:=blk_cell (i:=0) h9 rfl
   have H9:=hide h9
   have HE:=hide hE10
   have HG:=hide hg10
   clear h9 hE9 hE10 hg10 p1
   go_wp2_with fail
   go_ret
   refine ⟨rfl,⟨?_,HE.out⟩,?_⟩
   ·rw [HG.out.block n (lt_of_block H9.out) (fun e=>H.out.ne (Option.some.inj e)),H9.out,← HMM.out];rfl
   ·exact (FX0.trans (.of_bx b9) (fun k _ h=>.inl h)).trans (fx_grown HG.out) (fun k _ h=>.inr (Option.some.inj h).symm)
end Go.Proofs.YtbibkgcbdnldbaaGreat
namespace Go.Proofs.YtbibkgcbdnldbaaGreat
open Go.RowKit
attribute [local go_sem] S_size S_toList S_lit S_get S_extract S_append drop_all
theorem fold_le (n:Nat):∀ (l:List Str) (b:Str),b.length≤n→(∀ x∈l,x.length≤n)→(l.foldl (fun best t=>if best = []∨t < best then t else best) b).length≤n
 | [],b,hb,_=>hb
 | x :: l, b, hb, h => fold_le n l _ (by
     show (if b = []∨x < b then x else b).length≤n
     split
     ·exact h x (by simp)
     ·exact hb) (fun y hy=>h y (by simp [hy]))
theorem match_len5 (a b:UInt8):(matchS a b).length = 5:=by unfold matchS;split <;> rfl
theorem headS_len (F:Str→UInt8):∀ (n:Nat) (tk:Str),(headS F n tk).length = 3 * n
 | 0,_=>rfl
 | n + 1,tk=>by simp only [headS,List.length_cons,headS_len F n];omega
theorem listS_le (k:UInt8) (l:List Str):(listS k l).length≤total l + 3 * l.length + 1:=by
 cases h:l with
 | nil=>simp [listS,joinS]
 | cons x r=>
   have h1:=join_len k ((x :: r).mergeSort leB) (fun e=>by have:=congrArg List.length e;rw [List.length_mergeSort] at this;simp at this)
   have h2:=((List.mergeSort_perm (x :: r) leB).map List.length).sum_nat
   rw [List.length_mergeSort] at h1
   unfold listS;unfold total at *;omega
theorem levelS_le {F:Str→UInt8} {o:List Nat} {z:Bool} {f:(Nat→UInt8)→Str→List Str} {e:Nat→UInt8} {tk:Str} {B:Nat} (h:∀ e tk,total (f e tk)+ 3 * (f e tk).length≤B):
  (levelS F o z f e tk).length≤3 * o.length + B + 1:=by
 unfold levelS
 split
 ·simp
 ·refine fold_le _ _ [] (by simp) (fun x hx=>?_)
  obtain ⟨s,hs,rfl⟩:=List.mem_map.1 hx
  have h1:=(mem_perms.1 hs).length_eq
  have h2:=listS_le 38 (f (bindS F s e tk) (takeS F s.length tk))
  have h3:=h (bindS F s e tk) (takeS F s.length tk)
  rw [List.length_append,headS_len];omega
theorem nm_le (F:Str→UInt8):∀ (t:Ts) (e:Nat→UInt8) (tk:Str),total (t.nm F e tk)+ 3 * (t.nm F e tk).length≤10 * t.sz
 | .nil,e,tk=>by simp [Ts.nm,total]
 | .un k a b o r n,e,tk=>by
   have h1:∀ e tk,(levelS F o r.isNil (r.nm F) e tk).length≤3 * o.length + 10 * r.sz + 1:=fun e tk=>levelS_le (nm_le F r)
   have h2:=nm_le F n e tk
   have h3:=match_len5 (e a) (e b)
   simp only [Ts.nm,total,List.map_cons,List.sum_cons,List.length_cons,Ts.sz] at *
   have key:∀ x:Str,x.length≤5 + (3 * o.length + 10 * r.sz + 1)→x.length + (List.map List.length (n.nm F e tk)).sum + 3 * ((n.nm F e tk).length + 1)≤10 * (o.length + r.sz + n.sz + 1):=fun x hx=>by omega
   refine key _ ?_
   split
   ·have:=h1 (updN e b (F tk)) (F tk :: tk);simp only [List.length_cons];omega
   ·have:=h1 e tk
    split
    ·simp only [List.length_cons];omega
    ·split
     ·simp only [List.length_cons];omega
     ·split
      ·simp only [List.length_append,h3];omega
      ·simp only [List.length_cons];omega
 | .sum p n,e,tk=>by
   have h1:=nm_le F p e tk
   have h2:=nm_le F n e tk
   have h3:=listS_le 43 (p.nm F e tk)
   simp only [Ts.nm,total,List.map_cons,List.sum_cons,List.length_cons,Ts.sz] at *;omega
 | .part o l n,e,tk=>by
   have h1:(levelS F o l.isNil (l.nm F) e tk).length≤3 * o.length + 10 * l.sz + 1:=levelS_le (nm_le F l)
   have h2:=nm_le F n e tk
   simp only [Ts.nm,total,List.map_cons,List.sum_cons,List.length_cons,Ts.sz] at *;omega
abbrev RB (x:Nat):Prop:=26≤x∧x < 100000
structure LvH (o:List Nat) (t:Ts) (V:Nat→Prop):Prop where
 ty:t.ty true
 sz:o.length + t.sz≤30000
 sc:scL V o t.sc
 bo:∀ x∈o,RB x
 bt:t.bn RB
 lt:∀ x,V x→x < 100000
def NmR (x:Str) (bd:Bool) (nb M:Nat) (tk:Str) (bad:Bool) (V:Nat→Prop) (e:Nat→UInt8) (w:World) (r:Ending) (w':World):Prop:=
 r = .returned (.string (S x))∧Nmr w' nb M tk (bad || bd) V e∧Fx (fun k=>k = nb∨k = M) w w'
abbrev NmIH (o:List Nat) (t:Ts):Prop:=∀ (V:Nat→Prop) (e:Nat→UInt8) (tk:Str) (bad:Bool) (nb M:Nat) (P:Nat→Prop) (b:Nat) (w:World),LvH o t V→Lies2 P w o t b→¬ P nb→¬ P M→Nmr w nb M tk bad V e→
 Calls Tryz.prog 148 #[encP nb,encP b] w (NmR (levelS freshZ o t.isNil (t.nm freshZ) e tk) (levelB freshZ o t.isNil (t.bd freshZ) tk) nb M tk bad V e w)
theorem name_b {V:Nat→Prop} {e:Nat→UInt8} (n M x:Nat) (tk:Str) (bad:Bool) (w:World) (h:Nmr w n M tk bad V e) (hx:V x) (hlt:x < 100000):
  Calls Tryz.prog 189 #[encP n,encI x] w fun r w'=>r = .returned (.string (S [e x]))∧Bl w w':=
 (name_c n M x tk bad w h hx hlt).mono (fun _ _ ⟨h1,h2⟩=>⟨h1,h2 ▸ Bl.refl _⟩)
theorem nth_pre (k:UInt8) (hk:k = 42∨k = 126) (p a b lb:Nat) (x:Str) (bd:Bool) (nb M:Nat) (tk:Str) (bad:Bool) (V:Nat→Prop) (e:Nat→UInt8) (w:World)
  (hT:Thr w p k a b (encP lb) (.slice none 0 0)) (hx:x.length≤1000000)
  (ih:Hid (Calls Tryz.prog 148 #[encP nb,encP lb] w (NmR x bd nb M tk bad V e w))):
  Calls Tryz.prog 190 #[encP nb,encP p] w (NmR (if k = 42 then 42 :: x else 126 :: 46 :: x) bd nb M tk bad V e w):=by
 obtain ⟨p0,p1,p2,p3,p4⟩:=hT.c
 have hx2:(x.length:Int)≤1000000:=by omega
 clear hT hx
 rcases hk with rfl | rfl
 ·go_enter Tryz.func190,Tryz.ntmps190
  go_wp2_with ((go_at_call 148;(with_reducible refine (ih.out).mono ?_);rintro r w2 ⟨rfl,h2,h3⟩))
  go_ret
  exact ⟨rfl,h2,h3⟩
 ·go_enter Tryz.func190,Tryz.ntmps190
  go_wp2_with ((go_at_call 148;(with_reducible refine (ih.out).mono ?_);rintro r w2 ⟨rfl,h2,h3⟩))
  go_ret
  exact ⟨rfl,h2,h3⟩
end Go.Proofs.YtbibkgcbdnldbaaGreat
namespace Go.Proofs.YtbibkgcbdnldbaaGreat
open Go.RowKit
attribute [local go_sem] S_size S_toList S_lit S_get S_extract S_append drop_all
theorem nth_send (p a b lb:Nat) (x:Str) (bd:Bool) (nb M:Nat) (tk:Str) (bad:Bool) (V:Nat→Prop) (e:Nat→UInt8) (w:World)
  (hT:Thr w p 33 a b (encP lb) (.slice none 0 0)) (hx:x.length≤1000000) (hN:Nmr w nb M tk bad V e) (ha:V a∧a < 100000) (hb:V b∧b < 100000) (hpn:p≠nb∧p≠M)
  (ih:Hid (∀ w',Bl w w'→Calls Tryz.prog 148 #[encP nb,encP lb] w' (NmR x bd nb M tk bad V e w'))):
  Calls Tryz.prog 190 #[encP nb,encP p] w (NmR (e a :: 33 :: e b :: 46 :: x) bd nb M tk bad V e w):=by
 obtain ⟨p0,p1,p2,p3,p4⟩:=hT.c
 have hx2:(x.length:Int)≤1000000:=by omega
 have hx3:¬ 9223372036854775807 < 4 + x.length:=by omega
 have c1:=hide fun (w':World) (hb':Bl w w')=>name_b nb M a tk bad w' (hN.bl hb') ha.1 ha.2
 have c2:=hide fun (w':World) (hb':Bl w w')=>name_b nb M b tk bad w' (hN.bl hb') hb.1 hb.2
 have HP:=hide hpn
 clear hT hx hN ha hb hpn
 generalize hea:e a = ea at *
 generalize heb:e b = eb at *
 clear hea heb
 go_enter Tryz.func190,Tryz.ntmps190
 go_wp2_with fail
 refine AnyT.start 23 (fun w2=>w2.cell? ⟨p,1,none⟩= some (encI a)∧w2.cell? ⟨p,2,none⟩= some (encI b)∧w2.cell? ⟨p,3,none⟩= some (encP lb)) (fun j=>[].contains j) (by kernel_rfl) (by rfl) ?_
 have hHeld:(fun w2:World=>w2.cell? ⟨p,1,none⟩= some (encI a)∧w2.cell? ⟨p,2,none⟩= some (encI b)∧w2.cell? ⟨p,3,none⟩= some (encP lb)) w.drew:=⟨p1,p2,p3⟩
 refine AnyT.tk 0 ?_
 refine AnyT.tk 1 ?_
 refine AnyT.tk 2 ?_
 refine AnyT.tk 3 ?_
 refine AnyT.ld 4 ?_
 refine AnyT.tk 7 ?_
 refine AnyT.tk 8 ?_
 refine AnyT.tk 9 ?_
 refine AnyT.tk 10 ?_
 refine AnyT.ld 11 ?_
 refine AnyT.tk 15 ?_
 refine AnyT.tk 16 ?_
 refine AnyT.tk 17 ?_
 refine AnyT.tk 18 ?_
 refine AnyT.ld 19 ?_
 try simp only [Act.put,sqa,sqb,sqc]
 refine AnyT.one (i:=5) rfl (by kernel_rfl) (fun K hK=>?_)
 go_simp
 go_at_call 189
 (with_reducible refine (c1.out _ (bl_drew (Bl.refl w))).mono ?_)
 rintro e W5 ⟨rfl,b5⟩
 go_wp2_with fail
 refine hK.out _ _ ?_ ?_
 ·exact ⟨cell_kept b5 hHeld.1,cell_kept b5 hHeld.2.1,cell_kept b5 hHeld.2.2⟩
 intro hHeld
 clear hK K
 try simp only [Act.put,sqa,sqb,sqc]
 refine AnyT.tk 6 ?_
 try simp only [Act.put,sqa,sqb,sqc]
 refine AnyT.one (i:=12) rfl (by kernel_rfl) (fun K hK=>?_)
 go_simp
 go_at_call 189
 (with_reducible refine (c2.out _ ((bl_drew (Bl.refl w)).trans b5)).mono ?_)
 rintro e W12 ⟨rfl,b12⟩
 go_wp2_with fail
 refine hK.out _ _ ?_ ?_
 ·exact ⟨cell_kept b12 hHeld.1,cell_kept b12 hHeld.2.1,cell_kept b12 hHeld.2.2⟩
 intro hHeld
 clear hK K
 try simp only [Act.put,sqa,sqb,sqc]
 refine AnyT.tk 13 ?_
 refine AnyT.tk 14 ?_
 try simp only [Act.put,sqa,sqb,sqc]
 refine AnyT.one (i:=20) rfl (by kernel_rfl) (fun K hK=>?_)
 go_simp
 go_at_call 148
 (with_reducible refine (ih.out _ (((bl_drew (Bl.refl w)).trans b5).trans b12)).mono ?_)
 rintro e W20 ⟨rfl,h2,h3⟩
 go_wp2_with fail
 refine hK.out _ _ ?_ ?_
 ·exact ⟨h3.cell (fun h=>h.elim HP.out.1 HP.out.2) hHeld.1,h3.cell (fun h=>h.elim HP.out.1 HP.out.2) hHeld.2.1,h3.cell (fun h=>h.elim HP.out.1 HP.out.2) hHeld.2.2⟩
 intro hHeld
 clear hK K
 try simp only [Act.put,sqa,sqb,sqc]
 refine AnyT.tk 21 ?_
 refine AnyT.tk 22 ?_
 try simp only [Act.put,sqa,sqb,sqc]
 refine AnyT.done (by kernel_rfl) ?_
 go_wp2_with fail
 go_ret
 exact ⟨rfl,h2,(Fx.of_bl (((bl_drew (Bl.refl w)).trans b5).trans b12)).trans h3 (fun _ _ h=>h)⟩
theorem bless_one (a b:UInt8):Op.bytesLess [b] [a] = decide (b < a):=by
 rw [bytesLess_lt,decide_eq_decide]
 simp only [List.cons_lt_cons_iff]
 constructor
 ·rintro (h | ⟨_,h⟩)
  ·exact h
  ·exact (List.lt_irrefl _ h).elim
 ·exact .inl
theorem min_one (a b:UInt8) (ts:Array TypeId) (ty:TypeId) (w:World):(Builtin.min_ ts ty #[.string (S [a]),.string (S [b])]).run Tryz.prog w = .ok (.string (S [if b < a then b else a])) w:=by
 by_cases hab:a = b
 ·subst hab
  simp [Builtin.min_,Builtin.min2,Op.stringOp,asBool,S_toList]
 ·have h:a < b↔¬ b < a:=⟨fun h h'=>UInt8.lt_irrefl _ (UInt8.lt_trans h h'),fun h=>by
   rcases Nat.lt_or_ge a.toNat b.toNat with h1 | h1
   ·exact UInt8.lt_iff_toNat_lt.2 h1
   ·exact (h (UInt8.lt_iff_toNat_lt.2 (by have:a.toNat≠b.toNat:=fun e=>hab (UInt8.toNat_inj.1 e);omega))).elim⟩
  simp [Builtin.min_,Builtin.min2,Op.stringOp,asBool,S_toList,bless_one,hab]
  by_cases hb:b < a
  ·simp [hb,h]
  ·simp [hb,h]
theorem max_one (a b:UInt8) (ts:Array TypeId) (ty:TypeId) (w:World):(Builtin.max_ ts ty #[.string (S [a]),.string (S [b])]).run Tryz.prog w = .ok (.string (S [if b < a then a else b])) w:=by
 by_cases hab:a = b
 ·subst hab
  simp [Builtin.max_,Builtin.max2,Op.stringOp,asBool,S_toList]
 ·have h:a < b↔¬ b < a:=⟨fun h h'=>UInt8.lt_irrefl _ (UInt8.lt_trans h h'),fun h=>by
   rcases Nat.lt_or_ge a.toNat b.toNat with h1 | h1
   ·exact UInt8.lt_iff_toNat_lt.2 h1
   ·exact (h (UInt8.lt_iff_toNat_lt.2 (by have:a.toNat≠b.toNat:=fun e=>hab (UInt8.toNat_inj.1 e);omega))).elim⟩
  simp [Builtin.max_,Builtin.max2,Op.stringOp,asBool,S_toList,bless_one]
  by_cases hb:b < a
  ·simp [hb,h]
  ·simp [hb,h]
   intro h3
   exact (hab (UInt8.le_antisymm (UInt8.not_lt.1 hb) h3)).elim
theorem nth_test (p a b lb:Nat) (x:Str) (bd:Bool) (nb M:Nat) (tk:Str) (bad:Bool) (V:Nat→Prop) (e:Nat→UInt8) (w:World)
  (hT:Thr w p 61 a b (encP lb) (.slice none 0 0)) (hx:x.length≤1000000) (hN:Nmr w nb M tk bad V e) (ha:V a∧a < 100000) (hb:V b∧b < 100000)
  (ih:Hid (∀ w',Bl w w'→Calls Tryz.prog 148 #[encP nb,encP lb] w' (NmR x bd nb M tk bad V e w'))):
  Calls Tryz.prog 190 #[encP nb,encP p] w (NmR (matchS (e a) (e b)++ x) bd nb M tk bad V e w):=by
 obtain ⟨p0,p1,p2,p3,p4⟩:=hT.c
 have hx2:(x.length:Int)≤1000000:=by omega
 have c1:=hide fun (w':World) (hb':Bl w w')=>name_b nb M a tk bad w' (hN.bl hb') ha.1 ha.2
 have c2:=hide fun (w':World) (hb':Bl w w')=>name_b nb M b tk bad w' (hN.bl hb') hb.1 hb.2
 clear hT hx hN ha hb
 generalize hea:e a = ea at *
 generalize heb:e b = eb at *
 clear hea heb
 have f1:=fun (w:World) (ts:Array TypeId) (ty:TypeId)=>min_one ea eb ts ty w
 have f2:=fun (w:World) (ts:Array TypeId) (ty:TypeId)=>max_one ea eb ts ty w
 go_enter Tryz.func190,Tryz.ntmps190
 go_wp2_with fail
 refine AnyT.start 14 (fun w2=>w2.cell? ⟨p,1,none⟩= some (encI a)∧w2.cell? ⟨p,2,none⟩= some (encI b)) (fun j=>[].contains j) (by kernel_rfl) (by rfl) ?_
 have hHeld:(fun w2:World=>w2.cell? ⟨p,1,none⟩= some (encI a)∧w2.cell? ⟨p,2,none⟩= some (encI b)) w.drew:=⟨p1,p2⟩
 refine AnyT.tk 0 ?_
 refine AnyT.tk 1 ?_
 refine AnyT.tk 2 ?_
 refine AnyT.tk 3 ?_
 refine AnyT.ld 4 ?_
 refine AnyT.tk 6 ?_
 refine AnyT.tk 7 ?_
 refine AnyT.tk 8 ?_
 refine AnyT.tk 9 ?_
 refine AnyT.ld 10 ?_
 try simp only [Act.put,sqa,sqb,sqc]
 refine AnyT.one (i:=5) rfl (by kernel_rfl) (fun K hK=>?_)
 go_simp
 go_at_call 189
 (with_reducible refine (c1.out _ (bl_drew (Bl.refl w))).mono ?_)
 rintro e W5 ⟨rfl,b5⟩
 go_wp2_with fail
 refine hK.out _ _ ?_ ?_
 ·exact ⟨cell_kept b5 hHeld.1,cell_kept b5 hHeld.2⟩
 intro hHeld
 clear hK K
 try simp only [Act.put,sqa,sqb,sqc]
 refine AnyT.one (i:=11) rfl (by kernel_rfl) (fun K hK=>?_)
 go_simp
 go_at_call 189
 (with_reducible refine (c2.out _ ((bl_drew (Bl.refl w)).trans b5)).mono ?_)
 rintro e W12 ⟨rfl,b12⟩
 go_wp2_with fail
 refine hK.out _ _ ?_ ?_
 ·exact ⟨cell_kept b12 hHeld.1,cell_kept b12 hHeld.2⟩
 intro hHeld
 clear hK K
 try simp only [Act.put,sqa,sqb,sqc]
 refine AnyT.tk 12 ?_
 refine AnyT.tk 13 ?_
 try simp only [Act.put,sqa,sqb,sqc]
 refine AnyT.done (by kernel_rfl) ?_
 have bw3:=((bl_drew (Bl.refl w)).trans b5).trans b12
 replace p3:=cell_kept bw3 p3
 clear hHeld p0 p1 p2 p4
 have hr:Hid (matchS ea eb ++ x = 91 :: (if eb < ea then eb else ea):: 61 :: (if eb < ea then ea else eb):: 93 :: x):=by
  unfold Hid matchS;split <;> rfl
 generalize (if eb < ea then eb else ea)= lo at *
 generalize (if eb < ea then ea else eb)= hi at *
 go_wp2_with ((go_at_call 148;(with_reducible refine (ih.out _ bw3).mono ?_);rintro r w2 ⟨rfl,h2,h3⟩))
 go_ret
 exact ⟨by rw [hr.out];rfl,h2,(Fx.of_bl bw3).trans h3 (fun _ _ h=>h)⟩
theorem nth_recv (p a b lb:Nat) (x:Str) (bd:Bool) (nb M:Nat) (tk:Str) (bad:Bool) (V:Nat→Prop) (e:Nat→UInt8) (w:World)
  (hT:Thr w p 63 a b (encP lb) (.slice none 0 0)) (hx:x.length≤1000000) (hN:Nmr w nb M tk bad V e) (ha:V a∧a < 100000) (hb:¬ V b∧RB b) (hpn:p≠nb∧p≠M)
  (ih:Hid (∀ (bad:Bool) (w':World),Fx (fun k=>k = nb∨k = M) w w'→Nmr w' nb M (freshZ tk :: tk) bad (fun y=>V y∨y = b) (updN e b (freshZ tk))→Calls Tryz.prog 148 #[encP nb,encP lb] w' (NmR x bd nb M (freshZ tk :: tk) bad (fun y=>V y∨y = b) (updN e b (freshZ tk)) w'))):
  Calls Tryz.prog 190 #[encP nb,encP p] w (NmR (e a :: 63 :: freshZ tk :: 46 :: x) ((freshS tk).isNone || bd) nb M tk bad V e w):=by
 obtain ⟨p0,p1,p2,p3,p4⟩:=hT.c
 have hx2:(x.length:Int)≤1000000:=by omega
 have hx3:¬ 9223372036854775807 < 4 + x.length:=by omega
 have cb:=hide (bind_c nb M b tk bad w hN hb.2.1 hb.2.2)
 have HP:=hide hpn
 have HA:=hide ha
 have HB:=hide hb
 have hea:Hid (updN e b (freshZ tk) a = e a):=by
  unfold Hid updN;rw [if_neg (by intro h;subst h;exact hb.1 ha.1)]
 have heb:Hid (updN e b (freshZ tk) b = freshZ tk):=by unfold Hid updN;rw [if_pos rfl]
 have NEQ:=hide hN.ne
 clear hT hx hN ha hb hpn
 go_enter Tryz.func190,Tryz.ntmps190
 go_wp2_with ((go_at_call 188;(with_reducible refine (cb.out).mono ?_);rintro r w2 ⟨rfl,hN2,fx2⟩))
 replace p1:=fx2.cell (fun h=>h.elim HP.out.1 HP.out.2) p1
 replace p2:=fx2.cell (fun h=>h.elim HP.out.1 HP.out.2) p2
 replace p3:=fx2.cell (fun h=>h.elim HP.out.1 HP.out.2) p3
 have c1:=hide fun (w':World) (hb':Bl w2 w')=>name_b nb M a _ _ w' (hN2.bl hb') (.inl HA.out.1) HA.out.2
 have c2:=hide fun (w':World) (hb':Bl w2 w')=>name_b nb M b _ _ w' (hN2.bl hb') (.inr rfl) HB.out.2.2
 rw [hea.out] at c1
 rw [heb.out] at c2
 have HN2:=hide hN2
 have FX2:=hide fx2
 clear hN2 fx2 p0 p4
 generalize hfz:freshZ tk = fz at *
 generalize hea2:e a = ea at *
 refine AnyT.start 23 (fun w2=>w2.cell? ⟨p,1,none⟩= some (encI a)∧w2.cell? ⟨p,2,none⟩= some (encI b)∧w2.cell? ⟨p,3,none⟩= some (encP lb)) (fun j=>[].contains j) (by kernel_rfl) (by rfl) ?_
 have hHeld:(fun w2:World=>w2.cell? ⟨p,1,none⟩= some (encI a)∧w2.cell? ⟨p,2,none⟩= some (encI b)∧w2.cell? ⟨p,3,none⟩= some (encP lb)) w2.drew:=⟨p1,p2,p3⟩
 refine AnyT.tk 0 ?_
 refine AnyT.tk 1 ?_
 refine AnyT.tk 2 ?_
 refine AnyT.tk 3 ?_
 refine AnyT.ld 4 ?_
 refine AnyT.tk 7 ?_
 refine AnyT.tk 8 ?_
 refine AnyT.tk 9 ?_
 refine AnyT.tk 10 ?_
 refine AnyT.ld 11 ?_
 refine AnyT.tk 15 ?_
 refine AnyT.tk 16 ?_
 refine AnyT.tk 17 ?_
 refine AnyT.tk 18 ?_
 refine AnyT.ld 19 ?_
 try simp only [Act.put,sqa,sqb,sqc]
 refine AnyT.one (i:=5) rfl (by kernel_rfl) (fun K hK=>?_)
 go_simp
 go_at_call 189
 (with_reducible refine (c1.out _ (bl_drew (Bl.refl w2))).mono ?_)
 rintro e W5 ⟨rfl,b5⟩
 go_wp2_with fail
 refine hK.out _ _ ?_ ?_
 ·exact ⟨cell_kept b5 hHeld.1,cell_kept b5 hHeld.2.1,cell_kept b5 hHeld.2.2⟩
 intro hHeld
 clear hK K
 try simp only [Act.put,sqa,sqb,sqc]
 refine AnyT.tk 6 ?_
 try simp only [Act.put,sqa,sqb,sqc]
 refine AnyT.one (i:=12) rfl (by kernel_rfl) (fun K hK=>?_)
 go_simp
 go_at_call 189
 (with_reducible refine (c2.out _ ((bl_drew (Bl.refl w2)).trans b5)).mono ?_)
 rintro e W12 ⟨rfl,b12⟩
 go_wp2_with fail
 refine hK.out _ _ ?_ ?_
 ·exact ⟨cell_kept b12 hHeld.1,cell_kept b12 hHeld.2.1,cell_kept b12 hHeld.2.2⟩
 intro hHeld
 clear hK K
 try simp only [Act.put,sqa,sqb,sqc]
 refine AnyT.tk 13 ?_
 refine AnyT.tk 14 ?_
 try simp only [Act.put,sqa,sqb,sqc]
 refine AnyT.one (i:=20) rfl (by kernel_rfl) (fun K hK=>?_)
 go_simp
 go_at_call 148
 (with_reducible refine (ih.out _ _ (FX2.out.trans (.of_bl (((bl_drew (Bl.refl w2)).trans b5).trans b12)) (fun _ _ h=>h)) (HN2.out.bl (((bl_drew (Bl.refl w2)).trans b5).trans b12))).mono ?_)
 rintro e W20 ⟨rfl,h2,h3⟩
 go_wp2_with fail
 refine hK.out _ _ ?_ ?_
 ·exact ⟨h3.cell (fun h=>h.elim HP.out.1 HP.out.2) hHeld.1,h3.cell (fun h=>h.elim HP.out.1 HP.out.2) hHeld.2.1,h3.cell (fun h=>h.elim HP.out.1 HP.out.2) hHeld.2.2⟩
 intro hHeld
 clear hK K
 try simp only [Act.put,sqa,sqb,sqc]
 refine AnyT.tk 21 ?_
 refine AnyT.tk 22 ?_
 try simp only [Act.put,sqa,sqb,sqc]
 refine AnyT.done (by kernel_rfl) ?_
 have fxa:Hid (Fx (fun k=>k = nb∨k = M) w W20):=(FX2.out.trans (.of_bl (((bl_drew (Bl.refl w2)).trans b5).trans b12)) (fun _ _ h=>h)).trans h3 (fun _ _ h=>h)
 have H2:=hide h2
 have m1:=blk_cell (i:=1) h2.blk rfl
 have n1:=blk_free (i:=1) h2.blk
 clear h2 h3 b5 b12 hHeld p1 p2 p3
 go_wp2_with fail
 go_ret
 refine ⟨rfl,?_,fxa.out.trans (fx_set _ _ _ _) (fun k _ h=>.inl h)⟩
 refine ⟨blk_set H2.out.blk _ |>.trans (by rw [Bool.or_assoc];rfl),(H2.out.env.heap (fun hl=>(bx_set nb 1 W20 _).block M hl (Ne.symm NEQ.out))).narrow (fun _ h=>.inl h) |>.congr (fun y hy=>?_)⟩
 unfold updN
 rw [if_neg (by rintro rfl;exact HB.out.1 hy)]
end Go.Proofs.YtbibkgcbdnldbaaGreat
namespace Go.Proofs.YtbibkgcbdnldbaaGreat
open Go.RowKit
attribute [local go_sem] S_size S_toList S_lit S_get S_extract S_append drop_all
theorem nm_tl (F:Str→UInt8) (e:Nat→UInt8) (tk:Str):∀ t:Ts,t.tl.nm F e tk = (t.nm F e tk).tail
 | .nil=>rfl
 | .un k a b o r n=>rfl
 | .sum p n=>rfl
 | .part o l n=>rfl
theorem nm_dp (F:Str→UInt8) (t:Ts) (e:Nat→UInt8) (tk:Str):∀ j,(t.dp j).nm F e tk = (t.nm F e tk).drop j
 | 0=>rfl
 | j + 1=>by rw [Ts.dp,nm_tl,nm_dp F t e tk j,List.tail_drop]
theorem sc_tl {V:Nat→Prop}:∀ {t:Ts},t.sc V→t.tl.sc V
 | .nil,h=>h
 | .un k a b o r n,h=>h.2.2.2.2
 | .sum p n,h=>h.2
 | .part o l n,h=>h.2
theorem sc_dp {V:Nat→Prop} {t:Ts} (h:t.sc V):∀ j,(t.dp j).sc V
 | 0=>h
 | j + 1=>sc_tl (sc_dp h j)
theorem bn_tl {R:Nat→Prop}:∀ {t:Ts},t.bn R→t.tl.bn R
 | .nil,h=>h
 | .un k a b o r n,h=>h.2.2.2
 | .sum p n,h=>h.2
 | .part o l n,h=>h.2.2
theorem bn_dp {R:Nat→Prop} {t:Ts} (h:t.bn R):∀ j,(t.dp j).bn R
 | 0=>h
 | j + 1=>bn_tl (bn_dp h j)
theorem dp_end {t:Ts} {n:Nat} (h:t.len≤n):t.dp n = .nil:=by
 have h2:=dp_len t n
 cases hh:t.dp n with
 | nil=>rfl
 | un k a b o r n=>rw [hh] at h2;simp [Ts.len] at h2;omega
 | sum p n=>rw [hh] at h2;simp [Ts.len] at h2;omega
 | part o l n=>rw [hh] at h2;simp [Ts.len] at h2;omega
theorem SL.heap {w w':World} {base:Nat} {v:Value} {xs:List Str} (h:SL w base v xs) (hb:∀ k,v.ownBlock = some k→k < w.heap.size→w'.heap[k]? = w.heap[k]?):SL w' base v xs:=by
 refine ⟨h.1,h.2.imp id ?_⟩
 rintro ⟨g,cap,cur,h1,h2,h3,h4⟩
 exact ⟨g,cap,cur,h1,h2,(hb g (by rw [h1];rfl) (lt_of_block h3)).trans h3,h4⟩
theorem SL.fx {A:Nat→Prop} {w w':World} {base:Nat} {v:Value} {xs:List Str} (h:SL w base v xs) (hb:Fx A w w') (hA:∀ k,v.ownBlock = some k→¬ A k):SL w' base v xs:=
 h.heap (fun k hk hl=>hb.block k hl (hA k hk))
theorem take_snoc {l:List Str} {i:Nat} {x:Str} (h:l[i]? = some x):l.take (i + 1)= l.take i ++ [x]:=by rw [List.take_add_one,h];rfl
theorem nth_sum (q:Ts) (P:Nat→Prop) (p:Nat) (v:Value) (qs:List Nat) (nb M:Nat) (tk:Str) (bad:Bool) (V:Nat→Prop) (e:Nat→UInt8) (w:World)
  (hT:Thr w p 43 0 0 (.pointer none) v) (hr:RD P 75 encP w v qs) (hq:Ths P w q qs) (hy:q.ty false) (h2:2≤q.len) (hz:q.sz≤30000) (hsc:q.sc V) (hbn:q.bn RB) (hlt:∀ x,V x→x < 100000)
  (hP:P p∧¬ P nb∧¬ P M) (hN:Nmr w nb M tk bad V e) (ih:Hid (q.allL NmIH)):
  Calls Tryz.prog 190 #[encP nb,encP p] w (NmR (listS 43 (q.nm freshZ e tk)) (q.bd freshZ tk) nb M tk bad V e w):=by
 rcases hr.1.form with ⟨rfl,hq0⟩ | ⟨g1,cc1,cur1,rfl,-,-,hblk1,-,hcell1⟩
 ·have:=hq.len;rw [hq0] at this;simp at this;omega
 obtain ⟨p0,p1,p2,p3,p4⟩:=hT.c
 have p4b:=cell_kept (bl_alloc w (.cells #[] 9)) p4
 have hql:=hq.len
 have hPg:P g1:=hr.2 g1 rfl
 have hnm:=nm_le freshZ q e tk
 have hnl:=nm_len freshZ q e tk
 have HCELL:=hide hcell1
 have HQ:=hide hq
 have HY:=hide hy
 have HZ:=hide hz
 have HSC:=hide hsc
 have HBN:=hide hbn
 have HLT:=hide hlt
 have HP:=hide hP
 have HQL:=hide hql
 have H2:=hide h2
 have HPG:=hide hPg
 have HNM:=hide (And.intro hnm hnl)
 have hnb:=hide (lt_of_block hN.blk)
 have hMl:=hide hN.env.lt
 have HN0:=hide (hN.bl (bl_alloc w (.cells #[] 9)))
 have q0:(qs.length:Int)≤30000:=by have:=len_sz q;omega
 clear hT hr hq hy h2 hz hsc hbn hlt hP hN hql hnm hnl hblk1 hcell1 hPg
 generalize hX:q.nm freshZ e tk = X at *
 have HX:=hide hX
 clear hX
 go_enter Tryz.func190,Tryz.ntmps190
 go_wp2_with fail
 go_loopg [5,24] (qs.length + 1) (fun mm tv iv wr=>∃ (i:Nat) (acc:Bool),mm = qs.length + 1 - i∧iv = .int .i64 i∧Hid (i≤qs.length)∧Hid (SL wr w.heap.size tv (X.take i))∧Hid (Nmr wr nb M tk (bad || acc) V e)∧Hid ((acc || (q.dp i).bd freshZ tk)= q.bd freshZ tk)∧Hid (Fx (fun k=>k = nb∨k = M) w wr))
 case atStart=>exact ⟨0,false,rfl,rfl,Nat.zero_le _,SL.zero w (Nat.le_refl _),by unfold Hid;rw [Bool.or_false];exact HN0.out,by unfold Hid;rw [Bool.false_or];rfl,.of_bl (bl_alloc _ _)⟩
 case round =>
  obtain ⟨i,acc,hm,rfl,hi,hsl,hN,hbd,hfx⟩:=hrel
  have HM:=hide hm
  have r2:(0:Int)≤(i:Int):=by omega
  clear hm HN0 p0 p1 p2 p3 p4 p4b
  by_cases hlt:i < qs.length
  ·have r1:(i:Int) < qs.length:=by omega
   have hths:=(HQ.out.fx hfx.out (fun k hk h=>h.elim (fun e=>HP.out.2.1 (e ▸ hk)) (fun e=>HP.out.2.2 (e ▸ hk)))).dp i
   have hyi:=ty_dp HY.out i
   have hzi:=sz_dp q i
   have hsi:=sc_dp HSC.out i
   have hbi:=bn_dp HBN.out i
   have hii:=allL_dp ih.out i
   have hnx:q.dp (i + 1)= (q.dp i).tl:=rfl
   have hxi:=nm_dp freshZ q e tk i
   rw [HX.out] at hxi
   have HNX:=hide hnx
   have HLT2:=hide hlt
   obtain ⟨td,htd⟩:∃ td,td = q.dp i:=⟨_,rfl⟩
   rw [← htd] at hths hyi hzi hsi hbi hii hbd hxi
   have HTD:=hide htd
   clear hnx hlt htd
   cases td with
   | nil=>
     have h1:=hths.len
     simp only [List.length_drop,Ts.len] at h1
     have:=HLT2.out
     omega
   | un k a1 b1 o1 r n2=>simp [Ts.ty] at hyi
   | sum q2 n2=>simp [Ts.ty] at hyi
   | part o1 l1 n2=>
     obtain ⟨pp,ps2,vo2,vt2,qs2,hps2,hPp,h4,h5,h6,h8,-⟩:=hths
     have hcp:=hfx.out.cell (fun h=>h.elim (fun e=>HP.out.2.1 (e ▸ HPG.out)) (fun e=>HP.out.2.2 (e ▸ HPG.out))) (HCELL.out i pp (drop_head hps2))
     have hlies:Lies2 P wr o1 l1 pp:=⟨hPp,vo2,vt2,qs2,h4,h5,h6,h8⟩
     have hlv:LvH o1 l1 V:=⟨hyi.2.1,by have:=HZ.out;simp only [Ts.sz] at hzi;omega,hsi.1,hbi.1,hbi.2.1,HLT.out⟩
     have i1:=hide (hii.1 V e tk (bad || acc) nb M P pp wr hlv hlies HP.out.2.1 HP.out.2.2 hN.out)
     obtain ⟨x,hx⟩:∃ x,x = levelS freshZ o1 l1.isNil (l1.nm freshZ) e tk:=⟨_,rfl⟩
     rw [← hx] at i1
     have hXi:X[i]? = some x:=by
      have:=congrArg (fun l=>l[0]?) hxi
      simp only [List.getElem?_drop,Nat.add_zero,Ts.nm] at this
      rw [← this,hx];rfl
     have HTN:Hid (q.dp (i + 1)= n2):=by unfold Hid;rw [HNX.out,← HTD.out];rfl
     have hbd2:Hid (((acc || levelB freshZ o1 l1.isNil (l1.bd freshZ) tk) || n2.bd freshZ tk)= q.bd freshZ tk):=by
      have:=hbd.out
      simp only [Ts.bd] at this
      unfold Hid;rw [Bool.or_assoc];exact this
     have hcap:Hid ((X.take i).length + [x].length≤100000):=by
      have h1:=HNM.out.2
      have h2:=len_sz q
      have h3:=HZ.out
      unfold Hid;rw [List.length_take];simp;omega
     have hsn:=hide (take_snoc hXi)
     clear hPp h4 h5 h6 h8 hii hsi hbi hyi hzi hps2 HTD HNX hbd hlies hlv hx hXi hN hxi
     go_wp2_with (first | (go_at_call 148;(with_reducible refine (i1.out).mono ?_);rintro rr w2 ⟨rfl,hN2,hfx2⟩;have hs2:=hsl.out.fx hfx2 (fun k hk h=>by have h1:=(SL.lt hsl.out k hk).1;have h2:=hnb.out;have h3:=hMl.out;omega);have hz2:=hide (Nat.le_trans hfx.out.size hfx2.size)) | (at_builtin;(have t1:=SL.bl hs2 (bl_alloc _ (.cells #[.string (S x)] 9));refine sl_op (w2.alloc (.cells #[.string (S x)] 9)) (.tmp 28) (.tmp 32) w.heap.size u5 (.slice (some ⟨w2.heap.size,0,none⟩) 1 1) (X.take i) [x] rfl rfl rfl rfl t1 (SL.one w2 x (Nat.le_refl _)).src hcap.out (Nat.le_trans hz2.out (Below.size (bl_alloc _ _))) ?_;clear t1;intro v3 w3 hs3 hg3 ha3)))
     have hown:∀ k,u5.ownBlock = some k→w.heap.size≤k:=fun k hk=>(SL.lt hsl.out k hk).1
     have fx23:Fx (fun k=>u5.ownBlock = some k) w2 w3:=(Fx.of_bl (bl_alloc _ _)).trans (fx_grown hg3) (fun _ _ h=>h)
     have hN3:=hN2.fx fx23 (fun h=>by have h1:=hown _ h;have h2:=hnb.out;omega) (fun h=>by have h1:=hown _ h;have h2:=hMl.out;omega)
     have fx3:Fx (fun k=>k = nb∨k = M) w w3:=(hfx.out.trans hfx2 (fun _ _ h=>h)).trans fx23 (fun k hk h=>by have h1:=hown _ h;omega)
     go_roundg (qs.length + 1 - (i + 1))
     case measure=>have:=HM.out;have:=HLT2.out;omega
     case rel=>
      refine ⟨i + 1,(acc || levelB freshZ o1 l1.isNil (l1.bd freshZ) tk),rfl,by go_num,HLT2.out,?_,?_,?_,fx3⟩
      ·unfold Hid;rw [hsn.out];exact hs3
      ·unfold Hid;rw [← Bool.or_assoc];exact hN3
      ·unfold Hid;rw [HTN.out];exact hbd2.out
  ·have hi':i = qs.length:=by have:=hi.out;omega
   subst hi'
   have r1:¬ (qs.length:Int) < qs.length:=by omega
   have hend:Hid (acc = q.bd freshZ tk):=by
    have h1:=hbd.out
    rw [dp_end (by have:=HQL.out;omega)] at h1
    simp only [Ts.bd,Bool.or_false] at h1
    exact h1
   have hXl:X.length = qs.length:=by have h1:=HNM.out.2;have h2:=HQL.out;omega
   have hsl2:SL wr w.heap.size u5 X:=by
    have h1:=hsl.out
    rw [List.take_of_length_le (by omega)] at h1;exact h1
   rcases hsl2.form with ⟨e1,e2⟩ | ⟨g,c,e1,hg1,hg2,-⟩
   ·exfalso;rw [e2] at hXl;have h1:=H2.out;have h2:=HQL.out;simp at hXl;omega
   subst e1
   have cl:=hide (list_c w.heap.size g c X 43 wr hsl2 (by have h1:=H2.out;have h2:=HQL.out;omega) (by have h1:=HZ.out;have h2:=len_sz q;have h3:=HQL.out;omega) (by have h1:=HNM.out.1;have h2:=HZ.out;omega))
   have HG:=hide hg1
   clear hlt hsl hsl2 hXl hg1 hg2 hbd
   go_wp2_with ((go_at_call 191;(with_reducible refine (cl.out).mono ?_);rintro rr w4 ⟨rfl,fx4⟩))
   go_ret
   refine ⟨rfl,?_,?_⟩
   ·have:=hN.out.fx fx4 (fun h=>by have h1:=HG.out;have h2:=hnb.out;omega) (fun h=>by have h1:=HG.out;have h2:=hMl.out;omega)
    rw [hend.out] at this;exact this
   ·exact hfx.out.trans fx4 (fun k hk h=>by have h1:=HG.out;omega)
end Go.Proofs.YtbibkgcbdnldbaaGreat
namespace Go.Proofs.YtbibkgcbdnldbaaGreat
open Go.RowKit
attribute [local go_sem] S_size S_toList S_lit S_get S_extract S_append drop_all
theorem nth_c (td:Ts) (P:Nat→Prop) (p:Nat) (ps:List Nat) (nb M:Nat) (tk:Str) (bad:Bool) (V:Nat→Prop) (e:Nat→UInt8) (w:World)
  (hT:Ths P w td (p :: ps)) (hy:td.ty true) (hz:td.sz≤30000) (hsc:td.sc V) (hbn:td.bn RB) (hlt:∀ x,V x→x < 100000) (hP:¬ P nb∧¬ P M) (hN:Nmr w nb M tk bad V e) (ih:td.allL NmIH):
  ∃ x hb,td.nm freshZ e tk = x :: td.tl.nm freshZ e tk∧td.bd freshZ tk = (hb || td.tl.bd freshZ tk)∧x.length≤10 * td.sz∧Calls Tryz.prog 190 #[encP nb,encP p] w (NmR x hb nb M tk bad V e w):=by
 have hln:=nm_le freshZ td e tk
 have key:∀ {x:Str} {l:List Str},td.nm freshZ e tk = x :: l→x.length≤10 * td.sz:=fun {x l} h=>by
  rw [h] at hln;simp only [total,List.map_cons,List.sum_cons] at hln;omega
 cases td with
 | nil=>have:=hT.len;simp [Ts.len] at this
 | part o l n=>simp [Ts.ty] at hy
 | sum q n=>
   obtain ⟨p',ps',v,qs,h1,h2,h3,h4,h5,-⟩:=hT
   obtain ⟨rfl,-⟩:=List.cons.inj h1
   simp only [Ts.sz] at hz
   exact ⟨_,_,rfl,rfl,key rfl,nth_sum q P p v qs nb M tk bad V e w h3 h4 h5 hy.2.2.1 hy.2.1 (by omega) hsc.1 hbn.1 hlt ⟨h2,hP.1,hP.2⟩ hN ih.1⟩
 | un k a b o r n=>
   obtain ⟨p',ps',lb,vo,vt,qs,h1,h2,h3,h4,h5,h6,h7,h8,-⟩:=hT
   obtain ⟨rfl,-⟩:=List.cons.inj h1
   have hlies:Lies2 P w o r lb:=⟨h4,vo,vt,qs,h5,h6,h7,h8⟩
   obtain ⟨s1,s2,s3,s4,s5⟩:=hsc
   obtain ⟨b1,b2,b3,b4⟩:=hbn
   have hzz:o.length + r.sz≤30000:=by simp only [Ts.sz] at hz;omega
   have hpn:p≠nb∧p≠M:=⟨fun h=>hP.1 (h ▸ h2),fun h=>hP.2 (h ▸ h2)⟩
   have lvl:∀ e tk,(levelS freshZ o r.isNil (r.nm freshZ) e tk).length≤1000000:=fun e tk=>by
    have:=levelS_le (F:=freshZ) (o:=o) (z:=r.isNil) (e:=e) (tk:=tk) (nm_le freshZ r);omega
   have hnm:(Ts.un k a b o r n).nm freshZ e tk = _ :: n.nm freshZ e tk:=rfl
   by_cases h63:k = 63
   ·subst h63
    have e1:(fun x=>V x∨((63:UInt8)= 63∧x = b))= fun y=>V y∨y = b:=by funext x;simp
    rw [e1] at s4
    have hlv:LvH o r (fun y=>V y∨y = b):=⟨hy.2.2.1,hzz,s4,b2,b3,fun x hx=>hx.elim (hlt x) (fun h=>h ▸ (b1 rfl).2)⟩
    refine ⟨_,_,rfl,?_,key rfl,nth_recv p a b lb (levelS freshZ o r.isNil (r.nm freshZ) (updN e b (freshZ tk)) (freshZ tk :: tk)) (levelB freshZ o r.isNil (r.bd freshZ) (freshZ tk :: tk)) nb M tk bad V e w h3 (lvl _ _) hN ⟨s1 rfl,hlt _ (s1 rfl)⟩ ⟨s3 rfl,b1 rfl⟩ hpn
     (fun bad w' hf hN'=>ih.1 _ _ _ bad nb M P lb w' hlv (hlies.fx hf (fun k hk h=>h.elim (fun e=>hP.1 (e ▸ hk)) (fun e=>hP.2 (e ▸ hk)))) hP.1 hP.2 hN')⟩
    rfl
   ·have e1:(fun x=>V x∨(k = 63∧x = b))= V:=by funext x;simp [h63]
    rw [e1] at s4
    have hlv:LvH o r V:=⟨hy.2.2.1,hzz,s4,b2,b3,hlt⟩
    have i1:Hid (∀ w',Bl w w'→Calls Tryz.prog 148 #[encP nb,encP lb] w' (NmR (levelS freshZ o r.isNil (r.nm freshZ) e tk) (levelB freshZ o r.isNil (r.bd freshZ) tk) nb M tk bad V e w')):=
     fun w' hb=>ih.1 V e tk bad nb M P lb w' hlv (hlies.bl hb) hP.1 hP.2 (hN.bl hb)
    have hbd:(Ts.un k a b o r n).bd freshZ tk = (levelB freshZ o r.isNil (r.bd freshZ) tk || n.bd freshZ tk):=by simp only [Ts.bd,if_neg h63]
    rcases hy.2.1 with rfl | rfl | rfl | rfl | rfl
    ·exact (h63 rfl).elim
    ·refine ⟨_,_,rfl,hbd,key rfl,nth_send p a b lb _ _ nb M tk bad V e w h3 (lvl _ _) hN ⟨s1 rfl,hlt _ (s1 rfl)⟩ ⟨s2 (.inl rfl),hlt _ (s2 (.inl rfl))⟩ hpn i1⟩
    ·refine ⟨_,_,rfl,hbd,key rfl,nth_test p a b lb _ _ nb M tk bad V e w h3 (lvl _ _) hN ⟨s1 rfl,hlt _ (s1 rfl)⟩ ⟨s2 (.inr rfl),hlt _ (s2 (.inr rfl))⟩ i1⟩
    ·refine ⟨_,_,rfl,hbd,key rfl,nth_pre 42 (.inl rfl) p a b lb _ _ nb M tk bad V e w h3 (lvl _ _) (hide (i1.out w (Bl.refl w)))⟩
    ·refine ⟨_,_,rfl,hbd,key rfl,nth_pre 126 (.inr rfl) p a b lb _ _ nb M tk bad V e w h3 (lvl _ _) (hide (i1.out w (Bl.refl w)))⟩
theorem takeS_snoc (F:Str→UInt8):∀ (n:Nat) (tk:Str),takeS F (n + 1) tk = F (takeS F n tk):: takeS F n tk
 | 0,tk=>rfl
 | n + 1,tk=>by rw [takeS,takeS_snoc F n];rfl
theorem headS_snoc (F:Str→UInt8):∀ (n:Nat) (tk:Str),headS F (n + 1) tk = headS F n tk ++ [35,F (takeS F n tk),46]
 | 0,tk=>rfl
 | n + 1,tk=>by rw [headS,headS_snoc F n];rfl
theorem badS_snoc (F:Str→UInt8):∀ (n:Nat) (tk:Str),badS F (n + 1) tk = (badS F n tk || (freshS (takeS F n tk)).isNone)
 | 0,tk=>by simp [badS,takeS]
 | n + 1,tk=>by rw [badS,badS_snoc F n,← Bool.or_assoc];rfl
theorem bindS_snoc (F:Str→UInt8):∀ (l:List Nat) (x:Nat) (e:Nat→UInt8) (tk:Str),bindS F (l ++ [x]) e tk = updN (bindS F l e tk) x (F (takeS F l.length tk))
 | [],x,e,tk=>rfl
 | y :: l,x,e,tk=>by rw [List.cons_append,bindS,bindS_snoc F l];rfl
theorem bindS_out {F:Str→UInt8}:∀ {o:List Nat} {e:Nat→UInt8} {tk:Str} {x:Nat},x∉o→bindS F o e tk x = e x
 | [],_,_,_,_=>rfl
 | y :: o,e,tk,x,h=>by
   rw [List.mem_cons,not_or] at h
   rw [bindS,bindS_out h.2,updN,if_neg h.1]
end Go.Proofs.YtbibkgcbdnldbaaGreat
namespace Go.Proofs.YtbibkgcbdnldbaaGreat
open Go.RowKit
attribute [local go_sem] S_size S_toList S_lit S_get S_extract S_append drop_all
structure Bxs (w:World) (O N L B F:Nat) (vo:Value) (nb lb:Nat) (s tk:Str):Prop where
 o:w.heap[O]? = some (.cells #[vo] 36 (0,0))
 n:w.heap[N]? = some (.cells #[encP nb] 154 (0,0))
 l:w.heap[L]? = some (.cells #[encP lb] 75 (0,0))
 b:w.heap[B]? = some (.cells #[.string (S s)] 9 (0,0))
 f:w.heap[F]? = some (.cells #[.int .u32 (msk tk)] 134 (0,0))
theorem Bxs.fx {A:Nat→Prop} {w w':World} {O N L B F:Nat} {vo:Value} {nb lb:Nat} {s tk:Str} (h:Bxs w O N L B F vo nb lb s tk) (hb:Fx A w w') (h1:¬ A O) (h2:¬ A N) (h3:¬ A L) (h4:¬ A B) (h5:¬ A F):Bxs w' O N L B F vo nb lb s tk:=
 ⟨hb.heap h1 h.o,hb.heap h2 h.n,hb.heap h3 h.l,hb.heap h4 h.b,hb.heap h5 h.f⟩
structure Apart (O N L B F nb M:Nat):Prop where
 o:O≠nb∧O≠M∧O≠B
 n:N≠nb∧N≠M∧N≠B
 l:L≠nb∧L≠M∧L≠B
 b:B≠nb∧B≠M
 f:F≠nb∧F≠M∧F≠B
def ordS (t:Ts) (e:Nat→UInt8) (tk:Str) (l:List Nat):Str:=headS freshZ l.length tk ++ listS 38 (t.nm freshZ (bindS freshZ l e tk) (takeS freshZ l.length tk))
def bst (s x:Str):Str:=if s = []∨x < s then x else s
theorem bst_new {s x:Str} (h:s = []∨x < s):bst s x = x:=if_pos h
theorem bst_old {s x:Str} (h:¬ (s = []∨x < s)):bst s x = s:=if_neg h
def CloR (O N L B F:Nat) (vo:Value) (nb M lb:Nat) (s tk:Str) (bad:Bool) (V:Nat→Prop) (e:Nat→UInt8) (w:World) (r:Ending) (w':World):Prop:=
 r = .returned (.tuple #[])∧Bxs w' O N L B F vo nb lb s tk∧Nmr w' nb M tk bad V e∧Fx (fun k=>k = nb∨k = M∨k = B) w w'
theorem clo_new {O N L B F nb M lb:Nat} {vo:Value} {s tk tk2:Str} {bd:Bool} {V V2:Nat→Prop} {e e2:Nat→UInt8} {w w5:World} (hB:Bxs w5 O N L B F vo nb lb s tk) (hap:Apart O N L B F nb M) (hN:Nmr w5 nb M tk2 bd V2 e2)
  (hf:Fx (fun k=>k = nb∨k = M) w w5) (hV:∀ x,V x→V2 x) (he:∀ x,V x→e2 x = e x) (y:Str):
  CloR O N L B F vo nb M lb y tk bd V e w (.returned (.tuple #[])) ((w5.setCell ⟨B,0,none⟩ (.string (S y))).setCell ⟨nb,1,none⟩ (.int .u32 (msk tk))):=by
 refine ⟨rfl,⟨?_,?_,?_,?_,?_⟩,⟨?_,?_⟩,?_⟩
 ·exact blk_set_ne (blk_set_ne hB.o hap.o.2.2 _) hap.o.1 _
 ·exact blk_set_ne (blk_set_ne hB.n hap.n.2.2 _) hap.n.1 _
 ·exact blk_set_ne (blk_set_ne hB.l hap.l.2.2 _) hap.l.1 _
 ·exact blk_set_ne (blk_set hB.b _) hap.b.1 _
 ·exact blk_set_ne (blk_set_ne hB.f hap.f.2.2 _) hap.f.1 _
 ·exact blk_set (blk_set_ne hN.blk (Ne.symm hap.b.1) _) _
 ·refine ((hN.env.heap (fun hl=>?_)).narrow hV).congr he
  exact ((bx_set nb 1 _ _).block M (by simpa [World.setCell] using hl) (Ne.symm hN.ne)).trans ((bx_set B 0 w5 _).block M hl (Ne.symm hap.b.2))
 ·exact ((hf.weaken (B:=fun k=>k = nb∨k = M∨k = B) (fun k _ h=>h.elim .inl (fun h=>.inr (.inl h)))).trans (fx_set _ _ _ _) (fun k _ h=>.inr (.inr h))).trans (fx_set _ _ _ _) (fun k _ h=>.inl h)
theorem clo_old {O N L B F nb M lb:Nat} {vo:Value} {s tk tk2:Str} {bd:Bool} {V V2:Nat→Prop} {e e2:Nat→UInt8} {w w5:World} (hB:Bxs w5 O N L B F vo nb lb s tk) (hap:Apart O N L B F nb M) (hN:Nmr w5 nb M tk2 bd V2 e2)
  (hf:Fx (fun k=>k = nb∨k = M) w w5) (hV:∀ x,V x→V2 x) (he:∀ x,V x→e2 x = e x):
  CloR O N L B F vo nb M lb s tk bd V e w (.returned (.tuple #[])) (w5.setCell ⟨nb,1,none⟩ (.int .u32 (msk tk))):=by
 refine ⟨rfl,⟨?_,?_,?_,?_,?_⟩,⟨?_,?_⟩,?_⟩
 ·exact blk_set_ne hB.o hap.o.1 _
 ·exact blk_set_ne hB.n hap.n.1 _
 ·exact blk_set_ne hB.l hap.l.1 _
 ·exact blk_set_ne hB.b hap.b.1 _
 ·exact blk_set_ne hB.f hap.f.1 _
 ·exact blk_set hN.blk _
 ·refine ((hN.env.heap (fun hl=>?_)).narrow hV).congr he
  exact (bx_set nb 1 _ _).block M hl (Ne.symm hN.ne)
 ·exact (hf.weaken (B:=fun k=>k = nb∨k = M∨k = B) (fun k _ h=>h.elim .inl (fun h=>.inr (.inl h)))).trans (fx_set _ _ _ _) (fun k _ h=>.inl h)
theorem clo_c (o l:List Nat) (t:Ts) (V:Nat→Prop) (e:Nat→UInt8) (tk s:Str) (bad:Bool) (O N L B F nb M lb:Nat) (A:Option Addr) (cap:Nat) (P:Nat→Prop) (w:World)
  (hl:l.Perm o) (H:LvH o t V) (hnil:t≠.nil) (ih:Hid (t.allL NmIH))
  (hA:Hid (∀ (j x:Nat),l[j]? = some x→∃ g,A = some ⟨g,0,none⟩∧w.cell? ⟨g,j,none⟩= some (encI x)∧g≠nb∧g≠M))
  (hB:Bxs w O N L B F (.slice A l.length cap) nb lb s tk) (hap:Apart O N L B F nb M) (hL:Lies2 P w o t lb) (hP:¬ P nb∧¬ P M∧¬ P B) (hs:s.length≤1000000) (hN:Nmr w nb M tk bad V e):
  Calls Tryz.prog 187 #[encP O,encP N,encP L,encP B,encP F] w
   (CloR O N L B F (.slice A l.length cap) nb M lb (bst s (ordS t e tk l)) tk (bad || levelB freshZ o t.isNil (t.bd freshZ) tk) V e w):=by
 have HLL:=hide hl.length_eq
 have HL:=hide hL
 have HH:=hide H
 have HB:=hide hB
 have HAP:=hide hap
 have HP:=hide hP
 have HN:=hide hN
 have HPM:=hide hl
 have u0:=blk_cell (i:=0) hB.o rfl
 have q0:(l.length:Int)≤30000:=by have h1:=H.sz;have h2:=HLL.out;omega
 have HS:=hide hs
 have HNIL:=hide hnil
 obtain ⟨hPb,vo',vt',qs,hlv,-,hrt,hths⟩:=hL
 have hql:=hths.len
 have htl:0 < t.len:=by
  cases t with
  | nil=>exact (hnil rfl).elim
  | un k a b o r n=>simp [Ts.len]
  | sum p n=>simp [Ts.len]
  | part o l n=>simp [Ts.len]
 rcases hrt.1.form with ⟨rfl,hq0⟩ | ⟨g1,cc1,cur1,rfl,-,-,hblk1,-,hcell1⟩
 ·rw [hq0] at hql;simp at hql;omega
 have hPg:P g1:=hrt.2 g1 rfl
 have HCELL:=hide hcell1
 have HTHS:=hide hths
 have HQL:=hide hql
 have HTL:=hide htl
 have HPG:=hide hPg
 have HPB:=hide hPb
 have hlb1:=hide (blk_cell (i:=1) hlv rfl)
 have hnbl:=hide (lt_of_block hN.blk)
 have hMl:=hide hN.env.lt
 have q10:(qs.length:Int)≤30000:=by have h1:=len_sz t;have h2:=H.sz;omega
 clear H hB hap hP hN hl hs hnil hlv hrt hths hql htl hblk1 hcell1 hPg hPb
 go_enter Tryz.func187,Tryz.ntmps187
 go_wp2_with fail
 go_loopg [5,14] (l.length + 1) (fun mm hv iv wr=>∃ j:Nat,mm = l.length + 1 - j∧iv = .int .i64 j∧Hid (j≤l.length)∧hv = .string (S (headS freshZ j tk))∧Hid (Nmr wr nb M (takeS freshZ j tk) (bad || badS freshZ j tk) (fun y=>V y∨y∈l.take j) (bindS freshZ (l.take j) e tk))∧Hid (Fx (fun k=>k = nb∨k = M) w wr))
 case atStart=>exact ⟨0,rfl,rfl,Nat.zero_le _,rfl,by unfold Hid;simpa [badS,takeS,bindS] using HN.out,.refl _ _⟩
 case round =>
  obtain ⟨j,hm,rfl,hj,rfl,hn,hfx⟩:=hrel
  have HM:=hide hm
  have r2:(0:Int)≤(j:Int):=by omega
  have hhl:=headS_len freshZ j tk
  clear hm u0
  by_cases hlt:j < l.length
  ·have r1:(j:Int) < l.length:=by omega
   obtain ⟨x,hx⟩:∃ x,l[j]? = some x:=⟨_,List.getElem?_eq_getElem hlt⟩
   obtain ⟨g,rfl,hcell,hg1,hg2⟩:=hA.out j x hx
   have hcw:=hfx.out.cell (fun h=>h.elim hg1 hg2) hcell
   have hxo:x∈o:=HPM.out.mem_iff.1 (List.mem_of_getElem? hx)
   have hxr:=HH.out.bo x hxo
   have hn0:=blk_cell (i:=0) (hfx.out.heap (fun h=>h.elim HAP.out.n.1 HAP.out.n.2.1) HB.out.n) rfl
   have hsn:l.take (j + 1)= l.take j ++ [x]:=by rw [List.take_add_one,hx];rfl
   have cb:=hide (bind_c nb M x _ _ wr hn.out hxr.1 hxr.2)
   have htl:(l.take j).length = j:=by rw [List.length_take];omega
   have hb1:Hid (updN (bindS freshZ (l.take j) e tk) x (freshZ (takeS freshZ j tk))= bindS freshZ (l.take (j + 1)) e tk):=by unfold Hid;rw [hsn,bindS_snoc,htl]
   have hb2:Hid (freshZ (takeS freshZ j tk):: takeS freshZ j tk = takeS freshZ (j + 1) tk):=(takeS_snoc freshZ j tk).symm
   have hb3:Hid (((bad || badS freshZ j tk) || (freshS (takeS freshZ j tk)).isNone)= (bad || badS freshZ (j + 1) tk)):=by unfold Hid;rw [badS_snoc,Bool.or_assoc]
   have hb4:Hid ((fun y=>(V y∨y∈l.take j)∨y = x)= fun y=>V y∨y∈l.take (j + 1)):=by
    unfold Hid;funext y;rw [hsn];simp [or_assoc]
   have hb5:Hid (bindS freshZ (l.take (j + 1)) e tk x = freshZ (takeS freshZ j tk)):=by unfold Hid;rw [← hb1.out,updN,if_pos rfl]
   have hb6:Hid (headS freshZ (j + 1) tk = headS freshZ j tk ++ [35,freshZ (takeS freshZ j tk),46]):=headS_snoc _ _ _
   have hxin:Hid (V x∨x∈l.take (j + 1)):=.inr (by rw [hsn];simp)
   rw [hb1.out,hb2.out,hb3.out,hb4.out] at cb
   have hxr2:=hide hxr
   have HLT:=hide hlt
   clear hx hlt hsn htl hxo hxr hcell
   have q5:((headS freshZ j tk).length:Int)≤90000:=by omega
   clear hhl
   generalize headS freshZ j tk = HD at *
   go_wp2_with (first | (go_at_call 188;(with_reducible refine (cb.out).mono ?_);rintro rr w2 ⟨rfl,hn2,hfx2⟩;have hn02:=hfx2.cell (fun h=>h.elim HAP.out.n.1 HAP.out.n.2.1) hn0;have cn:=hide (name_c nb M x _ _ w2 hn2 hxin.out hxr2.out.2);rw [hb5.out] at cn) | (go_at_call 189;(with_reducible refine (cn.out).mono ?_);rintro rr w3 ⟨rfl,rfl⟩))
   go_roundg (l.length + 1 - (j + 1))
   case measure=>have:=HM.out;have:=HLT.out;omega
   case rel=>
    refine ⟨j + 1,rfl,by go_num,HLT.out,by rw [hb6.out] <;> simp,hn2,hfx.out.trans hfx2 (fun _ _ h=>h)⟩
  ·have hj':j = l.length:=by have:=hj.out;omega
   subst hj'
   have r1:¬ (l.length:Int) < l.length:=by omega
   rw [List.take_of_length_le (Nat.le_refl _)] at hn
   obtain ⟨wo,hwo⟩:∃ x,x = wr:=⟨_,rfl⟩
   subst hwo
   have ba:=bl_alloc wo (.cells #[] 9)
   have nNot:∀ k,P k→¬ (k = nb∨k = M):=fun k hk h=>h.elim (fun e=>HP.out.1 (e ▸ hk)) (fun e=>HP.out.2.1 (e ▸ hk))
   have HBX:=hide (HB.out.fx hfx.out (fun h=>h.elim HAP.out.o.1 HAP.out.o.2.1) (fun h=>h.elim HAP.out.n.1 HAP.out.n.2.1) (fun h=>h.elim HAP.out.l.1 HAP.out.l.2.1) (fun h=>h.elim HAP.out.b.1 HAP.out.b.2) (fun h=>h.elim HAP.out.f.1 HAP.out.f.2.1))
   have hl0:=cell_kept ba (blk_cell (i:=0) HBX.out.l rfl)
   have hl1:=cell_kept ba (hfx.out.cell (nNot _ HPB.out) hlb1.out)
   obtain ⟨e2,he2⟩:∃ e2,e2 = bindS freshZ l e tk:=⟨_,rfl⟩
   obtain ⟨tk2,htk2⟩:∃ tk2,tk2 = takeS freshZ l.length tk:=⟨_,rfl⟩
   obtain ⟨bd1,hbd1⟩:∃ bd1,bd1 = (bad || badS freshZ l.length tk):=⟨_,rfl⟩
   obtain ⟨V2,hV2⟩:∃ V2:Nat→Prop,V2 = fun y=>V y∨y∈l:=⟨_,rfl⟩
   rw [← he2,← htk2,← hbd1,← hV2] at hn
   have HVo:Hid (V2 = fun y=>V y∨y∈o):=by unfold Hid;rw [hV2];funext y;rw [HPM.out.mem_iff]
   have HDEF:=hide (And.intro he2 (And.intro htk2 (And.intro hbd1 hV2)))
   have hsc2:Hid (t.sc V2):=by unfold Hid;rw [HVo.out];exact HH.out.sc.2.2
   have hlt2:Hid (∀ x,V2 x→x < 100000):=by
    intro x hx;rw [HVo.out] at hx
    exact hx.elim (HH.out.lt x) (fun h=>(HH.out.bo x h).2)
   obtain ⟨X,hX⟩:∃ X,X = t.nm freshZ e2 tk2:=⟨_,rfl⟩
   have HX:=hide hX
   have HNM:Hid (total X + 3 * X.length≤10 * t.sz∧X.length = t.len):=⟨by rw [hX];exact nm_le freshZ t e2 tk2,by rw [hX];exact nm_len freshZ t e2 tk2⟩
   have hzw:=hide (hfx.out.size)
   have HN0:=hide (hn.out.bl ba)
   clear he2 htk2 hbd1 hV2 hX hlt
   go_wp2_with fail
   go_loopg [8,35] (qs.length + 1) (fun mm tv iv wk=>∃ (i:Nat) (acc:Bool),mm = qs.length + 1 - i∧iv = .int .i64 i∧Hid (i≤qs.length)∧Hid (SL wk wo.heap.size tv (X.take i))∧Hid (Nmr wk nb M tk2 (bd1 || acc) V2 e2)∧Hid ((acc || (t.dp i).bd freshZ tk2)= t.bd freshZ tk2)∧Hid (Fx (fun k=>k = nb∨k = M) wo wk))
   case atStart=>exact ⟨0,false,rfl,rfl,Nat.zero_le _,SL.zero wo (Nat.le_refl _),by unfold Hid;rw [Bool.or_false];exact HN0.out,by unfold Hid;rw [Bool.false_or];rfl,.of_bl ba⟩
   case round=>
    obtain ⟨i,acc,hm2,rfl,hi,hsl,hN,hbd,hfx2⟩:=hrel
    have HM2:=hide hm2
    have r3:(0:Int)≤(i:Int):=by omega
    clear hm2 hl0 hl1 ba
    have hfxw:=hfx.out.trans hfx2.out (fun _ _ h=>h)
    by_cases hlt:i < qs.length
    ·have r4:(i:Int) < qs.length:=by omega
     have hth:=(HTHS.out.fx hfxw nNot).dp i
     obtain ⟨p,hp⟩:∃ p,qs[i]? = some p:=⟨_,List.getElem?_eq_getElem hlt⟩
     have hdr:qs.drop i = p :: qs.drop (i + 1):=by
      obtain ⟨h1,h2⟩:=List.getElem?_eq_some_iff.1 hp
      rw [List.drop_eq_getElem_cons h1,h2]
     rw [hdr] at hth
     have hcp:=hfxw.cell (nNot _ HPG.out) (HCELL.out i p hp)
     have hbn0:=hfx2.out.cell (fun h=>h.elim HAP.out.n.1 HAP.out.n.2.1) (blk_cell (i:=0) HBX.out.n rfl)
     have hzi:(t.dp i).sz≤30000:=by have h1:=sz_dp t i;have h2:=HH.out.sz;omega
     obtain ⟨x,hb,e1,e2',e3,cT⟩:=nth_c (t.dp i) P p _ nb M tk2 (bd1 || acc) V2 e2 wr hth (ty_dp HH.out.ty i) hzi (sc_dp hsc2.out i) (bn_dp HH.out.bt i) hlt2.out ⟨HP.out.1,HP.out.2.1⟩ hN.out (allL_dp ih.out i)
     have CT:=hide cT
     have hXi:X[i]? = some x:=by
      have h1:=nm_dp freshZ t e2 tk2 i
      rw [e1,← HX.out] at h1
      have:=congrArg (fun l=>l[0]?) h1
      simp only [List.getElem?_drop,Nat.add_zero] at this
      exact this.symm
     have hbd2:Hid (((acc || hb) || (t.dp (i + 1)).bd freshZ tk2)= t.bd freshZ tk2):=by
      have h1:=hbd.out
      rw [e2',← Bool.or_assoc] at h1
      exact h1
     have hcap:Hid ((X.take i).length + [x].length≤100000):=by
      have h1:=HNM.out.2
      have h2:=len_sz t
      have h3:=HH.out.sz
      unfold Hid;rw [List.length_take];simp;omega
     have hsn:=hide (take_snoc hXi)
     have HLT2:=hide hlt
     clear hlt hth hp hdr hzi e1 e2' e3 cT hXi hbd hhl
     go_wp2_with (first | (go_at_call 190;(with_reducible refine (CT.out).mono ?_);rintro rr w2 ⟨rfl,hN2,hfx3⟩;have hs2:=hsl.out.fx hfx3 (fun k hk h=>by have h1:=(SL.lt hsl.out k hk).1;have h2:=hnbl.out;have h3:=hMl.out;have h4:=hzw.out;omega);have hz2:=hide (Nat.le_trans hfx2.out.size hfx3.size)) | (at_builtin;(have t1:=SL.bl hs2 (bl_alloc _ (.cells #[.string (S x)] 9));refine sl_op (w2.alloc (.cells #[.string (S x)] 9)) (.tmp 39) (.tmp 43) wo.heap.size u8 (.slice (some ⟨w2.heap.size,0,none⟩) 1 1) (X.take i) [x] rfl rfl rfl rfl t1 (SL.one w2 x (Nat.le_refl _)).src hcap.out (Nat.le_trans hz2.out (Below.size (bl_alloc _ _))) ?_;clear t1;intro v3 w3 hs3 hg3 ha3)))
     have hown:∀ k,u8.ownBlock = some k→wo.heap.size≤k:=fun k hk=>(SL.lt hsl.out k hk).1
     have fx23:Fx (fun k=>u8.ownBlock = some k) w2 w3:=(Fx.of_bl (bl_alloc _ _)).trans (fx_grown hg3) (fun _ _ h=>h)
     have hN3:=hN2.fx fx23 (fun h=>by have h1:=hown _ h;have h2:=hnbl.out;have h3:=hzw.out;omega) (fun h=>by have h1:=hown _ h;have h2:=hMl.out;have h3:=hzw.out;omega)
     have fx3:Fx (fun k=>k = nb∨k = M) wo w3:=(hfx2.out.trans hfx3 (fun _ _ h=>h)).trans fx23 (fun k hk h=>by have h1:=hown _ h;omega)
     go_roundg (qs.length + 1 - (i + 1))
     case measure=>have:=HM2.out;have:=HLT2.out;omega
     case rel=>
      refine ⟨i + 1,(acc || hb),rfl,by go_num,HLT2.out,?_,?_,hbd2,fx3⟩
      ·unfold Hid;rw [hsn.out];exact hs3
      ·unfold Hid;rw [← Bool.or_assoc];exact hN3
    ·have hi':i = qs.length:=by have:=hi.out;omega
     subst hi'
     have r4:¬ (qs.length:Int) < qs.length:=by omega
     have hend:Hid (acc = t.bd freshZ tk2):=by
      have h1:=hbd.out
      rw [dp_end (by have:=HQL.out;omega)] at h1
      simp only [Ts.bd,Bool.or_false] at h1
      exact h1
     have hXl:X.length = qs.length:=by have h1:=HNM.out.2;have h2:=HQL.out;omega
     have hsl2:SL wr wo.heap.size u8 X:=by
      have h1:=hsl.out
      rw [List.take_of_length_le (by omega)] at h1;exact h1
     rcases hsl2.form with ⟨e1,e2⟩ | ⟨g,c,e1,hg1,hg2,-⟩
     ·exfalso;rw [e2] at hXl;have h1:=HTL.out;have h2:=HQL.out;simp at hXl;omega
     subst e1
     have cl:=hide (list_c wo.heap.size g c X 38 wr hsl2 (by have h1:=HTL.out;have h2:=HQL.out;omega) (by have h1:=HH.out.sz;have h2:=len_sz t;have h3:=HQL.out;omega) (by have h1:=HNM.out.1;have h2:=HH.out.sz;omega))
     have HG:=hide hg1
     have HLS:=listS_le 38 X
     have q11:((headS freshZ l.length tk).length:Int)≤90000:=by omega
     have q12:((listS 38 X).length:Int)≤400000:=by have h1:=HNM.out.1;have h2:=HH.out.sz;omega
     have hord:Hid (headS freshZ l.length tk ++ listS 38 X = ordS t e tk l):=by
      unfold Hid ordS;rw [HX.out,HDEF.out.1,HDEF.out.2.1]
     have hBX2:=hide (HBX.out.fx hfx2.out (fun h=>h.elim HAP.out.o.1 HAP.out.o.2.1) (fun h=>h.elim HAP.out.n.1 HAP.out.n.2.1) (fun h=>h.elim HAP.out.l.1 HAP.out.l.2.1) (fun h=>h.elim HAP.out.b.1 HAP.out.b.2) (fun h=>h.elim HAP.out.f.1 HAP.out.f.2.1))
     have hbd4:Hid ((bd1 || acc)= (bad || levelB freshZ o t.isNil (t.bd freshZ) tk)):=by
      have hz:t.isNil = false:=by
       cases hh:t.isNil with
       | false=>rfl
       | true=>exact (HNIL.out (Ts.isNil_iff.1 hh)).elim
      unfold Hid levelB
      rw [hend.out,HDEF.out.2.2.1,HDEF.out.2.1,hz,HLL.out,Bool.or_assoc];rfl
     have hVV:Hid (∀ x,V x→V2 x):=fun x hx=>by rw [HDEF.out.2.2.2];exact .inl hx
     have hee:Hid (∀ x,V x→e2 x = e x):=fun x hx=>by
      rw [HDEF.out.1];exact bindS_out (fun h=>HH.out.sc.2.1 x (HPM.out.mem_iff.1 h) hx)
     clear hlt hsl hsl2 hXl hg1 hg2 hbd HLS hhl
     generalize headS freshZ l.length tk = HD at *
     generalize listS 38 X = LS at *
     have q13:(s.length:Int)≤1000000:=by have:=HS.out;omega
     go_wp2_with ((go_at_call 191;(with_reducible refine (cl.out).mono ?_);rintro rr w4 ⟨rfl,fx4⟩;have hB4:=hide (hBX2.out.fx fx4 (by have:=lt_of_block HBX.out.o;have:=HG.out;omega) (by have:=lt_of_block HBX.out.n;have:=HG.out;omega) (by have:=lt_of_block HBX.out.l;have:=HG.out;omega) (by have:=lt_of_block HBX.out.b;have:=HG.out;omega) (by have:=lt_of_block HBX.out.f;have:=HG.out;omega));have hN4:=hide (hN.out.fx fx4 (fun h=>by have h1:=HG.out;have h2:=hnbl.out;have h3:=hzw.out;omega) (fun h=>by have h1:=HG.out;have h2:=hMl.out;have h3:=hzw.out;omega));have bb0:=blk_cell (i:=0) hB4.out.b rfl;have bbf:=blk_free (i:=0) hB4.out.b;have bn0:=blk_cell (i:=0) hB4.out.n rfl;have bf0:=blk_cell (i:=0) hB4.out.f rfl;have nn1:=blk_cell (i:=1) hN4.out.blk rfl;have nnf:=blk_free (i:=1) hN4.out.blk;have a1:=HAP.out.n.2.2;have a2:=HAP.out.f.2.2;have a3:=HAP.out.b.1;have a4:=Ne.symm a1;have a5:=Ne.symm a2;have a6:=Ne.symm a3;have fx5:=hide (hfxw.trans fx4 (fun k hk h=>by have h1:=HG.out;have h3:=hzw.out;omega))))
     all_goals
      rename_i hcs
      go_end0
      rw [← hord.out]
      have hN5:Nmr w4 nb M tk2 (bad || levelB freshZ o t.isNil (t.bd freshZ) tk) V2 e2:=by rw [← hbd4.out];exact hN4.out
      first
       | (rw [bst_new (Or.inl hcs)];exact clo_new hB4.out HAP.out hN5 fx5.out hVV.out hee.out _)
       | (rw [bst_new (hcs.imp (fun h=>List.isEmpty_iff.1 h) (fun h=>by rw [bytesLess_lt] at h;exact of_decide_eq_true h))];exact clo_new hB4.out HAP.out hN5 fx5.out hVV.out hee.out _)
       | (have h1:¬ (s = []∨HD ++ LS < s):=(fun hh=>hh.elim (fun h=>by have:=hcs.1;rw [h] at this;cases this) (fun h=>by have:=hcs.2;rw [bytesLess_lt] at this;exact of_decide_eq_false this h));rw [bst_old h1];exact clo_old hB4.out HAP.out hN5 fx5.out hVV.out hee.out)
end Go.Proofs.YtbibkgcbdnldbaaGreat
namespace Go.Proofs.YtbibkgcbdnldbaaGreat
open Go.RowKit
attribute [local go_sem] S_size S_toList S_lit S_get S_extract S_append drop_all
attribute [local go_sem] mkfn
theorem zero_s (w:World):(zeroValue 9).run Tryz.prog w = .ok (.string (S [])) w:=by kernel_rfl
theorem zero_u32 (w:World):(zeroValue 134).run Tryz.prog w = .ok (.int .u32 0) w:=by kernel_rfl
theorem sz_str:(Tryz.prog.info? 9).map (·.size)= some 1:=by kernel_rfl
theorem least_bst (l:List Str) (x:Str):leastS (l ++ [x])= bst (leastS l) x:=by unfold leastS;rw [List.foldl_append];rfl
theorem vis_ne (l:List Nat):visN l.length l 0≠[]:=List.ne_nil_of_mem ((mem_vis l l).2 (.refl l))
theorem ordS_ne (t:Ts) (e:Nat→UInt8) (tk:Str) (l:List Nat):ordS t e tk l≠[]:=by
 unfold ordS
 intro h
 exact listS_ne (nm_ne freshZ t _ _) (List.append_eq_nil_iff.1 h).2
theorem vis_level {o:List Nat} {t:Ts} {e:Nat→UInt8} {tk:Str} (hz:t.isNil = false):leastS ((visN o.length o 0).map (ordS t e tk))= levelS freshZ o t.isNil (t.nm freshZ) e tk:=by
 unfold levelS
 rw [hz,if_neg (by decide)]
 refine leastS_congr (fun x hx=>?_) (fun x=>?_)
 ·obtain ⟨l,-,rfl⟩:=List.mem_map.1 hx;exact ordS_ne _ _ _ _
 ·simp only [List.mem_map,mem_vis,mem_perms];rfl
theorem ordS_le {o l:List Nat} {t:Ts} {e:Nat→UInt8} {tk:Str} (hl:l.Perm o) (hz:o.length + t.sz≤30000):(ordS t e tk l).length≤1000000:=by
 have h1:=hl.length_eq
 have h2:=listS_le 38 (t.nm freshZ (bindS freshZ l e tk) (takeS freshZ l.length tk))
 have h3:=nm_le freshZ t (bindS freshZ l e tk) (takeS freshZ l.length tk)
 unfold ordS
 rw [List.length_append,headS_len];omega
theorem best_le {o:List Nat} {t:Ts} {e:Nat→UInt8} {tk:Str} (hz:o.length + t.sz≤30000) {vs:List (List Nat)} (h:∀ l∈vs,l.Perm o):(leastS (vs.map (ordS t e tk))).length≤1000000:=
 fold_le 1000000 _ [] (by simp) (fun x hx=>by
  obtain ⟨l,hl,rfl⟩:=List.mem_map.1 hx
  exact ordS_le (h l hl) hz)
structure Vis (o:List Nat) (t:Ts) (V:Nat→Prop) (e:Nat→UInt8) (tk:Str) (bad:Bool) (O N L B F nb M lb:Nat) (vo:Value) (w:World) (vs:List (List Nat)) (w':World):Prop where
 bx:Bxs w' O N L B F vo nb lb (leastS (vs.map (ordS t e tk))) tk
 nm:Nmr w' nb M tk (bad || (!vs.isEmpty && levelB freshZ o t.isNil (t.bd freshZ) tk)) V e
 fx:Fx (fun k=>k = nb∨k = M) w w'
 al:∀ l∈vs,l.Perm o
theorem vis_bad (b c:Bool) (vs:List (List Nat)) (l:List Nat):((b || (!vs.isEmpty && c)) || c)= (b || (!(vs ++ [l]).isEmpty && c)):=by
 have:(vs ++ [l]).isEmpty = false:=by simp
 rw [this];cases vs.isEmpty <;> cases b <;> cases c <;> rfl
section
variable {o:List Nat} {t:Ts} {V:Nat→Prop} {e:Nat→UInt8} {tk:Str} {bad:Bool} {O N L B F nb M lb:Nat} {A:Option Addr} {cap:Nat} {P:Nat→Prop} {w:World}
theorem vis_step (H:LvH o t V) (hnil:t≠.nil) (ih:Hid (t.allL NmIH)) (hap:Apart O N L B F nb M) (hL:Lies2 P w o t lb) (hP:¬ P nb∧¬ P M∧¬ P B) (hBw:w.heap.size≤B) {l:List Nat} {vs:List (List Nat)} {w1:World} (hl:l.Perm o)
  (hA:∀ (j x:Nat),l[j]? = some x→∃ g,A = some ⟨g,0,none⟩∧w1.cell? ⟨g,j,none⟩= some (encI x)∧g≠nb∧g≠M)
  (hv:Vis o t V e tk bad O N L B F nb M lb (.slice A l.length cap) w vs w1):
  Calls Tryz.prog 187 #[encP O,encP N,encP L,encP B,encP F] w1 fun r w'=>r = .returned (.tuple #[])∧Vis o t V e tk bad O N L B F nb M lb (.slice A l.length cap) w (vs ++ [l]) w'∧Fx (fun k=>k = nb∨k = M∨k = B) w1 w':=by
 have hL1:Lies2 P w1 o t lb:=hL.fx hv.fx (fun k hk h=>h.elim (fun e=>hP.1 (e ▸ hk)) (fun e=>hP.2.1 (e ▸ hk)))
 refine (clo_c o l t V e tk _ _ O N L B F nb M lb A cap P w1 hl H hnil ih hA hv.bx hap hL1 hP (best_le H.sz hv.al) hv.nm).mono ?_
 rintro r w' ⟨rfl,h1,h2,h3⟩
 refine ⟨rfl,⟨?_,?_,?_,?_⟩,h3⟩
 ·rw [List.map_append,List.map_cons,List.map_nil,least_bst];exact h1
 ·rw [← vis_bad];exact h2
 ·exact hv.fx.trans h3 (fun k hk h=>h.elim .inl (fun h=>h.elim .inr (fun h=>by omega)))
 ·intro l' hl'
  rcases List.mem_append.1 hl' with h | h
  ·exact hv.al l' h
  ·rw [List.mem_singleton] at h;subst h;exact hl
theorem nlev_ord (H:LvH o t V) (hnil:t≠.nil) (ih:Hid (t.allL NmIH)) (hap:Apart O N L B F nb M) (hL:Lies2 P w o t lb) (hP:¬ P nb∧¬ P M∧¬ P B) (hBw:w.heap.size≤B) {W:World} {base:Nat}
  (hv:Vis o t V e tk bad O N L B F nb M lb (.slice A o.length cap) w [] W) (hr:RL 3 encI W base (.slice A o.length cap) o)
  (hbs:w.heap.size≤base) (hb:∀ g,base≤g→g < W.heap.size→W.shape? g = some (3,cap)→g≠O∧g≠N∧g≠L∧g≠B∧g≠F∧g≠nb∧g≠M):
  Calls Tryz.prog 186 #[.slice A o.length cap,.int .i64 0,.func (.func 187) #[] #[encP O,encP N,encP L,encP B,encP F]] W fun r w'=>r = .returned (.tuple #[])∧Vis o t V e tk bad O N L B F nb M lb (.slice A o.length cap) w (visN o.length o 0) w':=by
 rcases hr.form with ⟨e1,e2⟩ | ⟨g,c,cur,e1,h1,h2,h3,h4,h5⟩
 ·subst e2
  obtain ⟨rfl,-,rfl⟩:=Value.slice.inj e1
  exact orders_nil (encP O) (encP N) (encP L) (encP B) (encP F) [] W (fun vs w'=>Vis [] t V e tk bad O N L B F nb M lb (.slice none 0 0) w vs w')
   (hide ((vis_step (o:=[]) (l:=[]) H hnil ih hap hL hP hBw (.refl _) (fun j x h=>by simp at h) hv).mono (fun r w' ⟨k1,k2,_⟩=>⟨k1,k2⟩)))
 ·obtain ⟨rfl,-,rfl⟩:=Value.slice.inj e1
  obtain ⟨d1,d2,d3,d4,d5,d6,d7⟩:=hb g h1 h2.1 (by rw [blk_shape h3,h2.2.2.2])
  have hrow:Row W g cap o:=⟨cur,h3,h2.2.2.2,h2.2.1,h4⟩
  have hol:=H.sz
  refine (orders_d g cap (fun vs w'=>Vis o t V e tk bad O N L B F nb M lb (.slice (some ⟨g,0,none⟩) o.length cap) w vs w') (encP O) (encP N) (encP L) (encP B) (encP F) o ?_ ?_ o.length o 0 [] W (by omega) (by omega) (.refl _) hrow hv).mono ?_
  ·intro vs w1 w2 k1 k2
   exact ⟨k1.bx.fx k2 (Ne.symm d1) (Ne.symm d2) (Ne.symm d3) (Ne.symm d4) (Ne.symm d5),k1.nm.fx k2 (Ne.symm d6) (Ne.symm d7),k1.fx.trans k2 (fun k hk h=>by omega),k1.al⟩
  ·intro vs l w1 hl hrw k1
   have hll:=hl.length_eq
   refine (vis_step (A:=some ⟨g,0,none⟩) (cap:=cap) H hnil ih hap hL hP hBw hl (fun j x hj=>⟨g,rfl,hrw.cell hj,d6,d7⟩) (by rw [hll];exact k1)).mono ?_
   rintro r w' ⟨rfl,m1,m2⟩
   rw [hll] at m1
   exact ⟨rfl,hrw.fx m2 (by rintro (h | h | h);exact d6 h;exact d7 h;exact d4 h),m1⟩
  ·rintro r w' ⟨rfl,-,k⟩
   exact ⟨rfl,by simpa using k⟩
end
theorem nlev_call {o:List Nat} {t:Ts} {V:Nat→Prop} {e:Nat→UInt8} {tk:Str} {bad:Bool} {N L B F nb M b:Nat} {P:Nat→Prop} {w W5 W6:World} (A2:Option Addr) (c2:Nat) (k5:Bl w W5) (b6:Bl W5 W6) (hv1:RL 3 encI W6 W5.heap.size (.slice A2 o.length c2) o)
  (hBF:B≠F) (hsz:w.heap.size≤N∧w.heap.size≤L∧w.heap.size≤B∧w.heap.size≤F∧N < L∧L < B∧L < F)
  (hB:W5.heap[B]? = some (.cells #[.string (S [])] 9 (0,0))) (hF:W5.heap[F]? = some (.cells #[.int .u32 (msk tk)] 134 (0,0))) (hNN:W5.heap[N]? = some (.cells #[encP nb] 154 (0,0))) (hLL:W5.heap[L]? = some (.cells #[encP b] 75 (0,0)))
  (hL:Lies2 (fun k=>P k∧k < w.heap.size) w o t b) (H:LvH o t V) (hnil:t≠.nil) (ih:Hid (t.allL NmIH)) (hP:¬ P nb∧¬ P M) (hN:Nmr w nb M tk bad V e):
  Calls Tryz.prog 186 #[.slice A2 o.length c2,.int .i64 0,.func (.func 187) #[] #[encP W6.heap.size,encP N,encP L,encP B,encP F]] (W6.alloc (.cells #[.slice A2 o.length c2] 36))
   fun r w'=>r = .returned (.tuple #[])∧Vis o t V e tk bad W6.heap.size N L B F nb M b (.slice A2 o.length c2) w (visN o.length o 0) w':=by
 have z1:=lt_of_block hN.blk
 have z2:=hN.env.lt
 have z3:=Below.size k5
 have z4:=Below.size b6
 have zN:=lt_of_block hNN
 have zL:=lt_of_block hLL
 have zB:=lt_of_block hB
 have zF:=lt_of_block hF
 have bb:Bl W5 (W6.alloc (.cells #[.slice A2 o.length c2] 36)):=b6.trans (bl_alloc _ _)
 have hap:Apart W6.heap.size N L B F nb M:=⟨⟨by omega,by omega,by omega⟩,⟨by omega,by omega,by omega⟩,⟨by omega,by omega,by omega⟩,⟨by omega,by omega⟩,⟨by omega,by omega,fun h=>hBF h.symm⟩⟩
 refine nlev_ord (base:=W5.heap.size) H hnil ih hap hL ⟨fun h=>hP.1 h.1,fun h=>hP.2 h.1,fun h=>by omega⟩ (by omega) ⟨⟨blk_new _ _ _,blk_bl bb hNN,blk_bl bb hLL,blk_bl bb hB,blk_bl bb hF⟩,?_,.of_bl (k5.trans bb),by simp⟩ (hv1.bl (bl_alloc _ _)) z3 (fun g h1 h2 h3=>⟨?_,by omega,by omega,by omega,by omega,by omega,by omega⟩)
 ·simpa using hN.bl (k5.trans bb)
 ·rintro rfl
  rw [shape_alloc_new] at h3;cases h3
theorem nlev_nil (o:List Nat) (nb b:Nat) (w:World) (V:Nat→Prop) (e:Nat→UInt8) (tk:Str) (bad:Bool) (M:Nat) (P:Nat→Prop) (hL:Lies2 P w o .nil b) (hN:Nmr w nb M tk bad V e):
  Calls Tryz.prog 148 #[encP nb,encP b] w (NmR (levelS freshZ o Ts.nil.isNil (Ts.nil.nm freshZ) e tk) (levelB freshZ o Ts.nil.isNil (Ts.nil.bd freshZ) tk) nb M tk bad V e w):=by
 have ce:=hide fun (w':World) (hb:Bl w w')=>isEmpty_c o .nil b w' (hL.bl hb)
 have hr:Hid (levelS freshZ o Ts.nil.isNil (Ts.nil.nm freshZ) e tk = [48]∧levelB freshZ o Ts.nil.isNil (Ts.nil.bd freshZ) tk = false):=⟨rfl,rfl⟩
 rw [hr.out.1,hr.out.2]
 have HN:=hide hN
 have bb:=(bl_alloc w (.cells #[encP nb] 154)).trans (bl_alloc _ (.cells #[encP b] 75))
 clear hL hN hr
 go_enter Tryz.func148,Tryz.ntmps148
 go_wp2_with ((go_at_call 96;(with_reducible refine (ce.out _ bb).mono ?_);rintro rr w2 ⟨rfl,rfl⟩))
 go_ret
 exact ⟨rfl,by rw [Bool.or_false];exact HN.out.bl bb,.of_bl bb⟩
theorem nlev_lv (o:List Nat) (t:Ts) (hnil:t≠.nil) (ih:Hid (t.allL NmIH)) (V:Nat→Prop) (e:Nat→UInt8) (tk:Str) (bad:Bool) (nb M:Nat) (P:Nat→Prop) (b:Nat) (w:World) (H:LvH o t V) (hL:Lies2 P w o t b) (hP:¬ P nb∧¬ P M) (hN:Nmr w nb M tk bad V e):
  Calls Tryz.prog 148 #[encP nb,encP b] w (NmR (levelS freshZ o t.isNil (t.nm freshZ) e tk) (levelB freshZ o t.isNil (t.bd freshZ) tk) nb M tk bad V e w):=by
 have hz:t.isNil = false:=by
  cases hh:t.isNil with
  | false=>rfl
  | true=>exact (hnil (Ts.isNil_iff.1 hh)).elim
 have hlev:=hide (vis_level (o:=o) (e:=e) (tk:=tk) hz)
 have ce:=hide fun (w':World) (hb:Bl w w')=>isEmpty_c o t b w' (hL.bl hb)
 rw [hz] at ce
 obtain ⟨hPb,vo,vt,qs,hlv,hro,hrt,hths⟩:=hL
 obtain ⟨A1,c1,rfl⟩:=hro.1.slice
 have u0:=blk_cell (i:=0) hlv rfl
 have hL2:Hid (Lies2 (fun k=>P k∧k < w.heap.size) w o t b):=Lies2.map (P:=P) (fun k hk hl=>⟨⟨hk,hl⟩,rfl⟩) ⟨hPb,_,vt,qs,hlv,hro,hrt,hths⟩
 have hol:o.length≤30000:=by have:=H.sz;omega
 have CLN:=hide fun (w':World) (hb:Bl w w')=>clone_c (.slice A1 o.length c1) o w' (hro.1.bl hb) (by omega)
 have n1:=blk_cell (i:=1) hN.blk rfl
 have HN:=hide hN
 have HH:=hide H
 have HP:=hide hP
 have HNIL:=hide hnil
 have hnbl:=hide (lt_of_block hN.blk)
 have hMl:=hide hN.env.lt
 have hbl:=hide (lt_of_block hlv)
 clear hlv hro hrt hths hN H hP hnil hz hPb
 generalize levelS freshZ o t.isNil (t.nm freshZ) e tk = LV at *
 generalize hLB:levelB freshZ o t.isNil (t.bd freshZ) tk = LB at *
 go_enter Tryz.func148,Tryz.ntmps148
 go_wp2_with (first
  | ((refine box_op rfl 154 (.tmp 0) rfl #[encP nb] _ rfl (by rfl) ?_);intro N W1 hNb b1 s1)
  | ((refine box_op rfl 75 (.tmp 1) rfl #[encP b] _ rfl (by rfl) ?_);intro L W2 hLb b2 s2;have bw2:=b1.trans b2;have n0:=blk_cell (i:=0) (blk_bl b2 hNb) rfl;have l0:=blk_cell (i:=0) hLb rfl)
  | (go_at_call 96;(with_reducible refine (ce.out _ bw2).mono ?_);rintro rr w2 ⟨rfl,rfl⟩))
 have n2:=cell_kept bw2 n1
 have z1:=s1.out
 have z2:=s2.out
 have HNb:=hide (blk_bl b2 hNb)
 have HLb:=hide hLb
 refine AnyT.start 8 (fun w2=>w2.cell? ⟨N,0,none⟩= some (encP nb)∧w2.cell? ⟨nb,1,none⟩= some (.int .u32 (msk tk))) (fun j=>[7].contains j) (by kernel_rfl) (by rfl) ?_
 have hHeld:(fun w2:World=>w2.cell? ⟨N,0,none⟩= some (encP nb)∧w2.cell? ⟨nb,1,none⟩= some (.int .u32 (msk tk))) W2.drew:=⟨n0,n2⟩
 refine AnyT.ld 0 ?_
 refine AnyT.tk 1 ?_
 refine AnyT.tk 2 ?_
 refine AnyT.ld 3 ?_
 try simp only [Act.put,sqa,sqb,sqc]
 refine AnyT.two (i:=4) (j:=5) (di:=5) (dj:=6) rfl rfl 9 134 (.string (S [])) (.int .u32 0) rfl rfl rfl rfl (by decide) rfl rfl zero_s zero_u32 (by kernel_rfl) (by kernel_rfl) (by kernel_rfl) (by decide) (fun W W' hb h=>⟨cell_kept hb h.1,cell_kept hb h.2⟩) ?_
 intro B F W3 hBF hb3 hf3 b3 s3
 try simp only [Act.put,sqa,sqb,sqc]
 have z3:W2.heap.size≤B∧W2.heap.size≤F:=s3.out
 have hnb0:=hnbl.out
 replace hHeld:W3.cell? ⟨N,0,none⟩= some (encP nb)∧W3.cell? ⟨nb,1,none⟩= some (.int .u32 (msk tk)):=⟨cell_kept b3 hHeld.1,cell_kept b3 hHeld.2⟩
 refine AnyT.one (i:=6) rfl (by kernel_rfl) (fun K hK=>?_)
 (refine wanted_wp rfl (wp_store1 9 (.tmp 5) (.const (.string ⟨#[]⟩)) rfl B 0 9 _ (.string (S [])) rfl rfl sz_str rfl rfl hb3 (show 0 < 1 by decide) ?_);intro W4 hb4 b4 s4)
 refine hK.out _ _ ?_ ?_
 ·exact ⟨b4.cell (by omega) hHeld.1,b4.cell (by omega) hHeld.2⟩
 intro hHeld
 clear hK K
 try simp only [Act.put,sqa,sqb,sqc]
 have hf4:=Fx.heap (.of_bx b4) (Ne.symm hBF) hf3
 refine AnyT.tail (i:=7) rfl (by kernel_rfl) (by rfl) (fun K hK=>?_)
 (refine wanted_wp rfl (wp_store1 134 (.tmp 6) (.tmp 13) rfl F 0 134 _ (.int .u32 (msk tk)) rfl rfl sz_u32 rfl rfl hf4 (show 0 < 1 by decide) ?_);intro W5 hf5 b5 s5)
 refine hK.out _ _ ?_
 clear hK K
 try simp only [Act.put,sqa,sqb,sqc]
 refine AnyT.done (by kernel_rfl) ?_
 have k3:Bl w W3:=(bw2.trans (bl_drew (Bl.refl W2))).trans b3
 have k4:Bl w W4:=Fx.bl' k3 (.of_bx b4) (fun k hk=>by subst hk;omega)
 have k5:Bl w W5:=Fx.bl' k4 (.of_bx b5) (fun k hk=>by subst hk;omega)
 have j5:Bl W2 W5:=by
  have j3:Bl W2 W3:=(bl_drew (Bl.refl W2)).trans b3
  have j4:Bl W2 W4:=Fx.bl' j3 (.of_bx b4) (fun k hk=>by subst hk;omega)
  exact Fx.bl' j4 (.of_bx b5) (fun k hk=>by subst hk;omega)
 have l5:=cell_kept j5 l0
 have u5:=cell_kept k5 u0
 have HB5:Hid (W5.heap[B]? = some (.cells #[.string (S [])] 9 (0,0))):=Fx.heap (.of_bx b5) hBF hb4
 have HF5:Hid (W5.heap[F]? = some (.cells #[.int .u32 (msk tk)] 134 (0,0))):=hf5
 have HN5:Hid (W5.heap[N]? = some (.cells #[encP nb] 154 (0,0))):=blk_bl j5 HNb.out
 have HL5:Hid (W5.heap[L]? = some (.cells #[encP b] 75 (0,0))):=blk_bl j5 HLb.out
 have K5:=hide k5
 have HBF:=hide hBF
 have HSZ:Hid (w.heap.size≤N∧w.heap.size≤L∧w.heap.size≤B∧w.heap.size≤F∧N < L∧L < B∧L < F):=⟨by omega,by omega,by omega,by omega,by omega,by omega,by omega⟩
 clear hHeld n0 n1 n2 l0 hb3 hf3 hb4 hf4 hf5 b3 b4 b5 s3 s4 s5 s1 s2 z1 z2 z3 hNb hLb b1 b2 bw2 k3 k4 k5 j5 hBF hnb0 HNb HLb u0 ce
 go_wp2_with (first | (go_at_call 95;(with_reducible refine (CLN.out _ K5.out).mono ?_);rintro rr W6 ⟨v1,rfl,hv1,b6⟩;obtain ⟨A2,c2,rfl⟩:=hv1.slice;replace hv1:=hide hv1;have CO:=hide (nlev_call A2 c2 K5.out b6 hv1.out HBF.out HSZ.out HB5.out HF5.out HN5.out HL5.out hL2.out HH.out HNIL.out ih HP.out HN.out)) | (go_at_call 186;(with_reducible refine (CO.out).mono ?_);rintro rr W8 ⟨rfl,hvis⟩;have bb8:=blk_cell (i:=0) hvis.bx.b rfl))
 go_ret
 refine ⟨by rw [← hlev.out];rfl,?_,hvis.fx⟩
 have h1:=hvis.nm
 have hve:(visN o.length o 0).isEmpty = false:=by
  cases h:visN o.length o 0 with
  | nil=>exact (vis_ne o h).elim
  | cons a l=>rfl
 rw [hve,hLB] at h1
 simpa using h1
theorem nlev_c (o:List Nat) (t:Ts) (ih:t.allL NmIH):NmIH o t:=by
 intro V e tk bad nb M P b w H hL h1 h2 hN
 by_cases hnil:t = .nil
 ·subst hnil;exact nlev_nil o nb b w V e tk bad M P hL hN
 ·exact nlev_lv o t hnil ih V e tk bad nb M P b w H hL ⟨h1,h2⟩ hN
theorem nm_all:∀ t:Ts,t.allL NmIH
 | .nil=>trivial
 | .un k a b o r n=>⟨nlev_c o r (nm_all r),nm_all n⟩
 | .sum q n=>⟨nm_all q,nm_all n⟩
 | .part o l n=>⟨nlev_c o l (nm_all l),nm_all n⟩
theorem level_c (o:List Nat) (t:Ts):NmIH o t:=nlev_c o t (nm_all t)
end Go.Proofs.YtbibkgcbdnldbaaGreat
namespace Go.Proofs.YtbibkgcbdnldbaaGreat
open Go.RowKit
attribute [local go_sem] S_size S_toList S_lit S_get S_extract S_append drop_all
def stripT:Tm→Tm
 | .zero=>.zero
 | .un k a b p=>if k = 61∧a = b then stripT p else .un k a b p
 | .bin k p q=>.bin k p q
theorem strip_size:∀ t:Tm,(stripT t).size≤t.size
 | .zero=>Nat.le_refl _
 | .un k a b p=>by
   have:=strip_size p
   simp only [stripT];split
   ·simp only [Tm.size];omega
   ·exact Nat.le_refl _
 | .bin k p q=>Nat.le_refl _
theorem strip_len:∀ t:Tm,(txt (stripT t)).length≤(txt t).length
 | .zero=>Nat.le_refl _
 | .un k a b p=>by
   have:=strip_len p
   simp only [stripT];split
   ·simp only [txt,List.length_append];omega
   ·exact Nat.le_refl _
 | .bin k p q=>Nat.le_refl _
theorem strip_ok {nm:UInt8→Bool}:∀ {t:Tm},t.ok nm = true→(stripT t).ok nm = true
 | .zero,_=>rfl
 | .un k a b p,h=>by
   simp only [stripT];split
   ·simp only [Tm.ok,Bool.and_eq_true] at h;exact strip_ok h.2
   ·exact h
 | .bin k p q,h=>h
theorem strip_dead:∀ t:Tm,deadT (stripT t)= deadT t
 | .zero=>rfl
 | .un k a b p=>by
   simp only [stripT];split
   ·rename_i h;rw [strip_dead p,deadT,h.1];simp [deadK]
   ·rfl
 | .bin k p q=>rfl
theorem strip_used:∀ t:Tm,usedS (stripT t)= usedS t
 | .zero=>rfl
 | .un k a b p=>by
   simp only [stripT];split
   ·rename_i h
    rw [strip_used p]
    have hd:deadT (.un k a b p)= deadT p:=by rw [deadT,h.1];simp [deadK]
    simp only [usedS,if_pos h,hd]
    split
    ·rename_i hp;exact dead_used hp
    ·rfl
   ·rfl
 | .bin k p q=>rfl
theorem strip_61:∀ {t:Tm} {a b:UInt8} {p:Tm},stripT t = .un 61 a b p→a≠b
 | .zero,_,_,_,h=>by cases h
 | .un k a b p,a',b',p',h=>by
   simp only [stripT] at h;split at h
   ·exact strip_61 h
   ·rename_i hc;cases h;exact fun e=>hc ⟨rfl,e⟩
 | .bin k p q,_,_,_,h=>by cases h
theorem bl_drewN {w w':World} {n:Nat} (h:Bl w w'):Bl w (w'.drewN n):=by
 unfold Bl at *;exact ⟨h.os,h.tape,h.output,h.size,h.block⟩
theorem nfStrip_c (t:Tm) (w:World) (hk:t.ok wideB = true) (hs:(txt t).length≤400000):
  Calls Tryz.prog 211 #[.string (S (txt t))] w fun e w'=>e = .returned (.string (S (txt (stripT t))))∧Bl w w':=by
 go_enter Tryz.func211,Tryz.ntmps211
 go_wp2_with fail
 go_loopg [0] t.size (fun k i wr=>∃ u:Tm,Hid (stripT u = stripT t∧u.ok wideB = true∧(txt u).length≤400000)∧k = u.size∧i = .string (S (txt u))∧Bl w wr)
 case atStart=>exact ⟨t,⟨rfl,hk,hs⟩,rfl,rfl,Bl.refl _⟩
 case round =>
  obtain ⟨u,hu,hkk,rfl,hb⟩:=hrel
  have HK:=hide hkk
  clear hkk hk hs
  cases u with
  | zero=>
    have c1:=hide fun w=>tmKind_zero w
    have hr:Hid (txt (stripT t)= [48]):=by rw [Hid,← hu.out.1];rfl
    simp only [txt] at *
    clear hu HK
    go_wp2_with fail
    go_quiet ((go_at_call 129;exact Calls.quiet_of_same ((c1.out _).mono (fun e w' h=>⟨h.1,h.2.symm⟩))))
    all_goals
     go_wp2_with fail
     go_ret
     exact ⟨by rw [hr.out];rfl,by (repeat (first | exact Bl.refl _ | assumption | apply bl_drewN | apply bl_drew | (refine Bl.trans ?_ (bl_alloc _ _)) | (refine Bl.trans ?_ (by assumption))))⟩
  | bin k p q=>
    have hok:=hu.out.2.1
    simp only [Tm.ok,Bool.and_eq_true,Bool.or_eq_true,beq_iff_eq] at hok
    have c1:=hide fun w=>tmKind_bin k p q w hok.2.1 (short_of (by have:=hu.out.2.2;omega))
    have hr:Hid (txt (stripT t)= txt (.bin k p q)):=by rw [Hid,← hu.out.1];rfl
    obtain ⟨hk,-⟩:=hok
    generalize txt (.bin k p q)= l at c1 hr ⊢
    clear hu HK
    rcases hk with rfl | rfl
    all_goals
     go_wp2_with fail
     go_quiet ((go_at_call 129;exact Calls.quiet_of_same ((c1.out _).mono (fun e w' h=>⟨h.1,h.2.symm⟩))))
     all_goals
      go_wp2_with fail
      go_ret
      exact ⟨by rw [hr.out];rfl,by (repeat (first | exact Bl.refl _ | assumption | apply bl_drewN | apply bl_drew | (refine Bl.trans ?_ (bl_alloc _ _)) | (refine Bl.trans ?_ (by assumption))))⟩
  | un k a b p =>
    have hok:=hu.out.2.1
    simp only [Tm.ok,Bool.and_eq_true] at hok
    have c1:=hide fun w=>tmKind_un k a b p w hok.1
    by_cases h61:k = 61
    ·subst h61
     have hl:txt (.un 61 a b p)= 91 :: a :: 61 :: b :: 93 :: txt p:=by simp [txt,hd]
     obtain ⟨g1,g2⟩:=byte_get (l:=txt (.un 61 a b p)) (i:=1) (x:=a) (by rw [hl];rfl)
     obtain ⟨y1,y2⟩:=byte_get (l:=txt (.un 61 a b p)) (i:=3) (x:=b) (by rw [hl];rfl)
     have g3:(1:Int) < (txt (.un 61 a b p)).length:=by omega
     have y3:(3:Int) < (txt (.un 61 a b p)).length:=by omega
     have t2:List.drop 5 (txt (.un 61 a b p))= txt p:=by rw [hl];rfl
     have t3:List.take ((txt (.un 61 a b p)).length - 5) (txt p)= txt p:=by rw [hl];simp
     have n1:(5:Int)≤(txt (.un 61 a b p)).length:=by rw [hl];simp only [List.length_cons];omega
     by_cases hab:a = b
     ·subst hab
      have hp:Hid (stripT p = stripT t∧p.ok wideB = true∧(txt p).length≤400000):=by
       refine ⟨?_,hok.2,?_⟩
       ·rw [← hu.out.1];simp [stripT]
       ·have:=hu.out.2.2;rw [hl] at this;simp only [List.length_cons] at this;omega
      have hm:p.size < (Tm.un 61 a a p).size:=by simp only [Tm.size];omega
      clear hu hok hl
      generalize txt (.un 61 a a p)= l at *
      go_wp2_with fail
      go_region_with (go_at_call 129;(with_reducible refine (c1.out _).mono ?_);rintro e w1 ⟨rfl,rfl⟩)
      all_goals
       go_wp2_with fail
       go_roundg p.size
       case measure=>have:=HK.out;omega
       case rel=>exact ⟨p,hp,rfl,rfl,by (repeat (first | exact Bl.refl _ | assumption | apply bl_drewN | apply bl_drew | (refine Bl.trans ?_ (bl_alloc _ _)) | (refine Bl.trans ?_ (by assumption))))⟩
     ·have hr:Hid (txt (stripT t)= txt (.un 61 a b p)):=by rw [Hid,← hu.out.1];simp [stripT,hab]
      have h1:=ne_int hab
      clear hu hok hl
      generalize txt (.un 61 a b p)= l at *
      go_wp2_with fail
      go_region_with (go_at_call 129;(with_reducible refine (c1.out _).mono ?_);rintro e w1 ⟨rfl,rfl⟩)
      all_goals
       go_wp2_with fail
       go_ret
       exact ⟨by rw [hr.out];rfl,by (repeat (first | exact Bl.refl _ | assumption | apply bl_drewN | apply bl_drew | (refine Bl.trans ?_ (bl_alloc _ _)) | (refine Bl.trans ?_ (by assumption))))⟩
    ·have hr:Hid (txt (stripT t)= txt (.un k a b p)):=by rw [Hid,← hu.out.1];simp [stripT,h61]
     have h1:=ne_int (d:=61) h61
     have h1':((k.toNat:Int)== 61)= false:=h1
     clear hu hok
     generalize txt (.un k a b p)= l at *
     go_wp2_with fail
     go_quiet ((go_at_call 129;exact Calls.quiet_of_same ((c1.out _).mono (fun e w' h=>⟨h.1,h.2.symm⟩))))
     all_goals
      go_wp2_with fail
      go_ret
      exact ⟨by rw [hr.out];rfl,by (repeat (first | exact Bl.refl _ | assumption | apply bl_drewN | apply bl_drew | (refine Bl.trans ?_ (bl_alloc _ _)) | (refine Bl.trans ?_ (by assumption))))⟩
theorem nfDead_un (l0 l:Str) (k a b:UInt8) (p:Tm) (dp:Bool) (w:World) (U:UnL l k a b p) (hk:okhd wideB k a b = true)
  (cs:Hid (∀ w,Calls Tryz.prog 211 #[.string (S l0)] w fun e w'=>e = .returned (.string (S l))∧Bl w w'))
  (ih:Hid (∀ w,Calls Tryz.prog 212 #[.string (S (txt p))] w fun e w'=>e = .returned (.bool dp)∧Bl w w')):
  Calls Tryz.prog 212 #[.string (S l0)] w fun e w'=>e = .returned (.bool (deadK k && dp))∧Bl w w':=by
 obtain ⟨c1,-,c2,-,-⟩:=U
 generalize txt p = tp at *
 rcases okhd_cases hk with ⟨rfl,ha,hb⟩ | ⟨rfl,ha,hb⟩ | ⟨rfl,ha,hb⟩ | ⟨rfl,ha,hb⟩ | ⟨rfl,ha,hb⟩ | ⟨rfl,ha,hb⟩ <;> clear hk ha hb
 case inl=>
  go_enter Tryz.func212,Tryz.ntmps212
  go_wp2_with (first | (go_at_call 211;(with_reducible refine (cs.out _).mono ?_);rintro e w' ⟨rfl,hb0⟩) | (go_at_call 129;(with_reducible refine (c1.out _).mono ?_);rintro e w' ⟨rfl,rfl⟩))
  go_ret
  exact ⟨rfl,bls⟩
 case inr.inl=>
  go_enter Tryz.func212,Tryz.ntmps212
  go_wp2_with (first | (go_at_call 211;(with_reducible refine (cs.out _).mono ?_);rintro e w' ⟨rfl,hb0⟩) | (go_at_call 129;(with_reducible refine (c1.out _).mono ?_);rintro e w' ⟨rfl,rfl⟩))
  go_ret
  exact ⟨rfl,bls⟩
 case inr.inr.inr.inr.inr=>
  go_enter Tryz.func212,Tryz.ntmps212
  go_wp2_with (first | (go_at_call 211;(with_reducible refine (cs.out _).mono ?_);rintro e w' ⟨rfl,hb0⟩) | (go_at_call 129;(with_reducible refine (c1.out _).mono ?_);rintro e w' ⟨rfl,rfl⟩))
  go_ret
  exact ⟨rfl,bls⟩
 all_goals
  cases dp
  ·go_enter Tryz.func212,Tryz.ntmps212
   go_wp2_with (first | (go_at_call 211;(with_reducible refine (cs.out _).mono ?_);rintro e w' ⟨rfl,hb0⟩) | (go_at_call 129;(with_reducible refine (c1.out _).mono ?_);rintro e w' ⟨rfl,rfl⟩) | (go_at_call 130;(with_reducible refine (c2.out _).mono ?_);rintro e w' ⟨v,rfl,⟨g,c,rfl,hc⟩,hb1⟩))
   refine wp_loop_rounds 2 ?_
   rw [rounds_succ]
   go_wp2_with ((go_at_call 212;(with_reducible refine (ih.out _).mono ?_);rintro e w' ⟨rfl,hb2⟩))
   go_ret
   exact ⟨rfl,bls⟩
  ·go_enter Tryz.func212,Tryz.ntmps212
   go_wp2_with (first | (go_at_call 211;(with_reducible refine (cs.out _).mono ?_);rintro e w' ⟨rfl,hb0⟩) | (go_at_call 129;(with_reducible refine (c1.out _).mono ?_);rintro e w' ⟨rfl,rfl⟩) | (go_at_call 130;(with_reducible refine (c2.out _).mono ?_);rintro e w' ⟨v,rfl,⟨g,c,rfl,hc⟩,hb1⟩))
   refine wp_loop_rounds 2 ?_
   rw [rounds_succ]
   go_wp2_with ((go_at_call 212;(with_reducible refine (ih.out _).mono ?_);rintro e w' ⟨rfl,hb2⟩))
   rw [rounds_succ]
   go_wp2_with fail
   go_ret
   exact ⟨rfl,bls⟩
theorem nfDead_bin (l0 l:Str) (k:UInt8) (p q:Tm) (dp dq:Bool) (w:World) (B:BinL l k p q) (hk:k = 43∨k = 38)
  (cs:Hid (∀ w,Calls Tryz.prog 211 #[.string (S l0)] w fun e w'=>e = .returned (.string (S l))∧Bl w w'))
  (i1:Hid (∀ w,Calls Tryz.prog 212 #[.string (S (txt p))] w fun e w'=>e = .returned (.bool dp)∧Bl w w'))
  (i2:Hid (∀ w,Calls Tryz.prog 212 #[.string (S (txt q))] w fun e w'=>e = .returned (.bool dq)∧Bl w w')):
  Calls Tryz.prog 212 #[.string (S l0)] w fun e w'=>e = .returned (.bool (dp && dq))∧Bl w w':=by
 obtain ⟨c1,-,c2,-,-⟩:=B
 generalize txt p = tp at *
 generalize txt q = tq at *
 have cs:=hide cs.out
 rcases hk with rfl | rfl
 all_goals
  cases dp
  ·go_enter Tryz.func212,Tryz.ntmps212
   go_wp2_with (first | (go_at_call 211;(with_reducible refine (cs.out _).mono ?_);rintro e w' ⟨rfl,hb0⟩) | (go_at_call 129;(with_reducible refine (c1.out _).mono ?_);rintro e w' ⟨rfl,rfl⟩) | (go_at_call 130;(with_reducible refine (c2.out _).mono ?_);rintro e w' ⟨v,rfl,⟨g,c,rfl,p0,p1⟩,hb1⟩))
   refine wp_loop_rounds 3 ?_
   rw [rounds_succ]
   go_wp2_with ((go_at_call 212;(with_reducible refine (i1.out _).mono ?_);rintro e w' ⟨rfl,hb2⟩))
   go_ret
   exact ⟨rfl,bls⟩
  ·cases dq
   all_goals
    go_enter Tryz.func212,Tryz.ntmps212
    go_wp2_with (first | (go_at_call 211;(with_reducible refine (cs.out _).mono ?_);rintro e w' ⟨rfl,hb0⟩) | (go_at_call 129;(with_reducible refine (c1.out _).mono ?_);rintro e w' ⟨rfl,rfl⟩) | (go_at_call 130;(with_reducible refine (c2.out _).mono ?_);rintro e w' ⟨v,rfl,⟨g,c,rfl,p0,p1⟩,hb1⟩))
    refine wp_loop_rounds 3 ?_
    rw [rounds_succ]
    go_wp2_with ((go_at_call 212;(with_reducible refine (i1.out _).mono ?_);rintro e w' ⟨rfl,hb2⟩))
    rw [rounds_succ]
    have p1:=cell_kept hb2 p1
    go_wp2_with ((go_at_call 212;(with_reducible refine (i2.out _).mono ?_);rintro e w' ⟨rfl,hb3⟩))
    first
    | (go_ret
       exact ⟨rfl,bls⟩)
    | (rw [rounds_succ]
       go_wp2_with fail
       go_ret
       exact ⟨rfl,bls⟩)
theorem nfDead_zero (l0:Str) (w:World)
  (cs:Hid (∀ w,Calls Tryz.prog 211 #[.string (S l0)] w fun e w'=>e = .returned (.string (S [48]))∧Bl w w')):
  Calls Tryz.prog 212 #[.string (S l0)] w fun e w'=>e = .returned (.bool true)∧Bl w w':=by
 have c1:=hide fun w=>tmKind_zero w
 go_enter Tryz.func212,Tryz.ntmps212
 go_wp2_with (first | (go_at_call 211;(with_reducible refine (cs.out _).mono ?_);rintro e w' ⟨rfl,hb0⟩) | (go_at_call 129;(with_reducible refine (c1.out _).mono ?_);rintro e w' ⟨rfl,rfl⟩))
 go_ret
 exact ⟨rfl,bls⟩
theorem nfDead_d:∀ (n:Nat) (t:Tm) (w:World),t.size≤n→t.ok wideB = true→(txt t).length≤400000→
  Calls Tryz.prog 212 #[.string (S (txt t))] w fun e w'=>e = .returned (.bool (deadT t))∧Bl w w'
 | 0,t,_,h,_,_=>by have:=size_pos t;omega
 | n + 1, t, w, hn, hk, hl => by
   have cs:=hide fun w=>nfStrip_c t w hk hl
   have h1:=strip_size t
   have h2:=strip_len t
   have h3:=strip_ok hk
   rw [← strip_dead t]
   generalize stripT t = u at *
   cases u with
   | zero=>exact nfDead_zero _ w cs
   | un k a b p=>
     simp only [Tm.ok,Bool.and_eq_true] at h3
     simp only [Tm.size] at h1
     simp only [txt,List.length_append] at h2
     exact nfDead_un _ _ k a b p _ w (unL k a b p h3.1) h3.1 cs (hide fun w=>nfDead_d n p w (by omega) h3.2 (by omega))
   | bin k p q=>
     simp only [Tm.ok,Bool.and_eq_true,Bool.or_eq_true,beq_iff_eq] at h3
     simp only [Tm.size] at h1
     have hs:Short (txt (.bin k p q)):=short_of (by omega)
     simp only [txt,List.length_cons,List.length_append] at h2
     exact nfDead_bin _ _ k p q _ _ w (binL k p q h3.1 h3.2.1 hs) h3.1 cs (hide fun w=>nfDead_d n p w (by omega) h3.2.1 (by omega)) (hide fun w=>nfDead_d n q w (by omega) h3.2.2 (by omega))
theorem nfDead_c (t:Tm) (w:World) (hk:t.ok wideB = true) (hl:(txt t).length≤400000):
  Calls Tryz.prog 212 #[.string (S (txt t))] w fun e w'=>e = .returned (.bool (deadT t))∧Bl w w':=nfDead_d t.size t w (Nat.le_refl _) hk hl
end Go.Proofs.YtbibkgcbdnldbaaGreat
namespace Go.Proofs.YtbibkgcbdnldbaaGreat
open Go.RowKit
attribute [local go_sem] S_size S_toList S_lit S_get S_extract S_append drop_all
attribute [local go_sem] conv_bytes
theorem nfUsed_dead (l0 l:Str) (w:World)
  (cs:Hid (∀ w,Calls Tryz.prog 211 #[.string (S l0)] w fun e w'=>e = .returned (.string (S l))∧Bl w w'))
  (cd:Hid (∀ w,Calls Tryz.prog 212 #[.string (S l)] w fun e w'=>e = .returned (.bool true)∧Bl w w')):
  Calls Tryz.prog 177 #[.string (S l0)] w fun e w'=>e = .returned (.string (S []))∧Bl w w':=by
 go_enter Tryz.func177,Tryz.ntmps177
 go_wp2_with (first | (go_at_call 211;(with_reducible refine (cs.out _).mono ?_);rintro e w' ⟨rfl,hb0⟩) | (go_at_call 212;(with_reducible refine (cd.out _).mono ?_);rintro e w' ⟨rfl,hb1⟩))
 go_ret
 exact ⟨rfl,bls⟩
theorem nfUsed_un (l0 l u:Str) (k a b:UInt8) (p:Tm) (w:World) (U:UnL l k a b p) (hk:okhd wideB k a b = true)
  (cs:Hid (∀ w,Calls Tryz.prog 211 #[.string (S l0)] w fun e w'=>e = .returned (.string (S l))∧Bl w w'))
  (cd:Hid (∀ w,Calls Tryz.prog 212 #[.string (S l)] w fun e w'=>e = .returned (.bool false)∧Bl w w')) (hu:u.length≤100000)
  (ih:Hid (∀ w,Calls Tryz.prog 177 #[.string (S (txt p))] w fun e w'=>e = .returned (.string (S u))∧Bl w w')):
  Calls Tryz.prog 177 #[.string (S l0)] w fun e w'=>e = .returned (.string (S (both (if bindsB k then less b (both [] u) else both [] u) (namesT k a b))))∧Bl w w':=by
 have c5:=hide fun w=>tmNames_un l k a b p w U hk
 obtain ⟨-,-,c2,c3,-⟩:=U
 have c4:=hide fun w=>tmBoth_c [] u w (by simp;omega)
 have ho:(both [] u).length≤100000:=by have:=both_len u [];simp at this;omega
 generalize txt p = tp at *
 generalize both [] u = o at *
 rcases okhd_cases hk with ⟨rfl,ha,hb⟩ | ⟨rfl,ha,hb⟩ | ⟨rfl,ha,hb⟩ | ⟨rfl,ha,hb⟩ | ⟨rfl,ha,hb⟩ | ⟨rfl,ha,hb⟩ <;> clear hk
 case inr.inl=>
  have d1:=hide fun w=>tmLess_c o b w (by unfold Short;omega)
  have hle:(less b o).length≤100000:=by have:=List.length_filter_le (fun x=>x != b) o;unfold less;omega
  have c3:Hid (∀ w,Calls Tryz.prog 131 #[.string (S l)] w fun e w'=>e = .returned (.tuple #[.int .u8 b.toNat,.bool true])∧w = w'):=c3
  have c5:Hid (∀ w,Calls Tryz.prog 213 #[.string (S l)] w fun e w'=>e = .returned (.string (S [a]))∧Bl w w'):=c5
  have hr:Hid (both (if bindsB 63 then less b o else o) (namesT 63 a b)= add a (less b o)):=rfl
  generalize both (if bindsB 63 then less b o else o) (namesT 63 a b)= R at hr ⊢
  generalize less b o = o2 at *
  have a1:=hide fun w=>tmAdd_c o2 a w (by unfold Short;omega)
  generalize add a o2 = o3 at *
  have hB:=fun (w:World)=>bw_byt w [a]
  have hBl:=fun (w:World)=>bw_bl w [a]
  go_enter Tryz.func177,Tryz.ntmps177
  go_wp2_with (first | (go_at_call 211;(with_reducible refine (cs.out _).mono ?_);rintro e w' ⟨rfl,hb0⟩) | (go_at_call 212;(with_reducible refine (cd.out _).mono ?_);rintro e w' ⟨rfl,hb1⟩) | (go_at_call 130;(with_reducible refine (c2.out _).mono ?_);rintro e w' ⟨v,rfl,⟨g,c,rfl,hc⟩,hb2⟩))
  refine wp_loop_rounds 2 ?_
  rw [rounds_succ]
  go_wp2_with (first | (go_at_call 177;(with_reducible refine (ih.out _).mono ?_);rintro e w' ⟨rfl,hb3⟩) | (go_at_call 86;(with_reducible refine (c4.out _).mono ?_);rintro e w' ⟨rfl,hb4⟩))
  rw [rounds_succ]
  go_wp2_with (first | (go_at_call 131;(with_reducible refine (c3.out _).mono ?_);rintro e w' ⟨rfl,rfl⟩) | (go_at_call 132;(with_reducible refine (d1.out _).mono ?_);rintro e w' ⟨rfl,rfl⟩) | (go_at_call 213;(with_reducible refine (c5.out _).mono ?_);rintro e w5 ⟨rfl,hb5⟩))
  have f0:=(hB w5).c 0 a rfl
  have HL:Bl w (bw w5 [a]):=Bl.trans (bls) (hBl w5)
  clear hB hBl
  refine wp_loop_rounds 2 ?_
  rw [rounds_succ]
  go_wp2_with ((go_at_call 101;(with_reducible refine (a1.out _).mono ?_);rintro e w6 ⟨rfl,hb6⟩))
  rw [rounds_succ]
  go_wp2_with fail
  go_ret
  exact ⟨ret_str hr.out.symm,bls⟩
 case inr.inr.inr.inl=>
  have d1:=hide fun w=>tmLess_c o b w (by unfold Short;omega)
  have c3:Hid (∀ w,Calls Tryz.prog 131 #[.string (S l)] w fun e w'=>e = .returned (.tuple #[.int .u8 b.toNat,.bool true])∧w = w'):=c3
  have c5:Hid (∀ w,Calls Tryz.prog 213 #[.string (S l)] w fun e w'=>e = .returned (.string (S []))∧Bl w w'):=c5
  have hr:Hid (both (if bindsB 35 then less b o else o) (namesT 35 a b)= less b o):=rfl
  generalize both (if bindsB 35 then less b o else o) (namesT 35 a b)= R at hr ⊢
  generalize less b o = o2 at *
  have hBl:=fun (w:World)=>bw_bl w []
  go_enter Tryz.func177,Tryz.ntmps177
  go_wp2_with (first | (go_at_call 211;(with_reducible refine (cs.out _).mono ?_);rintro e w' ⟨rfl,hb0⟩) | (go_at_call 212;(with_reducible refine (cd.out _).mono ?_);rintro e w' ⟨rfl,hb1⟩) | (go_at_call 130;(with_reducible refine (c2.out _).mono ?_);rintro e w' ⟨v,rfl,⟨g,c,rfl,hc⟩,hb2⟩))
  refine wp_loop_rounds 2 ?_
  rw [rounds_succ]
  go_wp2_with (first | (go_at_call 177;(with_reducible refine (ih.out _).mono ?_);rintro e w' ⟨rfl,hb3⟩) | (go_at_call 86;(with_reducible refine (c4.out _).mono ?_);rintro e w' ⟨rfl,hb4⟩))
  rw [rounds_succ]
  go_wp2_with (first | (go_at_call 131;(with_reducible refine (c3.out _).mono ?_);rintro e w' ⟨rfl,rfl⟩) | (go_at_call 132;(with_reducible refine (d1.out _).mono ?_);rintro e w' ⟨rfl,rfl⟩) | (go_at_call 213;(with_reducible refine (c5.out _).mono ?_);rintro e w5 ⟨rfl,hb5⟩))
  have HL:Bl w (bw w5 []):=Bl.trans (bls) (hBl w5)
  clear hBl
  refine wp_loop_rounds 1 ?_
  rw [rounds_succ]
  go_wp2_with fail
  go_ret
  exact ⟨ret_str hr.out.symm,bls⟩
 case inl=>
  have c3:Hid (∀ w,Calls Tryz.prog 131 #[.string (S l)] w fun e w'=>e = .returned (.tuple #[.int .u8 0,.bool false])∧w = w'):=c3
  have c5:Hid (∀ w,Calls Tryz.prog 213 #[.string (S l)] w fun e w'=>e = .returned (.string (S [a,b]))∧Bl w w'):=c5
  have hr:Hid (both (if bindsB 33 then less b o else o) (namesT 33 a b)= add b (add a o)):=rfl
  generalize both (if bindsB 33 then less b o else o) (namesT 33 a b)= R at hr ⊢
  have a1:=hide fun w=>tmAdd_c o a w (by unfold Short;omega)
  have a2:=hide fun w=>tmAdd_c (add a o) b w (by have:=add_short (c:=a) (l:=o);unfold Short;omega)
  generalize add a o = o3 at *
  have hB:=fun (w:World)=>bw_byt w [a,b]
  have hBl:=fun (w:World)=>bw_bl w [a,b]
  go_enter Tryz.func177,Tryz.ntmps177
  go_wp2_with (first | (go_at_call 211;(with_reducible refine (cs.out _).mono ?_);rintro e w' ⟨rfl,hb0⟩) | (go_at_call 212;(with_reducible refine (cd.out _).mono ?_);rintro e w' ⟨rfl,hb1⟩) | (go_at_call 130;(with_reducible refine (c2.out _).mono ?_);rintro e w' ⟨v,rfl,⟨g,c,rfl,hc⟩,hb2⟩))
  refine wp_loop_rounds 2 ?_
  rw [rounds_succ]
  go_wp2_with (first | (go_at_call 177;(with_reducible refine (ih.out _).mono ?_);rintro e w' ⟨rfl,hb3⟩) | (go_at_call 86;(with_reducible refine (c4.out _).mono ?_);rintro e w' ⟨rfl,hb4⟩))
  rw [rounds_succ]
  go_wp2_with (first | (go_at_call 131;(with_reducible refine (c3.out _).mono ?_);rintro e w' ⟨rfl,rfl⟩) | (go_at_call 213;(with_reducible refine (c5.out _).mono ?_);rintro e w5 ⟨rfl,hb5⟩))
  have f0:=(hB w5).c 0 a rfl
  have f1:=(hB w5).c 1 b rfl
  have HL:Bl w (bw w5 [a,b]):=Bl.trans (bls) (hBl w5)
  clear hB hBl
  refine wp_loop_rounds 3 ?_
  rw [rounds_succ]
  go_wp2_with ((go_at_call 101;(with_reducible refine (a1.out _).mono ?_);rintro e w6 ⟨rfl,hb6⟩))
  rw [rounds_succ]
  have f1:=cell_kept hb6 f1
  go_wp2_with ((go_at_call 101;(with_reducible refine (a2.out _).mono ?_);rintro e w7 ⟨rfl,hb7⟩))
  rw [rounds_succ]
  go_wp2_with fail
  go_ret
  exact ⟨ret_str hr.out.symm,bls⟩
 case inr.inr.inl=>
  have c3:Hid (∀ w,Calls Tryz.prog 131 #[.string (S l)] w fun e w'=>e = .returned (.tuple #[.int .u8 0,.bool false])∧w = w'):=c3
  have c5:Hid (∀ w,Calls Tryz.prog 213 #[.string (S l)] w fun e w'=>e = .returned (.string (S [a,b]))∧Bl w w'):=c5
  have hr:Hid (both (if bindsB 61 then less b o else o) (namesT 61 a b)= add b (add a o)):=rfl
  generalize both (if bindsB 61 then less b o else o) (namesT 61 a b)= R at hr ⊢
  have a1:=hide fun w=>tmAdd_c o a w (by unfold Short;omega)
  have a2:=hide fun w=>tmAdd_c (add a o) b w (by have:=add_short (c:=a) (l:=o);unfold Short;omega)
  generalize add a o = o3 at *
  have hB:=fun (w:World)=>bw_byt w [a,b]
  have hBl:=fun (w:World)=>bw_bl w [a,b]
  go_enter Tryz.func177,Tryz.ntmps177
  go_wp2_with (first | (go_at_call 211;(with_reducible refine (cs.out _).mono ?_);rintro e w' ⟨rfl,hb0⟩) | (go_at_call 212;(with_reducible refine (cd.out _).mono ?_);rintro e w' ⟨rfl,hb1⟩) | (go_at_call 130;(with_reducible refine (c2.out _).mono ?_);rintro e w' ⟨v,rfl,⟨g,c,rfl,hc⟩,hb2⟩))
  refine wp_loop_rounds 2 ?_
  rw [rounds_succ]
  go_wp2_with (first | (go_at_call 177;(with_reducible refine (ih.out _).mono ?_);rintro e w' ⟨rfl,hb3⟩) | (go_at_call 86;(with_reducible refine (c4.out _).mono ?_);rintro e w' ⟨rfl,hb4⟩))
  rw [rounds_succ]
  go_wp2_with (first | (go_at_call 131;(with_reducible refine (c3.out _).mono ?_);rintro e w' ⟨rfl,rfl⟩) | (go_at_call 213;(with_reducible refine (c5.out _).mono ?_);rintro e w5 ⟨rfl,hb5⟩))
  have f0:=(hB w5).c 0 a rfl
  have f1:=(hB w5).c 1 b rfl
  have HL:Bl w (bw w5 [a,b]):=Bl.trans (bls) (hBl w5)
  clear hB hBl
  refine wp_loop_rounds 3 ?_
  rw [rounds_succ]
  go_wp2_with ((go_at_call 101;(with_reducible refine (a1.out _).mono ?_);rintro e w6 ⟨rfl,hb6⟩))
  rw [rounds_succ]
  have f1:=cell_kept hb6 f1
  go_wp2_with ((go_at_call 101;(with_reducible refine (a2.out _).mono ?_);rintro e w7 ⟨rfl,hb7⟩))
  rw [rounds_succ]
  go_wp2_with fail
  go_ret
  exact ⟨ret_str hr.out.symm,bls⟩
 all_goals
  have c3:Hid (∀ w,Calls Tryz.prog 131 #[.string (S l)] w fun e w'=>e = .returned (.tuple #[.int .u8 0,.bool false])∧w = w'):=c3
  have c5:Hid (∀ w,Calls Tryz.prog 213 #[.string (S l)] w fun e w'=>e = .returned (.string (S []))∧Bl w w'):=c5
  have hBl:=fun (w:World)=>bw_bl w []
  go_enter Tryz.func177,Tryz.ntmps177
  go_wp2_with (first | (go_at_call 211;(with_reducible refine (cs.out _).mono ?_);rintro e w' ⟨rfl,hb0⟩) | (go_at_call 212;(with_reducible refine (cd.out _).mono ?_);rintro e w' ⟨rfl,hb1⟩) | (go_at_call 130;(with_reducible refine (c2.out _).mono ?_);rintro e w' ⟨v,rfl,⟨g,c,rfl,hc⟩,hb2⟩))
  refine wp_loop_rounds 2 ?_
  rw [rounds_succ]
  go_wp2_with (first | (go_at_call 177;(with_reducible refine (ih.out _).mono ?_);rintro e w' ⟨rfl,hb3⟩) | (go_at_call 86;(with_reducible refine (c4.out _).mono ?_);rintro e w' ⟨rfl,hb4⟩))
  rw [rounds_succ]
  go_wp2_with (first | (go_at_call 131;(with_reducible refine (c3.out _).mono ?_);rintro e w' ⟨rfl,rfl⟩) | (go_at_call 213;(with_reducible refine (c5.out _).mono ?_);rintro e w5 ⟨rfl,hb5⟩))
  have HL:Bl w (bw w5 []):=Bl.trans (bls) (hBl w5)
  clear hBl
  refine wp_loop_rounds 1 ?_
  rw [rounds_succ]
  go_wp2_with fail
  go_ret
  exact ⟨rfl,bls⟩
theorem nfUsed_bin (l0 l u v:Str) (k:UInt8) (p q:Tm) (w:World) (B:BinL l k p q) (hk:k = 43∨k = 38)
  (cs:Hid (∀ w,Calls Tryz.prog 211 #[.string (S l0)] w fun e w'=>e = .returned (.string (S l))∧Bl w w'))
  (cd:Hid (∀ w,Calls Tryz.prog 212 #[.string (S l)] w fun e w'=>e = .returned (.bool false)∧Bl w w')) (hu:u.length≤100000) (hv:v.length≤100000)
  (i1:Hid (∀ w,Calls Tryz.prog 177 #[.string (S (txt p))] w fun e w'=>e = .returned (.string (S u))∧Bl w w'))
  (i2:Hid (∀ w,Calls Tryz.prog 177 #[.string (S (txt q))] w fun e w'=>e = .returned (.string (S v))∧Bl w w')):
  Calls Tryz.prog 177 #[.string (S l0)] w fun e w'=>e = .returned (.string (S (both (both [] u) v)))∧Bl w w':=by
 obtain ⟨c1,-,c2,c3,-⟩:=B
 have c5:=hide fun w=>tmNames_other l k w (by rcases hk with h | h <;> simp [h]) c1
 have c4:=hide fun w=>tmBoth_c [] u w (by simp;omega)
 have ho:(both [] u).length≤100000:=by have:=both_len u [];simp at this;omega
 have c6:=hide fun w=>tmBoth_c (both [] u) v w (by omega)
 generalize txt p = tp at *
 generalize txt q = tq at *
 generalize both [] u = o at *
 generalize both o v = o2 at *
 have hBl:=fun (w:World)=>bw_bl w []
 clear hk
 go_enter Tryz.func177,Tryz.ntmps177
 go_wp2_with (first | (go_at_call 211;(with_reducible refine (cs.out _).mono ?_);rintro e w' ⟨rfl,hb0⟩) | (go_at_call 212;(with_reducible refine (cd.out _).mono ?_);rintro e w' ⟨rfl,hb1⟩) | (go_at_call 130;(with_reducible refine (c2.out _).mono ?_);rintro e w' ⟨v',rfl,⟨g,c,rfl,p0,p1⟩,hb2⟩))
 refine wp_loop_rounds 3 ?_
 rw [rounds_succ]
 go_wp2_with (first | (go_at_call 177;(with_reducible refine (i1.out _).mono ?_);rintro e w' ⟨rfl,hb3⟩) | (go_at_call 86;(with_reducible refine (c4.out _).mono ?_);rintro e w' ⟨rfl,hb4⟩))
 rw [rounds_succ]
 have p1:=cell_kept hb4 (cell_kept hb3 p1)
 go_wp2_with (first | (go_at_call 177;(with_reducible refine (i2.out _).mono ?_);rintro e w' ⟨rfl,hb5⟩) | (go_at_call 86;(with_reducible refine (c6.out _).mono ?_);rintro e w' ⟨rfl,hb6⟩))
 rw [rounds_succ]
 go_wp2_with (first | (go_at_call 131;(with_reducible refine (c3.out _).mono ?_);rintro e w' ⟨rfl,rfl⟩) | (go_at_call 213;(with_reducible refine (c5.out _).mono ?_);rintro e w7 ⟨rfl,hb7⟩))
 have HL:Bl w (bw w7 []):=Bl.trans (bls) (hBl w7)
 clear hBl
 refine wp_loop_rounds 1 ?_
 rw [rounds_succ]
 go_wp2_with fail
 go_ret
 exact ⟨rfl,bls⟩
theorem nfUsed_d:∀ (n:Nat) (t:Tm) (w:World),t.size≤n→t.ok wideB = true→(txt t).length≤40000→
  Calls Tryz.prog 177 #[.string (S (txt t))] w fun e w'=>e = .returned (.string (S (usedS t)))∧Bl w w'
 | 0,t,_,h,_,_=>by have:=size_pos t;omega
 | n + 1, t, w, hn, hk, hl => by
   have cs:=hide fun w=>nfStrip_c t w hk (by omega)
   have h1:=strip_size t
   have h2:=strip_len t
   have h3:=strip_ok hk
   have h61:=@strip_61 t
   rw [← strip_used t]
   generalize stripT t = u at *
   have cd:=hide fun w=>nfDead_c u w h3 (by omega)
   cases hd:deadT u
   case true=>rw [hd] at cd;rw [dead_used hd];exact nfUsed_dead _ _ w cs cd
   rw [hd] at cd
   cases u with
   | zero=>cases hd
   | un k a b p=>
     simp only [Tm.ok,Bool.and_eq_true] at h3
     simp only [Tm.size] at h1
     simp only [txt,List.length_append] at h2
     have hsz:=size_le_txt p
     have:=used_len p
     rw [usedS,hd,if_neg (by decide),if_neg (fun e=>h61 (by rw [e.1]) e.2)]
     exact nfUsed_un _ _ _ k a b p w (unL k a b p h3.1) h3.1 cs cd (by omega) (hide fun w=>nfUsed_d n p w (by omega) h3.2 (by omega))
   | bin k p q=>
     simp only [Tm.ok,Bool.and_eq_true,Bool.or_eq_true,beq_iff_eq] at h3
     simp only [Tm.size] at h1
     have hs:Short (txt (.bin k p q)):=short_of (by omega)
     simp only [txt,List.length_cons,List.length_append] at h2
     have:=used_len p
     have:=used_len q
     have:=size_le_txt p
     have:=size_le_txt q
     rw [usedS,hd,if_neg (by decide)]
     exact nfUsed_bin _ _ _ _ k p q w (binL k p q h3.1 h3.2.1 hs) h3.1 cs cd (by omega) (by omega) (hide fun w=>nfUsed_d n p w (by omega) h3.2.1 (by omega)) (hide fun w=>nfUsed_d n q w (by omega) h3.2.2 (by omega))
theorem nfUsed_c (t:Tm) (w:World) (hk:t.ok wideB = true) (hl:(txt t).length≤40000):
  Calls Tryz.prog 177 #[.string (S (txt t))] w fun e w'=>e = .returned (.string (S (usedS t)))∧Bl w w':=nfUsed_d t.size t w (Nat.le_refl _) hk hl
end Go.Proofs.YtbibkgcbdnldbaaGreat
namespace Go.Proofs.YtbibkgcbdnldbaaGreat
open Go.RowKit
attribute [local go_sem] S_size S_toList S_lit S_get S_extract S_append drop_all
theorem peel_strip:∀ t:Tm,peel (stripT t)= peel t
 | .zero=>rfl
 | .un k a b p=>by
   simp only [stripT];split
   ·rename_i h;rw [peel_strip p,peel,if_pos h]
   ·rfl
 | .bin k p q=>rfl
theorem nfPeel_c (t:Tm) (w:World) (hk:t.ok wideB = true) (hs:(txt t).length≤40000):
  Calls Tryz.prog 222 #[.string (S (txt t))] w fun e w'=>e = .returned (.string (S (txt (peel t))))∧Bl w w':=by
 go_enter Tryz.func222,Tryz.ntmps222
 go_wp2_with fail
 go_loopg [0] t.size (fun k i wr=>∃ u:Tm,Hid (peel u = peel t∧u.ok wideB = true∧(txt u).length≤40000)∧k = u.size∧i = .string (S (txt u))∧Bl w wr)
 case atStart=>exact ⟨t,⟨rfl,hk,hs⟩,rfl,rfl,Bl.refl _⟩
 case round =>
  obtain ⟨u,hu,hkk,rfl,hb⟩:=hrel
  have HK:=hide hkk
  clear hkk hk hs
  have cs:=hide fun w=>nfStrip_c u w hu.out.2.1 (by have:=hu.out.2.2;omega)
  have HS:=hide (strip_size u)
  have h2:=hide (strip_len u)
  have h3:=hide (strip_ok hu.out.2.1)
  have h61:Hid (∀ a b p,stripT u = .un 61 a b p→a≠b):=fun a b p h=>strip_61 h
  have hpe:Hid (peel (stripT u)= peel t):=(peel_strip u).trans hu.out.1
  have hlen:=hide hu.out.2.2
  clear hu
  generalize stripT u = v at *
  generalize txt u = l0 at *
  cases v with
  | zero=>
    have c1:=hide fun w=>tmKind_zero w
    have c2:=hide fun w=>tmParts_zero w
    have hr:Hid (txt (peel t)= [48]):=by rw [Hid,← hpe.out];rfl
    simp only [txt] at *
    clear hpe HK HS
    go_wp2_with (first | (go_at_call 211;(with_reducible refine (cs.out _).mono ?_);rintro e w' ⟨rfl,hb0⟩) | (go_at_call 129;(with_reducible refine (c1.out _).mono ?_);rintro e w' ⟨rfl,rfl⟩) | (go_at_call 130;(with_reducible refine (c2.out _).mono ?_);rintro e w' ⟨rfl,rfl⟩))
    go_quiet (fail)
    go_wp2_with fail
    go_ret
    exact ⟨ret_str hr.out.symm,by (repeat (first | exact Bl.refl _ | assumption | apply bl_drewN | apply bl_drew | (refine Bl.trans ?_ (bl_alloc _ _)) | (refine Bl.trans ?_ (by assumption))))⟩
  | bin k p q=>
    have h3:=h3.out
    simp only [Tm.ok,Bool.and_eq_true,Bool.or_eq_true,beq_iff_eq] at h3
    have hs:Short (txt (.bin k p q)):=short_of (by have:=h2.out;have:=hlen.out;omega)
    have B:=binL k p q h3.1 h3.2.1 hs
    have hl2:(txt p).length + (txt q).length≤40000:=by have h:=h2.out;have h':=hlen.out;simp only [txt,List.length_cons,List.length_append,List.length_nil] at h;omega
    have d1:=hide fun w=>nfDead_c p w h3.2.1 (by omega)
    have d2:=hide fun w=>nfDead_c q w h3.2.2 (by omega)
    have hsz:Hid (p.size < u.size∧q.size < u.size):=by have:=HS.out;simp only [Tm.size] at this;constructor <;> omega
    obtain ⟨c1,-,c2,-,-⟩:=B
    obtain ⟨hk,ok1,ok2⟩:=h3
    have hx:Hid ((deadT p = true→peel q = peel t)∧(deadT p = false→deadT q = true→peel p = peel t)∧(deadT p = false→deadT q = false→txt (peel t)= txt (.bin k p q))):=by
     have h:=hpe.out
     refine ⟨fun hp=>?_,fun hp hq=>?_,fun hp hq=>?_⟩
     ·rw [← h,peel,if_pos hp]
     ·rw [← h,peel,if_neg (by simp [hp]),if_pos hq]
     ·rw [← h,peel,if_neg (by simp [hp]),if_neg (by simp [hq])]
    clear hpe h2 h61 hs HS hlen
    generalize txt (.bin k p q)= l at *
    cases hp:deadT p <;> rw [hp] at d1
    ·cases hq:deadT q <;> rw [hq] at d2
     ·have hr:Hid (txt (peel t)= l):=hx.out.2.2 hp hq
      clear hx hp hq hl2 HK
      rcases hk with rfl | rfl
      all_goals
       go_wp2_with (first | (go_at_call 211;(with_reducible refine (cs.out _).mono ?_);rintro e w' ⟨rfl,hb0⟩) | (go_at_call 129;(with_reducible refine (c1.out _).mono ?_);rintro e w' ⟨rfl,rfl⟩) | (go_at_call 130;(with_reducible refine (c2.out _).mono ?_);rintro e w' ⟨v,rfl,⟨g,c,rfl,p0,p1⟩,hb1⟩) | (go_at_call 212;first | ((with_reducible refine (d1.out _).mono ?_);rintro e w2 ⟨rfl,hb2⟩;have p1:=cell_kept hb2 p1) | ((with_reducible refine (d2.out _).mono ?_);rintro e w3 ⟨rfl,hb3⟩)))
       go_quiet (fail)
       go_wp2_with fail
       go_ret
       exact ⟨ret_str hr.out.symm,by (repeat (first | exact Bl.refl _ | assumption | apply bl_drewN | apply bl_drew | (refine Bl.trans ?_ (bl_alloc _ _)) | (refine Bl.trans ?_ (by assumption))))⟩
     ·have hn:Hid (peel p = peel t∧p.ok wideB = true∧(txt p).length≤40000):=⟨hx.out.2.1 hp hq,ok1,by omega⟩
      clear hx hp hq hl2
      rcases hk with rfl | rfl
      all_goals
       go_wp2_with (first | (go_at_call 211;(with_reducible refine (cs.out _).mono ?_);rintro e w' ⟨rfl,hb0⟩) | (go_at_call 129;(with_reducible refine (c1.out _).mono ?_);rintro e w' ⟨rfl,rfl⟩) | (go_at_call 130;(with_reducible refine (c2.out _).mono ?_);rintro e w' ⟨v,rfl,⟨g,c,rfl,p0,p1⟩,hb1⟩) | (go_at_call 212;first | ((with_reducible refine (d1.out _).mono ?_);rintro e w2 ⟨rfl,hb2⟩;have p1:=cell_kept hb2 p1;have p0:=cell_kept hb2 p0) | ((with_reducible refine (d2.out _).mono ?_);rintro e w3 ⟨rfl,hb3⟩;have p0:=cell_kept hb3 p0)))
       go_roundg p.size
       case measure=>have:=HK.out;have:=hsz.out;omega
       case rel=>exact ⟨p,hn,rfl,rfl,by (repeat (first | exact Bl.refl _ | assumption | apply bl_drewN | apply bl_drew | (refine Bl.trans ?_ (bl_alloc _ _)) | (refine Bl.trans ?_ (by assumption))))⟩
    ·have hn:Hid (peel q = peel t∧q.ok wideB = true∧(txt q).length≤40000):=⟨hx.out.1 hp,ok2,by omega⟩
     clear hx hp hl2 d2
     rcases hk with rfl | rfl
     all_goals
      go_wp2_with (first | (go_at_call 211;(with_reducible refine (cs.out _).mono ?_);rintro e w' ⟨rfl,hb0⟩) | (go_at_call 129;(with_reducible refine (c1.out _).mono ?_);rintro e w' ⟨rfl,rfl⟩) | (go_at_call 130;(with_reducible refine (c2.out _).mono ?_);rintro e w' ⟨v,rfl,⟨g,c,rfl,p0,p1⟩,hb1⟩) | (go_at_call 212;(with_reducible refine (d1.out _).mono ?_);rintro e w2 ⟨rfl,hb2⟩;have p1:=cell_kept hb2 p1))
      go_roundg q.size
      case measure=>have:=HK.out;have:=hsz.out;omega
      case rel=>exact ⟨q,hn,rfl,rfl,by (repeat (first | exact Bl.refl _ | assumption | apply bl_drewN | apply bl_drew | (refine Bl.trans ?_ (bl_alloc _ _)) | (refine Bl.trans ?_ (by assumption))))⟩
  | un k a b p =>
    have h3:=h3.out
    simp only [Tm.ok,Bool.and_eq_true] at h3
    have U:=unL k a b p h3.1
    have hl2:(txt p).length≤40000:=by have h:=h2.out;have h':=hlen.out;simp only [txt,List.length_append] at h;omega
    have hsz:Hid (p.size < u.size):=by have:=HS.out;simp only [Tm.size] at this;unfold Hid;omega
    by_cases h35:k = 35
    ·subst h35
     have hl:txt (.un 35 a b p)= 35 :: b :: 46 :: txt p:=by simp [txt,hd]
     obtain ⟨g1,g2⟩:=byte_get (l:=txt (.un 35 a b p)) (i:=1) (x:=b) (by rw [hl];rfl)
     have g3:(1:Int) < (txt (.un 35 a b p)).length:=by omega
     have d1:=hide fun w=>nfUsed_c p w h3.2 hl2
     have hul:=used_len p
     have hsp:=size_le_txt p
     have d2:=hide fun w=>tmIn_c (usedS p) b w (by unfold Short;omega)
     obtain ⟨c1,-,c2,-,-⟩:=U
     by_cases hbu:b∈usedS p
     ·have hr:Hid (txt (peel t)= txt (.un 35 a b p)):=by rw [Hid,← hpe.out,peel];simp [hbu]
      rw [decide_eq_true hbu] at d2
      generalize usedS p = us at *
      clear hpe h2 h61 HS hlen hl hul hsp hbu hl2 h3 HK
      generalize txt (.un 35 a b p)= l at *
      generalize txt p = tp at *
      go_wp2_with (first | (go_at_call 211;(with_reducible refine (cs.out _).mono ?_);rintro e w' ⟨rfl,hb0⟩) | (go_at_call 129;(with_reducible refine (c1.out _).mono ?_);rintro e w' ⟨rfl,rfl⟩) | (go_at_call 130;(with_reducible refine (c2.out _).mono ?_);rintro e w' ⟨v,rfl,⟨g,c,rfl,p0⟩,hb1⟩))
      go_region_with (first | (go_at_call 177;(with_reducible refine (d1.out _).mono ?_);rintro e w2 ⟨rfl,hb2⟩) | (go_at_call 100;(with_reducible refine (d2.out _).mono ?_);rintro e w3 ⟨rfl,rfl⟩))
      all_goals
       go_wp2_with fail
       go_ret
       exact ⟨ret_str hr.out.symm,by (repeat (first | exact Bl.refl _ | assumption | apply bl_drewN | apply bl_drew | (refine Bl.trans ?_ (bl_alloc _ _)) | (refine Bl.trans ?_ (by assumption))))⟩
     ·have hn:Hid (peel p = peel t∧p.ok wideB = true∧(txt p).length≤40000):=by
       refine ⟨?_,h3.2,hl2⟩
       rw [← hpe.out];simp [peel,hbu]
      rw [decide_eq_false hbu] at d2
      generalize usedS p = us at *
      clear hpe h2 h61 HS hlen hl hul hsp hbu hl2 h3
      generalize txt (.un 35 a b p)= l at *
      go_wp2_with (first | (go_at_call 211;(with_reducible refine (cs.out _).mono ?_);rintro e w' ⟨rfl,hb0⟩) | (go_at_call 129;(with_reducible refine (c1.out _).mono ?_);rintro e w' ⟨rfl,rfl⟩) | (go_at_call 130;(with_reducible refine (c2.out _).mono ?_);rintro e w' ⟨v,rfl,⟨g,c,rfl,p0⟩,hb1⟩))
      go_region_with (first | (go_at_call 177;(with_reducible refine (d1.out _).mono ?_);rintro e w2 ⟨rfl,hb2⟩;have p0:=cell_kept hb2 p0) | (go_at_call 100;(with_reducible refine (d2.out _).mono ?_);rintro e w3 ⟨rfl,rfl⟩))
      all_goals
       go_wp2_with fail
       go_roundg p.size
       case measure=>have:=HK.out;have:=hsz.out;omega
       case rel=>exact ⟨p,hn,rfl,rfl,by (repeat (first | exact Bl.refl _ | assumption | apply bl_drewN | apply bl_drew | (refine Bl.trans ?_ (bl_alloc _ _)) | (refine Bl.trans ?_ (by assumption))))⟩
    ·have hne:¬ (k = 61∧a = b):=fun e=>h61.out a b p (by rw [e.1]) e.2
     have hr:Hid (txt (peel t)= txt (.un k a b p)):=by rw [Hid,← hpe.out,peel,if_neg hne,if_neg (fun e=>h35 e.1)]
     obtain ⟨c1,-,c2,-,-⟩:=U
     have q0:=ne_int (d:=35) h35
     have q1:=ne_int (d:=38) (okhd_ne h3.1).2.2
     have q2:=ne_int (d:=43) (okhd_ne h3.1).2.1
     have q0':((k.toNat:Int)== 35)= false:=q0
     have q1':((k.toNat:Int)== 38)= false:=q1
     have q2':((k.toNat:Int)== 43)= false:=q2
     clear hpe h2 h61 HS hlen hl2 h3 h35 hne q0 q1 q2 HK
     generalize txt (.un k a b p)= l at *
     go_wp2_with (first | (go_at_call 211;(with_reducible refine (cs.out _).mono ?_);rintro e w' ⟨rfl,hb0⟩) | (go_at_call 129;(with_reducible refine (c1.out _).mono ?_);rintro e w' ⟨rfl,rfl⟩) | (go_at_call 130;(with_reducible refine (c2.out _).mono ?_);rintro e w' ⟨v,rfl,⟨g,c,rfl,p0⟩,hb1⟩))
     go_quiet (fail)
     go_wp2_with fail
     go_ret
     exact ⟨ret_str hr.out.symm,by (repeat (first | exact Bl.refl _ | assumption | apply bl_drewN | apply bl_drew | (refine Bl.trans ?_ (bl_alloc _ _)) | (refine Bl.trans ?_ (by assumption))))⟩
end Go.Proofs.YtbibkgcbdnldbaaGreat
namespace Go.Proofs.YtbibkgcbdnldbaaGreat
open Go.RowKit
attribute [local go_sem] S_size S_toList S_lit S_get S_extract S_append drop_all
theorem sm_len:∀ (d:Nat) (t:Tm),((smF d t).map txt).length≤t.size
 | 0,t=>by simp [smF]
 | d + 1, t => by
   have hp:=peel_size t
   unfold smF
   split
   ·simp
   ·split
    ·simp
    ·have:=size_pos t;simp;omega
   ·rename_i k p q hpt
    rw [hpt] at hp
    simp only [Tm.size] at hp
    split
    ·have h1:=sm_len d p
     have h2:=sm_len d q
     simp only [List.length_map,List.length_append] at *;omega
    ·split
     ·simp
     ·have:=size_pos t;simp;omega
theorem peel_len:∀ t:Tm,(txt (peel t)).length≤(txt t).length
 | .zero=>Nat.le_refl _
 | .un k a b p=>by
   have:=peel_len p
   simp only [peel];split
   ·simp only [txt,List.length_append];omega
   ·split
    ·simp only [txt,List.length_append];omega
    ·exact Nat.le_refl _
 | .bin k p q=>by
   have:=peel_len p
   have:=peel_len q
   simp only [peel];split
   ·simp only [txt,List.length_cons,List.length_append];omega
   ·split
    ·simp only [txt,List.length_cons,List.length_append];omega
    ·exact Nat.le_refl _
def MkSL (w:World) (xs:List Str) (e:Ending) (w':World):Prop:=∃ v,e = .returned v∧SL w' w.heap.size v xs∧Bl w w'
theorem nfSummands_one (l0 l:Str) (k:UInt8) (d:Bool) (w:World) (hk:k≠43)
  (cp:Hid (∀ w,Calls Tryz.prog 222 #[.string (S l0)] w fun e w'=>e = .returned (.string (S l))∧Bl w w'))
  (ck:Hid (∀ w,Calls Tryz.prog 129 #[.string (S l)] w fun e w'=>e = .returned (.int .u8 k.toNat)∧w = w'))
  (cd:Hid (∀ w,Calls Tryz.prog 212 #[.string (S l)] w fun e w'=>e = .returned (.bool d)∧Bl w w')):
  Calls Tryz.prog 225 #[.string (S l0)] w (MkSL w (if d then [] else [l])):=by
 have h1:=ne_int (d:=43) hk
 have h1':((k.toNat:Int)== 43)= false:=h1
 have h2:((k.toNat:Int) != 43)= true:=bne_of h1'
 have hk':¬ k = 43:=hk
 cases d
 ·go_enter Tryz.func225,Tryz.ntmps225
  go_wp2_with (first | (go_at_call 222;(with_reducible refine (cp.out _).mono ?_);rintro e w' ⟨rfl,hb0⟩) | (go_at_call 129;(with_reducible refine (ck.out _).mono ?_);rintro e w' ⟨rfl,rfl⟩) | (go_at_call 212;(with_reducible refine (cd.out _).mono ?_);rintro e w1 ⟨rfl,hb1⟩))
  go_ret
  exact ⟨_,rfl,SL.one w1 l (Below.size (hb0.trans hb1)),bls⟩
 ·go_enter Tryz.func225,Tryz.ntmps225
  go_wp2_with (first | (go_at_call 222;(with_reducible refine (cp.out _).mono ?_);rintro e w' ⟨rfl,hb0⟩) | (go_at_call 129;(with_reducible refine (ck.out _).mono ?_);rintro e w' ⟨rfl,rfl⟩) | (go_at_call 212;(with_reducible refine (cd.out _).mono ?_);rintro e w1 ⟨rfl,hb1⟩))
  go_ret
  exact ⟨_,rfl,SL.nil _ _,bls⟩
theorem nfSummands_two (l0 l:Str) (p q:Tm) (xs ys:List Str) (w:World) (B:BinL l 43 p q) (hl:xs.length + ys.length≤100000)
  (cp:Hid (∀ w,Calls Tryz.prog 222 #[.string (S l0)] w fun e w'=>e = .returned (.string (S l))∧Bl w w'))
  (i1:Hid (∀ w,Calls Tryz.prog 225 #[.string (S (txt p))] w (MkSL w xs)))
  (i2:Hid (∀ w,Calls Tryz.prog 225 #[.string (S (txt q))] w (MkSL w ys))):
  Calls Tryz.prog 225 #[.string (S l0)] w (MkSL w (xs ++ ys)):=by
 obtain ⟨ck,-,c2,-,-⟩:=B
 generalize txt p = tp at *
 generalize txt q = tq at *
 go_enter Tryz.func225,Tryz.ntmps225
 go_wp2_with (first | (go_at_call 222;(with_reducible refine (cp.out _).mono ?_);rintro e w' ⟨rfl,hb0⟩) | (go_at_call 129;(with_reducible refine (ck.out _).mono ?_);rintro e w' ⟨rfl,rfl⟩) | (go_at_call 130;(with_reducible refine (c2.out _).mono ?_);rintro e w1 ⟨v,rfl,⟨g,c,rfl,p0,p1⟩,hb1⟩))
 have HL:Bl w w1:=hb0.trans hb1
 have hgl:Hid (g < w1.heap.size):=cell_lt p0
 have hR:=Bl.refl w1
 clear hb0 hb1
 go_region_held3 (fun w'=>w'.cell? ⟨g,0,none⟩= some (.string (S tp))∧w'.cell? ⟨g,1,none⟩= some (.string (S tq))) (go_keep)
  (first | (go_at_call 225;first | ((with_reducible refine (i1.out _).mono ?_);rintro e w2 ⟨v1,rfl,hs1,hb2⟩;have p0:=cell_kept hb2 p0;have p1:=cell_kept hb2 p1;have hs1:=SL.mono hs1 (Below.size (bl_src hb2 (show Bl w1 _ from bls)));first | (have hs2:=SL.bl hs2 hb2) | skip) | ((with_reducible refine (i2.out _).mono ?_);rintro e w3 ⟨v2,rfl,hs2,hb3⟩;have p0:=cell_kept hb3 p0;have p1:=cell_kept hb3 p1;have hs2:=SL.mono hs2 (Below.size (bl_src hb3 (show Bl w1 _ from bls)));first | (have hs1:=SL.bl hs1 hb3) | skip)) | (refine sl_step _ (.tmp 18) (.tmp 22) w1.heap.size v1 v2 xs ys rfl rfl (by simp [Act.eval,Act.put]) (by simp [Act.eval,Act.put]) hs1 hs2.src hl (Below.size (show Bl w1 _ from bls)) ?_;intro v3 w4 hs3 hg3 ha3;have p0:=World.grownBy.cell hg3 p0 (fun e=>by have:=(SL.lt hs1 _ e.symm).1;have:=hgl.out;simp at *;omega);have p1:=World.grownBy.cell hg3 p1 (fun e=>by have:=(SL.lt hs1 _ e.symm).1;have:=hgl.out;simp at *;omega)))
 all_goals
  have hb4:Bl w w4:=bl_grown (show Bl w _ from bls) hg3 (fun k hk=>Nat.le_trans (Below.size HL) (SL.lt hs1 k hk).1)
  have hs3:=SL.mono hs3 (Below.size HL)
  go_wp2_with fail
  go_ret
  exact ⟨_,rfl,hs3,hb4⟩
theorem nfSummands_d:∀ (n:Nat) (t:Tm) (w:World),t.size≤n→t.ok wideB = true→(txt t).length≤40000→
  Calls Tryz.prog 225 #[.string (S (txt t))] w (MkSL w ((smF n t).map txt))
 | 0,t,_,h,_,_=>by have:=size_pos t;omega
 | n + 1, t, w, hn, hk, hl => by
   have cp:=hide fun w=>nfPeel_c t w hk hl
   have h1:=peel_size t
   have h2:=peel_len t
   have h3:(peel t).ok wideB = true:=peel_ok hk
   unfold smF
   match hpt:peel t with
   | .zero=>
     rw [hpt] at cp
     exact nfSummands_one _ _ 48 true w (by decide) cp (hide fun w=>tmKind_zero w) (hide fun w=>nfDead_c .zero w rfl (by simp [txt]))
   | .un k a b p=>
     rw [hpt] at cp h2 h3
     have hkk:okhd wideB k a b = true:=by simp only [Tm.ok,Bool.and_eq_true] at h3;exact h3.1
     have:=nfSummands_one _ _ k (deadT (.un k a b p)) w (okhd_ne hkk).2.1 cp (hide fun w=>tmKind_un k a b p w hkk) (hide fun w=>nfDead_c (.un k a b p) w h3 (by omega))
     dsimp only
     split <;> rename_i hd <;> simp only [hd] at this <;> exact this
   | .bin k p q=>
     rw [hpt] at cp h1 h2 h3
     have h30:=h3
     simp only [Tm.ok,Bool.and_eq_true,Bool.or_eq_true,beq_iff_eq] at h3
     simp only [Tm.size] at h1
     have hs:Short (txt (.bin k p q)):=short_of (by omega)
     dsimp only
     split
     ·rename_i h43
      subst h43
      have hl2:(txt p).length + (txt q).length≤40000:=by simp only [txt,List.length_cons,List.length_append] at h2;omega
      rw [List.map_append]
      have e1:=sm_len n p
      have e2:=sm_len n q
      have e3:=size_le_txt p
      have e4:=size_le_txt q
      exact nfSummands_two _ _ p q _ _ w (binL 43 p q (.inl rfl) h3.2.1 hs) (by omega) cp (hide fun w=>nfSummands_d n p w (by omega) h3.2.1 (by omega)) (hide fun w=>nfSummands_d n q w (by omega) h3.2.2 (by omega))
     ·rename_i h43
      have:=nfSummands_one _ _ k (deadT (.bin k p q)) w h43 cp (hide fun w=>tmKind_bin k p q w h3.2.1 hs) (hide fun w=>nfDead_c (.bin k p q) w h30 (by omega))
      split <;> rename_i hd <;> simp only [hd] at this <;> exact this
theorem nfSummands_c (t:Tm) (w:World) (hk:t.ok wideB = true) (hl:(txt t).length≤40000):
  Calls Tryz.prog 225 #[.string (S (txt t))] w (MkSL w ((smF t.size t).map txt)):=nfSummands_d t.size t w (Nat.le_refl _) hk hl
end Go.Proofs.YtbibkgcbdnldbaaGreat
namespace Go.Proofs.YtbibkgcbdnldbaaGreat
open Go.RowKit
attribute [local go_sem] S_size S_toList S_lit S_get S_extract S_append drop_all
attribute [local go_sem] conv_bytes
theorem pickE_len:∀ s:Str,(pickE s).length = s.length
 | []=>rfl
 | x :: l=>by simp [pickE,pickE_len l]
theorem pickE_get:∀ {s:Str} {i:Nat} {x:UInt8},s[i]? = some x→(pickE s)[i]? = some (x,s.take i ++ s.drop (i + 1))
 | [],i,x,h=>by simp at h
 | y :: l,0,x,h=>by simp at h;subst h;simp [pickE]
 | y :: l,i + 1,x,h=>by
   have:=pickE_get (s:=l) (i:=i) (x:=x) (by simpa using h)
   simp [pickE,this]
def fct:Nat→Nat
 | 0=>1
 | n + 1=>(n + 1) * fct n
theorem ordN_len:∀ {n:Nat} {s:Str},s.length = n→(ordN n s).length = fct n
 | 0,s,h=>rfl
 | n + 1, s, h => by
   have:∀ p∈pickE s,((ordN n p.2).map (p.1 :: ·)).length = fct n:=by
    intro p hp
    obtain ⟨x,r⟩:=p
    obtain ⟨a,b,rfl,rfl⟩:=mem_pickE.1 hp
    rw [List.length_map];exact ordN_len (by simp at h ⊢;omega)
   simp only [ordN,fct]
   rw [← h,← pickE_len s]
   clear h
   generalize pickE s = L at this ⊢
   induction L with
   | nil=>simp
   | cons p l ih=>
     rw [List.flatMap_cons,List.length_append,this p (by simp),ih (fun q hq=>this q (by simp [hq])),List.length_cons,Nat.add_mul];omega
theorem ord_item:∀ {n:Nat} {s o:Str},s.length = n→o∈ordN n s→o.length = n:=fun h ho=>((mem_ordN h).1 ho).length_eq.trans h
def ordP (n:Nat) (s:Str) (i:Nat):List Str:=((pickE s).take i).flatMap (fun p=>(ordN n p.2).map (p.1 :: ·))
theorem ordP_succ {n:Nat} {s:Str} {i:Nat} {x:UInt8} (h:s[i]? = some x):ordP n s (i + 1)= ordP n s i ++ (ordN n (s.take i ++ s.drop (i + 1))).map (x :: ·):=by
 unfold ordP
 rw [List.take_add_one,pickE_get h];simp
theorem ordP_all {n:Nat} {s:Str}:ordP n s s.length = ordN (n + 1) s:=by
 unfold ordP;rw [← pickE_len s,List.take_length];rfl
theorem ordP_len {n:Nat} {s:Str} {i:Nat} (h:s.length = n + 1):(ordP n s i).length≤fct (n + 1):=by
 have h1:=ordN_len (n:=n + 1) h
 rw [← ordP_all] at h1
 rw [← h1]
 unfold ordP
 rw [← pickE_len s,List.take_length]
 conv=>rhs;rw [← List.take_append_drop i (pickE s)]
 rw [List.flatMap_append,List.length_append];omega
theorem fct_pos:∀ n,0 < fct n
 | 0=>by decide
 | n + 1=>Nat.mul_pos (by omega) (fct_pos n)
theorem fct_le {n:Nat} (h:n≤5):fct n≤120:=by
 match n,h with
 | 0,_=>decide
 | 1,_=>decide
 | 2,_=>decide
 | 3,_=>decide
 | 4,_=>decide
 | 5,_=>decide
theorem nfOrders_nil (w:World):Calls Tryz.prog 209 #[.string (S [])] w (MkSL w [[]]):=by
 go_enter Tryz.func209,Tryz.ntmps209
 go_wp2_with fail
 go_ret
 exact ⟨_,rfl,SL.one w [] (Nat.le_refl _),bls⟩
theorem nfOrders_succ (n : Nat) (s : Str) (w : World) (hs : s.length = n + 1) (hn : n + 1 ≤ 5)
  (ih:Hid (∀ (r:Str) w,r.length = n→Calls Tryz.prog 209 #[.string (S r)] w (MkSL w (ordN n r)))):
  Calls Tryz.prog 209 #[.string (S s)] w (MkSL w (ordN (n + 1) s)):=by
 have HS:=hide hs
 have HN:=hide hn
 have hne:¬ s = []:=by rintro rfl;simp at hs
 have q1:(s.length:Int)≤5:=by omega
 have q2:¬ s.isEmpty = true:=by simp [hne]
 have hBl:=bw_bl w s
 have hR:=hide (@ordP_all n s)
 clear hs hn
 go_enter Tryz.func209,Tryz.ntmps209
 go_wp2_with fail
 go_loopg [3,13] (s.length + 1) (fun k' o i wr=>∃ j:Nat,k' = s.length + 1 - j∧Hid (j≤s.length)∧SL wr w.heap.size o (ordP n s j)∧i = .int .i64 j∧Bl w wr)
 case atStart=>exact ⟨0,by omega,by unfold Hid;omega,by simpa [ordP] using SL.nil _ _,rfl,hBl⟩
 case round =>
  obtain ⟨j,hk,hj,hsl,rfl,hb⟩:=hrel
  have HK:=hide hk
  clear hk
  by_cases hlt:j < s.length
  ·obtain ⟨x,hx⟩:∃ x,s[j]? = some x:=⟨_,List.getElem?_eq_getElem hlt⟩
   have hrl:(s.take j ++ s.drop (j + 1)).length = n:=by have:=HS.out;simp;omega
   have hsucc:=hide (ordP_succ (n:=n) hx)
   have hpl:=hide (ordP_len (i:=j) HS.out)
   have hpl2:=hide (ordP_len (i:=j + 1) HS.out)
   have i1:=hide fun w=>ih.out (s.take j ++ s.drop (j + 1)) w hrl
   have hitem:Hid (∀ r∈ordN n (s.take j ++ s.drop (j + 1)),r.length = n):=fun r hr=>ord_item hrl hr
   have hRne:Hid (ordN n (s.take j ++ s.drop (j + 1))≠[]):=by
    intro e
    have h1:=ordN_len hrl
    have h2:=fct_pos n
    rw [e] at h1
    rw [← h1] at h2
    simp at h2
   have e1:(j:Int) < s.length:=by omega
   have e2:(0:Int)≤(j:Int):=by omega
   have e3:(j:Int)≤s.length:=by omega
   have e4:(j:Int)+ 1≤s.length:=by omega
   have e5:((j:Int)+ 1).toNat = j + 1:=by omega
   have e6:IntKind.i64.wrap ((j:Int)+ 1)= (j:Int)+ 1:=by rw [IntWalk.i64_in _ (by omega)]
   have e7:(0:Int)≤(j:Int)+ 1:=by omega
   have e8:(List.drop j s).take 1 = [x]:=by
    obtain ⟨h1,h2⟩:=List.getElem?_eq_some_iff.1 hx
    rw [List.drop_eq_getElem_cons h1,h2] <;> rfl
   have hlt:=hide hlt
   clear hx hrl
   generalize ordN n (s.take j ++ s.drop (j + 1))= R at *
   have i1:Hid (∀ w,Calls Tryz.prog 209 #[.string (S (s.take j ++ s.drop (j + 1)))] w fun e w'=>∃ gv cv,e = .returned (.slice (some ⟨gv,0,none⟩) R.length cv)∧(w.heap.size≤gv∧gv < w'.heap.size)∧Hid (∀ (q:Nat) (r:Str),R[q]? = some r→w'.cell? ⟨gv,q,none⟩= some (strV r))∧Bl w w'):=by
    intro w
    refine (i1.out w).mono fun e w' ⟨v,he,hv,hb⟩=>?_
    rcases hv.form with ⟨-,h0⟩ | ⟨gv,cv,rfl,hg1,hg2,hcv⟩
    ·exact (hRne.out h0).elim
    ·exact ⟨gv,cv,he,⟨hg1,hg2.1⟩,hcv,hb⟩
   go_wp2_with fail
   go_region_with (go_at_call 209;(with_reducible refine (i1.out _).mono ?_);rintro e w1 ⟨gv,cv,rfl,hg12,hcv,hb1⟩)
   all_goals
    have hB1:Bl wr w1:=bls
    have hsl1:=SL.bl hsl hB1
    have hold:Hid (∀ q,u3.ownBlock = some q→q < wr.heap.size):=fun q hq=>(SL.lt hsl q hq).2
    have hgv:Hid (wr.heap.size≤gv∧gv < w1.heap.size):=⟨by simpa using hg12.1,hg12.2⟩
    have hRl:Hid (R.length≤120):=by
     have h1:=hpl2.out
     rw [hsucc.out,List.length_append,List.length_map] at h1
     have:=fct_le HN.out
     unfold Hid;omega
    have hRi:(R.length:Int)≤120:=by have:=hRl.out;omega
    clear hsl hg12 hb1 i1 e5 e6 e7
    go_wp2_with fail
    go_simp
    go_loopg [3,26] (R.length + 1) (fun k' o i wr'=>∃ m:Nat,k' = R.length + 1 - m∧Hid (m≤R.length)∧SL wr' w.heap.size o (ordP n s j ++ (R.take m).map (x :: ·))∧Hid (o.ownBlock≠some gv)∧i = .int .i64 m∧Bl w wr'∧Hid (gv < wr'.heap.size)∧Hid (∀ (q:Nat) (r:Str),R[q]? = some r→wr'.cell? ⟨gv,q,none⟩= some (strV r)))
    case atStart=>exact ⟨0,by omega,by unfold Hid;omega,by simpa using hsl1,fun e=>by have:=hold.out _ e;have:=hgv.out.1;omega,rfl,hb.trans hB1,hgv.out.2,hcv.out⟩
    case round =>
     obtain ⟨m,hk2,hm,hs2,hne2,rfl,hb2,hgl,hcc⟩:=hrel
     have HK2:=hide hk2
     clear hk2
     by_cases hml:m < R.length
     ·obtain ⟨r,hr⟩:∃ r,R[m]? = some r:=⟨_,List.getElem?_eq_getElem hml⟩
      have hcr:wr.cell? ⟨gv,m,none⟩= some (.string (S r)):=hcc.out _ _ hr
      have hrl:r.length≤5:=by have:=hitem.out r (List.mem_of_getElem? hr);have:=HN.out;omega
      have m1:(m:Int) < R.length:=by omega
      have m2:(0:Int)≤(m:Int):=by omega
      have m3:(r.length:Int)≤5:=by omega
      have e9:List.take (j + 1 - j) (List.drop j s)= [x]:=by rw [Nat.add_sub_cancel_left];exact e8
      have hnx:Hid (R.take (m + 1)= R.take m ++ [r]):=by unfold Hid;rw [List.take_add_one,hr];rfl
      have hml:=hide hml
      have hlen:Hid ((ordP n s j ++ (R.take m).map (x :: ·)).length + [x :: r].length≤100000):=by
       have h1:=hpl.out
       have h2:=fct_le HN.out
       have h3:=hRl.out
       unfold Hid;simp;omega
      have hbs:=hide (Below.size hb2)
      have e5:((j:Int)+ 1).toNat = j + 1:=by omega
      have e7:(0:Int)≤(j:Int)+ 1:=by omega
      have e10:(j:Int)≤(j:Int)+ 1:=by omega
      clear hr hrl
      go_wp2_with (at_builtin;(have t1:SL (wr.alloc (.cells #[.string (S (x :: r))] 9)) w.heap.size u3 (ordP n s j ++ (R.take m).map (x :: ·)):=SL.bl hs2 (bl_alloc _ _);have t2:Src (wr.alloc (.cells #[.string (S (x :: r))] 9)) (.slice (some ⟨wr.heap.size,0,none⟩) 1 1) [x :: r]:=(SL.one wr (x :: r) (Nat.le_refl _)).src;have t4:w.heap.size≤(wr.alloc (.cells #[.string (S (x :: r))] 9)).heap.size:=Below.size (hb2.trans (bl_alloc _ _));refine sl_op (wr.alloc (.cells #[.string (S (x :: r))] 9)) (.tmp 30) (.tmp 38) w.heap.size u3 (.slice (some ⟨wr.heap.size,0,none⟩) 1 1) (ordP n s j ++ (R.take m).map (x :: ·)) [x :: r] rfl rfl rfl rfl t1 t2 hlen.out t4 ?_;clear t1 t2 t4;intro v2 w2 hs3 hg3 ha3;have B2:Bl w w2:=bl_grown (hb2.trans (bl_alloc _ _)) hg3 (fun q hq=>(SL.lt hs2 q hq).1)))
      go_roundg (R.length + 1 - (m + 1))
      case measure=>have:=HK2.out;have:=hml.out;omega
      case rel=>
       refine ⟨m + 1,rfl,hml.out,?_,?_,by go_num,B2,?_,?_⟩
       ·rw [hnx.out,List.map_append,← List.append_assoc];exact hs3
       ·intro e
        rcases ha3 with h | h
        ·rw [h] at e;exact hne2.out e
        ·rw [h] at e
         have h1:=Option.some.inj e
         have:=hgl.out
         simp at h1;omega
       ·have h1:=hg3.size
        have h2:=hgl.out
        simp at h1;unfold Hid;omega
       ·intro q z hz
        have h1:=cell_kept (bl_alloc wr (.cells #[.string (S (x :: r))] 9)) (hcc.out q z hz)
        exact World.grownBy.cell hg3 h1 (fun e=>hne2.out e.symm)
     ·have hme:Hid (m = R.length):=by have:=hm.out;unfold Hid;omega
      have m1:¬ (m:Int) < R.length:=by omega
      clear hml
      go_wp2_with fail
      go_roundg (s.length + 1 - (j + 1))
      case measure=>have:=HK.out;have:=hlt.out;omega
      case rel=>
       refine ⟨j + 1,rfl,hlt.out,?_,by go_num,hb2⟩
       rw [hsucc.out]
       have:=hs2
       rw [hme.out,List.take_length] at this
       exact this
  ·have:j = s.length:=by have:=hj.out;omega
   subst this
   rw [hR.out] at hsl
   have hlt':¬ (s.length:Int) < s.length:=by omega
   clear hlt hj
   go_wp2_with fail
   go_ret
   exact ⟨_,rfl,hsl,hb⟩
theorem nfOrders_d:∀ (n:Nat) (s:Str) (w:World),s.length = n→n≤5→Calls Tryz.prog 209 #[.string (S s)] w (MkSL w (ordN n s))
 | 0,s,w,h,_=>by
   have:s = []:=List.eq_nil_of_length_eq_zero h
   subst this;exact nfOrders_nil w
 | n + 1,s,w,h,hn=>nfOrders_succ n s w h hn (hide fun r w hr=>nfOrders_d n r w hr (by omega))
theorem nfOrders_c (s:Str) (w:World) (h:s.length≤5):Calls Tryz.prog 209 #[.string (S s)] w (MkSL w (ordN s.length s)):=nfOrders_d s.length s w rfl h
end Go.Proofs.YtbibkgcbdnldbaaGreat
