/- Lemmas for the laws of this seat (my texts, put together), part 10. -/
import Derived.Test.YtbibkgcbdnldbaaGreatW9
set_option maxRecDepth 100000
set_option maxHeartbeats 2000000
set_option linter.unusedVariables false
set_option linter.unusedSimpArgs false
namespace Go.Proofs.YtbibkgcbdnldbaaGreat
open Go.RowKit
theorem raw_list:∀ (l:List Nt),rawN (joinN 38 l)= ((l.map (fun s=>(rawN s).1)).flatten,cat (l.map (fun s=>(rawN s).2)))
 | []=>rfl
 | x :: l=>by
   rw [raw_joinN,raw_list l];rfl
theorem tid_cat:∀ (l:List Ts),(cat l).tid = ((l.map (fun t=>t.tid.1)).flatten,cat (l.map (fun t=>t.tid.2)))
 | []=>rfl
 | x :: l=>by
   show (x.app (cat l)).tid = _
   rw [tid_app,tid_cat l];rfl
theorem kd_joinN {k:UInt8} (hk:k = 43∨k = 38):∀ {l:List Nt},(∀ s∈l,s.kd)→(joinN k l).kd
 | [],_=>trivial
 | [x],h=>h x (by simp)
 | x :: y :: l,h=>by
   have e:joinN k (x :: y :: l)= .bin k x (joinN k (y :: l)):=rfl
   rw [e]
   exact ⟨hk,h x (by simp),kd_joinN hk (fun s hs=>h s (by simp [hs]))⟩
theorem kd_headN:∀ {O:List Nat} {W:Nt},W.kd→(headN O W).kd
 | [],_,h=>h
 | x :: O,W,h=>⟨.inl rfl,kd_headN h⟩
theorem raw_ntL {P:List Nat × Ts} (hy:P.2.ty true):(rawN (ntL P)).1 = P.1∧(rawN (ntL P)).2.tid = P.2.tid:=by
 obtain ⟨h1,h2⟩:=(ur P.2).1 hy
 have e:rawN (ntL P)= (P.1 ++ (rawN (joinN 38 (ntT P.2))).1,(rawN (joinN 38 (ntT P.2))).2):=raw_headN _ _
 rw [e,h1,List.append_nil]
 exact ⟨rfl,h2⟩
theorem made {cs:Str} {ws:List Tm} {Ps:List (List Nat × Ts)} (hl:ws.length = Ps.length) (hy:∀ P∈Ps,P.2.ty true) (hk:∀ P∈Ps,(ntL P).kd)
  (hr:∀ (j:Nat) w P,ws[j]? = some w→Ps[j]? = some P→Rep w (frE cs) (ntL P))
  (hap:(headN (frO cs) (joinN 38 (Ps.map ntL))).ap) (hds:(headN (frO cs) (joinN 38 (Ps.map ntL))).ds) (hbb:∀ x∈(headN (frO cs) (joinN 38 (Ps.map ntL))).bb,26≤x)
  (hf:Fit [] (headT cs (joinT 38 ws))) (hz:(headT cs (joinT 38 ws)).size≤130) (hsm:∀ z∈usedS (headT cs (joinT 38 ws)),smallB z = true):
  nrmL (tidO (frO cs ++ (Ps.map (·.1)).flatten) (cat (Ps.map (·.2)))) (cat (Ps.map (·.2))).tid.2 = nfR (headT cs (joinT 38 ws)):=by
 have hrep:Rep (headT cs (joinT 38 ws)) numE (headN (frO cs) (joinN 38 (Ps.map ntL))):=by
  refine rep_heads (U:=fun _=>True) (hf_nums _ (fun c=>by have:=numE_lt c;omega)) (fun _ _=>trivial) (rep_row (by simpa using hl) (fun j v N h1 h2=>?_))
  rw [List.getElem?_map] at h2
  obtain ⟨P,hP,rfl⟩:=Option.map_eq_some_iff.1 h2
  exact hr j v P h1 hP
 have hkd:(headN (frO cs) (joinN 38 (Ps.map ntL))).kd:=kd_headN (kd_joinN (.inr rfl) (fun s hs=>by
  obtain ⟨P,hP,rfl⟩:=List.mem_map.1 hs
  exact hk P hP))
 have e1:rawN (headN (frO cs) (joinN 38 (Ps.map ntL)))= (frO cs ++ (Ps.map (·.1)).flatten,cat (Ps.map (fun P=>(rawN (ntL P)).2))):=by
  rw [raw_headN,raw_list,List.map_map,List.map_map]
  have:Ps.map ((fun s=>(rawN s).1) ∘ ntL)= Ps.map (·.1):=List.map_congr_left (fun P hP=>(raw_ntL (hy P hP)).1)
  rw [this];rfl
 have e2:(cat (Ps.map (fun P=>(rawN (ntL P)).2))).tid = (cat (Ps.map (·.2))).tid:=by
  rw [tid_cat,tid_cat,List.map_map,List.map_map,List.map_map,List.map_map]
  have h1:Ps.map ((fun t:Ts=>t.tid.1) ∘ fun P=>(rawN (ntL P)).2)= Ps.map ((fun t:Ts=>t.tid.1) ∘ (·.2)):=List.map_congr_left (fun P hP=>by
   show (rawN (ntL P)).2.tid.1 = P.2.tid.1
   rw [(raw_ntL (hy P hP)).2])
  have h2:Ps.map ((fun t:Ts=>t.tid.2) ∘ fun P=>(rawN (ntL P)).2)= Ps.map ((fun t:Ts=>t.tid.2) ∘ (·.2)):=List.map_congr_left (fun P hP=>by
   show (rawN (ntL P)).2.tid.2 = P.2.tid.2
   rw [(raw_ntL (hy P hP)).2])
  rw [h1,h2]
 obtain ⟨h1,h2⟩:=tid_lv hap
 rw [e1] at h1 h2
 dsimp only at h1 h2
 rw [e2] at h1
 rw [tidO_of e2] at h2
 exact nrm_eq2 ⟨hf,hkd,hds,hrep,fun z hz=>⟨envE_num (hsm z hz),hz⟩,fun _=>Iff.rfl⟩ hz h1 h2 hsm hbb
end Go.Proofs.YtbibkgcbdnldbaaGreat
namespace Go.Proofs.YtbibkgcbdnldbaaGreat
open Go.RowKit
structure InR (s:Nt) (B lo hi:Nat):Prop where
 ds:s.ds
 ap:s.ap
 kd:s.kd
 bb:∀ x∈s.bb,lo < x∧x≤hi
 bs:∀ x∈s.bs,lo < x∧x≤hi
 us:∀ x∈s.used,x≤B
 oc:∀ x,s.oc x = true→x≤B∨(lo < x∧x≤hi)
abbrev Pc3:=Nt × Nat × Nat
def Dj (x y:Pc3):Prop:=x.2.2≤y.2.1∨y.2.2≤x.2.1
theorem nums_mem:∀ {m n x:Nat},x∈numsO m n→n + 100 < x∧x≤n + m + 100
 | 0,_,_,h=>by cases h
 | m + 1,n,x,h=>by
   rcases List.mem_cons.1 h with rfl | h
   ·omega
   ·have:=nums_mem h;omega
end Go.Proofs.YtbibkgcbdnldbaaGreat
namespace Go.Proofs.YtbibkgcbdnldbaaGreat
open Go.RowKit
def Ts.mp (f:Nat→Nat):Ts→Ts
 | .nil=>.nil
 | .un k a b o r n=>.un k (f a) (f b) (o.map f) (r.mp f) (n.mp f)
 | .sum p n=>.sum (p.mp f) (n.mp f)
 | .part o l n=>.part (o.map f) (l.mp f) (n.mp f)
end Go.Proofs.YtbibkgcbdnldbaaGreat
namespace Go.Proofs.YtbibkgcbdnldbaaGreat
open Go.RowKit
end Go.Proofs.YtbibkgcbdnldbaaGreat
namespace Go.Proofs.YtbibkgcbdnldbaaGreat
open Go.RowKit
def Nt.scp:Nt→(Nat→Prop)→Prop
 | .zero,_=>True
 | .un k a b p,V=>(names3 k = true→V a)∧((k = 33∨k = 61)→V b)∧p.scp (fun x=>V x∨(bindsB k = true∧x = b))
 | .bin _ p q,V=>p.scp V∧q.scp V
theorem lv_sz {s:Nt} (hk:s.kd) (ha:s.ap) (hn:s.nu):(lv s).1.length + (lv s).2.sz≤3 * s.sz:=by
 obtain ⟨h1,h2⟩:=tid_lv_eq hk ha hn
 have h3:=raw_sz2 s
 have h4:=tid_sz (rawN s).2
 rw [h1] at h4
 rw [← h2]
 have h5:=keep_len (lv s).2 (rawN s).1
 simp only [List.length_nil] at h4
 omega
structure Put (O:List Nat) (T:Ts):Prop where
 ty:T.ty true
 sz:O.length + T.sz≤30000
 lvh:LvH (tidO O T) T.tid.2 (fun x=>x < 26)
 smp:T.smp
end Go.Proofs.YtbibkgcbdnldbaaGreat
namespace Go.Proofs.YtbibkgcbdnldbaaGreat
open Go.RowKit
def thP:List Tm→(UInt8→Nat)→Nat→List Pc3
 | [],_,_=>[]
 | v :: l,E,n=>(num v E n,n + 100,n + 100 + v.cnt):: thP l E (n + v.cnt)
theorem thP_map:∀ (l:List Tm) (E:UInt8→Nat) (n:Nat),(thP l E n).map (·.1)= numJ l E n
 | [],_,_=>rfl
 | v :: l,E,n=>by simp [thP,numJ,thP_map l]
theorem joinT_size {k:UInt8}:∀ {l:List Tm},l≠[]→(joinT k l).size + 1 = (l.map Tm.size).sum + l.length
 | [],h=>(h rfl).elim
 | [x],_=>by simp [joinT]
 | x :: y :: l,_=>by
   have ih:=joinT_size (k:=k) (l:=y :: l) (by simp)
   have e:joinT k (x :: y :: l)= .bin k x (joinT k (y :: l)):=rfl
   rw [e]
   simp only [Tm.size,List.map_cons,List.sum_cons,List.length_cons] at *
   omega
theorem headT_size:∀ (cs:Str) (u:Tm),(headT cs u).size = cs.length + u.size
 | [],u=>by simp [headT]
 | c :: cs,u=>by
   have e:headT (c :: cs) u = .un 35 0 c (headT cs u):=rfl
   rw [e]
   simp only [Tm.size,headT_size cs u,List.length_cons];omega
theorem Std.thr {u:Tm} {cs:Str} {vs:List Tm} (h:Std u cs vs) {v:Tm} (hv:v∈vs):v.ok smallB = true∧tdT v∧smpT v∧deadT v = false∧v.kind≠38∧v.kind≠35:=by
 have hne:vs≠[]:=List.ne_nil_of_mem hv
 have hk:=thr_kind (h.nor.vs v hv)
 have htd:tdT (joinT 38 vs)∧smpT (joinT 38 vs):=by
  have h1:=h.td
  have h2:=h.smp
  rw [h.nor.eq] at h1 h2
  clear h hk hv
  induction cs with
  | nil=>exact ⟨h1,h2⟩
  | cons c cs ih=>exact ih h1.2.2.2 h2.2
 have all : ∀ {l : List Tm}, (∀ w ∈ l, thrP w) → tdT (joinT 38 l) → smpT (joinT 38 l) → ∀ w ∈ l, tdT w ∧ smpT w ∧ (2 ≤ l.length → deadT w = false) := by
  intro l
  induction l with
  | nil=>intro _ _ _ w hw;cases hw
  | cons x l ih=>
    intro hp h1 h2 w hw
    cases l with
    | nil=>
      rw [List.mem_singleton.1 hw]
      exact ⟨h1,h2,fun h=>by simp at h⟩
    | cons y l=>
      obtain ⟨a1,a2,a3,a4,a5,a6⟩:=h1
      obtain ⟨b1,b2,b3⟩:=h2
      rcases List.mem_cons.1 hw with rfl | hw
      ·exact ⟨a5,b2,fun _=>a1⟩
      ·have:=ih (fun w hw=>hp w (by simp [hw])) a6 b3 w hw
       refine ⟨this.1,this.2.1,fun _=>?_⟩
       cases l with
       | nil=>rw [List.mem_singleton.1 hw];exact a2
       | cons z l=>exact this.2.2 (by simp)
 obtain ⟨c1,c2,c3⟩:=all h.nor.vs htd.1 htd.2 v hv
 refine ⟨(h.nor.vs v hv).1,c1,c2,?_,hk.1,hk.2.2⟩
 by_cases hl:2≤vs.length
 ·exact c3 hl
 ·cases v with
  | zero=>exact (hk.2.1 rfl).elim
  | un k a b p=>
    have hok:=(h.nor.vs _ hv).1
    simp only [Tm.ok,Bool.and_eq_true] at hok
    obtain ⟨t1,t2,t3,t4⟩:=c1
    rcases okhd_cases hok.1 with ⟨rfl,-⟩ | ⟨rfl,-⟩ | ⟨rfl,-⟩ | ⟨rfl,-⟩ | ⟨rfl,-⟩ | ⟨rfl,-⟩
    ·simp [deadT,deadK]
    ·simp [deadT,deadK]
    ·simp [deadT,t3 (.inl rfl)]
    ·exact (hk.2.2 rfl).elim
    ·simp [deadT,t3 (.inr rfl)]
    ·simp [deadT,deadK]
  | bin k p q=>simp [deadT,c1.1]
theorem nums_len:∀ (m n:Nat),(numsO m n).length = m
 | 0,_=>rfl
 | m + 1,n=>by simp [numsO,nums_len m]
structure Pie (cs:Str) (q:Tm × (List Nat × Ts) × Pc3):Prop where
 nt:ntL q.2.1 = q.2.2.1
 ty:q.2.1.2.ty true
 rep:Rep q.1 (frE cs) q.2.2.1
 inr:InR q.2.2.1 (cs.length + 100) q.2.2.2.1 q.2.2.2.2
 lo:cs.length + 100≤q.2.2.2.1
 hi:q.2.2.2.2 < 100000
 scp:q.2.2.1.scp (fun x=>x < 26∨x∈frO cs)
 smp:q.2.1.2.smp
 sz:q.2.1.1.length + q.2.1.2.sz≤3 * q.1.size
def thQ:List Tm→(UInt8→Nat)→Nat→List (Tm × (List Nat × Ts) × Pc3)
 | [],_,_=>[]
 | v :: l,E,n=>(v,lv (num v E n),(num v E n,n + 100,n + 100 + v.cnt)):: thQ l E (n + v.cnt)
theorem thQ_2:∀ (l:List Tm) (E:UInt8→Nat) (n:Nat),(thQ l E n).map (·.2.1)= (numJ l E n).map lv
 | [],_,_=>rfl
 | v :: l,E,n=>by simp [thQ,numJ,thQ_2 l]
theorem Std.size {u:Tm} {cs:Str} {vs:List Tm} (h:Std u cs vs) (hne:vs≠[]):cs.length + (vs.map Tm.size).sum + vs.length≤61:=by
 have h1:=h.nor.sz
 rw [h.nor.eq,headT_size] at h1
 have:=joinT_size (k:=38) hne
 omega
theorem Std.cnt {u:Tm} {cs:Str} {vs:List Tm} (h:Std u cs vs):cs.length + (vs.map Tm.cnt).sum≤61:=by
 by_cases hne:vs = []
 ·subst hne
  have h1:=h.nor.sz
  rw [h.nor.eq,headT_size] at h1
  simp;omega
 ·have:=h.size hne
  have h2:(vs.map Tm.cnt).sum≤(vs.map Tm.size).sum:=by
   clear this h hne
   induction vs with
   | nil=>simp
   | cons v l ih=>have:=cnt_size v;simp only [List.map_cons,List.sum_cons];omega
  omega
end Go.Proofs.YtbibkgcbdnldbaaGreat
namespace Go.Proofs.YtbibkgcbdnldbaaGreat
open Go.RowKit
structure Fs (t:Tm):Prop where
 ok:t.ok wideB = true
 narrow:narrow t
 nbg:nbg t
 free:∀ z,Free z t→smallB z = true
structure Cpy (B nb v n' c lo hi:Nat) (f:Nat→Nat):Prop where
 z:f 0 = 0
 free:∀ x,x≤B→f x = x
 rcv:f nb = v
 rng:∀ x,n' + 100 < x→x≤n' + 100 + c→lo < f x∧f x≤hi
 inj:∀ x,n' + 100 < x→x≤n' + 100 + c→∀ n,f n = f x→n = x
end Go.Proofs.YtbibkgcbdnldbaaGreat
namespace Go.Proofs.YtbibkgcbdnldbaaGreat
open Go.RowKit
def wo {α:Type} (l:List α) (i j:Nat):List α:=(l.zipIdx.filter (fun x=>decide (x.2≠i∧x.2≠j))).map (·.1)
end Go.Proofs.YtbibkgcbdnldbaaGreat
namespace Go.Proofs.YtbibkgcbdnldbaaGreat
open Go.RowKit
attribute [local go_sem] S_size S_toList S_lit S_get S_extract S_append drop_all
def vsOf (u:Tm):List Tm:=match (frontT u).2 with
 | .zero=>[]
 | v=>partsT 38 v
theorem Nor.vsOf {u:Tm} {cs:Str} {vs:List Tm} (h:Nor u cs vs):vsOf u = vs:=by
 unfold Go.Proofs.YtbibkgcbdnldbaaGreat.vsOf
 rw [h.front]
 cases vs with
 | nil=>rfl
 | cons x l=>
   have hp:=parts_join (k:=38) (vs:=x :: l) (by simp) (fun v hv=>(thr_kind (h.vs v hv)).1)
   have hk:(joinT 38 (x :: l)).kind≠48:=by
    cases l with
    | nil=>exact (thr_kind (h.vs x (by simp))).2.1
    | cons y l=>show (38:UInt8)≠48;decide
   cases hj:joinT 38 (x :: l) with
   | zero=>exact (hk (by rw [hj];rfl)).elim
   | un k a b p=>rw [hj] at hp;exact hp
   | bin k p q=>rw [hj] at hp;exact hp
def nvs (l:Str):Option (List Tm):=(nfT l).map fun s=>match proc? s with
 | some u=>vsOf u
 | none=>[]
def OptSL (w:World) (x:Option (List Str)) (e:Ending) (w':World):Prop:=∃ v,e = .returned (.tuple #[v,.bool x.isSome])∧SL w' w.heap.size v (x.getD [])∧Bl w w'
abbrev thrX (l:Str):Option (List Str):=(nvs l).map (List.map txt)
def cntV (x:Option (List Str)):Value:=.tuple #[.int .i64 (x.getD []).length,.bool x.isSome]
theorem SL.slen {w:World} {base:Nat} {v:Value} {xs:List Str} (h:SL w base v xs):∃ A c,v = .slice A xs.length c:=by
 rcases h.form with ⟨rfl,rfl⟩ | ⟨g,c,rfl,-⟩
 ·exact ⟨_,_,rfl⟩
 ·exact ⟨_,_,rfl⟩
def smsOf (vs:List Tm):List Tm:=match vs with
 | []=>[]
 | v :: _=>partsT 43 v
abbrev sumX (l:Str):Option (List Str):=(nvs l).map (fun vs=>(smsOf vs).map txt)
end Go.Proofs.YtbibkgcbdnldbaaGreat
namespace Go.Proofs.YtbibkgcbdnldbaaGreat
open Go.RowKit
theorem thQ_get:∀ {l:List Tm} {E:UInt8→Nat} {n j:Nat} {v:Tm},l[j]? = some v→∃ m,(n≤m∧m + v.cnt≤n + (l.map Tm.cnt).sum)∧(thQ l E n)[j]? = some (v,lv (num v E m),(num v E m,m + 100,m + 100 + v.cnt))
 | [],_,_,_,_,h=>by simp at h
 | w :: l,E,n,0,v,h=>by
   obtain rfl:=Option.some.inj h
   exact ⟨n,⟨Nat.le_refl _,by simp only [List.map_cons,List.sum_cons];omega⟩,rfl⟩
 | w :: l,E,n,j + 1,v,h=>by
   obtain ⟨m,h1,h2⟩:=thQ_get (l:=l) (E:=E) (n:=n + w.cnt) (j:=j) h
   exact ⟨m,⟨by omega,by simp only [List.map_cons,List.sum_cons];omega⟩,h2⟩
theorem Corr.get {E:UInt8→Nat} {n m:Nat}:∀ {l:List OfT} {r:List OfN},Corr E n m l r→∀ (j:Nat),(l[j]? = none∧r[j]? = none)∨∃ x y,l[j]? = some x∧r[j]? = some y∧CorrO E n m x y
 | _,_,.nil,j=>.inl ⟨by simp,by simp⟩
 | _,_,.cons hc t,0=>.inr ⟨_,_,rfl,rfl,hc⟩
 | _,_,.cons hc t,j + 1=>by simpa using t.get j
theorem Corr.len {E:UInt8→Nat} {n m:Nat}:∀ {l:List OfT} {r:List OfN},Corr E n m l r→l.length = r.length
 | _,_,.nil=>rfl
 | _,_,.cons _ t=>by simp [t.len]
def cpF (nb v n' n:Nat) (x:Nat):Nat:=if x = nb then v else if x≤n' + 100 then x else x - n' + n
def tauS (cs:Str) (vs:List Tm) (i:Nat) (x:OfT):Option Str:=nfR (headT cs (joinT 38 (vs.eraseIdx i ++ [x.p])))
def comS (cs:Str) (vs:List Tm) (i:Nat) (x:OfT) (j:Nat) (w:Tm) (y:OfT):Option Str:=
 nfR (headT cs (joinT 38 (wo vs i j ++ ([x.p,renF y.p.size y.p y.b x.b] ++ if y.st then [w] else []))))
def metS (cs:Str) (vs:List Tm) (i:Nat) (x:OfT) (j:Nat) (w:Tm):List OfT→List (Option Str)
 | []=>[]
 | y :: l=>(if y.k = 63∧y.a = x.a then [comS cs vs i x j w y] else [])++ metS cs vs i x j w l
def allS (cs:Str) (vs:List Tm) (i:Nat) (x:OfT):Nat→List Tm→List (Option Str)
 | _,[]=>[]
 | j,w :: l=>(if j = i then [] else metS cs vs i x j w (offT w))++ allS cs vs i x (j + 1) l
def offsS (cs:Str) (vs:List Tm) (i:Nat):List OfT→List (Option Str)
 | []=>[]
 | x :: l=>(if x.k = 126 then [tauS cs vs i x] else if x.k = 33 then allS cs vs i x 0 vs else [])++ offsS cs vs i l
def stepsF (cs:Str) (vs:List Tm):Nat→List Tm→List (Option Str)
 | _,[]=>[]
 | i,v :: l=>offsS cs vs i (offT v)++ stepsF cs vs (i + 1) l
def stepsT (cs:Str) (vs:List Tm):List (Option Str):=stepsF cs vs 0 vs
def StdS (s:Str):Prop:=∃ u cs vs,s = txt u∧Std u cs vs∧s.length≤300
theorem nfR_len {t:Tm} {s:Str} (h:nfR t = some s):s.length≤300:=by
 unfold nfR at h
 split at h
 ·rename_i hc
  cases h
  obtain ⟨v,-,-,k4,-⟩:=goodB_iff.1 hc.2
  exact k4
 ·cases h
theorem std_of {t:Tm} {s:Str} (h:nfR t = some s) (g:∃ u cs vs,s = txt u∧Std u cs vs):StdS s:=by
 obtain ⟨u,cs,vs,e,H⟩:=g
 exact ⟨u,cs,vs,e,H,nfR_len h⟩
theorem start_std {t:Tm} (hk:t.ok smallB = true) (hz:t.size≤130) (hs:smpT t) {s:Str} (h:nfR t = some s):StdS s:=by
 have h0:=h
 rw [← nrm_eq hk hz] at h
 exact std_of h0 (nrm_std h (raw_ok hk (by omega)).2.2 (tid_td2 _) (keep_keep _ _) (smp_eqv (Ts.eqv_symm (tid_lv (num_ap (t:=t) (E:=numE) (n:=0) numE_le)).1) (smp_lv hk hs).1))
theorem Std.corr {u:Tm} {cs:Str} {vs:List Tm} (h:Std u cs vs) {v:Tm} {m:Nat} (hv:v∈vs) (hm:cs.length≤m):Corr (frE cs) m (m + v.cnt) (offT v) (offS (lv (num v (frE cs) m)).2):=by
 obtain ⟨a1,a2,a3,a4,a5,a6⟩:=h.thr hv
 obtain ⟨hi,hE⟩:=frE_ok cs
 exact off_corr a1 a2 a3 a4 a5 a6 hi (fun c=>by have:=hE c;omega)
def once:List Str→List Str
 | []=>[]
 | x :: l=>match once l with
   | []=>[x]
   | y :: r=>if x = y then y :: r else x :: y :: r
def redL (L:List (Option Str)):Option (List Str):=if L.any Option.isNone then none else some (once ((L.map (·.getD [])).mergeSort leB))
def redT (s:Str):Option (List Str):=match proc? s with
 | some u=>redL (stepsT (frontT u).1 (vsOf u))
 | none=>none
theorem Nor.proc {u:Tm} {cs:Str} {vs:List Tm} (h:Nor u cs vs) (hl:(txt u).length≤300):proc? (txt u)= some u:=proc?_some.2 ⟨rfl,h.ok,hl,h.sz⟩
end Go.Proofs.YtbibkgcbdnldbaaGreat
namespace Go.Proofs.YtbibkgcbdnldbaaGreat
open Go.RowKit
def Nt.inc:Nt→Nat→Nat→Prop
 | .zero,n,m=>m = n
 | .un k a b p,n,m=>(names3 k = true→a≤n + 100)∧((k = 33∨k = 61)→b≤n + 100)∧(names3 k = false→a = 0∧(k≠35→b = 0))∧(bindsB k = true→b = n + 101)∧p.inc (n + if bindsB k then 1 else 0) m
 | .bin _ p q,n,m=>∃ c,p.inc n c∧q.inc c m
def Ts.inc:Ts→Nat→Nat→Prop
 | .nil,n,m=>m = n
 | .un k a b o r x,n,m=>(names3 k = true→a≤n + 100)∧((k = 33∨k = 61)→b≤n + 100)∧(names3 k = false→a = 0∧b = 0)∧(k = 63→b = n + 101)∧
   ∃ c,o = numsO o.length (n + if k = 63 then 1 else 0)∧r.inc ((n + if k = 63 then 1 else 0)+ o.length) c∧x.inc c m
 | .sum p x,n,m=>∃ c,p.inc n c∧x.inc c m
 | .part o l x,n,m=>∃ c,o = numsO o.length n∧l.inc (n + o.length) c∧x.inc c m
def incL:List Nt→Nat→Nat→Prop
 | [],n,m=>m = n
 | x :: l,n,m=>∃ c,x.inc n c∧incL l c m
end Go.Proofs.YtbibkgcbdnldbaaGreat
namespace Go.Proofs.YtbibkgcbdnldbaaGreat
open Go.RowKit
structure RowK (T S:TypeId) (z:Value) (k b:Nat):Prop where
 und:Tryz.prog.underlying S = some (.slice T)
 info:(Tryz.prog.info? T).map (fun i=>(i.zero,i.size,i.bytes))= some (some z,k,b)
 one:z.cells.size = k
 pos:0 < k
 small:b≤1000
section
variable {α:Type} {T S:TypeId} {z:Value} {k b:Nat} {enc:α→List Value}
def RK (T:TypeId) (k:Nat) (enc:α→List Value) (w:World) (base:Nat) (v:Value) (xs:List α):Prop:=w.ownsRow base T k v xs.length (xs.flatMap enc)
theorem flatK_len (he:∀ x,(enc x).length = k):∀ xs:List α,(xs.flatMap enc).length = xs.length * k
 | []=>by simp
 | x :: l=>by rw [List.flatMap_cons,List.length_append,flatK_len he l,he,List.length_cons,Nat.succ_mul];omega
theorem flat_get (he:∀ x,(enc x).length = k):∀ {xs:List α} {j i:Nat} {x:α},xs[j]? = some x→i < k→(xs.flatMap enc)[j * k + i]? = (enc x)[i]?
 | [],_,_,_,h,_=>by simp at h
 | y :: l,0,i,x,h,hi=>by
   obtain rfl:=Option.some.inj h
   rw [List.flatMap_cons,Nat.zero_mul,Nat.zero_add,List.getElem?_append_left (by rw [he];exact hi)]
 | y :: l,j + 1,i,x,h,hi=>by
   rw [List.flatMap_cons,List.getElem?_append_right (by rw [he,Nat.succ_mul];omega),he,show (j + 1) * k + i - k = j * k + i by rw [Nat.succ_mul];omega]
   exact flat_get he (xs:=l) h hi
theorem RK.nil (w:World) (base:Nat):RK T k enc w base (.slice none 0 0) ([]:List α):=World.ownsRow_nil _ _ _ _
theorem RK.mono {w:World} {base b2:Nat} {v:Value} {xs:List α} (h:RK T k enc w base v xs) (hb:b2≤base):RK T k enc w b2 v xs:=
 ⟨h.1,h.2.imp id (fun ⟨g,cap,cur,h1,h2,h3⟩=>⟨g,cap,cur,h1,Nat.le_trans hb h2,h3⟩)⟩
theorem RK.heap {w w':World} {base:Nat} {v:Value} {xs:List α} (h:RK T k enc w base v xs) (hb:∀ k,v.ownBlock = some k→k < w.heap.size→w'.heap[k]? = w.heap[k]?):RK T k enc w' base v xs:=by
 refine ⟨h.1,h.2.imp id ?_⟩
 rintro ⟨g,cap,cur,h1,h2,h3,h4⟩
 exact ⟨g,cap,cur,h1,h2,(hb g (by rw [h1];rfl) (lt_of_block h3)).trans h3,h4⟩
theorem RK.bl {w w':World} {base:Nat} {v:Value} {xs:List α} (h:RK T k enc w base v xs) (hb:Bl w w'):RK T k enc w' base v xs:=h.heap (fun k _ hk=>Below.block hb k hk)
theorem RK.lt {w:World} {base:Nat} {v:Value} {xs:List α} (h:RK T k enc w base v xs):∀ k,v.ownBlock = some k→base≤k∧k < w.heap.size:=World.ownsRow.lt h
theorem RK.form (he:∀ x,(enc x).length = k) {w:World} {base:Nat} {v:Value} {xs:List α} (h:RK T k enc w base v xs):
  (v = .slice none 0 0∧xs = [])∨∃ g c cur,v = .slice (some ⟨g,0,none⟩) xs.length c∧base≤g∧(g < w.heap.size∧xs.length≤c∧c≤maxLen∧cur.size = c * k)∧w.heap[g]? = some (.cells cur T (0,0))∧∀ (j:Nat) (x:α),xs[j]? = some x→∀ (i:Nat) (u:Value),(enc x)[i]? = some u→w.cell? ⟨g,j * k + i,none⟩= some u:=by
 rcases h.2 with ⟨h1,h2⟩ | ⟨g,cap,cur,h1,h2,h3,h4,h5,h6,h7⟩
 ·exact .inl ⟨h1,List.eq_nil_of_length_eq_zero h2⟩
 ·refine .inr ⟨g,cap,cur,h1,h2,⟨lt_of_block h3,h4,h5,h6⟩,h3,fun j x hj i u hu=>?_⟩
  have hlt:j < xs.length:=(List.getElem?_eq_some_iff.1 hj).1
  have hik:i < k:=by rw [← he x];exact (List.getElem?_eq_some_iff.1 hu).1
  rw [cell_of_row _ _ _ _ _ _ h3]
  have h8:(cur.toList.take (xs.length * k))[j * k + i]? = some u:=by rw [h7,flat_get he hj hik,hu]
  have h9:j * k + i < xs.length * k:=by
   have:(j + 1) * k≤xs.length * k:=Nat.mul_le_mul_right k hlt
   rw [Nat.succ_mul] at this;omega
  rw [List.getElem?_take_of_lt h9] at h8
  simpa using h8
theorem RK.slice {w:World} {base:Nat} {v:Value} {xs:List α} (h:RK T k enc w base v xs):∃ A c,v = .slice A xs.length c:=by
 rcases h.2 with ⟨rfl,h2⟩ | ⟨g,cap,cur,h1,-⟩
 ·exact ⟨_,_,by rw [h2]⟩
 ·exact ⟨_,_,h1⟩
theorem flat_set (he:∀ x,(enc x).length = k) {u:Value} {i:Nat} (hi:i < k):∀ {xs:List α} {j:Nat} {x x':α},xs[j]? = some x→enc x' = (enc x).set i u→(xs.flatMap enc).set (j * k + i) u = (xs.set j x').flatMap enc
 | [],_,_,_,h,_=>by simp at h
 | y :: l,0,x,x',h,hx=>by
   obtain rfl:=Option.some.inj h
   rw [List.set_cons_zero,List.flatMap_cons,List.flatMap_cons,hx,Nat.zero_mul,Nat.zero_add,List.set_append_left _ _ (by rw [he];exact hi)]
 | y :: l,j + 1,x,x',h,hx=>by
   rw [List.set_cons_succ,List.flatMap_cons,List.flatMap_cons,List.set_append_right _ _ (by rw [he,Nat.succ_mul];omega),he,show (j + 1) * k + i - k = j * k + i by rw [Nat.succ_mul];omega]
   rw [flat_set he hi (xs:=l) (j:=j) (x:=x) (x':=x') h hx]
theorem RK.setc (he:∀ x,(enc x).length = k) {w:World} {base:Nat} {v:Value} {xs:List α} {g:Nat} (h:RK T k enc w base v xs) (hg:v.ownBlock = some g) {j i:Nat} {x x':α} (hj:xs[j]? = some x) (hi:i < k) {u:Value} (hx:enc x' = (enc x).set i u):
  RK T k enc (w.setCell ⟨g,j * k + i,none⟩ u) base v (xs.set j x'):=by
 rcases h.2 with ⟨rfl,h2⟩ | ⟨g',cap,cur,rfl,h2,h3,h4,h5,h6,h7⟩
 ·cases hg
 ·obtain rfl:=Option.some.inj hg
  refine ⟨by rw [flatK_len he],.inr ⟨_,cap,cur.modify (j * k + i) (fun _=>u),by rw [List.length_set],h2,blk_set h3 u,by rw [List.length_set];exact h4,h5,by rw [Array.size_modify];exact h6,?_⟩⟩
  rw [← flat_set he hi hj hx,← h7,List.length_set]
  have hset:(cur.modify (j * k + i) (fun _=>u)).toList = cur.toList.set (j * k + i) u:=by
   apply List.ext_getElem?
   intro q
   rw [List.getElem?_set]
   simp only [Array.getElem?_toList,Array.getElem?_modify,Array.length_toList]
   split
   ·rename_i e;subst e
    split
    ·rename_i hq;simp [hq]
    ·rename_i hq;simp [Array.getElem?_eq_none (by omega:cur.size≤j * k + i)]
   ·rfl
  rw [hset,List.take_set]
def RKSrc (enc:α→List Value) (w:World) (u:Value) (ys:List α):Prop:=∃ A c,u = .slice A ys.length c∧((A = none∧ys = [])∨∃ ad,A = some ad∧∀ (j:Nat) (x:Value),(ys.flatMap enc)[j]? = some x→w.cell? (ad.add j)= some x)
theorem RK.src {w:World} {base:Nat} {v:Value} {xs:List α} (h:RK T k enc w base v xs):RKSrc enc w v xs:=by
 rcases h.2 with ⟨rfl,h2⟩ | ⟨g,cap,cur,h1,h2,h3,h4,h5,h6,h7⟩
 ·exact ⟨none,0,by rw [h2],.inl ⟨rfl,List.eq_nil_of_length_eq_zero h2⟩⟩
 ·refine ⟨_,_,h1,.inr ⟨_,rfl,fun j x hj=>?_⟩⟩
  have e:Addr.add ⟨g,0,none⟩ j = ⟨g,j,none⟩:=by cases j <;> simp [Addr.add]
  rw [e,cell_of_row _ _ _ _ _ _ h3]
  rw [← h7] at hj
  have hlt:j < xs.length * k:=by
   have:=(List.getElem?_eq_some_iff.1 hj).1
   rw [List.length_take] at this;omega
  rw [List.getElem?_take_of_lt hlt] at hj
  simpa using hj
theorem RK.lit (w:World) (cs:Array Value) (x:α) {base:Nat} (hb:base≤w.heap.size) (hc:enc x = cs.toList) (hk:cs.size = k):RK T k enc (w.alloc (.cells cs T)) base (.slice (some ⟨w.heap.size,0,none⟩) 1 1) [x]:=by
 unfold RK
 rw [List.flatMap_cons,List.flatMap_nil,List.append_nil,hc]
 exact World.ownsRow_lit w cs 1 hb (by decide) (by rw [hk,Nat.one_mul])
theorem RK.zero (w:World) {base:Nat} (hb:base≤w.heap.size):RK T k enc (w.alloc (.cells #[] T)) base (.slice (some ⟨w.heap.size,0,none⟩) 0 0) ([]:List α):=
 World.ownsRow_lit w #[] 0 hb (by decide) (by rw [Nat.zero_mul];rfl)
theorem rk_append (R:RowK T S z k b) (he:∀ x,(enc x).length = k) (h1c:∀ x,∀ u∈enc x,u.oneCell' = true) (w:World) (ty:TypeId) (base:Nat) (v u:Value) (xs ys:List α) (h:RK T k enc w base v xs) (g:RKSrc enc w u ys) (hl:xs.length + ys.length≤100000) (hb:base≤w.heap.size):
  ∃ v' w',(Builtin.append_ #[S,S] ty #[v,u]).run Tryz.prog w = .ok v' w'∧RK T k enc w' base v' (xs ++ ys)∧w.grownBy w' v.ownBlock∧(v'.ownBlock = v.ownBlock∨v'.ownBlock = some w.heap.size):=by
 obtain ⟨i,hi,hz,hs,hby⟩:=info_parts R.info
 have h1:∀ x∈ys.flatMap enc,x.oneCell' = true:=by
  intro x hx
  obtain ⟨s,_,hs⟩:=List.mem_flatMap.1 hx
  exact h1c s x hs
 obtain ⟨A,c,rfl,⟨rfl,rfl⟩ | ⟨ad,rfl,hc⟩⟩:=g
 ·refine ⟨v,w,?_,by simpa using h,World.grownBy.refl _ _,.inl rfl⟩
  rcases h.2 with ⟨rfl,hn⟩ | ⟨g',cap,cur,rfl,_,_,hnc,_⟩
  ·simp [Builtin.append_,run_underlying R.und,sizeOf,typeInfo,hi,Builtin.lenOf,Builtin.firstCells]
  ·simp [Builtin.append_,run_underlying R.und,sizeOf,typeInfo,hi,Builtin.lenOf,Builtin.firstCells,hnc,storeCells]
 ·have hbb:(xs.length + ys.length) * b≤140737488355328:=by
   have:(xs.length + ys.length) * b≤100000 * 1000:=Nat.mul_le_mul hl R.small
   omega
  obtain ⟨v',w',hrun,h2,h3,_,h5⟩:=run_append_own_at (P:=Tryz.prog) w base S ty T i z k b R.und hi hz hs hby R.one R.pos v xs.length (xs.flatMap enc) h
   ad ys.length c (ys.flatMap enc) (flatK_len he ys) hc h1 (by simp only [maxLen];omega) hbb hb
  refine ⟨v',w',hrun,?_,h3,h5⟩
  unfold RK
  rw [List.length_append,List.flatMap_append];exact h2
theorem rk_op (R:RowK T S z k b) (he:∀ x,(enc x).length = k) (h1c:∀ x,∀ u∈enc x,u.oneCell' = true) {ops:Array Oper} {rest:List Oper} {o:Oper} {a:Act} {Q:Exit→Act→World→Prop} (w:World) (s x:Operand) (base:Nat) (v u:Value) (xs ys:List α)
  (hgd:o.guard = none) (ho:o.op = .call { callee:=.builtin .append,args:=#[s,x],argTypes:=#[S,S] })
  (hs:a.eval s = v) (hx:a.eval x = u) (h:RK T k enc w base v xs) (g:RKSrc enc w u ys) (hl:xs.length + ys.length≤100000) (hb:base≤w.heap.size)
  (kk:∀ v' w',RK T k enc w' base v' (xs ++ ys)→w.grownBy w' v.ownBlock→(v'.ownBlock = v.ownBlock∨v'.ownBlock = some w.heap.size)→wpList Tryz.prog ops Q rest (a.put o.dst v') w'):wpList Tryz.prog ops Q (o :: rest) a w:=by
 refine wpList_plain hgd fun K hK=>?_
 obtain ⟨v',w',hr,h1,h2,h3⟩:=rk_append R he h1c w o.type base v u xs ys h g hl hb
 unfold Oper.wp execOp
 simp only [ho,resolve,invoke,builtin,Sem.run_bind,Sem.run_pure,Result.andThen_ok,List.map_toArray,List.map_cons,List.map_nil,hs,hx,hr]
 exact hK _ _ (kk v' w' h1 h2 h3)
theorem rk_step (R:RowK T S z k b) (he:∀ x,(enc x).length = k) (h1c:∀ x,∀ u∈enc x,u.oneCell' = true) {ops:Array Oper} {o:Oper} {a:Act} {K:Act→World→Prop} {E:Prop} {Q:Exit→Act→World→Prop} (w:World) (s x:Operand) (base:Nat) (v u:Value) (xs ys:List α)
  (hgd:o.guard = none) (ho:o.op = .call { callee:=.builtin .append,args:=#[s,x],argTypes:=#[S,S] })
  (hs:a.eval s = v) (hx:a.eval x = u) (h:RK T k enc w base v xs) (g:RKSrc enc w u ys) (hl:xs.length + ys.length≤100000) (hb:base≤w.heap.size)
  (kk:∀ v' w',RK T k enc w' base v' (xs ++ ys)→w.grownBy w' v.ownBlock→(v'.ownBlock = v.ownBlock∨v'.ownBlock = some w.heap.size)→K (a.put o.dst v') w'):
  if Region.wanted o (yielded ops a.tmps)= true then Oper.wp Tryz.prog o a w K Q else E:=by
 have hw:Region.wanted o (yielded ops a.tmps)= true:=by simp [Region.wanted,hgd]
 rw [if_pos hw]
 obtain ⟨v',w',hr,h1,h2,h3⟩:=rk_append R he h1c w o.type base v u xs ys h g hl hb
 unfold Oper.wp execOp
 simp only [ho,resolve,invoke,builtin,Sem.run_bind,Sem.run_pure,Result.andThen_ok,List.map_toArray,List.map_cons,List.map_nil,hs,hx,hr]
 exact kk v' w' h1 h2 h3
end
theorem ld_row {ops:Array Oper} {rest:List Oper} {op:Oper} {a:Act} {w:World} {Q:Exit→Act→World→Prop} (hgd:op.guard = none) (ty:TypeId) (x:Operand) (ho:op.op = .load ty x)
  (g off:Nat) (cells:List Value) (d:TypeDesc) (hx:a.eval x = .pointer (some ⟨g,off,none⟩)) (hc:∀ (i:Nat) (u:Value),cells[i]? = some u→w.cell? ⟨g,off + i,none⟩= some u) (hu:Tryz.prog.underlying ty = some d) (hd:d.isRow = true) (hi:(Tryz.prog.info? ty).map (·.size)= some cells.length)
  (h:wpList Tryz.prog ops Q rest (a.put op.dst (.agg cells.toArray)) w):wpList Tryz.prog ops Q (op :: rest) a w:=
 wpList_load_mid hgd ty x ho g off hx cells d hc hu hd hi h
end Go.Proofs.YtbibkgcbdnldbaaGreat
namespace Go.Proofs.YtbibkgcbdnldbaaGreat
open Go.RowKit
attribute [local go_sem] S_size S_toList S_lit S_get S_extract S_append drop_all
def sumB (k:UInt8):Bool:=decide (k∈([33,63,126,43,48]:Str))
theorem sumB_iff {k:UInt8}:sumB k = true↔sumK k:=by simp [sumB,sumK]
def grdT:Tm→Bool
 | .zero=>true
 | .un _ _ _ p=>grdT p
 | .bin k p q=>if k = 43 then (sumB p.kind && grdT p) && (sumB q.kind && grdT q) else grdT p && grdT q
def inpT:Tm→Bool
 | .zero=>true
 | .un k _ _ p=>if k = 42 then decide (p.kind = 63) && inpT p else inpT p
 | .bin _ p q=>inpT p && inpT q
theorem smp_iff:∀ {t:Tm},(grdT t && inpT t)= true↔smpT t
 | .zero=>by simp [grdT,inpT,smpT]
 | .un k a b p=>by
   have ih:=smp_iff (t:=p)
   simp only [Bool.and_eq_true] at ih ⊢
   simp only [grdT,inpT,smpT]
   by_cases h:k = 42
   ·rw [if_pos h];simp only [Bool.and_eq_true,decide_eq_true_eq,h,true_implies]
    constructor
    ·rintro ⟨h1,h2,h3⟩;exact ⟨h2,ih.1 ⟨h1,h3⟩⟩
    ·rintro ⟨h1,h2⟩;exact ⟨(ih.2 h2).1,h1,(ih.2 h2).2⟩
   ·rw [if_neg h];simp only [h,false_implies,true_and];exact ih
 | .bin k p q=>by
   have i1:=smp_iff (t:=p)
   have i2:=smp_iff (t:=q)
   simp only [Bool.and_eq_true] at i1 i2 ⊢
   simp only [grdT,inpT,smpT]
   by_cases h:k = 43
   ·rw [if_pos h];simp only [Bool.and_eq_true,h,true_implies,← sumB_iff]
    constructor
    ·rintro ⟨⟨⟨h1,h2⟩,h3,h4⟩,h5,h6⟩;exact ⟨⟨h1,h3⟩,i1.1 ⟨h2,h5⟩,i2.1 ⟨h4,h6⟩⟩
    ·rintro ⟨⟨h1,h3⟩,h2,h4⟩;exact ⟨⟨⟨h1,(i1.2 h2).1⟩,h3,(i2.2 h4).1⟩,(i1.2 h2).2,(i2.2 h4).2⟩
   ·rw [if_neg h];simp only [Bool.and_eq_true,h,false_implies,true_and]
    constructor
    ·rintro ⟨⟨h2,h4⟩,h5,h6⟩;exact ⟨i1.1 ⟨h2,h5⟩,i2.1 ⟨h4,h6⟩⟩
    ·rintro ⟨h2,h4⟩;exact ⟨⟨(i1.2 h2).1,(i2.2 h4).1⟩,(i1.2 h2).2,(i2.2 h4).2⟩
instance (t:Tm):Decidable (smpT t):=decidable_of_iff _ smp_iff
theorem grd_zero (w:World):Calls Tryz.prog 159 #[.string (S [48])] w fun e w'=>e = .returned (.bool true)∧Bl w w':=by
 have c2:=hide fun w=>tmParts_zero w
 go_enter Tryz.func159,Tryz.ntmps159
 go_wp2_with ((go_at_call 130;(with_reducible refine (c2.out _).mono ?_);rintro e w' ⟨rfl,rfl⟩))
 refine wp_loop_rounds 1 ?_
 rw [rounds_succ]
 go_wp2_with fail
 go_ret
 exact ⟨rfl,bls⟩
theorem inp_zero (w:World):Calls Tryz.prog 160 #[.string (S [48])] w fun e w'=>e = .returned (.bool true)∧Bl w w':=by
 have c2:=hide fun w=>tmParts_zero w
 go_enter Tryz.func160,Tryz.ntmps160
 go_wp2_with ((go_at_call 130;(with_reducible refine (c2.out _).mono ?_);rintro e w' ⟨rfl,rfl⟩))
 refine wp_loop_rounds 1 ?_
 rw [rounds_succ]
 go_wp2_with fail
 go_ret
 exact ⟨rfl,bls⟩
theorem grd_un (l:Str) (k a b:UInt8) (p:Tm) (dp:Bool) (w:World) (U:UnL l k a b p) (hk:okhd wideB k a b = true)
  (ih:Hid (∀ w,Calls Tryz.prog 159 #[.string (S (txt p))] w fun e w'=>e = .returned (.bool dp)∧Bl w w')):
  Calls Tryz.prog 159 #[.string (S l)] w fun e w'=>e = .returned (.bool dp)∧Bl w w':=by
 obtain ⟨c1,-,c2,-,-⟩:=U
 generalize txt p = tp at *
 rcases okhd_cases hk with ⟨rfl,ha,hb⟩ | ⟨rfl,ha,hb⟩ | ⟨rfl,ha,hb⟩ | ⟨rfl,ha,hb⟩ | ⟨rfl,ha,hb⟩ | ⟨rfl,ha,hb⟩ <;> clear hk ha hb
 all_goals
  cases dp
  ·go_enter Tryz.func159,Tryz.ntmps159
   go_wp2_with ((go_at_call 130;(with_reducible refine (c2.out _).mono ?_);rintro e w' ⟨v,rfl,⟨g,c,rfl,hc⟩,hb1⟩))
   refine wp_loop_rounds 2 ?_
   rw [rounds_succ]
   go_wp2_with (first | (go_at_call 129;(with_reducible refine (c1.out _).mono ?_);rintro e w' ⟨rfl,rfl⟩) | (go_at_call 159;(with_reducible refine (ih.out _).mono ?_);rintro e w' ⟨rfl,hb2⟩))
   go_ret
   exact ⟨rfl,bls⟩
  ·go_enter Tryz.func159,Tryz.ntmps159
   go_wp2_with ((go_at_call 130;(with_reducible refine (c2.out _).mono ?_);rintro e w' ⟨v,rfl,⟨g,c,rfl,hc⟩,hb1⟩))
   refine wp_loop_rounds 2 ?_
   rw [rounds_succ]
   go_wp2_with (first | (go_at_call 129;(with_reducible refine (c1.out _).mono ?_);rintro e w' ⟨rfl,rfl⟩) | (go_at_call 159;(with_reducible refine (ih.out _).mono ?_);rintro e w' ⟨rfl,hb2⟩))
   rw [rounds_succ]
   go_wp2_with fail
   go_ret
   exact ⟨rfl,bls⟩
theorem inp_un (l:Str) (k a b:UInt8) (p:Tm) (dp:Bool) (w:World) (U:UnL l k a b p) (hk:okhd wideB k a b = true) (h42:k≠42)
  (ih:Hid (∀ w,Calls Tryz.prog 160 #[.string (S (txt p))] w fun e w'=>e = .returned (.bool dp)∧Bl w w')):
  Calls Tryz.prog 160 #[.string (S l)] w fun e w'=>e = .returned (.bool dp)∧Bl w w':=by
 obtain ⟨c1,-,c2,-,-⟩:=U
 generalize txt p = tp at *
 rcases okhd_cases hk with ⟨rfl,ha,hb⟩ | ⟨rfl,ha,hb⟩ | ⟨rfl,ha,hb⟩ | ⟨rfl,ha,hb⟩ | ⟨rfl,ha,hb⟩ | ⟨rfl,ha,hb⟩ <;> clear hk ha hb
 case inr.inr.inr.inr.inl=>exact (h42 rfl).elim
 all_goals
  clear h42
  cases dp
  ·go_enter Tryz.func160,Tryz.ntmps160
   go_wp2_with ((go_at_call 130;(with_reducible refine (c2.out _).mono ?_);rintro e w' ⟨v,rfl,⟨g,c,rfl,hc⟩,hb1⟩))
   refine wp_loop_rounds 2 ?_
   rw [rounds_succ]
   go_wp2_with (first | (go_at_call 129;(with_reducible refine (c1.out _).mono ?_);rintro e w' ⟨rfl,rfl⟩) | (go_at_call 160;(with_reducible refine (ih.out _).mono ?_);rintro e w' ⟨rfl,hb2⟩))
   go_ret
   exact ⟨rfl,bls⟩
  ·go_enter Tryz.func160,Tryz.ntmps160
   go_wp2_with ((go_at_call 130;(with_reducible refine (c2.out _).mono ?_);rintro e w' ⟨v,rfl,⟨g,c,rfl,hc⟩,hb1⟩))
   refine wp_loop_rounds 2 ?_
   rw [rounds_succ]
   go_wp2_with (first | (go_at_call 129;(with_reducible refine (c1.out _).mono ?_);rintro e w' ⟨rfl,rfl⟩) | (go_at_call 160;(with_reducible refine (ih.out _).mono ?_);rintro e w' ⟨rfl,hb2⟩))
   rw [rounds_succ]
   go_wp2_with fail
   go_ret
   exact ⟨rfl,bls⟩
theorem inp_42 (l:Str) (a b:UInt8) (p:Tm) (dp sp:Bool) (kp:UInt8) (w:World) (U:UnL l 42 a b p) (hsp:((kp.toNat:Int)== 63)= sp) (hsp2:((kp.toNat:Int) != 63)= !sp)
  (ck:Hid (∀ w,Calls Tryz.prog 129 #[.string (S (txt p))] w fun e w'=>e = .returned (.int .u8 kp.toNat)∧w = w'))
  (ih:Hid (∀ w,Calls Tryz.prog 160 #[.string (S (txt p))] w fun e w'=>e = .returned (.bool dp)∧Bl w w')):
  Calls Tryz.prog 160 #[.string (S l)] w fun e w'=>e = .returned (.bool (sp && dp))∧Bl w w':=by
 obtain ⟨c1,-,c2,-,-⟩:=U
 generalize txt p = tp at *
 cases sp
 ·go_enter Tryz.func160,Tryz.ntmps160
  go_wp2_with ((go_at_call 130;(with_reducible refine (c2.out _).mono ?_);rintro e w' ⟨v,rfl,⟨g,c,rfl,hc⟩,hb1⟩))
  refine wp_loop_rounds 2 ?_
  rw [rounds_succ]
  go_wp2_with (first | (go_at_call 129;(with_reducible refine (c1.out _).mono ?_);rintro e w' ⟨rfl,rfl⟩) | (go_at_call 129;(with_reducible refine (ck.out _).mono ?_);rintro e w' ⟨rfl,rfl⟩))
  go_ret
  exact ⟨rfl,bls⟩
 ·cases dp
  ·go_enter Tryz.func160,Tryz.ntmps160
   go_wp2_with ((go_at_call 130;(with_reducible refine (c2.out _).mono ?_);rintro e w' ⟨v,rfl,⟨g,c,rfl,hc⟩,hb1⟩))
   refine wp_loop_rounds 2 ?_
   rw [rounds_succ]
   go_wp2_with (first | (go_at_call 129;(with_reducible refine (c1.out _).mono ?_);rintro e w' ⟨rfl,rfl⟩) | (go_at_call 129;(with_reducible refine (ck.out _).mono ?_);rintro e w' ⟨rfl,rfl⟩) | (go_at_call 160;(with_reducible refine (ih.out _).mono ?_);rintro e w' ⟨rfl,hb2⟩))
   go_ret
   exact ⟨rfl,bls⟩
  ·go_enter Tryz.func160,Tryz.ntmps160
   go_wp2_with ((go_at_call 130;(with_reducible refine (c2.out _).mono ?_);rintro e w' ⟨v,rfl,⟨g,c,rfl,hc⟩,hb1⟩))
   refine wp_loop_rounds 2 ?_
   rw [rounds_succ]
   go_wp2_with (first | (go_at_call 129;(with_reducible refine (c1.out _).mono ?_);rintro e w' ⟨rfl,rfl⟩) | (go_at_call 129;(with_reducible refine (ck.out _).mono ?_);rintro e w' ⟨rfl,rfl⟩) | (go_at_call 160;(with_reducible refine (ih.out _).mono ?_);rintro e w' ⟨rfl,hb2⟩))
   rw [rounds_succ]
   go_wp2_with fail
   go_ret
   exact ⟨rfl,bls⟩
theorem grd_43 (l:Str) (p q:Tm) (sp dp sq dq:Bool) (kp kq:UInt8) (w:World) (B:BinL l 43 p q)
  (cp:Hid (∀ w,Calls Tryz.prog 129 #[.string (S (txt p))] w fun e w'=>e = .returned (.int .u8 kp.toNat)∧w = w'))
  (cq:Hid (∀ w,Calls Tryz.prog 129 #[.string (S (txt q))] w fun e w'=>e = .returned (.int .u8 kq.toNat)∧w = w'))
  (np:Hid (∀ w,Calls Tryz.prog 100 #[.string (S [33,63,126,43,48]),.int .u8 kp.toNat] w fun e w'=>e = .returned (.bool sp)∧w = w'))
  (nq:Hid (∀ w,Calls Tryz.prog 100 #[.string (S [33,63,126,43,48]),.int .u8 kq.toNat] w fun e w'=>e = .returned (.bool sq)∧w = w'))
  (i1:Hid (∀ w,Calls Tryz.prog 159 #[.string (S (txt p))] w fun e w'=>e = .returned (.bool dp)∧Bl w w'))
  (i2:Hid (∀ w,Calls Tryz.prog 159 #[.string (S (txt q))] w fun e w'=>e = .returned (.bool dq)∧Bl w w')):
  Calls Tryz.prog 159 #[.string (S l)] w fun e w'=>e = .returned (.bool ((sp && dp) && (sq && dq)))∧Bl w w':=by
 obtain ⟨c1,-,c2,-,-⟩:=B
 generalize txt p = tp at *
 generalize txt q = tq at *
 cases sp
 ·go_enter Tryz.func159,Tryz.ntmps159
  go_wp2_with ((go_at_call 130;(with_reducible refine (c2.out _).mono ?_);rintro e w' ⟨v,rfl,⟨g,c,rfl,p0,p1⟩,hb1⟩))
  refine wp_loop_rounds 3 ?_
  rw [rounds_succ]
  go_wp2_with (first | (go_at_call 129;(with_reducible refine (c1.out _).mono ?_);rintro e w' ⟨rfl,rfl⟩) | (go_at_call 129;(with_reducible refine (cp.out _).mono ?_);rintro e w' ⟨rfl,rfl⟩) | (go_at_call 100;(with_reducible refine (np.out _).mono ?_);rintro e w' ⟨rfl,rfl⟩) | (go_at_call 159;(with_reducible refine (i1.out _).mono ?_);rintro e w' ⟨rfl,hb2⟩))
  go_ret
  exact ⟨rfl,bls⟩
 ·cases dp
  ·go_enter Tryz.func159,Tryz.ntmps159
   go_wp2_with ((go_at_call 130;(with_reducible refine (c2.out _).mono ?_);rintro e w' ⟨v,rfl,⟨g,c,rfl,p0,p1⟩,hb1⟩))
   refine wp_loop_rounds 3 ?_
   rw [rounds_succ]
   go_wp2_with (first | (go_at_call 129;(with_reducible refine (c1.out _).mono ?_);rintro e w' ⟨rfl,rfl⟩) | (go_at_call 129;(with_reducible refine (cp.out _).mono ?_);rintro e w' ⟨rfl,rfl⟩) | (go_at_call 100;(with_reducible refine (np.out _).mono ?_);rintro e w' ⟨rfl,rfl⟩) | (go_at_call 159;(with_reducible refine (i1.out _).mono ?_);rintro e w' ⟨rfl,hb2⟩))
   go_ret
   exact ⟨rfl,bls⟩
  ·cases sq
   ·go_enter Tryz.func159,Tryz.ntmps159
    go_wp2_with ((go_at_call 130;(with_reducible refine (c2.out _).mono ?_);rintro e w' ⟨v,rfl,⟨g,c,rfl,p0,p1⟩,hb1⟩))
    refine wp_loop_rounds 3 ?_
    rw [rounds_succ]
    go_wp2_with (first | (go_at_call 129;(with_reducible refine (c1.out _).mono ?_);rintro e w' ⟨rfl,rfl⟩) | (go_at_call 129;(with_reducible refine (cp.out _).mono ?_);rintro e w' ⟨rfl,rfl⟩) | (go_at_call 100;(with_reducible refine (np.out _).mono ?_);rintro e w' ⟨rfl,rfl⟩) | (go_at_call 159;(with_reducible refine (i1.out _).mono ?_);rintro e w' ⟨rfl,hb2⟩))
    rw [rounds_succ]
    have p1:=cell_kept hb2 p1
    go_wp2_with (first | (go_at_call 129;(with_reducible refine (c1.out _).mono ?_);rintro e w' ⟨rfl,rfl⟩) | (go_at_call 129;(with_reducible refine (cq.out _).mono ?_);rintro e w' ⟨rfl,rfl⟩) | (go_at_call 100;(with_reducible refine (nq.out _).mono ?_);rintro e w' ⟨rfl,rfl⟩) | (go_at_call 159;(with_reducible refine (i2.out _).mono ?_);rintro e w' ⟨rfl,hb3⟩))
    go_ret
    exact ⟨rfl,bls⟩
   ·cases dq
    ·go_enter Tryz.func159,Tryz.ntmps159
     go_wp2_with ((go_at_call 130;(with_reducible refine (c2.out _).mono ?_);rintro e w' ⟨v,rfl,⟨g,c,rfl,p0,p1⟩,hb1⟩))
     refine wp_loop_rounds 3 ?_
     rw [rounds_succ]
     go_wp2_with (first | (go_at_call 129;(with_reducible refine (c1.out _).mono ?_);rintro e w' ⟨rfl,rfl⟩) | (go_at_call 129;(with_reducible refine (cp.out _).mono ?_);rintro e w' ⟨rfl,rfl⟩) | (go_at_call 100;(with_reducible refine (np.out _).mono ?_);rintro e w' ⟨rfl,rfl⟩) | (go_at_call 159;(with_reducible refine (i1.out _).mono ?_);rintro e w' ⟨rfl,hb2⟩))
     rw [rounds_succ]
     have p1:=cell_kept hb2 p1
     go_wp2_with (first | (go_at_call 129;(with_reducible refine (c1.out _).mono ?_);rintro e w' ⟨rfl,rfl⟩) | (go_at_call 129;(with_reducible refine (cq.out _).mono ?_);rintro e w' ⟨rfl,rfl⟩) | (go_at_call 100;(with_reducible refine (nq.out _).mono ?_);rintro e w' ⟨rfl,rfl⟩) | (go_at_call 159;(with_reducible refine (i2.out _).mono ?_);rintro e w' ⟨rfl,hb3⟩))
     go_ret
     exact ⟨rfl,bls⟩
    ·go_enter Tryz.func159,Tryz.ntmps159
     go_wp2_with ((go_at_call 130;(with_reducible refine (c2.out _).mono ?_);rintro e w' ⟨v,rfl,⟨g,c,rfl,p0,p1⟩,hb1⟩))
     refine wp_loop_rounds 3 ?_
     rw [rounds_succ]
     go_wp2_with (first | (go_at_call 129;(with_reducible refine (c1.out _).mono ?_);rintro e w' ⟨rfl,rfl⟩) | (go_at_call 129;(with_reducible refine (cp.out _).mono ?_);rintro e w' ⟨rfl,rfl⟩) | (go_at_call 100;(with_reducible refine (np.out _).mono ?_);rintro e w' ⟨rfl,rfl⟩) | (go_at_call 159;(with_reducible refine (i1.out _).mono ?_);rintro e w' ⟨rfl,hb2⟩))
     rw [rounds_succ]
     have p1:=cell_kept hb2 p1
     go_wp2_with (first | (go_at_call 129;(with_reducible refine (c1.out _).mono ?_);rintro e w' ⟨rfl,rfl⟩) | (go_at_call 129;(with_reducible refine (cq.out _).mono ?_);rintro e w' ⟨rfl,rfl⟩) | (go_at_call 100;(with_reducible refine (nq.out _).mono ?_);rintro e w' ⟨rfl,rfl⟩) | (go_at_call 159;(with_reducible refine (i2.out _).mono ?_);rintro e w' ⟨rfl,hb3⟩))
     rw [rounds_succ]
     go_wp2_with fail
     go_ret
     exact ⟨rfl,bls⟩
theorem grd_38 (l:Str) (p q:Tm) (dp dq:Bool) (w:World) (B:BinL l 38 p q)
  (i1:Hid (∀ w,Calls Tryz.prog 159 #[.string (S (txt p))] w fun e w'=>e = .returned (.bool dp)∧Bl w w'))
  (i2:Hid (∀ w,Calls Tryz.prog 159 #[.string (S (txt q))] w fun e w'=>e = .returned (.bool dq)∧Bl w w')):
  Calls Tryz.prog 159 #[.string (S l)] w fun e w'=>e = .returned (.bool (dp && dq))∧Bl w w':=by
 obtain ⟨c1,-,c2,-,-⟩:=B
 generalize txt p = tp at *
 generalize txt q = tq at *
 cases dp
 ·go_enter Tryz.func159,Tryz.ntmps159
  go_wp2_with ((go_at_call 130;(with_reducible refine (c2.out _).mono ?_);rintro e w' ⟨v,rfl,⟨g,c,rfl,p0,p1⟩,hb1⟩))
  refine wp_loop_rounds 3 ?_
  rw [rounds_succ]
  go_wp2_with (first | (go_at_call 129;(with_reducible refine (c1.out _).mono ?_);rintro e w' ⟨rfl,rfl⟩) | (go_at_call 159;(with_reducible refine (i1.out _).mono ?_);rintro e w' ⟨rfl,hb2⟩))
  go_ret
  exact ⟨rfl,bls⟩
 ·cases dq
  ·go_enter Tryz.func159,Tryz.ntmps159
   go_wp2_with ((go_at_call 130;(with_reducible refine (c2.out _).mono ?_);rintro e w' ⟨v,rfl,⟨g,c,rfl,p0,p1⟩,hb1⟩))
   refine wp_loop_rounds 3 ?_
   rw [rounds_succ]
   go_wp2_with (first | (go_at_call 129;(with_reducible refine (c1.out _).mono ?_);rintro e w' ⟨rfl,rfl⟩) | (go_at_call 159;(with_reducible refine (i1.out _).mono ?_);rintro e w' ⟨rfl,hb2⟩))
   rw [rounds_succ]
   have p1:=cell_kept hb2 p1
   go_wp2_with (first | (go_at_call 129;(with_reducible refine (c1.out _).mono ?_);rintro e w' ⟨rfl,rfl⟩) | (go_at_call 159;(with_reducible refine (i2.out _).mono ?_);rintro e w' ⟨rfl,hb3⟩))
   go_ret
   exact ⟨rfl,bls⟩
  ·go_enter Tryz.func159,Tryz.ntmps159
   go_wp2_with ((go_at_call 130;(with_reducible refine (c2.out _).mono ?_);rintro e w' ⟨v,rfl,⟨g,c,rfl,p0,p1⟩,hb1⟩))
   refine wp_loop_rounds 3 ?_
   rw [rounds_succ]
   go_wp2_with (first | (go_at_call 129;(with_reducible refine (c1.out _).mono ?_);rintro e w' ⟨rfl,rfl⟩) | (go_at_call 159;(with_reducible refine (i1.out _).mono ?_);rintro e w' ⟨rfl,hb2⟩))
   rw [rounds_succ]
   have p1:=cell_kept hb2 p1
   go_wp2_with (first | (go_at_call 129;(with_reducible refine (c1.out _).mono ?_);rintro e w' ⟨rfl,rfl⟩) | (go_at_call 159;(with_reducible refine (i2.out _).mono ?_);rintro e w' ⟨rfl,hb3⟩))
   rw [rounds_succ]
   go_wp2_with fail
   go_ret
   exact ⟨rfl,bls⟩
theorem inp_bin (l:Str) (k:UInt8) (hk:k = 43∨k = 38) (p q:Tm) (dp dq:Bool) (w:World) (B:BinL l k p q)
  (i1:Hid (∀ w,Calls Tryz.prog 160 #[.string (S (txt p))] w fun e w'=>e = .returned (.bool dp)∧Bl w w'))
  (i2:Hid (∀ w,Calls Tryz.prog 160 #[.string (S (txt q))] w fun e w'=>e = .returned (.bool dq)∧Bl w w')):
  Calls Tryz.prog 160 #[.string (S l)] w fun e w'=>e = .returned (.bool (dp && dq))∧Bl w w':=by
 obtain ⟨c1,-,c2,-,-⟩:=B
 generalize txt p = tp at *
 generalize txt q = tq at *
 rcases hk with rfl | rfl
 all_goals
  cases dp
  ·go_enter Tryz.func160,Tryz.ntmps160
   go_wp2_with ((go_at_call 130;(with_reducible refine (c2.out _).mono ?_);rintro e w' ⟨v,rfl,⟨g,c,rfl,p0,p1⟩,hb1⟩))
   refine wp_loop_rounds 3 ?_
   rw [rounds_succ]
   go_wp2_with (first | (go_at_call 129;(with_reducible refine (c1.out _).mono ?_);rintro e w' ⟨rfl,rfl⟩) | (go_at_call 160;(with_reducible refine (i1.out _).mono ?_);rintro e w' ⟨rfl,hb2⟩))
   go_ret
   exact ⟨rfl,bls⟩
  ·cases dq
   ·go_enter Tryz.func160,Tryz.ntmps160
    go_wp2_with ((go_at_call 130;(with_reducible refine (c2.out _).mono ?_);rintro e w' ⟨v,rfl,⟨g,c,rfl,p0,p1⟩,hb1⟩))
    refine wp_loop_rounds 3 ?_
    rw [rounds_succ]
    go_wp2_with (first | (go_at_call 129;(with_reducible refine (c1.out _).mono ?_);rintro e w' ⟨rfl,rfl⟩) | (go_at_call 160;(with_reducible refine (i1.out _).mono ?_);rintro e w' ⟨rfl,hb2⟩))
    rw [rounds_succ]
    have p1:=cell_kept hb2 p1
    go_wp2_with (first | (go_at_call 129;(with_reducible refine (c1.out _).mono ?_);rintro e w' ⟨rfl,rfl⟩) | (go_at_call 160;(with_reducible refine (i2.out _).mono ?_);rintro e w' ⟨rfl,hb3⟩))
    go_ret
    exact ⟨rfl,bls⟩
   ·go_enter Tryz.func160,Tryz.ntmps160
    go_wp2_with ((go_at_call 130;(with_reducible refine (c2.out _).mono ?_);rintro e w' ⟨v,rfl,⟨g,c,rfl,p0,p1⟩,hb1⟩))
    refine wp_loop_rounds 3 ?_
    rw [rounds_succ]
    go_wp2_with (first | (go_at_call 129;(with_reducible refine (c1.out _).mono ?_);rintro e w' ⟨rfl,rfl⟩) | (go_at_call 160;(with_reducible refine (i1.out _).mono ?_);rintro e w' ⟨rfl,hb2⟩))
    rw [rounds_succ]
    have p1:=cell_kept hb2 p1
    go_wp2_with (first | (go_at_call 129;(with_reducible refine (c1.out _).mono ?_);rintro e w' ⟨rfl,rfl⟩) | (go_at_call 160;(with_reducible refine (i2.out _).mono ?_);rintro e w' ⟨rfl,hb3⟩))
    rw [rounds_succ]
    go_wp2_with fail
    go_ret
    exact ⟨rfl,bls⟩
theorem grd_d (t:Tm):∀ (w:World),t.ok wideB = true→Short (txt t)→
  Calls Tryz.prog 159 #[.string (S (txt t))] w fun e w'=>e = .returned (.bool (grdT t))∧Bl w w':=by
 induction t with
 | zero=>intro w _ _;exact grd_zero w
 | un k a b p ih0=>
   intro w hk hs
   simp only [Tm.ok,Bool.and_eq_true] at hk
   have h2:Short (txt p):=by unfold Short at *;simp only [txt,List.length_append] at hs;omega
   exact grd_un _ k a b p _ w (unL k a b p hk.1) hk.1 (hide fun w=>ih0 w hk.2 h2)
 | bin k p q ih1 ih2=>
   intro w hk hs
   simp only [Tm.ok,Bool.and_eq_true,Bool.or_eq_true,beq_iff_eq] at hk
   have h2:Short (txt p)∧Short (txt q):=by unfold Short at *;simp only [txt,List.length_cons,List.length_append] at hs;omega
   have B:=binL k p q hk.1 hk.2.1 hs
   have i1:=hide fun w=>ih1 w hk.2.1 h2.1
   have i2:=hide fun w=>ih2 w hk.2.2 h2.2
   rcases hk.1 with rfl | rfl
   ·have hS:Short [33,63,126,43,48]:=by unfold Short;decide
    exact grd_43 _ p q (sumB p.kind) (grdT p) (sumB q.kind) (grdT q) p.kind q.kind w B (hide fun w=>tmKind_c p w hk.2.1 h2.1) (hide fun w=>tmKind_c q w hk.2.2 h2.2) (hide fun w=>tmIn_c _ p.kind w hS) (hide fun w=>tmIn_c _ q.kind w hS) i1 i2
   ·exact grd_38 _ p q _ _ w B i1 i2
theorem inp_d (t:Tm):∀ (w:World),t.ok wideB = true→Short (txt t)→
  Calls Tryz.prog 160 #[.string (S (txt t))] w fun e w'=>e = .returned (.bool (inpT t))∧Bl w w':=by
 induction t with
 | zero=>intro w _ _;exact inp_zero w
 | un k a b p ih0=>
   intro w hk hs
   simp only [Tm.ok,Bool.and_eq_true] at hk
   have h2:Short (txt p):=by unfold Short at *;simp only [txt,List.length_append] at hs;omega
   have ih:=hide fun w=>ih0 w hk.2 h2
   simp only [inpT]
   by_cases h:k = 42
   ·subst h
    rw [if_pos rfl]
    have h63:((p.kind.toNat:Int)== 63)= decide (p.kind = 63):=by
     rw [Bool.eq_iff_iff]
     simp only [beq_iff_eq,decide_eq_true_eq]
     constructor
     ·intro h;exact UInt8.toNat_inj.1 (by show p.kind.toNat = 63;omega)
     ·intro h;rw [h];rfl
    exact inp_42 _ a b p _ _ p.kind w (unL 42 a b p hk.1) h63 (by rw [bne,h63]) (hide fun w=>tmKind_c p w hk.2 h2) ih
   ·rw [if_neg h]
    exact inp_un _ k a b p _ w (unL k a b p hk.1) hk.1 h ih
 | bin k p q ih1 ih2=>
   intro w hk hs
   simp only [Tm.ok,Bool.and_eq_true,Bool.or_eq_true,beq_iff_eq] at hk
   have h2:Short (txt p)∧Short (txt q):=by unfold Short at *;simp only [txt,List.length_cons,List.length_append] at hs;omega
   exact inp_bin _ k hk.1 p q _ _ w (binL k p q hk.1 hk.2.1 hs) (hide fun w=>ih1 w hk.2.1 h2.1) (hide fun w=>ih2 w hk.2.2 h2.2)
def smpB (t:Tm):Bool:=grdT t && inpT t
theorem tmSimple_c (t:Tm) (w:World) (hk:t.ok wideB = true) (hs:Short (txt t)):Calls Tryz.prog 109 #[.string (S (txt t))] w fun e w'=>e = .returned (.bool (smpB t))∧Bl w w':=by
 have c1:=hide fun w=>grd_d t w hk hs
 have c2:=hide fun w=>inp_d t w hk hs
 unfold smpB
 clear hk hs
 generalize grdT t = a at *
 generalize inpT t = b at *
 generalize txt t = l at *
 cases a
 ·go_enter Tryz.func109,Tryz.ntmps109
  go_wp2_with ((go_at_call 159;(with_reducible refine (c1.out _).mono ?_);rintro e w' ⟨rfl,hb1⟩))
  go_ret
  exact ⟨rfl,hb1⟩
 ·go_enter Tryz.func109,Tryz.ntmps109
  go_wp2_with (first | (go_at_call 159;(with_reducible refine (c1.out _).mono ?_);rintro e w' ⟨rfl,hb1⟩) | (go_at_call 160;(with_reducible refine (c2.out _).mono ?_);rintro e w' ⟨rfl,hb2⟩))
  go_ret
  exact ⟨rfl,hb1.trans hb2⟩
def startT (l:Str):Option Str:=match proc? l with
 | some t=>if smpB t = true then nfR t else none
 | none=>none
theorem rdStart_c (l:Str) (w:World) (hs:Short l):Calls Tryz.prog 60 #[.string (S l)] w fun e w'=>e = .returned (optV (startT l))∧Bl w w':=by
 have cg:=hide fun w=>tmGood_c l w hs
 have hg:goodB l = (proc? l).isSome:=proc_good
 rw [hg] at cg
 unfold startT
 cases hp:proc? l with
 | none=>
   rw [hp] at cg
   go_enter Tryz.func60,Tryz.ntmps60
   go_wp2_with ((go_at_call 108;(with_reducible refine (cg.out _).mono ?_);rintro e w' ⟨rfl,hb1⟩))
   go_ret2
   exact ⟨rfl,hb1⟩
 | some t=>
   rw [hp] at cg
   obtain ⟨rfl,h2,h3,h4⟩:=proc_ok hp
   have cs:=hide fun w=>tmSimple_c t w (Tm.ok_mono (fun _=>small_wide) h2) hs
   have cn:=hide fun w=>nfIf_c t w h2 (by omega)
   simp only
   generalize smpB t = b at *
   generalize nfR t = r at *
   clear hp h3 h4 h2 hs hg
   generalize txt t = l at *
   cases b
   ·go_enter Tryz.func60,Tryz.ntmps60
    go_wp2_with (first | (go_at_call 108;(with_reducible refine (cg.out _).mono ?_);rintro e w' ⟨rfl,hb1⟩) | (go_at_call 109;(with_reducible refine (cs.out _).mono ?_);rintro e w' ⟨rfl,hb2⟩))
    go_ret2
    exact ⟨rfl,hb1.trans hb2⟩
   ·rw [if_pos rfl]
    rw [optV_eq] at cn ⊢
    generalize r.getD [] = x at *
    generalize r.isSome = y at *
    go_enter Tryz.func60,Tryz.ntmps60
    go_wp2_with (first | (go_at_call 108;(with_reducible refine (cg.out _).mono ?_);rintro e w' ⟨rfl,hb1⟩) | (go_at_call 109;(with_reducible refine (cs.out _).mono ?_);rintro e w' ⟨rfl,hb2⟩) | (go_at_call 88;(with_reducible refine (cn.out _).mono ?_);rintro e w' ⟨rfl,hb3⟩))
    go_ret2
    exact ⟨rfl,(hb1.trans hb2).trans hb3⟩
theorem start_eq {l:Str} {s:Str} (h:startT l = some s):StdS s:=by
 unfold startT at h
 split at h
 ·rename_i t hp
  obtain ⟨h1,h2,h3,h4⟩:=proc_ok hp
  split at h
  ·rename_i hb
   exact start_std h2 (by omega) (smp_iff.1 hb) h
  ·cases h
 ·cases h
end Go.Proofs.YtbibkgcbdnldbaaGreat
namespace Go.Proofs.YtbibkgcbdnldbaaGreat
open Go.RowKit
attribute [local go_sem] S_size S_toList S_lit S_get S_extract S_append drop_all
def encT (x:OfT):List Value:=[.int .u8 x.k.toNat,.int .u8 x.a.toNat,.int .u8 x.b.toNat,strV (txt x.p),.bool x.st]
theorem encT_len (x:OfT):(encT x).length = 5:=rfl
theorem encT_one (x:OfT):∀ u∈encT x,u.oneCell' = true:=by
 intro u hu
 simp only [encT,List.mem_cons,List.not_mem_nil,or_false] at hu
 rcases hu with rfl | rfl | rfl | rfl | rfl <;> rfl
theorem rowOfT:RowK 100 97 (.agg #[.int .u8 0,.int .u8 0,.int .u8 0,.string (S []),.bool false]) 5 32:=
 ⟨Tryz.underlying97,by kernel_rfl,rfl,by decide,by decide⟩
abbrev OfL (w:World) (base:Nat) (v:Value) (xs:List OfT):Prop:=RK 100 5 encT w base v xs
def MkOf (w:World) (xs:List OfT) (e:Ending) (w':World):Prop:=∃ v,e = .returned v∧OfL w' w.heap.size v xs∧Bl w w'
theorem offT_len:∀ t:Tm,(offT t).length≤t.size
 | .zero=>by simp [offT]
 | .un k a b p=>by
   have:=offT_len p
   simp only [offT,Tm.size];split
   ·simp
   ·split
    ·simp;omega
    ·simp
 | .bin k p q=>by
   have:=offT_len p
   have:=offT_len q
   simp only [offT,Tm.size];split
   ·simp;omega
   ·simp
theorem rdOff_nil (l:Str) (k:UInt8) (w:World) (hk:k = 48∨k = 38∨k = 35∨k = 61)
  (ck:Hid (∀ w,Calls Tryz.prog 129 #[.string (S l)] w fun e w'=>e = .returned (.int .u8 k.toNat)∧w = w')):
  Calls Tryz.prog 99 #[.string (S l)] w (MkOf w []):=by
 rcases hk with rfl | rfl | rfl | rfl
 all_goals
  go_enter Tryz.func99,Tryz.ntmps99
  go_wp2_with ((go_at_call 129;(with_reducible refine (ck.out _).mono ?_);rintro e w' ⟨rfl,rfl⟩))
  go_ret
  exact ⟨_,rfl,RK.nil _ _,Bl.refl _⟩
theorem rdOff_126 (l:Str) (p:Tm) (w:World) (he:l = 126 :: 46 :: txt p)
  (ck:Hid (∀ w,Calls Tryz.prog 129 #[.string (S l)] w fun e w'=>e = .returned (.int .u8 126)∧w = w')):
  Calls Tryz.prog 99 #[.string (S l)] w (MkOf w [⟨126,0,0,p,false⟩]):=by
 have q0:(2:Int)≤l.length:=by rw [he];simp only [List.length_cons];omega
 have q1:l.drop 2 = txt p:=by rw [he];rfl
 have q2:List.take (l.length - 2) (txt p)= txt p:=by rw [List.take_of_length_le];rw [he];simp
 clear he
 go_enter Tryz.func99,Tryz.ntmps99
 go_wp2_with ((go_at_call 129;(with_reducible refine (ck.out _).mono ?_);rintro e w' ⟨rfl,rfl⟩))
 go_ret
 exact ⟨_,rfl,RK.lit w _ _ (Nat.le_refl _) rfl rfl,bl_alloc _ _⟩
theorem rdOff_name (l:Str) (k a b:UInt8) (p:Tm) (w:World) (hk:k = 33∨k = 63) (he:l = a :: k :: b :: 46 :: txt p)
  (ck:Hid (∀ w,Calls Tryz.prog 129 #[.string (S l)] w fun e w'=>e = .returned (.int .u8 k.toNat)∧w = w')):
  Calls Tryz.prog 99 #[.string (S l)] w (MkOf w [⟨k,a,b,p,false⟩]):=by
 obtain ⟨g1,g2⟩:=byte_get (l:=l) (i:=2) (x:=b) (by rw [he];rfl)
 obtain ⟨g3,g4⟩:=byte_get (l:=l) (i:=0) (x:=a) (by rw [he];rfl)
 have q4:(4:Int)≤l.length:=by rw [he];simp only [List.length_cons];omega
 have q7:(2:Int) < l.length:=by omega
 have q8:(0:Int) < l.length:=by omega
 have q1:l.drop 4 = txt p:=by rw [he];rfl
 have q2:List.take (l.length - 4) (txt p)= txt p:=by rw [List.take_of_length_le];rw [he];simp
 clear he
 rcases hk with rfl | rfl
 all_goals
  go_enter Tryz.func99,Tryz.ntmps99
  go_wp2_with ((go_at_call 129;(with_reducible refine (ck.out _).mono ?_);rintro e w' ⟨rfl,rfl⟩))
  refine AnyT.start 11 (fun _=>True) (fun j=>[9].contains j) (by kernel_rfl) (by rfl) ?_
  have hHeld:(fun _:World=>True) w.drew:=trivial
  refine AnyT.tk 0 ?_
  refine AnyT.tk 2 ?_
  refine AnyT.tk 3 ?_
  refine AnyT.tk 4 ?_
  refine AnyT.tk 5 ?_
  refine AnyT.tk 6 ?_
  refine AnyT.tk 7 ?_
  try simp only [Act.put,sqa,sqb,sqc]
  refine AnyT.one (i:=1) rfl (by kernel_rfl) (fun K hK=>?_)
  go_simp
  go_at_call 129
  (with_reducible refine (ck.out _).mono ?_)
  rintro e W1 ⟨rfl,rfl⟩
  go_wp2_with fail
  refine hK.out _ _ ?_ ?_
  ·exact trivial
  intro hHeld
  clear hK K
  try simp only [Act.put,sqa,sqb,sqc]
  refine AnyT.tk 8 ?_
  try simp only [Act.put,sqa,sqb,sqc]
  refine AnyT.tail (i:=9) rfl (by kernel_rfl) (by rfl) (fun K hK=>?_)
  go_simp
  refine hK.out _ _ ?_
  clear hK K
  try simp only [Act.put,sqa,sqb,sqc]
  refine AnyT.tk 10 ?_
  try simp only [Act.put,sqa,sqb,sqc]
  refine AnyT.done (by kernel_rfl) ?_
  go_wp2_with fail
  go_ret
  exact ⟨_,rfl,RK.lit _ _ _ (Nat.le_refl _) rfl rfl,bl_drew (Bl.refl _) |>.trans (bl_alloc _ _)⟩
theorem rdOff_bin (l:Str) (p q:Tm) (xs ys:List OfT) (w:World) (B:BinL l 43 p q) (hl:xs.length + ys.length≤100000)
  (i1:Hid (∀ w,Calls Tryz.prog 99 #[.string (S (txt p))] w (MkOf w xs)))
  (i2:Hid (∀ w,Calls Tryz.prog 99 #[.string (S (txt q))] w (MkOf w ys))):
  Calls Tryz.prog 99 #[.string (S l)] w (MkOf w (xs ++ ys)):=by
 obtain ⟨ck,-,c2,-,-⟩:=B
 generalize txt p = tp at *
 generalize txt q = tq at *
 go_enter Tryz.func99,Tryz.ntmps99
 go_wp2_with (first | (go_at_call 129;(with_reducible refine (ck.out _).mono ?_);rintro e w' ⟨rfl,rfl⟩) | (go_at_call 130;(with_reducible refine (c2.out _).mono ?_);rintro e w1 ⟨v,rfl,⟨g,c,rfl,p0,p1⟩,hb1⟩))
 have HL:Bl w w1:=hb1
 have hgl:Hid (g < w1.heap.size):=cell_lt p0
 have hR:=Bl.refl w1
 clear hb1
 go_region_held3 (fun w'=>w'.cell? ⟨g,0,none⟩= some (.string (S tp))∧w'.cell? ⟨g,1,none⟩= some (.string (S tq))) (go_keep)
  (first | (go_at_call 99;first | ((with_reducible refine (i1.out _).mono ?_);rintro e w2 ⟨v1,rfl,hs1,hb2⟩;have p0:=cell_kept hb2 p0;have p1:=cell_kept hb2 p1;have hs1:=RK.mono hs1 (Below.size (bl_src hb2 (show Bl w1 _ from bls)));first | (have hs2:=RK.bl hs2 hb2) | skip) | ((with_reducible refine (i2.out _).mono ?_);rintro e w3 ⟨v2,rfl,hs2,hb3⟩;have p0:=cell_kept hb3 p0;have p1:=cell_kept hb3 p1;have hs2:=RK.mono hs2 (Below.size (bl_src hb3 (show Bl w1 _ from bls)));first | (have hs1:=RK.bl hs1 hb3) | skip)) | (refine rk_step rowOfT encT_len encT_one _ (.tmp 34) (.tmp 38) w1.heap.size v1 v2 xs ys rfl rfl (by simp [Act.eval,Act.put]) (by simp [Act.eval,Act.put]) hs1 hs2.src hl (Below.size (show Bl w1 _ from bls)) ?_;intro v3 w4 hs3 hg3 ha3;have p0:=World.grownBy.cell hg3 p0 (fun e=>by have:=(RK.lt hs1 _ e.symm).1;have:=hgl.out;simp at *;omega);have p1:=World.grownBy.cell hg3 p1 (fun e=>by have:=(RK.lt hs1 _ e.symm).1;have:=hgl.out;simp at *;omega)))
 all_goals
  have hb4:Bl w w4:=bl_grown (show Bl w _ from bls) hg3 (fun k hk=>Nat.le_trans (Below.size HL) (RK.lt hs1 k hk).1)
  have hs3:=RK.mono hs3 (Below.size HL)
  go_wp2_with fail
  go_ret
  exact ⟨_,rfl,hs3,hb4⟩
theorem rdOff_42 (l:Str) (a b c d:UInt8) (p:Tm) (w:World) (he:l = 42 :: txt (.un 63 a b p))
  (ck:Hid (∀ w,Calls Tryz.prog 129 #[.string (S l)] w fun e w'=>e = .returned (.int .u8 42)∧w = w'))
  (ih:Hid (∀ w,Calls Tryz.prog 99 #[.string (S (txt (.un 63 a b p)))] w (MkOf w [⟨63,a,b,p,false⟩]))):
  Calls Tryz.prog 99 #[.string (S l)] w (MkOf w [⟨63,a,b,p,true⟩]):=by
 have q0:(1:Int)≤l.length:=by rw [he];simp only [List.length_cons];omega
 have q1:l.drop 1 = txt (.un 63 a b p):=by rw [he];rfl
 have q2:List.take (l.length - 1) (txt (.un 63 a b p))= txt (.un 63 a b p):=by rw [List.take_of_length_le];rw [he];simp
 clear he
 generalize txt (.un 63 a b p)= tp at *
 go_enter Tryz.func99,Tryz.ntmps99
 go_wp2_with (first | (go_at_call 129;(with_reducible refine (ck.out _).mono ?_);rintro e w' ⟨rfl,rfl⟩) | (go_at_call 99;(with_reducible refine (ih.out _).mono ?_);rintro e w1 ⟨v,rfl,hs1,hb1⟩;obtain ⟨-,hno⟩ | ⟨g,cp,cur,rfl,hbg,⟨hgl,hc1,hc2,hc3⟩,hblk,hcells⟩:=hs1.form encT_len))
 ·cases hno
 have p4:=hcells 0 _ rfl 4 _ rfl
 have f4:=blk_free (i:=0 * 5 + 4) hblk
 have HS:=hide hs1
 have HB:=hide hb1
 have hsz:(0 * 5 + 4) < cur.size:=by have h1:1≤cp:=hc1;omega
 clear hs1 hcells hblk hb1
 refine wp_loop_rounds 2 ?_
 rw [rounds_succ]
 go_wp2_with fail
 rw [rounds_succ]
 go_wp2_with fail
 go_ret
 have h2:=HS.out.setc encT_len (g:=g) rfl (j:=0) (i:=4) (x:=⟨63,a,b,p,false⟩) (x':=⟨63,a,b,p,true⟩) rfl (by decide) (u:=.bool true) rfl
 exact ⟨_,rfl,h2,Bl.via HB.out (bx_set _ _ _ _) hbg⟩
theorem rdOffers_c (t:Tm):∀ (w:World),t.ok wideB = true→smpT t→(txt t).length≤40000→t.size≤10000→Calls Tryz.prog 99 #[.string (S (txt t))] w (MkOf w (offT t)):=by
 induction t with
 | zero=>intro w _ _ _ _;exact rdOff_nil _ 48 w (.inl rfl) (hide fun w=>tmKind_zero w)
 | un k a b p ih0 =>
   intro w hk hm hl hz
   have hk0:=hk
   simp only [Tm.ok,Bool.and_eq_true] at hk
   have ck:=hide fun w=>tmKind_un k a b p w hk.1
   have h2:(txt p).length≤40000:=by simp only [txt,List.length_append] at hl;omega
   have h3:p.size≤10000:=by simp only [Tm.size] at hz;omega
   have ih:=hide fun w=>ih0 w hk.2 hm.2 h2 h3
   rcases okhd_cases hk.1 with ⟨rfl,ha,hb⟩ | ⟨rfl,ha,hb⟩ | ⟨rfl,ha,hb⟩ | ⟨rfl,ha,hb⟩ | ⟨rfl,ha,hb⟩ | ⟨rfl,ha,hb⟩
   ·exact rdOff_name _ 33 a b p w (.inl rfl) rfl ck
   ·exact rdOff_name _ 63 a b p w (.inr rfl) rfl ck
   ·exact rdOff_nil _ 61 w (.inr (.inr (.inr rfl))) ck
   ·exact rdOff_nil _ 35 w (.inr (.inr (.inl rfl))) ck
   ·have hp:=hm.1 rfl
    cases p with
    | un k2 a2 b2 p2=>
      obtain rfl:k2 = 63:=hp
      exact rdOff_42 _ a2 b2 a b p2 w rfl ck ih
    | zero=>cases hp
    | bin k2 p2 q2=>
      have hp:k2 = 63:=hp
      simp only [Tm.ok,Bool.and_eq_true,Bool.or_eq_true,beq_iff_eq] at hk
      rcases hk.2.1 with h | h <;> rw [hp] at h <;> cases h
   ·subst ha hb
    exact rdOff_126 _ p w rfl ck
 | bin k p q ih1 ih2=>
   intro w hk hm hl hz
   simp only [Tm.ok,Bool.and_eq_true,Bool.or_eq_true,beq_iff_eq] at hk
   have hs:Short (txt (.bin k p q)):=short_of (by omega)
   have B:=binL k p q hk.1 hk.2.1 hs
   have h2:(txt p).length≤40000∧(txt q).length≤40000:=by simp only [txt,List.length_cons,List.length_append] at hl;omega
   have h3:p.size + q.size≤10000:=by simp only [Tm.size] at hz;omega
   rcases hk.1 with rfl | rfl
   ·have l1:=offT_len p
    have l2:=offT_len q
    exact rdOff_bin _ p q _ _ w B (by omega) (hide fun w=>ih1 w hk.2.1 hm.2.1 h2.1 (by omega)) (hide fun w=>ih2 w hk.2.2 hm.2.2 h2.2 (by omega))
   ·exact rdOff_nil _ 38 w (.inr (.inl rfl)) B.kind
end Go.Proofs.YtbibkgcbdnldbaaGreat
namespace Go.Proofs.YtbibkgcbdnldbaaGreat
open Go.RowKit
attribute [local go_sem] S_size S_toList S_lit S_get S_extract S_append drop_all
attribute [local go_sem] mkfn
def gH:Tm→Bool
 | .bin k p q=>if k = 43 then sumB p.kind && sumB q.kind else true
 | _=>true
def iH:Tm→Bool
 | .un k _ _ p=>if k = 42 then decide (p.kind = 63) else true
 | _=>true
def allT (h:Tm→Bool):Tm→Bool
 | .zero=>h .zero
 | .un k a b p=>h (.un k a b p) && allT h p
 | .bin k p q=>h (.bin k p q) && allT h p && allT h q
theorem allT_g:∀ t:Tm,allT gH t = grdT t
 | .zero=>rfl
 | .un k a b p=>by simp [allT,gH,grdT,allT_g p]
 | .bin k p q=>by
   simp only [allT,gH,grdT,allT_g p,allT_g q]
   split
   ·cases sumB p.kind <;> cases sumB q.kind <;> cases grdT p <;> cases grdT q <;> rfl
   ·simp
theorem allT_i:∀ t:Tm,allT iH t = inpT t
 | .zero=>rfl
 | .un k a b p=>by
   simp only [allT,iH,inpT,allT_i p]
   split <;> simp
 | .bin k p q=>by simp [allT,iH,inpT,allT_i p,allT_i q]
theorem idx_in (s:Str) (c:UInt8) (h:c∈s):∃ i:Int,0≤i∧∀ w,Calls Tryz.prog 163 #[.string (S s),.int .u8 c.toNat] w fun e w'=>e = .returned (.int .i64 i)∧w = w':=by
 refine ⟨Lib.indexByte s c,?_,fun w=>?_⟩
 ·induction s with
  | nil=>cases h
  | cons b l ih=>
    unfold Lib.indexByte
    by_cases e:b = c
    ·simp [e]
    ·have:=ih (by simpa [Ne.symm e] using h)
     simp [e];split <;> omega
 ·refine (Tryz.strings_IndexByte (S s) c.toNat w).mono fun e w' ⟨h1,h2⟩=>⟨?_,h2.symm⟩
  rw [h1];simp [S]
theorem idx_out (s:Str) (c:UInt8) (h:c∉s):∀ w,Calls Tryz.prog 163 #[.string (S s),.int .u8 c.toNat] w fun e w'=>e = .returned (.int .i64 (-1))∧w = w':=by
 have h0:Lib.indexByte s c = -1:=by
  induction s with
  | nil=>rfl
  | cons b l ih=>
    unfold Lib.indexByte
    rw [List.mem_cons,not_or] at h
    rw [ih h.2];simp [Ne.symm h.1]
 intro w
 refine (Tryz.strings_IndexByte (S s) c.toNat w).mono fun e w' ⟨h1,h2⟩=>⟨?_,h2.symm⟩
 rw [h1,← h0];simp [S]
theorem idx_sum (k:UInt8):∃ i:Int,decide (0≤i)= sumB k∧∀ w,Calls Tryz.prog 163 #[.string (S [33,63,126,43,48]),.int .u8 k.toNat] w fun e w'=>e = .returned (.int .i64 i)∧w = w':=by
 unfold sumB
 by_cases h:k∈([33,63,126,43,48]:Str)
 ·obtain ⟨i,h0,h1⟩:=idx_in _ k h
  exact ⟨i,by simp only [h,h0,decide_true],h1⟩
 ·exact ⟨-1,by simp only [h];decide,idx_out _ k h⟩
theorem kind_cell {P:Nat→Prop} {w:World} {t:Tm} {b:Nat} (h:Lies P w t b):w.cell? ⟨b,0,none⟩= some (.int .u8 t.kind.toNat):=by
 cases t with
 | zero=>obtain ⟨-,A,c,h⟩:=h;exact h.c0
 | un k x y p=>obtain ⟨-,g,c,n,pb,-,h,-⟩:=h;exact h.c0
 | bin k p q=>obtain ⟨-,g,c,n,pb,qb,-,h,-⟩:=h;exact h.c0
theorem gH_no (b:Nat) (k:UInt8) (w:World) (h0:w.cell? ⟨b,0,none⟩= some (.int .u8 k.toNat)) (hk:k≠43):Calls Tryz.prog 162 #[encP b] w fun e w'=>e = .returned (.bool true)∧w = w':=by
 have h1:=ne_int (d:=43) hk
 have h1':((k.toNat:Int)== 43)= false:=h1
 have h2:((k.toNat:Int) != 43)= true:=bne_of h1'
 go_enter Tryz.func162,Tryz.ntmps162
 go_wp2_with fail
 go_ret
 exact ⟨rfl,rfl⟩
theorem gH_43 (b g c pb qb:Nat) (kp kq:UInt8) (w:World) (h0:w.cell? ⟨b,0,none⟩= some (.int .u8 43)) (h3:w.cell? ⟨b,3,none⟩= some (.slice (some ⟨g,0,none⟩) 2 c))
  (hp:w.cell? ⟨g,0,none⟩= some (encP pb)) (hq:w.cell? ⟨g,1,none⟩= some (encP qb)) (kp0:w.cell? ⟨pb,0,none⟩= some (.int .u8 kp.toNat)) (kq0:w.cell? ⟨qb,0,none⟩= some (.int .u8 kq.toNat)):
  Calls Tryz.prog 162 #[encP b] w fun e w'=>e = .returned (.bool (sumB kp && sumB kq))∧w = w':=by
 obtain ⟨i,hi,ci⟩:=idx_sum kp
 obtain ⟨j,hj,cj⟩:=idx_sum kq
 have ci:=hide ci
 have cj:=hide cj
 rw [← hi,← hj]
 by_cases h1:(0:Int)≤i
 ·by_cases h2:(0:Int)≤j
  ·simp only [h1,h2,decide_true,Bool.and_true]
   clear hi hj
   go_enter Tryz.func162,Tryz.ntmps162
   go_wp2_with (first | (go_at_call 163;(with_reducible refine (ci.out _).mono ?_);rintro e w' ⟨rfl,rfl⟩) | (go_at_call 163;(with_reducible refine (cj.out _).mono ?_);rintro e w' ⟨rfl,rfl⟩))
   go_ret
   exact ⟨rfl,rfl⟩
  ·simp only [h1,h2,decide_true,decide_false,Bool.and_false]
   clear hi hj
   go_enter Tryz.func162,Tryz.ntmps162
   go_wp2_with (first | (go_at_call 163;(with_reducible refine (ci.out _).mono ?_);rintro e w' ⟨rfl,rfl⟩) | (go_at_call 163;(with_reducible refine (cj.out _).mono ?_);rintro e w' ⟨rfl,rfl⟩))
   go_ret
   exact ⟨by first | rfl | simp [h2],rfl⟩
 ·simp only [h1,decide_false,Bool.false_and]
  clear hi hj
  go_enter Tryz.func162,Tryz.ntmps162
  go_wp2_with (first | (go_at_call 163;(with_reducible refine (ci.out _).mono ?_);rintro e w' ⟨rfl,rfl⟩) | (go_at_call 163;(with_reducible refine (cj.out _).mono ?_);rintro e w' ⟨rfl,rfl⟩))
  go_ret
  exact ⟨rfl,rfl⟩
theorem iH_no (b:Nat) (k:UInt8) (w:World) (h0:w.cell? ⟨b,0,none⟩= some (.int .u8 k.toNat)) (hk:k≠42):Calls Tryz.prog 114 #[encP b] w fun e w'=>e = .returned (.bool true)∧w = w':=by
 have h1:=ne_int (d:=42) hk
 have h1':((k.toNat:Int)== 42)= false:=h1
 have h2:((k.toNat:Int) != 42)= true:=bne_of h1'
 go_enter Tryz.func114,Tryz.ntmps114
 go_wp2_with fail
 go_ret
 exact ⟨rfl,rfl⟩
theorem iH_42 (b g c pb:Nat) (kp:UInt8) (w:World) (h0:w.cell? ⟨b,0,none⟩= some (.int .u8 42)) (h3:w.cell? ⟨b,3,none⟩= some (.slice (some ⟨g,0,none⟩) 1 c))
  (hp:w.cell? ⟨g,0,none⟩= some (encP pb)) (kp0:w.cell? ⟨pb,0,none⟩= some (.int .u8 kp.toNat)):
  Calls Tryz.prog 114 #[encP b] w fun e w'=>e = .returned (.bool (decide (kp = 63)))∧w = w':=by
 have h63:((kp.toNat:Int)== 63)= decide (kp = 63):=by
  rw [Bool.eq_iff_iff]
  simp only [beq_iff_eq,decide_eq_true_eq]
  constructor
  ·intro h;exact UInt8.toNat_inj.1 (by show kp.toNat = 63;omega)
  ·intro h;rw [h];rfl
 go_enter Tryz.func114,Tryz.ntmps114
 go_wp2_with fail
 go_ret
 exact ⟨rfl,rfl⟩
theorem gH_c {P:Nat→Prop} (t:Tm) (b:Nat) (w:World) (h:Lies P w t b) (ht:t.ok smallB = true):Calls Tryz.prog 162 #[encP b] w fun e w'=>e = .returned (.bool (gH t))∧w = w':=by
 have h0:=kind_cell h
 cases t with
 | zero=>exact gH_no b 48 w h0 (by decide)
 | un k x y p=>
   simp only [Tm.ok,Bool.and_eq_true] at ht
   exact gH_no b k w h0 (okhd_ne ht.1).2.1
 | bin k p q=>
   simp only [Tm.ok,Bool.and_eq_true,Bool.or_eq_true,beq_iff_eq] at ht
   obtain ⟨-,g,c,n,pb,qb,-,hF,hK,hK2,hp,hq⟩:=h
   rcases ht.1 with rfl | rfl
   ·exact gH_43 b g c pb qb p.kind q.kind w hF.c0 hF.c3 hK.c hK2.c (kind_cell hp) (kind_cell hq)
   ·exact gH_no b 38 w h0 (by decide)
theorem iH_c {P:Nat→Prop} (t:Tm) (b:Nat) (w:World) (h:Lies P w t b) (ht:t.ok smallB = true):Calls Tryz.prog 114 #[encP b] w fun e w'=>e = .returned (.bool (iH t))∧w = w':=by
 have h0:=kind_cell h
 cases t with
 | zero=>exact iH_no b 48 w h0 (by decide)
 | un k x y p=>
   by_cases hk:k = 42
   ·subst hk
    obtain ⟨-,g,c,n,pb,-,hF,hK,hp⟩:=h
    exact iH_42 b g c pb p.kind w hF.c0 hF.c3 hK.c (kind_cell hp)
   ·have e:iH (.un k x y p)= true:=by simp [iH,hk]
    rw [e]
    exact iH_no b k w h0 hk
 | bin k p q=>
   simp only [Tm.ok,Bool.and_eq_true,Bool.or_eq_true,beq_iff_eq] at ht
   exact iH_no b k w h0 (by rcases ht.1 with rfl | rfl <;> decide)
theorem zero_bool (w:World):(zeroValue 4).run Tryz.prog w = .ok (.bool false) w:=by kernel_rfl
theorem sz_bool1:(Tryz.prog.info? 4).map (·.size)= some 1:=by kernel_rfl
abbrev Bo (w:World) (G:Nat) (b:Bool):Prop:=w.heap[G]? = some (.cells #[.bool b] 4 (0,0))
theorem Bo.else_ {w:World} {G:Nat} {b:Bool} (h:Bo w G b):Else w G:=by
 intro n T hs
 rw [blk_shape h] at hs
 obtain ⟨rfl,-⟩:=Prod.mk.inj (Option.some.inj hs)
 exact ⟨by decide,by decide⟩
theorem all1_gH (b G H:Nat) (bl r:Bool) (w:World) (hG:Bo w G bl) (hH:w.cell? ⟨H,0,none⟩= some (.func (.func 162) #[] #[]))
  (ch:Hid (∀ w',Bl w w'→Calls Tryz.prog 162 #[encP b] w' fun e w''=>e = .returned (.bool r)∧w' = w'')):
  Calls Tryz.prog 165 #[encP b,encP G,encP H] w fun e w'=>e = .returned (.tuple #[])∧Bo w' G (bl && r)∧Bx G w w':=by
 have g0:=blk_cell (i:=0) hG rfl
 have f0:=blk_free (i:=0) hG
 have HG:=hide hG
 clear hG
 cases bl
 ·go_enter Tryz.func165,Tryz.ntmps165
  go_wp2_with fail
  refine bodyPost_end (results_none rfl _ _ _) rfl ?_
  exact ⟨rfl,blk_set (i:=0) HG.out _,bx_set _ _ _ _⟩
 ·go_enter Tryz.func165,Tryz.ntmps165
  go_wp2_with ((go_at_call 162;(with_reducible refine (ch.out _ (Bl.refl _)).mono ?_);rintro e w' ⟨rfl,rfl⟩))
  refine bodyPost_end (results_none rfl _ _ _) rfl ?_
  exact ⟨rfl,by rw [Bool.true_and];exact blk_set (i:=0) HG.out _,bx_set _ _ _ _⟩
theorem each_zero_gH (b G H c:Nat) (A:Option Addr) (bl r:Bool) (w:World) (h3:w.cell? ⟨b,3,none⟩= some (.slice A 0 c)) (hne:b≠G)
  (c1:Hid (Calls Tryz.prog 165 #[encP b,encP G,encP H] w fun e w'=>e = .returned (.tuple #[])∧Bo w' G (bl && r)∧Bx G w w')):
  Calls Tryz.prog 164 #[encP b,.func (.func 165) #[] #[encP G,encP H]] w fun e w'=>e = .returned (.tuple #[])∧Bo w' G (bl && r)∧Bx G w w':=by
 go_enter Tryz.func164,Tryz.ntmps164
 go_wp2_with ((go_at_call 165;(with_reducible refine (c1.out).mono ?_);rintro e w1 ⟨rfl,g1,x1⟩;replace g1:=hide g1;replace h3:=x1.cell hne h3))
 refine wp_loop_rounds 1 ?_
 rw [rounds_succ]
 go_wp2_with fail
 refine bodyPost_end (results_none rfl _ _ _) rfl ?_
 exact ⟨rfl,g1.out,x1⟩
theorem each_un_gH (b G H g c pb:Nat) (bl r s:Bool) (w:World) (h3:w.cell? ⟨b,3,none⟩= some (.slice (some ⟨g,0,none⟩) 1 c)) (hp:w.cell? ⟨g,0,none⟩= some (encP pb)) (hne:b≠G∧g≠G)
  (c1:Hid (Calls Tryz.prog 165 #[encP b,encP G,encP H] w fun e w'=>e = .returned (.tuple #[])∧Bo w' G (bl && r)∧Bx G w w'))
  (c2:Hid (∀ w',Bo w' G (bl && r)→Bx G w w'→Calls Tryz.prog 164 #[encP pb,.func (.func 165) #[] #[encP G,encP H]] w' fun e w''=>e = .returned (.tuple #[])∧Bo w'' G ((bl && r) && s)∧Bx G w' w'')):
  Calls Tryz.prog 164 #[encP b,.func (.func 165) #[] #[encP G,encP H]] w fun e w'=>e = .returned (.tuple #[])∧Bo w' G (bl && (r && s))∧Bx G w w':=by
 go_enter Tryz.func164,Tryz.ntmps164
 go_wp2_with ((go_at_call 165;(with_reducible refine (c1.out).mono ?_);rintro e w1 ⟨rfl,g1,x1⟩;replace g1:=hide g1;replace x1:=hide x1;replace h3:=x1.out.cell hne.1 h3;replace hp:=x1.out.cell hne.2 hp))
 refine wp_loop_rounds 2 ?_
 rw [rounds_succ]
 go_wp2_with ((go_at_call 164;(with_reducible refine (c2.out _ g1.out x1.out).mono ?_);rintro e w2 ⟨rfl,g2,x2⟩;replace g2:=hide g2))
 rw [rounds_succ]
 go_wp2_with fail
 refine bodyPost_end (results_none rfl _ _ _) rfl ?_
 exact ⟨rfl,by rw [← Bool.and_assoc];exact g2.out,x1.out.trans x2⟩
theorem each_bin_gH (b G H g c pb qb:Nat) (bl r s u:Bool) (w:World) (h3:w.cell? ⟨b,3,none⟩= some (.slice (some ⟨g,0,none⟩) 2 c)) (hp:w.cell? ⟨g,0,none⟩= some (encP pb)) (hq:w.cell? ⟨g,1,none⟩= some (encP qb)) (hne:b≠G∧g≠G)
  (c1:Hid (Calls Tryz.prog 165 #[encP b,encP G,encP H] w fun e w'=>e = .returned (.tuple #[])∧Bo w' G (bl && r)∧Bx G w w'))
  (c2:Hid (∀ w',Bo w' G (bl && r)→Bx G w w'→Calls Tryz.prog 164 #[encP pb,.func (.func 165) #[] #[encP G,encP H]] w' fun e w''=>e = .returned (.tuple #[])∧Bo w'' G ((bl && r) && s)∧Bx G w' w''))
  (c3:Hid (∀ w',Bo w' G ((bl && r) && s)→Bx G w w'→Calls Tryz.prog 164 #[encP qb,.func (.func 165) #[] #[encP G,encP H]] w' fun e w''=>e = .returned (.tuple #[])∧Bo w'' G (((bl && r) && s) && u)∧Bx G w' w'')):
  Calls Tryz.prog 164 #[encP b,.func (.func 165) #[] #[encP G,encP H]] w fun e w'=>e = .returned (.tuple #[])∧Bo w' G (bl && ((r && s) && u))∧Bx G w w':=by
 go_enter Tryz.func164,Tryz.ntmps164
 go_wp2_with ((go_at_call 165;(with_reducible refine (c1.out).mono ?_);rintro e w1 ⟨rfl,g1,x1⟩;replace g1:=hide g1;replace x1:=hide x1;replace h3:=x1.out.cell hne.1 h3;replace hp:=x1.out.cell hne.2 hp;replace hq:=x1.out.cell hne.2 hq))
 refine wp_loop_rounds 3 ?_
 rw [rounds_succ]
 go_wp2_with ((go_at_call 164;(with_reducible refine (c2.out _ g1.out x1.out).mono ?_);rintro e w2 ⟨rfl,g2,x2⟩;replace g2:=hide g2;replace hq:=x2.cell hne.2 hq;replace x2:=hide (x1.out.trans x2)))
 rw [rounds_succ]
 go_wp2_with ((go_at_call 164;(with_reducible refine (c3.out _ g2.out x2.out).mono ?_);rintro e w3 ⟨rfl,g3,x3⟩;replace g3:=hide g3))
 rw [rounds_succ]
 go_wp2_with fail
 refine bodyPost_end (results_none rfl _ _ _) rfl ?_
 exact ⟨rfl,by rw [← Bool.and_assoc,← Bool.and_assoc];exact g3.out,x2.out.trans x3⟩
theorem each_gH (G H:Nat) (hGH:H≠G) {P:Nat→Prop}:∀ (t:Tm) (b:Nat) (bl:Bool) (w:World),Lies P w t b→t.ok smallB = true→Bo w G bl→w.cell? ⟨H,0,none⟩= some (.func (.func 162) #[] #[])→
  Calls Tryz.prog 164 #[encP b,.func (.func 165) #[] #[encP G,encP H]] w fun e w'=>e = .returned (.tuple #[])∧Bo w' G (bl && allT gH t)∧Bx G w w':=by
 intro t
 induction t with
 | zero=>
   intro b bl w hL hk hG hH
   have c1:=hide (all1_gH b G H bl (gH .zero) w hG hH (hide fun w' hb=>gH_c .zero b w' (hL.bl hb) hk))
   obtain ⟨-,A,c,hF⟩:=hL
   exact each_zero_gH b G H c A bl _ w hF.c3 (by rintro rfl;exact (hG.else_ _ _ hF.sh).1 rfl) c1
 | un k x y p ih=>
   intro b bl w hL hk hG hH
   have c1:=hide (all1_gH b G H bl (gH (.un k x y p)) w hG hH (hide fun w' hb=>gH_c _ b w' (hL.bl hb) hk))
   obtain ⟨-,g,c,n,pb,-,hF,hK,hp⟩:=hL
   simp only [Tm.ok,Bool.and_eq_true] at hk
   exact each_un_gH b G H g c pb bl _ _ w hF.c3 hK.c ⟨by rintro rfl;exact (hG.else_ _ _ hF.sh).1 rfl,by rintro rfl;exact (hG.else_ _ _ hK.sh).2 rfl⟩ c1 (hide fun w' h1 h2=>ih pb _ w' (hp.bx h2 hG.else_) hk.2 h1 (h2.cell hGH hH))
 | bin k p q ih1 ih2=>
   intro b bl w hL hk hG hH
   have c1:=hide (all1_gH b G H bl (gH (.bin k p q)) w hG hH (hide fun w' hb=>gH_c _ b w' (hL.bl hb) hk))
   obtain ⟨-,g,c,n,pb,qb,-,hF,hK,hK2,hp,hq⟩:=hL
   simp only [Tm.ok,Bool.and_eq_true] at hk
   exact each_bin_gH b G H g c pb qb bl _ _ _ w hF.c3 hK.c hK2.c ⟨by rintro rfl;exact (hG.else_ _ _ hF.sh).1 rfl,by rintro rfl;exact (hG.else_ _ _ hK.sh).2 rfl⟩ c1 (hide fun w' h1 h2=>ih1 pb _ w' (hp.bx h2 hG.else_) hk.2.1 h1 (h2.cell hGH hH)) (hide fun w' h1 h2=>ih2 qb _ w' (hq.bx h2 hG.else_) hk.2.2 h1 (h2.cell hGH hH))
theorem all_gH {P:Nat→Prop} (t:Tm) (b:Nat) (w:World) (hL:Lies P w t b) (hk:t.ok smallB = true):
  Calls Tryz.prog 113 #[encP b,.func (.func 162) #[] #[]] w fun e w'=>e = .returned (.bool (allT gH t))∧Bl w w':=by
 have HL:=hide hL
 have HK:=hide hk
 clear hL hk
 go_enter Tryz.func113,Tryz.ntmps113
 go_wp2_with (first | (refine box_op rfl 120 (.tmp 1) rfl #[.func (.func 162) #[] #[]] _ rfl (by rfl) ?_;intro H W1 hH b1 s1) | (refine alloc_op rfl 4 rfl (.bool false) zero_bool ?_;intro G W2 hG b2 s2) | (refine store_op rfl 4 (.tmp 5) (.const (.bool true)) rfl G 0 4 #[.bool false] (.bool true) rfl rfl sz_bool1 rfl rfl hG (show 0 < 1 by decide) ?_;intro W3 hG3 b3 s3))
 have hGH:Hid (H≠G):=by unfold Hid;have h1:=s1.out;have h2:=s2.out;omega
 have hG3:Bo W3 G true:=hG3
 have HG:=hide hG3
 have hH3:Hid (W3.cell? ⟨H,0,none⟩= some (.func (.func 162) #[] #[])):=b3.cell hGH.out (cell_kept b2 (blk_cell (i:=0) hH rfl))
 have bw:Hid (Bl w W3):=Fx.bl' (b1.trans b2) (.of_bx b3) (fun k hk=>by subst hk;have h1:=s1.out;have h2:=s2.out;omega)
 have hGw:Hid (w.heap.size≤G):=by unfold Hid;have h1:=s1.out;have h2:=s2.out;omega
 have hL3:=hide (HL.out.bl bw.out)
 clear hH hG hG3 b1 b2 b3 s1 s2 s3
 go_wp2_with ((go_at_call 164;(with_reducible refine (each_gH G H hGH.out t b true W3 hL3.out HK.out HG.out hH3.out).mono ?_);rintro e W4 ⟨rfl,g4,x4⟩;have g0:W4.cell? ⟨G,0,none⟩= some (.bool (true && allT gH t)):=blk_cell (i:=0) g4 rfl))
 go_ret
 exact ⟨rfl,Fx.bl' bw.out (.of_bx x4) (fun k hk=>by subst hk;exact hGw.out)⟩
theorem all1_iH (b G H:Nat) (bl r:Bool) (w:World) (hG:Bo w G bl) (hH:w.cell? ⟨H,0,none⟩= some (.func (.func 114) #[] #[]))
  (ch:Hid (∀ w',Bl w w'→Calls Tryz.prog 114 #[encP b] w' fun e w''=>e = .returned (.bool r)∧w' = w'')):
  Calls Tryz.prog 165 #[encP b,encP G,encP H] w fun e w'=>e = .returned (.tuple #[])∧Bo w' G (bl && r)∧Bx G w w':=by
 have g0:=blk_cell (i:=0) hG rfl
 have f0:=blk_free (i:=0) hG
 have HG:=hide hG
 clear hG
 cases bl
 ·go_enter Tryz.func165,Tryz.ntmps165
  go_wp2_with fail
  refine bodyPost_end (results_none rfl _ _ _) rfl ?_
  exact ⟨rfl,blk_set (i:=0) HG.out _,bx_set _ _ _ _⟩
 ·go_enter Tryz.func165,Tryz.ntmps165
  go_wp2_with ((go_at_call 114;(with_reducible refine (ch.out _ (Bl.refl _)).mono ?_);rintro e w' ⟨rfl,rfl⟩))
  refine bodyPost_end (results_none rfl _ _ _) rfl ?_
  exact ⟨rfl,by rw [Bool.true_and];exact blk_set (i:=0) HG.out _,bx_set _ _ _ _⟩
theorem each_zero_iH (b G H c:Nat) (A:Option Addr) (bl r:Bool) (w:World) (h3:w.cell? ⟨b,3,none⟩= some (.slice A 0 c)) (hne:b≠G)
  (c1:Hid (Calls Tryz.prog 165 #[encP b,encP G,encP H] w fun e w'=>e = .returned (.tuple #[])∧Bo w' G (bl && r)∧Bx G w w')):
  Calls Tryz.prog 164 #[encP b,.func (.func 165) #[] #[encP G,encP H]] w fun e w'=>e = .returned (.tuple #[])∧Bo w' G (bl && r)∧Bx G w w':=by
 go_enter Tryz.func164,Tryz.ntmps164
 go_wp2_with ((go_at_call 165;(with_reducible refine (c1.out).mono ?_);rintro e w1 ⟨rfl,g1,x1⟩;replace g1:=hide g1;replace h3:=x1.cell hne h3))
 refine wp_loop_rounds 1 ?_
 rw [rounds_succ]
 go_wp2_with fail
 refine bodyPost_end (results_none rfl _ _ _) rfl ?_
 exact ⟨rfl,g1.out,x1⟩
theorem each_un_iH (b G H g c pb:Nat) (bl r s:Bool) (w:World) (h3:w.cell? ⟨b,3,none⟩= some (.slice (some ⟨g,0,none⟩) 1 c)) (hp:w.cell? ⟨g,0,none⟩= some (encP pb)) (hne:b≠G∧g≠G)
  (c1:Hid (Calls Tryz.prog 165 #[encP b,encP G,encP H] w fun e w'=>e = .returned (.tuple #[])∧Bo w' G (bl && r)∧Bx G w w'))
  (c2:Hid (∀ w',Bo w' G (bl && r)→Bx G w w'→Calls Tryz.prog 164 #[encP pb,.func (.func 165) #[] #[encP G,encP H]] w' fun e w''=>e = .returned (.tuple #[])∧Bo w'' G ((bl && r) && s)∧Bx G w' w'')):
  Calls Tryz.prog 164 #[encP b,.func (.func 165) #[] #[encP G,encP H]] w fun e w'=>e = .returned (.tuple #[])∧Bo w' G (bl && (r && s))∧Bx G w w':=by
 go_enter Tryz.func164,Tryz.ntmps164
 go_wp2_with ((go_at_call 165;(with_reducible refine (c1.out).mono ?_);rintro e w1 ⟨rfl,g1,x1⟩;replace g1:=hide g1;replace x1:=hide x1;replace h3:=x1.out.cell hne.1 h3;replace hp:=x1.out.cell hne.2 hp))
 refine wp_loop_rounds 2 ?_
 rw [rounds_succ]
 go_wp2_with ((go_at_call 164;(with_reducible refine (c2.out _ g1.out x1.out).mono ?_);rintro e w2 ⟨rfl,g2,x2⟩;replace g2:=hide g2))
 rw [rounds_succ]
 go_wp2_with fail
 refine bodyPost_end (results_none rfl _ _ _) rfl ?_
 exact ⟨rfl,by rw [← Bool.and_assoc];exact g2.out,x1.out.trans x2⟩
theorem each_bin_iH (b G H g c pb qb:Nat) (bl r s u:Bool) (w:World) (h3:w.cell? ⟨b,3,none⟩= some (.slice (some ⟨g,0,none⟩) 2 c)) (hp:w.cell? ⟨g,0,none⟩= some (encP pb)) (hq:w.cell? ⟨g,1,none⟩= some (encP qb)) (hne:b≠G∧g≠G)
  (c1:Hid (Calls Tryz.prog 165 #[encP b,encP G,encP H] w fun e w'=>e = .returned (.tuple #[])∧Bo w' G (bl && r)∧Bx G w w'))
  (c2:Hid (∀ w',Bo w' G (bl && r)→Bx G w w'→Calls Tryz.prog 164 #[encP pb,.func (.func 165) #[] #[encP G,encP H]] w' fun e w''=>e = .returned (.tuple #[])∧Bo w'' G ((bl && r) && s)∧Bx G w' w''))
  (c3:Hid (∀ w',Bo w' G ((bl && r) && s)→Bx G w w'→Calls Tryz.prog 164 #[encP qb,.func (.func 165) #[] #[encP G,encP H]] w' fun e w''=>e = .returned (.tuple #[])∧Bo w'' G (((bl && r) && s) && u)∧Bx G w' w'')):
  Calls Tryz.prog 164 #[encP b,.func (.func 165) #[] #[encP G,encP H]] w fun e w'=>e = .returned (.tuple #[])∧Bo w' G (bl && ((r && s) && u))∧Bx G w w':=by
 go_enter Tryz.func164,Tryz.ntmps164
 go_wp2_with ((go_at_call 165;(with_reducible refine (c1.out).mono ?_);rintro e w1 ⟨rfl,g1,x1⟩;replace g1:=hide g1;replace x1:=hide x1;replace h3:=x1.out.cell hne.1 h3;replace hp:=x1.out.cell hne.2 hp;replace hq:=x1.out.cell hne.2 hq))
 refine wp_loop_rounds 3 ?_
 rw [rounds_succ]
 go_wp2_with ((go_at_call 164;(with_reducible refine (c2.out _ g1.out x1.out).mono ?_);rintro e w2 ⟨rfl,g2,x2⟩;replace g2:=hide g2;replace hq:=x2.cell hne.2 hq;replace x2:=hide (x1.out.trans x2)))
 rw [rounds_succ]
 go_wp2_with ((go_at_call 164;(with_reducible refine (c3.out _ g2.out x2.out).mono ?_);rintro e w3 ⟨rfl,g3,x3⟩;replace g3:=hide g3))
 rw [rounds_succ]
 go_wp2_with fail
 refine bodyPost_end (results_none rfl _ _ _) rfl ?_
 exact ⟨rfl,by rw [← Bool.and_assoc,← Bool.and_assoc];exact g3.out,x2.out.trans x3⟩
theorem each_iH (G H:Nat) (hGH:H≠G) {P:Nat→Prop}:∀ (t:Tm) (b:Nat) (bl:Bool) (w:World),Lies P w t b→t.ok smallB = true→Bo w G bl→w.cell? ⟨H,0,none⟩= some (.func (.func 114) #[] #[])→
  Calls Tryz.prog 164 #[encP b,.func (.func 165) #[] #[encP G,encP H]] w fun e w'=>e = .returned (.tuple #[])∧Bo w' G (bl && allT iH t)∧Bx G w w':=by
 intro t
 induction t with
 | zero=>
   intro b bl w hL hk hG hH
   have c1:=hide (all1_iH b G H bl (iH .zero) w hG hH (hide fun w' hb=>iH_c .zero b w' (hL.bl hb) hk))
   obtain ⟨-,A,c,hF⟩:=hL
   exact each_zero_iH b G H c A bl _ w hF.c3 (by rintro rfl;exact (hG.else_ _ _ hF.sh).1 rfl) c1
 | un k x y p ih=>
   intro b bl w hL hk hG hH
   have c1:=hide (all1_iH b G H bl (iH (.un k x y p)) w hG hH (hide fun w' hb=>iH_c _ b w' (hL.bl hb) hk))
   obtain ⟨-,g,c,n,pb,-,hF,hK,hp⟩:=hL
   simp only [Tm.ok,Bool.and_eq_true] at hk
   exact each_un_iH b G H g c pb bl _ _ w hF.c3 hK.c ⟨by rintro rfl;exact (hG.else_ _ _ hF.sh).1 rfl,by rintro rfl;exact (hG.else_ _ _ hK.sh).2 rfl⟩ c1 (hide fun w' h1 h2=>ih pb _ w' (hp.bx h2 hG.else_) hk.2 h1 (h2.cell hGH hH))
 | bin k p q ih1 ih2=>
   intro b bl w hL hk hG hH
   have c1:=hide (all1_iH b G H bl (iH (.bin k p q)) w hG hH (hide fun w' hb=>iH_c _ b w' (hL.bl hb) hk))
   obtain ⟨-,g,c,n,pb,qb,-,hF,hK,hK2,hp,hq⟩:=hL
   simp only [Tm.ok,Bool.and_eq_true] at hk
   exact each_bin_iH b G H g c pb qb bl _ _ _ w hF.c3 hK.c hK2.c ⟨by rintro rfl;exact (hG.else_ _ _ hF.sh).1 rfl,by rintro rfl;exact (hG.else_ _ _ hK.sh).2 rfl⟩ c1 (hide fun w' h1 h2=>ih1 pb _ w' (hp.bx h2 hG.else_) hk.2.1 h1 (h2.cell hGH hH)) (hide fun w' h1 h2=>ih2 qb _ w' (hq.bx h2 hG.else_) hk.2.2 h1 (h2.cell hGH hH))
theorem all_iH {P:Nat→Prop} (t:Tm) (b:Nat) (w:World) (hL:Lies P w t b) (hk:t.ok smallB = true):
  Calls Tryz.prog 113 #[encP b,.func (.func 114) #[] #[]] w fun e w'=>e = .returned (.bool (allT iH t))∧Bl w w':=by
 have HL:=hide hL
 have HK:=hide hk
 clear hL hk
 go_enter Tryz.func113,Tryz.ntmps113
 go_wp2_with (first | (refine box_op rfl 120 (.tmp 1) rfl #[.func (.func 114) #[] #[]] _ rfl (by rfl) ?_;intro H W1 hH b1 s1) | (refine alloc_op rfl 4 rfl (.bool false) zero_bool ?_;intro G W2 hG b2 s2) | (refine store_op rfl 4 (.tmp 5) (.const (.bool true)) rfl G 0 4 #[.bool false] (.bool true) rfl rfl sz_bool1 rfl rfl hG (show 0 < 1 by decide) ?_;intro W3 hG3 b3 s3))
 have hGH:Hid (H≠G):=by unfold Hid;have h1:=s1.out;have h2:=s2.out;omega
 have hG3:Bo W3 G true:=hG3
 have HG:=hide hG3
 have hH3:Hid (W3.cell? ⟨H,0,none⟩= some (.func (.func 114) #[] #[])):=b3.cell hGH.out (cell_kept b2 (blk_cell (i:=0) hH rfl))
 have bw:Hid (Bl w W3):=Fx.bl' (b1.trans b2) (.of_bx b3) (fun k hk=>by subst hk;have h1:=s1.out;have h2:=s2.out;omega)
 have hGw:Hid (w.heap.size≤G):=by unfold Hid;have h1:=s1.out;have h2:=s2.out;omega
 have hL3:=hide (HL.out.bl bw.out)
 clear hH hG hG3 b1 b2 b3 s1 s2 s3
 go_wp2_with ((go_at_call 164;(with_reducible refine (each_iH G H hGH.out t b true W3 hL3.out HK.out HG.out hH3.out).mono ?_);rintro e W4 ⟨rfl,g4,x4⟩;have g0:W4.cell? ⟨G,0,none⟩= some (.bool (true && allT iH t)):=blk_cell (i:=0) g4 rfl))
 go_ret
 exact ⟨rfl,Fx.bl' bw.out (.of_bx x4) (fun k hk=>by subst hk;exact hGw.out)⟩
theorem guarded_c {P:Nat→Prop} (t:Tm) (b:Nat) (w:World) (hL:Lies P w t b) (hk:t.ok smallB = true):Calls Tryz.prog 112 #[encP b] w fun e w'=>e = .returned (.bool (grdT t))∧Bl w w':=by
 have c1:=hide (all_gH t b w hL hk)
 rw [allT_g] at c1
 go_enter Tryz.func112,Tryz.ntmps112
 go_wp2_with ((go_at_call 113;(with_reducible refine (c1.out).mono ?_);rintro e w' ⟨rfl,b1⟩))
 go_ret
 exact ⟨rfl,b1⟩
theorem simple_c {P:Nat→Prop} (t:Tm) (b:Nat) (w:World) (hL:Lies P w t b) (hk:t.ok smallB = true):Calls Tryz.prog 65 #[encP b] w fun e w'=>e = .returned (.bool (smpB t))∧Bl w w':=by
 have c1:=hide (guarded_c t b w hL hk)
 have c2:=hide fun w' (hb:Bl w w')=>all_iH t b w' (hL.bl hb) hk
 unfold smpB
 simp only [allT_i] at c2
 clear hL hk
 generalize grdT t = x at *
 generalize inpT t = y at *
 cases x
 ·go_enter Tryz.func65,Tryz.ntmps65
  go_wp2_with ((go_at_call 112;(with_reducible refine (c1.out).mono ?_);rintro e w' ⟨rfl,b1⟩))
  go_ret
  exact ⟨rfl,b1⟩
 ·go_enter Tryz.func65,Tryz.ntmps65
  go_wp2_with (first | (go_at_call 112;(with_reducible refine (c1.out).mono ?_);rintro e w' ⟨rfl,b1⟩) | (go_at_call 113;(with_reducible refine (c2.out _ b1).mono ?_);rintro e w' ⟨rfl,b2⟩))
  go_ret
  exact ⟨rfl,b1.trans b2⟩
end Go.Proofs.YtbibkgcbdnldbaaGreat
namespace Go.Proofs.YtbibkgcbdnldbaaGreat
open Go.RowKit
attribute [local go_sem] S_size S_toList S_lit S_get S_extract S_append drop_all
abbrev Stt (w:World) (st n:Nat) (s:Str) (l:Nat):Prop:=w.heap[st]? = some (.cells #[.int .i64 n,.string (S s),encP l] 77 (0,0))
abbrev stTs (cs:Str) (vs:List Tm):List Ts:=(thS cs vs).map (fun s=>(lv s).2)
structure StM (w:World) (base st n:Nat) (cs:Str) (vs:List Tm):Prop where
 bs:base≤st
 ex:∃ s l,Stt w st n s l∧Lies2 (fun k=>base≤k∧k≠st) w (frO cs) (cat (stTs cs vs)) l
theorem StM.bl {w w':World} {base st n:Nat} {cs:Str} {vs:List Tm} (h:StM w base st n cs vs) (hb:Bl w w'):StM w' base st n cs vs:=by
 obtain ⟨h1,s,l,h2,h3⟩:=h
 exact ⟨h1,s,l,blk_bl hb h2,h3.bl hb⟩
theorem StM.mono {w:World} {base b2 st n:Nat} {cs:Str} {vs:List Tm} (h:StM w base st n cs vs) (hb:b2≤base):StM w b2 st n cs vs:=by
 obtain ⟨h1,s,l,h2,h3⟩:=h
 exact ⟨by omega,s,l,h2,h3.mono (fun k hk _=>⟨by omega,hk.2⟩)⟩
theorem open_core (l:Str) (t:Tm) (w:World) (hk:t.ok smallB = true) (hz:t.size≤1000)
  (cp:Hid (Calls Tryz.prog 90 #[.string (S l)] w fun e w'=>∃ b,e = .returned (.tuple #[encP b,.bool true])∧Lies (fun k=>w.heap.size≤k) w' t b∧Bl w w')):
  Calls Tryz.prog 75 #[.string (S l)] w fun e w'=>∃ st lb,e = .returned (encP st)∧w.heap.size≤st∧Stt w' st t.cnt l lb∧Lies2 (fun k=>w.heap.size≤k∧k≠st) w' (tidO (rawO t) (rawT t)) (rawT t).tid.2 lb∧Bl w w':=by
 have ce:=hide fun w=>everyName_c w
 obtain ⟨r1,r2,-⟩:=raw_ok hk hz
 have HR:=hide (And.intro r1 r2)
 have HK:=hide hk
 have HZ:=hide hz
 clear r1 r2 hk hz
 go_enter Tryz.func75,Tryz.ntmps75
 go_wp2_with (first | (go_at_call 90;(with_reducible refine (cp.out).mono ?_);rintro e W1 ⟨b,rfl,hL1,b1⟩;replace hL1:=hide hL1;have z1:=hide (Below.size b1);replace b1:=hide b1) | (refine box_op rfl 77 (.tmp 12) rfl #[.int .i64 (0:Nat),.string (S l),.pointer none] _ rfl (by rfl) ?_;intro st W2 hS b2 s2;replace hL1:=hide (hL1.out.bl b2);replace b1:=hide (b1.out.trans b2);replace hS:=hide hS))
 have hM2:Hid (Mkr [.string (S l),.pointer none] 77 W2 st 0):=hS.out
 have hst:Hid (w.heap.size≤st):=by have h1:=s2.out;have h2:=z1.out;unfold Hid;omega
 have hst2:Hid (st < W2.heap.size):=by have h1:=s2.out;unfold Hid;omega
 clear b2 s2 hS
 refine AnyT.start 11 (fun _=>True) (fun j=>[10].contains j) (by kernel_rfl) (by rfl) ?_
 have hHeld:(fun _:World=>True) W2.drew:=trivial
 have b3:Hid (Bl w W2.drew):=bl_drew b1.out
 have hM3:Hid (Mkr [.string (S l),.pointer none] 77 W2.drew st 0):=hM2.out
 have hL3:=hide (Lies.drew hL1.out)
 have hst3:Hid (st < W2.drew.heap.size):=hst2.out
 clear b1 hM2 hL1 hst2
 generalize W2.drew = W3 at *
 refine AnyT.tk 0 ?_
 refine AnyT.tk 1 ?_
 refine AnyT.tk 2 ?_
 refine AnyT.tk 3 ?_
 refine AnyT.tk 4 ?_
 try simp only [Act.put,sqa,sqb,sqc]
 refine AnyT.one (i:=5) rfl (by kernel_rfl) (fun K hK=>?_)
 go_simp
 go_at_call 92
 (with_reducible refine (ce.out _).mono ?_)
 rintro e W4 ⟨rfl,b4⟩
 have hM4:=hide (blk_bl b4 hM3.out);have hL4:=hide (hL3.out.bl b4);have b4w:=hide (b3.out.trans b4)
 go_wp2_with fail
 refine hK.out _ _ ?_ ?_
 ·exact trivial
 intro hHeld
 clear hK K
 try simp only [Act.put,sqa,sqb,sqc]
 refine AnyT.one (i:=6) rfl (by kernel_rfl) (fun K hK=>?_)
 go_simp
 go_at_call 91
 (with_reducible refine (raw_c (X:=[.string (S l),.pointer none]) (T:=77) (by decide) st t HK.out numE 0 _ b W4 hL4.out hM4.out (by have:=HZ.out;omega)).mono ?_)
 rintro e W5 ⟨lb,rfl,hr5,hM5,x5⟩
 replace hr5:=hide hr5;replace hM5:=hide hM5;replace x5:=hide x5
 go_wp2_with fail
 refine hK.out _ _ ?_ ?_
 ·exact trivial
 intro hHeld
 clear hK K
 try simp only [Act.put,sqa,sqb,sqc]
 have b5w:Hid (Bl w W5):=Fx.bl' b4w.out (.of_bx x5.out) (fun k hk=>by subst hk;exact hst.out)
 refine AnyT.one (i:=7) rfl (by kernel_rfl) (fun K hK=>?_)
 go_simp
 go_at_call 93
 (with_reducible refine (tidied_c (rawO t) (rawT t) HR.out.1 HR.out.2 _ lb W5 hr5.out).mono ?_)
 rintro e W6 ⟨lt,rfl,ht6,b6⟩
 replace ht6:=hide ht6;have hM6:=hide (blk_bl b6 hM5.out);replace b6:=hide b6
 go_wp2_with fail
 refine hK.out _ _ ?_ ?_
 ·exact trivial
 intro hHeld
 clear hK K
 try simp only [Act.put,sqa,sqb,sqc]
 refine AnyT.tk 8 ?_
 refine AnyT.tk 9 ?_
 try simp only [Act.put,sqa,sqb,sqc]
 refine AnyT.tail (i:=10) rfl (by kernel_rfl) (by rfl) (fun K hK=>?_)
 (refine wanted_wp rfl (wp_store1 75 (.tmp 23) (.tmp 21) rfl st 2 77 _ (encP lt) rfl rfl sz_lev rfl rfl hM6.out (show 2 < 3 by decide) ?_);intro W7 hS7 x7 s7)
 refine hK.out _ _ ?_
 clear hK K
 try simp only [Act.put,sqa,sqb,sqc]
 refine AnyT.done (by kernel_rfl) ?_
 have b6w:=b5w.out.trans b6.out
 have h54:st < W5.heap.size:=lt_of_block hM5.out
 have hl7:Lies2 (fun k=>w.heap.size≤k∧k≠st) W7 (tidO (rawO t) (rawT t)) (rawT t).tid.2 lt:=(ht6.out.fx (.of_bx x7) (fun k hk e=>by subst e;omega)).mono (fun k hk _=>⟨by have:=Below.size b5w.out;omega,by omega⟩)
 have b7w:Bl w W7:=Fx.bl' b6w (.of_bx x7) (fun k hk=>by subst hk;exact hst.out)
 have HS7:Hid (Stt W7 st t.cnt l lt):=by
  have e:0 + t.cnt = t.cnt:=Nat.zero_add _
  rw [e] at hS7
  exact hS7
 have HL7:=hide hl7
 have HB7:=hide b7w
 clear hS7 hl7 b7w b6w
 go_wp2_with fail
 go_ret
 exact ⟨st,lt,rfl,hst.out,HS7.out,HL7.out,HB7.out⟩
theorem open_c {u:Tm} {cs:Str} {vs:List Tm} (h:Std u cs vs) (hl:(txt u).length≤300) (w:World):
  Calls Tryz.prog 75 #[.string (S (txt u))] w fun e w'=>∃ st,e = .returned (encP st)∧StM w' w.heap.size st u.cnt cs vs∧(∃ lb,Stt w' st u.cnt (txt u) lb)∧Bl w w':=by
 obtain ⟨e1,-,e3⟩:=open_lv h
 have e4:=Prod.mk.inj (e1.trans e3)
 refine (open_core (txt u) u w h.nor.ok (by have:=h.nor.sz;omega) (hide (parse_t u w (short_of (by omega)) h.nor.ok))).mono ?_
 rintro e w' ⟨st,lb,rfl,h1,h2,h3,h4⟩
 rw [e4.1,e4.2] at h3
 exact ⟨st,rfl,⟨h1,_,lb,h2,h3⟩,⟨lb,h2⟩,h4⟩
theorem stateOf_no (l:Str) (hs:Short l) (h:startT l = none) (w:World):Calls Tryz.prog 57 #[.string (S l)] w fun e w'=>e = .returned (.tuple #[.pointer none,.bool false])∧Bl w w':=by
 have cr:=hide fun w=>read_b l w hs
 unfold startT at h
 cases hp:proc? l with
 | none=>
   rw [hp] at cr
   clear h hp hs
   go_enter Tryz.func57,Tryz.ntmps57
   go_wp2_with ((go_at_call 63;(with_reducible refine (cr.out _).mono ?_);rintro e W1 ⟨p,rfl,b1⟩))
   go_ret2
   exact ⟨rfl,b1⟩
 | some t=>
   rw [hp] at h
   obtain ⟨rfl,h2,h3,h4⟩:=proc_ok hp
   have cr:=hide fun w=>read_s (txt t) t w hs hp
   have cs:=hide fun (P:Nat→Prop) b w (hL:Lies P w t b)=>simple_c t b w hL h2
   have cn:=hide fun (P:Nat→Prop) b w (hL:Lies P w t b)=>tnormal_c t P b w hL h2 (by omega)
   simp only at h
   clear hp h3 h4 h2 hs
   generalize smpB t = x at *
   generalize nfR t = r at *
   generalize txt t = l at *
   cases x
   ·clear h
    go_enter Tryz.func57,Tryz.ntmps57
    go_wp2_with (first | (go_at_call 63;(with_reducible refine (cr.out _).mono ?_);rintro e W1 ⟨b,rfl,hL,b1⟩;replace hL:=hide hL) | (go_at_call 65;(with_reducible refine (cs.out _ _ _ hL.out).mono ?_);rintro e W2 ⟨rfl,b2⟩))
    go_ret2
    exact ⟨rfl,b1.trans b2⟩
   ·rw [if_pos rfl] at h
    subst h
    unfold optV at cn
    go_enter Tryz.func57,Tryz.ntmps57
    go_wp2_with (first | (go_at_call 63;(with_reducible refine (cr.out _).mono ?_);rintro e W1 ⟨b,rfl,hL,b1⟩;replace hL:=hide hL) | (go_at_call 65;(with_reducible refine (cs.out _ _ _ hL.out).mono ?_);rintro e W2 ⟨rfl,b2⟩;replace hL:=hide (hL.out.bl b2)) | (go_at_call 66;(with_reducible refine (cn.out _ _ _ hL.out).mono ?_);rintro e W3 ⟨rfl,b3⟩))
    go_ret2
    exact ⟨rfl,(b1.trans b2).trans b3⟩
theorem stateOf_yes {u:Tm} {cs:Str} {vs:List Tm} (l:Str) (hs:Short l) (h:startT l = some (txt u)) (H:Std u cs vs) (hl:(txt u).length≤300) (w:World):
  Calls Tryz.prog 57 #[.string (S l)] w fun e w'=>∃ st,e = .returned (.tuple #[encP st,.bool true])∧StM w' w.heap.size st u.cnt cs vs∧(∃ lb,Stt w' st u.cnt (txt u) lb)∧Bl w w':=by
 have co:=hide fun w=>open_c H hl w
 unfold startT at h
 cases hp:proc? l with
 | none=>rw [hp] at h;cases h
 | some t=>
   rw [hp] at h
   obtain ⟨rfl,h2,h3,h4⟩:=proc_ok hp
   have cr:=hide fun w=>read_s (txt t) t w hs hp
   have cs':=hide fun (P:Nat→Prop) b w (hL:Lies P w t b)=>simple_c t b w hL h2
   have cn:=hide fun (P:Nat→Prop) b w (hL:Lies P w t b)=>tnormal_c t P b w hL h2 (by omega)
   simp only at h
   have hx:smpB t = true:=by
    cases hb:smpB t with
    | true=>rfl
    | false=>rw [hb] at h;cases h
   rw [hx] at cs' h
   rw [if_pos rfl] at h
   rw [h] at cn
   unfold optV at cn
   clear hp h3 h4 h2 hs h hx hl H
   generalize txt t = l at *
   generalize txt u = s at *
   generalize u.cnt = n at *
   go_enter Tryz.func57,Tryz.ntmps57
   go_wp2_with (first | (go_at_call 63;(with_reducible refine (cr.out _).mono ?_);rintro e W1 ⟨b,rfl,hL,b1⟩;replace hL:=hide hL) | (go_at_call 65;(with_reducible refine (cs'.out _ _ _ hL.out).mono ?_);rintro e W2 ⟨rfl,b2⟩;replace hL:=hide (hL.out.bl b2)) | (go_at_call 66;(with_reducible refine (cn.out _ _ _ hL.out).mono ?_);rintro e W3 ⟨rfl,b3⟩) | (go_at_call 75;(with_reducible refine (co.out _).mono ?_);rintro e W4 ⟨st,rfl,hS4,hT4,b4⟩;replace hS4:=hide hS4;replace hT4:=hide hT4))
   go_ret2
   have b3w:=(b1.trans b2).trans b3
   exact ⟨st,rfl,hS4.out.mono (Below.size b3w),hT4.out,b3w.trans b4⟩
end Go.Proofs.YtbibkgcbdnldbaaGreat
namespace Go.Proofs.YtbibkgcbdnldbaaGreat
open Go.RowKit
attribute [local go_sem] S_size S_toList S_lit S_get S_extract S_append drop_all
def encN (y:OfN × Nat):List Value:=[.int .u8 y.1.k.toNat,.int .i64 y.1.a,.int .i64 y.1.b,encP y.2,.bool y.1.st]
theorem encN_len (x:OfN × Nat):(encN x).length = 5:=rfl
theorem encN_one (x:OfN × Nat):∀ u∈encN x,u.oneCell' = true:=by
 intro u hu
 simp only [encN,List.mem_cons,List.not_mem_nil,or_false] at hu
 rcases hu with rfl | rfl | rfl | rfl | rfl <;> rfl
theorem rowOfN:RowK 110 107 (.agg #[.int .u8 0,.int .i64 0,.int .i64 0,.pointer none,.bool false]) 5 40:=
 ⟨Tryz.underlying107,by kernel_rfl,rfl,by decide,by decide⟩
def OfM (P:Nat→Prop) (w:World) (base:Nat) (v:Value) (ys:List OfN):Prop:=∃ zs:List (OfN × Nat),zs.map (·.1)= ys∧RK 110 5 encN w base v zs∧∀ z∈zs,Lies2 P w z.1.o z.1.r z.2
def MkOm (P:Nat→Prop) (w:World) (ys:List OfN) (e:Ending) (w':World):Prop:=∃ v,e = .returned v∧OfM P w' w.heap.size v ys∧Bl w w'
theorem off_pre {P:Nat→Prop} (p:Nat) (k:UInt8) (a b lb:Nat) (o:List Nat) (r:Ts) (w:World) (hk:k = 126∨k = 33∨k = 63) (hT:Thr w p k a b (encP lb) (.slice none 0 0)) (hL:Lies2 P w o r lb):
  Calls Tryz.prog 103 #[encP p] w (MkOm P w [⟨k,a,b,o,r,false⟩]):=by
 obtain ⟨p0,p1,p2,p3,p4⟩:=hT.c
 have HL:=hide hL
 clear hT hL
 rcases hk with rfl | rfl | rfl
 ·go_enter Tryz.func103,Tryz.ntmps103
  go_wp2_with fail
  refine AnyT.start 19 (fun w'=>w'.cell? ⟨p,0,none⟩= some (.int .u8 (UInt8.toNat 126))∧w'.cell? ⟨p,1,none⟩= some (.int .i64 a)∧w'.cell? ⟨p,2,none⟩= some (.int .i64 b)∧w'.cell? ⟨p,3,none⟩= some (encP lb)) (fun j=>[].contains j) (by kernel_rfl) (by rfl) ?_
  have hHeld:(fun w':World=>w'.cell? ⟨p,0,none⟩= some (.int .u8 (UInt8.toNat 126))∧w'.cell? ⟨p,1,none⟩= some (.int .i64 a)∧w'.cell? ⟨p,2,none⟩= some (.int .i64 b)∧w'.cell? ⟨p,3,none⟩= some (encP lb)) w.drew:=And.intro p0 (And.intro p1 (And.intro p2 p3))
  refine AnyT.tk 0 ?_
  refine AnyT.tk 1 ?_
  refine AnyT.tk 2 ?_
  refine AnyT.ld 3 ?_
  refine AnyT.tk 4 ?_
  refine AnyT.tk 5 ?_
  refine AnyT.tk 6 ?_
  refine AnyT.ld 7 ?_
  refine AnyT.tk 8 ?_
  refine AnyT.tk 9 ?_
  refine AnyT.tk 10 ?_
  refine AnyT.ld 11 ?_
  refine AnyT.tk 12 ?_
  refine AnyT.tk 13 ?_
  refine AnyT.tk 14 ?_
  refine AnyT.ld 15 ?_
  refine AnyT.tk 16 ?_
  try simp only [Act.put,sqa,sqb,sqc]
  refine AnyT.one (i:=17) rfl (by kernel_rfl) (fun K hK=>?_)
  go_simp
  refine hK.out _ _ ?_ ?_
  ·exact ⟨cell_kept (bl_alloc _ _) hHeld.1,cell_kept (bl_alloc _ _) hHeld.2.1,cell_kept (bl_alloc _ _) hHeld.2.2.1,cell_kept (bl_alloc _ _) hHeld.2.2.2⟩
  intro hHeld
  clear hK K
  try simp only [Act.put,sqa,sqb,sqc]
  refine AnyT.tk 18 ?_
  try simp only [Act.put,sqa,sqb,sqc]
  refine AnyT.done (by kernel_rfl) ?_
  go_wp2_with fail
  go_ret
  refine ⟨_,rfl,⟨[(_,lb)],rfl,RK.lit (w.drewN 1) _ _ (Nat.le_refl _) rfl rfl,fun z hz=>?_⟩,(bl_drew (Bl.refl w)).trans (bl_alloc _ _)⟩
  rw [List.mem_singleton.1 hz]
  exact HL.out.bl ((bl_drew (Bl.refl w)).trans (bl_alloc _ _))
 ·go_enter Tryz.func103,Tryz.ntmps103
  go_wp2_with fail
  refine AnyT.start 19 (fun w'=>w'.cell? ⟨p,0,none⟩= some (.int .u8 (UInt8.toNat 33))∧w'.cell? ⟨p,1,none⟩= some (.int .i64 a)∧w'.cell? ⟨p,2,none⟩= some (.int .i64 b)∧w'.cell? ⟨p,3,none⟩= some (encP lb)) (fun j=>[].contains j) (by kernel_rfl) (by rfl) ?_
  have hHeld:(fun w':World=>w'.cell? ⟨p,0,none⟩= some (.int .u8 (UInt8.toNat 33))∧w'.cell? ⟨p,1,none⟩= some (.int .i64 a)∧w'.cell? ⟨p,2,none⟩= some (.int .i64 b)∧w'.cell? ⟨p,3,none⟩= some (encP lb)) w.drew:=And.intro p0 (And.intro p1 (And.intro p2 p3))
  refine AnyT.tk 0 ?_
  refine AnyT.tk 1 ?_
  refine AnyT.tk 2 ?_
  refine AnyT.ld 3 ?_
  refine AnyT.tk 4 ?_
  refine AnyT.tk 5 ?_
  refine AnyT.tk 6 ?_
  refine AnyT.ld 7 ?_
  refine AnyT.tk 8 ?_
  refine AnyT.tk 9 ?_
  refine AnyT.tk 10 ?_
  refine AnyT.ld 11 ?_
  refine AnyT.tk 12 ?_
  refine AnyT.tk 13 ?_
  refine AnyT.tk 14 ?_
  refine AnyT.ld 15 ?_
  refine AnyT.tk 16 ?_
  try simp only [Act.put,sqa,sqb,sqc]
  refine AnyT.one (i:=17) rfl (by kernel_rfl) (fun K hK=>?_)
  go_simp
  refine hK.out _ _ ?_ ?_
  ·exact ⟨cell_kept (bl_alloc _ _) hHeld.1,cell_kept (bl_alloc _ _) hHeld.2.1,cell_kept (bl_alloc _ _) hHeld.2.2.1,cell_kept (bl_alloc _ _) hHeld.2.2.2⟩
  intro hHeld
  clear hK K
  try simp only [Act.put,sqa,sqb,sqc]
  refine AnyT.tk 18 ?_
  try simp only [Act.put,sqa,sqb,sqc]
  refine AnyT.done (by kernel_rfl) ?_
  go_wp2_with fail
  go_ret
  refine ⟨_,rfl,⟨[(_,lb)],rfl,RK.lit (w.drewN 1) _ _ (Nat.le_refl _) rfl rfl,fun z hz=>?_⟩,(bl_drew (Bl.refl w)).trans (bl_alloc _ _)⟩
  rw [List.mem_singleton.1 hz]
  exact HL.out.bl ((bl_drew (Bl.refl w)).trans (bl_alloc _ _))
 ·go_enter Tryz.func103,Tryz.ntmps103
  go_wp2_with fail
  refine AnyT.start 19 (fun w'=>w'.cell? ⟨p,0,none⟩= some (.int .u8 (UInt8.toNat 63))∧w'.cell? ⟨p,1,none⟩= some (.int .i64 a)∧w'.cell? ⟨p,2,none⟩= some (.int .i64 b)∧w'.cell? ⟨p,3,none⟩= some (encP lb)) (fun j=>[].contains j) (by kernel_rfl) (by rfl) ?_
  have hHeld:(fun w':World=>w'.cell? ⟨p,0,none⟩= some (.int .u8 (UInt8.toNat 63))∧w'.cell? ⟨p,1,none⟩= some (.int .i64 a)∧w'.cell? ⟨p,2,none⟩= some (.int .i64 b)∧w'.cell? ⟨p,3,none⟩= some (encP lb)) w.drew:=And.intro p0 (And.intro p1 (And.intro p2 p3))
  refine AnyT.tk 0 ?_
  refine AnyT.tk 1 ?_
  refine AnyT.tk 2 ?_
  refine AnyT.ld 3 ?_
  refine AnyT.tk 4 ?_
  refine AnyT.tk 5 ?_
  refine AnyT.tk 6 ?_
  refine AnyT.ld 7 ?_
  refine AnyT.tk 8 ?_
  refine AnyT.tk 9 ?_
  refine AnyT.tk 10 ?_
  refine AnyT.ld 11 ?_
  refine AnyT.tk 12 ?_
  refine AnyT.tk 13 ?_
  refine AnyT.tk 14 ?_
  refine AnyT.ld 15 ?_
  refine AnyT.tk 16 ?_
  try simp only [Act.put,sqa,sqb,sqc]
  refine AnyT.one (i:=17) rfl (by kernel_rfl) (fun K hK=>?_)
  go_simp
  refine hK.out _ _ ?_ ?_
  ·exact ⟨cell_kept (bl_alloc _ _) hHeld.1,cell_kept (bl_alloc _ _) hHeld.2.1,cell_kept (bl_alloc _ _) hHeld.2.2.1,cell_kept (bl_alloc _ _) hHeld.2.2.2⟩
  intro hHeld
  clear hK K
  try simp only [Act.put,sqa,sqb,sqc]
  refine AnyT.tk 18 ?_
  try simp only [Act.put,sqa,sqb,sqc]
  refine AnyT.done (by kernel_rfl) ?_
  go_wp2_with fail
  go_ret
  refine ⟨_,rfl,⟨[(_,lb)],rfl,RK.lit (w.drewN 1) _ _ (Nat.le_refl _) rfl rfl,fun z hz=>?_⟩,(bl_drew (Bl.refl w)).trans (bl_alloc _ _)⟩
  rw [List.mem_singleton.1 hz]
  exact HL.out.bl ((bl_drew (Bl.refl w)).trans (bl_alloc _ _))
theorem off_61 (p:Nat) (a b:Nat) (vr vp:Value) (P:Nat→Prop) (w:World) (hT:Thr w p 61 a b vr vp):Calls Tryz.prog 103 #[encP p] w (MkOm P w []):=by
 obtain ⟨p0,p1,p2,p3,p4⟩:=hT.c
 clear hT
 go_enter Tryz.func103,Tryz.ntmps103
 go_wp2_with fail
 go_ret
 exact ⟨_,rfl,⟨[],rfl,RK.nil _ _,by simp⟩,Bl.refl _⟩
theorem off_42 {P:Nat→Prop} (p a0 b0 l1 p1:Nat) (a b lb:Nat) (o:List Nat) (r:Ts) (A:Option Addr) (c0:Nat) (vo:Value) (w:World) (hT:Thr w p 42 a0 b0 (encP l1) (.slice none 0 0)) (hL1:Lvl w l1 vo (.slice A 1 c0)) (hA:∀ ad,A = some ad→w.cell? ad = some (encP p1)) (hA2:∃ g,A = some ⟨g,0,none⟩)
  (hT1:Thr w p1 63 a b (encP lb) (.slice none 0 0)) (hL:Lies2 P w o r lb):
  Calls Tryz.prog 103 #[encP p] w (MkOm P w [⟨63,a,b,o,r,true⟩]):=by
 obtain ⟨p0,-,-,p3,-⟩:=hT.c
 obtain ⟨-,q1⟩:=hL1.c
 obtain ⟨g,rfl⟩:=hA2
 have h0:=hA _ rfl
 obtain ⟨r0,r1,r2,r3,-⟩:=hT1.c
 have HL:=hide hL
 have hp1:Hid (p1 < w.heap.size):=lt_of_block hT1
 clear hT hL hL1 hA hT1
 have e3:=cell_kept (bl_alloc w (.cells #[] 110)) p3
 have e1:=cell_kept (bl_alloc w (.cells #[] 110)) q1
 go_enter Tryz.func103,Tryz.ntmps103
 go_wp2_with fail
 clear e3 e1
 have bz:Hid (Bl w (w.alloc (.cells #[] 110))):=bl_alloc _ _
 have hz:=hide (RK.zero (T:=110) (k:=5) (enc:=encN) w (base:=w.heap.size) (Nat.le_refl _))
 have hgz:Hid (w.heap.size < (w.alloc (.cells #[] 110)).heap.size):=lt_of_block (blk_new w _ _)
 replace p3:=cell_kept bz.out p3
 replace q1:=cell_kept bz.out q1
 replace h0:=cell_kept bz.out h0
 replace r0:=cell_kept bz.out r0
 replace r1:=cell_kept bz.out r1
 replace r2:=cell_kept bz.out r2
 replace r3:=cell_kept bz.out r3
 generalize w.alloc (.cells #[] 110)= W1 at *
 refine wp_loop_rounds 2 ?_
 rw [rounds_succ]
 go_wp2_with fail
 refine AnyT.start 17 (fun w'=>w'.cell? ⟨p1,1,none⟩= some (.int .i64 a)∧w'.cell? ⟨p1,2,none⟩= some (.int .i64 b)∧w'.cell? ⟨p1,3,none⟩= some (encP lb)) (fun j=>[].contains j) (by kernel_rfl) (by rfl) ?_
 have hHeld:(fun w':World=>w'.cell? ⟨p1,1,none⟩= some (.int .i64 a)∧w'.cell? ⟨p1,2,none⟩= some (.int .i64 b)∧w'.cell? ⟨p1,3,none⟩= some (encP lb)) W1.drew:=⟨r1,r2,r3⟩
 have bD:Hid (Bl w W1.drew):=bl_drew bz.out
 have hzD:=hide (hz.out.bl (bl_drew (Bl.refl W1)))
 have hgD:Hid (w.heap.size < W1.drew.heap.size):=hgz.out
 clear hz bz hgz
 generalize W1.drew = D at *
 refine AnyT.tk 0 ?_
 refine AnyT.tk 1 ?_
 refine AnyT.tk 2 ?_
 refine AnyT.tk 3 ?_
 refine AnyT.ld 4 ?_
 refine AnyT.tk 5 ?_
 refine AnyT.tk 6 ?_
 refine AnyT.tk 7 ?_
 refine AnyT.ld 8 ?_
 refine AnyT.tk 9 ?_
 refine AnyT.tk 10 ?_
 refine AnyT.tk 11 ?_
 refine AnyT.ld 12 ?_
 refine AnyT.tk 13 ?_
 try simp only [Act.put,sqa,sqb,sqc]
 refine AnyT.one (i:=14) rfl (by kernel_rfl) (fun K hK=>?_)
 go_simp
 refine hK.out _ _ ?_ ?_
 ·exact ⟨cell_kept (bl_alloc _ _) hHeld.1,cell_kept (bl_alloc _ _) hHeld.2.1,cell_kept (bl_alloc _ _) hHeld.2.2⟩
 intro hHeld
 clear hK K
 try simp only [Act.put,sqa,sqb,sqc]
 have h1:=hide (RK.lit (T:=110) (k:=5) (enc:=encN) D #[.int .u8 63,.int .i64 a,.int .i64 b,encP lb,.bool true] (⟨63,a,b,o,r,true⟩,lb) (base:=0) (Nat.zero_le _) rfl rfl).src
 have b2:Hid (Bl w (D.alloc (.cells #[.int .u8 63,.int .i64 a,.int .i64 b,encP lb,.bool true] 110))):=bD.out.trans (bl_alloc _ _)
 have hz2:=hide (hzD.out.bl (bl_alloc D (.cells #[.int .u8 63,.int .i64 a,.int .i64 b,encP lb,.bool true] 110)))
 refine AnyT.one (i:=15) rfl (by kernel_rfl) (fun K hK=>?_)
 (refine rk_step rowOfN encN_len encN_one _ (.tmp 57) (.tmp 71) w.heap.size _ _ [] [(⟨63,a,b,o,r,true⟩,lb)] rfl rfl (by simp [Act.eval,Act.put]) (by simp [Act.eval,Act.put]) hz2.out h1.out (by simp) (Below.size b2.out) ?_;intro v3 W3 hs3 hg3 ha3)
 refine hK.out _ _ ?_ ?_
 ·exact ⟨World.grownBy.cell hg3 hHeld.1 (fun e=>by have h5:=(RK.lt hz2.out _ e.symm).1;have h6:=hp1.out;simp at h5;omega),World.grownBy.cell hg3 hHeld.2.1 (fun e=>by have h5:=(RK.lt hz2.out _ e.symm).1;have h6:=hp1.out;simp at h5;omega),World.grownBy.cell hg3 hHeld.2.2 (fun e=>by have h5:=(RK.lt hz2.out _ e.symm).1;have h6:=hp1.out;simp at h5;omega)⟩
 intro hHeld
 clear hK K
 try simp only [Act.put,sqa,sqb,sqc]
 have b3:Hid (Bl w W3):=bl_grown b2.out hg3 (fun k hk=>(RK.lt hz2.out k hk).1)
 have hs3:=hide hs3
 clear h1 b2 hz2 hg3 ha3 hHeld
 refine AnyT.tk 16 ?_
 try simp only [Act.put,sqa,sqb,sqc]
 refine AnyT.done (by kernel_rfl) ?_
 go_wp2_with fail
 rw [rounds_succ]
 go_wp2_with fail
 go_ret
 refine ⟨_,rfl,⟨_,rfl,hs3.out,fun z hz=>?_⟩,b3.out⟩
 rw [List.mem_singleton.1 hz]
 exact HL.out.bl b3.out
theorem smp_tl:∀ {t:Ts},t.smp→t.tl.smp
 | .nil,_=>trivial
 | .un _ _ _ _ _ _,h=>h.2.2
 | .sum _ _,h=>h.2
 | .part _ _ _,h=>h.2.2
theorem smp_dp {t:Ts} (h:t.smp):∀ j,(t.dp j).smp
 | 0=>h
 | j + 1=>smp_tl (smp_dp h j)
theorem part_smp {P:Nat→Prop} {w:World} {t:Ts} {qs:List Nat} (h:Ths P w t qs) (hs:t.smp) (hy:t.ty false) (hn:qs≠[]):
  ∃ q qs' k a b o r n,qs = q :: qs'∧t = .part [] (.un k a b o r .nil) n∧(k = 33∨k = 63∨k = 126)∧∃ vo g c p1 lb,Lvl w q vo (.slice (some ⟨g,0,none⟩) 1 c)∧w.cell? ⟨g,0,none⟩= some (encP p1)∧Thr w p1 k a b (encP lb) (.slice none 0 0)∧Lies2 P w o r lb:=by
 cases t with
 | nil=>exact (hn h).elim
 | un k a b o r n=>cases hy.1
 | sum p n=>cases hy.1
 | part o l n=>
   obtain ⟨⟨rfl,k,a,b,o',r',hk,rfl⟩,-,-⟩:=hs
   obtain ⟨q,qs',vo,vt,ps,e,-,hl,-,hrt,hth,-⟩:=h
   obtain ⟨p1,ps',lb,vo1,vt1,qs1,rfl,-,hT,hb,k1,k2,k3,k4,k5⟩:=hth
   have k5:ps' = []:=k5
   subst k5
   rcases hrt.1.form with ⟨-,hq⟩ | ⟨g,c,cur,rfl,-,-,-,-,hc⟩
   ·cases hq
   ·exact ⟨q,qs',k,a,b,o',r',n,e,rfl,hk,vo,g,c,p1,lb,hl,hc 0 p1 rfl,hT,⟨hb,vo1,vt1,qs1,k1,k2,k3,k4⟩⟩
theorem off_sum {P:Nat→Prop} (p:Nat) (v:Value) (q:Ts) (qs:List Nat) (w:World) (hT:Thr w p 43 0 0 (.pointer none) v) (hv:RD P 75 encP w v qs) (hq:Ths P w q qs) (hs:q.smp) (hy:q.ty false) (hn:q.len≤1000) (hP:∀ k,P k→k < w.heap.size):
  Calls Tryz.prog 103 #[encP p] w (MkOm P w (offA q)):=by
 obtain ⟨p0,-,-,-,p4⟩:=hT.c
 obtain ⟨A,c,rfl⟩:=hv.1.slice
 have hql:=hq.len
 have HV:=hide hv
 have HQ:=hide hq
 have HS:=hide hs
 have HY:=hide hy
 have HQL:=hide hql
 have hbig:(qs.length:Int)≤1000:=by omega
 have HN:=hide hn
 clear hT hv hq hs hy hql hn
 have e4:=cell_kept (bl_alloc w (.cells #[] 110)) p4
 go_enter Tryz.func103,Tryz.ntmps103
 go_wp2_with fail
 clear e4
 have bz:Hid (Bl w (w.alloc (.cells #[] 110))):=bl_alloc _ _
 have hz:=hide (RK.zero (T:=110) (k:=5) (enc:=encN) w (base:=w.heap.size) (Nat.le_refl _))
 generalize w.alloc (.cells #[] 110)= W1 at *
 have hO1:Hid (OfM P W1 w.heap.size (.slice (some ⟨w.heap.size,0,none⟩) 0 0) []):=⟨[],rfl,hz.out,by simp⟩
 clear hz
 replace p4:=cell_kept bz.out p4
 clear p0
 go_loopg [6,83] (qs.length + 1) (fun mm out i wr=>∃ (j:Nat) (ys:List OfN),mm = qs.length + 1 - j∧i = .int .i64 j∧Hid (j≤qs.length)∧Hid (OfM P wr w.heap.size out ys)∧Hid (ys ++ offA (q.dp j)= offA q)∧Hid (ys.length≤j)∧Bl w wr)
 case atStart=>exact ⟨0,[],rfl,rfl,Nat.zero_le _,hO1.out,rfl,Nat.le_refl _,bz.out⟩
 case round=>
  obtain ⟨j,ys,hm,rfl,hj,hO,hE,hlen,hbw⟩:=hrel
  have HM:=hide hm
  have HBW:=hide hbw
  have q2:(0:Int)≤(j:Int):=by omega
  obtain ⟨zs,z1,z2,z3⟩:=hO.out
  obtain ⟨A2,c2,rfl⟩:=z2.slice
  have Z1:=hide z1
  have Z2:=hide z2
  have Z3:=hide z3
  clear hm z1 z2 z3 hO bz hO1 p4
  by_cases hlt:j < qs.length
  ·have q1:(j:Int) < qs.length:=by omega
   have hne:qs.drop j≠[]:=by
    intro h;have:=congrArg List.length h;simp at this;omega
   obtain ⟨q1',qs',k,a,b,o,r,n,e1,e2,hk,vo,g,c',p1,lb,hl,hg,hT1,hL1⟩:=part_smp ((HQ.out.bl hbw).dp j) (smp_dp HS.out j) (ty_dp HY.out j) hne
   rcases (HV.out.1.bl hbw).form with ⟨e,hq⟩ | ⟨g0,cc,cur,e,-,-,-,-,hcell⟩
   ·rw [hq] at hlt;simp at hlt
   cases e
   have hcp:=hcell j q1' (drop_head e1)
   obtain ⟨l0,l1⟩:=hl.c
   have hoff:=hide (off_pre p1 k a b lb o r wr (by rcases hk with h | h | h <;> simp [h]) hT1 hL1)
   have HLT:=hide hlt
   have hE2:Hid ((ys ++ [⟨k,a,b,o,r,false⟩])++ offA (q.dp (j + 1))= offA q):=by
    have h1:=hE.out
    have hkk:k = 126∨k = 33∨k = 63:=by rcases hk with h | h | h <;> simp [h]
    rw [e2] at h1
    have h3:q.dp (j + 1)= n:=by
     show (q.dp j).tl = n
     rw [e2];rfl
    unfold Hid
    rw [h3,← h1]
    show (ys ++ [⟨k,a,b,o,r,false⟩])++ offA n = ys ++ ((offU k a b o r ++ [])++ offA n)
    rw [offU_pre hkk]
    simp
   have hbl:Hid (zs.length≤1000):=by have h1:=congrArg List.length Z1.out;rw [List.length_map] at h1;have h2:=hlen.out;have h3:=HN.out;have h4:=HQL.out;unfold Hid;omega
   clear hcell e1 e2 hl hT1 hL1 hlt hne hk
   go_wp2_with fail
   refine wp_loop_rounds 2 ?_
   rw [rounds_succ]
   go_wp2_with (first | (go_at_call 103;(with_reducible refine (hoff.out).mono ?_);rintro e W2 ⟨v2,rfl,⟨zs2,y1,y2,y3⟩,b2⟩;have Y1:=hide y1;have Y2:=hide (y2.mono (b2:=0) (Nat.zero_le _));have Y3:=hide y3;have Z4:=hide (Z2.out.bl b2);have hzb:Hid (w.heap.size≤W2.heap.size):=(Below.size (HBW.out.trans b2));have hy1:Hid (zs2.length = 1):=(by have h1:=congrArg List.length Y1.out;rw [List.length_map] at h1;exact h1);replace b2:=hide b2;clear y1 y2 y3) | (refine rk_op rowOfN encN_len encN_one _ (.tmp 96) (.tmp 98) w.heap.size _ _ zs zs2 rfl rfl (by simp [Act.eval]) (by simp [Act.eval]) Z4.out Y2.out.src (by have h1:=hbl.out;have h2:=hy1.out;omega) hzb.out ?_;intro v3 W3 hs3 hg3 ha3;replace hs3:=hide hs3;have b3:Hid (Bl w W3):=bl_grown (HBW.out.trans b2.out) hg3 (fun k hk=>(RK.lt Z4.out k hk).1);have f3:=hide (fx_grown hg3);clear hg3 ha3))
   rw [rounds_succ]
   go_wp2_with fail
   go_roundg (qs.length + 1 - (j + 1))
   case measure=>have:=HM.out;have:=HLT.out;omega
   case rel=>
    refine ⟨j + 1,_,rfl,by go_num,HLT.out,⟨zs ++ zs2,by rw [List.map_append,Z1.out,Y1.out],hs3.out,fun z hz=>?_⟩,hE2.out,by unfold Hid;have h1:=hlen.out;rw [List.length_append];simp only [List.length_cons,List.length_nil];omega,b3.out⟩
    have hA:∀ k,P k→¬ (Value.slice A2 zs.length c2).ownBlock = some k:=fun k hk e=>by have h1:=(RK.lt Z4.out k e).1;have h2:=hP k hk;omega
    rcases List.mem_append.1 hz with hz | hz
    ·exact ((Z3.out z hz).bl b2.out).fx f3.out hA
    ·exact (Y3.out z hz).fx f3.out hA
  ·have hj':j = qs.length:=by have:=hj.out;omega
   subst hj'
   have r1:¬ (qs.length:Int) < qs.length:=by omega
   have hend:Hid (ys = offA q):=by
    have h1:=hE.out
    rw [dp_end (by have:=HQL.out;omega)] at h1
    unfold Hid;simpa [offA] using h1
   go_wp2_with fail
   go_ret
   exact ⟨_,rfl,by rw [← hend.out];exact ⟨zs,Z1.out,Z2.out,Z3.out⟩,HBW.out⟩
theorem offers_c {P:Nat→Prop} (t:Ts) (ps:List Nat) (w:World) (h:Ths P w t ps) (hy:t.ty true) (hs:t.smp) (hn:t.len = 1) (hz:t.sz≤1000):
  ∃ p,ps = [p]∧Calls Tryz.prog 103 #[encP p] w (MkOm P w (offS t)):=by
 have hl:=h.len
 cases t with
 | nil=>cases hn
 | part o l n=>cases hy.1
 | un k a b o r n=>
   obtain ⟨p,ps',lb,vo,vt,qs,rfl,hp,hT,hb,k1,k2,k3,k4,k5⟩:=h
   have:ps' = []:=by
    simp only [List.length_cons] at hl
    exact List.eq_nil_of_length_eq_zero (by omega)
   subst this
   refine ⟨p,rfl,?_⟩
   rcases hy.2.1 with rfl | rfl | rfl | rfl | rfl
   ·exact off_pre p 63 a b lb o r w (.inr (.inr rfl)) hT ⟨hb,vo,vt,qs,k1,k2,k3,k4⟩
   ·exact off_pre p 33 a b lb o r w (.inr (.inl rfl)) hT ⟨hb,vo,vt,qs,k1,k2,k3,k4⟩
   ·exact off_61 p a b _ _ P w hT
   ·obtain ⟨rfl,a1,b1,o1,r1,rfl⟩:=hs.1 rfl
    obtain ⟨p1,ps',lb1,vo1,vt1,qs1,rfl,hp1,hT1,hb1,j1,j2,j3,j4,j5⟩:=k4
    have j5:ps' = []:=j5
    subst j5
    rcases k3.1.form with ⟨-,hq⟩ | ⟨g,c,cur,rfl,-,-,-,-,hc⟩
    ·cases hq
    ·exact off_42 p a b lb p1 a1 b1 lb1 o1 r1 _ c vo w hT k1 (fun ad e=>by cases e;exact hc 0 p1 rfl) ⟨g,rfl⟩ hT1 ⟨hb1,vo1,vt1,qs1,j1,j2,j3,j4⟩
   ·exact off_pre p 126 a b lb o r w (.inl rfl) hT ⟨hb,vo,vt,qs,k1,k2,k3,k4⟩
 | sum q n=>
   obtain ⟨p,ps',v,qs,rfl,hp,hT,hv,hq,hn'⟩:=h
   have:ps' = []:=by
    simp only [List.length_cons] at hl
    exact List.eq_nil_of_length_eq_zero (by omega)
   subst this
   refine ⟨p,rfl,?_⟩
   have hq':Ths (fun k=>P k∧k < w.heap.size) w q qs:=hq.mono (fun k h1 h2=>⟨h1,h2⟩)
   have hv':RD (fun k=>P k∧k < w.heap.size) 75 encP w v qs:=hv.map (fun k h1 h2=>⟨⟨h1,h2⟩,rfl⟩)
   refine (off_sum p v q qs w hT hv' hq' hs.1 hy.2.2.1 (by have:=len_sz q;simp only [Ts.sz] at hz;omega) (fun k h=>h.2)).mono ?_
   rintro e w' ⟨v',rfl,⟨zs,z1,z2,z3⟩,b⟩
   exact ⟨v',rfl,⟨zs,z1,z2,fun z hz=>(z3 z hz).mono (fun k hk _=>hk.1)⟩,b⟩
end Go.Proofs.YtbibkgcbdnldbaaGreat
namespace Go.Proofs.YtbibkgcbdnldbaaGreat
open Go.RowKit
attribute [local go_sem] S_size S_toList S_lit S_get S_extract S_append drop_all
def ovO (K:UInt8) (cs:Str):Str→List OfT→Str
 | s,[]=>s
 | s,x :: l=>ovO K cs (if x.k = K∧x.a∉cs then add x.a s else s) l
def ovV (K:UInt8) (cs:Str):Str→List Tm→Str
 | s,[]=>s
 | s,v :: l=>ovV K cs (ovO K cs s (offT v)) l
def obO (K:UInt8) (cs:Str):Str→List OfT→Str
 | s,[]=>s
 | s,x :: l=>obO K cs (if x.k = K∧x.a∉cs then s ++ [x.a] else s) l
def obV (K:UInt8) (cs:Str):Str→List Tm→Str
 | s,[]=>s
 | s,v :: l=>obV K cs (obO K cs s (offT v)) l
theorem ovO_ob {K:UInt8} {cs:Str}:∀ {l:List OfT} {s s':Str},Srt s→(∀ c,c∈s↔c∈s')→Srt (ovO K cs s l)∧∀ c,c∈ovO K cs s l↔c∈obO K cs s' l
 | [],s,s',h,g=>⟨h,g⟩
 | x :: l,s,s',h,g=>by
   simp only [ovO,obO]
   by_cases hx:x.k = K∧x.a∉cs
   ·rw [if_pos hx,if_pos hx]
    exact ovO_ob (Srt.add h) (fun c=>by rw [mem_add,List.mem_append,List.mem_singleton,g c];exact Or.comm)
   ·rw [if_neg hx,if_neg hx]
    exact ovO_ob h g
theorem ovV_ob {K:UInt8} {cs:Str}:∀ {l:List Tm} {s s':Str},Srt s→(∀ c,c∈s↔c∈s')→Srt (ovV K cs s l)∧∀ c,c∈ovV K cs s l↔c∈obV K cs s' l
 | [],s,s',h,g=>⟨h,g⟩
 | v :: l,s,s',h,g=>by
   simp only [ovV,obV]
   obtain ⟨h1,h2⟩:=ovO_ob (K:=K) (cs:=cs) (l:=offT v) h g
   exact ovV_ob h1 h2
theorem obO_small {K:UInt8} {cs:Str} (hK:K = 33∨K = 63):∀ {l:List OfT} {s:Str},(∀ x∈l,x.k = K→smallB x.a = true)→(∀ c∈s,smallB c = true)→∀ c∈obO K cs s l,smallB c = true
 | [],s,_,h=>h
 | x :: l,s,hl,h=>by
   simp only [obO]
   refine obO_small hK (fun y hy=>hl y (by simp [hy])) (fun c hc=>?_)
   split at hc
   ·rename_i hx
    rcases List.mem_append.1 hc with hc | hc
    ·exact h c hc
    ·rw [List.mem_singleton.1 hc];exact hl x (by simp) hx.1
   ·exact h c hc
theorem offT_ok:∀ {v:Tm} {x:OfT},v.ok smallB = true→x∈offT v→x.p.ok smallB = true∧okhd smallB x.k x.a x.b = true
 | .zero,x,_,h=>by cases h
 | .un k a b p,x,hk,h=>by
   simp only [Tm.ok,Bool.and_eq_true] at hk
   simp only [offT] at h
   split at h
   ·rw [List.mem_singleton.1 h];exact ⟨hk.2,hk.1⟩
   ·split at h
    ·obtain ⟨y,hy,rfl⟩:=List.mem_map.1 h
     exact offT_ok (x:=y) hk.2 hy
    ·cases h
 | .bin k p q,x,hk,h=>by
   simp only [Tm.ok,Bool.and_eq_true] at hk
   simp only [offT] at h
   split at h
   ·exact (List.mem_append.1 h).elim (offT_ok hk.2.1) (offT_ok hk.2.2)
   ·cases h
theorem off_small {v:Tm} {x:OfT} {K:UInt8} (hK:K = 33∨K = 63) (hk:v.ok smallB = true) (h:x∈offT v) (hx:x.k = K):smallB x.a = true:=by
 obtain ⟨-,h2⟩:=offT_ok hk h
 rw [hx] at h2
 rcases hK with rfl | rfl
 ·have:smallB x.a = true∧smallB x.b = true:=by simpa [okhd] using h2
  exact this.1
 ·have:smallB x.a = true∧smallB x.b = true:=by simpa [okhd] using h2
  exact this.1
theorem obV_small {K:UInt8} {cs:Str} (hK:K = 33∨K = 63):∀ {l:List Tm} {s:Str},(∀ v∈l,v.ok smallB = true)→(∀ c∈s,smallB c = true)→∀ c∈obV K cs s l,smallB c = true
 | [],s,_,h=>h
 | v :: l,s,hl,h=>obV_small hK (s:=obO K cs s (offT v)) (fun y hy=>hl y (by simp [hy])) (obO_small hK (fun x hx e=>off_small hK (hl v (by simp)) hx e) h)
theorem barbs_eq {K:UInt8} {cs:Str} {vs:List Tm} (hK:K = 33∨K = 63) (hv:∀ v∈vs,v.ok smallB = true):lettersS (obV K cs [] vs)= ovV K cs [] vs:=by
 obtain ⟨h1,h2⟩:=ovV_ob (K:=K) (cs:=cs) (l:=vs) Srt.nil (fun c=>Iff.rfl)
 rw [lettersS_congr (t:=ovV K cs [] vs) (fun c _=>(h2 c).symm)]
 exact lettersS_eq h1 (fun c hc=>obV_small hK hv (by simp) c ((h2 c).1 hc))
theorem updL_mem:∀ {cs:Str} {O:List Nat} {E:UInt8→Nat} {c:UInt8},cs.length = O.length→(c∈cs→updL E cs O c∈O)∧(c∉cs→updL E cs O c = E c)
 | [],_,_,_,_=>⟨fun h=>(by cases h),fun _=>rfl⟩
 | _ :: _,[],_,_,h=>by cases h
 | d :: cs, x :: O, E, c, h => by
   obtain ⟨h1,h2⟩:=updL_mem (cs:=cs) (O:=O) (E:=upd E d x) (c:=c) (by simpa using h)
   constructor
   ·intro hc
    show updL (upd E d x) cs O c∈x :: O
    by_cases hcc:c∈cs
    ·exact List.mem_cons_of_mem _ (h1 hcc)
    ·rw [h2 hcc]
     have:c = d:=(List.mem_cons.1 hc).resolve_right hcc
     unfold upd;rw [if_pos this];simp
   ·intro hc
    simp only [List.mem_cons,not_or] at hc
    show updL (upd E d x) cs O c = E c
    rw [h2 hc.2];unfold upd;rw [if_neg hc.1]
theorem frE_own {cs:Str} (c:UInt8):decide (frE cs c∈frO cs)= decide (c∈cs)∧(c∉cs→frE cs c = numE c):=by
 obtain ⟨h1,h2⟩:=updL_mem (cs:=cs) (O:=frO cs) (E:=numE) (c:=c) (nums_len _ _).symm
 refine ⟨?_,h2⟩
 rw [decide_eq_decide]
 constructor
 ·intro h
  by_cases hc:c∈cs
  ·exact hc
  ·have h3:=nums_mem h
   have h4:frE cs c = numE c:=h2 hc
   have:=numE_lt c
   omega
 ·exact h1
theorem contains_rl {w:World} {v:Value} {xs:List Nat} (h:RL 3 encI w 0 v xs) (hn:xs.length≤100000) (x:Nat):
  Calls Tryz.prog 153 #[v,.int .i64 x] w fun e w'=>e = .returned (.bool (decide (x∈xs)))∧w = w':=by
 rcases h.form with ⟨rfl,rfl⟩ | ⟨g,c,cur,rfl,-,⟨-,h4,h5,-⟩,hb,-,hc⟩
 ·refine (Tryz.slices_Contains_int_empty none 0 x w).mono ?_
  rintro e w' ⟨rfl,rfl⟩
  exact ⟨by simp,rfl⟩
 ·refine (Tryz.slices_Contains_int g 0 xs.length c (xs.map fun x:Nat=>(x:Int)) x w (by simp) (by omega) (fun j hj=>?_)).mono ?_
  ·rw [List.length_map] at hj
   have h1:=hc j xs[j] (by simp [hj])
   rw [Nat.zero_add,h1]
   simp [List.getD,hj]
  ·rintro e w' ⟨rfl,rfl⟩
   refine ⟨?_,rfl⟩
   rw [List.take_of_length_le (by simp)]
   congr 2
   rw [Bool.eq_iff_iff,List.contains_iff_mem,decide_eq_true_eq]
   simp only [List.mem_map]
   exact ⟨fun ⟨a,h1,h2⟩=>by have:a = x:=(by omega);rw [← this];exact h1,fun h=>⟨x,h,rfl⟩⟩
theorem isOwn_c {w:World} {base st n:Nat} {cs:Str} {vs:List Tm} (h:StM w base st n cs vs) (hcs:cs.length≤1000) (x:Nat):
  Calls Tryz.prog 152 #[encP st,.int .i64 x] w fun e w'=>e = .returned (.bool (decide (x∈frO cs)))∧w = w':=by
 obtain ⟨-,s,l,hS,hb,vo,vt,qs,hl,hro,hrt,hth⟩:=h
 have c1:=hide (contains_rl hro.1 (by rw [nums_len];omega) x)
 have p2:=blk_cell (i:=2) hS rfl
 obtain ⟨l0,l1⟩:=hl.c
 clear hS hb hl hro hrt hth
 generalize frO cs = O at *
 go_enter Tryz.func152,Tryz.ntmps152
 go_wp2_with ((go_at_call 153;(with_reducible refine (c1.out).mono ?_);rintro e w' ⟨rfl,rfl⟩))
 go_ret
 exact ⟨rfl,rfl⟩
theorem ths_split {P:Nat→Prop} {w:World}:∀ {t u:Ts} {ps:List Nat},Ths P w (t.app u) ps→∃ p1 p2,ps = p1 ++ p2∧Ths P w t p1∧Ths P w u p2
 | .nil,u,ps,h=>⟨[],ps,rfl,rfl,h⟩
 | .un k a b o r n,u,ps,h=>by
   obtain ⟨p,ps',lb,vo,vt,qs,rfl,h1,h2,h3,h4,h5,h6,h7,h8⟩:=h
   obtain ⟨p1,p2,rfl,g1,g2⟩:=ths_split (t:=n) h8
   exact ⟨p :: p1,p2,rfl,⟨p,p1,lb,vo,vt,qs,rfl,h1,h2,h3,h4,h5,h6,h7,g1⟩,g2⟩
 | .sum q n,u,ps,h=>by
   obtain ⟨p,ps',v,qs,rfl,h1,h2,h3,h4,h8⟩:=h
   obtain ⟨p1,p2,rfl,g1,g2⟩:=ths_split (t:=n) h8
   exact ⟨p :: p1,p2,rfl,⟨p,p1,v,qs,rfl,h1,h2,h3,h4,g1⟩,g2⟩
 | .part o l n,u,ps,h=>by
   obtain ⟨p,ps',vo,vt,qs,rfl,h1,h2,h3,h4,h5,h8⟩:=h
   obtain ⟨p1,p2,rfl,g1,g2⟩:=ths_split (t:=n) h8
   exact ⟨p :: p1,p2,rfl,⟨p,p1,vo,vt,qs,rfl,h1,h2,h3,h4,h5,g1⟩,g2⟩
theorem ths_cat {P:Nat→Prop} {w:World}:∀ {l:List Ts} {ps:List Nat},Ths P w (cat l) ps→(∀ t∈l,t.len = 1)→ps.length = l.length∧∀ (j:Nat) (t:Ts),l[j]? = some t→∃ p,ps[j]? = some p∧Ths P w t [p]
 | [],ps,h,_=>by
   have h:ps = []:=h
   subst h
   exact ⟨rfl,fun j t h=>by simp at h⟩
 | x :: l, ps, h, hl => by
   obtain ⟨p1,p2,rfl,g1,g2⟩:=ths_split (t:=x) h
   have h1:=g1.len
   rw [hl x (by simp)] at h1
   obtain ⟨p,rfl⟩:=List.length_eq_one_iff.1 h1
   obtain ⟨i1,i2⟩:=ths_cat g2 (fun t ht=>hl t (by simp [ht]))
   refine ⟨by simp [i1],fun j t hj=>?_⟩
   cases j with
   | zero=>
     obtain rfl:=Option.some.inj hj
     exact ⟨p,rfl,g1⟩
   | succ j=>exact i2 j t hj
structure StT (cs:Str) (vs:List Tm) (j m:Nat) (v:Tm) (T:Ts):Prop where
 lo:cs.length≤m
 hi:m + v.cnt≤61
 ts:(stTs cs vs)[j]? = some T
 eq:T = (lv (num v (frE cs) m)).2
 q:(thQ vs (frE cs) cs.length)[j]? = some (v,lv (num v (frE cs) m),(num v (frE cs) m,m + 100,m + 100 + v.cnt))
 len:T.len = 1
 ty:T.ty true
 smp:T.smp
 sz:T.sz≤200
 corr:Corr (frE cs) m (m + v.cnt) (offT v) (offS T)
 ok:v.ok smallB = true∧tdT v∧smpT v∧v.size≤60
theorem Std.thr2 {u:Tm} {cs:Str} {vs:List Tm} (h:Std u cs vs) {v:Tm} (hv:v∈vs):v.size≤60:=by
 have h1:=h.size (List.ne_nil_of_mem hv)
 have:∀ {l:List Tm},v∈l→v.size≤(l.map Tm.size).sum:=by
  intro l
  induction l with
  | nil=>intro h;cases h
  | cons x l ih=>
    intro h
    rcases List.mem_cons.1 h with rfl | h
    ·simp
    ·have:=ih h;simp only [List.map_cons,List.sum_cons];omega
 have h2:=this hv
 have h3:=List.length_pos_of_mem hv
 omega
theorem Std.stT {u:Tm} {cs:Str} {vs:List Tm} (h:Std u cs vs) {j:Nat} {v:Tm} (hv:vs[j]? = some v):∃ m T,StT cs vs j m v T:=by
 obtain ⟨m,⟨h1,h2⟩,h3⟩:=thQ_get (E:=frE cs) (n:=cs.length) hv
 have hm:=List.mem_of_getElem? hv
 obtain ⟨a1,a2,a3,a4,a5,a6⟩:=h.thr hm
 have hcn:=h.cnt
 obtain ⟨hi,hE⟩:=frE_ok cs
 have hE2:∀ c,frE cs c≤m + 100:=fun c=>by have:=hE c;omega
 have hkd:=num_kd (E:=frE cs) (n:=m) a1
 have hnu:=num_nu (nm:=smallB) (n:=m) rfl a2 a1 hi hE2
 have sh:=shp (Tm.ok_mono (fun _=>small_wide) a1) (num_rep (nm:=smallB) (n:=m) rfl a1 hi hE2) a2 a4 hkd hnu (num_ds hE2)
 have hsz:=lv_sz hkd (num_ap hE2) hnu
 rw [num_sz2] at hsz
 have h60:=h.thr2 hm
 refine ⟨m,_,h1,by omega,?_,rfl,h3,sh.l2 a5 a6,ty_lv hkd,(smp_lv a1 a3).1,by omega,h.corr hm h1,a1,a2,a3,h60⟩
 have e:=congrArg (fun l=>(l[j]?).map (·.2)) (thQ_2 vs (frE cs) cs.length)
 simp only [List.getElem?_map,h3,Option.map_some] at e
 rw [List.getElem?_map]
 cases hx:(thS cs vs)[j]? with
 | none=>
   have hx:(numJ vs (frE cs) cs.length)[j]? = none:=hx
   rw [hx] at e;cases e
 | some s=>
   have hx:(numJ vs (frE cs) cs.length)[j]? = some s:=hx
   rw [hx] at e
   exact e.symm
theorem Std.all1 {u:Tm} {cs:Str} {vs:List Tm} (h:Std u cs vs):(stTs cs vs).length = vs.length∧∀ t∈stTs cs vs,t.len = 1:=by
 have hl:(stTs cs vs).length = vs.length:=by simp [stTs,thS,numJ_len]
 refine ⟨hl,fun t ht=>?_⟩
 obtain ⟨j,hj⟩:=List.getElem?_of_mem ht
 have hlt:=(List.getElem?_eq_some_iff.1 hj).1
 obtain ⟨m,T,H⟩:=h.stT (j:=j) (v:=vs[j]'(by omega)) (by simp)
 rw [H.ts] at hj
 obtain rfl:=Option.some.inj hj
 exact H.len
theorem sz_ofN:(Tryz.prog.info? 110).map (·.size)= some 5:=by kernel_rfl
theorem zero_ofN (w:World):(zeroValue 110).run Tryz.prog w = .ok (.agg #[.int .u8 0,.int .i64 0,.int .i64 0,.pointer none,.bool false]) w:=by kernel_rfl
theorem encN_all (x:OfN × Nat):(encN x).toArray.all (·.oneCell')= true:=all_oneCell_toArray (encN_one x)
theorem barbs_c {u : Tm} {cs : Str} {vs : List Tm} (H : Std u cs vs) (K : UInt8) (hK : K = 33 ∨ K = 63) {w : World} {base st n : Nat} (h : StM w base st n cs vs) :
  Calls Tryz.prog 102 #[encP st,.int .u8 K.toNat] w fun e w'=>e = .returned (.string (S (lettersS (obV K cs [] vs))))∧Bl w w':=by
 have hcn:=H.cnt
 obtain ⟨ha1,ha2⟩:=H.all1
 have ho:=hide fun w' (hb:Bl w w') x=>isOwn_c (h.bl hb) (by omega) x
 obtain ⟨-,s,l,hS,hb,vo,vt,ps,hl,hro,hrt,hth⟩:=h
 obtain ⟨hpl,hpj⟩:=ths_cat hth ha2
 rw [ha1] at hpl
 obtain ⟨A,c,rfl⟩:=hrt.1.slice
 have p2:=blk_cell (i:=2) hS rfl
 obtain ⟨l0,l1⟩:=hl.c
 have HRT:=hide hrt
 have HPJ:=hide hpj
 have HPL:=hide hpl
 have HH:=hide H
 have hvl:vs.length≤61:=by
  by_cases hne:vs = []
  ·subst hne;simp
  ·have:=H.size hne;omega
 have hvl':(ps.length:Int)≤61:=by omega
 clear hS hb hl hro hrt hth hpj hcn ha1 ha2 hpl H
 go_enter Tryz.func102,Tryz.ntmps102
 go_wp2_with fail
 go_loopg [5,18] (ps.length + 1) (fun mm mk i wr=>∃ (j:Nat) (s:Str),mm = ps.length + 1 - j∧i = .int .i64 j∧mk = .int .u32 (msk s)∧Hid (j≤ps.length)∧Hid (obV K cs s (vs.drop j)= obV K cs [] vs)∧Bl w wr)
 case atStart=>exact ⟨0,[],rfl,rfl,rfl,Nat.zero_le _,rfl,Bl.refl _⟩
 case round =>
  obtain ⟨j,s,hm,rfl,rfl,hj,hE,hbw⟩:=hrel
  have HM:=hide hm
  have HBW:=hide hbw
  have q2:(0:Int)≤(j:Int):=by omega
  clear hm p2 l0 l1
  by_cases hlt:j < ps.length
  ·have q1 : (j : Int) < ps.length := by omega
   have hjv:j < vs.length:=by have:=HPL.out;omega
   obtain ⟨v,hv⟩:∃ v,vs[j]? = some v:=⟨vs[j],by simp [hjv]⟩
   obtain ⟨m,T,hT⟩:=HH.out.stT hv
   obtain ⟨p,hp1,hp2⟩:=HPJ.out j T hT.ts
   obtain ⟨p',hp3,hoff⟩:=offers_c T [p] wr (hp2.bl hbw) hT.ty hT.smp hT.len (by have:=hT.sz;omega)
   obtain rfl:p = p':=by simpa using hp3
   rcases (HRT.out.1.bl hbw).form with ⟨e,hq⟩ | ⟨g0,cc,cur,e,-,-,-,-,hcell⟩
   ·rw [hq] at hlt;simp at hlt
   cases e
   have hcp:=hcell j p hp1
   have hdr:vs.drop j = v :: vs.drop (j + 1):=by
    rw [List.drop_eq_getElem_cons hjv]
    congr 1
    have:=(List.getElem?_eq_some_iff.1 hv).2
    exact this
   have hE2:Hid (obV K cs (obO K cs s (offT v)) (vs.drop (j + 1))= obV K cs [] vs):=by
    have h1:=hE.out
    rw [hdr] at h1
    exact h1
   have HOF:=hide hoff
   have HT:=hide hT
   have HLT:=hide hlt
   clear hcell hdr hE hp1 hp2 hp3 hT hoff hlt hv
   go_wp2_with ((go_at_call 103;(with_reducible refine (HOF.out).mono ?_);rintro e W2 ⟨v2,rfl,⟨zs,y1,y2,y3⟩,b2⟩;obtain ⟨A2,c2,rfl⟩:=y2.slice;have Y1:=hide y1;have Y2:=hide y2;have HB2:=hide (HBW.out.trans b2);clear y1 y2 y3 b2))
   have hzl:Hid (zs.length = (offT v).length∧zs.length≤61):=by
    have h1:=congrArg List.length Y1.out
    rw [List.length_map] at h1
    have h2:=HT.out.corr.len
    have h3:=offT_len v
    have h4:=HT.out.ok.2.2.2
    unfold Hid;omega
   have hzl':(zs.length:Int)≤61:=by have:=hzl.out;omega
   obtain ⟨wo,hwo⟩:∃ x,x = wr:=⟨_,rfl⟩
   subst hwo
   go_loopg [5,25] (zs.length + 1) (fun mm mk i wi=>∃ (i2:Nat) (s2:Str),mm = zs.length + 1 - i2∧i = .int .i64 i2∧mk = .int .u32 (msk s2)∧Hid (i2≤zs.length)∧Hid (obO K cs s2 ((offT v).drop i2)= obO K cs s (offT v))∧Bl W2 wi)
   case atStart=>exact ⟨0,s,rfl,rfl,rfl,Nat.zero_le _,rfl,Bl.refl _⟩
   case round =>
    obtain ⟨i2,s2,hm2,rfl,rfl,hi2,hF,hbi⟩:=hrel
    have HM2:=hide hm2
    have r2:(0:Int)≤(i2:Int):=by omega
    have HBI:=hide hbi
    clear hm2
    by_cases hlt2:i2 < zs.length
    ·have r1:(i2:Int) < zs.length:=by omega
     obtain ⟨z,hz⟩:∃ z,zs[i2]? = some z:=⟨zs[i2],by simp [hlt2]⟩
     rcases HT.out.corr.get i2 with ⟨-,hno⟩ | ⟨x,y,hx,hy,hc⟩
     ·exfalso
      rw [← Y1.out,List.getElem?_map,hz] at hno
      cases hno
     have hyz:y = z.1:=by
      rw [← Y1.out,List.getElem?_map,hz] at hy
      exact (Option.some.inj hy).symm
     subst hyz
     rcases (Y2.out.bl hbi).form encN_len with ⟨e,hq⟩ | ⟨g2,cc2,cur2,e,-,-,-,hcell2⟩
     ·rw [hq] at hlt2;simp at hlt2
     cases e
     have hcz:=hide (hcell2 i2 z hz)
     have hdx:(offT v).drop i2 = x :: (offT v).drop (i2 + 1):=by
      have hl:=(List.getElem?_eq_some_iff.1 hx).1
      rw [List.drop_eq_getElem_cons hl]
      congr 1
      exact (List.getElem?_eq_some_iff.1 hx).2
     have hF2:Hid (obO K cs (if x.k = K∧x.a∉cs then s2 ++ [x.a] else s2) ((offT v).drop (i2 + 1))= obO K cs s (offT v)):=by
      have h1:=hF.out
      rw [hdx] at h1
      exact h1
     have hkk:=hc.k
     have hxm:=List.mem_of_getElem? hx
     have hokv:=HT.out.ok.1
     have HLT2:=hide hlt2
     clear hcell2 hdx hF hz hx hy hlt2
     by_cases hxk:x.k = K
     ·have hsm:=off_small hK hokv hxm hxk
      have hza:z.1.a = frE cs x.a:=by
       rcases hK with rfl | rfl
       ·exact (hc.snd hxk).1
       ·exact hc.rcv hxk
      have e1:((z.1.k.toNat:Int)== (K.toNat:Int))= true:=by rw [hkk,hxk];exact beq_self_eq_true _
      obtain ⟨o1,o2⟩:=frE_own (cs:=cs) x.a
      by_cases hxa:x.a∈cs
      ·have ho1:Hid (∀ w',Bl w w'→Calls Tryz.prog 152 #[encP st,.int .i64 z.1.a] w' fun e w''=>e = .returned (.bool true)∧w' = w''):=fun w' hb=>by
        have:=ho.out w' hb z.1.a
        rw [hza,o1,decide_eq_true hxa] at this
        rw [hza];exact this
       have hF3:Hid (obO K cs s2 ((offT v).drop (i2 + 1))= obO K cs s (offT v)):=by
        have h1:=hF2.out
        rw [if_neg (fun h=>h.2 hxa)] at h1;exact h1
       clear hsm hza o1 o2 hF2 hxa hxk hc hkk hxm hokv
       go_wp2_with (first | (refine ld_row rfl 110 (.tmp 27) rfl g2 (i2 * 5) (encN z) _ (by simp [Act.eval,Act.put]) hcz.out Tryz.underlying110 rfl sz_ofN ?_) | (refine alloc_op rfl 110 rfl _ zero_ofN ?_;intro G W3 hG b3 s3) | (refine st_blk rfl 110 (.tmp 9) (.tmp 28) rfl G 110 _ (encN z).toArray rfl rfl hG rfl sz_ofN (encN_all z) ?_;intro W4 hG4 x4;have b4:Hid (Bl W2 W4):=(Fx.bl' (HBI.out.trans b3) (.of_bx x4) (fun k hk=>by subst hk;have h1:=s3.out;have:=Below.size HBI.out;omega));have g0:W4.cell? ⟨G,0,none⟩= some (.int .u8 z.1.k.toNat):=blk_cell (i:=0) hG4 rfl;have g1:W4.cell? ⟨G,1,none⟩= some (.int .i64 z.1.a):=blk_cell (i:=1) hG4 rfl) | (go_at_call 152;(with_reducible refine (ho1.out _ (HB2.out.trans b4.out)).mono ?_);rintro e W5 ⟨rfl,rfl⟩))
       go_roundg (zs.length + 1 - (i2 + 1))
       case measure=>have:=HM2.out;have:=HLT2.out;omega
       case rel=>exact ⟨i2 + 1,s2,rfl,by go_num,rfl,HLT2.out,hF3.out,b4.out⟩
      ·have ho1:Hid (∀ w',Bl w w'→Calls Tryz.prog 152 #[encP st,.int .i64 z.1.a] w' fun e w''=>e = .returned (.bool false)∧w' = w''):=fun w' hb=>by
        have:=ho.out w' hb z.1.a
        rw [hza,o1,decide_eq_false hxa] at this
        rw [hza];exact this
       have hF3:Hid (obO K cs (s2 ++ [x.a]) ((offT v).drop (i2 + 1))= obO K cs s (offT v)):=by
        have h1:=hF2.out
        rw [if_pos ⟨hxk,hxa⟩] at h1;exact h1
       have hj26:=numE_lt x.a
       have hj:z.1.a = numE x.a:=hza.trans (o2 hxa)
       have hlet:let_ (numE x.a)= x.a:=by
        obtain ⟨i,hi,e⟩:=small_let hsm
        rw [e];congr 1
        unfold numE
        rw [if_pos (let_small hi),let_toNat hi];omega
       have hsh:=bits_shl s2 (numE x.a) hj26
       rw [hlet,← hj] at hsh
       have t1:(z.1.a:Int) < 26:=by omega
       have t2:(0:Int)≤(z.1.a:Int):=by omega
       clear hsm hza o1 o2 hF2 hxa hxk hc hkk hxm hokv hj hlet hj26
       go_wp2_with (first | (refine ld_row rfl 110 (.tmp 27) rfl g2 (i2 * 5) (encN z) _ (by simp [Act.eval,Act.put]) hcz.out Tryz.underlying110 rfl sz_ofN ?_) | (refine alloc_op rfl 110 rfl _ zero_ofN ?_;intro G W3 hG b3 s3) | (refine st_blk rfl 110 (.tmp 9) (.tmp 28) rfl G 110 _ (encN z).toArray rfl rfl hG rfl sz_ofN (encN_all z) ?_;intro W4 hG4 x4;have b4:Hid (Bl W2 W4):=(Fx.bl' (HBI.out.trans b3) (.of_bx x4) (fun k hk=>by subst hk;have h1:=s3.out;have:=Below.size HBI.out;omega));have g0:W4.cell? ⟨G,0,none⟩= some (.int .u8 z.1.k.toNat):=blk_cell (i:=0) hG4 rfl;have g1:W4.cell? ⟨G,1,none⟩= some (.int .i64 z.1.a):=blk_cell (i:=1) hG4 rfl) | (go_at_call 152;(with_reducible refine (ho1.out _ (HB2.out.trans b4.out)).mono ?_);rintro e W5 ⟨rfl,rfl⟩))
       go_roundg (zs.length + 1 - (i2 + 1))
       case measure=>have:=HM2.out;have:=HLT2.out;omega
       case rel=>exact ⟨i2 + 1,s2 ++ [x.a],rfl,by go_num,by rw [← hsh];rfl,HLT2.out,hF3.out,b4.out⟩
     ·have e1:((z.1.k.toNat:Int)== (K.toNat:Int))= false:=by rw [hkk];exact ne_int (d:=K) hxk
      have hF3:Hid (obO K cs s2 ((offT v).drop (i2 + 1))= obO K cs s (offT v)):=by
       have h1:=hF2.out
       rw [if_neg (fun h=>hxk h.1)] at h1;exact h1
      clear hF2 hxk hc hkk hxm hokv
      go_wp2_with (first | (refine ld_row rfl 110 (.tmp 27) rfl g2 (i2 * 5) (encN z) _ (by simp [Act.eval,Act.put]) hcz.out Tryz.underlying110 rfl sz_ofN ?_) | (refine alloc_op rfl 110 rfl _ zero_ofN ?_;intro G W3 hG b3 s3) | (refine st_blk rfl 110 (.tmp 9) (.tmp 28) rfl G 110 _ (encN z).toArray rfl rfl hG rfl sz_ofN (encN_all z) ?_;intro W4 hG4 x4;have b4:Hid (Bl W2 W4):=(Fx.bl' (HBI.out.trans b3) (.of_bx x4) (fun k hk=>by subst hk;have h1:=s3.out;have:=Below.size HBI.out;omega));have g0:W4.cell? ⟨G,0,none⟩= some (.int .u8 z.1.k.toNat):=blk_cell (i:=0) hG4 rfl;have g1:W4.cell? ⟨G,1,none⟩= some (.int .i64 z.1.a):=blk_cell (i:=1) hG4 rfl))
      go_roundg (zs.length + 1 - (i2 + 1))
      case measure=>have:=HM2.out;have:=HLT2.out;omega
      case rel=>exact ⟨i2 + 1,s2,rfl,by go_num,rfl,HLT2.out,hF3.out,b4.out⟩
    ·have hi':i2 = zs.length:=by have:=hi2.out;omega
     subst hi'
     have r1:¬ (zs.length:Int) < zs.length:=by omega
     have hend:Hid (s2 = obO K cs s (offT v)):=by
      have h1:=hF.out
      rw [List.drop_of_length_le (by have:=hzl.out;omega)] at h1
      exact h1
     go_wp2_with fail
     go_roundg (ps.length + 1 - (j + 1))
     case measure=>have:=HM.out;have:=HLT.out;omega
     case rel=>exact ⟨j + 1,_,rfl,by go_num,rfl,HLT.out,by rw [hend.out];exact hE2.out,HB2.out.trans HBI.out⟩
  ·have hj':j = ps.length:=by have:=hj.out;omega
   subst hj'
   have r1:¬ (ps.length:Int) < ps.length:=by omega
   have hend:Hid (s = obV K cs [] vs):=by
    have h1:=hE.out
    rw [List.drop_of_length_le (by have:=HPL.out;omega)] at h1
    exact h1
   have cl:=hide fun w=>letters_c s w
   rw [hend.out] at cl
   have hend2:=hend.out
   subst hend2
   go_wp2_with ((go_at_call 127;(with_reducible refine (cl.out _).mono ?_);rintro e W2 ⟨rfl,rfl⟩))
   go_ret
   exact ⟨rfl,HBW.out⟩
theorem barbsOf_c (l:Str) (hs:Short l) (K:UInt8) (hK:K = 33∨K = 63) (ov:Option Str) (w:World)
  (hov:(startT l = none∧ov = none)∨∃ u cs vs,startT l = some (txt u)∧Std u cs vs∧(txt u).length≤300∧ov = some (ovV K cs [] vs)):
  Calls Tryz.prog 55 #[.string (S l),.int .u8 K.toNat] w fun e w'=>e = .returned (optV ov)∧Bl w w':=by
 rcases hov with ⟨h1,rfl⟩ | ⟨u,cs,vs,h1,H,hl,rfl⟩
 ·have cs:=hide fun w=>stateOf_no l hs h1 w
  clear h1
  go_enter Tryz.func55,Tryz.ntmps55
  go_wp2_with ((go_at_call 57;(with_reducible refine (cs.out _).mono ?_);rintro e w' ⟨rfl,b1⟩))
  go_ret2
  exact ⟨rfl,b1⟩
 ·have cst:=hide fun w=>stateOf_yes l hs h1 H hl w
  have cb:=hide fun (st n base:Nat) w (h:StM w base st n cs vs)=>barbs_c H K hK h
  rw [barbs_eq hK (fun v hv=>(H.thr hv).1)] at cb
  clear h1 H hl hs
  generalize ovV K cs [] vs = o at *
  go_enter Tryz.func55,Tryz.ntmps55
  go_wp2_with (first | (go_at_call 57;(with_reducible refine (cst.out _).mono ?_);rintro e W1 ⟨st,rfl,h1,-,b1⟩;replace h1:=hide h1) | (go_at_call 102;(with_reducible refine (cb.out st _ _ _ h1.out).mono ?_);rintro e W2 ⟨rfl,b2⟩))
  go_ret2
  exact ⟨rfl,b1.trans b2⟩
end Go.Proofs.YtbibkgcbdnldbaaGreat
namespace Go.Proofs.YtbibkgcbdnldbaaGreat
open Go.RowKit
attribute [local go_sem] S_size S_toList S_lit S_get S_extract S_append drop_all
theorem sz_ofT:(Tryz.prog.info? 100).map (·.size)= some 5:=by kernel_rfl
theorem zero_ofT (w:World):(zeroValue 100).run Tryz.prog w = .ok (.agg #[.int .u8 0,.int .u8 0,.int .u8 0,.string (S []),.bool false]) w:=by kernel_rfl
theorem encT_all (x:OfT):(encT x).toArray.all (·.oneCell')= true:=all_oneCell_toArray (encT_one x)
theorem rdOver_yes {u : Tm} {cs : Str} {vs : List Tm} (H : Std u cs vs) (l : Str) (K : UInt8) (hl : (txt u).length ≤ 300) (w : World)
  (cst:Hid (∀ w,Calls Tryz.prog 60 #[.string (S l)] w fun e w'=>e = .returned (optV (some (txt u)))∧Bl w w')):
  Calls Tryz.prog 54 #[.string (S l),.int .u8 K.toNat] w fun e w'=>e = .returned (optV (some (ovV K cs [] vs)))∧Bl w w':=by
 have cf:=hide fun w=>nfFront_c u w H.nor.ok (by have:=H.nor.sz;omega)
 rw [H.nor.front] at cf
 have ct:=hide fun w=>nfThreads_c u cs vs w H.nor
 have hcs:cs.length≤60:=by have:=H.cnt;have:=H.nor.sz;rw [H.nor.eq,headT_size] at this;omega
 have ci:=hide fun w (c:UInt8)=>tmIn_c cs c w (by unfold Short;omega)
 have hvl:vs.length≤61:=by
  by_cases hne:vs = []
  ·subst hne;simp
  ·have:=H.size hne;omega
 have HH:=hide H
 generalize txt u = tu at *
 unfold optV at cst ⊢
 clear hcs H hl
 generalize txt (joinT 38 vs)= tj at *
 go_enter Tryz.func54,Tryz.ntmps54
 go_wp2_with (first | (go_at_call 60;(with_reducible refine (cst.out _).mono ?_);rintro e W1 ⟨rfl,b1⟩) | (go_at_call 81;(with_reducible refine (cf.out _).mono ?_);rintro e W1' ⟨rfl,rfl⟩) | (go_at_call 82;(with_reducible refine (ct.out _).mono ?_);rintro e W2 ⟨v0,rfl,hs2,b2⟩;obtain ⟨A,c,rfl⟩:=hs2.slen;rw [List.length_map] at hs2;have b2w:=hide (b1.trans b2);have HS2:=hide hs2;clear hs2 b1 b2))
 go_loopg [10,30] (vs.length + 1) (fun mm ov i wr=>∃ (j:Nat) (s:Str),mm = vs.length + 1 - j∧i = .int .i64 j∧ov = .string (S s)∧Hid (j≤vs.length)∧Hid (ovV K cs s (vs.drop j)= ovV K cs [] vs)∧Hid (Srt s)∧Hid (Bl W2 wr))
 case atStart=>exact ⟨0,[],rfl,rfl,rfl,Nat.zero_le _,rfl,Srt.nil,Bl.refl _⟩
 case round =>
  obtain ⟨j,s,hm,rfl,rfl,hj,hE,hsr,hbw⟩:=hrel
  have HM:=hide hm
  have q2:(0:Int)≤(j:Int):=by omega
  clear hm
  by_cases hlt:j < vs.length
  ·have q1 : (j : Int) < vs.length := by omega
   obtain ⟨v,hv⟩:∃ v,vs[j]? = some v:=⟨vs[j],by simp [hlt]⟩
   obtain ⟨a1,a2,a3,a4,a5,a6⟩:=HH.out.thr (List.mem_of_getElem? hv)
   have h60:=HH.out.thr2 (List.mem_of_getElem? hv)
   have hlen:(txt v).length≤40000:=by have:=txt_le v;omega
   have co:=hide fun w=>rdOffers_c v w (Tm.ok_mono (fun _=>small_wide) a1) a3 hlen (by omega)
   rcases (HS2.out.bl hbw.out).form with ⟨e,hq⟩ | ⟨g0,cc,e,-,-,hcell⟩
   ·have:=congrArg List.length hq;rw [List.length_map,List.length_nil] at this;omega
   have e':=congrArg (fun v=>match v with | Value.slice A _ c=>(A,c) | _=>(none,0)) e
   simp only [List.length_map,Prod.mk.injEq] at e'
   obtain ⟨rfl,rfl⟩:=e'
   have hcp:=hcell j (txt v) (by rw [List.getElem?_map,hv];rfl)
   have hdr:vs.drop j = v :: vs.drop (j + 1):=by
    rw [List.drop_eq_getElem_cons hlt]
    congr 1
    exact (List.getElem?_eq_some_iff.1 hv).2
   have hE2:Hid (ovV K cs (ovO K cs s (offT v)) (vs.drop (j + 1))= ovV K cs [] vs):=by
    have h1:=hE.out
    rw [hdr] at h1
    exact h1
   have hol:Hid ((offT v).length≤60):=by have:=offT_len v;unfold Hid;omega
   have HLT:=hide hlt
   have hsr0:=hsr
   generalize txt v = tv at *
   generalize offT v = offs at *
   clear hcell hdr hE hlt hv a1 a2 a3 a4 a5 a6 hlen h60 e
   go_wp2_with ((go_at_call 99;(with_reducible refine (co.out _).mono ?_);rintro e W3' ⟨v2,rfl,y2,b2⟩;obtain ⟨A2,c2,rfl⟩:=y2.slice;have Y2:=hide y2;have HB2:=hide (hbw.out.trans b2);clear y2 b2))
   have hzl':(offs.length:Int)≤61:=by have:=hol.out;omega
   obtain ⟨wo,hwo⟩:∃ x,x = wr:=⟨_,rfl⟩
   subst hwo
   go_loopg [10,37] (offs.length + 1) (fun mm ov i wi=>∃ (i2:Nat) (s2:Str),mm = offs.length + 1 - i2∧i = .int .i64 i2∧ov = .string (S s2)∧Hid (i2≤offs.length)∧Hid (ovO K cs s2 (offs.drop i2)= ovO K cs s offs)∧Hid (Srt s2)∧Bl W3' wi)
   case atStart=>exact ⟨0,s,rfl,rfl,rfl,Nat.zero_le _,rfl,hsr0.out,Bl.refl _⟩
   case round =>
    obtain ⟨i2,s2,hm2,rfl,rfl,hi2,hF,hs2r,hbi⟩:=hrel
    have HM2:=hide hm2
    have r2:(0:Int)≤(i2:Int):=by omega
    have HBI:=hide hbi
    clear hm2
    by_cases hlt2:i2 < offs.length
    ·have r1:(i2:Int) < offs.length:=by omega
     obtain ⟨x,hx⟩:∃ x,offs[i2]? = some x:=⟨offs[i2],by simp [hlt2]⟩
     rcases (Y2.out.bl hbi).form encT_len with ⟨e,hq⟩ | ⟨g2,cc2,cur2,e,-,-,-,hcell2⟩
     ·rw [hq] at hlt2;simp at hlt2
     cases e
     have hcz:=hide (hcell2 i2 x hx)
     have hdx:offs.drop i2 = x :: offs.drop (i2 + 1):=by
      rw [List.drop_eq_getElem_cons hlt2]
      congr 1
      exact (List.getElem?_eq_some_iff.1 hx).2
     have hF2:Hid (ovO K cs (if x.k = K∧x.a∉cs then add x.a s2 else s2) (offs.drop (i2 + 1))= ovO K cs s offs):=by
      have h1:=hF.out
      rw [hdx] at h1
      exact h1
     have HLT2:=hide hlt2
     have ci1:=hide fun w=>ci.out w x.a
     have hl256:=hs2r.out.len
     have ca:=hide fun w=>tmAdd_c s2 x.a w (by unfold Short;omega)
     have hadd:Hid (Srt (add x.a s2)):=Srt.add hs2r.out
     clear hcell2 hdx hF hx hlt2 hl256
     by_cases hxk:x.k = K
     ·have e1:((x.k.toNat:Int)== (K.toNat:Int))= true:=by rw [hxk];exact beq_self_eq_true _
      by_cases hxa:x.a∈cs
      ·rw [decide_eq_true hxa] at ci1
       have hF3:Hid (ovO K cs s2 (offs.drop (i2 + 1))= ovO K cs s offs):=by
        have h1:=hF2.out
        rw [if_neg (fun h=>h.2 hxa)] at h1;exact h1
       clear hF2 hxa hxk
       go_wp2_with (first | (refine ld_row rfl 100 (.tmp 39) rfl g2 (i2 * 5) (encT x) _ (by simp [Act.eval,Act.put]) hcz.out Tryz.underlying100 rfl sz_ofT ?_) | (refine alloc_op rfl 100 rfl _ zero_ofT ?_;intro G W3 hG b3 s3) | (refine st_blk rfl 100 (.tmp 14) (.tmp 40) rfl G 100 _ (encT x).toArray rfl rfl hG rfl sz_ofT (encT_all x) ?_;intro W4 hG4 x4;have b4:Hid (Bl W3' W4):=(Fx.bl' (HBI.out.trans b3) (.of_bx x4) (fun k hk=>by subst hk;have h1:=s3.out;have:=Below.size HBI.out;omega));have g0:W4.cell? ⟨G,0,none⟩= some (.int .u8 x.k.toNat):=blk_cell (i:=0) hG4 rfl;have g1:W4.cell? ⟨G,1,none⟩= some (.int .u8 x.a.toNat):=blk_cell (i:=1) hG4 rfl) | (go_at_call 100;(with_reducible refine (ci1.out _).mono ?_);rintro e W5 ⟨rfl,rfl⟩))
       go_roundg (offs.length + 1 - (i2 + 1))
       case measure=>have:=HM2.out;have:=HLT2.out;omega
       case rel=>exact ⟨i2 + 1,s2,rfl,by go_num,rfl,HLT2.out,hF3.out,hs2r.out,b4.out⟩
      ·rw [decide_eq_false hxa] at ci1
       have hF3:Hid (ovO K cs (add x.a s2) (offs.drop (i2 + 1))= ovO K cs s offs):=by
        have h1:=hF2.out
        rw [if_pos ⟨hxk,hxa⟩] at h1;exact h1
       clear hF2 hxa hxk
       go_wp2_with (first | (refine ld_row rfl 100 (.tmp 39) rfl g2 (i2 * 5) (encT x) _ (by simp [Act.eval,Act.put]) hcz.out Tryz.underlying100 rfl sz_ofT ?_) | (refine alloc_op rfl 100 rfl _ zero_ofT ?_;intro G W3 hG b3 s3) | (refine st_blk rfl 100 (.tmp 14) (.tmp 40) rfl G 100 _ (encT x).toArray rfl rfl hG rfl sz_ofT (encT_all x) ?_;intro W4 hG4 x4;have b4:Hid (Bl W3' W4):=(Fx.bl' (HBI.out.trans b3) (.of_bx x4) (fun k hk=>by subst hk;have h1:=s3.out;have:=Below.size HBI.out;omega));have g0:W4.cell? ⟨G,0,none⟩= some (.int .u8 x.k.toNat):=blk_cell (i:=0) hG4 rfl;have g1:W4.cell? ⟨G,1,none⟩= some (.int .u8 x.a.toNat):=blk_cell (i:=1) hG4 rfl) | (go_at_call 100;(with_reducible refine (ci1.out _).mono ?_);rintro e W5 ⟨rfl,rfl⟩) | (go_at_call 101;(with_reducible refine (ca.out _).mono ?_);rintro e W6 ⟨rfl,b6⟩;have b4:=hide (b4.out.trans b6)))
       go_roundg (offs.length + 1 - (i2 + 1))
       case measure=>have:=HM2.out;have:=HLT2.out;omega
       case rel=>exact ⟨i2 + 1,add x.a s2,rfl,by go_num,rfl,HLT2.out,hF3.out,hadd.out,b4.out⟩
     ·have e1:((x.k.toNat:Int)== (K.toNat:Int))= false:=ne_int (d:=K) hxk
      have hF3:Hid (ovO K cs s2 (offs.drop (i2 + 1))= ovO K cs s offs):=by
       have h1:=hF2.out
       rw [if_neg (fun h=>hxk h.1)] at h1;exact h1
      clear hF2 hxk
      go_wp2_with (first | (refine ld_row rfl 100 (.tmp 39) rfl g2 (i2 * 5) (encT x) _ (by simp [Act.eval,Act.put]) hcz.out Tryz.underlying100 rfl sz_ofT ?_) | (refine alloc_op rfl 100 rfl _ zero_ofT ?_;intro G W3 hG b3 s3) | (refine st_blk rfl 100 (.tmp 14) (.tmp 40) rfl G 100 _ (encT x).toArray rfl rfl hG rfl sz_ofT (encT_all x) ?_;intro W4 hG4 x4;have b4:Hid (Bl W3' W4):=(Fx.bl' (HBI.out.trans b3) (.of_bx x4) (fun k hk=>by subst hk;have h1:=s3.out;have:=Below.size HBI.out;omega));have g0:W4.cell? ⟨G,0,none⟩= some (.int .u8 x.k.toNat):=blk_cell (i:=0) hG4 rfl;have g1:W4.cell? ⟨G,1,none⟩= some (.int .u8 x.a.toNat):=blk_cell (i:=1) hG4 rfl))
      go_roundg (offs.length + 1 - (i2 + 1))
      case measure=>have:=HM2.out;have:=HLT2.out;omega
      case rel=>exact ⟨i2 + 1,s2,rfl,by go_num,rfl,HLT2.out,hF3.out,hs2r.out,b4.out⟩
    ·have hi':i2 = offs.length:=by have:=hi2.out;omega
     subst hi'
     have r1:¬ (offs.length:Int) < offs.length:=by omega
     have hend:Hid (s2 = ovO K cs s offs):=by
      have h1:=hF.out
      rw [List.drop_length] at h1
      exact h1
     go_wp2_with fail
     go_roundg (vs.length + 1 - (j + 1))
     case measure=>have:=HM.out;have:=HLT.out;omega
     case rel=>exact ⟨j + 1,_,rfl,by go_num,rfl,HLT.out,by rw [hend.out];exact hE2.out,hs2r.out,HB2.out.trans HBI.out⟩
  ·have hj':j = vs.length:=by have:=hj.out;omega
   subst hj'
   have r1:¬ (vs.length:Int) < vs.length:=by omega
   have hend:Hid (s = ovV K cs [] vs):=by
    have h1:=hE.out
    rw [List.drop_length] at h1
    exact h1
   go_wp2_with fail
   go_ret2
   exact ⟨by rw [← hend.out];rfl,b2w.out.trans hbw.out⟩
theorem rdOver_no (l:Str) (K:UInt8) (w:World)
  (cst:Hid (∀ w,Calls Tryz.prog 60 #[.string (S l)] w fun e w'=>e = .returned (optV none)∧Bl w w')):
  Calls Tryz.prog 54 #[.string (S l),.int .u8 K.toNat] w fun e w'=>e = .returned (optV none)∧Bl w w':=by
 unfold optV at cst ⊢
 go_enter Tryz.func54,Tryz.ntmps54
 go_wp2_with ((go_at_call 60;(with_reducible refine (cst.out _).mono ?_);rintro e W1 ⟨rfl,b1⟩))
 go_ret2
 exact ⟨rfl,b1⟩
end Go.Proofs.YtbibkgcbdnldbaaGreat
