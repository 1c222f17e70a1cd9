/- The codings of the program: fresh names as texts, what is told, names of processes. -/
import Derived.Test.YtbnglmpceahmgaaIf
import Derived.Test.YtbnglmpceahmgaaTc
import Derived.Test.YtbnglmpceahmgaaShelf
import Derived.Test.YtbnglmpceahmgaaSm
namespace Go.Proofs.Ytbnglmpceahmgaa
open Go.RowKit
set_option maxRecDepth 100000
set_option maxHeartbeats 2000000
set_option linter.unusedVariables false
set_option linter.unusedSimpArgs false
attribute [local go_sem] S_size S_toList S_lit S_get S_extract S_append drop_all

theorem join_flat : ∀ xs : List Str, Lib.join xs [] = xs.flatten
  | [] => rfl
  | x :: r => by rw [Lib.join_cons]; simp [Lib.joinTail]

/-- A list of texts in memory. -/
def Txts (w : World) (bk : Nat) (xs : List Str) : Prop := ∀ (j : Nat) x, xs[j]? = some x → w.cell? ⟨bk, j, none⟩ = some (.string (S x))

theorem join_c (bk c : Nat) (xs : List Str) (w : World) (hcells : Txts w bk xs) (hx : 0 < xs.length) (hN : xs.length ≤ 1000) (hcap : xs.length ≤ c) (hlen : xs.flatten.length ≤ 1000000) :
    Calls Try.prog 137 #[.slice (some ⟨bk, 0, none⟩) xs.length c, .string (S [])] w fun e w' => e = .returned (.string (S xs.flatten)) ∧ Bl w w' := by
  have hm : (xs.map S).map (fun s : ByteArray => s.data.toList) = xs := by
    rw [List.map_map]
    conv => rhs; rw [← List.map_id xs]
    apply List.map_congr_left
    intro x _; simp [S]
  have h := Try.strings_Join bk 0 c (xs.map S) (S []) w (by
      intro j x hj
      rw [List.getElem?_map] at hj
      obtain ⟨y, hy, rfl⟩ := Option.map_eq_some_iff.1 hj
      rw [Nat.zero_add]; exact hcells j y hy) (by
      have h0 : xs[0]? = some xs[0] := List.getElem?_eq_getElem hx
      exact cell_lt (hcells 0 _ h0)) (by rw [List.length_map]; omega) (by rw [List.length_map]; exact hcap)
      (by rw [hm, show (S []).data.toList = [] from rfl, join_flat]; omega)
  rw [List.length_map, hm, show (S []).data.toList = [] from rfl, join_flat] at h
  exact h

/-- The coder's state. -/
structure Cdr (w : World) (g : Nat) (bad : Bool) : Prop where
  sh : w.shape? g = some (53, 1)
  c0 : w.cell? ⟨g, 0, none⟩ = some (.bool bad)
  f0 : w.frozen? ⟨g, 0, none⟩ = false

theorem Cdr.bl {w w' : World} (hb : Bl w w') {g : Nat} {bad : Bool} (h : Cdr w g bad) : Cdr w' g bad :=
  ⟨hb.shape h.sh, cell_kept hb h.c0, by rw [Below.frozen hb (shape_lt h.sh)]; exact h.f0⟩
theorem Cdr.set {w : World} {g : Nat} {bad : Bool} (h : Cdr w g bad) (b : Bool) : Cdr (w.setCell ⟨g, 0, none⟩ (.bool b)) g b :=
  ⟨by rw [shape_set]; exact h.sh, World.cell?_setCell_same _ _ _ h.c0, by simp [h.f0]⟩
theorem Cdr.new (w : World) : Cdr (w.alloc (.cells #[.bool false] 53)) w.heap.size false :=
  ⟨shape_alloc_new _ _ _, by simp, by simp⟩
theorem Cdr.lt {w : World} {g : Nat} {bad : Bool} (h : Cdr w g bad) : g < w.heap.size := shape_lt h.sh

/-- The fresh letter that the program takes: the first one if there is none. -/
def freshI (s : Str) : UInt8 := (freshS s).getD 97
def noneB (s : Str) : Bool := (freshS s).isNone

theorem freshI_small (s : Str) : smallB (freshI s) = true := by
  unfold freshI
  cases h : freshS s with
  | none => rfl
  | some c => exact (freshS_some h).1

theorem encode_small (c : UInt8) (h : smallB c = true) : Utf8.encode (c.toNat : Int) = S [c] := encode_S c (by unfold smallB at h; simp at h; omega)

theorem cfresh_c (g : Nat) (bad : Bool) (bk c : Nat) (xs : List Str) (w : World) (C : Cdr w g bad) (hcells : Txts w bk xs) (hx : 0 < xs.length) (hN : xs.length ≤ 1000) (hcap : xs.length ≤ c) (hlen : xs.flatten.length ≤ 1000000) (ha : xs.flatten.all smallB = true) :
    Calls Try.prog 78 #[.pointer (some ⟨g, 0, none⟩), .slice (some ⟨bk, 0, none⟩) xs.length c] w fun e w' => e = .returned (.string (S [freshI xs.flatten])) ∧ Cdr w' g (bad || noneB xs.flatten) ∧ Bx g w w' := by
  have c1 := hide (join_c bk c xs w hcells hx hN hcap hlen)
  have c2 := hide fun w => setOf_c xs.flatten w (short_of hlen) ha
  have c3 := hide fun w => fresh_c xs.flatten w
  clear hcells hx hN hcap ha
  cases hf : freshS xs.flatten with
  | none =>
    have hv := freshV_none hf
    rw [hv] at c3
    have hi : Hid (freshI xs.flatten = 97) := by unfold Hid freshI; rw [hf]; rfl
    have hn : Hid ((bad || noneB xs.flatten) = true) := by unfold Hid noneB; rw [hf]; simp
    clear hf hv hlen
    go_enter Try.func78, Try.ntmps78
    go_wp2_with (first | (go_at_call 137; (with_reducible refine (c1.out).mono ?_); rintro e w' ⟨rfl, hb⟩) | (go_at_call 113; (with_reducible refine (c2.out _).mono ?_); rintro e w' ⟨rfl, rfl⟩) | (go_at_call 112; (with_reducible refine (c3.out _).mono ?_); rintro e w' ⟨rfl, rfl⟩; have C2 := C.bl hb; obtain ⟨r0, r1, r2⟩ := id C2))
    go_ret
    exact ⟨ret_str (by rw [hi.out]), by rw [hn.out]; exact C2.set true, (Bx.of_bl hb).trans (bx_set g 0 _ _)⟩
  | some x =>
    have hv := freshV_some hf
    rw [hv] at c3
    have hi : Hid (freshI xs.flatten = x) := by unfold Hid freshI; rw [hf]; rfl
    have hn : Hid ((bad || noneB xs.flatten) = bad) := by unfold Hid noneB; rw [hf]; simp
    have en := encode_small x (freshS_some hf).1
    have hx1 := x.toNat_lt
    have hx2 : (x.toNat : Int) < 256 := by omega
    have hx3 : (0 : Int) ≤ (x.toNat : Int) := by omega
    clear hf hv hlen
    go_enter Try.func78, Try.ntmps78
    go_wp2_with (first | (go_at_call 137; (with_reducible refine (c1.out).mono ?_); rintro e w' ⟨rfl, hb⟩) | (go_at_call 113; (with_reducible refine (c2.out _).mono ?_); rintro e w' ⟨rfl, rfl⟩) | (go_at_call 112; (with_reducible refine (c3.out _).mono ?_); rintro e w' ⟨rfl, rfl⟩))
    go_ret
    exact ⟨ret_str (by rw [hi.out]), by rw [hn.out]; exact C.bl hb, Bx.of_bl hb⟩

theorem ctold_c (g : Nat) (bad : Bool) (l : Str) (w : World) (C : Cdr w g bad) (hs : Short l) :
    Calls Try.prog 75 #[.pointer (some ⟨g, 0, none⟩), .string (S l)] w fun e w' => e = .returned (if bad then failV else ifV l) ∧ Bl w w' := by
  have c1 := hide fun w => isProcess_c l w hs
  obtain ⟨r0, r1, r2⟩ := C
  have hv : Hid (ifV l = .tuple #[.string (S (if goodB l then l else [])), .bool (goodB l)]) := rfl
  cases bad
  · cases hg : goodB l <;> rw [hg] at c1 hv
    · go_enter Try.func75, Try.ntmps75
      go_wp2_with ((go_at_call 52; (with_reducible refine (c1.out _).mono ?_); rintro e w' ⟨rfl, hb⟩))
      go_ret2
      exact ⟨by rw [hv.out]; rfl, hb⟩
    · go_enter Try.func75, Try.ntmps75
      go_wp2_with ((go_at_call 52; (with_reducible refine (c1.out _).mono ?_); rintro e w' ⟨rfl, hb⟩))
      go_ret2
      exact ⟨by rw [hv.out]; rfl, hb⟩
  · go_enter Try.func75, Try.ntmps75
    go_wp2_with fail
    go_ret2
    exact ⟨rfl, Bl.refl _⟩

end Go.Proofs.Ytbnglmpceahmgaa
