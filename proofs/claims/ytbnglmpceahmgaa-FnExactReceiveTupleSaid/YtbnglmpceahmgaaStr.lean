/- Strings as lists of bytes, and the walk's laws on them. -/
import Derived.Test.YtbnglmpceahmgaaTm
import Derived.WalkKit
import Derived.WalkLawsBesides
namespace Go.Proofs.Ytbnglmpceahmgaa
open Go.RowKit

/-- The string with these bytes. -/
def S (l : Str) : ByteArray := ⟨l.toArray⟩

theorem S_all (s : ByteArray) : ∃ l, s = S l := ⟨s.data.toList, by cases s; simp [S]⟩
theorem S_size (l : Str) : (S l).size = l.length := by simp [S, ByteArray.size]
theorem S_toList (l : Str) : (S l).toList = l := ByteArray.toList_mk l
theorem S_append (l m : Str) : S l ++ S m = S (l ++ m) := ByteArray.mk_append_mk l m
theorem S_extract (l : Str) (a b : Nat) : (S l).extract a b = S ((l.drop a).take (b - a)) := ByteArray.extract_mk l a b
theorem S_lit (l : Str) : ByteArray.mk l.toArray = S l := rfl
theorem S_inj {l m : Str} (h : S l = S m) : l = m := by
  have := congrArg ByteArray.toList h
  simpa [S_toList] using this

theorem S_get (l : Str) (i : Nat) (h : i < (S l).size) : (S l)[i]'h = l[i]'(by simpa [S_size] using h) := by
  show (S l).data[i]'_ = _
  simp [S]

/-- A byte of a list, as the walk spells it. -/
def byteAt (l : Str) (i : Nat) : Int := ((l.getD i 0).toNat : Int)

theorem byteAt_range (l : Str) (i : Nat) : 0 ≤ byteAt l i ∧ byteAt l i < 256 := by
  unfold byteAt
  have := (l.getD i 0).toNat_lt
  omega

theorem run_index_S {P : Program} (w : World) (t : TypeId) (l : Str) (k : IntKind) (i : Int) (h : P.underlying t = some .string) (h0 : 0 ≤ i) (h1 : i < (l.length : Int)) :
    (Instr.index t (.string (S l)) (.int k i)).run P w = .ok (.int .u8 (byteAt l i.toNat)) w := by
  rw [run_index_string w t (S l) k i h, dif_pos ⟨h0, by rw [S_size]; exact h1⟩]
  rw [S_get]
  unfold byteAt
  rw [List.getD_eq_getElem?_getD, List.getElem?_eq_getElem (by omega)]
  rfl

theorem run_slice_S {P : Program} (w : World) (t : TypeId) (l : Str) (k k' : IntKind) (i j : Int) (h : P.underlying t = some .string)
    (h0 : 0 ≤ i) (h1 : i ≤ j) (h2 : j ≤ (l.length : Int)) :
    (Instr.slice t (.string (S l)) (some (.int k i)) (some (.int k' j)) none).run P w = .ok (.string (S ((l.drop i.toNat).take (j.toNat - i.toNat)))) w := by
  rw [run_slice_string w t (S l) k k' i j h h0 h1 (by rw [S_size]; exact h2), S_extract]

theorem run_slice_S_from {P : Program} (w : World) (t : TypeId) (l : Str) (k : IntKind) (i : Int) (h : P.underlying t = some .string)
    (h0 : 0 ≤ i) (h1 : i ≤ (l.length : Int)) :
    (Instr.slice t (.string (S l)) (some (.int k i)) none none).run P w = .ok (.string (S (l.drop i.toNat))) w := by
  rw [run_slice_string_from_if w t (S l) k i h, if_pos ⟨h0, by rw [S_size]; exact h1⟩, S_extract, S_size]
  rw [List.take_of_length_le (by simp)]

theorem run_slice_S_to {P : Program} (w : World) (t : TypeId) (l : Str) (k : IntKind) (j : Int) (h : P.underlying t = some .string)
    (h0 : 0 ≤ j) (h1 : j ≤ (l.length : Int)) :
    (Instr.slice t (.string (S l)) none (some (.int k j)) none).run P w = .ok (.string (S (l.take j.toNat))) w := by
  rw [run_slice_string_to_if w t (S l) k j h, if_pos ⟨h0, by rw [S_size]; exact h1⟩, S_extract]
  simp

theorem run_add_S {P : Program} (w : World) (l m : Str) (h : (l.length : Int) + m.length ≤ 9223372036854775807) :
    (Op.stringOp .add (S l) (S m)).run P w = .ok (.string (S (l ++ m))) w := by
  rw [run_string_add_sum w (S l) (S m) (by simp only [S_size]; omega), S_append]

theorem encode_S (c : UInt8) (h : c.toNat < 128) : Utf8.encode (c.toNat : Int) = S [c] := by
  unfold Utf8.encode
  have hv : Utf8.valid (c.toNat : Int) = true := by
    unfold Utf8.valid
    simp; omega
  simp only [hv, if_true]
  rw [if_pos (by omega)]
  simp [S]

theorem u8_eq (a b : UInt8) : ((a.toNat : Int) == (b.toNat : Int)) = (a == b) := by
  by_cases h : a = b
  · subst h; simp
  · have : ¬ (a.toNat : Int) = b.toNat := fun e => h (UInt8.toNat_inj.1 (by omega))
    rw [beq_eq_false_iff_ne.2 h, beq_eq_false_iff_ne.2 this]

end Go.Proofs.Ytbnglmpceahmgaa
