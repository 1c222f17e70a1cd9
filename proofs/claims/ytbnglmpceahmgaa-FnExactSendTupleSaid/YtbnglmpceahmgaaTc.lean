/- Codings of tuples and truth values as terms: plain Lean. -/
import Derived.Test.YtbnglmpceahmgaaTf
namespace Go.Proofs.Ytbnglmpceahmgaa

def many (k w : UInt8) (names : Str) (p : Tm) : Tm := names.foldr (fun n q => .un k w n q) p
def sendT (w a : UInt8) (names : Str) (p : Tm) : Tm := .un 35 0 w (.un 33 a w (many 33 w names p))
def recvT (w a : UInt8) (names : Str) (p : Tm) : Tm := .un 63 a w (many 63 w names p)

theorem many_txt (k w : UInt8) (hk : k = 33 ∨ k = 63) (p : Tm) : ∀ names : Str, txt (many k w names p) = names.flatMap (fun n => [w, k, n, 46]) ++ txt p
  | [] => rfl
  | n :: names => by
    have : many k w (n :: names) p = .un k w n (many k w names p) := rfl
    rw [this, txt, many_txt k w hk p names]
    rcases hk with rfl | rfl <;> simp [hd]
theorem sendT_txt (w a : UInt8) (names : Str) (p : Tm) : txt (sendT w a names p) = [35, w, 46, a, 33, w, 46] ++ names.flatMap (fun n => [w, 33, n, 46]) ++ txt p := by
  simp [sendT, txt, hd, many_txt 33 w (.inl rfl)]
theorem recvT_txt (w a : UInt8) (names : Str) (p : Tm) : txt (recvT w a names p) = [a, 63, w, 46] ++ names.flatMap (fun n => [w, 63, n, 46]) ++ txt p := by
  simp [recvT, txt, hd, many_txt 63 w (.inr rfl)]

theorem many_ok {nm : UInt8 → Bool} {k w : UInt8} (hk : k = 33 ∨ k = 63) (hw : nm w = true) {p : Tm} (hp : p.ok nm = true) : ∀ {names : Str}, names.all nm = true → (many k w names p).ok nm = true
  | [], _ => hp
  | n :: names, h => by
    have : many k w (n :: names) p = .un k w n (many k w names p) := rfl
    rw [List.all_cons, Bool.and_eq_true] at h
    rw [this, Tm.ok, many_ok hk hw hp h.2]
    rcases hk with rfl | rfl <;> simp [okhd, hw, h.1]
theorem sendT_ok {nm : UInt8 → Bool} {w a : UInt8} (hw : nm w = true) (ha : nm a = true) {p : Tm} (hp : p.ok nm = true) {names : Str} (h : names.all nm = true) : (sendT w a names p).ok nm = true := by
  simp [sendT, Tm.ok, okhd, hw, ha, many_ok (.inl rfl) hw hp h]
theorem recvT_ok {nm : UInt8 → Bool} {w a : UInt8} (hw : nm w = true) (ha : nm a = true) {p : Tm} (hp : p.ok nm = true) {names : Str} (h : names.all nm = true) : (recvT w a names p).ok nm = true := by
  simp [recvT, Tm.ok, okhd, hw, ha, many_ok (.inr rfl) hw hp h]

theorem sendT_w {w a : UInt8} {names : Str} {p : Tm} (h : (sendT w a names p).ok smallB = true) : smallB w = true := by
  simp [sendT, Tm.ok, okhd] at h; exact h.1
theorem recvT_w {w a : UInt8} {names : Str} {p : Tm} (h : (recvT w a names p).ok smallB = true) : smallB w = true := by
  simp [recvT, Tm.ok, okhd] at h; exact h.1.2
theorem many_p {k w : UInt8} {p : Tm} : ∀ {names : Str}, (many k w names p).ok smallB = true → p.ok smallB = true
  | [], h => h
  | n :: names, h => by
    have : many k w (n :: names) p = .un k w n (many k w names p) := rfl
    rw [this, Tm.ok, Bool.and_eq_true] at h
    exact many_p h.2
theorem many_n {k w : UInt8} {p : Tm} (hk : k = 33 ∨ k = 63) : ∀ {names : Str}, (many k w names p).ok smallB = true → names.all smallB = true
  | [], _ => rfl
  | n :: names, h => by
    have : many k w (n :: names) p = .un k w n (many k w names p) := rfl
    rw [this, Tm.ok, Bool.and_eq_true] at h
    rw [List.all_cons, many_n hk h.2]
    rcases hk with rfl | rfl <;> (simp [okhd] at h; simp [h])
theorem sendT_p {w a : UInt8} {names : Str} {p : Tm} (h : (sendT w a names p).ok smallB = true) : p.ok smallB = true ∧ names.all smallB = true := by
  simp only [sendT, Tm.ok, Bool.and_eq_true] at h; exact ⟨many_p h.2.2, many_n (.inl rfl) h.2.2⟩
theorem recvT_p {w a : UInt8} {names : Str} {p : Tm} (h : (recvT w a names p).ok smallB = true) : p.ok smallB = true ∧ names.all smallB = true := by
  simp only [recvT, Tm.ok, Bool.and_eq_true] at h; exact ⟨many_p h.2, many_n (.inr rfl) h.2⟩

theorem many_len (k w : UInt8) (hk : k = 33 ∨ k = 63) (p : Tm) (names : Str) : (txt (many k w names p)).length = 4 * names.length + (txt p).length := by
  rw [many_txt k w hk]
  induction names with
  | nil => simp
  | cons n names ih => simp at ih ⊢; omega
theorem sendT_len (w a : UInt8) (names : Str) (p : Tm) : (txt (sendT w a names p)).length = 7 + 4 * names.length + (txt p).length := by
  simp only [sendT, txt, hd, List.length_append, many_len 33 w (.inl rfl)]; simp; omega
theorem recvT_len (w a : UInt8) (names : Str) (p : Tm) : (txt (recvT w a names p)).length = 4 + 4 * names.length + (txt p).length := by
  simp only [recvT, txt, hd, List.length_append, many_len 63 w (.inr rfl)]; simp; omega

/-- The terms of the codings, with their fresh names. -/
def testT (x y z w a : UInt8) (p q : Tm) : Tm := .un 35 0 x (.un 35 0 y (.bin 38 (sendT w a [x, y] .zero) (.bin 38 (.un 63 x z p) (.un 63 y z q))))
def truthT (x y w a : UInt8) (v : Bool) : Tm := .un 42 0 0 (recvT w a [x, y] (.un 33 (if v then x else y) (if v then x else y) .zero))
def notT (x y w v a b : UInt8) : Tm := .un 42 0 0 (recvT w a [x, y] (sendT v b [y, x] .zero))
def bothT (x y u z v1 v2 b c : UInt8) : Tm := .un 35 0 u (.bin 38 (sendT v1 b [u, y] .zero) (.un 63 u z (sendT v2 c [x, y] .zero)))
def andT (x y u z v1 v2 w a b c : UInt8) : Tm := .un 42 0 0 (recvT w a [x, y] (bothT x y u z v1 v2 b c))

theorem testT_txt (x y z w a : UInt8) (p q : Tm) : txt (testT x y z w a p q) = 35 :: x :: 46 :: 35 :: y :: 46 :: 40 :: (txt (sendT w a [x, y] .zero) ++ 38 :: 40 :: x :: 63 :: z :: 46 :: (txt p ++ 38 :: y :: 63 :: z :: 46 :: (txt q ++ [41, 41]))) := by
  simp [testT, txt, hd]
theorem bothT_txt (x y u z v1 v2 b c : UInt8) : txt (bothT x y u z v1 v2 b c) = 35 :: u :: 46 :: 40 :: (txt (sendT v1 b [u, y] .zero) ++ 38 :: u :: 63 :: z :: 46 :: (txt (sendT v2 c [x, y] .zero) ++ [41])) := by
  simp [bothT, txt, hd]

end Go.Proofs.Ytbnglmpceahmgaa
