/- What is written as bytes, in plain Lean. No program in sight. -/
import Derived.Test.YtpmdkmpmpjdglaaData
set_option linter.unusedSimpArgs false
set_option linter.unusedVariables false
namespace Go.Proofs.Ytpmdkmpmpjdglaa
open Go

/-- Byte number k of a number, the lowest is 0. -/
def byteAt (n : Int) (k : Nat) : UInt8 := UInt8.ofNat ((n.toNat / 2 ^ (8 * k)) % 256)
/-- n in size bytes, the highest first. -/
def be (n : Int) (size : Nat) : List UInt8 := (List.range size).map fun j => byteAt n (size - 1 - j)
theorem be_length (n : Int) (size : Nat) : (be n size).length = size := by simp [be]
theorem be_take (n : Int) (size j : Nat) (h : j < size) : (be n size).take (j + 1) = (be n size).take j ++ [byteAt n (size - 1 - j)] := by
  rw [List.take_succ_eq_append_getElem (by rw [be_length]; exact h)]
  simp [be]
theorem byteAt_int {n : Int} (h : 0 ≤ n) (k : Nat) : ((byteAt n k).toNat : Int) = n / 2 ^ (8 * k) % 256 := by
  obtain ⟨m, rfl⟩ := Int.eq_ofNat_of_zero_le h
  have h1 : (byteAt (m : Int) k).toNat = m / 2 ^ (8 * k) % 256 := by
    unfold byteAt
    rw [Int.toNat_natCast, UInt8.toNat_ofNat']
    exact Nat.mod_eq_of_lt (Nat.mod_lt _ (by decide))
  rw [h1]
  simp
def fitsN (n : Int) (size : Nat) : Bool := decide (0 ≤ n) && decide (n < 2 ^ (8 * size))

/-- A Writer: what is written; could all be? -/
abbrev WS := List UInt8 × Bool
def wAdd (s : WS) (l : List UInt8) (eb : Bool) : WS := (s.1 ++ l, s.2 || eb)
def wNum (s : WS) (x : Int) (k : Nat) : WS := if fitsN x k then (s.1 ++ be x k, s.2) else (s.1, true)
theorem wNum_len (s : WS) (x : Int) (k : Nat) : (wNum s x k).1.length ≤ s.1.length + k := by
  unfold wNum; split
  · simp [be_length]
  · simp

def wDot (s : WS) (d : Dot) : WS := wNum (wNum s d.peer 1) d.n 4
def wStamp (s : WS) (x : Stamp) : WS := wNum (wNum (wNum s x.phys 6) x.logic 3) x.peer 1
def wNumsL (s : WS) (l : List Int) : WS := l.foldl (fun s n => wNum s n 4) s
def wNums (s : WS) (l : List Int) : WS := wNumsL (wNum (s.1, s.2 || decide (5 < l.length)) l.length 1) l
theorem wNumsL_len (l : List Int) : ∀ s : WS, (wNumsL s l).1.length ≤ s.1.length + 4 * l.length := by
  induction l with
  | nil => intro s; exact Nat.le_refl _
  | cons x l ih => intro s; have := ih (wNum s x 4); have := wNum_len s x 4; simp only [wNumsL, List.foldl_cons, List.length_cons] at *; omega
theorem wNums_len (s : WS) (l : List Int) : (wNums s l).1.length ≤ s.1.length + 1 + 4 * l.length := by
  have h1 := wNumsL_len l (wNum (s.1, s.2 || decide (5 < l.length)) l.length 1)
  have h2 := wNum_len (s.1, s.2 || decide (5 < l.length)) l.length 1
  unfold wNums
  simp only at h2
  omega
theorem wDot_len (s : WS) (d : Dot) : (wDot s d).1.length ≤ s.1.length + 5 := by
  have h1 := wNum_len s d.peer 1; have h2 := wNum_len (wNum s d.peer 1) d.n 4; unfold wDot; omega
theorem wStamp_len (s : WS) (x : Stamp) : (wStamp s x).1.length ≤ s.1.length + 10 := by
  have h1 := wNum_len s x.phys 6; have h2 := wNum_len (wNum s x.phys 6) x.logic 3; have h3 := wNum_len (wNum (wNum s x.phys 6) x.logic 3) x.peer 1; unfold wStamp; omega
theorem wNumsL_take (s : WS) (l : List Int) (k : Nat) (h : k < l.length) : wNumsL s (l.take (k + 1)) = wNum (wNumsL s (l.take k)) (gt l k) 4 := by
  unfold wNumsL
  rw [List.take_succ_eq_append_getElem h, gt_eq (List.getElem?_eq_getElem h), List.foldl_append]
  rfl

/-! ### texts, values, rows, operations, messages -/
def textB (t : ByteArray) : List UInt8 := UInt8.ofNat t.size :: t.data.toList
def wText (s : WS) (t : ByteArray) : WS := if t.size ≤ 24 then (s.1 ++ textB t, s.2) else (s.1, true)
def valOk (v : Val) : Bool :=
  (decide (v.kind = 1) && decide (v.i = 0) && decide (v.s.size = 0)) || (decide (v.kind = 2) && (decide (v.i = 0) || decide (v.i = 1)) && decide (v.s.size = 0)) ||
  (decide (v.kind = 3) && (decide (-1152921504606846976 ≤ v.i) && decide (v.i ≤ 1152921504606846976)) && decide (v.s.size = 0)) || (decide (v.kind = 4) && decide (v.i = 0) && decide (v.s.size ≤ 24))
def intB (n : Int) : List UInt8 := (if n < 0 then 1 else 0) :: be n.natAbs 8
def valB (v : Val) : List UInt8 := byteAt v.kind 0 :: (if v.kind = 2 then [byteAt v.i 0] else if v.kind = 3 then intB v.i else if v.kind = 4 then textB v.s else [])
def rowOk (r : List Val) : Bool := decide (r.length ≤ 12) && r.all valOk
def rowB (r : List Val) : List UInt8 := byteAt r.length 0 :: r.flatMap valB
def wRow (s : WS) (r : List Val) : WS := if rowOk r then (s.1 ++ rowB r, s.2) else (s.1, true)
def wHead (s : WS) (x : Opn) : WS := wStamp (wNums (wDot (wNum s x.kind 1) x.dot) x.deps) x.stamp
def wMid (s : WS) (x : Opn) : WS := wRow (wNum (wText (wNum (wHead s x) x.table 1) x.key) x.col 1) x.vals
def wDots (s : WS) (l : List Dot) : WS := l.foldl wDot s
def wOp (s : WS) (x : Opn) : WS := wDots (wNum ((wMid s x).1, (wMid s x).2 || decide (64 < x.dots.length)) x.dots.length 1) x.dots
def wOps (s : WS) (l : List Opn) : WS := l.foldl wOp s
def wMsgHead (m : Msg) : WS := wNum (wNums (wNums (wNum (wNum (wNum ([], false) m.kind 1) m.fr 1) m.to 1) m.have_) m.safe) m.ops.length 2
def wMsg (m : Msg) : WS := wOps (wMsgHead m) m.ops

theorem textB_len (t : ByteArray) : (textB t).length = t.size + 1 := by simp [textB]
theorem wText_len (s : WS) (t : ByteArray) : (wText s t).1.length ≤ s.1.length + 25 := by
  unfold wText; split
  · rw [List.length_append, textB_len]; omega
  · simp
theorem valB_len (v : Val) (h : valOk v) : (valB v).length ≤ 26 := by
  unfold valB
  split
  · simp
  · split
    · simp [intB, be_length]
    · split
      · rename_i h4
        have : v.s.size ≤ 24 := by
          unfold valOk at h
          simp [h4] at h
          exact h.2
        rw [List.length_cons, textB_len]; omega
      · simp
theorem rowB_len (r : List Val) (h : rowOk r) : (rowB r).length ≤ 400 := by
  unfold rowOk at h
  simp only [Bool.and_eq_true, decide_eq_true_eq, List.all_eq_true] at h
  have h2 : ∀ l : List Val, (∀ v ∈ l, valOk v = true) → (l.flatMap valB).length ≤ 26 * l.length := by
    intro l
    induction l with
    | nil => intro _; simp
    | cons v l ih => intro h; have h1 := valB_len v (h v (by simp)); have h3 := ih (fun x hx => h x (by simp [hx])); rw [List.flatMap_cons, List.length_append, List.length_cons]; omega
  have := h2 r h.2
  have := h.1
  unfold rowB
  rw [List.length_cons]
  omega
theorem wRow_len (s : WS) (r : List Val) : (wRow s r).1.length ≤ s.1.length + 400 := by
  unfold wRow; split
  · rename_i h; have := rowB_len r h; simp; omega
  · simp
theorem wHead_len (s : WS) (x : Opn) : (wHead s x).1.length ≤ s.1.length + 20 + 4 * x.deps.length := by
  have h1 := wNum_len s x.kind 1; have h2 := wDot_len (wNum s x.kind 1) x.dot; have h3 := wNums_len (wDot (wNum s x.kind 1) x.dot) x.deps; have h4 := wStamp_len (wNums (wDot (wNum s x.kind 1) x.dot) x.deps) x.stamp
  unfold wHead; omega
theorem wMid_len (s : WS) (x : Opn) : (wMid s x).1.length ≤ s.1.length + 450 + 4 * x.deps.length := by
  have h1 := wHead_len s x; have h2 := wNum_len (wHead s x) x.table 1; have h3 := wText_len (wNum (wHead s x) x.table 1) x.key; have h4 := wNum_len (wText (wNum (wHead s x) x.table 1) x.key) x.col 1
  have h5 := wRow_len (wNum (wText (wNum (wHead s x) x.table 1) x.key) x.col 1) x.vals
  unfold wMid; omega
theorem wDots_len (l : List Dot) : ∀ s : WS, (wDots s l).1.length ≤ s.1.length + 5 * l.length := by
  induction l with
  | nil => intro s; exact Nat.le_refl _
  | cons x l ih => intro s; have := ih (wDot s x); have := wDot_len s x; simp only [wDots, List.foldl_cons, List.length_cons] at *; omega
theorem wOp_len (s : WS) (x : Opn) : (wOp s x).1.length ≤ s.1.length + 451 + 4 * x.deps.length + 5 * x.dots.length := by
  have h1 := wMid_len s x; have h2 := wNum_len ((wMid s x).1, (wMid s x).2 || decide (64 < x.dots.length)) x.dots.length 1
  have h3 := wDots_len x.dots (wNum ((wMid s x).1, (wMid s x).2 || decide (64 < x.dots.length)) x.dots.length 1)
  unfold wOp; simp only at h2; omega
theorem wDots_take (s : WS) (l : List Dot) (k : Nat) (h : k < l.length) : wDots s (l.take (k + 1)) = wDot (wDots s (l.take k)) (gt l k) := by
  unfold wDots
  rw [List.take_succ_eq_append_getElem h, gt_eq (List.getElem?_eq_getElem h), List.foldl_append]
  rfl
theorem wOps_nil (s : WS) : wOps s [] = s := rfl
theorem wDots_nil (s : WS) : wDots s [] = s := rfl
theorem wOps_take (s : WS) (l : List Opn) (k : Nat) (h : k < l.length) : wOps s (l.take (k + 1)) = wOp (wOps s (l.take k)) (gt l k) := by
  unfold wOps
  rw [List.take_succ_eq_append_getElem h, gt_eq (List.getElem?_eq_getElem h), List.foldl_append]
  rfl
/-- An operation of not too great a size. -/
def Small (x : Opn) : Prop := x.deps.length ≤ 1000 ∧ x.dots.length ≤ 1000 ∧ x.vals.length ≤ 1000
theorem wOps_len (l : List Opn) (h : ∀ x ∈ l, Small x) : ∀ s : WS, (wOps s l).1.length ≤ s.1.length + 10000 * l.length := by
  induction l with
  | nil => intro s; exact Nat.le_refl _
  | cons x l ih => intro s; have h1 := ih (fun y hy => h y (by simp [hy])) (wOp s x); have h2 := wOp_len s x; have h3 := h x (by simp); unfold Small at h3; simp only [wOps, List.foldl_cons, List.length_cons] at *; omega
theorem wMsgHead_len (m : Msg) : (wMsgHead m).1.length ≤ 7 + 4 * m.have_.length + 4 * m.safe.length := by
  unfold wMsgHead
  have h1 := wNum_len ([], false) m.kind 1
  have h2 := wNum_len (wNum ([], false) m.kind 1) m.fr 1
  have h3 := wNum_len (wNum (wNum ([], false) m.kind 1) m.fr 1) m.to 1
  have h4 := wNums_len (wNum (wNum (wNum ([], false) m.kind 1) m.fr 1) m.to 1) m.have_
  have h5 := wNums_len (wNums (wNum (wNum (wNum ([], false) m.kind 1) m.fr 1) m.to 1) m.have_) m.safe
  have h6 := wNum_len (wNums (wNums (wNum (wNum (wNum ([], false) m.kind 1) m.fr 1) m.to 1) m.have_) m.safe) m.ops.length 2
  simp only [List.length_nil] at h1
  omega
end Go.Proofs.Ytpmdkmpmpjdglaa
