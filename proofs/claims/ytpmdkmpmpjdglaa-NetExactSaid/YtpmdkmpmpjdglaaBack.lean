/- What is written reads back, in plain Lean. -/
import Derived.Test.YtpmdkmpmpjdglaaReader
set_option linter.unusedSimpArgs false
set_option linter.unusedVariables false
namespace Go.Proofs.Ytpmdkmpmpjdglaa
open Go

theorem numB_cons (c : UInt8) (l : List UInt8) : numB (c :: l) = c.toNat * 256 ^ l.length + numB l := by
  have h : ∀ (l : List UInt8) (n : Nat), l.foldl (fun n c => n * 256 + c.toNat) n = n * 256 ^ l.length + numB l := by
    intro l
    induction l with
    | nil => intro n; simp [numB]
    | cons d l ih =>
      intro n
      have h1 := ih (n * 256 + d.toNat)
      have h2 := ih (0 * 256 + d.toNat)
      have h3 : numB (d :: l) = l.foldl (fun n c => n * 256 + c.toNat) (0 * 256 + d.toNat) := rfl
      rw [List.foldl_cons, h1, h3, h2, List.length_cons, Nat.pow_succ, Nat.add_mul, Nat.add_mul, Nat.mul_assoc, Nat.mul_comm 256 (256 ^ l.length), Nat.zero_mul, Nat.zero_add, Nat.add_assoc]
  have := h l (0 * 256 + c.toNat)
  simpa [numB] using this
theorem be_succ (x : Int) (k : Nat) : be x (k + 1) = byteAt x k :: be x k := by
  unfold be
  rw [List.range_succ_eq_map, List.map_cons, List.map_map]
  congr 1
  apply List.map_congr_left
  intro j hj
  simp only [Function.comp]
  rw [show k + 1 - 1 - (j + 1) = k - 1 - j by omega]
theorem numB_be_mod (m : Nat) (k : Nat) : numB (be (m : Int) k) = m % 256 ^ k := by
  induction k with
  | zero => simp [be, numB]; omega
  | succ k ih =>
    rw [be_succ, numB_cons, be_length, ih]
    have h1 : (byteAt (m : Int) k).toNat = m / 2 ^ (8 * k) % 256 := by
      have := byteAt_int (n := (m : Int)) (by omega) k
      have e : ((m : Int) / 2 ^ (8 * k) % 256) = ((m / 2 ^ (8 * k) % 256 : Nat) : Int) := by simp
      rw [e] at this
      exact Int.ofNat.inj this
    rw [h1, show (2 : Nat) ^ (8 * k) = 256 ^ k by rw [Nat.pow_mul]]
    have h2 := Nat.mod_mul (a := 256 ^ k) (b := 256) (x := m)
    rw [Nat.pow_succ, h2, Nat.mul_comm (m / 256 ^ k % 256)]
    omega
theorem numB_be {x : Int} {k : Nat} (h : fitsN x k = true) : ((numB (be x k) : Nat) : Int) = x := by
  unfold fitsN at h
  simp only [Bool.and_eq_true, decide_eq_true_eq] at h
  obtain ⟨m, rfl⟩ := Int.eq_ofNat_of_zero_le h.1
  rw [numB_be_mod]
  have h2 : m < 256 ^ k := by
    have := h.2
    rw [show (256 : Nat) = 2 ^ 8 by rfl, ← Nat.pow_mul]
    exact_mod_cast this
  rw [Nat.mod_eq_of_lt h2]
end Go.Proofs.Ytpmdkmpmpjdglaa
