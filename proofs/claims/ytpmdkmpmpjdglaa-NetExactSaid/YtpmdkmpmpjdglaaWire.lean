/- wire's writing functions. -/
import Derived.Test.YtpmdkmpmpjdglaaBase
import Derived.Test.YtpmdkmpmpjdglaaSpec
set_option linter.unusedSimpArgs false
set_option linter.unusedVariables false
namespace Go.Proofs.Ytpmdkmpmpjdglaa
open Go Go.RowKit
open Rep (vr)

theorem sl_byte {F : Blks} {W : World} {z : Int} {b : UInt8} (hz : z = (b.toNat : Int)) (hF : F W.heap.size) : Sl F (W.alloc (.cells #[.int .u8 z] 5)) (some ⟨W.heap.size, 0, none⟩) 1 1 [b] :=
  Sl.lit (α := UInt8) (xs := [b]) (t := 5) (fz := (0, 0)) (heap_alloc_new _ _) [.int .u8 z] rfl rfl (elems1 (by rw [hz]; rfl)) hF (by simp)
theorem Own.alloc {α : Type} [Rep α] {e : TypeId} {B : Nat} {F : Blks} {w : World} {v : Value} {xs : List α} (h : Own e B F w v xs) (o : Obj) : Own e B F (w.alloc o) v xs := h.grow (al1 w o)

set_option maxRecDepth 100000 in
set_option maxHeartbeats 400000 in
theorem big_any {F : Blks} {p : Option Addr} {n c : Nat} {bs : List UInt8} {w : World} {x : Int} {size : Nat} (h1 : Sl F w p n c bs) (hx : 0 ≤ x) (hx2 : x ≤ 4611686018427387904) (hs : 1 ≤ size) (hs2 : size ≤ 8) (hn : n ≤ 1000000000) :
    Calls Try.prog 85 #[.slice p n c, .int .i64 x, .int .i64 size] w fun e w' => ∃ v, e = .returned v ∧ Own 5 w.heap.size noB w' v (bs ++ be x size) ∧ Below w.heap.size w w' := by
  go_enter Try.func85, Try.ntmps85
  go_wp2_with fail
  refine (CloneBytes h1 (by omega)).mono ?_
  rintro e w1 ⟨v1, rfl, ho, hb⟩
  go_wp2
  go_loopw [7, 8] (fun v k wr => ∃ j : Nat, j ≤ size ∧ k = .int .i64 ((size : Int) - 1 - j) ∧ Own 5 w.heap.size noB wr v (bs ++ (be x size).take j) ∧ Below w.heap.size w wr) (fun _ k _ => (intOf k + 1).toNat)
  case atStart => exact ⟨0, Nat.zero_le _, by simp, by simpa using ho.flat, hb⟩
  case round =>
    obtain ⟨j, hj, rfl, ho', hb'⟩ := hrel
    clear ho hb
    by_cases hlt : j < size
    · have h0 : (0 : Int) ≤ (size : Int) - 1 - j := by omega
      have hlen : ((bs ++ (be x size).take j).length + 1) * 1 ≤ 140737488355328 := by have := h1.len; have := List.length_take_le j (be x size); simp at *; omega
      have HZ := Lib.hid (byteAt_int hx (size - 1 - j))
      have HT := Lib.hid (be_take x size j hlt)
      have HO := Lib.hid ho'
      have hz := hb'.size
      have HL := Lib.hid hlen
      clear ho' hlen h1
      go_wp2_with (at_builtin; refine wpList_append_Own (α := UInt8) rfl (.tmp 17) (.tmp 23) rfl Try.underlying37 (z := .int .u8 0) (bytes := 1) (by kernel_rfl) rfl (by decide) rfl rfl (HO.out.alloc _) (sl_byte (F := fun b => b = wr.heap.size) HZ.out.symm rfl) (fun b hb e => absurd (HO.out.block _ e).2 (by rw [hb]; omega)) (by simp; omega) HL.out ?_; intro v' w' ho hg hat)
      go_roundw
      case rel => exact ⟨j + 1, by omega, by go_num, by rw [HT.out, ← List.append_assoc]; exact ho.flat, (hb'.alloc hz _).grown hg (by simp; omega) (fun k hk => (HO.out.block k hk).1)⟩
      case measure => simp [intOf]; omega
    · have h0 : ¬ ((0 : Int) ≤ (size : Int) - 1 - j) := by omega
      go_wp2
      go_ret
      rw [List.take_of_length_le (by rw [be_length]; omega)] at ho'
      exact ⟨_, rfl, ho', hb'⟩

set_option maxRecDepth 100000 in
set_option maxHeartbeats 400000 in
theorem Put_ok1 {F : Blks} {p : Option Addr} {n c : Nat} {bs : List UInt8} {w : World} {x : Int} (h1 : Sl F w p n c bs) (hn : n ≤ 1000000000) (hx : 0 ≤ x) (hx2 : x < 256) :
    Calls Try.prog 58 #[.slice p n c, .int .i64 x, .int .i64 1] w fun e w' => ∃ v, e = .returned (.tuple #[v, .int .i64 0]) ∧ Own 5 w.heap.size noB w' v (bs ++ be x 1) ∧ Below w.heap.size w w' := by
  have hd0 : decide (x < 0) = false := by simp; omega
  have HC := Lib.hid (big_any (size := 1) h1 hx (by omega) (by decide) (by decide) hn)
  clear h1 hn
  go_enter Try.func58, Try.ntmps58
  go_wp2_with fail
  refine HC.out.mono ?_
  rintro e w1 ⟨v1, rfl, ho, hb⟩
  go_wp2
  go_ret2
  exact ⟨_, rfl, ho, hb⟩
set_option maxRecDepth 100000 in
set_option maxHeartbeats 400000 in
theorem Put_bad1 {p : Option Addr} {n c : Nat} {w : World} {x : Int} (hx : ¬ (0 ≤ x ∧ x < 256)) :
    Calls Try.prog 58 #[.slice p n c, .int .i64 x, .int .i64 1] w fun e w' => e = .returned (.tuple #[.slice none 0 0, .int .i64 1]) ∧ Below w.heap.size w w' := by
  by_cases h0 : 0 ≤ x
  · have h2 : 256 ≤ x := by omega
    have hd0 : decide (x < 0) = false := by simp; omega
    have hd1 : decide (256 ≤ x) = true := by simp; omega
    clear hx
    go_enter Try.func58, Try.ntmps58
    go_wp2_with fail
    go_ret2
    exact ⟨rfl, Below.refl _ _⟩
  · have hd0 : decide (x < 0) = true := by simp; omega
    clear hx
    go_enter Try.func58, Try.ntmps58
    go_wp2_with fail
    go_ret2
    exact ⟨rfl, Below.refl _ _⟩
set_option maxRecDepth 100000 in
set_option maxHeartbeats 400000 in
theorem Put_ok2 {F : Blks} {p : Option Addr} {n c : Nat} {bs : List UInt8} {w : World} {x : Int} (h1 : Sl F w p n c bs) (hn : n ≤ 1000000000) (hx : 0 ≤ x) (hx2 : x < 65536) :
    Calls Try.prog 58 #[.slice p n c, .int .i64 x, .int .i64 2] w fun e w' => ∃ v, e = .returned (.tuple #[v, .int .i64 0]) ∧ Own 5 w.heap.size noB w' v (bs ++ be x 2) ∧ Below w.heap.size w w' := by
  have hd0 : decide (x < 0) = false := by simp; omega
  have HC := Lib.hid (big_any (size := 2) h1 hx (by omega) (by decide) (by decide) hn)
  clear h1 hn
  go_enter Try.func58, Try.ntmps58
  go_wp2_with fail
  refine HC.out.mono ?_
  rintro e w1 ⟨v1, rfl, ho, hb⟩
  go_wp2
  go_ret2
  exact ⟨_, rfl, ho, hb⟩
set_option maxRecDepth 100000 in
set_option maxHeartbeats 400000 in
theorem Put_bad2 {p : Option Addr} {n c : Nat} {w : World} {x : Int} (hx : ¬ (0 ≤ x ∧ x < 65536)) :
    Calls Try.prog 58 #[.slice p n c, .int .i64 x, .int .i64 2] w fun e w' => e = .returned (.tuple #[.slice none 0 0, .int .i64 1]) ∧ Below w.heap.size w w' := by
  by_cases h0 : 0 ≤ x
  · have h2 : 65536 ≤ x := by omega
    have hd0 : decide (x < 0) = false := by simp; omega
    have hd1 : decide (65536 ≤ x) = true := by simp; omega
    clear hx
    go_enter Try.func58, Try.ntmps58
    go_wp2_with fail
    go_ret2
    exact ⟨rfl, Below.refl _ _⟩
  · have hd0 : decide (x < 0) = true := by simp; omega
    clear hx
    go_enter Try.func58, Try.ntmps58
    go_wp2_with fail
    go_ret2
    exact ⟨rfl, Below.refl _ _⟩
set_option maxRecDepth 100000 in
set_option maxHeartbeats 400000 in
theorem Put_ok3 {F : Blks} {p : Option Addr} {n c : Nat} {bs : List UInt8} {w : World} {x : Int} (h1 : Sl F w p n c bs) (hn : n ≤ 1000000000) (hx : 0 ≤ x) (hx2 : x < 16777216) :
    Calls Try.prog 58 #[.slice p n c, .int .i64 x, .int .i64 3] w fun e w' => ∃ v, e = .returned (.tuple #[v, .int .i64 0]) ∧ Own 5 w.heap.size noB w' v (bs ++ be x 3) ∧ Below w.heap.size w w' := by
  have hd0 : decide (x < 0) = false := by simp; omega
  have HC := Lib.hid (big_any (size := 3) h1 hx (by omega) (by decide) (by decide) hn)
  clear h1 hn
  go_enter Try.func58, Try.ntmps58
  go_wp2_with fail
  refine HC.out.mono ?_
  rintro e w1 ⟨v1, rfl, ho, hb⟩
  go_wp2
  go_ret2
  exact ⟨_, rfl, ho, hb⟩
set_option maxRecDepth 100000 in
set_option maxHeartbeats 400000 in
theorem Put_bad3 {p : Option Addr} {n c : Nat} {w : World} {x : Int} (hx : ¬ (0 ≤ x ∧ x < 16777216)) :
    Calls Try.prog 58 #[.slice p n c, .int .i64 x, .int .i64 3] w fun e w' => e = .returned (.tuple #[.slice none 0 0, .int .i64 1]) ∧ Below w.heap.size w w' := by
  by_cases h0 : 0 ≤ x
  · have h2 : 16777216 ≤ x := by omega
    have hd0 : decide (x < 0) = false := by simp; omega
    have hd1 : decide (16777216 ≤ x) = true := by simp; omega
    clear hx
    go_enter Try.func58, Try.ntmps58
    go_wp2_with fail
    go_ret2
    exact ⟨rfl, Below.refl _ _⟩
  · have hd0 : decide (x < 0) = true := by simp; omega
    clear hx
    go_enter Try.func58, Try.ntmps58
    go_wp2_with fail
    go_ret2
    exact ⟨rfl, Below.refl _ _⟩
set_option maxRecDepth 100000 in
set_option maxHeartbeats 400000 in
theorem Put_ok4 {F : Blks} {p : Option Addr} {n c : Nat} {bs : List UInt8} {w : World} {x : Int} (h1 : Sl F w p n c bs) (hn : n ≤ 1000000000) (hx : 0 ≤ x) (hx2 : x < 4294967296) :
    Calls Try.prog 58 #[.slice p n c, .int .i64 x, .int .i64 4] w fun e w' => ∃ v, e = .returned (.tuple #[v, .int .i64 0]) ∧ Own 5 w.heap.size noB w' v (bs ++ be x 4) ∧ Below w.heap.size w w' := by
  have hd0 : decide (x < 0) = false := by simp; omega
  have HC := Lib.hid (big_any (size := 4) h1 hx (by omega) (by decide) (by decide) hn)
  clear h1 hn
  go_enter Try.func58, Try.ntmps58
  go_wp2_with fail
  refine HC.out.mono ?_
  rintro e w1 ⟨v1, rfl, ho, hb⟩
  go_wp2
  go_ret2
  exact ⟨_, rfl, ho, hb⟩
set_option maxRecDepth 100000 in
set_option maxHeartbeats 400000 in
theorem Put_bad4 {p : Option Addr} {n c : Nat} {w : World} {x : Int} (hx : ¬ (0 ≤ x ∧ x < 4294967296)) :
    Calls Try.prog 58 #[.slice p n c, .int .i64 x, .int .i64 4] w fun e w' => e = .returned (.tuple #[.slice none 0 0, .int .i64 1]) ∧ Below w.heap.size w w' := by
  by_cases h0 : 0 ≤ x
  · have h2 : 4294967296 ≤ x := by omega
    have hd0 : decide (x < 0) = false := by simp; omega
    have hd1 : decide (4294967296 ≤ x) = true := by simp; omega
    clear hx
    go_enter Try.func58, Try.ntmps58
    go_wp2_with fail
    go_ret2
    exact ⟨rfl, Below.refl _ _⟩
  · have hd0 : decide (x < 0) = true := by simp; omega
    clear hx
    go_enter Try.func58, Try.ntmps58
    go_wp2_with fail
    go_ret2
    exact ⟨rfl, Below.refl _ _⟩
set_option maxRecDepth 100000 in
set_option maxHeartbeats 400000 in
theorem Put_ok6 {F : Blks} {p : Option Addr} {n c : Nat} {bs : List UInt8} {w : World} {x : Int} (h1 : Sl F w p n c bs) (hn : n ≤ 1000000000) (hx : 0 ≤ x) (hx2 : x < 281474976710656) :
    Calls Try.prog 58 #[.slice p n c, .int .i64 x, .int .i64 6] w fun e w' => ∃ v, e = .returned (.tuple #[v, .int .i64 0]) ∧ Own 5 w.heap.size noB w' v (bs ++ be x 6) ∧ Below w.heap.size w w' := by
  have hd0 : decide (x < 0) = false := by simp; omega
  have HC := Lib.hid (big_any (size := 6) h1 hx (by omega) (by decide) (by decide) hn)
  clear h1 hn
  go_enter Try.func58, Try.ntmps58
  go_wp2_with fail
  refine HC.out.mono ?_
  rintro e w1 ⟨v1, rfl, ho, hb⟩
  go_wp2
  go_ret2
  exact ⟨_, rfl, ho, hb⟩
set_option maxRecDepth 100000 in
set_option maxHeartbeats 400000 in
theorem Put_bad6 {p : Option Addr} {n c : Nat} {w : World} {x : Int} (hx : ¬ (0 ≤ x ∧ x < 281474976710656)) :
    Calls Try.prog 58 #[.slice p n c, .int .i64 x, .int .i64 6] w fun e w' => e = .returned (.tuple #[.slice none 0 0, .int .i64 1]) ∧ Below w.heap.size w w' := by
  by_cases h0 : 0 ≤ x
  · have h2 : 281474976710656 ≤ x := by omega
    have hd0 : decide (x < 0) = false := by simp; omega
    have hd1 : decide (281474976710656 ≤ x) = true := by simp; omega
    clear hx
    go_enter Try.func58, Try.ntmps58
    go_wp2_with fail
    go_ret2
    exact ⟨rfl, Below.refl _ _⟩
  · have hd0 : decide (x < 0) = true := by simp; omega
    clear hx
    go_enter Try.func58, Try.ntmps58
    go_wp2_with fail
    go_ret2
    exact ⟨rfl, Below.refl _ _⟩
end Go.Proofs.Ytpmdkmpmpjdglaa
