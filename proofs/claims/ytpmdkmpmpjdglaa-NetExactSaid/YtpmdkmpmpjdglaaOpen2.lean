/- crc.Open at what crc.Seal told. -/
import Derived.Test.YtpmdkmpmpjdglaaCrc
set_option linter.unusedSimpArgs false
set_option linter.unusedVariables false
namespace Go.Proofs.Ytpmdkmpmpjdglaa
open Go Go.RowKit
open Rep (vr)

set_option maxRecDepth 100000
set_option maxHeartbeats 400000 in
theorem EqualBytes {F G : Blks} {p q : Option Addr} {n c m d : Nat} {x : List UInt8} {w : World} (h1 : Sl F w p n c x) (h2 : Sl G w q m d x) :
    Calls Try.prog 65 #[.slice p n c, .slice q m d] w fun e w' => e = .returned (.bool true) ∧ Below w.heap.size w w' := by
  obtain rfl : n = m := by rw [← h1.len, ← h2.len]
  have hn : n ≤ 9223372036854775807 := by have := h1.le; have := h1.max; unfold maxLen at *; omega
  go_enter Try.func65, Try.ntmps65
  go_wp2
  go_loopw [13] (fun i wr => ∃ k : Nat, k ≤ n ∧ i = .int .i64 k ∧ Below w.heap.size w wr) (fun i _ => n - (intOf i).toNat)
  case atStart => exact ⟨0, Nat.zero_le _, rfl, Below.refl _ _⟩
  case round =>
    obtain ⟨k, hk, rfl, hb⟩ := hrel
    by_cases hlt : k < n
    · obtain ⟨b1, o1, rfl, _, _, e1⟩ := (h1.grow hb).byte hlt
      obtain ⟨b2, o2, rfl, _, _, e2⟩ := (h2.grow hb).byte hlt
      clear h1 h2
      go_wp2
      go_quiet (fail)
      go_wp2
      go_roundw
      case rel => exact ⟨k + 1, by omega, by go_num, below_drewN hb _⟩
      case measure => simp [intOf]; omega
    · clear h1 h2
      go_wp2
      go_ret
      exact ⟨rfl, hb⟩

set_option maxHeartbeats 400000 in
theorem Open_ok {F : Blks} {p : Option Addr} {n c : Nat} {bs : List UInt8} {w : World} (h1 : Sl F w p n c (sealed bs)) (hl : bs.length ≤ 65532) :
    Calls Try.prog 41 #[.slice p n c] w fun e w' => ∃ v, e = .returned (.tuple #[v, .int .i64 0]) ∧ Own 5 w.heap.size noB w' v bs ∧ Below w.heap.size w w' := by
  have hlen := h1.len
  have hse : (sealed bs).length = bs.length + 4 := by unfold sealed sumB; simp
  obtain rfl : n = bs.length + 4 := by omega
  have hnc := h1.le
  have hcm : c ≤ 9223372036854775807 := by have := h1.max; unfold maxLen at this; exact this
  have ht := h1.take (k := bs.length) (by omega)
  have hte : (sealed bs).take bs.length = bs := by unfold sealed; simp
  rw [hte] at ht
  have hw : IntKind.i64.wrap (((bs.length + 4 : Nat) : Int) - 4) = ((bs.length : Nat) : Int) := by rw [IntWalk.i64_in _ (by omega)]; omega
  have hw2 : ((bs.length : Nat) : Int) + 4 - 4 = ((bs.length : Nat) : Int) := by omega
  have g1 : bs.length ≤ c := by omega
  have HT := Lib.hid ht; have H1 := Lib.hid h1
  clear ht hte h1 hlen hse
  go_enter Try.func41, Try.ntmps41
  go_wp2_with fail
  refine (CloneBytes HT.out (by omega)).mono ?_
  rintro e w1 ⟨v1, rfl, ho, hb1⟩
  obtain ⟨q, d, rfl, hs⟩ := ho.sl
  have HO := Lib.hid (ho.flat (G := noB)); have HB := Lib.hid hb1; have HS := Lib.hid hs
  clear ho hb1 hs
  go_wp2_with fail
  refine (Seal_yes HS.out hl).mono ?_
  rintro e w2 ⟨v2, rfl, ho2, hb2⟩
  obtain ⟨q2, d2, rfl, hs2⟩ := ho2.sl
  have HS2 := Lib.hid hs2; have HB2 := Lib.hid (below2 HB.out hb2); have HO2 := Lib.hid (HO.out.grow hb2)
  clear ho2 hs2 hb2
  go_wp2_with fail
  refine (EqualBytes HS2.out (H1.out.grow HB2.out)).mono ?_
  rintro e w3 ⟨rfl, hb3⟩
  have HO3 := Lib.hid (HO2.out.grow hb3); have HB3 := Lib.hid (below2 HB2.out hb3)
  clear hb3
  go_wp2
  go_ret2
  exact ⟨_, rfl, HO3.out, HB3.out⟩
end Go.Proofs.Ytpmdkmpmpjdglaa
