/- raddlekeep's comparisons, of data that are alike: true. Conditions: both arguments read as the same list. -/
import Derived.Test.YtpmdkmpmpjdglaaProg
import Derived.BigQuiet
import Derived.Outline
import Derived.Test.YtpmdkmpmpjdglaaData
set_option linter.unusedSimpArgs false
set_option linter.unusedVariables false
namespace Go.Proofs.Ytpmdkmpmpjdglaa
open Go Go.RowKit
open Rep (vr)

theorem below_drewN {B : Nat} {a w : World} (h : Below B a w) (n : Nat) : Below B a (w.drewN n) := ⟨h.os, h.tape, h.output, h.size, h.block⟩
theorem below_drew {B : Nat} {a w : World} (h : Below B a w) : Below B a w.drew := ⟨h.os, h.tape, h.output, h.size, h.block⟩
theorem below_next {B : Nat} {a b c : World} (h : Below B a b) (k : Below b.heap.size b c) (hB : B ≤ b.heap.size) : Below B a c := h.trans (k.mono hB)
theorem below2 {a b c : World} (h : Below a.heap.size a b) (k : Below b.heap.size b c) : Below a.heap.size a c := below_next h k h.size

set_option maxRecDepth 100000
set_option maxHeartbeats 400000 in
theorem Bytes_eq {F G : Blks} {p q : Option Addr} {n c m d : Nat} {x : List UInt8} {w : World} (h1 : Sl F w p n c x) (h2 : Sl G w q m d x) :
    Calls Try.prog 30 #[.slice p n c, .slice q m d] w fun e w' => e = .returned (.bool true) ∧ Below w.heap.size w w' := by
  obtain rfl : n = m := by rw [← h1.len, ← h2.len]
  have hn : n ≤ 9223372036854775807 := by have := h1.le; have := h1.max; unfold maxLen at *; omega
  go_enter Try.func30, Try.ntmps30
  go_wp2
  go_loopw [5] (fun i wr => ∃ k : Nat, k ≤ n ∧ i = .int .i64 k ∧ Below w.heap.size w wr) (fun i _ => n - (intOf i).toNat)
  case atStart => exact ⟨0, Nat.zero_le _, rfl, Below.refl _ _⟩
  case round =>
    obtain ⟨k, hk, rfl, hb⟩ := hrel
    by_cases hlt : k < n
    · obtain ⟨b1, o1, rfl, _, _, e1⟩ := (h1.grow hb).byte hlt
      obtain ⟨b2, o2, rfl, _, _, e2⟩ := (h2.grow hb).byte hlt
      clear h1 h2
      go_wp2
      go_quiet (fail)
      go_wp2
      go_roundw
      case rel => exact ⟨k + 1, by omega, by go_num, below_drewN hb _⟩
      case measure => simp [intOf]; omega
    · clear h1 h2
      go_wp2
      go_ret
      exact ⟨rfl, hb⟩

set_option maxHeartbeats 400000 in
theorem Letters_eq {F G : Blks} {p q : Option Addr} {n c m d : Nat} {x : List Letter} {w : World} (h1 : Sl F w p n c x) (h2 : Sl G w q m d x) :
    Calls Try.prog 14 #[.slice p n c, .slice q m d] w fun e w' => e = .returned (.bool true) ∧ Below w.heap.size w w' := by
  obtain rfl : n = m := by rw [← h1.len, ← h2.len]
  have hn : n ≤ 9223372036854775807 := by have := h1.le; have := h1.max; unfold maxLen at *; omega
  go_enter Try.func14, Try.ntmps14
  go_wp2
  go_loopw [5] (fun i wr => ∃ k : Nat, k ≤ n ∧ i = .int .i64 k ∧ Below w.heap.size w wr) (fun i _ => n - (intOf i).toNat)
  case atStart => exact ⟨0, Nat.zero_le _, rfl, Below.refl _ _⟩
  case round =>
    obtain ⟨k, hk, rfl, hb⟩ := hrel
    by_cases hlt : k < n
    · obtain ⟨b1, o1, p1, n1, c1, rfl, _, _, e1, e2, e3, _, _, s1⟩ := (h1.grow hb).letter hlt
      obtain ⟨b2, o2, p2, n2, c2, rfl, _, _, f1, f2, f3, _, _, s2⟩ := (h2.grow hb).letter hlt
      have hcell : ∀ {b o : Nat} {u : Value}, wr.cell? ⟨b, o, none⟩ = some u → ∀ w', Below wr.heap.size wr w' → w'.cell? ⟨b, o, none⟩ = some u := fun h w' hb => (hb.cell (lt_of_cell h)).trans h
      replace e1 := hcell e1; replace e2 := hcell e2; replace e3 := hcell e3
      replace f1 := hcell f1; replace f2 := hcell f2; replace f3 := hcell f3
      clear h1 h2 hcell
      go_wp2
      refine wp_flowL 38 [(35, .exact [] (.bool true))] (by kernel_rfl) (by kernel_rfl) ?_ ?_
      · trivial
      repeat (first
        | (refine Flow.skip_ rfl ?_; simp only [Act.put, List.setIfInBounds_toArray, List.set_cons_zero, List.set_cons_succ, Nat.reduceAdd])
        | (refine Flow.pure_ (v := ?_) rfl rfl ?_ ?_; rotate_left; focus (intro w hb; go_simp; try with_reducible rfl)
           simp only [Act.put, List.setIfInBounds_toArray, List.set_cons_zero, List.set_cons_succ, Nat.reduceAdd]))
      refine Flow.exact_ rfl rfl ?_ ?_
      · intro wf hb hk
        (try simp only [holdsF, lookF, lookV, List.map_cons, List.map_nil, List.headD_cons, List.getD_cons_zero, List.getD_cons_succ, Nat.reduceEqDiff, Nat.reduceAdd, ↓reduceIte, and_true] at hk ⊢)
        go_simp
        exact (Bytes_eq (s1.grow hb) (s2.grow hb)).mono fun e w' ⟨he, hb'⟩ => ⟨_, he, rfl, hb'⟩
      simp only [Act.put, List.setIfInBounds_toArray, List.set_cons_zero, List.set_cons_succ, Nat.reduceAdd]
      repeat (first
        | (refine Flow.skip_ rfl ?_; simp only [Act.put, List.setIfInBounds_toArray, List.set_cons_zero, List.set_cons_succ, Nat.reduceAdd])
        | (refine Flow.pure_ (v := ?_) rfl rfl ?_ ?_; rotate_left; focus (intro w hb; go_simp; try with_reducible rfl)
           simp only [Act.put, List.setIfInBounds_toArray, List.set_cons_zero, List.set_cons_succ, Nat.reduceAdd]))
      refine Flow.done_ (fun w1 hb1 hk => ?_)
      clear e1 e2 e3 f1 f2 f3 s1 s2
      go_wp2
      go_roundw
      case rel => exact ⟨k + 1, by omega, by go_num, below_next hb hb1 hb.size⟩
      case measure => simp [intOf]; omega
    · clear h1 h2
      go_wp2
      go_ret
      exact ⟨rfl, hb⟩
end Go.Proofs.Ytpmdkmpmpjdglaa
