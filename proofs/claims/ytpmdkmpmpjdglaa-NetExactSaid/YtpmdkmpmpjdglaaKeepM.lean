/- raddlekeep's equalities, at equal data: true. -/
import Derived.Test.YtpmdkmpmpjdglaaNet
import Derived.Lib.Hide
set_option linter.unusedSimpArgs false
set_option linter.unusedVariables false
namespace Go.Proofs.Ytpmdkmpmpjdglaa
open Go Go.RowKit
open Rep (vr)

set_option maxRecDepth 100000
set_option maxHeartbeats 400000 in
theorem Ints_eq {F G : Blks} {p q : Option Addr} {n c m d : Nat} {x : List Int} {w : World} (h1 : Sl F w p n c x) (h2 : Sl G w q m d x) :
    Calls Try.prog 31 #[.slice p n c, .slice q m d] w fun e w' => e = .returned (.bool true) ∧ Below w.heap.size w w' := by
  obtain rfl : n = m := by rw [← h1.len, ← h2.len]
  have hn : n ≤ 9223372036854775807 := by have := h1.le; have := h1.max; unfold maxLen at *; omega
  go_enter Try.func31, Try.ntmps31
  go_wp2
  go_loopw [5] (fun i wr => ∃ k : Nat, k ≤ n ∧ i = .int .i64 k ∧ Below w.heap.size w wr) (fun i _ => n - (intOf i).toNat)
  case atStart => exact ⟨0, Nat.zero_le _, rfl, Below.refl _ _⟩
  case round =>
    obtain ⟨k, hk, rfl, hb⟩ := hrel
    by_cases hlt : k < n
    · obtain ⟨b1, o1, rfl, _, _, e1, _⟩ := (h1.grow hb).int hlt
      obtain ⟨b2, o2, rfl, _, _, e2, _⟩ := (h2.grow hb).int hlt
      clear h1 h2
      go_wp2
      go_quiet (fail)
      go_wp2
      go_roundw
      case rel => exact ⟨k + 1, by omega, by go_num, below_drewN hb _⟩
      case measure => simp [intOf]; omega
    · clear h1 h2
      go_wp2
      go_ret
      exact ⟨rfl, hb⟩

set_option maxHeartbeats 400000 in
theorem Value_eq {F G : Blks} {u v : Value} {x : Val} {w : World} (h1 : vr F w u x) (h2 : vr G w v x) :
    Calls Try.prog 95 #[u, v] w fun e w' => e = .returned (.bool true) ∧ Below w.heap.size w w' := by
  obtain ⟨rfl, -⟩ := h1
  obtain ⟨rfl, -⟩ := h2
  go_enter Try.func95, Try.ntmps95
  go_wp2
  go_ret
  exact ⟨rfl, (by repeat' (first | with_reducible exact Below.refl _ _ | with_reducible exact Below.refl _ _ | ((with_reducible refine Below.setCell ?_ ?_ _); rotate_left; (focus (simp <;> omega))) | ((with_reducible refine Below.alloc ?_ ?_ _); rotate_left; (focus (simp <;> omega))) | (with_reducible refine below_drew ?_) | (with_reducible refine below_drewN ?_ _)))⟩
set_option maxHeartbeats 400000 in
theorem Dot_eq {F G : Blks} {u v : Value} {x : Dot} {w : World} (h1 : vr F w u x) (h2 : vr G w v x) :
    Calls Try.prog 81 #[u, v] w fun e w' => e = .returned (.bool true) ∧ Below w.heap.size w w' := by
  obtain ⟨rfl, -⟩ := h1
  obtain ⟨rfl, -⟩ := h2
  go_enter Try.func81, Try.ntmps81
  go_wp2
  go_ret
  exact ⟨rfl, (by repeat' (first | with_reducible exact Below.refl _ _ | with_reducible exact Below.refl _ _ | ((with_reducible refine Below.setCell ?_ ?_ _); rotate_left; (focus (simp <;> omega))) | ((with_reducible refine Below.alloc ?_ ?_ _); rotate_left; (focus (simp <;> omega))) | (with_reducible refine below_drew ?_) | (with_reducible refine below_drewN ?_ _)))⟩
set_option maxHeartbeats 400000 in
theorem Stamp_eq {F G : Blks} {u v : Value} {x : Stamp} {w : World} (h1 : vr F w u x) (h2 : vr G w v x) :
    Calls Try.prog 82 #[u, v] w fun e w' => e = .returned (.bool true) ∧ Below w.heap.size w w' := by
  obtain ⟨rfl, -⟩ := h1
  obtain ⟨rfl, -⟩ := h2
  go_enter Try.func82, Try.ntmps82
  go_wp2
  go_ret
  exact ⟨rfl, (by repeat' (first | with_reducible exact Below.refl _ _ | with_reducible exact Below.refl _ _ | ((with_reducible refine Below.setCell ?_ ?_ _); rotate_left; (focus (simp <;> omega))) | ((with_reducible refine Below.alloc ?_ ?_ _); rotate_left; (focus (simp <;> omega))) | (with_reducible refine below_drew ?_) | (with_reducible refine below_drewN ?_ _)))⟩

set_option maxHeartbeats 400000 in
theorem Row_eq {F G : Blks} {p q : Option Addr} {n c m d : Nat} {x : List Val} {w : World} (h1 : Sl F w p n c x) (h2 : Sl G w q m d x) :
    Calls Try.prog 83 #[.slice p n c, .slice q m d] w fun e w' => e = .returned (.bool true) ∧ Below w.heap.size w w' := by
  obtain rfl : n = m := by rw [← h1.len, ← h2.len]
  have hn : n ≤ 9223372036854775807 := by have := h1.le; have := h1.max; unfold maxLen at *; omega
  go_enter Try.func83, Try.ntmps83
  go_wp2
  go_loopw [5] (fun i wr => ∃ k : Nat, k ≤ n ∧ i = .int .i64 k ∧ Below w.heap.size w wr) (fun i _ => n - (intOf i).toNat)
  case atStart => exact ⟨0, Nat.zero_le _, rfl, Below.refl _ _⟩
  case round =>
    obtain ⟨k, hk, rfl, hb⟩ := hrel
    by_cases hlt : k < n
    · obtain ⟨b1, o1, rfl, _, _, e1, e2, e3, i1, i2, i3⟩ := (h1.grow hb).val hlt
      obtain ⟨b2, o2, rfl, _, _, f1, f2, f3, _, _, _⟩ := (h2.grow hb).val hlt
      have hcell : ∀ {b o : Nat} {u : Value}, wr.cell? ⟨b, o, none⟩ = some u → ∀ w', Below wr.heap.size wr w' → w'.cell? ⟨b, o, none⟩ = some u := fun h w' hb => (hb.cell (lt_of_cell h)).trans h
      replace e1 := hcell e1; replace e2 := hcell e2; replace e3 := hcell e3; replace f1 := hcell f1; replace f2 := hcell f2; replace f3 := hcell f3
      clear h1 h2 hcell
      go_wp2
      refine wp_flowL 10 [(8, .exact [] (.bool true))] (by kernel_rfl) (by kernel_rfl) ?_ ?_
      · trivial
      repeat (first
        | (refine Flow.skip_ rfl ?_; simp only [Act.put, List.setIfInBounds_toArray, List.set_cons_zero, List.set_cons_succ, Nat.reduceAdd])
        | (refine Flow.pure_ (v := ?_) rfl rfl ?_ ?_; rotate_left; focus (intro w hb; go_simp; try with_reducible rfl)
           simp only [Act.put, List.setIfInBounds_toArray, List.set_cons_zero, List.set_cons_succ, Nat.reduceAdd]))
      refine Flow.exact_ rfl rfl ?_ ?_
      · intro wf hb hk
        (try simp only [holdsF, lookF, lookV, List.map_cons, List.map_nil, List.headD_cons, List.getD_cons_zero, List.getD_cons_succ, Nat.reduceEqDiff, Nat.reduceAdd, ↓reduceIte, and_true] at hk ⊢)
        go_simp
        exact (Value_eq (F := allB) (G := allB) (x := gt x k) ⟨rfl, i1, i2, i3⟩ ⟨rfl, i1, i2, i3⟩).mono fun e w' ⟨he, hb'⟩ => ⟨_, he, rfl, hb'⟩
      simp only [Act.put, List.setIfInBounds_toArray, List.set_cons_zero, List.set_cons_succ, Nat.reduceAdd]
      repeat (first
        | (refine Flow.skip_ rfl ?_; simp only [Act.put, List.setIfInBounds_toArray, List.set_cons_zero, List.set_cons_succ, Nat.reduceAdd])
        | (refine Flow.pure_ (v := ?_) rfl rfl ?_ ?_; rotate_left; focus (intro w hb; go_simp; try with_reducible rfl)
           simp only [Act.put, List.setIfInBounds_toArray, List.set_cons_zero, List.set_cons_succ, Nat.reduceAdd]))
      refine Flow.done_ (fun w1 hb1 hk => ?_)
      clear e1 e2 e3 f1 f2 f3
      go_wp2
      go_roundw
      case rel => exact ⟨k + 1, by omega, by go_num, below_next hb hb1 hb.size⟩
      case measure => simp [intOf]; omega
    · clear h1 h2
      go_wp2
      go_ret
      exact ⟨rfl, hb⟩

set_option maxHeartbeats 400000 in
theorem Dots_eq {F G : Blks} {p q : Option Addr} {n c m d : Nat} {x : List Dot} {w : World} (h1 : Sl F w p n c x) (h2 : Sl G w q m d x) :
    Calls Try.prog 84 #[.slice p n c, .slice q m d] w fun e w' => e = .returned (.bool true) ∧ Below w.heap.size w w' := by
  obtain rfl : n = m := by rw [← h1.len, ← h2.len]
  have hn : n ≤ 9223372036854775807 := by have := h1.le; have := h1.max; unfold maxLen at *; omega
  go_enter Try.func84, Try.ntmps84
  go_wp2
  go_loopw [5] (fun i wr => ∃ k : Nat, k ≤ n ∧ i = .int .i64 k ∧ Below w.heap.size w wr) (fun i _ => n - (intOf i).toNat)
  case atStart => exact ⟨0, Nat.zero_le _, rfl, Below.refl _ _⟩
  case round =>
    obtain ⟨k, hk, rfl, hb⟩ := hrel
    by_cases hlt : k < n
    · obtain ⟨b1, o1, rfl, _, _, e1, e2, i1, i2⟩ := (h1.grow hb).dot hlt
      obtain ⟨b2, o2, rfl, _, _, f1, f2, _, _⟩ := (h2.grow hb).dot hlt
      have hcell : ∀ {b o : Nat} {u : Value}, wr.cell? ⟨b, o, none⟩ = some u → ∀ w', Below wr.heap.size wr w' → w'.cell? ⟨b, o, none⟩ = some u := fun h w' hb => (hb.cell (lt_of_cell h)).trans h
      replace e1 := hcell e1; replace e2 := hcell e2; replace f1 := hcell f1; replace f2 := hcell f2
      clear h1 h2 hcell
      go_wp2
      refine wp_flowL 10 [(8, .exact [] (.bool true))] (by kernel_rfl) (by kernel_rfl) ?_ ?_
      · trivial
      repeat (first
        | (refine Flow.skip_ rfl ?_; simp only [Act.put, List.setIfInBounds_toArray, List.set_cons_zero, List.set_cons_succ, Nat.reduceAdd])
        | (refine Flow.pure_ (v := ?_) rfl rfl ?_ ?_; rotate_left; focus (intro w hb; go_simp; try with_reducible rfl)
           simp only [Act.put, List.setIfInBounds_toArray, List.set_cons_zero, List.set_cons_succ, Nat.reduceAdd]))
      refine Flow.exact_ rfl rfl ?_ ?_
      · intro wf hb hk
        (try simp only [holdsF, lookF, lookV, List.map_cons, List.map_nil, List.headD_cons, List.getD_cons_zero, List.getD_cons_succ, Nat.reduceEqDiff, Nat.reduceAdd, ↓reduceIte, and_true] at hk ⊢)
        go_simp
        exact (Dot_eq (F := allB) (G := allB) (x := gt x k) ⟨rfl, i1, i2⟩ ⟨rfl, i1, i2⟩).mono fun e w' ⟨he, hb'⟩ => ⟨_, he, rfl, hb'⟩
      simp only [Act.put, List.setIfInBounds_toArray, List.set_cons_zero, List.set_cons_succ, Nat.reduceAdd]
      repeat (first
        | (refine Flow.skip_ rfl ?_; simp only [Act.put, List.setIfInBounds_toArray, List.set_cons_zero, List.set_cons_succ, Nat.reduceAdd])
        | (refine Flow.pure_ (v := ?_) rfl rfl ?_ ?_; rotate_left; focus (intro w hb; go_simp; try with_reducible rfl)
           simp only [Act.put, List.setIfInBounds_toArray, List.set_cons_zero, List.set_cons_succ, Nat.reduceAdd]))
      refine Flow.done_ (fun w1 hb1 hk => ?_)
      clear e1 e2 f1 f2
      go_wp2
      go_roundw
      case rel => exact ⟨k + 1, by omega, by go_num, below_next hb hb1 hb.size⟩
      case measure => simp [intOf]; omega
    · clear h1 h2
      go_wp2
      go_ret
      exact ⟨rfl, hb⟩

set_option maxHeartbeats 800000 in
theorem Op_eq {F G : Blks} {u v : Value} {x : Opn} {w : World} (h1 : vr F w u x) (h2 : vr G w v x) :
    Calls Try.prog 55 #[u, v] w fun e w' => e = .returned (.bool true) ∧ Below w.heap.size w w' := by
  obtain ⟨p1, n1, c1, p2, n2, c2, p3, n3, c3, rfl, ⟨i1, i2, i3, i4, i5, i6, i7, i8, i9⟩, s1, s2, s3⟩ := h1
  obtain ⟨p1', n1', c1', p2', n2', c2', p3', n3', c3', rfl, -, s1', s2', s3'⟩ := h2
  have hc : ∀ (i : Nat) (u : Value), (#[.int .i64 x.dot.peer, .int .i64 x.dot.n, .slice p1 n1 c1, .int .i64 x.stamp.phys, .int .i64 x.stamp.logic, .int .i64 x.stamp.peer, .int .i64 x.kind, .int .i64 x.table, .string x.key, .int .i64 x.col, .slice p2 n2 c2, .slice p3 n3 c3] : Array Value)[i]? = some u → World.cell? ((w.alloc (.cells #[.int .i64 x.dot.peer, .int .i64 x.dot.n, .slice p1 n1 c1, .int .i64 x.stamp.phys, .int .i64 x.stamp.logic, .int .i64 x.stamp.peer, .int .i64 x.kind, .int .i64 x.table, .string x.key, .int .i64 x.col, .slice p2 n2 c2, .slice p3 n3 c3] 76)).alloc (.cells #[.int .i64 x.dot.peer, .int .i64 x.dot.n, .slice p1' n1' c1', .int .i64 x.stamp.phys, .int .i64 x.stamp.logic, .int .i64 x.stamp.peer, .int .i64 x.kind, .int .i64 x.table, .string x.key, .int .i64 x.col, .slice p2' n2' c2', .slice p3' n3' c3'] 76)) ⟨w.heap.size, i, none⟩ = some u := fun i u h => by
    rw [← h]
    exact cell_of_row _ _ _ _ 76 (0, 0) (((Below.alloc (Below.refl _ _) (Nat.le_refl _) _).block _ (by simp)).trans (heap_alloc_new _ _))
  have hd : ∀ (i : Nat) (u : Value), (#[.int .i64 x.dot.peer, .int .i64 x.dot.n, .slice p1' n1' c1', .int .i64 x.stamp.phys, .int .i64 x.stamp.logic, .int .i64 x.stamp.peer, .int .i64 x.kind, .int .i64 x.table, .string x.key, .int .i64 x.col, .slice p2' n2' c2', .slice p3' n3' c3'] : Array Value)[i]? = some u → World.cell? ((w.alloc (.cells #[.int .i64 x.dot.peer, .int .i64 x.dot.n, .slice p1 n1 c1, .int .i64 x.stamp.phys, .int .i64 x.stamp.logic, .int .i64 x.stamp.peer, .int .i64 x.kind, .int .i64 x.table, .string x.key, .int .i64 x.col, .slice p2 n2 c2, .slice p3 n3 c3] 76)).alloc (.cells #[.int .i64 x.dot.peer, .int .i64 x.dot.n, .slice p1' n1' c1', .int .i64 x.stamp.phys, .int .i64 x.stamp.logic, .int .i64 x.stamp.peer, .int .i64 x.kind, .int .i64 x.table, .string x.key, .int .i64 x.col, .slice p2' n2' c2', .slice p3' n3' c3'] 76)) ⟨w.heap.size + 1, i, none⟩ = some u := fun i u h => by
    rw [← h]
    exact cell_of_row _ _ _ _ 76 (0, 0) (by simpa using heap_alloc_new (w.alloc (.cells #[.int .i64 x.dot.peer, .int .i64 x.dot.n, .slice p1 n1 c1, .int .i64 x.stamp.phys, .int .i64 x.stamp.logic, .int .i64 x.stamp.peer, .int .i64 x.kind, .int .i64 x.table, .string x.key, .int .i64 x.col, .slice p2 n2 c2, .slice p3 n3 c3] 76)) (.cells #[.int .i64 x.dot.peer, .int .i64 x.dot.n, .slice p1' n1' c1', .int .i64 x.stamp.phys, .int .i64 x.stamp.logic, .int .i64 x.stamp.peer, .int .i64 x.kind, .int .i64 x.table, .string x.key, .int .i64 x.col, .slice p2' n2' c2', .slice p3' n3' c3'] 76))
  have hb0 : Below w.heap.size w ((w.alloc (.cells #[.int .i64 x.dot.peer, .int .i64 x.dot.n, .slice p1 n1 c1, .int .i64 x.stamp.phys, .int .i64 x.stamp.logic, .int .i64 x.stamp.peer, .int .i64 x.kind, .int .i64 x.table, .string x.key, .int .i64 x.col, .slice p2 n2 c2, .slice p3 n3 c3] 76)).alloc (.cells #[.int .i64 x.dot.peer, .int .i64 x.dot.n, .slice p1' n1' c1', .int .i64 x.stamp.phys, .int .i64 x.stamp.logic, .int .i64 x.stamp.peer, .int .i64 x.kind, .int .i64 x.table, .string x.key, .int .i64 x.col, .slice p2' n2' c2', .slice p3' n3' c3'] 76)) := ((Below.refl _ w).alloc (Nat.le_refl _) _).alloc (by simp) _
  have HC := Lib.hid hc; have HD := Lib.hid hd; have HB := Lib.hid hb0
  have HS := Lib.hid (And.intro (And.intro s1 s1') (And.intro (And.intro s2 s2') (And.intro s3 s3')))
  clear hc hd hb0 s1 s2 s3 s1' s2' s3'
  go_enter Try.func55, Try.ntmps55
  go_wp2_with fail
  refine (Dot_eq (F := allB) (G := allB) (x := x.dot) ⟨rfl, i1, i2⟩ ⟨rfl, i1, i2⟩).mono ?_
  rintro e w1 ⟨rfl, hb1⟩
  have e1 := cell_later hb1 (HC.out 2 _ rfl)
  have e2 := cell_later hb1 (HD.out 2 _ rfl)
  go_wp2_with fail
  refine (Ints_eq (HS.out.1.1.grow (below2 HB.out hb1)) (HS.out.1.2.grow (below2 HB.out hb1))).mono ?_
  rintro e w2 ⟨rfl, hb2'⟩
  have hb2 := below2 hb1 hb2'
  clear hb1 hb2' e1 e2
  have e1 := cell_later hb2 (HC.out 3 _ rfl)
  have e2 := cell_later hb2 (HC.out 4 _ rfl)
  have e3 := cell_later hb2 (HC.out 5 _ rfl)
  have f1 := cell_later hb2 (HD.out 3 _ rfl)
  have f2 := cell_later hb2 (HD.out 4 _ rfl)
  have f3 := cell_later hb2 (HD.out 5 _ rfl)
  go_wp2_with fail
  refine (Stamp_eq (F := allB) (G := allB) (x := x.stamp) ⟨rfl, i3, i4, i5⟩ ⟨rfl, i3, i4, i5⟩).mono ?_
  rintro e w3 ⟨rfl, hb3'⟩
  have hb3 := below2 hb2 hb3'
  clear hb2 hb3' e1 e2 e3 f1 f2 f3
  have e6 := cell_later hb3 (HC.out 6 _ rfl)
  have e7 := cell_later hb3 (HC.out 7 _ rfl)
  have e8 := cell_later hb3 (HC.out 8 _ rfl)
  have e9 := cell_later hb3 (HC.out 9 _ rfl)
  have e10 := cell_later hb3 (HC.out 10 _ rfl)
  have f6 := cell_later hb3 (HD.out 6 _ rfl)
  have f7 := cell_later hb3 (HD.out 7 _ rfl)
  have f8 := cell_later hb3 (HD.out 8 _ rfl)
  have f9 := cell_later hb3 (HD.out 9 _ rfl)
  have f10 := cell_later hb3 (HD.out 10 _ rfl)
  go_wp2_with fail
  refine (Row_eq (HS.out.2.1.1.grow (below2 HB.out hb3)) (HS.out.2.1.2.grow (below2 HB.out hb3))).mono ?_
  rintro e w4 ⟨rfl, hb4'⟩
  have hb4 := below2 hb3 hb4'
  clear hb3 hb4' e6 e7 e8 e9 e10 f6 f7 f8 f9 f10
  have e1 := cell_later hb4 (HC.out 11 _ rfl)
  have e2 := cell_later hb4 (HD.out 11 _ rfl)
  go_wp2_with fail
  refine (Dots_eq (HS.out.2.2.1.grow (below2 HB.out hb4)) (HS.out.2.2.2.grow (below2 HB.out hb4))).mono ?_
  rintro e w5 ⟨rfl, hb5'⟩
  have hb5 := below2 HB.out (below2 hb4 hb5')
  clear hb4 hb5' e1 e2
  go_wp2
  go_ret
  exact ⟨rfl, hb5⟩

set_option maxHeartbeats 800000 in
theorem Ops_eq {F G : Blks} {p q : Option Addr} {n c m d : Nat} {x : List Opn} {w : World} (h1 : Sl F w p n c x) (h2 : Sl G w q m d x) :
    Calls Try.prog 32 #[.slice p n c, .slice q m d] w fun e w' => e = .returned (.bool true) ∧ Below w.heap.size w w' := by
  obtain rfl : n = m := by rw [← h1.len, ← h2.len]
  have hn : n ≤ 9223372036854775807 := by have := h1.le; have := h1.max; unfold maxLen at *; omega
  go_enter Try.func32, Try.ntmps32
  go_wp2
  go_loopw [5] (fun i wr => ∃ k : Nat, k ≤ n ∧ i = .int .i64 k ∧ Below w.heap.size w wr) (fun i _ => n - (intOf i).toNat)
  case atStart => exact ⟨0, Nat.zero_le _, rfl, Below.refl _ _⟩
  case round =>
    obtain ⟨k, hk, rfl, hb⟩ := hrel
    by_cases hlt : k < n
    · obtain ⟨b1, o1, p1, n1, c1, p2, n2, c2, p3, n3, c3, rfl, _, _, ⟨e0, e1, e2, e3, e4, e5, e6, e7, e8, e9, e10, e11⟩, hi, s1, s2, s3⟩ := (h1.grow hb).opn hlt
      obtain ⟨b2, o2, q1, m1, d1, q2, m2, d2, q3, m3, d3, rfl, _, _, ⟨f0, f1, f2, f3, f4, f5, f6, f7, f8, f9, f10, f11⟩, hi', t1, t2, t3⟩ := (h2.grow hb).opn hlt
      have hcell : ∀ {b o : Nat} {u : Value}, wr.cell? ⟨b, o, none⟩ = some u → ∀ w', Below wr.heap.size wr w' → w'.cell? ⟨b, o, none⟩ = some u := fun h w' hb => (hb.cell (lt_of_cell h)).trans h
      replace e0 := hcell e0; replace e1 := hcell e1; replace e2 := hcell e2; replace e3 := hcell e3; replace e4 := hcell e4; replace e5 := hcell e5; replace e6 := hcell e6; replace e7 := hcell e7; replace e8 := hcell e8; replace e9 := hcell e9; replace e10 := hcell e10; replace e11 := hcell e11; replace f0 := hcell f0; replace f1 := hcell f1; replace f2 := hcell f2; replace f3 := hcell f3; replace f4 := hcell f4; replace f5 := hcell f5; replace f6 := hcell f6; replace f7 := hcell f7; replace f8 := hcell f8; replace f9 := hcell f9; replace f10 := hcell f10; replace f11 := hcell f11
      have HE := Lib.hid (And.intro (And.intro hi (And.intro s1 (And.intro s2 s3))) (And.intro hi' (And.intro t1 (And.intro t2 t3))))
      clear h1 h2 hcell hi hi' s1 s2 s3 t1 t2 t3
      go_wp2
      refine wp_flowL 10 [(8, .exact [] (.bool true))] (by kernel_rfl) (by kernel_rfl) ?_ ?_
      · trivial
      repeat (first
        | (refine Flow.skip_ rfl ?_; simp only [Act.put, List.setIfInBounds_toArray, List.set_cons_zero, List.set_cons_succ, Nat.reduceAdd])
        | (refine Flow.pure_ (v := ?_) rfl rfl ?_ ?_; rotate_left; focus (intro w hb; go_simp; try with_reducible rfl)
           simp only [Act.put, List.setIfInBounds_toArray, List.set_cons_zero, List.set_cons_succ, Nat.reduceAdd]))
      refine Flow.exact_ rfl rfl ?_ ?_
      · intro wf hb hk
        (try simp only [holdsF, lookF, lookV, List.map_cons, List.map_nil, List.headD_cons, List.getD_cons_zero, List.getD_cons_succ, Nat.reduceEqDiff, Nat.reduceAdd, ↓reduceIte, and_true] at hk ⊢)
        go_simp
        exact (Op_eq (F := F) (G := G) (x := gt x k) ⟨p1, n1, c1, p2, n2, c2, p3, n3, c3, rfl, HE.out.1.1, HE.out.1.2.1.grow hb, HE.out.1.2.2.1.grow hb, HE.out.1.2.2.2.grow hb⟩ ⟨q1, m1, d1, q2, m2, d2, q3, m3, d3, rfl, HE.out.2.1, HE.out.2.2.1.grow hb, HE.out.2.2.2.1.grow hb, HE.out.2.2.2.2.grow hb⟩).mono fun e w' ⟨he, hb'⟩ => ⟨_, he, rfl, hb'⟩
      simp only [Act.put, List.setIfInBounds_toArray, List.set_cons_zero, List.set_cons_succ, Nat.reduceAdd]
      repeat (first
        | (refine Flow.skip_ rfl ?_; simp only [Act.put, List.setIfInBounds_toArray, List.set_cons_zero, List.set_cons_succ, Nat.reduceAdd])
        | (refine Flow.pure_ (v := ?_) rfl rfl ?_ ?_; rotate_left; focus (intro w hb; go_simp; try with_reducible rfl)
           simp only [Act.put, List.setIfInBounds_toArray, List.set_cons_zero, List.set_cons_succ, Nat.reduceAdd]))
      refine Flow.done_ (fun w1 hb1 hk => ?_)
      clear e0 e1 e2 e3 e4 e5 e6 e7 e8 e9 e10 e11 f0 f1 f2 f3 f4 f5 f6 f7 f8 f9 f10 f11
      go_wp2
      go_roundw
      case rel => exact ⟨k + 1, by omega, by go_num, below_next hb hb1 hb.size⟩
      case measure => simp [intOf]; omega
    · clear h1 h2
      go_wp2
      go_ret
      exact ⟨rfl, hb⟩

set_option maxHeartbeats 800000 in
theorem Msg_eq {F G : Blks} {u v : Value} {x : Msg} {w : World} (h1 : vr F w u x) (h2 : vr G w v x) :
    Calls Try.prog 15 #[u, v] w fun e w' => e = .returned (.bool true) ∧ Below w.heap.size w w' := by
  obtain ⟨p1, n1, c1, p2, n2, c2, p3, n3, c3, rfl, -, s1, s2, s3⟩ := h1
  obtain ⟨p1', n1', c1', p2', n2', c2', p3', n3', c3', rfl, -, s1', s2', s3'⟩ := h2
  have hc : ∀ (i : Nat) (u : Value), (#[.int .i64 x.kind, .int .i64 x.fr, .int .i64 x.to, .slice p1 n1 c1, .slice p2 n2 c2, .slice p3 n3 c3] : Array Value)[i]? = some u → World.cell? ((w.alloc (.cells #[.int .i64 x.kind, .int .i64 x.fr, .int .i64 x.to, .slice p1 n1 c1, .slice p2 n2 c2, .slice p3 n3 c3] 26)).alloc (.cells #[.int .i64 x.kind, .int .i64 x.fr, .int .i64 x.to, .slice p1' n1' c1', .slice p2' n2' c2', .slice p3' n3' c3'] 26)) ⟨w.heap.size, i, none⟩ = some u := fun i u h => by
    rw [← h]
    exact cell_of_row _ _ _ _ 26 (0, 0) (((Below.alloc (Below.refl _ _) (Nat.le_refl _) _).block _ (by simp)).trans (heap_alloc_new _ _))
  have hd : ∀ (i : Nat) (u : Value), (#[.int .i64 x.kind, .int .i64 x.fr, .int .i64 x.to, .slice p1' n1' c1', .slice p2' n2' c2', .slice p3' n3' c3'] : Array Value)[i]? = some u → World.cell? ((w.alloc (.cells #[.int .i64 x.kind, .int .i64 x.fr, .int .i64 x.to, .slice p1 n1 c1, .slice p2 n2 c2, .slice p3 n3 c3] 26)).alloc (.cells #[.int .i64 x.kind, .int .i64 x.fr, .int .i64 x.to, .slice p1' n1' c1', .slice p2' n2' c2', .slice p3' n3' c3'] 26)) ⟨w.heap.size + 1, i, none⟩ = some u := fun i u h => by
    rw [← h]
    exact cell_of_row _ _ _ _ 26 (0, 0) (by simpa using heap_alloc_new (w.alloc (.cells #[.int .i64 x.kind, .int .i64 x.fr, .int .i64 x.to, .slice p1 n1 c1, .slice p2 n2 c2, .slice p3 n3 c3] 26)) (.cells #[.int .i64 x.kind, .int .i64 x.fr, .int .i64 x.to, .slice p1' n1' c1', .slice p2' n2' c2', .slice p3' n3' c3'] 26))
  have hb0 : Below w.heap.size w ((w.alloc (.cells #[.int .i64 x.kind, .int .i64 x.fr, .int .i64 x.to, .slice p1 n1 c1, .slice p2 n2 c2, .slice p3 n3 c3] 26)).alloc (.cells #[.int .i64 x.kind, .int .i64 x.fr, .int .i64 x.to, .slice p1' n1' c1', .slice p2' n2' c2', .slice p3' n3' c3'] 26)) := ((Below.refl _ w).alloc (Nat.le_refl _) _).alloc (by simp) _
  have HC := Lib.hid hc; have HD := Lib.hid hd; have HB := Lib.hid hb0
  have HS := Lib.hid (And.intro (And.intro s1 s1') (And.intro (And.intro s2 s2') (And.intro s3 s3')))
  clear hc hd hb0 s1 s2 s3 s1' s2' s3'
  go_enter Try.func15, Try.ntmps15
  go_wp2_with fail
  refine (Ints_eq (HS.out.1.1.grow HB.out) (HS.out.1.2.grow HB.out)).mono ?_
  rintro e w2 ⟨rfl, hb2⟩
  have e1 := cell_later hb2 (HC.out 4 _ rfl)
  have e2 := cell_later hb2 (HD.out 4 _ rfl)
  go_wp2_with fail
  refine (Ints_eq (HS.out.2.1.1.grow (below2 HB.out hb2)) (HS.out.2.1.2.grow (below2 HB.out hb2))).mono ?_
  rintro e w4 ⟨rfl, hb4'⟩
  have hb4 := below2 hb2 hb4'
  clear hb2 hb4' e1 e2
  have e1 := cell_later hb4 (HC.out 5 _ rfl)
  have e2 := cell_later hb4 (HD.out 5 _ rfl)
  go_wp2_with fail
  refine (Ops_eq (HS.out.2.2.1.grow (below2 HB.out hb4)) (HS.out.2.2.2.grow (below2 HB.out hb4))).mono ?_
  rintro e w5 ⟨rfl, hb5'⟩
  have hb5 := below2 HB.out (below2 hb4 hb5')
  clear hb4 hb5' e1 e2
  go_wp2
  go_ret
  exact ⟨rfl, hb5⟩
end Go.Proofs.Ytpmdkmpmpjdglaa
