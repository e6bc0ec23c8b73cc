/- What was written is read: wire's reading functions. -/
import Derived.Test.YtpmdkmpmpjdglaaWOp
set_option linter.unusedSimpArgs false
set_option linter.unusedVariables false
namespace Go.Proofs.Ytpmdkmpmpjdglaa
open Go Go.RowKit
open Rep (vr)

def numB (bs : List UInt8) : Nat := bs.foldl (fun n c => n * 256 + c.toNat) 0
theorem numB_take (bs : List UInt8) {k : Nat} (h : k < bs.length) : numB (bs.take (k + 1)) = numB (bs.take k) * 256 + (gt bs k).toNat := by
  unfold numB
  rw [List.take_succ_eq_append_getElem h, gt_eq (List.getElem?_eq_getElem h), List.foldl_append]
  rfl
theorem numB_lt (bs : List UInt8) : numB bs < 256 ^ bs.length := by
  have h : ∀ (l : List UInt8) (n : Nat) (m : Nat), n < 256 ^ m → l.foldl (fun n c => n * 256 + c.toNat) n < 256 ^ (m + l.length) := by
    intro l
    induction l with
    | nil => intro n m h; exact h
    | cons c l ih =>
      intro n m h
      have := ih (n * 256 + c.toNat) (m + 1) (by have := c.toNat_lt; rw [Nat.pow_succ]; omega)
      rw [List.length_cons, show m + (l.length + 1) = m + 1 + l.length by omega]
      exact this
  have := h bs 0 0 (by decide)
  simpa [numB] using this
theorem or_byte (n : Nat) (c : UInt8) : n * 256 ||| c.toNat = n * 256 + c.toNat := by
  have := Nat.two_pow_add_eq_or_of_lt (i := 8) (b := c.toNat) (by have := c.toNat_lt; omega) n
  rw [show n * 256 = 2 ^ 8 * n by omega]
  exact this.symm

set_option maxRecDepth 100000 in
set_option maxHeartbeats 400000 in
theorem num_any {F : Blks} {p : Option Addr} {n c : Nat} {bs : List UInt8} {w : World} (h1 : Sl F w p n c bs) (hn : n ≤ 8) :
    Calls Try.prog 90 #[.slice p n c] w fun e w' => e = .returned (.int .u64 (numB bs : Nat)) ∧ w = w' := by
  have hlen := h1.len
  go_enter Try.func90, Try.ntmps90
  go_wp2
  go_loop [3, 8] (fun v i => ∃ k : Nat, k ≤ n ∧ i = .int .i64 k ∧ v = .int .u64 (numB (bs.take k) : Nat)) (fun _ i => n - (intOf i).toNat)
  case atStart => exact ⟨0, Nat.zero_le _, rfl, rfl⟩
  case round =>
    obtain ⟨k, hk, rfl, rfl⟩ := hrel
    by_cases hlt : k < n
    · obtain ⟨b, o, rfl, _, _, e1⟩ := h1.byte hlt
      have hs := numB_take bs (k := k) (by omega)
      have hb : numB (bs.take k) < 72057594037927936 := by
        have h1 := numB_lt (bs.take k)
        have h2 : (bs.take k).length ≤ 7 := by rw [List.length_take]; omega
        exact Nat.lt_of_lt_of_le h1 (Nat.le_trans (Nat.pow_le_pow_right (by decide) h2) (by decide))
      generalize numB (bs.take k) = r at hs hb ⊢
      generalize gt bs k = x at e1 hs
      have hx := x.toNat_lt
      have HS := Lib.hid hs
      clear hs h1 hlen
      go_wp2
      go_round
      case rel =>
        refine ⟨k + 1, by omega, by go_num, ?_⟩
        rw [HS.out, ← or_byte, show ((r : Int) * 256) = ((r * 256 : Nat) : Int) by simp, u64_or_nat _ _ (by omega) (by omega)]
      case measure => simp [intOf]; omega
    · have hk2 : bs.take k = bs := List.take_of_length_le (by omega)
      rw [hk2]
      clear h1
      go_wp2
      go_ret
      exact ⟨rfl, rfl⟩

set_option maxRecDepth 100000 in
set_option maxHeartbeats 400000 in
theorem Get_ok {F : Blks} {p : Option Addr} {n c : Nat} {bs : List UInt8} {w : World} {a size : Nat} (h1 : Sl F w p n c bs) (hn : n ≤ 1000000000) (hs1 : 1 ≤ size) (hs2 : size ≤ 7) (ha : a + size ≤ n) :
    Calls Try.prog 66 #[.slice p n c, .int .i64 a, .int .i64 size] w fun e w' => e = .returned (.tuple #[.int .i64 (numB ((bs.drop a).take size) : Nat), .int .i64 (a + size : Nat), .int .i64 0]) ∧ w = w' := by
  have hnc := h1.le
  have hcm : c ≤ 9223372036854775807 := by have := h1.max; unfold maxLen at this; exact this
  have hsl := (h1.take (k := a + size) ha).drop (k := a) (by omega)
  have he : (bs.take (a + size)).drop a = (bs.drop a).take size := by rw [List.drop_take, show a + size - a = size by omega]
  rw [he, show a + size - a = size by omega] at hsl
  rw [if_neg (by omega : ¬ c = a), show Rep.size UInt8 = 1 from rfl, Nat.mul_one] at hsl
  have hnum := num_any hsl (by omega)
  have hb : numB ((bs.drop a).take size) < 72057594037927936 := by
    have h1 := numB_lt ((bs.drop a).take size)
    have h2 : ((bs.drop a).take size).length ≤ 7 := by rw [List.length_take]; omega
    exact Nat.lt_of_lt_of_le h1 (Nat.le_trans (Nat.pow_le_pow_right (by decide) h2) (by decide))
  have d1 : decide ((size : Int) < 1) = false := by simp; omega
  have d2 : decide ((7 : Int) < (size : Int)) = false := by simp; omega
  have d3 : decide ((n : Int) < (a : Int)) = false := by simp; omega
  have d4 : IntKind.i64.wrap ((n : Int) - (a : Int)) = ((n - a : Nat) : Int) := by rw [IntWalk.i64_in _ (by omega)]; omega
  have d5 : IntKind.i64.wrap ((a : Int) + (size : Int)) = ((a + size : Nat) : Int) := by rw [IntWalk.i64_in _ (by omega)]; omega
  have d6 : decide (((n - a : Nat) : Int) < (size : Int)) = false := by simp; omega
  have g1 : a ≤ a + size := by omega
  have g2 : a + size ≤ c := by omega
  have g3 : (a : Int) ≤ (a : Int) + (size : Int) := by omega
  have g4 : (a : Int) + (size : Int) ≤ (c : Int) := by omega
  have g5 : ((a : Int) + (size : Int)).toNat = a + size := by omega
  have HN := Lib.hid hnum; have HB := Lib.hid hb
  clear hnum hsl he h1
  go_enter Try.func66, Try.ntmps66
  go_wp2_with fail
  refine HN.out.mono ?_
  rintro e w1 ⟨rfl, rfl⟩
  go_wp2
  go_ret3
  exact ⟨by first | rfl | simp, rfl⟩

/-- Block g is a Reader over bs at place a; X: what it keeps off. -/
structure Rd (F X : Blks) (w : World) (g : Nat) (bs : List UInt8) (a : Nat) : Prop where
  old : ∀ b, X b → b < w.heap.size
  off : ¬ X g
  sub : ∀ b, F b → X b
  form : ∃ p c T, w.heap[g]? = some (.cells #[.slice p bs.length c, .int .i64 (a : Nat), .bool false] T (0, 0)) ∧ Sl F w p bs.length c bs

theorem Rd.below {F X : Blks} {w w' : World} {g : Nat} {bs : List UInt8} {a : Nat} (h : Rd F X w g bs a) (hb : Below w.heap.size w w') : Rd F X w' g bs a := by
  obtain ⟨p, c, T, hg, hs⟩ := h.form
  exact ⟨fun b hx => Nat.lt_of_lt_of_le (h.old b hx) hb.size, h.off, h.sub, p, c, T, (hb.block g (heap_lt hg)).trans hg, hs.grow hb⟩

set_option maxRecDepth 100000 in
set_option maxHeartbeats 400000 in
theorem RNum {F X : Blks} {w : World} {g : Nat} {bs : List UInt8} {a size : Nat} (h : Rd F X w g bs a) (hl : bs.length ≤ 1000000000) (hs1 : 1 ≤ size) (hs2 : size ≤ 7) (ha : a + size ≤ bs.length) :
    Calls Try.prog 42 #[.pointer (some ⟨g, 0, none⟩), .int .i64 size] w fun e w' => e = .returned (.int .i64 (numB ((bs.drop a).take size) : Nat)) ∧ Rd F X w' g bs (a + size) ∧ Mod X w w' := by
  obtain ⟨hold, hoff, hsub, p, c, T, hg, hs⟩ := h
  have hgl := heap_lt hg
  have f0 : ∀ w', Below w.heap.size w w' → w'.cell? ⟨g, 0, none⟩ = some (.slice p bs.length c) := fun w' hb => cell_later hb (heap_cell hg)
  have f1 : ∀ w', Below w.heap.size w w' → w'.cell? ⟨g, 1, none⟩ = some (.int .i64 (a : Nat)) := fun w' hb => cell_later hb (heap_cell hg)
  have HG := Lib.hid hg; have HS := Lib.hid hs
  clear hs hg
  go_enter Try.func42, Try.ntmps42
  go_wp2
  refine wp_flowL 17 [(9, .exact [] (.tuple #[.int .i64 (numB ((bs.drop a).take size) : Nat), .int .i64 (a + size : Nat), .int .i64 0]))] (by kernel_rfl) (by kernel_rfl) ?_ ?_
  · trivial
  repeat (first
    | (refine Flow.skip_ rfl ?_; simp only [Act.put, List.setIfInBounds_toArray, List.set_cons_zero, List.set_cons_succ, Nat.reduceAdd])
    | (refine Flow.pure_ (v := ?_) rfl rfl ?_ ?_; rotate_left; focus (intro w hb; go_simp; try with_reducible rfl)
       simp only [Act.put, List.setIfInBounds_toArray, List.set_cons_zero, List.set_cons_succ, Nat.reduceAdd]))
  refine Flow.exact_ rfl rfl ?_ ?_
  · intro wf hb hk
    (try simp only [holdsF, lookF, lookV, List.map_cons, List.map_nil, List.headD_cons, List.getD_cons_zero, List.getD_cons_succ, Nat.reduceEqDiff, Nat.reduceAdd, ↓reduceIte, and_true] at hk ⊢)
    go_simp
    exact (Get_ok (HS.out.grow hb) hl hs1 hs2 ha).mono fun e w' ⟨he, hw⟩ => ⟨_, he, rfl, hw ▸ Below.refl _ _⟩
  simp only [Act.put, List.setIfInBounds_toArray, List.set_cons_zero, List.set_cons_succ, Nat.reduceAdd]
  repeat (first
    | (refine Flow.skip_ rfl ?_; simp only [Act.put, List.setIfInBounds_toArray, List.set_cons_zero, List.set_cons_succ, Nat.reduceAdd])
    | (refine Flow.pure_ (v := ?_) rfl rfl ?_ ?_; rotate_left; focus (intro w hb; go_simp; try with_reducible rfl)
       simp only [Act.put, List.setIfInBounds_toArray, List.set_cons_zero, List.set_cons_succ, Nat.reduceAdd]))
  refine Flow.done_ (fun w1 hb1 hk => ?_)
  have hg1 : w1.heap[g]? = some (.cells #[.slice p bs.length c, .int .i64 (a : Nat), .bool false] T (0, 0)) := (hb1.block g hgl).trans HG.out
  have e0 : w1.cell? ⟨g, 0, none⟩ = some (.slice p bs.length c) := heap_cell hg1
  have e1 : w1.cell? ⟨g, 1, none⟩ = some (.int .i64 (a : Nat)) := heap_cell hg1
  have e2 : w1.cell? ⟨g, 2, none⟩ = some (.bool false) := heap_cell hg1
  have ef : ∀ o, w1.frozen? ⟨g, o, none⟩ = false := fun o => heap_frozen hg1
  have HG1 := Lib.hid hg1
  clear f0 f1 hg1
  go_wp2
  go_ret
  have hM : Mod X w w1 := Mod.of_below hb1 hold
  refine ⟨rfl, ⟨fun b hb => Nat.lt_of_lt_of_le (hold b hb) (hM.setCell (p := ⟨g, 1, none⟩) hoff _).size, hoff, hsub, p, c, T, ?_, ?_⟩, hM.setCell hoff _⟩
  · have := heap_set (i := 1) (u := .int .i64 ((a : Int) + (size : Int))) HG1.out
    simpa using this
  · exact (HS.out.grow hb1).keep (fun b hb => Below.heap_setCell _ _ _ _ fun e => hoff ((show b = g from e) ▸ hsub b hb))
end Go.Proofs.Ytpmdkmpmpjdglaa
