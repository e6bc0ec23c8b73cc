/- The law's own wakes and Heavy. -/
import Derived.Test.YtpmdkmpmpjdglaaPut
set_option linter.unusedSimpArgs false
set_option linter.unusedVariables false
namespace Go.Proofs.Ytpmdkmpmpjdglaa
open Go Go.RowKit
open Rep (vr)

def heavyL (l : List Letter) : Bool := decide (60 < l.length) || l.any fun x => decide (300 < x.body.length)
theorem not_heavyL {l : List Letter} (h : heavyL l = false) : l.length ≤ 60 ∧ ∀ x ∈ l, x.body.length ≤ 300 := by
  unfold heavyL at h
  simp only [Bool.or_eq_false_iff, decide_eq_false_iff_not, Nat.not_lt, List.any_eq_false, decide_eq_true_eq] at h
  exact h
set_option maxRecDepth 100000 in
set_option maxHeartbeats 400000 in
theorem Heavy_any {F : Blks} {p : Option Addr} {n c : Nat} {l : List Letter} {w : World} (h1 : Sl F w p n c l) :
    Calls Try.prog 8 #[.slice p n c] w fun e w' => e = .returned (.bool (heavyL l)) ∧ w = w' := by
  have hlen := h1.len
  go_enter Try.func8, Try.ntmps8
  by_cases h60 : 60 < n
  · have hr : heavyL l = true := by unfold heavyL; rw [hlen]; simp [h60]
    rw [hr]
    go_wp2
    go_ret
    exact ⟨rfl, rfl⟩
  · go_wp2
    go_loop [3] (fun i => ∃ k : Nat, k ≤ n ∧ i = .int .i64 k ∧ ∀ j, j < k → (gt l j).body.length ≤ 300) (fun i => n - (intOf i).toNat)
    case atStart => exact ⟨0, Nat.zero_le _, rfl, fun j hj => by omega⟩
    case round =>
      obtain ⟨k, hk, rfl, hall⟩ := hrel
      by_cases hlt : k < n
      · obtain ⟨b, o, p1, n1, c1, rfl, _, _, e1, e2, e3, i1, i2, hs1⟩ := h1.letter hlt
        have hl1 := hs1.len
        by_cases h300 : 300 < n1
        · have hr : heavyL l = true := by
            unfold heavyL
            rw [Bool.or_eq_true, List.any_eq_true]
            exact .inr ⟨gt l k, List.mem_of_getElem? (gt_get (by omega)), by rw [hl1]; simpa using h300⟩
          have HR := Lib.hid hr
          clear hall hr h1 hlen
          go_wp2
          go_ret
          rw [HR.out]
          exact ⟨rfl, rfl⟩
        · have HA := Lib.hid hall
          have HL := Lib.hid hl1
          clear hall h1 hl1
          go_wp2
          go_round
          case rel => exact ⟨k + 1, by omega, by go_num, fun j hj => by rcases Nat.lt_succ_iff_lt_or_eq.1 hj with h | rfl; exact HA.out j h; rw [HL.out]; omega⟩
          case measure => simp [intOf]; omega
      · have hr : heavyL l = false := by
          unfold heavyL
          rw [Bool.or_eq_false_iff, List.any_eq_false]
          refine ⟨by simp; omega, fun x hx => ?_⟩
          obtain ⟨j, hj, rfl⟩ := List.getElem_of_mem hx
          have := hall j (by omega)
          rw [gt_eq (List.getElem?_eq_getElem hj)] at this
          simpa using this
        have HR := Lib.hid hr
        clear hall hr h1
        go_wp2
        go_ret
        rw [HR.out]
        exact ⟨rfl, rfl⟩

def m0 : Msg := ⟨2, 1, 0, [1, 0], [0, 0], []⟩
theorem m0_small : SmallM m0 := ⟨by decide, by decide, by decide, fun x hx => by cases hx⟩
theorem m0_ok : msgErr m0 = 0 := by decide
theorem sealed_len (bs : List UInt8) : (sealed bs).length = bs.length + 4 := by unfold sealed sumB; simp
theorem m0_len : (msgB m0).length = 27 := by
  unfold msgB
  rw [if_pos m0_ok, sealed_len]
  decide

theorem i64_of {n : Int} (h : -1000 ≤ n ∧ n ≤ 1000) : I64 n := by unfold I64; omega
theorem m0_vr {W : World} {g1 g2 : Nat} (h1 : W.heap[g1]? = some (.cells #[.int .i64 1, .int .i64 0] 3 (0, 0))) (h2 : W.heap[g2]? = some (.cells #[.int .i64 0, .int .i64 0] 3 (0, 0))) :
    vr allB W (.agg #[.int .i64 2, .int .i64 1, .int .i64 0, .slice (some ⟨g1, 0, none⟩) 2 2, .slice (some ⟨g2, 0, none⟩) 2 2, .slice none 0 0]) m0 :=
  ⟨_, _, _, _, _, _, _, _, _, rfl, ⟨i64_of (by decide), i64_of (by decide), i64_of (by decide)⟩,
    Sl.lit (α := Int) (xs := [1, 0]) h1 [.int .i64 1, .int .i64 0] rfl rfl (elems2 ⟨rfl, i64_of (by decide)⟩ ⟨rfl, i64_of (by decide)⟩) trivial (by simp),
    Sl.lit (α := Int) (xs := [0, 0]) h2 [.int .i64 0, .int .i64 0] rfl rfl (elems2 ⟨rfl, i64_of (by decide)⟩ ⟨rfl, i64_of (by decide)⟩) trivial (by simp), Sl.nil _ _ none 0 (by simp [maxLen])⟩
set_option maxRecDepth 100000 in
set_option maxHeartbeats 400000 in
theorem wakes_any {w : World} : Calls Try.prog 21 #[] w fun e w' => e = .returned (.bool true) ∧ Below w.heap.size w w' := by
  go_enter Try.func21, Try.ntmps21
  go_wp2_with fail
  have hb0 := al3 w (.cells #[.int .i64 1, .int .i64 0] 3) (.cells #[.int .i64 0, .int .i64 0] 3) (.cells #[.int .i64 2, .int .i64 1, .int .i64 0, .slice (some ⟨w.heap.size, 0, none⟩) 2 2, .slice (some ⟨w.heap.size + 1, 0, none⟩) 2 2, .slice none 0 0] 26)
  have HB := Lib.hid hb0
  clear hb0
  refine (Put_yes (F := allB) (l := []) (Sl.nil _ _ none 0 (by simp [maxLen])) (by decide) (fun x hx => by cases hx) (m0_vr (g1 := w.heap.size) (g2 := w.heap.size + 1) ?_ ?_) m0_small (fun x hx => by cases hx) m0_ok).mono ?_
  · exact ((al2 (w.alloc _) _ _).block _ (by simp)).trans (heap_alloc_new w _)
  · exact ((al1 ((w.alloc _).alloc _) _).block (w.heap.size + 1) (by simp)).trans (by simpa using heap_alloc_new (w.alloc (.cells #[.int .i64 1, .int .i64 0] 3)) (.cells #[.int .i64 0, .int .i64 0] 3))
  rintro e w1 ⟨v1, rfl, ho, hb⟩
  have hB1 : Below w.heap.size w w1 := below2 HB.out hb
  obtain ⟨q, d, rfl, hs⟩ := ho.sl
  have HS := Lib.hid hs
  clear ho hb hs HB
  go_wp2_with fail
  refine (Take_yes (k := 0) HS.out (by simp) (by simp) (fun x hx => by simp at hx; subst hx; rw [m0_len]; decide)).mono ?_
  rintro e w2 ⟨v2, u2, rfl, ho2, hu2, hb2⟩
  obtain ⟨q2, d2, rfl, hs2⟩ := ho2.sl
  obtain ⟨q3, n3, c3, rfl, hi3, hs3⟩ := hu2
  have hl3 := hs3.len
  have hg : gt ([] ++ [(⟨m0.fr, m0.to, msgB m0⟩ : Letter)]) 0 = ⟨1, 0, msgB m0⟩ := rfl
  rw [hg] at hl3 ⊢
  rw [m0_len] at hl3
  subst hl3
  have hB2 : Below w.heap.size w w2 := below2 hB1 hb2
  clear ho2 hs2 hs3 hi3 hg hb2 HS hB1
  go_wp2
  go_ret
  have hz := hB2.size
  exact ⟨rfl, below2 hB2 (al1 _ _)⟩
end Go.Proofs.Ytpmdkmpmpjdglaa
