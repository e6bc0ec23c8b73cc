/- value.Check, row.Check, wire.PutText, wire.PutInt, value.Bytes, row.Bytes: what they tell. -/
import Derived.Test.YtpmdkmpmpjdglaaCrc
import Derived.Laws.Closers25b
set_option linter.unusedSimpArgs false
set_option linter.unusedVariables false
namespace Go.Proofs.Ytpmdkmpmpjdglaa
open Go Go.RowKit
open Rep (vr)

set_option maxRecDepth 100000 in
set_option maxHeartbeats 400000 in
theorem within_any {w : World} {n : Int} : Calls Try.prog 104 #[.int .i64 n, .int .i64 1152921504606846976] w fun e w' => e = .returned (.bool (decide (-1152921504606846976 ≤ n) && decide (n ≤ 1152921504606846976))) ∧ w = w' := by
  by_cases h1 : -1152921504606846976 ≤ n
  · have e1 : decide (-1152921504606846976 ≤ n) = true := by simpa using h1
    go_enter Try.func104, Try.ntmps104
    go_wp2
    go_ret
    exact ⟨by simp [h1], rfl⟩
  · have e1 : decide (-1152921504606846976 ≤ n) = false := by simpa using h1
    go_enter Try.func104, Try.ntmps104
    go_wp2
    go_ret
    exact ⟨by simp [h1], rfl⟩

def chk (b : Bool) : Int := if b then 0 else 1
theorem str_emp (s : ByteArray) : s.toList.isEmpty = decide (s.size = 0) := by
  have h1 : s.toList = [] ↔ s = ByteArray.empty := toList_nil_iff_emptyBytes s
  have h2 : s.size = 0 ↔ s = ByteArray.empty := by simp
  by_cases h : s = ByteArray.empty
  · rw [h1.2 h, decide_eq_true (h2.2 h)]; rfl
  · rw [decide_eq_false (fun e => h (h2.1 e))]
    cases hl : s.toList with
    | nil => exact absurd (h1.1 hl) h
    | cons a l => rfl

set_option maxRecDepth 100000 in
set_option maxHeartbeats 400000 in
theorem ValCheck {F : Blks} {w : World} {v : Value} {x : Val} (hv : vr F w v x) :
    Calls Try.prog 98 #[v] w fun e w' => e = .returned (.int .i64 (chk (valOk x))) ∧ Below w.heap.size w w' := by
  obtain ⟨rfl, hi⟩ := hv
  go_enter Try.func98, Try.ntmps98
  go_wp2_with (go_at_call 104; refine within_any.mono ?_; rintro e w' ⟨rfl, rfl⟩)
  all_goals
    go_ret
    refine ⟨?_, al1 _ _⟩
    simp_all [chk, valOk, str_emp]
  all_goals first | omega | (intros; omega)

set_option maxRecDepth 100000 in
set_option maxHeartbeats 400000 in
theorem wrong_any {F : Blks} {w : World} {v : Value} {x : Val} (hv : vr F w v x) :
    Calls Try.prog 97 #[v] w fun e w' => e = .returned (.bool (!valOk x)) ∧ Below w.heap.size w w' := by
  obtain ⟨rfl, hi⟩ := hv
  have HC := Lib.hid (fun w : World => ValCheck (F := F) (w := w) (v := .agg #[.int .i64 x.kind, .int .i64 x.i, .string x.s]) (x := x) ⟨rfl, hi⟩)
  go_enter Try.func97, Try.ntmps97
  go_wp2_with fail
  refine (HC.out _).mono ?_
  rintro e w1 ⟨rfl, hb⟩
  have hB : Below w.heap.size w w1 := below2 (al1 _ _) hb
  cases hok : valOk x
  all_goals
    simp only [chk]
    go_wp2
    go_ret
    exact ⟨by first | rfl | (rw [hok]; rfl), hB⟩

set_option maxRecDepth 100000 in
set_option maxHeartbeats 400000 in
theorem IndexWrong {F : Blks} {w : World} {p : Option Addr} {n c : Nat} {r : List Val} (h1 : Sl F w p n c r) (hn : n ≤ 1000000) :
    Calls Try.prog 103 #[.slice p n c, .func (.func 97) #[] #[]] w fun e w' => ∃ i : Int, e = .returned (.int .i64 i) ∧ decide (0 ≤ i) = !r.all valOk ∧ Below w.heap.size w w' := by
  have hlen := h1.len
  have H1 := Lib.hid h1; have HL := Lib.hid hlen
  clear h1 hlen
  go_enter Try.func103, Try.ntmps103
  go_wp2
  go_loopw [8] (fun i wr => ∃ k : Nat, k ≤ n ∧ i = .int .i64 k ∧ (∀ j, j < k → valOk (gt r j) = true) ∧ Below w.heap.size w wr) (fun i _ => n - (intOf i).toNat)
  case atStart => exact ⟨0, Nat.zero_le _, rfl, fun j hj => by omega, Below.refl _ _⟩
  case round =>
    obtain ⟨k, hk, rfl, hall, hb⟩ := hrel
    by_cases hlt : k < n
    · obtain ⟨b, o, rfl, _, _, e0, e1, e2, i0, i1, i2⟩ := (H1.out.grow hb).val hlt
      have HA := Lib.hid hall; have HB := Lib.hid hb
      clear hall hb
      go_wp2_with fail
      refine (wrong_any (F := F) (x := gt r k) ⟨rfl, i0, i1, i2⟩).mono ?_
      rintro e w2 ⟨rfl, hb2⟩
      have HB2 := Lib.hid (below2 HB.out hb2)
      clear hb2 e0 e1 e2
      cases hok : valOk (gt r k) with
      | false =>
        have hall : r.all valOk = false := by
          rw [List.all_eq_false]
          exact ⟨gt r k, List.mem_of_getElem? (gt_get (by have := HL.out; omega)), by rw [hok]; decide⟩
        have HX := Lib.hid hall
        clear hall hok
        simp only [Bool.not_false]
        go_wp2
        go_ret
        exact ⟨_, rfl, by rw [HX.out]; simp, HB2.out⟩
      | true =>
        have HX := Lib.hid hok
        clear hok
        simp only [Bool.not_true]
        go_wp2
        go_roundw
        case rel => exact ⟨k + 1, by omega, by go_num, fun j hj => by rcases Nat.lt_succ_iff_lt_or_eq.1 hj with h | rfl; exact HA.out j h; exact HX.out, HB2.out⟩
        case measure => simp [intOf]; omega
    · have hr : r.all valOk = true := by
        rw [List.all_eq_true]
        intro x hx
        obtain ⟨j, hj, rfl⟩ := List.getElem_of_mem hx
        have := hall j (by have := HL.out; omega)
        rw [gt_eq (List.getElem?_eq_getElem hj)] at this
        exact this
      have HX := Lib.hid hr; have HB := Lib.hid hb
      clear hall hr hb
      go_wp2
      go_ret
      exact ⟨_, rfl, by rw [HX.out]; decide, HB.out⟩

set_option maxRecDepth 100000 in
set_option maxHeartbeats 400000 in
theorem ContainsWrong {F : Blks} {w : World} {p : Option Addr} {n c : Nat} {r : List Val} (h1 : Sl F w p n c r) (hn : n ≤ 1000000) :
    Calls Try.prog 96 #[.slice p n c, .func (.func 97) #[] #[]] w fun e w' => e = .returned (.bool (!r.all valOk)) ∧ Below w.heap.size w w' := by
  have H1 := Lib.hid (IndexWrong h1 hn)
  go_enter Try.func96, Try.ntmps96
  go_wp2_with fail
  refine H1.out.mono ?_
  rintro e w1 ⟨i, rfl, hi, hb⟩
  go_wp2
  go_ret
  exact ⟨by first | rfl | (rw [← hi]; rfl), hb⟩

def rowErr (r : List Val) : Int := if 12 < r.length then 2 else if r.all valOk then 0 else 1
set_option maxRecDepth 100000 in
set_option maxHeartbeats 400000 in
theorem RowCheck {F : Blks} {w : World} {p : Option Addr} {n c : Nat} {r : List Val} (h1 : Sl F w p n c r) :
    Calls Try.prog 87 #[.slice p n c] w fun e w' => e = .returned (.int .i64 (rowErr r)) ∧ Below w.heap.size w w' := by
  have hlen := h1.len
  by_cases h12 : 12 < n
  · have hr : rowErr r = 2 := by unfold rowErr; rw [hlen, if_pos h12]
    rw [hr]
    clear h1 hr
    go_enter Try.func87, Try.ntmps87
    go_wp2
    go_ret
    exact ⟨rfl, Below.refl _ _⟩
  · have hr : rowErr r = if r.all valOk then 0 else 1 := by unfold rowErr; rw [hlen, if_neg h12]
    rw [hr]
    have H1 := Lib.hid (ContainsWrong h1 (by omega))
    clear h1 hr
    go_enter Try.func87, Try.ntmps87
    go_wp2_with fail
    refine H1.out.mono ?_
    rintro e w1 ⟨rfl, hb⟩
    cases hok : r.all valOk
    all_goals
      go_wp2
      all_goals
        first
        | (exfalso; simp_all; done)
        | (go_ret; exact ⟨by first | rfl | (rw [hok]; rfl), hb⟩)
end Go.Proofs.Ytpmdkmpmpjdglaa
