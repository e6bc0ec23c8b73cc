/- wire.GetText and the Reader's Text at a text that was written. -/
import Derived.Test.YtpmdkmpmpjdglaaReads
import Derived.Laws.IdiomStrings
import Derived.Laws.BytesArg
set_option linter.unusedSimpArgs false
set_option linter.unusedVariables false
namespace Go.Proofs.Ytpmdkmpmpjdglaa
open Go Go.RowKit
open Rep (vr)

theorem conv_sl {F : Blks} {w : World} {p : Option Addr} {n c : Nat} {bs : List UInt8} (h : Sl F w p n c bs) :
    (convert 37 9 (.slice p n c)).run Try.prog w = .ok (.string ⟨bs.toArray⟩) w := by
  have hlen := h.len
  cases p with
  | none =>
    have hb : bs = [] := by
      cases bs with
      | nil => rfl
      | cons b l => obtain ⟨b', o, v, he, _⟩ := h.at_ 0 b rfl; cases he
    subst hb
    exact run_convert_bytes_nil w 37 5 Try.underlying37 Try.underlying5 n c 9 Try.underlying9
  | some a =>
    rw [← hlen]
    refine run_convert_bytes_back w 37 9 5 a c bs Try.underlying37 Try.underlying5 Try.underlying9 (fun j hj => ?_)
    obtain ⟨b, o, hp, _, _, e1⟩ := h.byte (i := j) (by omega)
    injection hp with hp
    subst hp
    rw [gt_eq (List.getElem?_eq_getElem hj)] at e1
    rw [← e1]
    unfold Addr.add
    split
    · rename_i h0; rw [h0, Nat.add_zero]
    · rfl

theorem str_back (s : ByteArray) : (⟨s.data.toList.toArray⟩ : ByteArray) = s := by cases s; simp
theorem Here.get {bs l : List UInt8} {a : Nat} (h : Here bs a l) {j : Nat} (hj : j < l.length) : gt bs (a + j) = gt l j := by
  obtain ⟨r, hr⟩ := h
  have h1 : bs[a + j]? = l[j]? := by rw [← List.getElem?_drop, hr, List.getElem?_append_left hj]
  rw [List.getElem?_eq_getElem hj] at h1
  rw [gt_eq h1, gt_eq (List.getElem?_eq_getElem hj)]

set_option maxRecDepth 100000 in
set_option maxHeartbeats 800000 in
theorem GetText_ok {F : Blks} {p : Option Addr} {n c : Nat} {bs : List UInt8} {w : World} {a : Nat} {s : ByteArray} (h1 : Sl F w p n c bs) (hn : n ≤ 1000000000) (hh : Here bs a (textB s)) (hs : s.size ≤ 24) :
    Calls Try.prog 91 #[.slice p n c, .int .i64 a] w fun e w' => e = .returned (.tuple #[.string s, .int .i64 (a + 1 + s.size : Nat), .int .i64 0]) ∧ w = w' := by
  have hlen := h1.len
  have hnc := h1.le
  have hcm : c ≤ 9223372036854775807 := by have := h1.max; unfold maxLen at this; exact this
  have hle := hh.le (by rw [textB_len]; omega)
  rw [textB_len, hlen] at hle
  obtain ⟨b, o, rfl, _, _, e1⟩ := h1.byte (i := a) (by omega)
  have hg : gt bs a = UInt8.ofNat s.size := by
    have := hh.get (j := 0) (by rw [textB_len]; omega)
    rw [Nat.add_zero] at this
    rw [this]
    rfl
  rw [hg] at e1
  have hz : (UInt8.ofNat s.size).toNat = s.size := by rw [UInt8.toNat_ofNat']; omega
  rw [hz] at e1
  have hsl := (h1.take (k := a + 1 + s.size) (by omega)).drop (k := a + 1) (by omega)
  have he : (bs.take (a + 1 + s.size)).drop (a + 1) = s.data.toList := by
    have h2 : Here bs (a + 1) s.data.toList := by
      have h3 : Here bs a ([UInt8.ofNat s.size] ++ s.data.toList) := hh
      exact h3.snd
    have h4 := h2.take
    rw [List.drop_take, show a + 1 + s.size - (a + 1) = s.data.toList.length by simp]
    exact h4
  rw [he, show a + 1 + s.size - (a + 1) = s.size by omega] at hsl
  have hconv := conv_sl hsl
  rw [str_back] at hconv
  have hmul : (a + 1) * Rep.size UInt8 = a + 1 := Nat.mul_one _
  have d3 : decide ((n : Int) < (a : Int)) = false := by simp; omega
  have d4 : ((a : Int) == (n : Int)) = false := by simp; omega
  have d11 : decide (n - a - 1 < s.size) = false := by simp; omega
  have d5 : IntKind.i64.wrap ((n : Int) - (a : Int)) = ((n - a : Nat) : Int) := by rw [IntWalk.i64_in _ (by omega)]; omega
  have d6 : IntKind.i64.wrap (((n - a : Nat) : Int) - 1) = ((n - a - 1 : Nat) : Int) := by rw [IntWalk.i64_in _ (by omega)]; omega
  have d7 : decide (((n - a - 1 : Nat) : Int) < (s.size : Int)) = false := by simp; omega
  have d8 : decide ((24 : Int) < (s.size : Int)) = false := by simp; omega
  have d9 : IntKind.i64.wrap ((a : Int) + 1) = ((a + 1 : Nat) : Int) := by rw [IntWalk.i64_in _ (by omega)]; omega
  have d10 : IntKind.i64.wrap (((a + 1 : Nat) : Int) + (s.size : Int)) = ((a + 1 + s.size : Nat) : Int) := by rw [IntWalk.i64_in _ (by omega)]; omega
  have g1 : a + 1 ≤ a + 1 + s.size := by omega
  have g2 : a + 1 + s.size ≤ c := by omega
  have g3 : (a : Int) + 1 ≤ (a : Int) + 1 + (s.size : Int) := by omega
  have g4 : (a : Int) + 1 + (s.size : Int) ≤ (c : Int) := by omega
  have g5 : ((a : Int) + 1 + (s.size : Int)).toNat = a + 1 + s.size := by omega
  have g6 : ((a : Int) + 1).toNat = a + 1 := by omega
  have g7 : a < n := by omega
  rw [hmul] at hconv
  have hadd : (⟨b, o, none⟩ : Addr).add (a + 1) = ⟨b, o + (a + 1), none⟩ := by unfold Addr.add; rfl
  clear hsl he h1 hg hz hh hmul
  by_cases hca : c = a + 1
  · subst hca
    rw [if_pos rfl, Nat.sub_self] at hconv
    obtain ⟨k, hk⟩ : ∃ k, s.size = k := ⟨_, rfl⟩
    obtain rfl : k = 0 := by omega
    obtain rfl : n = a + 1 := by omega
    have H0 := Lib.hid hk
    rw [hk] at hconv e1
    have d12 : IntKind.i64.wrap (((a + 1 : Nat) : Int) - (a : Int)) = 1 := by rw [IntWalk.i64_in _ (by omega)]; omega
    have d13 : ((a : Int) == ((a + 1 : Nat) : Int)) = false := by simp; omega
    have d14 : ((a : Int) == (a : Int) + 1) = false := by simp; omega
    clear hadd d3 d4 d5 d6 d7 d8 d10 d11 g1 g2 g3 g4 g5 g7 hk hle hs
    go_enter Try.func91, Try.ntmps91
    go_wp2
    go_ret3
    exact ⟨by first | rfl | simp [H0.out], rfl⟩
  · rw [if_neg hca, Option.map_some, hadd] at hconv
    clear hadd
    go_enter Try.func91, Try.ntmps91
    go_wp2
    go_ret3
    exact ⟨by first | rfl | simp, rfl⟩

set_option maxRecDepth 100000 in
set_option maxHeartbeats 800000 in
theorem GetInt_ok {F : Blks} {p : Option Addr} {n c : Nat} {bs : List UInt8} {w : World} {a : Nat} {x : Int} (h1 : Sl F w p n c bs) (hn : n ≤ 1000000000) (hh : Here bs a (intB x)) (hx0 : -1152921504606846976 ≤ x) (hx1 : x ≤ 1152921504606846976) :
    Calls Try.prog 100 #[.slice p n c, .int .i64 a] w fun e w' => e = .returned (.tuple #[.int .i64 x, .int .i64 (a + 9 : Nat), .int .i64 0]) ∧ w = w' := by
  have hlen := h1.len
  have hnc := h1.le
  have hcm : c ≤ 9223372036854775807 := by have := h1.max; unfold maxLen at this; exact this
  have hil : (intB x).length = 9 := by unfold intB; rw [List.length_cons, be_length]
  have hle := hh.le (by rw [hil]; omega)
  rw [hil, hlen] at hle
  obtain ⟨b, o, rfl, _, _, e1⟩ := h1.byte (i := a) (by omega)
  have hg : gt bs a = if x < 0 then 1 else 0 := by
    have := hh.get (j := 0) (by rw [hil]; omega)
    rw [Nat.add_zero] at this
    rw [this]
    rfl
  rw [hg] at e1
  have hsl := (h1.take (k := a + 9) (by omega)).drop (k := a + 1) (by omega)
  have he : (bs.take (a + 9)).drop (a + 1) = be x.natAbs 8 := by
    have h2 : Here bs (a + 1) (be x.natAbs 8) := by
      have h3 : Here bs a ([if x < 0 then 1 else 0] ++ be x.natAbs 8) := hh
      exact h3.snd
    have h4 := h2.take
    rw [List.drop_take, show a + 9 - (a + 1) = (be x.natAbs 8).length by rw [be_length]; omega]
    exact h4
  rw [he, show a + 9 - (a + 1) = 8 by omega] at hsl
  rw [if_neg (by omega : ¬ c = a + 1), show Rep.size UInt8 = 1 from rfl, Nat.mul_one] at hsl
  have hadd : (⟨b, o, none⟩ : Addr).add (a + 1) = ⟨b, o + (a + 1), none⟩ := by unfold Addr.add; rfl
  rw [Option.map_some, hadd] at hsl
  have hnum := num_any hsl (by omega)
  have hb : numB (be x.natAbs 8) = x.natAbs := by
    rw [numB_be_mod]
    exact Nat.mod_eq_of_lt (by omega)
  rw [hb] at hnum
  have d3 : decide ((n : Int) < (a : Int)) = false := by simp; omega
  have d5 : IntKind.i64.wrap ((n : Int) - (a : Int)) = ((n - a : Nat) : Int) := by rw [IntWalk.i64_in _ (by omega)]; omega
  have d6 : decide (((n - a : Nat) : Int) < 9) = false := by simp; omega
  have d9 : IntKind.i64.wrap ((a : Int) + 1) = ((a + 1 : Nat) : Int) := by rw [IntWalk.i64_in _ (by omega)]; omega
  have d10 : IntKind.i64.wrap ((a : Int) + 9) = ((a + 9 : Nat) : Int) := by rw [IntWalk.i64_in _ (by omega)]; omega
  have g2 : a + 9 ≤ c := by omega
  have g3 : (a : Int) + 1 ≤ (a : Int) + 9 := by omega
  have g4 : (a : Int) + 9 ≤ (c : Int) := by omega
  have g5 : ((a : Int) + 9).toNat = a + 9 := by omega
  have g6 : ((a : Int) + 1).toNat = a + 1 := by omega
  have g7 : a < n := by omega
  have g8 : ¬ (c = a + 1) := by omega
  have HN := Lib.hid hnum
  clear hnum hsl he h1 hg hh hb hil hadd
  by_cases hneg : x < 0
  · rw [if_pos hneg] at e1
    obtain ⟨m, hm⟩ : ∃ m : Nat, x.natAbs = m := ⟨_, rfl⟩
    have hxm : x = -(m : Int) := by omega
    have hm1 : m ≤ 1152921504606846976 := by omega
    have hm0 : 0 < m := by omega
    subst hxm
    rw [hm] at HN
    have m1 : decide (1152921504606846976 < (m : Int)) = false := by simp; omega
    have m2 : ((m : Int) == 0) = false := by simp; omega
    have m3 : IntKind.i64.wrap (m : Int) = (m : Int) := IntWalk.i64_in _ (by omega)
    have m4 : IntKind.i64.wrap (-(m : Int)) = -(m : Int) := IntWalk.i64_in _ (by omega)
    have e2 : ((1 : UInt8).toNat : Int) = 1 := rfl
    rw [e2] at e1
    clear e2 hneg hm hx0 hx1
    go_enter Try.func100, Try.ntmps100
    go_wp2_with fail
    refine HN.out.mono ?_
    rintro e w1 ⟨rfl, rfl⟩
    go_wp2
    go_ret3
    exact ⟨by first | rfl | simp, rfl⟩
  · rw [if_neg hneg] at e1
    obtain ⟨m, hm⟩ : ∃ m : Nat, x.natAbs = m := ⟨_, rfl⟩
    have hxm : x = (m : Int) := by omega
    have hm1 : m ≤ 1152921504606846976 := by omega
    subst hxm
    rw [hm] at HN
    have m1 : decide (1152921504606846976 < (m : Int)) = false := by simp; omega
    have m3 : IntKind.i64.wrap (m : Int) = (m : Int) := IntWalk.i64_in _ (by omega)
    have e2 : ((0 : UInt8).toNat : Int) = 0 := rfl
    rw [e2] at e1
    clear e2 hneg hm hx0 hx1
    go_enter Try.func100, Try.ntmps100
    go_wp2_with fail
    refine HN.out.mono ?_
    rintro e w1 ⟨rfl, rfl⟩
    go_wp2
    go_ret3
    exact ⟨by first | rfl | simp, rfl⟩
end Go.Proofs.Ytpmdkmpmpjdglaa
