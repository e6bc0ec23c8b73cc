/- Is a message too great? Where not, its sizes. -/
import Derived.Test.YtpmdkmpmpjdglaaWakes
set_option linter.unusedSimpArgs false
set_option linter.unusedVariables false
namespace Go.Proofs.Ytpmdkmpmpjdglaa
open Go Go.RowKit
open Rep (vr)

/-- A truth that, where it is false, tells P. -/
structure Tells (P : Prop) (b : Bool) : Prop where
  out : b = false → P
/-- A truth is told. -/
def SomeB (P : Bool → World → Prop) (e : Ending) (w' : World) : Prop := ∃ b : Bool, e = .returned (.bool b) ∧ P b w'
theorem Tells.yes {P : Prop} : Tells P true := ⟨fun h => by cases h⟩
theorem Tells.no {P : Prop} (h : P) : Tells P false := ⟨fun _ => h⟩

set_option maxRecDepth 100000 in
set_option maxHeartbeats 400000 in
theorem Long_any {F : Blks} {p : Option Addr} {n c : Nat} {l : List Val} {w : World} (h1 : Sl F w p n c l) :
    Calls Try.prog 72 #[.slice p n c] w (SomeB fun b w' => w = w') := by
  have hn : n ≤ 9223372036854775807 := by have := h1.le; have := h1.max; unfold maxLen at *; omega
  have H1 := Lib.hid h1
  clear h1
  go_enter Try.func72, Try.ntmps72
  go_wp2
  go_loop [3] (fun i => ∃ k : Nat, k ≤ n ∧ i = .int .i64 k) (fun i => n - (intOf i).toNat)
  case atStart => exact ⟨0, Nat.zero_le _, rfl⟩
  case round =>
    obtain ⟨k, hk, rfl⟩ := hrel
    by_cases hlt : k < n
    · obtain ⟨b, o, rfl, _, _, e1, e2, e3, i1, i2, i3⟩ := H1.out.val hlt
      by_cases h300 : 300 < (gt l k).s.size
      · go_wp2
        go_ret
        exact ⟨_, rfl, rfl⟩
      · go_wp2
        go_round
        case rel => exact ⟨k + 1, by omega, by go_num⟩
        case measure => simp [intOf]; omega
    · go_wp2
      go_ret
      exact ⟨_, rfl, rfl⟩

set_option maxRecDepth 100000 in
set_option maxHeartbeats 400000 in
theorem Heavy04_any {F : Blks} {p : Option Addr} {n c : Nat} {l : List Val} {w : World} (h1 : Sl F w p n c l) :
    Calls Try.prog 45 #[.slice p n c] w (SomeB fun b w' => Tells (l.length ≤ 40) b ∧ w = w') := by
  have HL := Lib.hid h1.len
  have HC := Lib.hid (Long_any h1)
  clear h1
  by_cases h40 : 40 < n
  · go_enter Try.func45, Try.ntmps45
    go_wp2
    go_ret
    exact ⟨_, rfl, .yes, rfl⟩
  · go_enter Try.func45, Try.ntmps45
    go_wp2_with fail
    refine HC.out.mono ?_
    rintro e w1 ⟨b, rfl, rfl⟩
    go_wp2
    go_ret
    exact ⟨_, rfl, ⟨fun _ => by rw [HL.out]; omega⟩, rfl⟩

set_option maxRecDepth 100000 in
set_option maxHeartbeats 400000 in
theorem Heavy07_any {F : Blks} {p : Option Addr} {n c : Nat} {l : List Opn} {w : World} (h1 : Sl F w p n c l) :
    Calls Try.prog 24 #[.slice p n c] w (SomeB fun b w' => Tells (l.length ≤ 300 ∧ ∀ x ∈ l, Small x) b ∧ w = w') := by
  have HL := Lib.hid h1.len
  have H1 := Lib.hid h1
  clear h1
  by_cases h300 : 300 < n
  · go_enter Try.func24, Try.ntmps24
    go_wp2
    go_ret
    exact ⟨_, rfl, .yes, rfl⟩
  · go_enter Try.func24, Try.ntmps24
    go_wp2
    go_loop [3] (fun i => ∃ k : Nat, k ≤ n ∧ i = .int .i64 k ∧ ∀ j, j < k → Small (gt l j)) (fun i => n - (intOf i).toNat)
    case atStart => exact ⟨0, Nat.zero_le _, rfl, fun j hj => by omega⟩
    case round =>
      obtain ⟨k, hk, rfl, hall⟩ := hrel
      have HA := Lib.hid hall
      clear hall
      by_cases hlt : k < n
      · obtain ⟨b, o, p1, n1, c1, p2, n2, c2, p3, n3, c3, rfl, _, _, ⟨e0, e1, e2, e3, e4, e5, e6, e7, e8, e9, e10, e11⟩, hi, s1, s2, s3⟩ := H1.out.opn hlt
        have HS := Lib.hid (And.intro s1.len (And.intro s2.len s3.len))
        have HC := Lib.hid (Heavy04_any s2)
        clear s1 s2 s3 hi e0 e1 e3 e4 e5 e6 e7 e9
        by_cases hd : 30 < n1
        · go_wp2
          go_ret
          exact ⟨_, rfl, .yes, rfl⟩
        · by_cases hk100 : 100 < (gt l k).key.size
          · go_wp2
            go_ret
            exact ⟨_, rfl, .yes, rfl⟩
          · go_wp2_with fail
            refine HC.out.mono ?_
            rintro e w1 ⟨b', rfl, hb', rfl⟩
            have HB := Lib.hid hb'
            clear hb'
            cases b' with
            | true =>
              go_wp2
              go_ret
              exact ⟨_, rfl, .yes, rfl⟩
            | false =>
              by_cases hds : 100 < n3
              · go_wp2
                go_ret
                exact ⟨_, rfl, .yes, rfl⟩
              · go_wp2
                go_round
                case rel =>
                  refine ⟨k + 1, by omega, by go_num, fun j hj => ?_⟩
                  rcases Nat.lt_succ_iff_lt_or_eq.1 hj with h | rfl
                  · exact HA.out j h
                  · have h4 := HB.out.out rfl
                    have := HS.out
                    unfold Small
                    omega
                case measure => simp [intOf]; omega
      · go_wp2
        go_ret
        refine ⟨_, rfl, .no ⟨by rw [HL.out]; omega, fun x hx => ?_⟩, rfl⟩
        obtain ⟨j, hj, rfl⟩ := List.getElem_of_mem hx
        have := HA.out j (by have := HL.out; omega)
        rw [gt_eq (List.getElem?_eq_getElem hj)] at this
        exact this

set_option maxRecDepth 100000 in
set_option maxHeartbeats 400000 in
theorem HeavyM_any {F : Blks} {v : Value} {m : Msg} {w : World} (hv : vr F w v m) :
    Calls Try.prog 9 #[v] w (SomeB fun b w' => Tells (SmallM m ∧ m.ops.length ≤ 300) b ∧ Below w.heap.size w w') := by
  obtain ⟨p1, n1, c1, p2, n2, c2, p3, n3, c3, rfl, hi, s1, s2, s3⟩ := hv
  have HS := Lib.hid (And.intro s1.len (And.intro s2.len s3.len))
  have HC := Lib.hid (Heavy07_any (s3.grow (al1 w (.cells #[.int .i64 m.kind, .int .i64 m.fr, .int .i64 m.to, .slice p1 n1 c1, .slice p2 n2 c2, .slice p3 n3 c3] 26))))
  clear s1 s2 s3
  by_cases h1 : 30 < n1
  · go_enter Try.func9, Try.ntmps9
    go_wp2
    go_ret
    exact ⟨_, rfl, .yes, al1 _ _⟩
  · by_cases h2 : 30 < n2
    · go_enter Try.func9, Try.ntmps9
      go_wp2
      go_ret
      exact ⟨_, rfl, .yes, al1 _ _⟩
    · go_enter Try.func9, Try.ntmps9
      go_wp2_with fail
      refine HC.out.mono ?_
      rintro e w1 ⟨b, rfl, hb, rfl⟩
      have HB := Lib.hid hb
      clear hb
      go_wp2
      go_ret
      refine ⟨_, rfl, ⟨fun e => ?_⟩, al1 _ _⟩
      have h3 := HB.out.out (by simp only [Bool.or_eq_false_iff] at e; exact e.2)
      have := HS.out
      exact ⟨⟨by omega, by omega, by omega, h3.2⟩, h3.1⟩
end Go.Proofs.Ytpmdkmpmpjdglaa
