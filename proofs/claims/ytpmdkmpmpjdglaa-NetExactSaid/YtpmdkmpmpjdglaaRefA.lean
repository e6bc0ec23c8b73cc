/- The reference's tests: what may be written. -/
import Derived.Test.YtpmdkmpmpjdglaaMsgB
import Derived.Test.YtpmdkmpmpjdglaaValue
set_option linter.unusedSimpArgs false
set_option linter.unusedVariables false
namespace Go.Proofs.Ytpmdkmpmpjdglaa
open Go Go.RowKit
open Rep (vr)

theorem fitsN_iff (x : Int) (k : Nat) : fitsN x k = (decide (0 ≤ x) && decide (x / 2 ^ (8 * k) = 0)) := by
  unfold fitsN
  by_cases h0 : 0 ≤ x
  · rw [decide_eq_true h0, Bool.true_and, Bool.true_and]
    obtain ⟨m, rfl⟩ := Int.eq_ofNat_of_zero_le h0
    have e1 : ((m : Int) < 2 ^ (8 * k)) ↔ m < 2 ^ (8 * k) := by exact_mod_cast Iff.rfl
    have e2 : ((m : Int) / 2 ^ (8 * k) = 0) ↔ m / 2 ^ (8 * k) = 0 := by exact_mod_cast Iff.rfl
    have e3 : m / 2 ^ (8 * k) = 0 ↔ m < 2 ^ (8 * k) := by
      rw [Nat.div_eq_zero_iff]
      have : 2 ^ (8 * k) ≠ 0 := by have := Nat.two_pow_pos (8 * k); omega
      simp [this]
    by_cases h : m < 2 ^ (8 * k)
    · rw [decide_eq_true (e1.2 h), decide_eq_true (e2.2 (e3.2 h))]
    · rw [decide_eq_false (fun h2 => h (e1.1 h2)), decide_eq_false (fun h2 => h (e3.1 (e2.1 h2)))]
  · rw [decide_eq_false h0, Bool.false_and, Bool.false_and]

set_option maxRecDepth 100000 in
set_option maxHeartbeats 400000 in
theorem fits_any {w : World} {x : Int} {k : Nat} (h1 : 1 ≤ k) (h2 : k ≤ 7) : Calls Try.prog 48 #[.int .i64 x, .int .i64 k] w fun e w' => e = .returned (.bool (fitsN x k)) ∧ w = w' := by
  rw [fitsN_iff]
  by_cases h0 : 0 ≤ x
  · go_enter Try.func48, Try.ntmps48
    go_wp2
    go_ret
    exact ⟨by rw [decide_eq_true h0, Bool.true_and]; rfl, rfl⟩
  · have h0' : x < 0 := by omega
    go_enter Try.func48, Try.ntmps48
    go_wp2
    go_ret
    exact ⟨by rw [decide_eq_false (by omega : ¬ 0 ≤ x)]; rfl, rfl⟩

set_option maxRecDepth 100000 in
set_option maxHeartbeats 400000 in
theorem Be_any {w : World} {x : Int} {size : Nat} (hx : 0 ≤ x) (hx2 : x ≤ 4611686018427387904) (hs : 1 ≤ size) (hs2 : size ≤ 8) :
    Calls Try.prog 52 #[.int .i64 x, .int .i64 size] w fun e w' => ∃ v, e = .returned v ∧ Own 5 w.heap.size noB w' v (be x size) ∧ Below w.heap.size w w' := by
  go_enter Try.func52, Try.ntmps52
  go_wp2
  go_loopw [5, 6] (fun v k wr => ∃ j : Nat, j ≤ size ∧ k = .int .i64 ((size : Int) - 1 - j) ∧ Own 5 w.heap.size noB wr v ((be x size).take j) ∧ Below w.heap.size w wr) (fun _ k _ => (intOf k + 1).toNat)
  case atStart => exact ⟨0, Nat.zero_le _, by simp, Own.nil _ _ _ _, Below.refl _ _⟩
  case round =>
    obtain ⟨j, hj, rfl, ho', hb'⟩ := hrel
    by_cases hlt : j < size
    · have h0 : (0 : Int) ≤ (size : Int) - 1 - j := by omega
      have hlen : (((be x size).take j).length + 1) * 1 ≤ 140737488355328 := by have := List.length_take_le j (be x size); omega
      have HZ := Lib.hid (byteAt_int hx (size - 1 - j))
      have HT := Lib.hid (be_take x size j hlt)
      have HO := Lib.hid ho'
      have hz := hb'.size
      have HL := Lib.hid hlen
      clear ho' hlen
      go_wp2_with (at_builtin; refine wpList_append_Own (α := UInt8) rfl (.tmp 13) (.tmp 20) rfl Try.underlying37 (z := .int .u8 0) (bytes := 1) (by kernel_rfl) rfl (by decide) rfl rfl (HO.out.alloc _) (sl_byte (F := fun b => b = wr.heap.size) HZ.out.symm rfl) (fun b hb e => absurd (HO.out.block _ e).2 (by rw [hb]; omega)) (by simp; omega) HL.out ?_; intro v' w' ho hg hat)
      go_roundw
      case rel => exact ⟨j + 1, by omega, by go_num, by rw [HT.out]; exact ho.flat, (hb'.alloc hz _).grown hg (by simp; omega) (fun k hk => (HO.out.block k hk).1)⟩
      case measure => simp [intOf]; omega
    · have h0 : ¬ ((0 : Int) ≤ (size : Int) - 1 - j) := by omega
      go_wp2
      go_ret
      rw [List.take_of_length_le (by rw [be_length]; omega)] at ho'
      exact ⟨_, rfl, ho', hb'⟩

def dotFitB (d : Dot) : Bool := fitsN d.peer 1 && fitsN d.n 4
def stampFitB (s : Stamp) : Bool := fitsN s.phys 6 && fitsN s.logic 3 && fitsN s.peer 1
def vecFitB (l : List Int) : Bool := l.all (fitsN · 4) && decide (l.length ≤ 5)
theorem dotFitB_iff {d : Dot} : dotFitB d = true ↔ DotFits d := by
  unfold dotFitB
  rw [Bool.and_eq_true]
  exact ⟨fun h => ⟨h.1, h.2⟩, fun h => ⟨h.peer, h.n⟩⟩
theorem stampFitB_iff {d : Stamp} : stampFitB d = true ↔ StampFits d := by
  unfold stampFitB
  rw [Bool.and_eq_true, Bool.and_eq_true]
  exact ⟨fun h => ⟨h.1.1, h.1.2, h.2⟩, fun h => ⟨⟨h.phys, h.logic⟩, h.peer⟩⟩
theorem vecFitB_iff {l : List Int} : vecFitB l = true ↔ NumsFit l := by
  unfold vecFitB
  rw [Bool.and_eq_true, List.all_eq_true, decide_eq_true_eq]
  exact ⟨fun h => ⟨h.2, h.1⟩, fun h => ⟨h.all, h.len⟩⟩

set_option maxRecDepth 100000 in
set_option maxHeartbeats 400000 in
theorem DotFits_any {F : Blks} {w : World} {v : Value} {d : Dot} (hv : vr F w v d) : Calls Try.prog 74 #[v] w fun e w' => e = .returned (.bool (dotFitB d)) ∧ Below w.heap.size w w' := by
  obtain ⟨rfl, -⟩ := hv
  go_enter Try.func74, Try.ntmps74
  go_wp2_with fail
  refine (fits_any (k := 1) (by decide) (by decide)).mono ?_
  rintro e w1 ⟨rfl, rfl⟩
  cases h1 : fitsN d.peer 1
  · go_wp2
    go_ret
    exact ⟨by unfold dotFitB; rw [h1]; rfl, al1 _ _⟩
  · go_wp2_with fail
    refine (fits_any (k := 4) (by decide) (by decide)).mono ?_
    rintro e w1 ⟨rfl, rfl⟩
    go_wp2
    go_ret
    exact ⟨by unfold dotFitB; rw [h1]; rfl, al1 _ _⟩
set_option maxRecDepth 100000 in
set_option maxHeartbeats 400000 in
theorem StampFits_any {F : Blks} {w : World} {v : Value} {d : Stamp} (hv : vr F w v d) : Calls Try.prog 75 #[v] w fun e w' => e = .returned (.bool (stampFitB d)) ∧ Below w.heap.size w w' := by
  obtain ⟨rfl, -⟩ := hv
  go_enter Try.func75, Try.ntmps75
  go_wp2_with fail
  refine (fits_any (k := 6) (by decide) (by decide)).mono ?_
  rintro e w1 ⟨rfl, rfl⟩
  cases h1 : fitsN d.phys 6
  · go_wp2
    go_ret
    exact ⟨by unfold stampFitB; rw [h1]; rfl, al1 _ _⟩
  · go_wp2_with fail
    refine (fits_any (k := 3) (by decide) (by decide)).mono ?_
    rintro e w1 ⟨rfl, rfl⟩
    cases h2 : fitsN d.logic 3
    · go_wp2
      go_ret
      exact ⟨by unfold stampFitB; rw [h1, h2]; rfl, al1 _ _⟩
    · go_wp2_with fail
      refine (fits_any (k := 1) (by decide) (by decide)).mono ?_
      rintro e w1 ⟨rfl, rfl⟩
      go_wp2
      go_ret
      exact ⟨by unfold stampFitB; rw [h1, h2]; rfl, al1 _ _⟩
set_option maxRecDepth 100000 in
set_option maxHeartbeats 400000 in
theorem VecFits_any {F : Blks} {w : World} {p : Option Addr} {n c : Nat} {l : List Int} (h1 : Sl F w p n c l) : Calls Try.prog 49 #[.slice p n c] w fun e w' => e = .returned (.bool (vecFitB l)) ∧ w = w' := by
  have hn : n ≤ 9223372036854775807 := by have := h1.le; have := h1.max; unfold maxLen at *; omega
  have H1 := Lib.hid h1; have HL := Lib.hid h1.len
  clear h1
  go_enter Try.func49, Try.ntmps49
  go_wp2
  go_loop [3] (fun i => ∃ k : Nat, k ≤ n ∧ i = .int .i64 k ∧ ∀ j, j < k → fitsN (gt l j) 4 = true) (fun i => n - (intOf i).toNat)
  case atStart => exact ⟨0, Nat.zero_le _, rfl, fun j hj => by omega⟩
  case round =>
    obtain ⟨k, hk, rfl, hall⟩ := hrel
    have HA := Lib.hid hall
    clear hall
    by_cases hlt : k < n
    · obtain ⟨b, o, rfl, _, _, e1, i1⟩ := H1.out.int hlt
      go_wp2_with fail
      refine (fits_any (k := 4) (by decide) (by decide)).mono ?_
      rintro e w1 ⟨rfl, rfl⟩
      cases h4 : fitsN (gt l k) 4
      · have hr : vecFitB l = false := by
          unfold vecFitB
          rw [Bool.and_eq_false_iff, List.all_eq_false]
          exact .inl ⟨gt l k, List.mem_of_getElem? (gt_get (by have := HL.out; omega)), by rw [h4]; decide⟩
        have HR := Lib.hid hr
        clear hr h4
        go_wp2
        go_ret
        rw [HR.out]
        exact ⟨rfl, rfl⟩
      · have H4 := Lib.hid h4
        clear h4
        go_wp2
        go_round
        case rel => exact ⟨k + 1, by omega, by go_num, fun j hj => by rcases Nat.lt_succ_iff_lt_or_eq.1 hj with h | rfl; exact HA.out j h; exact H4.out⟩
        case measure => simp [intOf]; omega
    · have hr : vecFitB l = decide ((n : Int) ≤ 5) := by
        unfold vecFitB
        have : l.all (fitsN · 4) = true := by
          rw [List.all_eq_true]
          intro x hx
          obtain ⟨j, hj, rfl⟩ := List.getElem_of_mem hx
          have := HA.out j (by have := HL.out; omega)
          rw [gt_eq (List.getElem?_eq_getElem hj)] at this
          exact this
        rw [this, Bool.true_and, HL.out]
        by_cases h : n ≤ 5
        · rw [decide_eq_true h, decide_eq_true (by omega)]
        · rw [decide_eq_false h, decide_eq_false (by omega)]
      have HR := Lib.hid hr
      clear hr
      by_cases h5 : n ≤ 5
      all_goals
        go_wp2
        go_ret
        rw [HR.out]
        exact ⟨by simp <;> omega, rfl⟩

set_option maxRecDepth 100000 in
set_option maxHeartbeats 400000 in
theorem inR_any {w : World} {n lo hi : Int} : Calls Try.prog 101 #[.int .i64 n, .int .i64 lo, .int .i64 hi] w fun e w' => e = .returned (.bool (decide (lo ≤ n) && decide (n ≤ hi))) ∧ w = w' := by
  by_cases h1 : lo ≤ n
  · have e1 : decide (lo ≤ n) = true := by simpa using h1
    go_enter Try.func101, Try.ntmps101
    go_wp2
    go_ret
    exact ⟨by simp [h1], rfl⟩
  · have e1 : decide (lo ≤ n) = false := by simpa using h1
    go_enter Try.func101, Try.ntmps101
    go_wp2
    go_ret
    exact ⟨by simp [h1], rfl⟩
set_option maxRecDepth 100000 in
set_option maxHeartbeats 400000 in
theorem ValR_any {F : Blks} {w : World} {v : Value} {x : Val} (hv : vr F w v x) :
    Calls Try.prog 93 #[v] w fun e w' => e = .returned (.bool (valOk x)) ∧ Below w.heap.size w w' := by
  obtain ⟨rfl, hi⟩ := hv
  go_enter Try.func93, Try.ntmps93
  go_wp2_with (go_at_call 101; refine inR_any.mono ?_; rintro e w' ⟨rfl, rfl⟩)
  all_goals
    go_ret
    refine ⟨?_, al1 _ _⟩
    simp_all [valOk, str_emp]
  all_goals first | omega | (intros; omega)

def rowFitE (r : List Val) : Int := if 12 < r.length then 2 else if r.all valOk then 0 else 1
theorem rowFitE_ok {r : List Val} : rowFitE r = 0 ↔ rowOk r = true := by
  unfold rowFitE rowOk
  by_cases h : 12 < r.length
  · rw [if_pos h, decide_eq_false (by omega), Bool.false_and]
    simp
  · rw [if_neg h, decide_eq_true (by omega), Bool.true_and]
    cases r.all valOk <;> simp
set_option maxRecDepth 100000 in
set_option maxHeartbeats 400000 in
theorem RowR_any {F : Blks} {w : World} {p : Option Addr} {n c : Nat} {r : List Val} (h1 : Sl F w p n c r) : Calls Try.prog 76 #[.slice p n c] w fun e w' => e = .returned (.int .i64 (rowFitE r)) ∧ Below w.heap.size w w' := by
  have H1 := Lib.hid h1; have HL := Lib.hid h1.len
  clear h1
  by_cases h12 : 12 < n
  · have hr : rowFitE r = 2 := by unfold rowFitE; rw [HL.out, if_pos h12]
    rw [hr]
    go_enter Try.func76, Try.ntmps76
    go_wp2
    go_ret
    exact ⟨rfl, Below.refl _ _⟩
  · go_enter Try.func76, Try.ntmps76
    go_wp2
    go_loopw [3] (fun i wr => ∃ k : Nat, k ≤ n ∧ i = .int .i64 k ∧ (∀ j, j < k → valOk (gt r j) = true) ∧ Below w.heap.size w wr) (fun i _ => n - (intOf i).toNat)
    case atStart => exact ⟨0, Nat.zero_le _, rfl, fun j hj => by omega, Below.refl _ _⟩
    case round =>
      obtain ⟨k, hk, rfl, hall, hb⟩ := hrel
      have HA := Lib.hid hall; have HB := Lib.hid hb
      clear hall hb
      by_cases hlt : k < n
      · obtain ⟨b, o, rfl, _, _, e1, e2, e3, i1⟩ := (H1.out.grow HB.out).val hlt
        go_wp2_with fail
        refine (ValR_any (F := F) (x := gt r k) ⟨rfl, i1⟩).mono ?_
        rintro e w1 ⟨rfl, hb1⟩
        have HB1 := Lib.hid (below2 HB.out hb1)
        clear hb1 e1 e2 e3
        cases h4 : valOk (gt r k)
        · have hr : rowFitE r = 1 := by
            unfold rowFitE
            have : r.all valOk = false := by
              rw [List.all_eq_false]
              exact ⟨gt r k, List.mem_of_getElem? (gt_get (by have := HL.out; omega)), by rw [h4]; decide⟩
            rw [HL.out, if_neg h12, this]
            rfl
          have HR := Lib.hid hr
          clear hr h4
          go_wp2
          go_ret
          rw [HR.out]
          exact ⟨rfl, HB1.out⟩
        · have H4 := Lib.hid h4
          clear h4
          go_wp2
          go_roundw
          case rel => exact ⟨k + 1, by omega, by go_num, fun j hj => by rcases Nat.lt_succ_iff_lt_or_eq.1 hj with h | rfl; exact HA.out j h; exact H4.out, HB1.out⟩
          case measure => simp [intOf]; omega
      · have hr : rowFitE r = 0 := by
          unfold rowFitE
          have : r.all valOk = true := by
            rw [List.all_eq_true]
            intro x hx
            obtain ⟨j, hj, rfl⟩ := List.getElem_of_mem hx
            have := HA.out j (by have := HL.out; omega)
            rw [gt_eq (List.getElem?_eq_getElem hj)] at this
            exact this
          rw [HL.out, if_neg h12, this]
          rfl
        have HR := Lib.hid hr
        clear hr
        go_wp2
        go_ret
        rw [HR.out]
        exact ⟨rfl, HB.out⟩

def opFitB (x : Opn) : Bool :=
  fitsN x.kind 1 && dotFitB x.dot && vecFitB x.deps && stampFitB x.stamp && fitsN x.table 1 && decide (x.key.size ≤ 24) && fitsN x.col 1 && rowOk x.vals && decide (x.dots.length ≤ 64) && x.dots.all dotFitB
theorem opFitB_iff {x : Opn} : opFitB x = true ↔ OpFits x := by
  unfold opFitB
  simp only [Bool.and_eq_true, decide_eq_true_eq, dotFitB_iff, vecFitB_iff, stampFitB_iff, List.all_eq_true]
  exact ⟨fun ⟨⟨⟨⟨⟨⟨⟨⟨⟨a, b⟩, c⟩, d⟩, e⟩, f⟩, g⟩, h⟩, i⟩, j⟩ => ⟨a, b, c, d, e, f, g, h, i, j⟩, fun h => ⟨⟨⟨⟨⟨⟨⟨⟨⟨h.kind, h.dot⟩, h.deps⟩, h.stamp⟩, h.table⟩, h.key⟩, h.col⟩, h.vals⟩, h.len⟩, h.dots⟩⟩

set_option maxRecDepth 100000 in
set_option maxHeartbeats 1000000 in
theorem OpFits_any {F : Blks} {w : World} {v : Value} {x : Opn} (hv : vr F w v x) :
    Calls Try.prog 50 #[v] w fun e w' => e = .returned (.bool (opFitB x)) ∧ Below w.heap.size w w' := by
  obtain ⟨p1, n1, c1, p2, n2, c2, p3, n3, c3, rfl, ⟨i1, i2, i3, i4, i5, i6, i7, i8, i9⟩, s1, s2, s3⟩ := hv
  obtain ⟨W, hW⟩ : ∃ W, W = w.alloc (.cells #[.int .i64 x.dot.peer, .int .i64 x.dot.n, .slice p1 n1 c1, .int .i64 x.stamp.phys, .int .i64 x.stamp.logic, .int .i64 x.stamp.peer, .int .i64 x.kind, .int .i64 x.table, .string x.key, .int .i64 x.col, .slice p2 n2 c2, .slice p3 n3 c3] 76) := ⟨_, rfl⟩
  have hbW : Below w.heap.size w W := by rw [hW]; exact al1 _ _
  have hx : ∀ w', Below W.heap.size W w' → w'.heap[w.heap.size]? = some (.cells #[.int .i64 x.dot.peer, .int .i64 x.dot.n, .slice p1 n1 c1, .int .i64 x.stamp.phys, .int .i64 x.stamp.logic, .int .i64 x.stamp.peer, .int .i64 x.kind, .int .i64 x.table, .string x.key, .int .i64 x.col, .slice p2 n2 c2, .slice p3 n3 c3] 76 (0, 0)) := fun w' hb => (hb.block _ (by rw [hW]; simp)).trans (by rw [hW]; exact heap_alloc_new _ _)
  have HX := Lib.hid hx; have HBW := Lib.hid hbW
  have HS := Lib.hid (fun w' (hb : Below W.heap.size W w') => And.intro (s1.grow (below2 hbW hb)) (And.intro (s2.grow (below2 hbW hb)) (s3.grow (below2 hbW hb))))
  have HL := Lib.hid (And.intro s1.len (And.intro s2.len s3.len))
  clear hx hbW s1 s2 s3
  have E : ∀ b, opFitB x = b → ∀ e w', (e = Ending.returned (.bool b) ∧ Below w.heap.size w w') → (e = Ending.returned (.bool (opFitB x)) ∧ Below w.heap.size w w') := fun b h e w' h2 => by rw [h]; exact h2
  obtain ⟨R, hR⟩ : ∃ R, R = opFitB x := ⟨_, rfl⟩
  rw [← hR]
  unfold opFitB at hR
  have HR := Lib.hid hR
  clear E hR
  go_enter Try.func50, Try.ntmps50
  go_wp2_with fail
  rw [← hW]
  clear hW
  have HC := Lib.hid (fun (i : Nat) (u : Value) (w' : World) (h : (#[.int .i64 x.dot.peer, .int .i64 x.dot.n, .slice p1 n1 c1, .int .i64 x.stamp.phys, .int .i64 x.stamp.logic, .int .i64 x.stamp.peer, .int .i64 x.kind, .int .i64 x.table, .string x.key, .int .i64 x.col, .slice p2 n2 c2, .slice p3 n3 c3] : Array Value)[i]? = some u) (hb : Below W.heap.size W w') => (heap_cell (HX.out w' hb)).trans h)
  refine (fits_any (k := 1) (by decide) (by decide)).mono ?_
  rintro e w0 ⟨rfl, rfl⟩
  cases q1 : fitsN x.kind 1
  · go_wp2
    go_ret
    rw [HR.out]
    exact ⟨by simp [q1], below2 HBW.out (Below.refl _ _)⟩
  · have Q1 := Lib.hid q1
    clear q1
    have x0 := HC.out 0 _ _ rfl (Below.refl _ _)
    have x1 := HC.out 1 _ _ rfl (Below.refl _ _)
    go_wp2_with fail
    refine (DotFits_any (F := allB) (d := x.dot) ⟨rfl, i1, i2⟩).mono ?_
    rintro e w1 ⟨rfl, hb1⟩
    have HB1 := Lib.hid (below2 (Below.refl _ _) hb1)
    clear hb1 x0 x1
    cases q2 : dotFitB x.dot
    · go_wp2
      go_ret
      rw [HR.out]
      exact ⟨by simp [Q1.out, q2], below2 HBW.out HB1.out⟩
    · have Q2 := Lib.hid q2
      clear q2
      have x2 := HC.out 2 _ _ rfl HB1.out
      go_wp2_with fail
      refine (VecFits_any (HS.out _ HB1.out).1).mono ?_
      rintro e w0 ⟨rfl, rfl⟩
      clear x2
      cases q3 : vecFitB x.deps
      · go_wp2
        go_ret
        rw [HR.out]
        exact ⟨by simp [Q1.out, Q2.out, q3], below2 HBW.out HB1.out⟩
      · have Q3 := Lib.hid q3
        clear q3
        have x3 := HC.out 3 _ _ rfl HB1.out
        have x4 := HC.out 4 _ _ rfl HB1.out
        have x5 := HC.out 5 _ _ rfl HB1.out
        go_wp2_with fail
        refine (StampFits_any (F := allB) (d := x.stamp) ⟨rfl, i3, i4, i5⟩).mono ?_
        rintro e w2 ⟨rfl, hb2⟩
        have HB2 := Lib.hid (below2 HB1.out hb2)
        clear hb2 x3 x4 x5
        cases q4 : stampFitB x.stamp
        · go_wp2
          go_ret
          rw [HR.out]
          exact ⟨by simp [Q1.out, Q2.out, Q3.out, q4], below2 HBW.out HB2.out⟩
        · have Q4 := Lib.hid q4
          clear q4
          have x7 := HC.out 7 _ _ rfl HB2.out
          have x8 := HC.out 8 _ _ rfl HB2.out
          have x9 := HC.out 9 _ _ rfl HB2.out
          go_wp2_with fail
          refine (fits_any (k := 1) (by decide) (by decide)).mono ?_
          rintro e w0 ⟨rfl, rfl⟩
          cases q5 : fitsN x.table 1
          · go_wp2
            go_ret
            rw [HR.out]
            exact ⟨by simp [Q1.out, Q2.out, Q3.out, Q4.out, q5], below2 HBW.out HB2.out⟩
          · have Q5 := Lib.hid q5
            clear q5
            by_cases q6 : x.key.size ≤ 24
            rotate_left
            · go_wp2
              go_ret
              rw [HR.out]
              exact ⟨by simp [Q1.out, Q2.out, Q3.out, Q4.out, Q5.out]; omega, below2 HBW.out HB2.out⟩
            · have Q6 := Lib.hid (show decide (x.key.size ≤ 24) = true by simpa using q6)
              go_wp2_with fail
              refine (fits_any (k := 1) (by decide) (by decide)).mono ?_
              rintro e w0 ⟨rfl, rfl⟩
              clear x7 x8 x9
              cases q7 : fitsN x.col 1
              · go_wp2
                go_ret
                rw [HR.out]
                exact ⟨by simp [Q1.out, Q2.out, Q3.out, Q4.out, Q5.out, Q6.out, q7], below2 HBW.out HB2.out⟩
              · have Q7 := Lib.hid q7
                clear q7
                have x10 := HC.out 10 _ _ rfl HB2.out
                go_wp2_with fail
                refine (RowR_any (HS.out _ HB2.out).2.1).mono ?_
                rintro e w3 ⟨rfl, hb3⟩
                have HB3 := Lib.hid (below2 HB2.out hb3)
                clear hb3 x10
                by_cases q8 : rowFitE x.vals = 0
                rotate_left
                · have q8' : (rowFitE x.vals == 0) = false := by simpa using q8
                  have q8'' : rowOk x.vals = false := by cases h : rowOk x.vals with | true => exact absurd (rowFitE_ok.2 h) q8 | false => rfl
                  have Q8 := Lib.hid q8''
                  clear q8''
                  go_wp2
                  go_ret
                  rw [HR.out]
                  exact ⟨by simp [Q1.out, Q2.out, Q3.out, Q4.out, Q5.out, Q6.out, Q7.out, Q8.out], below2 HBW.out HB3.out⟩
                · have Q8 := Lib.hid (rowFitE_ok.1 q8)
                  rw [q8]
                  clear q8
                  have x11 := HC.out 11 _ _ rfl HB3.out
                  by_cases q9 : n3 ≤ 64
                  rotate_left
                  · go_wp2
                    go_ret
                    rw [HR.out]
                    exact ⟨by simp [Q1.out, Q2.out, Q3.out, Q4.out, Q5.out, Q6.out, Q7.out, Q8.out]; have := HL.out; omega, below2 HBW.out HB3.out⟩
                  · have Q9 := Lib.hid (show decide (x.dots.length ≤ 64) = true by have := HL.out; simp; omega)
                    go_wp2
                    go_loopw [3] (fun i wr => ∃ k : Nat, k ≤ n3 ∧ i = .int .i64 k ∧ (∀ j, j < k → dotFitB (gt x.dots j) = true) ∧ Below W.heap.size W wr) (fun i _ => n3 - (intOf i).toNat)
                    case atStart => exact ⟨0, Nat.zero_le _, rfl, fun j hj => by omega, HB3.out⟩
                    case round =>
                      obtain ⟨k, hk, rfl, hall, hb⟩ := hrel
                      have HA := Lib.hid hall; have HB := Lib.hid hb
                      clear hall hb x11
                      have x11 := HC.out 11 _ _ rfl HB.out
                      by_cases hlt : k < n3
                      · obtain ⟨b, o, rfl, _, _, e1, e2, j1⟩ := (HS.out _ HB.out).2.2.dot hlt
                        go_wp2_with fail
                        refine (DotFits_any (F := F) (d := gt x.dots k) ⟨rfl, j1⟩).mono ?_
                        rintro e wz ⟨rfl, hbz⟩
                        have HBz := Lib.hid (below2 HB.out hbz)
                        clear hbz e1 e2 x11
                        cases h4 : dotFitB (gt x.dots k)
                        · have hr : x.dots.all dotFitB = false := by
                            rw [List.all_eq_false]
                            exact ⟨gt x.dots k, List.mem_of_getElem? (gt_get (by have := HL.out; omega)), by rw [h4]; decide⟩
                          have QZ := Lib.hid hr
                          clear hr h4
                          go_wp2
                          go_ret
                          rw [HR.out]
                          exact ⟨by rw [QZ.out, Bool.and_false]; rfl, below2 HBW.out HBz.out⟩
                        · have H4 := Lib.hid h4
                          clear h4
                          go_wp2
                          go_roundw
                          case rel => exact ⟨k + 1, by omega, by go_num, fun j hj => by rcases Nat.lt_succ_iff_lt_or_eq.1 hj with h | rfl; exact HA.out j h; exact H4.out, HBz.out⟩
                          case measure => simp [intOf]; omega
                      · have hr : x.dots.all dotFitB = true := by
                          rw [List.all_eq_true]
                          intro y hy
                          obtain ⟨j, hj, rfl⟩ := List.getElem_of_mem hy
                          have := HA.out j (by have := HL.out; omega)
                          rw [gt_eq (List.getElem?_eq_getElem hj)] at this
                          exact this
                        have QZ := Lib.hid hr
                        clear hr
                        go_wp2
                        go_ret
                        rw [HR.out]
                        exact ⟨by rw [QZ.out, Bool.and_true]; simp only [Q1.out, Q2.out, Q3.out, Q4.out, Q5.out, Q6.out, Q7.out, Q8.out, Q9.out, Bool.and_true, Bool.true_and]; rfl, below2 HBW.out HB.out⟩
end Go.Proofs.Ytpmdkmpmpjdglaa
