/- op's Writer writes an operation. -/
import Derived.Test.YtpmdkmpmpjdglaaRowB
set_option linter.unusedSimpArgs false
set_option linter.unusedVariables false
namespace Go.Proofs.Ytpmdkmpmpjdglaa
open Go Go.RowKit
open Rep (vr)

theorem Wr.setBad {X : Blks} {w : World} {g : Nat} {bs : List UInt8} {bad : Bool} (h : Wr X w g bs bad) (b' : Bool) : Wr X (w.setCell ⟨g, 1, none⟩ (.bool b')) g bs b' := by
  obtain ⟨q, m, d, T, hg, ho, hv⟩ := h.form
  exact ⟨fun b hb => by simpa [World.setCell] using h.old b hb, h.off, q, m, d, T, by simpa using heap_set (i := 1) (u := .bool b') hg, ho.keep (fun b hb => hb.elim) (fun k hk => Below.heap_setCell _ _ _ _ (hv k hk).2), hv⟩
theorem wMid_len' (s : WS) (x : Opn) : (wNum (wText (wNum (wHead s x) x.table 1) x.key) x.col 1).1.length ≤ s.1.length + 50 + 4 * x.deps.length := by
  have h1 := wHead_len s x; have h2 := wNum_len (wHead s x) x.table 1; have h3 := wText_len (wNum (wHead s x) x.table 1) x.key; have h4 := wNum_len (wText (wNum (wHead s x) x.table 1) x.key) x.col 1
  omega

set_option maxRecDepth 100000 in
set_option maxHeartbeats 800000 in
theorem WOp_any {X F : Blks} {w : World} {g : Nat} {s : WS} {v : Value} {x : Opn} (h : Wr X w g s.1 s.2) (hv : vr F w v x) (hF : ∀ b, F b → X b) (hl : s.1.length ≤ 700000000) (hsm : Small x) :
    Calls Try.prog 39 #[.pointer (some ⟨g, 0, none⟩), v] w fun e w' => e = .returned (.tuple #[]) ∧ Wr X w' g (wOp s x).1 (wOp s x).2 ∧ Mod X w w' := by
  obtain ⟨p1, n1, c1, p2, n2, c2, p3, n3, c3, rfl, ⟨i1, i2, i3, i4, i5, i6, i7, i8, i9⟩, t1, t2, t3⟩ := hv
  obtain ⟨m1, m2, m3⟩ := hsm
  have hw1 := h.more (Y := fun b => X b ∨ b = w.heap.size) (al1 w (.cells #[.int .i64 x.dot.peer, .int .i64 x.dot.n, .slice p1 n1 c1, .int .i64 x.stamp.phys, .int .i64 x.stamp.logic, .int .i64 x.stamp.peer, .int .i64 x.kind, .int .i64 x.table, .string x.key, .int .i64 x.col, .slice p2 n2 c2, .slice p3 n3 c3] 76)) (fun b hb => by
    rcases hb with hb | rfl
    · exact .inl hb
    · exact .inr ⟨Nat.le_refl _, by simp⟩)
  have hcl : ∀ (i : Nat) (u : Value), (#[.int .i64 x.dot.peer, .int .i64 x.dot.n, .slice p1 n1 c1, .int .i64 x.stamp.phys, .int .i64 x.stamp.logic, .int .i64 x.stamp.peer, .int .i64 x.kind, .int .i64 x.table, .string x.key, .int .i64 x.col, .slice p2 n2 c2, .slice p3 n3 c3] : Array Value)[i]? = some u →
      (w.alloc (.cells #[.int .i64 x.dot.peer, .int .i64 x.dot.n, .slice p1 n1 c1, .int .i64 x.stamp.phys, .int .i64 x.stamp.logic, .int .i64 x.stamp.peer, .int .i64 x.kind, .int .i64 x.table, .string x.key, .int .i64 x.col, .slice p2 n2 c2, .slice p3 n3 c3] 76)).cell? ⟨w.heap.size, i, none⟩ = some u := fun i u h => by
    rw [← h]
    exact heap_cell (T := 76) (heap_alloc_new _ _)
  have hag : ∀ (wk : World), Mod (fun b => X b ∨ b = w.heap.size) (w.alloc (.cells #[.int .i64 x.dot.peer, .int .i64 x.dot.n, .slice p1 n1 c1, .int .i64 x.stamp.phys, .int .i64 x.stamp.logic, .int .i64 x.stamp.peer, .int .i64 x.kind, .int .i64 x.table, .string x.key, .int .i64 x.col, .slice p2 n2 c2, .slice p3 n3 c3] 76)) wk → Agree X w wk := fun wk hM =>
    (agree_below (al1 w _) h.old).trans (fun b hb => hM.agree b (.inl hb))
  have hfin : ∀ (wk : World), Mod (fun b => X b ∨ b = w.heap.size) (w.alloc (.cells #[.int .i64 x.dot.peer, .int .i64 x.dot.n, .slice p1 n1 c1, .int .i64 x.stamp.phys, .int .i64 x.stamp.logic, .int .i64 x.stamp.peer, .int .i64 x.kind, .int .i64 x.table, .string x.key, .int .i64 x.col, .slice p2 n2 c2, .slice p3 n3 c3] 76)) wk → Mod X w wk := fun wk hM =>
    (Mod.of_below (al1 w _) h.old).trans (hM.mono fun b hb => .inl hb)
  have q1 := wNum_len s x.kind 1
  have q2 := wDot_len (wNum s x.kind 1) x.dot
  have q3 := wNums_len (wDot (wNum s x.kind 1) x.dot) x.deps
  have q4 := wHead_len s x
  have q5 := wNum_len (wHead s x) x.table 1
  have q6 := wText_len (wNum (wHead s x) x.table 1) x.key
  have q7 := wMid_len' s x
  have HQ := Lib.hid (And.intro q1 (And.intro q2 (And.intro q3 (And.intro q4 (And.intro q5 (And.intro q6 q7))))))
  have HT := Lib.hid (And.intro (t1.mono hF) (And.intro (t2.mono hF) (t3.mono hF)))
  have HN := Lib.hid (And.intro t1.len (And.intro t2.len t3.len))
  have HM := Lib.hid (And.intro m1 (And.intro m2 m3))
  have hn3 : n3 ≤ 1000 := by have := t3.len; omega
  have HC := Lib.hid hcl; have HA := Lib.hid hag; have HF := Lib.hid hfin; have HW := Lib.hid hw1
  clear q1 q2 q3 q4 q5 q6 q7 t1 t2 t3 m1 m2 m3 hcl hag hfin hw1 h
  go_enter Try.func39, Try.ntmps39
  go_wp2_with fail
  refine (Num1 HW.out (by omega)).mono ?_
  rintro e w1 ⟨rfl, hW1, hM1⟩
  have d1 := hM1.cell (b := w.heap.size) (.inr rfl) (HC.out 0 _ rfl)
  have d2 := hM1.cell (b := w.heap.size) (.inr rfl) (HC.out 1 _ rfl)
  go_wp2_with fail
  refine (WDot (F := noB) (x := x.dot) hW1 ⟨rfl, i1, i2⟩ (by have := HQ.out; omega)).mono ?_
  rintro e w2 ⟨rfl, hW2, hM2'⟩
  have hM2 := hM1.trans hM2'
  clear hM1 hM2' d1 d2 hW1
  have d1 := hM2.cell (b := w.heap.size) (.inr rfl) (HC.out 2 _ rfl)
  have ts2 := HT.out.1.keep (HA.out _ hM2)
  go_wp2_with fail
  refine (WNums hW2 ts2 (fun b hb => .inl hb) (by have := HN.out; have := HM.out; omega) (by have := HQ.out; omega)).mono ?_
  rintro e w3 ⟨rfl, hW3, hM3'⟩
  have hM3 := hM2.trans hM3'
  clear hM2 hM3' d1 ts2 hW2
  have d1 := hM3.cell (b := w.heap.size) (.inr rfl) (HC.out 3 _ rfl)
  have d2 := hM3.cell (b := w.heap.size) (.inr rfl) (HC.out 4 _ rfl)
  have d3 := hM3.cell (b := w.heap.size) (.inr rfl) (HC.out 5 _ rfl)
  go_wp2_with fail
  refine (WStamp (F := noB) (x := x.stamp) hW3 ⟨rfl, i3, i4, i5⟩ (by have := HQ.out; have := HM.out; omega)).mono ?_
  rintro e w4 ⟨rfl, hW4, hM4'⟩
  have hM4 := hM3.trans hM4'
  clear hM3 hM4' d1 d2 d3 hW3
  have hhd : wStamp (wNums (wDot (wNum s x.kind 1) x.dot) x.deps) x.stamp = wHead s x := rfl
  rw [hhd] at hW4
  clear hhd
  have d1 := hM4.cell (b := w.heap.size) (.inr rfl) (HC.out 7 _ rfl)
  go_wp2_with fail
  refine (Num1 hW4 (by have := HQ.out; have := HM.out; omega)).mono ?_
  rintro e w5 ⟨rfl, hW5, hM5'⟩
  have hM5 := hM4.trans hM5'
  clear hM4 hM5' d1 hW4
  have d1 := hM5.cell (b := w.heap.size) (.inr rfl) (HC.out 8 _ rfl)
  go_wp2_with fail
  refine (WText hW5 (by have := HQ.out; have := HM.out; omega)).mono ?_
  rintro e w6 ⟨rfl, hW6, hM6'⟩
  have hM6 := hM5.trans hM6'
  clear hM5 hM6' d1 hW5
  have d1 := hM6.cell (b := w.heap.size) (.inr rfl) (HC.out 9 _ rfl)
  go_wp2_with fail
  refine (Num1 hW6 (by have := HQ.out; have := HM.out; omega)).mono ?_
  rintro e w7 ⟨rfl, hW7, hM7'⟩
  have hM7 := hM6.trans hM7'
  clear hM6 hM7' d1 hW6
  have d1 := hM7.cell (b := w.heap.size) (.inr rfl) (HC.out 10 _ rfl)
  have ts7 := HT.out.2.1.keep (HA.out _ hM7)
  have HMid : wMid s x = wRow (wNum (wText (wNum (wHead s x) x.table 1) x.key) x.col 1) x.vals := rfl
  have hrow : ∀ (w7 : World), Wr (fun b => X b ∨ b = w.heap.size) w7 g (wNum (wText (wNum (wHead s x) x.table 1) x.key) x.col 1).1 (wNum (wText (wNum (wHead s x) x.table 1) x.key) x.col 1).2 → Sl X w7 p2 n2 c2 x.vals → 
      Calls Try.prog 63 #[.slice p2 n2 c2] w7 fun e w8 => ∃ q m d er, e = .returned (.tuple #[.slice q m d, .int .i64 er]) ∧ Mod (fun b => X b ∨ b = w.heap.size) w7 w8 ∧
        Calls Try.prog 59 #[.pointer (some ⟨g, 0, none⟩), .slice q m d, .int .i64 er] w8 fun e w9 => e = .returned (.tuple #[]) ∧ Wr (fun b => X b ∨ b = w.heap.size) w9 g (wMid s x).1 (wMid s x).2 ∧ Mod (fun b => X b ∨ b = w.heap.size) w8 w9 := by
    intro w7 hW7 hs7
    rw [HMid]
    have hlen : (wNum (wText (wNum (wHead s x) x.table 1) x.key) x.col 1).1.length ≤ 800000000 := by have := HQ.out; have := HM.out; omega
    generalize wNum (wText (wNum (wHead s x) x.table 1) x.key) x.col 1 = s7 at hW7 hlen ⊢
    by_cases hok : rowOk x.vals = true
    · have hwr : wRow s7 x.vals = (s7.1 ++ rowB x.vals, s7.2) := by unfold wRow; rw [if_pos hok]
      rw [hwr]
      refine (RowBytes_ok hs7 hok).mono ?_
      rintro e w8 ⟨v8, rfl, ho8, hb8⟩
      obtain ⟨q, d, rfl, hW, hs⟩ := own_arg hW7 hb8 ho8
      refine ⟨q, _, d, 0, rfl, Mod.of_below hb8 hW7.old, ?_⟩
      refine (add_any (eb := false) hW hs (fun b hb => .inr hb) (by decide) (by have := rowB_len _ hok; omega)).mono ?_
      rintro e w9 ⟨rfl, hW9, hM9⟩
      exact ⟨rfl, by have := hW9.less (Y := fun b => X b ∨ b = w.heap.size) fun b hb => .inl hb; simpa using this, hM9.mono fun b hb => .inl hb⟩
    · have hwr : wRow s7 x.vals = (s7.1, true) := by unfold wRow; rw [if_neg hok]
      have he : rowErr x.vals ≠ 0 := fun h => hok (rowErr_ok.2 h)
      rw [hwr]
      refine (RowBytes_bad hs7 he).mono ?_
      rintro e w8 ⟨rfl, hb8⟩
      refine ⟨none, 0, 0, rowErr x.vals, rfl, Mod.of_below hb8 hW7.old, ?_⟩
      refine (add_any (eb := true) (ys := []) (hW7.grow hb8) (Sl.nil _ w8 none 0 (by simp [maxLen])) (fun b hb => hb) (by simpa using he) (by omega)).mono ?_
      rintro e w9 ⟨rfl, hW9, hM9⟩
      exact ⟨rfl, by simpa using hW9, hM9⟩
  have HR := Lib.hid (hrow w7 hW7 ts7)
  clear hrow HMid ts7 hW7
  go_wp2_with fail
  refine HR.out.mono ?_
  rintro e w8 ⟨qr, mr, dr, er, rfl, hM8', HAdd⟩
  have hM8 := hM7.trans hM8'
  have HAd := Lib.hid HAdd
  clear hM7 hM8' HAdd d1 HR
  go_wp2_with fail
  refine HAd.out.mono ?_
  rintro e w9 ⟨rfl, hW9, hM9'⟩
  have hM9 := hM8.trans hM9'
  clear hM8 hM9' HAd
  have d1 := hM9.cell (b := w.heap.size) (.inr rfl) (HC.out 11 _ rfl)
  obtain ⟨q, m, d, T, hg, -, -⟩ := hW9.form
  have a1 : w9.cell? ⟨g, 1, none⟩ = some (.bool (wMid s x).2) := heap_cell hg
  have af : ∀ o, w9.frozen? ⟨g, o, none⟩ = false := fun o => heap_frozen hg
  have hgl := heap_lt hg
  have HW9 := Lib.hid hW9; have HM9 := Lib.hid hM9
  have hoff := hW9.off
  clear hW9 hM9 hg
  obtain ⟨eb, heb⟩ : ∃ eb : Bool, ((wMid s x).2 || decide (64 < x.dots.length)) = eb := ⟨_, rfl⟩
  have hw : wOp s x = wDots (wNum ((wMid s x).1, eb) x.dots.length 1) x.dots := by unfold wOp; rw [heb]
  have hK := HW9.out.setBad eb
  have hM := HM9.out.setCell (p := ⟨g, 1, none⟩) hoff (.bool eb)
  have d2 := hM.cell (b := w.heap.size) (.inr rfl) (HC.out 11 _ rfl)
  have hml := wMid_len s x
  have hnl := wNum_len ((wMid s x).1, eb) x.dots.length 1
  have hcast : decide ((64 : Int) < (n3 : Int)) = decide (64 < x.dots.length) := by
    rw [HN.out.2.2]
    by_cases h : 64 < n3
    · rw [decide_eq_true h, decide_eq_true (by omega)]
    · rw [decide_eq_false h, decide_eq_false (by omega)]
  have hgap : ∀ k, (wDots (wNum ((wMid s x).1, eb) x.dots.length 1) (x.dots.take k)).1.length ≤ 800000000 := fun k => by
    have h1 := wDots_len (x.dots.take k) (wNum ((wMid s x).1, eb) x.dots.length 1)
    have h2 := List.length_take_le' k x.dots
    have := HM.out
    simp only at hnl
    omega
  have HK := Lib.hid hK; have HMM := Lib.hid hM; have HG := Lib.hid hgap; have HWD := Lib.hid hw
  have HTk := Lib.hid (wDots_take (wNum ((wMid s x).1, eb) x.dots.length 1) x.dots)
  have HLL := Lib.hid (And.intro hml hnl)
  have HX3 := Lib.hid (HT.out.2.2.keep (HA.out _ hM))
  clear hK hM hgap hw hml hnl
  cases hbad : (wMid s x).2
  case false =>
    have hd : decide ((64 : Int) < (n3 : Int)) = eb := by rw [hcast]; simpa [hbad] using heb
    rw [hbad] at a1
    clear heb hcast hbad
    go_wp2_with fail
    rw [← HN.out.2.2]
    refine (Num1 (s := ((wMid s x).1, eb)) HK.out (by have := HLL.out; have := HM.out; simp only; omega)).mono ?_
    rintro e wa ⟨rfl, hWa, hMa⟩
    have HM1 := Lib.hid (HMM.out.trans hMa)
    have HS1 := Lib.hid (HX3.out.keep (fun b hb => hMa.agree b (.inl hb)))
    have d3 := (HMM.out.trans hMa).cell (b := w.heap.size) (.inr rfl) (HC.out 11 _ rfl)
    have HWa := Lib.hid hWa
    clear HMM HX3 HK a1 af d1 d2 hMa hWa
    rw [HN.out.2.2]
    go_wp2
    go_loopw [62] (fun i wr => ∃ k : Nat, k ≤ n3 ∧ i = .int .i64 k ∧ Wr (fun b => X b ∨ b = w.heap.size) wr g (wDots (wNum ((wMid s x).1, eb) x.dots.length 1) (x.dots.take k)).1 (wDots (wNum ((wMid s x).1, eb) x.dots.length 1) (x.dots.take k)).2 ∧ Mod (fun b => X b ∨ b = w.heap.size) wa wr) (fun i _ => n3 - (intOf i).toNat)
    case atStart =>
      refine ⟨0, Nat.zero_le _, rfl, ?_, Mod.refl _ _⟩
      rw [List.take_zero, wDots_nil]
      exact HWa.out
    case round =>
      obtain ⟨k, hk, rfl, hWk, hMk⟩ := hrel
      have HWk := Lib.hid hWk; have HMk := Lib.hid hMk
      clear hWk hMk
      by_cases hlt : k < n3
      · have hsk := HS1.out.keep (fun b hb => HMk.out.agree b (.inl hb))
        obtain ⟨b, o, rfl, hXb, _, e1, e2, j1, j2⟩ := hsk.dot hlt
        have hWb := HWk.out.more (Y := fun b => (X b ∨ b = w.heap.size) ∨ b = wr.heap.size) (al1 wr (.cells #[.int .i64 (gt x.dots k).peer, .int .i64 (gt x.dots k).n] 70)) (fun b hb => by
          rcases hb with hb | rfl
          · exact .inl hb
          · exact .inr ⟨Nat.le_refl _, by simp⟩)
        have HWb := Lib.hid hWb
        clear hsk hWb
        go_wp2_with fail
        refine (WDot (F := noB) (s := wDots (wNum ((wMid s x).1, eb) x.dots.length 1) (x.dots.take k)) (x := gt x.dots k) HWb.out ⟨rfl, j1, j2⟩ (HG.out k)).mono ?_
        rintro e wb ⟨rfl, hW2, hM2⟩
        have HM2 := Lib.hid (HMk.out.trans ((Mod.of_below (al1 wr _) HWk.out.old).trans (hM2.mono fun b hb => .inl hb)))
        have HW2 := Lib.hid (hW2.less (Y := fun b => X b ∨ b = w.heap.size) fun b hb => .inl hb)
        clear hW2 hM2 e1 e2
        go_wp2
        go_roundw
        case rel => exact ⟨k + 1, by omega, by go_num, by rw [HTk.out k (by have := HN.out; omega)]; exact HW2.out, HM2.out⟩
        case measure => simp [intOf]; omega
      · go_wp2
        go_end0
        have hk2 : x.dots.take k = x.dots := List.take_of_length_le (by have := HN.out; omega)
        have h1 := HWk.out
        rw [hk2] at h1
        rw [HWD.out]
        exact ⟨rfl, h1.less fun b hb => .inl hb, HF.out _ (HM1.out.trans HMk.out)⟩
  case true =>
    obtain rfl : true = eb := by simpa [hbad] using heb
    rw [hbad] at a1
    clear hcast heb hbad
    go_wp2_with fail
    rw [← HN.out.2.2]
    refine (Num1 (s := ((wMid s x).1, true)) HK.out (by have := HLL.out; have := HM.out; simp only; omega)).mono ?_
    rintro e wa ⟨rfl, hWa, hMa⟩
    have HM1 := Lib.hid (HMM.out.trans hMa)
    have HS1 := Lib.hid (HX3.out.keep (fun b hb => hMa.agree b (.inl hb)))
    have d3 := (HMM.out.trans hMa).cell (b := w.heap.size) (.inr rfl) (HC.out 11 _ rfl)
    have HWa := Lib.hid hWa
    clear HMM HX3 HK a1 af d1 d2 hMa hWa
    rw [HN.out.2.2]
    go_wp2
    go_loopw [62] (fun i wr => ∃ k : Nat, k ≤ n3 ∧ i = .int .i64 k ∧ Wr (fun b => X b ∨ b = w.heap.size) wr g (wDots (wNum ((wMid s x).1, true) x.dots.length 1) (x.dots.take k)).1 (wDots (wNum ((wMid s x).1, true) x.dots.length 1) (x.dots.take k)).2 ∧ Mod (fun b => X b ∨ b = w.heap.size) wa wr) (fun i _ => n3 - (intOf i).toNat)
    case atStart =>
      refine ⟨0, Nat.zero_le _, rfl, ?_, Mod.refl _ _⟩
      rw [List.take_zero, wDots_nil]
      exact HWa.out
    case round =>
      obtain ⟨k, hk, rfl, hWk, hMk⟩ := hrel
      have HWk := Lib.hid hWk; have HMk := Lib.hid hMk
      clear hWk hMk
      by_cases hlt : k < n3
      · have hsk := HS1.out.keep (fun b hb => HMk.out.agree b (.inl hb))
        obtain ⟨b, o, rfl, hXb, _, e1, e2, j1, j2⟩ := hsk.dot hlt
        have hWb := HWk.out.more (Y := fun b => (X b ∨ b = w.heap.size) ∨ b = wr.heap.size) (al1 wr (.cells #[.int .i64 (gt x.dots k).peer, .int .i64 (gt x.dots k).n] 70)) (fun b hb => by
          rcases hb with hb | rfl
          · exact .inl hb
          · exact .inr ⟨Nat.le_refl _, by simp⟩)
        have HWb := Lib.hid hWb
        clear hsk hWb
        go_wp2_with fail
        refine (WDot (F := noB) (s := wDots (wNum ((wMid s x).1, true) x.dots.length 1) (x.dots.take k)) (x := gt x.dots k) HWb.out ⟨rfl, j1, j2⟩ (HG.out k)).mono ?_
        rintro e wb ⟨rfl, hW2, hM2⟩
        have HM2 := Lib.hid (HMk.out.trans ((Mod.of_below (al1 wr _) HWk.out.old).trans (hM2.mono fun b hb => .inl hb)))
        have HW2 := Lib.hid (hW2.less (Y := fun b => X b ∨ b = w.heap.size) fun b hb => .inl hb)
        clear hW2 hM2 e1 e2
        go_wp2
        go_roundw
        case rel => exact ⟨k + 1, by omega, by go_num, by rw [HTk.out k (by have := HN.out; omega)]; exact HW2.out, HM2.out⟩
        case measure => simp [intOf]; omega
      · go_wp2
        go_end0
        have hk2 : x.dots.take k = x.dots := List.take_of_length_le (by have := HN.out; omega)
        have h1 := HWk.out
        rw [hk2] at h1
        rw [HWD.out]
        exact ⟨rfl, h1.less fun b hb => .inl hb, HF.out _ (HM1.out.trans HMk.out)⟩
theorem opOk {x : Opn} (h : Small x) : OpOk x := ⟨fun hW hv hF hl => WOp_any hW hv hF hl h⟩
end Go.Proofs.Ytpmdkmpmpjdglaa
