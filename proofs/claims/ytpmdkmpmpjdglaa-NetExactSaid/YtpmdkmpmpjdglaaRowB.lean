/- value.Bytes, row.Bytes. -/
import Derived.Test.YtpmdkmpmpjdglaaTexts
set_option linter.unusedSimpArgs false
set_option linter.unusedVariables false
namespace Go.Proofs.Ytpmdkmpmpjdglaa
open Go Go.RowKit
open Rep (vr)

theorem own_lit1 {w : World} {B : Nat} {z : Int} {b : UInt8} (hz : z = (b.toNat : Int)) (hB : B ≤ w.heap.size) : Own 5 B noB (w.alloc (.cells #[.int .u8 z] 5)) (.slice (some ⟨w.heap.size, 0, none⟩) 1 1) [b] := by
  refine own_bytes.2 ⟨rfl, .inr ⟨w.heap.size, 1, _, rfl, hB, heap_alloc_new _ _, Nat.le_refl _, by simp [maxLen], rfl, ?_⟩⟩
  rw [hz]
  rfl

theorem PutInt_any {F : Blks} {p : Option Addr} {n c : Nat} {bs : List UInt8} {w : World} {x : Int} (h1 : Sl F w p n c bs) (hn : n ≤ 1000000) (hlo : -1152921504606846976 ≤ x) (hhi : x ≤ 1152921504606846976) :
    Calls Try.prog 99 #[.slice p n c, .int .i64 x] w fun e w' => ∃ v, e = .returned (.tuple #[v, .int .i64 0]) ∧ Own 5 w.heap.size noB w' v (bs ++ intB x) ∧ Below w.heap.size w w' := by
  by_cases h : 0 ≤ x
  · exact PutInt_pos h1 hn hlo hhi h
  · exact PutInt_neg h1 hn hlo hhi (by omega)
theorem chk_true : chk true = 0 := rfl
set_option maxRecDepth 100000 in
set_option maxHeartbeats 400000 in
theorem ValBytes1 {w : World} {i : Int} {s : ByteArray} (hi : I64 i ∧ s.size ≤ maxLen) (hok : valOk ⟨1, i, s⟩ = true) :
    Calls Try.prog 88 #[.agg #[.int .i64 1, .int .i64 i, .string s]] w fun e w' => ∃ u, e = .returned (.tuple #[u, .int .i64 0]) ∧ Own 5 w.heap.size noB w' u ([1] : List UInt8) ∧ Below w.heap.size w w' := by
  have HC := Lib.hid (fun w : World => ValCheck (F := allB) (w := w) (v := .agg #[.int .i64 1, .int .i64 i, .string s]) (x := ⟨1, i, s⟩) ⟨rfl, (show I64 1 from I64.of (by decide) (by decide)), hi⟩)
  have HOK := Lib.hid hok
  clear hok
  go_enter Try.func88, Try.ntmps88
  go_wp2_with fail
  refine (HC.out _).mono ?_
  rintro e w1 ⟨rfl, hb⟩
  have hB : Below w.heap.size w w1 := below2 (al1 _ _) hb
  have c0 : w1.cell? ⟨w.heap.size, 0, none⟩ = some (.int .i64 1) := cell_later hb (a := ⟨w.heap.size, 0, none⟩) (v := .int .i64 1) (by go_simp)
  have c1 : w1.cell? ⟨w.heap.size, 1, none⟩ = some (.int .i64 i) := cell_later hb (a := ⟨w.heap.size, 1, none⟩) (v := .int .i64 i) (by go_simp)
  have c2 : w1.cell? ⟨w.heap.size, 2, none⟩ = some (.string s) := cell_later hb (a := ⟨w.heap.size, 2, none⟩) (v := .string s) (by go_simp)
  have hz := hb.size
  simp at hz
  have HB := Lib.hid hB
  rw [HOK.out, chk_true]
  clear hb hB HC
  have g0 := cell_later (al1 w1 (.cells #[.int .u8 1] 5)) c0
  have g1 := cell_later (al1 w1 (.cells #[.int .u8 1] 5)) c1
  have g2 := cell_later (al1 w1 (.cells #[.int .u8 1] 5)) c2
  have HL := Lib.hid (own_lit1 (w := w1) (B := w.heap.size) (z := 1) (b := 1) rfl (by omega))
  go_wp2
  go_ret2
  exact ⟨_, rfl, HL.out, below2 HB.out (al1 _ _)⟩

set_option maxRecDepth 100000 in
set_option maxHeartbeats 400000 in
theorem ValBytes2 {w : World} {i : Int} {s : ByteArray} (hi : I64 i ∧ s.size ≤ maxLen) (hok : valOk ⟨2, i, s⟩ = true) (h2 : i = 0 ∨ i = 1) :
    Calls Try.prog 88 #[.agg #[.int .i64 2, .int .i64 i, .string s]] w fun e w' => ∃ u, e = .returned (.tuple #[u, .int .i64 0]) ∧ Own 5 w.heap.size noB w' u ([2] ++ [byteAt i 0]) ∧ Below w.heap.size w w' := by
  have HC := Lib.hid (fun w : World => ValCheck (F := allB) (w := w) (v := .agg #[.int .i64 2, .int .i64 i, .string s]) (x := ⟨2, i, s⟩) ⟨rfl, (show I64 2 from I64.of (by decide) (by decide)), hi⟩)
  have HOK := Lib.hid hok
  clear hok
  go_enter Try.func88, Try.ntmps88
  go_wp2_with fail
  refine (HC.out _).mono ?_
  rintro e w1 ⟨rfl, hb⟩
  have hB : Below w.heap.size w w1 := below2 (al1 _ _) hb
  have c0 : w1.cell? ⟨w.heap.size, 0, none⟩ = some (.int .i64 2) := cell_later hb (a := ⟨w.heap.size, 0, none⟩) (v := .int .i64 2) (by go_simp)
  have c1 : w1.cell? ⟨w.heap.size, 1, none⟩ = some (.int .i64 i) := cell_later hb (a := ⟨w.heap.size, 1, none⟩) (v := .int .i64 i) (by go_simp)
  have c2 : w1.cell? ⟨w.heap.size, 2, none⟩ = some (.string s) := cell_later hb (a := ⟨w.heap.size, 2, none⟩) (v := .string s) (by go_simp)
  have hz := hb.size
  simp at hz
  have HB := Lib.hid hB
  rw [HOK.out, chk_true]
  clear hb hB HC
  have g0 := cell_later (al1 w1 (.cells #[.int .u8 2] 5)) c0
  have g1 := cell_later (al1 w1 (.cells #[.int .u8 2] 5)) c1
  have g2 := cell_later (al1 w1 (.cells #[.int .u8 2] 5)) c2
  have HL := Lib.hid (own_lit1 (w := w1) (B := w.heap.size) (z := 2) (b := 2) rfl (by omega))
  have hbt : i = (((byteAt i 0).toNat : Nat) : Int) := by rw [byteAt_int (by omega)]; simp; omega
  have HT := Lib.hid hbt
  have hm : i % 256 = i := by omega
  have hsb : Sl (fun b => w1.heap.size < b) ((w1.alloc (.cells #[.int .u8 2] 5)).alloc (.cells #[.int .u8 i] 5)) (some ⟨w1.heap.size + 1, 0, none⟩) 1 1 [byteAt i 0] := by
    have := sl_byte (W := w1.alloc (.cells #[.int .u8 2] 5)) (F := fun b => w1.heap.size < b) hbt (by simp)
    rw [World.size_alloc] at this
    exact this
  have HSB := Lib.hid hsb
  clear hbt hsb
  go_wp2_with (at_builtin; (refine wpList_append_Own (α := UInt8) rfl (.tmp 19) (.tmp 23) rfl Try.underlying37 (z := .int .u8 0) (bytes := 1) (by kernel_rfl) rfl (by decide) rfl rfl (HL.out.alloc _) HSB.out (fun b hb e => absurd (Option.some.inj (show some w1.heap.size = some b from e)) (Nat.ne_of_lt hb)) (by simp <;> omega) (by decide) ?_); intro v' w' ho hg hat)
  go_ret2
  exact ⟨_, rfl, ho.flat, (below2 HB.out (al2 _ _ _)).grown hg (by simp; omega) (fun k hk => by have e' := Option.some.inj (show some w1.heap.size = some k from hk); omega)⟩

set_option maxRecDepth 100000 in
set_option maxHeartbeats 400000 in
theorem ValBytes3 {w : World} {i : Int} {s : ByteArray} (hi : I64 i ∧ s.size ≤ maxLen) (hok : valOk ⟨3, i, s⟩ = true) (h2 : -1152921504606846976 ≤ i) (h3 : i ≤ 1152921504606846976) :
    Calls Try.prog 88 #[.agg #[.int .i64 3, .int .i64 i, .string s]] w fun e w' => ∃ u, e = .returned (.tuple #[u, .int .i64 0]) ∧ Own 5 w.heap.size noB w' u ([3] ++ intB i) ∧ Below w.heap.size w w' := by
  have HC := Lib.hid (fun w : World => ValCheck (F := allB) (w := w) (v := .agg #[.int .i64 3, .int .i64 i, .string s]) (x := ⟨3, i, s⟩) ⟨rfl, (show I64 3 from I64.of (by decide) (by decide)), hi⟩)
  have HOK := Lib.hid hok
  clear hok
  go_enter Try.func88, Try.ntmps88
  go_wp2_with fail
  refine (HC.out _).mono ?_
  rintro e w1 ⟨rfl, hb⟩
  have hB : Below w.heap.size w w1 := below2 (al1 _ _) hb
  have c0 : w1.cell? ⟨w.heap.size, 0, none⟩ = some (.int .i64 3) := cell_later hb (a := ⟨w.heap.size, 0, none⟩) (v := .int .i64 3) (by go_simp)
  have c1 : w1.cell? ⟨w.heap.size, 1, none⟩ = some (.int .i64 i) := cell_later hb (a := ⟨w.heap.size, 1, none⟩) (v := .int .i64 i) (by go_simp)
  have c2 : w1.cell? ⟨w.heap.size, 2, none⟩ = some (.string s) := cell_later hb (a := ⟨w.heap.size, 2, none⟩) (v := .string s) (by go_simp)
  have hz := hb.size
  simp at hz
  have HB := Lib.hid hB
  rw [HOK.out, chk_true]
  clear hb hB HC
  have g0 := cell_later (al1 w1 (.cells #[.int .u8 3] 5)) c0
  have g1 := cell_later (al1 w1 (.cells #[.int .u8 3] 5)) c1
  have g2 := cell_later (al1 w1 (.cells #[.int .u8 3] 5)) c2
  have HL := Lib.hid (own_lit1 (w := w1) (B := w.heap.size) (z := 3) (b := 3) rfl (by omega))
  go_wp2_with fail
  obtain ⟨q, d, hq, hs⟩ := HL.out.sl
  injection hq with e1 e2 e3
  subst e1 e3
  clear e2
  refine (PutInt_any (hs) (by simp) h2 h3).mono ?_
  rintro e w3 ⟨v3, rfl, ho3, hb3⟩
  have HB3 := Lib.hid (below2 HB.out (below2 (al1 _ _) hb3))
  have HO3 := Lib.hid (ho3.base (B' := w.heap.size) (by simp; omega))
  clear ho3 hb3 hs
  go_wp2
  go_ret2
  exact ⟨_, rfl, HO3.out, HB3.out⟩

set_option maxRecDepth 100000 in
set_option maxHeartbeats 400000 in
theorem ValBytes4 {w : World} {i : Int} {s : ByteArray} (hi : I64 i ∧ s.size ≤ maxLen) (hok : valOk ⟨4, i, s⟩ = true) (h2 : s.size ≤ 24) :
    Calls Try.prog 88 #[.agg #[.int .i64 4, .int .i64 i, .string s]] w fun e w' => ∃ u, e = .returned (.tuple #[u, .int .i64 0]) ∧ Own 5 w.heap.size noB w' u ([4] ++ textB s) ∧ Below w.heap.size w w' := by
  have HC := Lib.hid (fun w : World => ValCheck (F := allB) (w := w) (v := .agg #[.int .i64 4, .int .i64 i, .string s]) (x := ⟨4, i, s⟩) ⟨rfl, (show I64 4 from I64.of (by decide) (by decide)), hi⟩)
  have HOK := Lib.hid hok
  clear hok
  go_enter Try.func88, Try.ntmps88
  go_wp2_with fail
  refine (HC.out _).mono ?_
  rintro e w1 ⟨rfl, hb⟩
  have hB : Below w.heap.size w w1 := below2 (al1 _ _) hb
  have c0 : w1.cell? ⟨w.heap.size, 0, none⟩ = some (.int .i64 4) := cell_later hb (a := ⟨w.heap.size, 0, none⟩) (v := .int .i64 4) (by go_simp)
  have c1 : w1.cell? ⟨w.heap.size, 1, none⟩ = some (.int .i64 i) := cell_later hb (a := ⟨w.heap.size, 1, none⟩) (v := .int .i64 i) (by go_simp)
  have c2 : w1.cell? ⟨w.heap.size, 2, none⟩ = some (.string s) := cell_later hb (a := ⟨w.heap.size, 2, none⟩) (v := .string s) (by go_simp)
  have hz := hb.size
  simp at hz
  have HB := Lib.hid hB
  rw [HOK.out, chk_true]
  clear hb hB HC
  have g0 := cell_later (al1 w1 (.cells #[.int .u8 4] 5)) c0
  have g1 := cell_later (al1 w1 (.cells #[.int .u8 4] 5)) c1
  have g2 := cell_later (al1 w1 (.cells #[.int .u8 4] 5)) c2
  have HL := Lib.hid (own_lit1 (w := w1) (B := w.heap.size) (z := 4) (b := 4) rfl (by omega))
  go_wp2_with fail
  obtain ⟨q, d, hq, hs⟩ := HL.out.sl
  injection hq with e1 e2 e3
  subst e1 e3
  clear e2
  refine (PutText_ok (hs) (by simp) h2).mono ?_
  rintro e w3 ⟨v3, rfl, ho3, hb3⟩
  have HB3 := Lib.hid (below2 HB.out (below2 (al1 _ _) hb3))
  have HO3 := Lib.hid (ho3.base (B' := w.heap.size) (by simp; omega))
  clear ho3 hb3 hs
  go_wp2
  go_ret2
  exact ⟨_, rfl, HO3.out, HB3.out⟩

theorem ValBytes {F : Blks} {w : World} {v : Value} {x : Val} (hv : vr F w v x) (hok : valOk x = true) :
    Calls Try.prog 88 #[v] w fun e w' => ∃ u, e = .returned (.tuple #[u, .int .i64 0]) ∧ Own 5 w.heap.size noB w' u (valB x) ∧ Below w.heap.size w w' := by
  obtain ⟨rfl, hi, hi2, hi3⟩ := hv
  have hk : (x.kind = 1) ∨ (x.kind = 2 ∧ (x.i = 0 ∨ x.i = 1)) ∨ (x.kind = 3 ∧ -1152921504606846976 ≤ x.i ∧ x.i ≤ 1152921504606846976) ∨ (x.kind = 4 ∧ x.s.size ≤ 24) := by
    unfold valOk at hok
    simp only [Bool.or_eq_true, Bool.and_eq_true, decide_eq_true_eq] at hok
    omega
  obtain ⟨kind, i, s⟩ := x
  simp only at hk hi hi2 hi3 ⊢
  rcases hk with rfl | ⟨rfl, h2⟩ | ⟨rfl, h2, h3⟩ | ⟨rfl, h2⟩
  · rw [show valB ⟨1, i, s⟩ = [1] from by simp [valB]; decide]
    exact ValBytes1 ⟨hi2, hi3⟩ hok
  · rw [show valB ⟨2, i, s⟩ = [2] ++ [byteAt i 0] from by simp [valB]; decide]
    exact ValBytes2 ⟨hi2, hi3⟩ hok h2
  · rw [show valB ⟨3, i, s⟩ = [3] ++ intB i from by simp [valB]; decide]
    exact ValBytes3 ⟨hi2, hi3⟩ hok h2 h3
  · rw [show valB ⟨4, i, s⟩ = [4] ++ textB s from by simp [valB]; decide]
    exact ValBytes4 ⟨hi2, hi3⟩ hok h2

theorem rowErr_ok {r : List Val} : rowOk r = true ↔ rowErr r = 0 := by
  unfold rowOk rowErr
  by_cases h : 12 < r.length
  · rw [if_pos h]; simp; omega
  · rw [if_neg h]
    cases r.all valOk <;> simp <;> omega

set_option maxRecDepth 100000 in
set_option maxHeartbeats 400000 in
theorem RowBytes_bad {F : Blks} {p : Option Addr} {n c : Nat} {r : List Val} {w : World} (h1 : Sl F w p n c r) (hb : rowErr r ≠ 0) :
    Calls Try.prog 63 #[.slice p n c] w fun e w' => e = .returned (.tuple #[.slice none 0 0, .int .i64 (rowErr r)]) ∧ Below w.heap.size w w' := by
  have HC := Lib.hid (RowCheck h1)
  have hbd : (rowErr r != 0) = true := by simpa using hb
  clear h1
  go_enter Try.func63, Try.ntmps63
  go_wp2_with fail
  refine HC.out.mono ?_
  rintro e w1 ⟨rfl, hb1⟩
  go_wp2
  go_ret2
  exact ⟨rfl, hb1⟩

set_option maxRecDepth 100000 in
set_option maxHeartbeats 400000 in
theorem RowBytes_ok {F : Blks} {p : Option Addr} {n c : Nat} {r : List Val} {w : World} (h1 : Sl F w p n c r) (hok : rowOk r = true) :
    Calls Try.prog 63 #[.slice p n c] w fun e w' => ∃ v, e = .returned (.tuple #[v, .int .i64 0]) ∧ Own 5 w.heap.size noB w' v (rowB r) ∧ Below w.heap.size w w' := by
  have hlen := h1.len
  have hn : n ≤ 12 := by
    unfold rowOk at hok
    simp only [Bool.and_eq_true, decide_eq_true_eq] at hok
    omega
  have hall : ∀ k, k < n → valOk (gt r k) = true := by
    unfold rowOk at hok
    simp only [Bool.and_eq_true, List.all_eq_true] at hok
    exact fun k hk => hok.2 _ (List.mem_of_getElem? (gt_get (by omega)))
  have he := rowErr_ok.1 hok
  have hbt : ((n : Nat) : Int) = (((byteAt (n : Nat) 0).toNat : Nat) : Int) := by rw [byteAt_int (by omega)]; simp; omega
  have hstep : ∀ k, k < n → (r.take (k + 1)).flatMap valB = (r.take k).flatMap valB ++ valB (gt r k) := fun k hk => by
    rw [List.take_succ_eq_append_getElem (by omega), List.flatMap_append, gt_eq (List.getElem?_eq_getElem (by omega))]; simp
  have hlb : ∀ k, k ≤ n → ((r.take k).flatMap valB).length ≤ 26 * k := by
    intro k
    induction k with
    | zero => intro _; simp
    | succ k ih => intro hk; rw [hstep k (by omega), List.length_append]; have := ih (by omega); have := valB_len _ (hall k (by omega)); omega
  have HC := Lib.hid (RowCheck h1)
  have hdef : rowB r = byteAt (n : Nat) 0 :: r.flatMap valB := by unfold rowB; rw [hlen]
  have H1 := Lib.hid h1; have HL := Lib.hid hlen; have HA := Lib.hid hall; have HT := Lib.hid hbt; have HS := Lib.hid hstep; have HD := Lib.hid hdef; have HLB := Lib.hid hlb
  clear h1 hlen hall hbt hstep hdef hlb hok
  go_enter Try.func63, Try.ntmps63
  go_wp2_with fail
  refine HC.out.mono ?_
  rintro e w1 ⟨rfl, hb1⟩
  have hz1 := hb1.size
  have HB1 := Lib.hid hb1
  rw [he]
  clear hb1 HC he
  have HO := Lib.hid (own_lit1 (w := w1) (B := w.heap.size) HT.out hz1)
  go_wp2
  go_loopw [5, 21] (fun v i wr => ∃ k : Nat, k ≤ n ∧ i = .int .i64 k ∧ Own 5 w.heap.size noB wr v (byteAt (n : Nat) 0 :: (r.take k).flatMap valB) ∧ Below w.heap.size w wr) (fun _ i _ => n - (intOf i).toNat)
  case atStart => exact ⟨0, Nat.zero_le _, rfl, by simpa using HO.out, below2 HB1.out (al1 _ _)⟩
  case round =>
    obtain ⟨k, hk, rfl, ho, hb⟩ := hrel
    have HOk := Lib.hid ho; have HBk := Lib.hid hb
    have hz := hb.size
    clear ho hb HO
    by_cases hlt : k < n
    · obtain ⟨b, o, rfl, _, _, e0, e1, e2, i0, i1, i2⟩ := (H1.out.grow HBk.out).val hlt
      go_wp2_with fail
      refine (ValBytes (F := F) (x := gt r k) ⟨rfl, i0, i1, i2⟩ (HA.out k hlt)).mono ?_
      rintro e w3 ⟨v3, rfl, ho3, hb3⟩
      obtain ⟨q3, d3, rfl, hs3⟩ := ho3.sl
      have hz3 := hb3.size
      simp at hz3
      have HO2 := Lib.hid ((HOk.out.alloc (.cells #[.int .i64 (gt r k).kind, .int .i64 (gt r k).i, .string (gt r k).s] 127)).grow hb3)
      have HB2 := Lib.hid (below2 HBk.out (below2 (al1 _ _) hb3))
      have hs4 : Sl (fun b => wr.heap.size < b) w3 q3 (valB (gt r k)).length d3 (valB (gt r k)) := hs3.mono fun b hb => by
        rcases hb with hb | hb
        · exact hb.elim
        · have := hb.1; simp at this; omega
      have HS4 := Lib.hid hs4
      have hz4 := HB2.out.size
      clear ho3 hb3 hs3 hs4 e0 e1 e2
      go_wp2_with (at_builtin; refine wpList_append_Own (α := UInt8) rfl (.tmp 30) (.tmp 31) rfl Try.underlying37 (z := .int .u8 0) (bytes := 1) (by kernel_rfl) rfl (by decide) rfl rfl HO2.out HS4.out (fun b hb e => absurd (HOk.out.block _ e).2 (by omega)) hz4 (by have := HLB.out k hk; have := valB_len _ (HA.out k hlt); rw [List.length_cons]; omega) ?_; intro v' w' ho hg hat)
      go_roundw
      case rel => exact ⟨k + 1, by omega, by go_num, by rw [HS.out k hlt]; exact ho.flat, HB2.out.grown hg hz4 (fun k hk => (HO2.out.block k hk).1)⟩
      case measure => simp [intOf]; omega
    · have hk2 : r.take k = r := List.take_of_length_le (by have := HL.out; omega)
      rw [hk2] at HOk
      clear hk2
      go_wp2
      go_ret2
      exact ⟨_, rfl, by rw [HD.out]; exact HOk.out, HBk.out⟩
end Go.Proofs.Ytpmdkmpmpjdglaa
