/- The reference's sum, bit by bit; what is sealed. -/
import Derived.Test.YtpmdkmpmpjdglaaRefC
set_option linter.unusedSimpArgs false
set_option linter.unusedVariables false
namespace Go.Proofs.Ytpmdkmpmpjdglaa
open Go Go.RowKit
open Rep (vr)

theorem xor_half (x y : Nat) : (x ^^^ y) / 2 = x / 2 ^^^ y / 2 := by
  have h := Nat.shiftRight_xor_distrib (a := x) (b := y) (i := 1)
  simpa [Nat.shiftRight_eq_div_pow] using h
theorem xor_low (x y : Nat) : (x ^^^ y) % 2 = (x + y) % 2 := by
  have h := Nat.xor_mod_two_pow (a := x) (b := y) (n := 1)
  simp only [Nat.pow_one] at h
  rw [h]
  rcases Nat.mod_two_eq_zero_or_one x with a | a <;> rcases Nat.mod_two_eq_zero_or_one y with b | b <;> rw [a, b] <;> simp <;> omega
theorem st1_eq (r : Nat) : st1 r = r / 2 ^^^ (if r % 2 = 1 then 2197175160 else 0) := by
  unfold st1
  rw [Nat.and_one_is_mod]
  split <;> simp
theorem st1_xor (x y : Nat) : st1 (x ^^^ y) = st1 x ^^^ st1 y := by
  rw [st1_eq, st1_eq x, st1_eq y, xor_half, xor_low]
  have e : (if (x + y) % 2 = 1 then 2197175160 else 0) = (if x % 2 = 1 then 2197175160 else 0) ^^^ (if y % 2 = 1 then 2197175160 else 0) := by
    rcases Nat.mod_two_eq_zero_or_one x with a | a <;> rcases Nat.mod_two_eq_zero_or_one y with b | b <;> rw [Nat.add_mod, a, b] <;> decide
  rw [e]
  generalize (if x % 2 = 1 then 2197175160 else 0) = p
  generalize (if y % 2 = 1 then 2197175160 else 0) = q
  rw [Nat.xor_assoc, Nat.xor_assoc, ← Nat.xor_assoc (y / 2), Nat.xor_comm (y / 2) p, Nat.xor_assoc p]
theorem stN_xor (n x y : Nat) : stN n (x ^^^ y) = stN n x ^^^ stN n y := by
  induction n with
  | zero => rfl
  | succ n ih => show st1 (stN n (x ^^^ y)) = st1 (stN n x) ^^^ st1 (stN n y); rw [ih, st1_xor]
theorem st1_even (a : Nat) : st1 (2 * a) = a := by
  rw [st1_eq, if_neg (by omega)]; simp
theorem st4_stN (r : Nat) : st4 r = stN 4 r := by
  have e : r = (r / 16 * 16) ^^^ (r % 16) := by
    apply Nat.eq_of_testBit_eq
    intro i
    rw [Nat.testBit_xor, show (16 : Nat) = 2 ^ 4 from rfl, Nat.testBit_mul_two_pow, Nat.testBit_mod_two_pow, Nat.testBit_div_two_pow]
    by_cases h : i < 4
    · simp [h, Nat.not_le.2 h]
    · simp [h, Nat.not_lt.1 h]
  have h4 : stN 4 (r / 16 * 16) = r / 16 := by
    show st1 (st1 (st1 (st1 (r / 16 * 16)))) = r / 16
    rw [show r / 16 * 16 = 2 * (2 * (2 * (2 * (r / 16)))) by omega, st1_even, st1_even, st1_even, st1_even]
  unfold st4 tb
  conv => rhs; rw [e, stN_xor, h4]
theorem stN_add (m n r : Nat) : stN m (stN n r) = stN (m + n) r := by
  induction m with
  | zero => rw [Nat.zero_add]; rfl
  | succ m ih => rw [Nat.succ_add]; show st1 _ = st1 _; rw [ih]
/-- One bit, as the reference takes it. -/
def rb (b : Nat) : Nat → Nat → Nat
  | 0, r => r
  | j + 1, r => if (rb b j r) % 2 ≠ b / 2 ^ j % 2 then (rb b j r) / 2 ^^^ 2197175160 else (rb b j r) / 2
theorem rb_stN (b r k : Nat) : stN k (r ^^^ b) = rb b k r ^^^ b / 2 ^ k := by
  induction k with
  | zero => simp [stN, rb]
  | succ k ih =>
    show st1 (stN k (r ^^^ b)) = _
    rw [ih, st1_eq, xor_half, xor_low, Nat.div_div_eq_div_mul, ← Nat.pow_succ]
    have e : rb b (k + 1) r = (rb b k r) / 2 ^^^ (if (rb b k r + b / 2 ^ k) % 2 = 1 then 2197175160 else 0) := by
      show (if (rb b k r) % 2 ≠ b / 2 ^ k % 2 then (rb b k r) / 2 ^^^ 2197175160 else (rb b k r) / 2) = _
      by_cases h : (rb b k r) % 2 = b / 2 ^ k % 2
      · rw [if_neg (by simpa using h), if_neg (by omega)]; simp
      · rw [if_pos h, if_pos (by omega)]
    rw [e, Nat.xor_assoc, Nat.xor_assoc, Nat.xor_comm (b / 2 ^ (k + 1))]
theorem rb_8 (r : Nat) (b : UInt8) : rb b.toNat 8 r = crcB r b := by
  have h := rb_stN b.toNat r 8
  rw [Nat.div_eq_of_lt (show b.toNat < 2 ^ 8 from b.toNat_lt), Nat.xor_zero] at h
  rw [← h]
  unfold crcB
  rw [st4_stN, st4_stN, stN_add]
theorem rb_lt {b r : Nat} (k : Nat) (h : r < 4294967296) : rb b k r < 4294967296 := by
  induction k with
  | zero => exact h
  | succ k ih =>
    show (if _ then _ else _) < _
    split
    · exact Nat.xor_lt_two_pow (n := 32) (Nat.lt_of_le_of_lt (Nat.div_le_self _ _) ih) (by decide)
    · exact Nat.lt_of_le_of_lt (Nat.div_le_self _ _) ih

set_option maxRecDepth 100000 in
set_option maxHeartbeats 400000 in
theorem CrcRef_any {F : Blks} {p : Option Addr} {n c : Nat} {bs : List UInt8} {w : World} (h1 : Sl F w p n c bs) (hn : n ≤ 1000000000) :
    Calls Try.prog 80 #[.slice p n c] w fun e w' => e = .returned (.int .u32 (crcSum bs : Nat)) ∧ w = w' := by
  have hlen := h1.len
  go_enter Try.func80, Try.ntmps80
  go_wp2
  go_loop [3, 4] (fun r i => ∃ k : Nat, k ≤ n ∧ i = .int .i64 k ∧ r = .int .u32 (crcR (bs.take k) : Nat)) (fun _ i => n - (intOf i).toNat)
  case atStart => exact ⟨0, Nat.zero_le _, rfl, rfl⟩
  case round =>
    obtain ⟨k, hk, rfl, rfl⟩ := hrel
    by_cases hlt : k < n
    · obtain ⟨b, o, rfl, _, _, e1⟩ := h1.byte hlt
      have hr := crcR_lt (bs.take k)
      have hs : crcR (bs.take (k + 1)) = crcB (crcR (bs.take k)) (gt bs k) := crcR_take bs (by omega)
      generalize crcR (bs.take k) = r0 at hr hs ⊢
      generalize gt bs k = x at e1 hs
      obtain ⟨f, hf0, hfs, hf8, hfl⟩ : ∃ f : Nat → Nat, r0 = f 0 ∧ (∀ m, f (m + 1) = if (f m) % 2 ≠ x.toNat / 2 ^ m % 2 then (f m) / 2 ^^^ 2197175160 else (f m) / 2) ∧ crcB r0 x = f 8 ∧ ∀ m, f m < 4294967296 :=
        ⟨fun m => rb x.toNat m r0, rfl, fun m => rfl, (rb_8 _ _).symm, fun m => rb_lt m hr⟩
      rw [hf8] at hs
      have HS := Lib.hid hs; have HR := Lib.hid hfl; have HX := Lib.hid x.toNat_lt; have HF := Lib.hid hfs
      clear hf8 hfs hfl hr
      subst hf0
      clear hs hlen h1
      go_wp2
      go_loop [3, 5] (fun r j => ∃ m : Nat, m ≤ 8 ∧ j = .int .i64 m ∧ r = .int .u32 (f m : Nat)) (fun _ j => 8 - (intOf j).toNat)
      case atStart => exact ⟨0, Nat.zero_le _, rfl, rfl⟩
      case round =>
        obtain ⟨m, hm, rfl, rfl⟩ := hrel
        by_cases hl2 : m < 8
        · have hr := HR.out m
          have hs := HF.out m
          generalize f m = r at hr hs ⊢
          obtain ⟨q, hq⟩ : ∃ q, q = x.toNat / 2 ^ m := ⟨_, rfl⟩
          have hq2 : q < 256 := by rw [hq]; exact Nat.lt_of_le_of_lt (Nat.div_le_self _ _) HX.out
          rw [← hq] at hs
          have f0 : (x.toNat : Int) / 2 ^ m % 4294967296 = (q : Int) := by
            have : (x.toNat : Int) / 2 ^ m = (q : Int) := by rw [hq]; push_cast; rfl
            rw [this]; omega
          obtain ⟨a, ha⟩ : ∃ a, a = r % 2 := ⟨_, rfl⟩
          obtain ⟨d, hd⟩ : ∃ d, d = q % 2 := ⟨_, rfl⟩
          have f1 : bits .and .u32 (r : Int) 1 = (a : Int) := by rw [ha, ← Nat.and_one_is_mod]; exact and1 hr
          have f2 : bits .and .u32 (q : Int) 1 = (d : Int) := by rw [hd, ← Nat.and_one_is_mod]; exact and1 (by omega)
          rw [← ha, ← hd] at hs
          clear hq ha hd
          by_cases h : a = d
          · subst h
            rw [if_neg (by simp)] at hs
            have f3 : (r : Int) / 2 = ((f (m + 1) : Nat) : Int) := by rw [hs]; push_cast; rfl
            have HR1 := Lib.hid f3
            clear f3 hs
            go_wp2
            exact ⟨⟨m + 1, by omega, by go_num, by rw [HR1.out]⟩, by simp [intOf]; omega⟩
          · rw [if_pos h] at hs
            have hne : ((a : Int) != (d : Int)) = true := by simp; omega
            have f3 : bits .xor .u32 ((r : Int) / 2) 2197175160 = ((f (m + 1) : Nat) : Int) := by
              rw [hs, show (r : Int) / 2 = ((r / 2 : Nat) : Int) by omega]
              exact u32_xor_nat (r / 2) 2197175160 (by omega) (by decide)
            have HR1 := Lib.hid f3
            clear f3 hs
            go_wp2
            exact ⟨⟨m + 1, by omega, by go_num, by rw [HR1.out]⟩, by simp [intOf]; omega⟩
        · obtain rfl : m = 8 := by omega
          have hr := HR.out 8
          rw [← HS.out] at hr ⊢
          go_wp2
          exact ⟨⟨k + 1, by omega, by go_num, rfl⟩, by simp [intOf]; omega⟩
    · have hk2 : bs.take k = bs := List.take_of_length_le (by omega)
      rw [hk2]
      have hr := crcR_lt bs
      have hs : crcSum bs = crcR bs ^^^ 4294967295 := rfl
      have f1 : bits .xor .u32 ((crcR bs : Nat) : Int) 4294967295 = ((crcSum bs : Nat) : Int) := u32_xor_nat (crcR bs) 4294967295 hr (by decide)
      generalize crcR bs = r at f1
      clear hs hr hk2
      go_wp2
      go_ret
      exact ⟨rfl, rfl⟩

set_option maxRecDepth 100000 in
set_option maxHeartbeats 400000 in
theorem TwinBytes_any {F : Blks} {p : Option Addr} {n c : Nat} {bs : List UInt8} {w : World} (h1 : Sl F w p n c bs) (hn : n ≤ 140737488355328) :
    Calls Try.prog 25 #[.slice p n c] w fun e w' => ∃ v, e = .returned v ∧ Own 5 w.heap.size noB w' v bs ∧ Below w.heap.size w w' := by
  have H1 := Lib.hid h1
  clear h1
  go_enter Try.func25, Try.ntmps25
  go_wp2_with (at_builtin; refine wpList_append_Own (α := UInt8) rfl (.tmp 4) (.tmp 5) rfl Try.underlying37 (z := .int .u8 0) (bytes := 1) (by kernel_rfl) rfl (by decide) rfl rfl (Own.nil _ w.heap.size noB w) H1.out (fun b hb e => by cases e) (Nat.le_refl _) (by simp; omega) ?_; intro v' w' ho hg hat)
  go_ret
  exact ⟨_, rfl, by simpa using ho.flat (G := noB), (Below.refl _ _).grown hg (Nat.le_refl _) (fun k hk => by cases hk)⟩

set_option maxRecDepth 100000 in
set_option maxHeartbeats 400000 in
theorem SealRef_no {p : Option Addr} {n c : Nat} {w : World} (hn : 65532 < n) :
    Calls Try.prog 54 #[.slice p n c] w fun e w' => e = .returned (.tuple #[.slice none 0 0, .int .i64 2]) ∧ Below w.heap.size w w' := by
  go_enter Try.func54, Try.ntmps54
  go_wp2_with fail
  go_ret2
  exact ⟨rfl, Below.refl _ _⟩
set_option maxRecDepth 100000 in
set_option maxHeartbeats 400000 in
theorem SealRef_yes {F : Blks} {p : Option Addr} {n c : Nat} {bs : List UInt8} {w : World} (h1 : Sl F w p n c bs) (hn : n ≤ 65532) :
    Calls Try.prog 54 #[.slice p n c] w fun e w' => ∃ v, e = .returned (.tuple #[v, .int .i64 0]) ∧ Own 5 w.heap.size noB w' v (sealed bs) ∧ Below w.heap.size w w' := by
  have hlen := h1.len
  have hs := crcSum_lt bs
  have HS := Lib.hid (CrcRef_any h1 (by omega))
  have H1 := Lib.hid h1
  have HL := Lib.hid hlen
  have e0 : ((crcSum bs : Nat) : Int) % 256 = (((byteAt (crcSum bs : Nat) 0).toNat : Nat) : Int) := by rw [byteAt_int (by omega)]; simp
  have e1 : ((crcSum bs : Nat) : Int) / 256 % 256 = (((byteAt (crcSum bs : Nat) 1).toNat : Nat) : Int) := by rw [byteAt_int (by omega)]; simp
  have e2 : ((crcSum bs : Nat) : Int) / 65536 % 256 = (((byteAt (crcSum bs : Nat) 2).toNat : Nat) : Int) := by rw [byteAt_int (by omega)]; simp
  have e3 : ((crcSum bs : Nat) : Int) / 16777216 % 256 = (((byteAt (crcSum bs : Nat) 3).toNat : Nat) : Int) := by rw [byteAt_int (by omega)]; simp
  have hdef : sealed bs = bs ++ [byteAt (crcSum bs : Nat) 0, byteAt (crcSum bs : Nat) 1, byteAt (crcSum bs : Nat) 2, byteAt (crcSum bs : Nat) 3] := rfl
  rw [hdef]
  generalize byteAt (crcSum bs : Nat) 0 = b0 at e0 ⊢
  generalize byteAt (crcSum bs : Nat) 1 = b1 at e1 ⊢
  generalize byteAt (crcSum bs : Nat) 2 = b2 at e2 ⊢
  generalize byteAt (crcSum bs : Nat) 3 = b3 at e3 ⊢
  clear h1 hlen hdef hs
  go_enter Try.func54, Try.ntmps54
  go_wp2_with fail
  refine HS.out.mono ?_
  rintro e w1 ⟨rfl, rfl⟩
  go_wp2_with fail
  refine (TwinBytes_any H1.out (by omega)).mono ?_
  rintro e w2 ⟨v, rfl, ho, hb2⟩
  have H2 := Lib.hid (ho.flat (G := noB))
  have hz2 := hb2.size
  clear ho
  go_wp2_with (at_builtin; refine wpList_append_Own (α := UInt8) rfl (.tmp 11) (.tmp 23) rfl Try.underlying37 (z := .int .u8 0) (bytes := 1) (by kernel_rfl) rfl (by decide) rfl rfl (H2.out.grow (al1 w2 _)) (G := fun b => w2.heap.size ≤ b) (lit4 (Nat.le_refl _) _ _ _ _ _) (fun b hb h => by have := (H2.out.block b h).2; omega) (by simp; omega) (by rw [HL.out]; omega) ?_; intro v' w' ho2 hg hat)
  go_ret2
  refine ⟨_, rfl, ho2.flat, ?_⟩
  exact (below2 hb2 (al1 w2 _)).grown hg (by simp; omega) (fun k hk => (H2.out.block k hk).1)
end Go.Proofs.Ytpmdkmpmpjdglaa
