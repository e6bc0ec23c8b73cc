/- crc: the table, the sum, what is sealed. -/
import Derived.Test.YtpmdkmpmpjdglaaWriter
set_option linter.unusedSimpArgs false
set_option linter.unusedVariables false
namespace Go.Proofs.Ytpmdkmpmpjdglaa
open Go Go.RowKit
open Rep (vr)

/-- One bit of the register. -/
def st1 (r : Nat) : Nat := if r &&& 1 = 1 then (r / 2) ^^^ 2197175160 else r / 2
def stN : Nat → Nat → Nat
  | 0, r => r
  | j + 1, r => st1 (stN j r)
def tb (k : Nat) : Nat := stN 4 k
theorem st1_lt {r : Nat} (h : r < 4294967296) : st1 r < 4294967296 := by
  unfold st1
  split
  · exact Nat.xor_lt_two_pow (n := 32) (by omega) (by decide)
  · omega
theorem stN_lt (n : Nat) {r : Nat} (h : r < 4294967296) : stN n r < 4294967296 := by
  induction n with
  | zero => exact h
  | succ n ih => exact st1_lt ih
theorem tb_lt {k : Nat} (h : k < 16) : tb k < 4294967296 := stN_lt 4 (by omega)
/-- A block of 16 numbers: the first k are told. -/
def tbRow (k : Nat) : Array Value := ((List.range 16).map fun i => Value.int .u32 ((if i < k then tb i else 0 : Nat) : Int)).toArray
theorem tbRow_get (k : Nat) {j : Nat} (h : j < 16) : (tbRow k)[j]? = some (.int .u32 ((if j < k then tb j else 0 : Nat) : Int)) := by
  simp [tbRow, List.getElem?_range h]
theorem tbRow_set (k : Nat) (h : k < 16) : (tbRow k).setIfInBounds k (.int .u32 (tb k : Nat)) = tbRow (k + 1) := by
  apply Array.ext
  · simp [tbRow]
  · intro i h1 h2
    simp only [tbRow, List.size_toArray, List.length_map, List.length_range, Array.size_setIfInBounds] at h1
    rw [Array.getElem_setIfInBounds]
    simp only [tbRow, List.getElem_toArray, List.getElem_map, List.getElem_range]
    by_cases he : k = i
    · subst he; simp
    · rw [if_neg he]
      by_cases h3 : i < k
      · rw [if_pos h3, if_pos (by omega)]
      · rw [if_neg h3, if_neg (by omega)]
    · simp [tbRow]; omega
def rowOf (t : Nat → Nat) : Array Value := #[.int .u32 (t 0 : Nat), .int .u32 (t 1 : Nat), .int .u32 (t 2 : Nat), .int .u32 (t 3 : Nat), .int .u32 (t 4 : Nat), .int .u32 (t 5 : Nat), .int .u32 (t 6 : Nat), .int .u32 (t 7 : Nat), .int .u32 (t 8 : Nat), .int .u32 (t 9 : Nat), .int .u32 (t 10 : Nat), .int .u32 (t 11 : Nat), .int .u32 (t 12 : Nat), .int .u32 (t 13 : Nat), .int .u32 (t 14 : Nat), .int .u32 (t 15 : Nat)]
theorem rowOf_get (t : Nat → Nat) {j : Nat} (h : j < 16) : (rowOf t)[j]? = some (.int .u32 (t j : Nat)) := by
  rcases j with _ | _ | _ | _ | _ | _ | _ | _ | _ | _ | _ | _ | _ | _ | _ | _ | j
  all_goals first | rfl | omega
theorem st1_yes {r : Nat} (hr : r < 4294967296) (h : r &&& 1 = 1) : bits .xor .u32 ((r : Int) / 2) 2197175160 = ((st1 r : Nat) : Int) := by
  have e3 : (r : Int) / 2 = ((r / 2 : Nat) : Int) := by omega
  rw [e3, show st1 r = r / 2 ^^^ 2197175160 from if_pos h]
  exact u32_xor_nat (r / 2) 2197175160 (by omega) (by decide)
theorem st1_no {r : Nat} (h : ¬ r &&& 1 = 1) : (r : Int) / 2 = ((st1 r : Nat) : Int) := by
  rw [show st1 r = r / 2 from if_neg h]
  omega
theorem and1 {r : Nat} (hr : r < 4294967296) : bits .and .u32 (r : Int) 1 = ((r &&& 1 : Nat) : Int) := u32_and_nat r 1 hr (by decide)

set_option maxRecDepth 100000 in
set_option maxHeartbeats 400000 in
theorem steps_any {w : World} : Calls Try.prog 89 #[] w fun e w' => ∃ t : Nat → Nat, t = tb ∧ e = .returned (.agg (rowOf t)) ∧ Below w.heap.size w w' := by
  go_enter Try.func89, Try.ntmps89
  go_wp2
  go_loopw [4] (fun i wr => ∃ k : Nat, k ≤ 16 ∧ i = .int .i64 k ∧ (∃ T, wr.heap[w.heap.size]? = some (.cells (tbRow k) T (0, 0))) ∧ Below w.heap.size w wr) (fun i _ => 16 - (intOf i).toNat)
  case atStart => exact ⟨0, Nat.zero_le _, rfl, ⟨_, heap_alloc_new _ _⟩, al1 _ _⟩
  case round =>
    obtain ⟨k, hk, rfl, ⟨T, hg⟩, hb⟩ := hrel
    by_cases hlt : k < 16
    · have af : ∀ o, wr.frozen? ⟨w.heap.size, o, none⟩ = false := fun o => heap_frozen hg
      have ac : wr.cell? ⟨w.heap.size, k, none⟩ = some (.int .u32 ((if k < k then tb k else 0 : Nat) : Int)) := (heap_cell hg).trans (tbRow_get k hlt)
      go_wp2
      go_loop [2, 9] (fun r j => ∃ n : Nat, n ≤ 4 ∧ j = .int .i64 n ∧ r = .int .u32 (stN n k : Nat)) (fun _ j => 4 - (intOf j).toNat)
      case atStart => exact ⟨0, Nat.zero_le _, rfl, rfl⟩
      case round =>
        obtain ⟨n, hn, rfl, rfl⟩ := hrel
        by_cases hl2 : n < 4
        · have hr : stN n k < 4294967296 := stN_lt n (by omega)
          have hs : stN (n + 1) k = st1 (stN n k) := rfl
          have hs2 : st1 (stN n k) < 4294967296 := st1_lt hr
          generalize stN n k = r at hr hs hs2 ⊢
          have e0 := and1 hr
          have HS := Lib.hid hs
          by_cases hb1 : r &&& 1 = 1
          · have e1 : bits .and .u32 (r : Int) 1 = 1 := by rw [e0, hb1]; rfl
            have e2 := st1_yes hr hb1
            clear e0 hb1 hs hr hs2 hg hb af ac
            go_wp2
            go_round
            case rel => exact ⟨n + 1, by omega, by go_num, by rw [HS.out]⟩
            case measure => simp [intOf]; omega
          · have e1 : bits .and .u32 (r : Int) 1 = 0 := by
              rw [e0]
              have h1 : r &&& 1 < 2 := Nat.and_lt_two_pow (n := 1) _ (by decide)
              omega
            have e2 := st1_no hb1
            clear e0 hb1 hs hr hs2 hg hb af ac
            go_wp2
            go_round
            case rel => exact ⟨n + 1, by omega, by go_num, by rw [HS.out]⟩
            case measure => simp [intOf]; omega
        · obtain rfl : n = 4 := by omega
          have ht : stN 4 k = tb k := rfl
          rw [ht]
          go_wp2
          go_roundw
          case rel =>
            refine ⟨k + 1, by omega, by go_num, ⟨T, ?_⟩, Below.setCell hb (Nat.le_refl _) _⟩
            rw [heap_set hg, tbRow_set k hlt]
          case measure => simp [intOf]; omega
    · obtain rfl : k = 16 := by omega
      have af : ∀ o, wr.frozen? ⟨w.heap.size, o, none⟩ = false := fun o => heap_frozen hg
      obtain ⟨t, ht, ac⟩ : ∃ t : Nat → Nat, t = tb ∧ ∀ j, j < 16 → wr.cell? ⟨w.heap.size, j, none⟩ = some (.int .u32 (t j : Nat)) := ⟨tb, rfl, fun j hj => by rw [heap_cell hg, tbRow_get 16 hj, if_pos hj]⟩
      have HT := Lib.hid ht
      have c0 := ac 0 (by decide)
      have c1 := ac 1 (by decide)
      have c2 := ac 2 (by decide)
      have c3 := ac 3 (by decide)
      have c4 := ac 4 (by decide)
      have c5 := ac 5 (by decide)
      have c6 := ac 6 (by decide)
      have c7 := ac 7 (by decide)
      have c8 := ac 8 (by decide)
      have c9 := ac 9 (by decide)
      have c10 := ac 10 (by decide)
      have c11 := ac 11 (by decide)
      have c12 := ac 12 (by decide)
      have c13 := ac 13 (by decide)
      have c14 := ac 14 (by decide)
      have c15 := ac 15 (by decide)
      clear ac hg ht
      go_wp2
      refine bodyPost_ret (v := .agg (rowOf t)) ?_ rfl ?_
      · simp [results, Try.results89, go_sem, c0, c1, c2, c3, c4, c5, c6, c7, c8, c9, c10, c11, c12, c13, c14, c15, af]
        rfl
      · exact ⟨t, HT.out, rfl, (by repeat' (first | with_reducible exact hb | with_reducible exact Below.refl _ _ | ((with_reducible refine Below.setCell ?_ ?_ _); rotate_left; (focus (simp <;> omega))) | ((with_reducible refine Below.alloc ?_ ?_ _); rotate_left; (focus (simp <;> omega))) | (with_reducible refine below_drew ?_) | (with_reducible refine below_drewN ?_ _)))⟩

/-- Four bits of the register, by the table. -/
def st4 (r : Nat) : Nat := (r / 16) ^^^ tb (r % 16)
def crcB (r : Nat) (c : UInt8) : Nat := st4 (st4 (r ^^^ c.toNat))
def crcR (bs : List UInt8) : Nat := bs.foldl crcB 4294967295
def crcSum (bs : List UInt8) : Nat := crcR bs ^^^ 4294967295
theorem st4_lt {r : Nat} (h : r < 4294967296) : st4 r < 4294967296 := Nat.xor_lt_two_pow (n := 32) (by omega) (tb_lt (Nat.mod_lt _ (by decide)))
theorem crcB_lt {r : Nat} (h : r < 4294967296) (c : UInt8) : crcB r c < 4294967296 := st4_lt (st4_lt (Nat.xor_lt_two_pow (n := 32) h (by have := c.toNat_lt; omega)))
theorem crcR_lt (bs : List UInt8) : crcR bs < 4294967296 := by
  suffices h : ∀ r, r < 4294967296 → bs.foldl crcB r < 4294967296 from h _ (by decide)
  induction bs with
  | nil => exact fun r h => h
  | cons c bs ih => exact fun r h => ih _ (crcB_lt h c)
theorem crcSum_lt (bs : List UInt8) : crcSum bs < 4294967296 := Nat.xor_lt_two_pow (n := 32) (crcR_lt bs) (by decide)
theorem crcR_take (bs : List UInt8) {k : Nat} (h : k < bs.length) : crcR (bs.take (k + 1)) = crcB (crcR (bs.take k)) (gt bs k) := by
  unfold crcR
  rw [List.take_succ_eq_append_getElem h, gt_eq (List.getElem?_eq_getElem h), List.foldl_append]
  rfl
theorem and15 {r : Nat} (h : r < 4294967296) : bits .and .u32 (r : Int) 15 = ((r % 16 : Nat) : Int) := by
  rw [show (15 : Int) = ((15 : Nat) : Int) from rfl, u32_and_nat r 15 h (by decide)]
  exact congrArg _ (Nat.and_two_pow_sub_one_eq_mod r 4)
theorem st4_int {r : Nat} (h : r < 4294967296) : bits .xor .u32 ((r : Int) / 16) ((tb (r % 16) : Nat) : Int) = ((st4 r : Nat) : Int) := by
  have e3 : (r : Int) / 16 = ((r / 16 : Nat) : Int) := by omega
  rw [e3]
  exact u32_xor_nat (r / 16) _ (by omega) (tb_lt (Nat.mod_lt _ (by decide)))

set_option maxRecDepth 100000 in
set_option maxHeartbeats 400000 in
theorem Sum_any {F : Blks} {p : Option Addr} {n c : Nat} {bs : List UInt8} {w : World} (h1 : Sl F w p n c bs) (hn : n ≤ 1000000000) :
    Calls Try.prog 64 #[.slice p n c] w fun e w' => e = .returned (.int .u32 (crcSum bs : Nat)) ∧ Below w.heap.size w w' := by
  have hlen := h1.len
  go_enter Try.func64, Try.ntmps64
  go_wp2_with fail
  refine steps_any.mono ?_
  rintro e w1 ⟨t, ht, rfl, hb⟩
  have HT := Lib.hid ht
  clear ht
  unfold rowOf
  go_wp2_with fail
  go_loopw [4, 10] (fun r i wr => ∃ k : Nat, k ≤ n ∧ i = .int .i64 k ∧ r = .int .u32 (crcR (bs.take k) : Nat) ∧ (∃ T, wr.heap[w1.heap.size]? = some (.cells (rowOf t) T (0, 0))) ∧ Below w1.heap.size w1 wr) (fun _ i _ => n - (intOf i).toNat)
  case atStart => exact ⟨0, Nat.zero_le _, rfl, rfl, ⟨_, heap_alloc_new _ _⟩, al1 _ _⟩
  case round =>
    obtain ⟨k, hk, rfl, rfl, ⟨T, hg⟩, hb1⟩ := hrel
    by_cases hlt : k < n
    · have af : ∀ o, wr.frozen? ⟨w1.heap.size, o, none⟩ = false := fun o => heap_frozen hg
      have ac : ∀ j, j < 16 → wr.cell? ⟨w1.heap.size, j, none⟩ = some (.int .u32 (tb j : Nat)) := fun j hj => by rw [heap_cell hg, rowOf_get t hj, HT.out]
      obtain ⟨b, o, rfl, _, _, e1⟩ := (h1.grow (below2 hb hb1)).byte hlt
      have hr := crcR_lt (bs.take k)
      have hs : crcR (bs.take (k + 1)) = crcB (crcR (bs.take k)) (gt bs k) := crcR_take bs (by omega)
      generalize crcR (bs.take k) = r at hr hs ⊢
      generalize gt bs k = x at e1 hs
      have hx := x.toNat_lt
      have hr2 : r ^^^ x.toNat < 4294967296 := Nat.xor_lt_two_pow (n := 32) hr (by omega)
      have f1 : bits .xor .u32 (r : Int) ((x.toNat : Nat) : Int) = ((r ^^^ x.toNat : Nat) : Int) := u32_xor_nat r x.toNat hr (by omega)
      have hs2 : crcB r x = st4 (st4 (r ^^^ x.toNat)) := rfl
      generalize r ^^^ x.toNat = r2 at hr2 f1 hs2
      have f2 := and15 hr2
      have f3 := ac (r2 % 16) (Nat.mod_lt _ (by decide))
      have f4 := st4_int hr2
      have hr3 := st4_lt hr2
      generalize st4 r2 = r3 at f4 hs2 hr3
      have f5 := and15 hr3
      have f6 := ac (r3 % 16) (Nat.mod_lt _ (by decide))
      have f7 := st4_int hr3
      have f8 : r2 % 16 < 16 := Nat.mod_lt _ (by decide)
      have f9 : r3 % 16 < 16 := Nat.mod_lt _ (by decide)
      generalize r2 % 16 = i2 at f2 f3 f4 f8
      generalize r3 % 16 = i3 at f5 f6 f7 f9
      have f0 : ((x.toNat : Nat) : Int) % 4294967296 = ((x.toNat : Nat) : Int) := by omega
      have g8 : ((i2 : Nat) : Int) < 16 := by omega
      have g9 : ((i3 : Nat) : Int) < 16 := by omega
      have HS := Lib.hid (hs.trans hs2); have HG := Lib.hid hg
      clear hs hs2 ac hg h1 hlen hr hr2 hr3 hx
      go_wp2
      go_roundw
      case rel => exact ⟨k + 1, by omega, by go_num, by rw [HS.out], ⟨T, HG.out⟩, hb1⟩
      case measure => simp [intOf]; omega
    · have hk2 : bs.take k = bs := List.take_of_length_le (by omega)
      rw [hk2]
      have hr := crcR_lt bs
      have hs : crcSum bs = crcR bs ^^^ 4294967295 := rfl
      have f1 : bits .xor .u32 ((crcR bs : Nat) : Int) 4294967295 = ((crcSum bs : Nat) : Int) := u32_xor_nat (crcR bs) 4294967295 hr (by decide)
      generalize crcR bs = r at f1
      clear hs hr hk2 hg
      go_wp2
      go_ret
      exact ⟨rfl, below2 hb hb1⟩

theorem Sl.litBytes {F : Blks} {w : World} {bs : List UInt8} {g : Nat} {t : TypeId} {fz : Nat × Nat} (hblk : w.heap[g]? = some (.cells (bs.map byteVal).toArray t fz)) (hg : F g) (hm : bs.length ≤ 1000000) :
    Sl F w (some ⟨g, 0, none⟩) bs.length bs.length bs := by
  refine Sl.lit (α := UInt8) (xs := bs) hblk (bs.map byteVal) ?_ (by simp) (fun i u x h1 h2 => ?_) hg hm
  · rw [List.flatMap_map]
    clear hblk hm
    induction bs with
    | nil => rfl
    | cons b bs ih => exact congrArg (byteVal b :: ·) ih
  · rw [List.getElem?_map, h2] at h1
    injection h1 with h1
    subst h1
    rfl
theorem lit4 {F : Blks} {w : World} (hF : F w.heap.size) (a b c d : UInt8) (t : TypeId) :
    Sl F (w.alloc (.cells #[.int .u8 (a.toNat : Nat), .int .u8 (b.toNat : Nat), .int .u8 (c.toNat : Nat), .int .u8 (d.toNat : Nat)] t)) (some ⟨w.heap.size, 0, none⟩) 4 4 [a, b, c, d] :=
  Sl.litBytes (bs := [a, b, c, d]) (heap_alloc_new _ _) hF (by simp)
def sumB (s : Nat) : List UInt8 := [byteAt s 0, byteAt s 1, byteAt s 2, byteAt s 3]
def sealed (bs : List UInt8) : List UInt8 := bs ++ sumB (crcSum bs)

set_option maxRecDepth 100000 in
set_option maxHeartbeats 400000 in
theorem Seal_no {p : Option Addr} {n c : Nat} {w : World} (hn : 65532 < n) :
    Calls Try.prog 40 #[.slice p n c] w fun e w' => e = .returned (.tuple #[.slice none 0 0, .int .i64 2]) ∧ Below w.heap.size w w' := by
  go_enter Try.func40, Try.ntmps40
  go_wp2_with fail
  go_ret2
  exact ⟨rfl, Below.refl _ _⟩
set_option maxRecDepth 100000 in
set_option maxHeartbeats 400000 in
theorem Seal_yes {F : Blks} {p : Option Addr} {n c : Nat} {bs : List UInt8} {w : World} (h1 : Sl F w p n c bs) (hn : n ≤ 65532) :
    Calls Try.prog 40 #[.slice p n c] w fun e w' => ∃ v, e = .returned (.tuple #[v, .int .i64 0]) ∧ Own 5 w.heap.size noB w' v (sealed bs) ∧ Below w.heap.size w w' := by
  have hlen := h1.len
  have hs := crcSum_lt bs
  have HS := Lib.hid (Sum_any h1 (by omega))
  have H1 := Lib.hid h1
  have HL := Lib.hid hlen
  have e0 : ((crcSum bs : Nat) : Int) % 256 = (((byteAt (crcSum bs : Nat) 0).toNat : Nat) : Int) := by rw [byteAt_int (by omega)]; simp
  have e1 : ((crcSum bs : Nat) : Int) / 256 % 256 = (((byteAt (crcSum bs : Nat) 1).toNat : Nat) : Int) := by rw [byteAt_int (by omega)]; simp
  have e2 : ((crcSum bs : Nat) : Int) / 65536 % 256 = (((byteAt (crcSum bs : Nat) 2).toNat : Nat) : Int) := by rw [byteAt_int (by omega)]; simp
  have e3 : ((crcSum bs : Nat) : Int) / 16777216 % 256 = (((byteAt (crcSum bs : Nat) 3).toNat : Nat) : Int) := by rw [byteAt_int (by omega)]; simp
  have hdef : sealed bs = bs ++ [byteAt (crcSum bs : Nat) 0, byteAt (crcSum bs : Nat) 1, byteAt (crcSum bs : Nat) 2, byteAt (crcSum bs : Nat) 3] := rfl
  rw [hdef]
  generalize byteAt (crcSum bs : Nat) 0 = b0 at e0 ⊢
  generalize byteAt (crcSum bs : Nat) 1 = b1 at e1 ⊢
  generalize byteAt (crcSum bs : Nat) 2 = b2 at e2 ⊢
  generalize byteAt (crcSum bs : Nat) 3 = b3 at e3 ⊢
  clear h1 hlen hdef hs
  go_enter Try.func40, Try.ntmps40
  go_wp2_with fail
  refine HS.out.mono ?_
  rintro e w1 ⟨rfl, hb1⟩
  go_wp2_with fail
  refine (CloneBytes (H1.out.grow hb1) (by omega)).mono ?_
  rintro e w2 ⟨v, rfl, ho, hb2⟩
  have H2 := Lib.hid (ho.flat (G := noB))
  have hz1 := hb1.size
  have hz2 := hb2.size
  clear ho
  go_wp2_with (at_builtin; refine wpList_append_Own (α := UInt8) rfl (.tmp 11) (.tmp 23) rfl Try.underlying37 (z := .int .u8 0) (bytes := 1) (by kernel_rfl) rfl (by decide) rfl rfl ((H2.out.base hz1).grow (al1 w2 _)) (G := fun b => w2.heap.size ≤ b) (lit4 (Nat.le_refl _) _ _ _ _ _) (fun b hb h => by have := (H2.out.block b h).2; omega) (by simp; omega) (by rw [HL.out]; omega) ?_; intro v' w' ho2 hg hat)
  go_ret2
  refine ⟨_, rfl, ho2.flat, ?_⟩
  have hb3 : Below w.heap.size w w2 := below2 hb1 hb2
  exact (below2 hb3 (al1 w2 _)).grown hg (by simp; omega) (fun k hk => Nat.le_trans hz1 (H2.out.block k hk).1)
end Go.Proofs.Ytpmdkmpmpjdglaa
