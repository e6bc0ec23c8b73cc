/- The reference's bytes: dots, times, numbers, values, rows. -/
import Derived.Test.YtpmdkmpmpjdglaaRefA
import Derived.Test.YtpmdkmpmpjdglaaRowB
import Derived.Deep.RegionHeld3
set_option linter.unusedSimpArgs false
set_option linter.unusedVariables false
namespace Go.Proofs.Ytpmdkmpmpjdglaa
open Go Go.RowKit
open Rep (vr)

theorem u8_byte {x : Int} (h : fitsN x 1 = true) : x % 256 = ((byteAt x 0).toNat : Int) ∧ x = ((byteAt x 0).toNat : Int) := by
  unfold fitsN at h
  simp only [Bool.and_eq_true, decide_eq_true_eq, Nat.reduceMul, Int.reducePow] at h
  rw [byteAt_int h.1]
  simp
  omega
theorem fits_pos {x : Int} {k : Nat} (h : fitsN x k = true) (hk : k ≤ 7) : 0 ≤ x ∧ x ≤ 4611686018427387904 := by
  have h1 := i64_of_fits h hk
  unfold fitsN at h
  simp only [Bool.and_eq_true, decide_eq_true_eq] at h
  have h2 : (2 : Int) ^ (8 * k) ≤ 2 ^ 56 := by
    have : (2 : Nat) ^ (8 * k) ≤ 2 ^ 56 := Nat.pow_le_pow_right (by decide) (by omega)
    exact_mod_cast this
  have h3 : (2 : Int) ^ 56 = 72057594037927936 := by decide
  omega

set_option maxRecDepth 100000 in
set_option maxHeartbeats 400000 in
theorem DotBytes_any {F : Blks} {w : World} {v : Value} {d : Dot} (hv : vr F w v d) (hf : DotFits d) :
    Calls Try.prog 77 #[v] w fun e w' => ∃ u, e = .returned u ∧ Own 5 w.heap.size noB w' u (dotB d) ∧ Below w.heap.size w w' := by
  obtain ⟨rfl, hi⟩ := hv
  have h1 := u8_byte hf.peer
  have h4 := fits_pos hf.n (by decide)
  have HB := Lib.hid h1; have H4 := Lib.hid h4
  have hp := fits_pos hf.peer (by decide)
  have hw : IntKind.u8.wrap d.peer = d.peer := by have := h1.1; have := h1.2; unfold IntKind.wrap; simp [IntKind.bits, IntKind.signed]; omega
  clear h1 h4 hp
  obtain ⟨W, hW⟩ : ∃ W, W = w.alloc (.cells #[.int .i64 d.peer, .int .i64 d.n] 70) := ⟨_, rfl⟩
  have hbW : Below w.heap.size w W := by rw [hW]; exact al1 _ _
  have hWz : W.heap.size = w.heap.size + 1 := by rw [hW]; simp
  have hWx : W.heap[w.heap.size]? = some (.cells #[.int .i64 d.peer, .int .i64 d.n] 70 (0, 0)) := by rw [hW]; exact heap_alloc_new _ _
  have f0 : ∀ w', Below W.heap.size W w' → w'.cell? ⟨w.heap.size, 0, none⟩ = some (.int .i64 d.peer) := fun w' h => cell_later h (heap_cell hWx)
  have f1 : ∀ w', Below W.heap.size W w' → w'.cell? ⟨w.heap.size, 1, none⟩ = some (.int .i64 d.n) := fun w' h => cell_later h (heap_cell hWx)
  have HBW := Lib.hid hbW; have HWZ := Lib.hid hWz
  clear hbW hWz hWx
  go_enter Try.func77, Try.ntmps77
  go_wp2
  rw [← hW]
  clear hW
  refine wp_flowM 7 [(3, .unk [] fun _ v wr => Own 5 W.heap.size noB wr v [byteAt d.peer 0]), (6, .unk [] fun _ v wr => Own 5 W.heap.size noB wr v (be d.n 4))] [3,6] (by kernel_rfl) (by kernel_rfl) ?_ ?_
  · exact ⟨fun _ v w1 w2 _ h hb => h.grow hb, fun _ v w1 w2 _ h hb => h.grow hb, trivial⟩
  repeat (first
    | (refine Flow.skip_ rfl ?_; simp only [Act.put, List.setIfInBounds_toArray, List.set_cons_zero, List.set_cons_succ, Nat.reduceAdd])
    | (refine Flow.pure_ (v := ?_) rfl rfl ?_ ?_; rotate_left; focus (intro w hb; go_simp; try with_reducible rfl)
       simp only [Act.put, List.setIfInBounds_toArray, List.set_cons_zero, List.set_cons_succ, Nat.reduceAdd]))
  refine Flow.made_ rfl rfl ?_ ?_
  · intro wf hb hk
    (try simp only [holdsF, lookF, lookV, List.map_cons, List.map_nil, List.headD_cons, List.getD_cons_zero, List.getD_cons_succ, Nat.reduceEqDiff, Nat.reduceAdd, ↓reduceIte, and_true] at hk ⊢)
    (skip)
    go_simp
    (exact ⟨⟨al1 _ _, own_lit1 (by first | exact HB.out.1 | exact HB.out.2) hb.size⟩, fun b hb => by simp [Value.ownBlock] at hb ⊢; omega⟩)
  intro v3
  simp only [Act.put, List.setIfInBounds_toArray, List.set_cons_zero, List.set_cons_succ, Nat.reduceAdd]
  (try simp only [holdsF, lookF, lookV, List.map_cons, List.map_nil, List.headD_cons, List.getD_cons_zero, List.getD_cons_succ, Nat.reduceEqDiff, Nat.reduceAdd, ↓reduceIte, and_true])
  repeat (first
    | (refine Flow.skip_ rfl ?_; simp only [Act.put, List.setIfInBounds_toArray, List.set_cons_zero, List.set_cons_succ, Nat.reduceAdd])
    | (refine Flow.pure_ (v := ?_) rfl rfl ?_ ?_; rotate_left; focus (intro w hb; go_simp; try with_reducible rfl)
       simp only [Act.put, List.setIfInBounds_toArray, List.set_cons_zero, List.set_cons_succ, Nat.reduceAdd]))
  refine Flow.made_ rfl rfl ?_ ?_
  · intro wf hb hk
    (try simp only [holdsF, lookF, lookV, List.map_cons, List.map_nil, List.headD_cons, List.getD_cons_zero, List.getD_cons_succ, Nat.reduceEqDiff, Nat.reduceAdd, ↓reduceIte, and_true] at hk ⊢)
    skip
    go_simp
    (have hz := hb.size; refine (Be_any (size := 4) H4.out.1 H4.out.2 (by decide) (by decide)).mono ?_; rintro e w' ⟨v, rfl, ho, hb'⟩; exact ⟨v, rfl, ⟨hb', ho.base hz⟩, ho.block⟩)
  intro v6
  simp only [Act.put, List.setIfInBounds_toArray, List.set_cons_zero, List.set_cons_succ, Nat.reduceAdd]
  (try simp only [holdsF, lookF, lookV, List.map_cons, List.map_nil, List.headD_cons, List.getD_cons_zero, List.getD_cons_succ, Nat.reduceEqDiff, Nat.reduceAdd, ↓reduceIte, and_true])
  refine Flow.doneM_ (fun wr hb hk hap => ?_)
  obtain ⟨h6, h3, -⟩ := hk
  have hne : ∀ b, v6.ownBlock = some b → v3.ownBlock ≠ some b := by
    intro b h h2
    exact hap _ (List.mem_cons_of_mem _ List.mem_cons_self) _ List.mem_cons_self (by simp) rfl rfl b h2 h
  obtain ⟨q, c, rfl, hs6⟩ := h6.sl
  rw [be_length] at hs6 ⊢
  have H3 := Lib.hid h3; have H6 := Lib.hid hs6; have HN := Lib.hid hne; have HBr := Lib.hid hb
  clear h3 hs6 hne hb h6 hap f0 f1
  go_wp2_with (at_builtin; go_loud (refine wpList_append_Own (α := UInt8) rfl (.tmp 6) (.tmp 9) rfl Try.underlying37 (z := .int .u8 0) (bytes := 1) (by kernel_rfl) rfl (by decide) rfl rfl H3.out H6.out (fun b hb => by rcases hb with hb | hb; exact hb.elim; exact HN.out b hb.2) HBr.out.size (by simp) ?_); intro v' w' ho hg hat)
  go_ret
  have hz := HBr.out.size
  exact ⟨_, rfl, by unfold dotB; rw [be_one]; exact (ho.flat.base (by have := HWZ.out; omega)), ((below2 HBW.out HBr.out).grown hg (below2 HBW.out HBr.out).size (fun k hk => by have := (H3.out.block k hk).1; have := HWZ.out; omega))⟩

set_option maxRecDepth 100000 in
set_option maxHeartbeats 400000 in
theorem IntBytes_any {w : World} {x : Int} (h0 : -1152921504606846976 ≤ x) (h1 : x ≤ 1152921504606846976) :
    Calls Try.prog 102 #[.int .i64 x] w fun e w' => ∃ u, e = .returned u ∧ Own 5 w.heap.size noB w' u (intB x) ∧ Below w.heap.size w w' := by
  by_cases hx : x < 0
  · have hn : x.natAbs = -x := by omega
    have HL := Lib.hid (own_lit1 (w := w) (B := w.heap.size) (z := 1) (b := 1) rfl (Nat.le_refl _))
    have hB : ∀ W, Calls Try.prog 52 #[.int .i64 (-x), .int .i64 8] W fun e w' => ∃ v, e = .returned v ∧ Own 5 W.heap.size noB w' v (be x.natAbs 8) ∧ Below W.heap.size W w' := fun W => by
      have := Be_any (w := W) (x := -x) (size := 8) (by omega) (by omega) (by decide) (by decide)
      rw [← hn] at this ⊢
      exact this
    have HB := Lib.hid hB
    have HI := Lib.hid (show intB x = [1] ++ be x.natAbs 8 by unfold intB; rw [if_pos hx]; rfl)
    clear hB hn
    go_enter Try.func102, Try.ntmps102
    go_wp2_with fail
    refine (HB.out _).mono ?_
    rintro e w1 ⟨v1, rfl, ho1, hb1⟩
    obtain ⟨q, c, rfl, hs1⟩ := ho1.sl
    rw [be_length] at hs1 ⊢
    have HO := Lib.hid (HL.out.grow hb1); have HS := Lib.hid hs1; have HB1 := Lib.hid hb1
    clear ho1 hs1 hb1
    go_wp2_with (at_builtin; refine wpList_append_Own (α := UInt8) rfl (.tmp 5) (.tmp 8) rfl Try.underlying37 (z := .int .u8 0) (bytes := 1) (by kernel_rfl) rfl (by decide) rfl rfl HO.out HS.out (fun b hb e => by rcases hb with hb | hb; exact hb.elim; have := Option.some.inj (show some w.heap.size = some b from e); have := hb.1; simp at this; omega) (by have := HB1.out.size; simp at this; omega) (by decide) ?_; intro v' w' ho hg hat)
    go_ret
    rw [HI.out]
    exact ⟨_, rfl, ho.flat, (below2 (al1 _ _) HB1.out).grown hg (below2 (al1 _ _) HB1.out).size (fun k hk => Nat.le_of_eq (Option.some.inj hk))⟩
  · have hn : (x.natAbs : Int) = x := by omega
    have HL := Lib.hid (own_lit1 (w := w) (B := w.heap.size) (z := 0) (b := 0) rfl (Nat.le_refl _))
    have hB : ∀ W, Calls Try.prog 52 #[.int .i64 x, .int .i64 8] W fun e w' => ∃ v, e = .returned v ∧ Own 5 W.heap.size noB w' v (be x.natAbs 8) ∧ Below W.heap.size W w' := fun W => by
      have := Be_any (w := W) (x := x) (size := 8) (by omega) (by omega) (by decide) (by decide)
      rw [hn]
      exact this
    have HB := Lib.hid hB
    have HI := Lib.hid (show intB x = [0] ++ be x.natAbs 8 by unfold intB; rw [if_neg hx]; rfl)
    clear hB hn
    go_enter Try.func102, Try.ntmps102
    go_wp2_with fail
    refine (HB.out _).mono ?_
    rintro e w1 ⟨v1, rfl, ho1, hb1⟩
    obtain ⟨q, c, rfl, hs1⟩ := ho1.sl
    rw [be_length] at hs1 ⊢
    have HO := Lib.hid (HL.out.grow hb1); have HS := Lib.hid hs1; have HB1 := Lib.hid hb1
    clear ho1 hs1 hb1
    go_wp2_with (at_builtin; refine wpList_append_Own (α := UInt8) rfl (.tmp 10) (.tmp 12) rfl Try.underlying37 (z := .int .u8 0) (bytes := 1) (by kernel_rfl) rfl (by decide) rfl rfl HO.out HS.out (fun b hb e => by rcases hb with hb | hb; exact hb.elim; have := Option.some.inj (show some w.heap.size = some b from e); have := hb.1; simp at this; omega) (by have := HB1.out.size; simp at this; omega) (by decide) ?_; intro v' w' ho hg hat)
    go_ret
    rw [HI.out]
    exact ⟨_, rfl, ho.flat, (below2 (al1 _ _) HB1.out).grown hg (below2 (al1 _ _) HB1.out).size (fun k hk => Nat.le_of_eq (Option.some.inj hk))⟩

theorem ints_take {l : List Int} {k : Nat} (h : k < l.length) : intsB (l.take (k + 1)) = intsB (l.take k) ++ be (gt l k) 4 := by
  rw [take_snoc' h]; unfold intsB; rw [List.flatMap_append]; simp
theorem len_byte {n : Nat} (h : n ≤ 255) : IntKind.u8.wrap (n : Int) = ((byteAt (n : Int) 0).toNat : Int) := by
  rw [byteAt_int (by omega)]
  unfold IntKind.wrap
  simp [IntKind.bits, IntKind.signed]

set_option maxRecDepth 100000 in
set_option maxHeartbeats 400000 in
theorem VecBytes_any {F : Blks} {w : World} {p : Option Addr} {n c : Nat} {l : List Int} (h1 : Sl F w p n c l) (hf : NumsFit l) :
    Calls Try.prog 51 #[.slice p n c] w fun e w' => ∃ u, e = .returned u ∧ Own 5 w.heap.size noB w' u (numsB l) ∧ Below w.heap.size w w' := by
  have hln := h1.len
  have hn : n ≤ 5 := by have := hf.len; omega
  have H1 := Lib.hid h1; have HF := Lib.hid hf; have HL := Lib.hid hln
  have HZ := Lib.hid (len_byte (n := n) (by omega))
  clear h1 hf hln
  go_enter Try.func51, Try.ntmps51
  go_wp2
  go_loopw [3, 4] (fun v i wr => ∃ k : Nat, k ≤ n ∧ i = .int .i64 k ∧ Own 5 w.heap.size noB wr v ([byteAt (n : Int) 0] ++ intsB (l.take k)) ∧ Below w.heap.size w wr) (fun _ i _ => n - (intOf i).toNat)
  case atStart => exact ⟨0, Nat.zero_le _, rfl, by simpa [intsB] using own_lit1 (w := w) (B := w.heap.size) (by first | exact HZ.out | (have := HZ.out; rw [byteAt_int (by omega)] at *; simp at *; omega)) (Nat.le_refl _), al1 _ _⟩
  case round =>
    obtain ⟨k, hk, rfl, ho, hb⟩ := hrel
    have HO := Lib.hid ho; have HB := Lib.hid hb
    clear ho hb
    by_cases hlt : k < n
    · obtain ⟨b, o, rfl, _, _, e1, i1⟩ := (H1.out.grow HB.out).int hlt
      have hkl : k < l.length := by have := HL.out; omega
      have hfk := fits_pos (HF.out.all _ (List.mem_of_getElem? (gt_get hkl))) (by decide)
      go_wp2_with fail
      refine (Be_any (size := 4) hfk.1 hfk.2 (by decide) (by decide)).mono ?_
      rintro e w1 ⟨v1, rfl, ho1, hb1⟩
      obtain ⟨q, c1, rfl, hs1⟩ := ho1.sl
      rw [be_length] at hs1 ⊢
      have HO1 := Lib.hid (HO.out.grow hb1); have HS := Lib.hid hs1; have HB1 := Lib.hid (below2 HB.out hb1)
      have HN := Lib.hid (show ([byteAt (n : Int) 0] ++ intsB (l.take k)).length ≤ 100 by rw [List.length_append, intsB_len, List.length_take]; simp; omega)
      clear ho1 hs1 hb1 hfk e1
      go_wp2_with (at_builtin; refine wpList_append_Own (α := UInt8) rfl (.tmp 15) (.tmp 20) rfl Try.underlying37 (z := .int .u8 0) (bytes := 1) (by kernel_rfl) rfl (by decide) rfl rfl HO1.out HS.out (fun b hb e => by rcases hb with hb | hb; exact hb.elim; have := (HO.out.block _ e).2; have := hb.1; omega) HB1.out.size (by have := HN.out; omega) ?_; intro v' w' ho hg hat)
      go_roundw
      case rel => exact ⟨k + 1, by omega, by go_num, by rw [ints_take hkl, ← List.append_assoc]; exact ho.flat, HB1.out.grown hg HB1.out.size (fun b hb => (HO.out.block b hb).1)⟩
      case measure => simp [intOf]; omega
    · go_wp2
      go_ret
      have h2 := HO.out
      rw [List.take_of_length_le (by have := HL.out; omega)] at h2
      exact ⟨_, rfl, by unfold numsB; rw [be_one, HL.out]; exact h2, HB.out⟩

/-! ### up to three rows of bytes of a call's own, in three different blocks -/
def Apart (u v : Value) : Prop := ∀ b, u.ownBlock = some b → v.ownBlock ≠ some b
theorem Apart.nil_left (v : Value) : Apart (.slice none 0 0) v := fun b h => by cases h
theorem Apart.nil_right (v : Value) : Apart v (.slice none 0 0) := fun b _ h => by cases h
abbrev VB := Value × List UInt8
abbrev vb0 : VB := (.slice none 0 0, [])
structure R3 (w0 w : World) (a b c : VB) : Prop where
  below : Below w0.heap.size w0 w
  oa : Own 5 w0.heap.size noB w a.1 a.2
  ob : Own 5 w0.heap.size noB w b.1 b.2
  oc : Own 5 w0.heap.size noB w c.1 c.2
  ab : Apart a.1 b.1
  ac : Apart a.1 c.1
  bc : Apart b.1 c.1
section
variable {w0 w w' : World} {a b c : VB} {v : Value} {xs : List UInt8}
theorem R3.start (w : World) : R3 w w vb0 vb0 vb0 := ⟨Below.refl _ _, Own.nil _ _ _ _, Own.nil _ _ _ _, Own.nil _ _ _ _, Apart.nil_left _, Apart.nil_left _, Apart.nil_left _⟩
theorem R3.grow (h : R3 w0 w a b c) (hb : Below w.heap.size w w') : R3 w0 w' a b c := ⟨below2 h.below hb, h.oa.grow hb, h.ob.grow hb, h.oc.grow hb, h.ab, h.ac, h.bc⟩
theorem R3.drew (h : R3 w0 w a b c) : R3 w0 w.drew a b c := h.grow (below_drew (Below.refl _ _))
theorem apart_new {e : TypeId} {B : Nat} {u : Value} (ho : Own e B noB w u xs) {v : Value} {ys : List UInt8} (hv : Own e w.heap.size noB w' v ys) : Apart u v := fun b h1 h2 => by
  have := (ho.block b h1).2
  have := (hv.block b h2).1
  omega
theorem R3.setA (h : R3 w0 w a b c) (hb : Below w.heap.size w w') (ho : Own 5 w.heap.size noB w' v xs) : R3 w0 w' (v, xs) b c :=
  ⟨below2 h.below hb, ho.base h.below.size, h.ob.grow hb, h.oc.grow hb, fun b h1 h2 => apart_new h.ob ho b h2 h1, fun b h1 h2 => apart_new h.oc ho b h2 h1, h.bc⟩
theorem R3.setB (h : R3 w0 w a b c) (hb : Below w.heap.size w w') (ho : Own 5 w.heap.size noB w' v xs) : R3 w0 w' a (v, xs) c :=
  ⟨below2 h.below hb, h.oa.grow hb, ho.base h.below.size, h.oc.grow hb, apart_new h.oa ho, h.ac, fun b h1 h2 => apart_new h.oc ho b h2 h1⟩
theorem R3.setC (h : R3 w0 w a b c) (hb : Below w.heap.size w w') (ho : Own 5 w.heap.size noB w' v xs) : R3 w0 w' a b (v, xs) :=
  ⟨below2 h.below hb, h.oa.grow hb, h.ob.grow hb, ho.base h.below.size, h.ab, apart_new h.oa ho, apart_new h.ob ho⟩
/-- The first row has grown by the second one, or the third. -/
theorem R3.ate (h : R3 w0 w a b c) (hg : w.grownBy w' a.1.ownBlock) (ho : Own 5 w0.heap.size noB w' v xs) (hat : v.ownBlock = a.1.ownBlock ∨ v.ownBlock = some w.heap.size) : R3 w0 w' (v, xs) b c := by
  have keep : ∀ {u : Value} {ys : List UInt8}, Own 5 w0.heap.size noB w u ys → Apart a.1 u → Own 5 w0.heap.size noB w' u ys := fun hu ha =>
    hu.keep (fun b hb => hb.elim) fun k hk => hg.block k (hu.block k hk).2 fun e => ha k e.symm hk
  have ap : ∀ {u : Value} {ys : List UInt8}, Own 5 w0.heap.size noB w u ys → Apart a.1 u → Apart v u := fun hu ha k h1 h2 => by
    rcases hat with e | e
    · exact ha k (e ▸ h1) h2
    · rw [e] at h1
      have := Option.some.inj h1
      have := (hu.block k h2).2
      omega
  exact ⟨h.below.grown hg h.below.size (fun k hk => (h.oa.block k hk).1), ho, keep h.ob h.ab, keep h.oc h.ac, ap h.ob h.ab, ap h.oc h.ac, h.bc⟩
/-- A row as what is appended. -/
theorem Own.hand {e : TypeId} {B : Nat} (h : Own e B noB w v xs) : ∃ p c, v = .slice p xs.length c ∧ Sl (fun b => v.ownBlock = some b) w p xs.length c xs := by
  obtain ⟨p, c, hv, hs⟩ := h.sl
  exact ⟨p, c, hv, hs.mono fun b hb => by rcases hb with hb | hb; exact hb.elim; exact hb.2⟩
theorem R3.swap (h : R3 w0 w a b c) : R3 w0 w a c b := ⟨h.below, h.oa, h.oc, h.ob, h.ac, h.ab, fun k h1 h2 => h.bc k h2 h1⟩
theorem R3.rot (h : R3 w0 w a b c) : R3 w0 w b a c := ⟨h.below, h.ob, h.oa, h.oc, fun k h1 h2 => h.ab k h2 h1, h.bc, h.ac⟩
theorem R3.drop (h : R3 w0 w a b c) : R3 w0 w a vb0 vb0 := ⟨h.below, h.oa, Own.nil _ _ _ _, Own.nil _ _ _ _, Apart.nil_right _, Apart.nil_right _, Apart.nil_right _⟩
theorem R3.litA {z : Int} {t : UInt8} (h : R3 w0 w a b c) (hz : z = (t.toNat : Int)) : R3 w0 (w.alloc (.cells #[.int .u8 z] 5)) (.slice (some ⟨w.heap.size, 0, none⟩) 1 1, [t]) b c :=
  h.setA (al1 _ _) (own_lit1 hz (Nat.le_refl _))
theorem R3.litC {z : Int} {t : UInt8} (h : R3 w0 w a b c) (hz : z = (t.toNat : Int)) : R3 w0 (w.alloc (.cells #[.int .u8 z] 5)) a b (.slice (some ⟨w.heap.size, 0, none⟩) 1 1, [t]) :=
  h.setC (al1 _ _) (own_lit1 hz (Nat.le_refl _))
variable {ops : Array Oper} {rest : List Oper} {o : Oper} {ac : Act} {K : Act → World → Prop} {Q : Exit → Act → World → Prop} {E : Prop} {va vb : Value} {ys : List UInt8}
theorem step_eatB (hgd : o.guard = none) (s x : Operand) (ho : o.op = .call { callee := .builtin .append, args := #[s, x], argTypes := #[37, 37] }) (hs : ac.eval s = va) (hx : ac.eval x = vb)
    (h : R3 w0 w (va, xs) (vb, ys) c) (hl : xs.length + ys.length ≤ 140737488355328) (Kk : ∀ v' w', R3 w0 w' (v', xs ++ ys) (vb, ys) c → K (ac.put o.dst v') w') :
    if Region.wanted o (yielded ops ac.tmps) = true then Oper.wp Try.prog o ac w K Q else E := by
  obtain ⟨p, n, hv, hs'⟩ := h.ob.hand
  exact step_append_Own (α := UInt8) hgd s x ho Try.underlying37 (z := .int .u8 0) (bytes := 1) (by kernel_rfl) rfl (by decide) hs (hx.trans hv) h.oa hs' (fun b hb e => h.ab b e hb) h.below.size (by show (xs.length + ys.length) * 1 ≤ _; omega) fun v' w' h1 h2 h3 => Kk _ _ (h.ate h2 h1.flat h3)
theorem step_eatC (hgd : o.guard = none) (s x : Operand) (ho : o.op = .call { callee := .builtin .append, args := #[s, x], argTypes := #[37, 37] }) (hs : ac.eval s = va) (hx : ac.eval x = vb)
    (h : R3 w0 w (va, xs) c (vb, ys)) (hl : xs.length + ys.length ≤ 140737488355328) (Kk : ∀ v' w', R3 w0 w' (v', xs ++ ys) c (vb, ys) → K (ac.put o.dst v') w') :
    if Region.wanted o (yielded ops ac.tmps) = true then Oper.wp Try.prog o ac w K Q else E :=
  step_eatB hgd s x ho hs hx h.swap hl fun v' w' h' => Kk v' w' h'.swap
theorem step_eatS {u : TypeId} (hgd : o.guard = none) (s x : Operand) (ho : o.op = .call { callee := .builtin .append, args := #[s, x], argTypes := #[37, u] }) (hu : Try.prog.underlying u = some .string) (hs : ac.eval s = va) {t : ByteArray} (hx : ac.eval x = .string t)
    (h : R3 w0 w (va, xs) b c) (hl : xs.length + t.size ≤ 140737488355328) (Kk : ∀ v' w', R3 w0 w' (v', xs ++ t.data.toList) vb0 vb0 → K (ac.put o.dst v') w') :
    if Region.wanted o (yielded ops ac.tmps) = true then Oper.wp Try.prog o ac w K Q else E := by
  have hw : Region.wanted o (yielded ops ac.tmps) = true := by simp [Region.wanted, hgd]
  rw [if_pos hw]
  obtain ⟨i0, hi, hzz⟩ := Option.map_eq_some_iff.1 (show (Try.prog.info? 5).map (fun i => (i.zero, i.size, i.bytes)) = some (some (.int .u8 0), 1, 1) by kernel_rfl)
  simp only [Prod.mk.injEq] at hzz
  obtain ⟨v', w', hr, h1, h2, -⟩ := Lib.run_append_own_string (P := Try.prog) w w0.heap.size 37 u o.type 5 i0 Try.underlying37 hu hi hzz.1 hzz.2.1 hzz.2.2 va xs.length _ (own_bytes.1 h.oa) t (by unfold maxLen; omega) hl h.below.size
  unfold Oper.wp execOp
  simp only [ho, resolve, invoke, builtin, Sem.run_bind, Sem.run_pure, Result.andThen_ok, List.map_toArray, List.map_cons, List.map_nil, hs, hx, hr]
  refine Kk _ _ ⟨h.below.grown h2 h.below.size (fun k hk => (h.oa.block k hk).1), own_bytes.2 ?_, Own.nil _ _ _ _, Own.nil _ _ _ _, Apart.nil_right _, Apart.nil_right _, Apart.nil_right _⟩
  have e : (xs ++ t.data.toList).map byteVal = xs.map byteVal ++ Lib.strCells t := by rw [List.map_append]; rfl
  rw [e, List.length_append]
  exact h1
theorem wpList_eatB (hgd : o.guard = none) (s x : Operand) (ho : o.op = .call { callee := .builtin .append, args := #[s, x], argTypes := #[37, 37] }) (hs : ac.eval s = va) (hx : ac.eval x = vb)
    (h : R3 w0 w (va, xs) (vb, ys) c) (hl : xs.length + ys.length ≤ 140737488355328) (Kk : ∀ v' w', R3 w0 w' (v', xs ++ ys) (vb, ys) c → wpList Try.prog ops Q rest (ac.put o.dst v') w') :
    wpList Try.prog ops Q (o :: rest) ac w := by
  obtain ⟨p, n, hv, hs'⟩ := h.ob.hand
  exact wpList_append_Own (α := UInt8) hgd s x ho Try.underlying37 (z := .int .u8 0) (bytes := 1) (by kernel_rfl) rfl (by decide) hs (hx.trans hv) h.oa hs' (fun b hb e => h.ab b e hb) h.below.size (by show (xs.length + ys.length) * 1 ≤ _; omega) fun v' w' h1 h2 h3 => Kk _ _ (h.ate h2 h1.flat h3)
theorem wpList_eatC (hgd : o.guard = none) (s x : Operand) (ho : o.op = .call { callee := .builtin .append, args := #[s, x], argTypes := #[37, 37] }) (hs : ac.eval s = va) (hx : ac.eval x = vb)
    (h : R3 w0 w (va, xs) c (vb, ys)) (hl : xs.length + ys.length ≤ 140737488355328) (Kk : ∀ v' w', R3 w0 w' (v', xs ++ ys) c (vb, ys) → wpList Try.prog ops Q rest (ac.put o.dst v') w') :
    wpList Try.prog ops Q (o :: rest) ac w :=
  wpList_eatB hgd s x ho hs hx h.swap hl fun v' w' h' => Kk v' w' h'.swap
end

set_option maxRecDepth 100000 in
set_option maxHeartbeats 1000000 in
theorem StampBytes_any {F : Blks} {w : World} {v : Value} {d : Stamp} (hv : vr F w v d) (hf : StampFits d) :
    Calls Try.prog 78 #[v] w fun e w' => ∃ u, e = .returned u ∧ Own 5 w.heap.size noB w' u (stampB d) ∧ Below w.heap.size w w' := by
  obtain ⟨rfl, hi⟩ := hv
  have HB := Lib.hid (u8_byte hf.peer); have H6 := Lib.hid (fits_pos hf.phys (by decide)); have H3 := Lib.hid (fits_pos hf.logic (by decide))
  have hp := u8_byte hf.peer
  have hp0 := fits_pos hf.peer (by decide)
  have hw : IntKind.u8.wrap d.peer = d.peer := by have := hp.1; have := hp.2; unfold IntKind.wrap; simp [IntKind.bits, IntKind.signed]; omega
  clear hp hp0
  obtain ⟨W, hW⟩ : ∃ W, W = w.alloc (.cells #[.int .i64 d.phys, .int .i64 d.logic, .int .i64 d.peer] 72) := ⟨_, rfl⟩
  have hbW : Below w.heap.size w W := by rw [hW]; exact al1 _ _
  have hWz : W.heap.size = w.heap.size + 1 := by rw [hW]; simp
  have hWx : W.heap[w.heap.size]? = some (.cells #[.int .i64 d.phys, .int .i64 d.logic, .int .i64 d.peer] 72 (0, 0)) := by rw [hW]; exact heap_alloc_new _ _
  have Be6 : ∀ W, Calls Try.prog 52 #[.int .i64 d.phys, .int .i64 6] W fun e w' => ∃ v, e = .returned v ∧ Own 5 W.heap.size noB w' v (be d.phys 6) ∧ Below W.heap.size W w' := fun W => by
    have := Be_any (w := W) (x := d.phys) (size := 6) H6.out.1 H6.out.2 (by decide) (by decide)
    exact this
  have Be3 : ∀ W, Calls Try.prog 52 #[.int .i64 d.logic, .int .i64 3] W fun e w' => ∃ v, e = .returned v ∧ Own 5 W.heap.size noB w' v (be d.logic 3) ∧ Below W.heap.size W w' := fun W => by
    have := Be_any (w := W) (x := d.logic) (size := 3) H3.out.1 H3.out.2 (by decide) (by decide)
    exact this
  have HBe6 := Lib.hid Be6; have HBe3 := Lib.hid Be3
  clear Be6 Be3
  have HS : ∀ w', Below W.heap.size W w' → w'.cell? ⟨w.heap.size, 0, none⟩ = some (.int .i64 d.phys) ∧ w'.cell? ⟨w.heap.size, 1, none⟩ = some (.int .i64 d.logic) ∧ w'.cell? ⟨w.heap.size, 2, none⟩ = some (.int .i64 d.peer) := fun w' h => ⟨cell_later h (heap_cell hWx), cell_later h (heap_cell hWx), cell_later h (heap_cell hWx)⟩
  have HS := Lib.hid HS
  have HI := Lib.hid (R3.start W).drew; have HBW := Lib.hid hbW; have HWZ := Lib.hid hWz
  clear hbW hWz hWx
  go_enter Try.func78, Try.ntmps78
  go_wp2
  rw [← hW]
  clear hW
  go_region_held3 (fun w' => w'.cell? ⟨w.heap.size, 0, none⟩ = some (.int .i64 d.phys) ∧ w'.cell? ⟨w.heap.size, 1, none⟩ = some (.int .i64 d.logic) ∧ w'.cell? ⟨w.heap.size, 2, none⟩ = some (.int .i64 d.peer)) (first | exact HS.out _ HI.out.below | exact HS.out _ (HI.out.litC HB.out.2).below) (first
    | (refine step_eatB rfl (.tmp 5) (.tmp 8) rfl rfl rfl (by first | exact HI.out | exact HI.out.litC HB.out.2) (by rw [be_length, be_length]; decide) ?_; intro v' w' h'; have HI := Lib.hid h'; clear h')
    | (go_at_call 52; ((with_reducible refine (HBe6.out _).mono ?_); rintro e w2 ⟨v2, rfl, ho2, hb2⟩; (first | have HI := Lib.hid (HI.out.setA hb2 ho2) | have HI := Lib.hid ((HI.out.litC HB.out.2).setA hb2 ho2)); clear ho2 hb2))
    | (go_at_call 52; ((with_reducible refine (HBe3.out _).mono ?_); rintro e w2 ⟨v2, rfl, ho2, hb2⟩; (first | have HI := Lib.hid (HI.out.setB hb2 ho2) | have HI := Lib.hid ((HI.out.litC HB.out.2).setB hb2 ho2)); clear ho2 hb2))
    | (refine step_eatC rfl (.tmp 9) (.tmp 13) rfl rfl rfl (by first | exact HI.out | exact HI.out.litC HB.out.2) (by simp [be_length]) ?_; intro v' w' h'; have HI := Lib.hid h'; clear h'))
  all_goals (go_wp2; go_ret; exact ⟨_, rfl, by unfold stampB; rw [be_one, ← List.append_assoc]; exact HI.out.oa.base (by have := HWZ.out; omega), below2 HBW.out HI.out.below⟩)

theorem valB1 {i : Int} {t : ByteArray} : valB ⟨1, i, t⟩ = [1] := by unfold valB; simp; decide
theorem valB2 {i : Int} {t : ByteArray} : valB ⟨2, i, t⟩ = [2] ++ [byteAt i 0] := by unfold valB; simp; decide
theorem valB3 {i : Int} {t : ByteArray} : valB ⟨3, i, t⟩ = [3] ++ intB i := by unfold valB; simp; decide
theorem valB4 {i : Int} {t : ByteArray} : valB ⟨4, i, t⟩ = [4] ++ [byteAt t.size 0] ++ t.data.toList := by
  have e : byteAt (t.size : Int) 0 = UInt8.ofNat t.size := by
    unfold byteAt
    apply UInt8.toNat_inj.1
    simp
  rw [e]
  unfold valB textB
  simp
  decide

set_option maxRecDepth 100000 in
set_option maxHeartbeats 1000000 in
theorem RefValue {w : World} {k i : Int} {t : ByteArray} (hk : (k = 1 ∨ k = 2 ∨ k = 3 ∨ k = 4)) (h2 : k = 2 → i = 0 ∨ i = 1) (h3 : -1152921504606846976 ≤ i ∧ i ≤ 1152921504606846976) (h4 : t.size ≤ 24) :
    Calls Try.prog 94 #[.agg #[.int .i64 k, .int .i64 i, .string t]] w fun e w' => ∃ u, e = .returned u ∧ Own 5 w.heap.size noB w' u (valB ⟨k, i, t⟩) ∧ Below w.heap.size w w' := by
  have hb0 : Below w.heap.size w (w.alloc (.cells #[.int .i64 k, .int .i64 i, .string t] 127)) := al1 _ _
  have hWx : (w.alloc (.cells #[.int .i64 k, .int .i64 i, .string t] 127)).heap[w.heap.size]? = some (.cells #[.int .i64 k, .int .i64 i, .string t] 127 (0, 0)) := heap_alloc_new _ _
  have HS := Lib.hid (show ∀ w', Below (w.alloc (.cells #[.int .i64 k, .int .i64 i, .string t] 127)).heap.size (w.alloc (.cells #[.int .i64 k, .int .i64 i, .string t] 127)) w' → w'.cell? ⟨w.heap.size, 2, none⟩ = some (.string t) from fun w' h => cell_later h (heap_cell hWx))
  have HI0 : ∀ {z : Int} {b : UInt8}, z = (b.toNat : Int) → R3 (w.alloc (.cells #[.int .i64 k, .int .i64 i, .string t] 127)) ((w.alloc (.cells #[.int .i64 k, .int .i64 i, .string t] 127)).alloc (.cells #[.int .u8 z] 5)) (.slice (some ⟨w.heap.size + 1, 0, none⟩) 1 1, [b]) vb0 vb0 := fun hz => by
    have := (R3.start (w.alloc (.cells #[.int .i64 k, .int .i64 i, .string t] 127))).litA hz
    rw [World.size_alloc] at this
    exact this
  have HB0 := Lib.hid hb0
  have H2 := Lib.hid h2; have H3 := Lib.hid h3
  have hln : IntKind.u8.wrap (t.size : Int) = (t.size : Int) := by unfold IntKind.wrap; simp [IntKind.bits, IntKind.signed]; omega
  have HT := Lib.hid (show (t.size : Int) = (((byteAt (t.size : Int) 0).toNat : Nat) : Int) by rw [byteAt_int (by omega)]; simp; omega)
  have H4 := Lib.hid h4
  clear h2 h3 h4 hb0 hWx
  rcases hk with rfl | rfl | rfl | rfl
  · have HI := Lib.hid (HI0 (z := 1) (b := 1) rfl)
    go_enter Try.func94, Try.ntmps94
    go_wp2
    go_ret
    exact ⟨_, rfl, by rw [valB1]; exact HI.out.oa.base (by simp), below2 HB0.out HI.out.below⟩
  · have HI := Lib.hid (HI0 (z := 2) (b := 2) rfl)
    have hbt : i = (((byteAt i 0).toNat : Nat) : Int) := by have := H2.out rfl; rw [byteAt_int (by omega)]; simp; omega
    have hw : IntKind.u8.wrap i = i := by have := H2.out rfl; unfold IntKind.wrap; simp [IntKind.bits, IntKind.signed]; omega
    have HB := Lib.hid hbt
    clear hbt HI0
    have HC := HI.out.litC HB.out
    simp only [World.size_alloc] at HC
    have HC := Lib.hid HC
    go_enter Try.func94, Try.ntmps94
    go_wp2_with (at_builtin; (refine wpList_eatC rfl (.tmp 12) (.tmp 16) rfl rfl rfl HC.out (by simp) ?_); intro v' w' h')
    go_ret
    exact ⟨_, rfl, by rw [valB2]; exact h'.oa.base (by simp), below2 HB0.out h'.below⟩
  · have HI := Lib.hid (HI0 (z := 3) (b := 3) rfl)
    clear HI0
    go_enter Try.func94, Try.ntmps94
    go_wp2_with (first
      | (go_at_call 102; (refine (IntBytes_any H3.out.1 H3.out.2).mono ?_; rintro e w1 ⟨v1, rfl, ho1, hb1⟩; have HI := Lib.hid (HI.out.setC hb1 ho1); clear ho1 hb1))
      | (at_builtin; (refine wpList_eatC rfl (.tmp 20) (.tmp 23) rfl rfl rfl HI.out (by simp [intB, be_length]) ?_); intro v' w' h'; have HI := Lib.hid h'; clear h'))
    go_ret
    exact ⟨_, rfl, by rw [valB3]; exact HI.out.oa.base (by simp), below2 HB0.out HI.out.below⟩
  · have HI := Lib.hid (HI0 (z := 4) (b := 4) rfl)
    clear HI0
    have HI := Lib.hid HI.out.drew
    have HC := HI.out.litC HT.out
    simp only [World.size_alloc, World.size_drew] at HC
    have HC := Lib.hid HC
    go_enter Try.func94, Try.ntmps94
    go_wp2
    go_region_held3? (fun w' => w'.cell? ⟨w.heap.size, 2, none⟩ = some (.string t)) (first | exact (HS.out _ HI.out.below) | exact (HS.out _ HC.out.below)) (first
      | (refine step_eatS rfl (.tmp 33) (.tmp 35) rfl Try.underlying9 rfl rfl HI.out (by have := H4.out; simp; omega) ?_; intro v' w' h'; have HI := Lib.hid h'; clear h')
      | (refine step_eatC rfl (.tmp 27) (.tmp 32) rfl rfl rfl HC.out (by simp) ?_; intro v' w' h'; have HI := Lib.hid h'; clear h'))
    all_goals (go_wp2; go_ret; exact ⟨_, rfl, by rw [valB4]; exact HI.out.oa.base (by simp), below2 HB0.out HI.out.below⟩)
end Go.Proofs.Ytpmdkmpmpjdglaa
