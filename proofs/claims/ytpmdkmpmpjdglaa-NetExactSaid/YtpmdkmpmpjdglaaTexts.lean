/- wire.PutText, wire.PutInt, value.Bytes, row.Bytes, and the Writer's Text and Op. -/
import Derived.Test.YtpmdkmpmpjdglaaValue
import Derived.Test.YtpmdkmpmpjdglaaMsg
set_option linter.unusedSimpArgs false
set_option linter.unusedVariables false
namespace Go.Proofs.Ytpmdkmpmpjdglaa
open Go Go.RowKit
open Rep (vr)

set_option maxRecDepth 100000 in
set_option maxHeartbeats 400000 in
theorem PutText_ok {F : Blks} {p : Option Addr} {n c : Nat} {bs : List UInt8} {w : World} {s : ByteArray} (h1 : Sl F w p n c bs) (hn : n ≤ 1000000000) (hs : s.size ≤ 24) :
    Calls Try.prog 86 #[.slice p n c, .string s] w fun e w' => ∃ v, e = .returned (.tuple #[v, .int .i64 0]) ∧ Own 5 w.heap.size noB w' v (bs ++ textB s) ∧ Below w.heap.size w w' := by
  have hz : ((s.size : Nat) : Int) = (((UInt8.ofNat s.size).toNat : Nat) : Int) := by rw [UInt8.toNat_ofNat']; omega
  have hlen := h1.len
  have H1 := Lib.hid h1; have HL := Lib.hid hlen; have HZ := Lib.hid hz
  clear h1 hlen hz
  go_enter Try.func86, Try.ntmps86
  go_wp2_with fail
  refine (CloneBytes H1.out (by omega)).mono ?_
  rintro e w1 ⟨v1, rfl, ho, hb⟩
  have HO := Lib.hid (ho.flat (G := noB)); have HB := Lib.hid hb
  have hz := hb.size
  clear ho hb
  go_wp2_with (at_builtin; first
    | (refine wpList_append_Own (α := UInt8) rfl (.tmp 10) (.tmp 14) rfl Try.underlying37 (z := .int .u8 0) (bytes := 1) (by kernel_rfl) rfl (by decide) rfl rfl (HO.out.alloc _) (sl_byte (F := fun b => b = w1.heap.size) HZ.out rfl) (fun b hb e => absurd (HO.out.block _ e).2 (by rw [hb]; omega)) (by simp; omega) (by rw [HL.out]; omega) ?_; intro v2 w2 ho2 hg2 hat2; have HO2 := Lib.hid (ho2.flat (G := noB)); have HB2 := Lib.hid ((HB.out.alloc hz _).grown hg2 (by simp; omega) (fun k hk => (HO.out.block k hk).1)); have hz2 := HB2.out.size; clear ho2 hg2 hat2)
    | (refine wpList_append_str rfl (.tmp 15) (.tmp 16) rfl Try.underlying37 Try.underlying9 (by kernel_rfl) rfl HO2.out s rfl (by have := HL.out; simp; omega) hz2 ?_; intro v3 w3 ho3 hg3; have HO3 := Lib.hid ho3; have HB3 := Lib.hid (HB2.out.grown hg3 hz2 (fun k hk => (HO2.out.block k hk).1)); clear ho3 hg3))
  go_ret2
  exact ⟨_, rfl, by have := HO3.out; rw [List.append_assoc] at this; exact this, HB3.out⟩
set_option maxRecDepth 100000 in
set_option maxHeartbeats 400000 in
theorem PutText_bad {p : Option Addr} {n c : Nat} {w : World} {s : ByteArray} (hs : ¬ s.size ≤ 24) :
    Calls Try.prog 86 #[.slice p n c, .string s] w fun e w' => e = .returned (.tuple #[.slice none 0 0, .int .i64 2]) ∧ Below w.heap.size w w' := by
  have h : decide ((24 : Int) < ((s.size : Nat) : Int)) = true := by simp; omega
  go_enter Try.func86, Try.ntmps86
  go_wp2
  go_ret2
  exact ⟨rfl, Below.refl _ _⟩

set_option maxRecDepth 100000 in
set_option maxHeartbeats 400000 in
theorem WText {X : Blks} {w : World} {g : Nat} {s : WS} {x : ByteArray} (h : Wr X w g s.1 s.2) (hl : s.1.length ≤ 900000000) :
    Calls Try.prog 62 #[.pointer (some ⟨g, 0, none⟩), .string x] w fun e w' => e = .returned (.tuple #[]) ∧ Wr X w' g (wText s x).1 (wText s x).2 ∧ Mod X w w' := by
  by_cases hx : x.size ≤ 24
  · have hw : wText s x = (s.1 ++ textB x, s.2) := by unfold wText; rw [if_pos hx]
    rw [hw]
    have HP := Lib.hid (PutText_ok (F := noB) (w := w) (Sl.nil noB w none 0 (by simp [maxLen])) (by omega) hx)
    clear hw
    go_enter Try.func62, Try.ntmps62
    go_wp2_with fail
    refine HP.out.mono ?_
    rintro e w1 ⟨v1, rfl, ho, hb⟩
    obtain ⟨q, d, rfl, hW, hs⟩ := own_arg h hb ho
    clear ho
    go_wp2_with fail
    refine (add_any (eb := false) hW hs (fun b hb => .inr hb) (by decide) (by simp [textB_len]; omega)).mono ?_
    rintro e w2 ⟨rfl, hW2, hM⟩
    go_wp2
    go_end0
    refine ⟨rfl, ?_, (Mod.of_below hb h.old).trans (hM.mono fun b hb => .inl hb)⟩
    have := hW2.less (Y := X) fun b hb => .inl hb
    simpa using this
  · have hw : wText s x = (s.1, true) := by unfold wText; rw [if_neg hx]
    rw [hw]
    have HP := Lib.hid (PutText_bad (p := none) (n := 0) (c := 0) (w := w) hx)
    clear hw
    go_enter Try.func62, Try.ntmps62
    go_wp2_with fail
    refine HP.out.mono ?_
    rintro e w1 ⟨rfl, hb⟩
    go_wp2_with fail
    refine (add_any (eb := true) (ys := []) (h.grow hb) (Sl.nil X w1 none 0 (by simp [maxLen])) (fun b hb => hb) (by decide) (by omega)).mono ?_
    rintro e w2 ⟨rfl, hW2, hM⟩
    go_wp2
    go_end0
    exact ⟨rfl, by simpa using hW2, (Mod.of_below hb h.old).trans hM⟩

set_option maxRecDepth 100000 in
set_option maxHeartbeats 400000 in
theorem PutInt_pos {F : Blks} {p : Option Addr} {n c : Nat} {bs : List UInt8} {w : World} {x : Int} (h1 : Sl F w p n c bs) (hn : n ≤ 1000000) (hlo : -1152921504606846976 ≤ x) (hhi : x ≤ 1152921504606846976) (hx : 0 ≤ x) :
    Calls Try.prog 99 #[.slice p n c, .int .i64 x] w fun e w' => ∃ v, e = .returned (.tuple #[v, .int .i64 0]) ∧ Own 5 w.heap.size noB w' v (bs ++ intB x) ∧ Below w.heap.size w w' := by
  have hib : intB x = 0 :: be x 8 := by unfold intB; rw [if_neg (by omega)]; congr 1; congr 1; omega
  have hab : (bs ++ [(0 : UInt8)]) ++ be x 8 = bs ++ intB x := by rw [hib]; simp
  have hlen := h1.len
  have d1 : decide (x < -1152921504606846976) = false := by simp; omega
  have d2 : decide (1152921504606846976 < x) = false := by simp; omega
  have d3 : decide (x < 0) = false := by simp; omega
  have hneg : IntKind.i64.wrap (-x) = -x := IntWalk.i64_in _ (by omega)
  have H1 := Lib.hid h1; have HL := Lib.hid hlen; have HA := Lib.hid hab
  clear h1 hlen hab hib
  go_enter Try.func99, Try.ntmps99
  go_wp2_with fail
  refine (CloneBytes H1.out (by omega)).mono ?_
  rintro e w1 ⟨v1, rfl, ho, hb⟩
  have HO := Lib.hid (ho.flat (G := noB)); have HB := Lib.hid hb
  have hz := hb.size
  clear ho hb
  go_wp2_with (at_builtin; refine wpList_append_Own (α := UInt8) rfl (.tmp 18) (.tmp 20) rfl Try.underlying37 (z := .int .u8 0) (bytes := 1) (by kernel_rfl) rfl (by decide) rfl rfl (HO.out.alloc _) (sl_byte (b := 0) (F := fun b => b = w1.heap.size) rfl rfl) (fun b hb e => absurd (HO.out.block _ e).2 (by rw [hb]; omega)) (by simp; omega) (by rw [HL.out]; omega) ?_; intro v2 w2 ho2 hg2 hat2; have HO2 := Lib.hid (ho2.flat (G := noB)); have HB2 := Lib.hid ((HB.out.alloc hz _).grown hg2 (by simp; omega) (fun k hk => (HO.out.block k hk).1)); have hz2 := HB2.out.size; clear ho2 hg2 hat2; obtain ⟨q2, c2, hv2, -⟩ := HO2.out.sl; subst hv2)
  obtain ⟨q3, c3, hv3, hs3⟩ := HO2.out.sl
  injection hv3 with e1 e2 e3
  subst e1 e3
  rw [show (bs ++ [(0 : UInt8)]).length = bs.length + 1 by simp] at hs3
  refine (big_any (size := 8) hs3 (by omega) (by omega) (by decide) (by decide) (by have := HL.out; omega)).mono ?_
  rintro e w3 ⟨v3, rfl, ho3, hb3⟩
  have HO3 := Lib.hid (ho3.base hz2); have HB3 := Lib.hid (below2 HB2.out hb3)
  clear ho3 hb3 hs3
  go_wp2
  go_ret2
  exact ⟨_, rfl, by have := HO3.out; rw [HA.out] at this; exact this, HB3.out⟩

set_option maxRecDepth 100000 in
set_option maxHeartbeats 400000 in
theorem PutInt_neg {F : Blks} {p : Option Addr} {n c : Nat} {bs : List UInt8} {w : World} {x : Int} (h1 : Sl F w p n c bs) (hn : n ≤ 1000000) (hlo : -1152921504606846976 ≤ x) (hhi : x ≤ 1152921504606846976) (hx : x < 0) :
    Calls Try.prog 99 #[.slice p n c, .int .i64 x] w fun e w' => ∃ v, e = .returned (.tuple #[v, .int .i64 0]) ∧ Own 5 w.heap.size noB w' v (bs ++ intB x) ∧ Below w.heap.size w w' := by
  have hib : intB x = 1 :: be (-x) 8 := by unfold intB; rw [if_pos hx]; congr 1; congr 1; omega
  have hab : (bs ++ [(1 : UInt8)]) ++ be (-x) 8 = bs ++ intB x := by rw [hib]; simp
  have hlen := h1.len
  have d1 : decide (x < -1152921504606846976) = false := by simp; omega
  have d2 : decide (1152921504606846976 < x) = false := by simp; omega
  have d3 : decide (x < 0) = true := by simp; omega
  have hneg : IntKind.i64.wrap (-x) = -x := IntWalk.i64_in _ (by omega)
  have H1 := Lib.hid h1; have HL := Lib.hid hlen; have HA := Lib.hid hab
  clear h1 hlen hab hib
  go_enter Try.func99, Try.ntmps99
  go_wp2_with fail
  refine (CloneBytes H1.out (by omega)).mono ?_
  rintro e w1 ⟨v1, rfl, ho, hb⟩
  have HO := Lib.hid (ho.flat (G := noB)); have HB := Lib.hid hb
  have hz := hb.size
  clear ho hb
  go_wp2_with (at_builtin; refine wpList_append_Own (α := UInt8) rfl (.tmp 18) (.tmp 20) rfl Try.underlying37 (z := .int .u8 0) (bytes := 1) (by kernel_rfl) rfl (by decide) rfl rfl (HO.out.alloc _) (sl_byte (b := 1) (F := fun b => b = w1.heap.size) rfl rfl) (fun b hb e => absurd (HO.out.block _ e).2 (by rw [hb]; omega)) (by simp; omega) (by rw [HL.out]; omega) ?_; intro v2 w2 ho2 hg2 hat2; have HO2 := Lib.hid (ho2.flat (G := noB)); have HB2 := Lib.hid ((HB.out.alloc hz _).grown hg2 (by simp; omega) (fun k hk => (HO.out.block k hk).1)); have hz2 := HB2.out.size; clear ho2 hg2 hat2; obtain ⟨q2, c2, hv2, -⟩ := HO2.out.sl; subst hv2)
  obtain ⟨q3, c3, hv3, hs3⟩ := HO2.out.sl
  injection hv3 with e1 e2 e3
  subst e1 e3
  rw [show (bs ++ [(1 : UInt8)]).length = bs.length + 1 by simp] at hs3
  refine (big_any (size := 8) hs3 (by omega) (by omega) (by decide) (by decide) (by have := HL.out; omega)).mono ?_
  rintro e w3 ⟨v3, rfl, ho3, hb3⟩
  have HO3 := Lib.hid (ho3.base hz2); have HB3 := Lib.hid (below2 HB2.out hb3)
  clear ho3 hb3 hs3
  go_wp2
  go_ret2
  exact ⟨_, rfl, by have := HO3.out; rw [HA.out] at this; exact this, HB3.out⟩
end Go.Proofs.Ytpmdkmpmpjdglaa
