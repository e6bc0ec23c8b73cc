/- op's Reader at what a Writer wrote. -/
import Derived.Test.YtpmdkmpmpjdglaaBack
set_option linter.unusedSimpArgs false
set_option linter.unusedVariables false
namespace Go.Proofs.Ytpmdkmpmpjdglaa
open Go Go.RowKit
open Rep (vr)

/-- At place a of bs stands l. -/
def Here (bs : List UInt8) (a : Nat) (l : List UInt8) : Prop := ∃ rest, bs.drop a = l ++ rest
theorem Here.fst {bs l m : List UInt8} {a : Nat} (h : Here bs a (l ++ m)) : Here bs a l := by
  obtain ⟨r, hr⟩ := h
  exact ⟨m ++ r, by rw [hr, List.append_assoc]⟩
theorem Here.snd {bs l m : List UInt8} {a : Nat} (h : Here bs a (l ++ m)) : Here bs (a + l.length) m := by
  obtain ⟨r, hr⟩ := h
  exact ⟨r, by rw [← List.drop_drop, hr, List.append_assoc, List.drop_left]⟩
theorem Here.take {bs l : List UInt8} {a : Nat} (h : Here bs a l) : (bs.drop a).take l.length = l := by
  obtain ⟨r, hr⟩ := h
  rw [hr, List.take_left]
theorem Here.le {bs l : List UInt8} {a : Nat} (h : Here bs a l) (hl : 0 < l.length) : a + l.length ≤ bs.length := by
  obtain ⟨r, hr⟩ := h
  have := congrArg List.length hr
  rw [List.length_drop, List.length_append] at this
  omega

theorem RNum_at {F X : Blks} {w : World} {g : Nat} {bs : List UInt8} {a k : Nat} {x : Int} (h : Rd F X w g bs a) (hl : bs.length ≤ 1000000000) (hs1 : 1 ≤ k) (hs2 : k ≤ 7) (hh : Here bs a (be x k)) (hf : fitsN x k = true) :
    Calls Try.prog 42 #[.pointer (some ⟨g, 0, none⟩), .int .i64 k] w fun e w' => e = .returned (.int .i64 x) ∧ Rd F X w' g bs (a + k) ∧ Mod X w w' := by
  have h1 := hh.take
  have h2 := hh.le (by rw [be_length]; omega)
  rw [be_length] at h1 h2
  refine (RNum h hl hs1 hs2 h2).mono ?_
  rintro e w' ⟨rfl, hr, hm⟩
  exact ⟨by rw [h1, numB_be hf], hr, hm⟩

theorem Rd.more {F X Y : Blks} {w w' : World} {g : Nat} {bs : List UInt8} {a : Nat} (h : Rd F X w g bs a) (hb : Below w.heap.size w w') (hY : ∀ b, Y b → X b ∨ (w.heap.size ≤ b ∧ b < w'.heap.size)) (hX : ∀ b, X b → Y b) : Rd F Y w' g bs a := by
  obtain ⟨p, c, T, hg, hs⟩ := h.form
  have hgl := heap_lt hg
  refine ⟨fun b hy => ?_, fun hy => ?_, fun b hf => hX b (h.sub b hf), p, c, T, (hb.block g hgl).trans hg, hs.grow hb⟩
  · rcases hY b hy with hx | hx
    · exact Nat.lt_of_lt_of_le (h.old b hx) hb.size
    · exact hx.2
  · rcases hY g hy with hx | hx
    · exact h.off hx
    · omega

theorem Rd.setCell {F X : Blks} {w : World} {g : Nat} {bs : List UInt8} {a : Nat} (h : Rd F X w g bs a) {p : Addr} (hp : p.block ≠ g) (hx : ¬ X p.block) (u : Value) : Rd F X (w.setCell p u) g bs a := by
  obtain ⟨q, c, T, hg, hs⟩ := h.form
  exact ⟨fun b hb => by simpa [World.setCell] using h.old b hb, h.off, h.sub, q, c, T, (Below.heap_setCell _ _ _ _ (Ne.symm hp)).trans hg, hs.keep fun b hb => Below.heap_setCell _ _ _ _ fun e => hx (e ▸ h.sub b hb)⟩
theorem Rd.less {F X Y : Blks} {w : World} {g : Nat} {bs : List UInt8} {a : Nat} (h : Rd F X w g bs a) (hY : ∀ b, Y b → X b) (hs : ∀ b, F b → Y b) : Rd F Y w g bs a := by
  obtain ⟨p, c, T, hg, h1⟩ := h.form
  exact ⟨fun b hb => h.old b (hY b hb), fun hb => h.off (hY g hb), hs, p, c, T, hg, h1⟩

set_option maxRecDepth 100000 in
set_option maxHeartbeats 400000 in
theorem RDot_at {F X : Blks} {w : World} {g : Nat} {bs : List UInt8} {a : Nat} {x : Dot} (h : Rd F X w g bs a) (hl : bs.length ≤ 1000000000) (hh : Here bs a (be x.peer 1 ++ be x.n 4)) (hf : fitsN x.peer 1 = true) (hf2 : fitsN x.n 4 = true) :
    Calls Try.prog 68 #[.pointer (some ⟨g, 0, none⟩)] w fun e w' => e = .returned (.agg #[.int .i64 x.peer, .int .i64 x.n]) ∧ Rd F X w' g bs (a + 5) ∧ Mod X w w' := by
  obtain ⟨hold, hoff, hsub, p, c, T, hg, hs⟩ := id h
  have hgl := heap_lt hg
  have h1 := h.more (Y := fun b => X b ∨ b = w.heap.size) (al1 w (.cells #[.int .i64 0, .int .i64 0] 70)) (fun b hb => by
    rcases hb with hb | rfl
    · exact .inl hb
    · exact .inr ⟨Nat.le_refl _, by simp⟩) (fun b hb => .inl hb)
  have h2 := hh.snd
  rw [be_length] at h2
  have H1 := Lib.hid h1; have H2 := Lib.hid hh.fst; have H3 := Lib.hid h2; have HO := Lib.hid hold
  have HX : ¬ X w.heap.size := fun hx => Nat.lt_irrefl _ (hold _ hx)
  clear h1 h2 hh hg hs
  go_enter Try.func68, Try.ntmps68
  go_wp2_with fail
  refine (RNum_at (k := 1) H1.out hl (by decide) (by decide) H2.out hf).mono ?_
  rintro e w1 ⟨rfl, hR1, hM1⟩
  go_wp2_with fail
  refine (RNum_at (k := 4) hR1 hl (by decide) (by decide) H3.out hf2).mono ?_
  rintro e w2 ⟨rfl, hR2, hM2⟩
  have hM := hM1.trans hM2
  have c0 := hM.cell (b := w.heap.size) (o := 0) (u := .int .i64 0) (.inr rfl) (by go_simp)
  have c1 := hM.cell (b := w.heap.size) (o := 1) (u := .int .i64 0) (.inr rfl) (by go_simp)
  have cf : ∀ o, w2.frozen? ⟨w.heap.size, o, none⟩ = false := fun o => (hM.frozen (.inr rfl) o).trans (by go_simp)
  have HM := Lib.hid hM; have HR := Lib.hid hR2
  clear hM hM1 hM2 hR1 hR2
  go_wp2
  refine bodyPost_ret (v := .agg #[.int .i64 x.peer, .int .i64 x.n]) ?_ rfl ?_
  · simp [results, Try.results68, go_sem, c0, c1, cf]
  · have hML : Mod X w w2 := (Mod.of_below (al1 w _) hold).trans (HM.out.mono fun b hb => .inl hb)
    have hRL := HR.out.less (Y := X) (fun b hb => .inl hb) hsub
    exact ⟨rfl, (hRL.setCell (p := ⟨w.heap.size, 0, none⟩) (by show w.heap.size ≠ g; omega) HX _).setCell (p := ⟨w.heap.size, 1, none⟩) (by show w.heap.size ≠ g; omega) HX _, (hML.setCell (p := ⟨w.heap.size, 0, none⟩) HX _).setCell (p := ⟨w.heap.size, 1, none⟩) HX _⟩

set_option maxRecDepth 100000 in
set_option maxHeartbeats 400000 in
theorem RStamp_at {F X : Blks} {w : World} {g : Nat} {bs : List UInt8} {a : Nat} {x : Stamp} (h : Rd F X w g bs a) (hl : bs.length ≤ 1000000000) (hh : Here bs a (be x.phys 6 ++ (be x.logic 3 ++ be x.peer 1))) (hf : fitsN x.phys 6 = true) (hf2 : fitsN x.logic 3 = true) (hf3 : fitsN x.peer 1 = true) :
    Calls Try.prog 69 #[.pointer (some ⟨g, 0, none⟩)] w fun e w' => e = .returned (.agg #[.int .i64 x.phys, .int .i64 x.logic, .int .i64 x.peer]) ∧ Rd F X w' g bs (a + 10) ∧ Mod X w w' := by
  obtain ⟨hold, hoff, hsub, p, c, T, hg, hs⟩ := id h
  have hgl := heap_lt hg
  have h1 := h.more (Y := fun b => X b ∨ b = w.heap.size) (al1 w (.cells #[.int .i64 0, .int .i64 0, .int .i64 0] 72)) (fun b hb => by
    rcases hb with hb | rfl
    · exact .inl hb
    · exact .inr ⟨Nat.le_refl _, by simp⟩) (fun b hb => .inl hb)
  have h2 := hh.snd
  rw [be_length] at h2
  have h3 := h2.snd
  rw [be_length] at h3
  have H1 := Lib.hid h1; have H2 := Lib.hid hh.fst; have H3 := Lib.hid h2.fst; have H4 := Lib.hid h3; have HO := Lib.hid hold
  have HX : ¬ X w.heap.size := fun hx => Nat.lt_irrefl _ (hold _ hx)
  clear h1 h2 h3 hh hg hs
  go_enter Try.func69, Try.ntmps69
  go_wp2_with fail
  refine (RNum_at (k := 6) H1.out hl (by decide) (by decide) H2.out hf).mono ?_
  rintro e w1 ⟨rfl, hR1, hM1⟩
  go_wp2_with fail
  refine (RNum_at (k := 3) hR1 hl (by decide) (by decide) H3.out hf2).mono ?_
  rintro e w2 ⟨rfl, hR2, hM2⟩
  go_wp2_with fail
  refine (RNum_at (k := 1) hR2 hl (by decide) (by decide) H4.out hf3).mono ?_
  rintro e w3 ⟨rfl, hR3, hM3⟩
  have hM := (hM1.trans hM2).trans hM3
  have c0 := hM.cell (b := w.heap.size) (o := 0) (u := .int .i64 0) (.inr rfl) (by go_simp)
  have c1 := hM.cell (b := w.heap.size) (o := 1) (u := .int .i64 0) (.inr rfl) (by go_simp)
  have c2 := hM.cell (b := w.heap.size) (o := 2) (u := .int .i64 0) (.inr rfl) (by go_simp)
  have cf : ∀ o, w3.frozen? ⟨w.heap.size, o, none⟩ = false := fun o => (hM.frozen (.inr rfl) o).trans (by go_simp)
  have HM := Lib.hid hM; have HR := Lib.hid hR3
  clear hM hM1 hM2 hM3 hR1 hR2 hR3
  go_wp2
  refine bodyPost_ret (v := .agg #[.int .i64 x.phys, .int .i64 x.logic, .int .i64 x.peer]) ?_ rfl ?_
  · simp [results, Try.results69, go_sem, c0, c1, c2, cf]
  · have hML : Mod X w w3 := (Mod.of_below (al1 w _) hold).trans (HM.out.mono fun b hb => .inl hb)
    have hRL := HR.out.less (Y := X) (fun b hb => .inl hb) hsub
    have hne : w.heap.size ≠ g := by omega
    exact ⟨rfl, ((hRL.setCell (p := ⟨w.heap.size, 0, none⟩) hne HX _).setCell (p := ⟨w.heap.size, 1, none⟩) hne HX _).setCell (p := ⟨w.heap.size, 2, none⟩) hne HX _, ((hML.setCell (p := ⟨w.heap.size, 0, none⟩) HX _).setCell (p := ⟨w.heap.size, 1, none⟩) HX _).setCell (p := ⟨w.heap.size, 2, none⟩) HX _⟩

set_option maxRecDepth 100000 in
set_option maxHeartbeats 400000 in
theorem RMany_at {F X : Blks} {w : World} {g : Nat} {bs : List UInt8} {a : Nat} {x most : Int} (h : Rd F X w g bs a) (hl : bs.length ≤ 1000000000) (hh : Here bs a (be x 1)) (hf : fitsN x 1 = true) (hm : x ≤ most) :
    Calls Try.prog 67 #[.pointer (some ⟨g, 0, none⟩), .int .i64 1, .int .i64 most] w fun e w' => e = .returned (.int .i64 x) ∧ Rd F X w' g bs (a + 1) ∧ Mod X w w' := by
  have HC := Lib.hid (RNum_at (k := 1) h hl (by decide) (by decide) hh hf)
  have hd : decide (most < x) = false := by simpa using hm
  clear h hh
  go_enter Try.func67, Try.ntmps67
  go_wp2_with fail
  refine HC.out.mono ?_
  rintro e w1 ⟨rfl, hR, hM⟩
  go_wp2
  go_ret
  exact ⟨rfl, hR, hM⟩

/-- More is kept off: what is neither the Reader's own block nor new to the heap. -/
theorem Rd.wider {F X Y : Blks} {w : World} {g : Nat} {bs : List UInt8} {a : Nat} (h : Rd F X w g bs a) (hX : ∀ b, X b → Y b) (hY : ∀ b, Y b → b < w.heap.size) (hg : ¬ Y g) : Rd F Y w g bs a :=
  ⟨hY, hg, fun b hb => hX b (h.sub b hb), h.form⟩
def intsB (l : List Int) : List UInt8 := l.flatMap fun n => be n 4
theorem intsB_len (l : List Int) : (intsB l).length = 4 * l.length := by
  induction l with
  | nil => rfl
  | cons x l ih => unfold intsB at ih ⊢; rw [List.flatMap_cons, List.length_append, be_length, ih, List.length_cons]; omega
theorem Here.int {bs : List UInt8} {a : Nat} {l : List Int} (h : Here bs a (intsB l)) {k : Nat} (hk : k < l.length) : Here bs (a + 4 * k) (be (gt l k) 4) := by
  have e : intsB l = intsB (l.take k) ++ (be (gt l k) 4 ++ intsB (l.drop (k + 1))) := by
    have h1 : l = l.take k ++ gt l k :: l.drop (k + 1) := by
      rw [gt_eq (List.getElem?_eq_getElem hk), List.getElem_cons_drop, List.take_append_drop]
    conv => lhs; rw [h1]
    unfold intsB
    rw [List.flatMap_append, List.flatMap_cons]
  rw [e] at h
  have h2 := h.snd.fst
  rw [intsB_len, List.length_take, Nat.min_eq_left (by omega)] at h2
  exact h2

theorem Rd.grown {F X : Blks} {w w' : World} {g : Nat} {bs : List UInt8} {a : Nat} {row : Option Nat} (h : Rd F X w g bs a) (hg : w.grownBy w' row) (hr : ∀ k, row = some k → k ≠ g ∧ ¬ X k) : Rd F X w' g bs a := by
  obtain ⟨p, c, T, h1, h2⟩ := h.form
  exact ⟨fun b hb => Nat.lt_of_lt_of_le (h.old b hb) hg.size, h.off, h.sub, p, c, T, (hg.block g (heap_lt h1) (fun e => (hr g e.symm).1 rfl)).trans h1,
    h2.keep fun b hb => hg.block b (h.old b (h.sub b hb)) (fun e => (hr b e.symm).2 (h.sub b hb))⟩
theorem sl_int {F : Blks} {W : World} {x : Int} (hx : I64 x) (hF : F W.heap.size) : Sl F (W.alloc (.cells #[.int .i64 x] 3)) (some ⟨W.heap.size, 0, none⟩) 1 1 [x] :=
  Sl.lit (α := Int) (xs := [x]) (t := 3) (fz := (0, 0)) (heap_alloc_new _ _) [.int .i64 x] rfl rfl (elems1 ⟨rfl, hx⟩) hF (by simp)
theorem i64_fits {x : Int} (h : fitsN x 4 = true) : I64 x := by
  unfold fitsN at h
  simp only [Bool.and_eq_true, decide_eq_true_eq, Nat.reduceMul, Int.reducePow] at h
  exact ⟨by omega, by omega⟩

set_option maxRecDepth 100000 in
set_option maxHeartbeats 800000 in
theorem RNums_at {F X : Blks} {w : World} {g : Nat} {bs : List UInt8} {a : Nat} {l : List Int} (h : Rd F X w g bs a) (hg : g < w.heap.size) (hl : bs.length ≤ 1000000000) (hh : Here bs a (be l.length 1 ++ intsB l)) (hn : l.length ≤ 5) (hf : ∀ x ∈ l, fitsN x 4 = true) :
    Calls Try.prog 43 #[.pointer (some ⟨g, 0, none⟩)] w fun e w' => ∃ v, e = .returned v ∧ Own 3 w.heap.size noB w' v l ∧ Rd F X w' g bs (a + 1 + 4 * l.length) ∧ Mod X w w' := by
  have hf1 : fitsN (l.length : Nat) 1 = true := by unfold fitsN; simp only [Nat.reduceMul, Int.reducePow]; simp; omega
  have h2 := hh.snd
  rw [be_length] at h2
  have HC := Lib.hid (RMany_at (most := 5) h hl hh.fst hf1 (by omega))
  have H2 := Lib.hid h2; have HF := Lib.hid (fun k (hk : k < l.length) => hf _ (List.mem_of_getElem? (gt_get hk)))
  have HT := Lib.hid (fun k (hk : k < l.length) => (show l.take (k + 1) = l.take k ++ [gt l k] from by rw [List.take_succ_eq_append_getElem hk, gt_eq (List.getElem?_eq_getElem hk)]))
  have hXold := h.old
  clear hh h h2 hf hf1
  go_enter Try.func43, Try.ntmps43
  go_wp2_with fail
  refine HC.out.mono ?_
  rintro e w1 ⟨rfl, hR, hM⟩
  have HM1 := Lib.hid hM; have HR1 := Lib.hid hR
  have hz1 := hM.size
  clear hR hM HC
  go_wp2
  go_loopw [3, 6] (fun v i wr => ∃ k : Nat, k ≤ l.length ∧ i = .int .i64 k ∧ Own 3 w.heap.size noB wr v (l.take k) ∧ Rd F X wr g bs (a + 1 + 4 * k) ∧ Mod X w wr) (fun _ i _ => l.length - (intOf i).toNat)
  case atStart => exact ⟨0, Nat.zero_le _, rfl, Own.nil _ _ _ _, HR1.out, HM1.out⟩
  case round =>
    obtain ⟨k, hk, rfl, ho, hR, hM⟩ := hrel
    have HO := Lib.hid ho; have HR := Lib.hid hR; have HM := Lib.hid hM
    have hz := hM.size
    clear ho hR hM
    by_cases hlt : k < l.length
    · have hRw := HR.out.wider (Y := fun b => X b ∨ u3.ownBlock = some b) (fun b hb => .inl hb) (fun b hb => by
        rcases hb with hb | hb
        · exact HR.out.old b hb
        · exact (HO.out.block b hb).2) (fun hb => by
        rcases hb with hb | hb
        · exact HR.out.off hb
        · have := (HO.out.block g hb).1; omega)
      have HRw := Lib.hid hRw
      clear hRw
      go_wp2_with fail
      refine (RNum_at (k := 4) HRw.out hl (by decide) (by decide) (H2.out.int hlt) (HF.out k hlt)).mono ?_
      rintro e w2 ⟨rfl, hR2, hM2⟩
      have HO2 := Lib.hid (HO.out.keep (w' := w2) (fun b hb => hb.elim) (fun b hb => hM2.agree b (.inr hb)))
      have HR2 := Lib.hid (hR2.less (Y := X) (fun b hb => .inl hb) HR.out.sub)
      have HM2 := Lib.hid (HM.out.trans (hM2.mono fun b hb => .inl hb))
      have hz2 := HM2.out.size
      have hXw : ∀ b, X b → b < w2.heap.size := HR2.out.old
      have HXo : ∀ b, u3.ownBlock = some b → ¬ X b := fun b hb hx => absurd (hXold b hx) (Nat.not_lt.2 (HO.out.block b hb).1)
      clear hR2 hM2
      go_wp2_with (at_builtin; refine wpList_append_Own (α := Int) rfl (.tmp 8) (.tmp 11) rfl Try.underlying23 (z := .int .i64 0) (bytes := 8) (by kernel_rfl) rfl (by decide) rfl rfl (HO2.out.alloc _) (sl_int (F := fun b => b = w2.heap.size) (i64_fits (HF.out k hlt)) rfl) (fun b hb e => absurd (HO2.out.block _ e).2 (by rw [hb]; omega)) (by simp; omega) (by rw [List.length_take]; omega) ?_; intro v' w' ho2 hg2 hat)
      go_roundw
      case rel =>
        have hMa : Mod X w w' := (HM2.out.alloc hXw _).grown hg2 (fun b hb => by have := hXw b hb; simp; omega) (fun b hb => HXo b hb)
        have hRa := (HR2.out.below (al1 w2 _)).grown hg2 (fun b hb => ⟨by have := (HO.out.block b hb).1; omega, HXo b hb⟩)
        exact ⟨k + 1, by omega, by go_num, by rw [HT.out k hlt]; exact ho2.flat, by rw [show a + 1 + 4 * (k + 1) = a + 1 + 4 * k + 4 by omega]; exact hRa, hMa⟩
      case measure => simp [intOf]; omega
    · go_wp2
      go_ret
      obtain rfl : k = l.length := by omega
      have := HO.out
      rw [List.take_length] at this
      exact ⟨_, rfl, this, HR.out, HM.out⟩
end Go.Proofs.Ytpmdkmpmpjdglaa
