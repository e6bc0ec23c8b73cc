/- msg.Read at a message's bytes. -/
import Derived.Test.YtpmdkmpmpjdglaaROp2
import Derived.Test.YtpmdkmpmpjdglaaMsgB
import Derived.Test.YtpmdkmpmpjdglaaOpen2
import Derived.Deep.RegionLaw
set_option linter.unusedSimpArgs false
set_option linter.unusedVariables false
namespace Go.Proofs.Ytpmdkmpmpjdglaa
open Go Go.RowKit
open Rep (vr)

theorem sl_opn {F : Blks} {W : World} {x : Opn} {g n1 n2 n3 : Nat} {p1 p2 p3 : Option Addr} {c1 c2 c3 : Nat} {v : Value}
    (hv : v = .agg #[.int .i64 x.dot.peer, .int .i64 x.dot.n, .slice p1 n1 c1, .int .i64 x.stamp.phys, .int .i64 x.stamp.logic, .int .i64 x.stamp.peer, .int .i64 x.kind, .int .i64 x.table, .string x.key, .int .i64 x.col, .slice p2 n2 c2, .slice p3 n3 c3])
    (hx : vr F W v x) (hg : g = W.heap.size) (hF : F g) :
    Sl F (W.alloc (.cells #[.int .i64 x.dot.peer, .int .i64 x.dot.n, .slice p1 n1 c1, .int .i64 x.stamp.phys, .int .i64 x.stamp.logic, .int .i64 x.stamp.peer, .int .i64 x.kind, .int .i64 x.table, .string x.key, .int .i64 x.col, .slice p2 n2 c2, .slice p3 n3 c3] 76)) (some ⟨g, 0, none⟩) 1 1 [x] := by
  subst hg
  have hx2 := vr_grow hx (al1 W (.cells #[.int .i64 x.dot.peer, .int .i64 x.dot.n, .slice p1 n1 c1, .int .i64 x.stamp.phys, .int .i64 x.stamp.logic, .int .i64 x.stamp.peer, .int .i64 x.kind, .int .i64 x.table, .string x.key, .int .i64 x.col, .slice p2 n2 c2, .slice p3 n3 c3] 76))
  subst hv
  exact Sl.lit (α := Opn) (xs := [x]) (t := 76) (fz := (0, 0)) (heap_alloc_new _ _) [_] rfl rfl (elems1 hx2) hF (by simp)

set_option maxRecDepth 100000 in
set_option maxHeartbeats 1000000 in
theorem MsgRead_ok {F : Blks} {p : Option Addr} {n c : Nat} {w : World} {m : Msg} (h1 : Sl F w p n c (sealed (msgBody m))) (hl : (msgBody m).length ≤ 65532) (hf : MsgFits m) :
    Calls Try.prog 23 #[.slice p n c] w fun e w' => ∃ v, e = .returned (.tuple #[v, .int .i64 0]) ∧ vr (newB w) w' v m ∧ Below w.heap.size w w' := by
  have hh : Here (msgBody m) 0 (msgBody m) := ⟨[], by simp⟩
  have hend : (msgBody m).length = 3 + (1 + 4 * m.have_.length) + (1 + 4 * m.safe.length) + 2 + (m.ops.flatMap opB).length := by
    unfold msgBody
    simp only [List.length_append, be_length, numsB_len]
    omega
  obtain ⟨bs, hbs⟩ : ∃ bs, msgBody m = bs := ⟨_, rfl⟩
  have hh2 : Here bs 0 (be m.kind 1 ++ (be m.fr 1 ++ (be m.to 1 ++ (numsB m.have_ ++ (numsB m.safe ++ (be m.ops.length 2 ++ m.ops.flatMap opB)))))) := by rw [← hbs]; exact hh
  rw [hbs] at h1 hl hend
  clear hh hbs
  have q1 := hh2.fst
  replace hh2 := hh2.snd; rw [be_length] at hh2
  have q2 := hh2.fst
  replace hh2 := hh2.snd; rw [be_length] at hh2
  have q3 := hh2.fst
  replace hh2 := hh2.snd; rw [be_length] at hh2
  have q4 := hh2.fst
  replace hh2 := hh2.snd; rw [numsB_len] at hh2
  have q5 := hh2.fst
  replace hh2 := hh2.snd; rw [numsB_len] at hh2
  have q6 := hh2.fst
  replace hh2 := hh2.snd; rw [be_length] at hh2
  obtain ⟨a4, ha4⟩ : ∃ a, 0 + 1 + 1 + 1 + (1 + 4 * m.have_.length) = a := ⟨_, rfl⟩
  rw [ha4] at q5 q6 hh2
  obtain ⟨a5, ha5⟩ : ∃ a, a4 + (1 + 4 * m.safe.length) = a := ⟨_, rfl⟩
  rw [ha5] at q6 hh2
  obtain ⟨a6, ha6⟩ : ∃ a, a5 + 2 = a := ⟨_, rfl⟩
  rw [ha6] at hh2
  have hend2 : bs.length = a6 + (m.ops.flatMap opB).length := by omega
  have hl9 : bs.length ≤ 1000000000 := by omega
  have h65 := fits2 hf.len
  have HA := Lib.hid (And.intro ha4 (And.intro ha5 (And.intro ha6 hend2)))
  have Q1 := Lib.hid q1; have Q2 := Lib.hid q2; have Q3 := Lib.hid q3; have Q4 := Lib.hid q4; have Q5 := Lib.hid q5; have Q6 := Lib.hid q6; have QO := Lib.hid (fun k (hk : k < m.ops.length) => hh2.item hk)
  have QT := Lib.hid (fun k (hk : k < m.ops.length) => flat_take opB hk)
  have H1 := Lib.hid (h1.grow (al1 w (.cells #[.int .i64 0, .int .i64 0, .int .i64 0, .slice none 0 0, .slice none 0 0, .slice none 0 0] 26))); have HF := Lib.hid hf
  clear h1 ha4 ha5 ha6 q1 q2 q3 q4 q5 q6 hh2 hf hend hend2
  go_enter Try.func23, Try.ntmps23
  go_wp2_with fail
  refine (Open_ok H1.out hl).mono ?_
  rintro e w1 ⟨v1, rfl, ho1, hb1⟩
  obtain ⟨p1, c1, rfl, hs1⟩ := ho1.sl
  have hz1 : w.heap.size + 1 ≤ w1.heap.size := by have := hb1.size; simpa using this
  have hsl : Sl (fun b => w.heap.size < b ∧ b < w1.heap.size) w1 p1 bs.length c1 bs := hs1.lt.mono fun b hb => by
    rcases hb.1 with h | h
    · exact h.elim
    · have := h.1; simp at this; exact ⟨by omega, hb.2⟩
  have HB1 := Lib.hid hb1
  have hR0 : Rd (fun b => w.heap.size < b ∧ b < w1.heap.size) (OldX (w1.alloc (.cells #[.slice p1 bs.length c1, .int .i64 0, .bool false] 81)) w1.heap.size) (w1.alloc (.cells #[.slice p1 bs.length c1, .int .i64 0, .bool false] 81)) w1.heap.size bs 0 :=
    ⟨fun b hb => hb.1, fun hb => hb.2 rfl, fun b hb => ⟨by have := hb.2; simp; omega, by have := hb.2; omega⟩, p1, c1, _, heap_alloc_new _ _, hsl.grow (al1 _ _)⟩
  have HR0 := Lib.hid hR0
  clear ho1 hb1 hs1 hsl hR0
  go_wp2_with fail
  refine (ONum (k := 1) HR0.out hl9 (by decide) (by decide) Q1.out HF.out.kind).mono ?_
  rintro e w2 ⟨rfl, hR2, hM2⟩
  have HR2 := Lib.hid hR2; have HM2 := Lib.hid hM2
  clear hR2 hM2
  go_wp2_with fail
  refine (ONum (k := 1) HR2.out hl9 (by decide) (by decide) Q2.out HF.out.fr).mono ?_
  rintro e w3 ⟨rfl, hR3, hM3⟩
  have HR3 := Lib.hid hR3; have HM3 := Lib.hid (HM2.out.old hM3)
  clear hR3 hM3
  go_wp2_with fail
  refine (ONum (k := 1) HR3.out hl9 (by decide) (by decide) Q3.out HF.out.to).mono ?_
  rintro e w4 ⟨rfl, hR4, hM4⟩
  have HR4 := Lib.hid hR4; have HM4 := Lib.hid (HM3.out.old hM4)
  have hz4 : w1.heap.size + 1 ≤ w4.heap.size := by have := HM4.out.size; simpa using this
  clear hR4 hM4
  go_wp2_with fail
  refine (ONums HR4.out (by omega) hl9 Q4.out HF.out.have_).mono ?_
  rintro e w5 ⟨v5, rfl, ho5, hR5, hM5⟩
  obtain ⟨p5, c5, rfl, -⟩ := ho5.sl
  rw [Nat.add_assoc, HA.out.1] at hR5
  have HR5 := Lib.hid hR5; have HM5 := Lib.hid (HM4.out.old hM5); have HO5 := Lib.hid ho5
  have hz5 : w4.heap.size ≤ w5.heap.size := hM5.size
  clear hR5 hM5 ho5
  go_wp2_with fail
  refine (ONums HR5.out (by omega) hl9 Q5.out HF.out.safe).mono ?_
  rintro e w6 ⟨v6, rfl, ho6, hR6, hM6⟩
  obtain ⟨p6, c6, rfl, -⟩ := ho6.sl
  rw [Nat.add_assoc, HA.out.2.1] at hR6
  have HR6 := Lib.hid hR6; have HM6 := Lib.hid (HM5.out.old hM6); have HO6 := Lib.hid ho6
  have HO56 := Lib.hid (HO5.out.mod hM6 (by omega))
  have hz6 : w5.heap.size ≤ w6.heap.size := hM6.size
  clear hR6 hM6 ho6
  obtain ⟨W, hW⟩ : ∃ W, W = w6.alloc (.cells #[.int .i64 m.kind, .int .i64 m.fr, .int .i64 m.to, .slice p5 m.have_.length c5, .slice p6 m.safe.length c6, .slice none 0 0] 26) := ⟨_, rfl⟩
  have hbW : Below w6.heap.size w6 W := by rw [hW]; exact al1 _ _
  have hWz : W.heap.size = w6.heap.size + 1 := by rw [hW]; simp
  have hWx : W.heap[w6.heap.size]? = some (.cells #[.int .i64 m.kind, .int .i64 m.fr, .int .i64 m.to, .slice p5 m.have_.length c5, .slice p6 m.safe.length c6, .slice none 0 0] 26 (0, 0)) := by rw [hW]; exact heap_alloc_new _ _
  have hR7 : Rd (fun b => w.heap.size < b ∧ b < w1.heap.size) (OldX W w1.heap.size) W w1.heap.size bs a5 := (HR6.out.below hbW).full
  have hD5 : Sl (fun b => w.heap.size < b ∧ b < w6.heap.size ∧ b ≠ w1.heap.size) W p5 m.have_.length c5 m.have_ := by
    obtain ⟨p', c', hv, hs⟩ := HO56.out.sl
    injection hv with v1 v2 v3
    subst v1; subst v3
    exact (hs.lt.mono fun b hb => by
      obtain ⟨hb1 | hb1, hb2⟩ := hb
      · exact hb1.elim
      · have := hb1.1
        exact ⟨by omega, by omega, by omega⟩).grow hbW
  have hD6 : Sl (fun b => w.heap.size < b ∧ b < w6.heap.size ∧ b ≠ w1.heap.size) W p6 m.safe.length c6 m.safe := by
    obtain ⟨p', c', hv, hs⟩ := HO6.out.sl
    injection hv with v1 v2 v3
    subst v1; subst v3
    exact (hs.lt.mono fun b hb => by
      obtain ⟨hb1 | hb1, hb2⟩ := hb
      · exact hb1.elim
      · have := hb1.1
        exact ⟨by omega, by omega, by omega⟩).grow hbW
  have hB6 : Below w1.heap.size w1 w6 := (al1 w1 _).trans (HM6.out.below (B := w1.heap.size) fun b hb => ⟨by simp; omega, by omega⟩)
  have h2W : W.heap[w.heap.size]? = some (.cells #[.int .i64 0, .int .i64 0, .int .i64 0, .slice none 0 0, .slice none 0 0, .slice none 0 0] 26 (0, 0)) := by
    refine (hbW.block _ (by omega)).trans ((hB6.block _ (by omega)).trans ((HB1.out.block _ (by simp)).trans ?_))
    exact heap_alloc_new _ _
  have hBW : Below w.heap.size w W := below2 (below2 (below2 (al1 w _) HB1.out) hB6) hbW
  have HWX := Lib.hid hWx; have HR7 := Lib.hid hR7; have HD5 := Lib.hid hD5; have HD6 := Lib.hid hD6; have H2W := Lib.hid h2W; have HBW := Lib.hid hBW; have HWZ := Lib.hid hWz
  clear hbW hWz hWx hR7 hD5 hD6 h2W hBW hB6 HR0 HR2 HR3 HR4 HR5 HR6 HM2 HM3 HM4 HM5 HM6 HO5 HO6 HO56 HB1 H1
  go_wp2_with fail
  rw [← hW]
  clear hW
  refine (ONum (k := 2) HR7.out hl9 (by decide) (by decide) Q6.out HF.out.len).mono ?_
  rintro e w8 ⟨rfl, hR8, hM8⟩
  rw [HA.out.2.2.1] at hR8
  have hz8 : w6.heap.size + 1 ≤ w8.heap.size := by have := hM8.size; rw [HWZ.out] at this; exact this
  have HR8 := Lib.hid hR8
  have HX8 := Lib.hid ((hM8.agree w6.heap.size ⟨by rw [HWZ.out]; omega, by omega⟩).trans HWX.out)
  have HM8 := Lib.hid hM8
  clear hR8 hM8
  go_wp2_with fail
  go_loopw [8] (fun s8 wr => ∃ (k j : Nat) (v : Value), k + j = m.ops.length ∧ s8 = .int .i64 j ∧ wr.heap[w6.heap.size]? = some (.cells #[.int .i64 m.kind, .int .i64 m.fr, .int .i64 m.to, .slice p5 m.have_.length c5, .slice p6 m.safe.length c6, v] 26 (0, 0)) ∧ Own 76 w8.heap.size (fun b => w8.heap.size ≤ b) wr v (m.ops.take k) ∧ Rd (fun b => w.heap.size < b ∧ b < w1.heap.size) (OldX wr w1.heap.size) wr w1.heap.size bs (a6 + ((m.ops.take k).flatMap opB).length) ∧ Mod (fun b => b < w8.heap.size ∧ b ≠ w1.heap.size ∧ b ≠ w6.heap.size) w8 wr) (fun s8 _ => (intOf s8).toNat)
  case atStart => exact ⟨0, m.ops.length, .slice none 0 0, by omega, rfl, HX8.out, Own.nil _ _ _ _, HR8.out, Mod.refl _ _⟩
  case round =>
    obtain ⟨k, j, v, hk, rfl, hx, ho, hR, hM⟩ := hrel
    have HK := Lib.hid hk
    obtain ⟨q, hq⟩ : ∃ q, a6 + ((m.ops.take k).flatMap opB).length = q := ⟨_, rfl⟩
    rw [hq] at hR
    have HQp := Lib.hid hq
    clear hq
    have hkl : k ≤ m.ops.length := by omega
    have hjl : j ≤ 65535 := by omega
    have HXr := Lib.hid hx; have HO := Lib.hid ho; have HR := Lib.hid hR; have HM := Lib.hid hM
    have hzr : w8.heap.size ≤ wr.heap.size := hM.size
    have s1 : wr.cell? ⟨w6.heap.size, 5, none⟩ = some v := heap_cell hx
    obtain ⟨pr, cr, Tr, hgr, -⟩ := hR.form
    have g2 : wr.cell? ⟨w1.heap.size, 2, none⟩ = some (.bool false) := heap_cell hgr
    clear hx ho hR hM hk
    cases j with
    | succ j =>
      have hlt : k < m.ops.length := by have := HK.out; omega
      have HRr := Lib.hid ((HR.out.below (below_drew (Below.refl _ _))).full)
      have HOr := Lib.hid (HO.out.grow (below_drew (Below.refl _ _)))
      have HQ := Lib.hid (show Here bs q (opB (gt m.ops k)) from HQp.out ▸ QO.out k hlt)
      have HD := Lib.hid (HF.out.ops _ (List.mem_of_getElem? (gt_get hlt)))
      have HLn := Lib.hid (show (m.ops.take k ++ [gt m.ops k]).length = k + 1 by rw [List.length_append, List.length_take, Nat.min_eq_left hkl]; rfl)
      have hgw : w1.heap.size < wr.heap.size := by omega
      clear hgr
      have hgb : w1.heap.size < w8.heap.size := by omega
      go_wp2
      go_region_law (first
        | (refine step_gives (R := fun v2 w2 => vr (newB wr) w2 v2 (gt m.ops k) ∧ Rd (fun b => w.heap.size < b ∧ b < w1.heap.size) (OldX w2 w1.heap.size) w2 w1.heap.size bs (q + (opB (gt m.ops k)).length) ∧ Mod (OldX wr.drew w1.heap.size) wr.drew w2) rfl (by go_simp; exact (ROp_at (x := gt m.ops k) HRr.out hgw hl9 HQ.out HD.out).mono fun _ _ ⟨v, he, h⟩ => ⟨v, he, h⟩) ?_; rintro v2 w2 ⟨hv2, hR2, hM2⟩; have HV := Lib.hid hv2; obtain ⟨q1, n1, d1, q2, n2, d2, q3, n3, d3, rfl, -⟩ := hv2; have s2 : w2.cell? ⟨w6.heap.size, 5, none⟩ = some v := hM2.cell ⟨by show w6.heap.size < wr.heap.size; omega, by omega⟩ s1; have s2a : ∀ o, (w2.alloc o).cell? ⟨w6.heap.size, 5, none⟩ = some v := fun o => cell_later (al1 w2 o) s2; have HO2 := Lib.hid ((HOr.out.lt.mono (G := fun b => w8.heap.size ≤ b ∧ b < wr.heap.size) (fun b hb => ⟨hb.1, hb.2⟩)).keep (w' := w2) (fun b hb => hM2.agree b ⟨hb.2, by have := hb.1; omega⟩) (fun b hb => hM2.agree b ⟨(HOr.out.block b hb).2, by have := (HOr.out.block b hb).1; omega⟩)); have hzz : wr.heap.size ≤ w2.heap.size := hM2.size; have HR2 := Lib.hid hR2; have HM2 := Lib.hid hM2; clear hR2 hM2)
        | (refine step_append_Own (α := Opn) rfl (.tmp 46) (.tmp 49) rfl Try.underlying24 (z := .agg #[.int .i64 0, .int .i64 0, .slice none 0 0, .int .i64 0, .int .i64 0, .int .i64 0, .int .i64 0, .int .i64 0, .string ⟨#[]⟩, .int .i64 0, .slice none 0 0, .slice none 0 0]) (bytes := 152) (by kernel_rfl) rfl (by decide) (by rfl) (by rfl) (HO2.out.alloc _) (sl_opn (x := gt m.ops k) (F := fun b => wr.heap.size ≤ b) rfl HV.out rfl hzz) (fun b hb e => absurd (HOr.out.block _ e).2 (Nat.not_lt.2 hb)) (by simp; omega) (by rw [List.length_take]; omega) ?_; intro v' w3 ho3 hg3 hat; obtain ⟨p', c', rfl, -⟩ := ho3.sl; rw [HLn.out] at ho3; have hx3 := (hg3.block w6.heap.size (by simp; omega) (fun e => absurd (HO2.out.block _ e.symm).1 (by omega))).trans (((al1 w2 _).block w6.heap.size (by omega)).trans ((HM2.out.agree w6.heap.size ⟨by show w6.heap.size < wr.heap.size; omega, by omega⟩).trans HXr.out)); have s3 := heap_cell (i := 5) hx3; simp only [List.getElem?_toArray, List.getElem?_cons_succ, List.getElem?_cons_zero] at s3; have sf3 : ∀ o, w3.frozen? ⟨w6.heap.size, o, none⟩ = false := fun o => heap_frozen hx3; have HX3 := Lib.hid hx3; clear hx3))
      all_goals
        have HX4 := Lib.hid (heap_set (i := 5) (u := .slice p' (k + 1) c') HX3.out)
        have hvb : ∀ b, v.ownBlock = some b → w8.heap.size ≤ b := fun b hb => (HO2.out.block b hb).1
        have hR4 : Rd (fun b => w.heap.size < b ∧ b < w1.heap.size) (fun b => w.heap.size < b ∧ b < w1.heap.size) (w3.setCell ⟨w6.heap.size, 5, none⟩ (.slice p' (k + 1) c')) w1.heap.size bs (q + (opB (gt m.ops k)).length) := by
          refine (((HR2.out.only).below (al1 w2 _)).grown hg3 (fun b hb => ⟨by have := hvb b hb; omega, fun hF => ?_⟩)).setCell (p := ⟨w6.heap.size, 5, none⟩) (by show w6.heap.size ≠ w1.heap.size; omega) (fun hF => ?_) _
          · have h1 := hF.2
            have := hvb b hb
            omega
          · have h1 : w6.heap.size < w1.heap.size := hF.2
            omega
        have HR4 := Lib.hid hR4.full
        have hM4 : Mod (fun b => b < w8.heap.size ∧ b ≠ w1.heap.size ∧ b ≠ w6.heap.size) w8 (w3.setCell ⟨w6.heap.size, 5, none⟩ (.slice p' (k + 1) c')) := by
          have h1 : Mod (fun b => b < w8.heap.size ∧ b ≠ w1.heap.size ∧ b ≠ w6.heap.size) wr w2 := ⟨HM2.out.os, HM2.out.tape, HM2.out.output, HM2.out.size, fun b hb => HM2.out.agree b ⟨Nat.lt_of_lt_of_le hb.1 hzr, hb.2.1⟩⟩
          have h2 := ((HM.out.trans h1).alloc (fun b hb => by have := hb.1; omega) _).grown hg3 (fun b hb => by have := hb.1; simp; omega) (fun b hb hx => by have := hvb b hb; have := hx.1; omega)
          exact h2.setCell (p := ⟨w6.heap.size, 5, none⟩) (fun hx => hx.2.2 rfl) _
        have HM4 := Lib.hid hM4
        have hO4 : Own 76 w8.heap.size (fun b => w8.heap.size ≤ b) (w3.setCell ⟨w6.heap.size, 5, none⟩ (.slice p' (k + 1) c')) (.slice p' (k + 1) c') (m.ops.take (k + 1)) := by
          rw [take_snoc' hlt]
          have h1 := ho3.mono (G := fun b => w8.heap.size ≤ b) fun b hb => by
            rcases hb with hb | hb
            · exact hb.1
            · exact Nat.le_trans hzr hb
          have hne : ∀ b, w8.heap.size ≤ b → b ≠ (⟨w6.heap.size, 5, none⟩ : Addr).block := fun b hb e => by
            have h3 : b = w6.heap.size := e
            omega
          exact h1.keep (fun b hb => Below.heap_setCell _ _ _ _ (hne b hb)) fun b hb => Below.heap_setCell _ _ _ _ (hne b (h1.block b hb).1)
        have HO4 := Lib.hid hO4
        clear hR4 hM4 hO4 ho3 hg3 hat hvb s1 s2 s2a s3 sf3 g2
        go_wp2
        go_roundw
        case rel => exact ⟨k + 1, j, .slice p' (k + 1) c', by have := HK.out; omega, by go_num, by simpa using HX4.out, HO4.out, by rw [QT.out k hlt, ← Nat.add_assoc, HQp.out]; exact HR4.out, HM4.out⟩
        case measure => simp [intOf]
    | zero =>
      obtain rfl : k = m.ops.length := by have := HK.out; omega
      have hqe := HQp.out
      rw [List.take_length] at hqe
      obtain rfl : q = bs.length := by have := HA.out; omega
      have g1 : wr.cell? ⟨w1.heap.size, 1, none⟩ = some (.int .i64 (bs.length : Nat)) := heap_cell hgr
      have hxr := HXr.out
      have h2r := (HM.out.agree w.heap.size ⟨by omega, by omega, by omega⟩).trans ((HM8.out.agree w.heap.size ⟨by rw [HWZ.out]; omega, by omega⟩).trans H2W.out)
      obtain ⟨po, co, rfl, hso⟩ := HO.out.sl
      rw [List.take_length] at hxr hso
      have x0 := heap_cell (i := 0) hxr; have x1 := heap_cell (i := 1) hxr; have x2 := heap_cell (i := 2) hxr; have x3 := heap_cell (i := 3) hxr; have x4 := heap_cell (i := 4) hxr; have x5 := heap_cell (i := 5) hxr
      have y0 := heap_cell (i := 0) h2r; have y1 := heap_cell (i := 1) h2r; have y2 := heap_cell (i := 2) h2r; have y3 := heap_cell (i := 3) h2r; have y4 := heap_cell (i := 4) h2r; have y5 := heap_cell (i := 5) h2r
      simp only [List.getElem?_toArray, List.getElem?_cons_succ, List.getElem?_cons_zero] at x0 x1 x2 x3 x4 x5 y0 y1 y2 y3 y4 y5
      have yf : ∀ o, wr.frozen? ⟨w.heap.size, o, none⟩ = false := fun o => heap_frozen h2r
      have HSO := Lib.hid hso
      clear hso h2r hxr s1 hgr hqe
      go_wp2
      refine bodyPost_ret (v := .tuple #[.agg #[.int .i64 m.kind, .int .i64 m.fr, .int .i64 m.to, .slice p5 m.have_.length c5, .slice p6 m.safe.length c6, .slice po m.ops.length co], .int .i64 0]) ?_ rfl ?_
      · simp [results, Try.results23, go_sem, y0, y1, y2, y3, y4, y5, yf]
      · generalize hWf : World.setCell (World.setCell _ _ _) _ _ = Wf
        have hoth : ∀ b, b ≠ w.heap.size → Wf.heap[b]? = wr.heap[b]? := fun b hb => by
          rw [← hWf]
          repeat (refine (Below.heap_setCell _ _ _ _ hb).trans ?_)
          rfl
        have hMr : Mod (fun b => w.heap.size < b ∧ b < w6.heap.size ∧ b ≠ w1.heap.size) W wr :=
          (HM8.out.mono (fun b hb => ⟨by rw [HWZ.out]; omega, hb.2.2⟩)).trans (HM.out.mono fun b hb => ⟨by omega, hb.2.2, by omega⟩)
        have hb8 : Below w.heap.size W w8 := HM8.out.below fun b hb => by
          have := HWZ.out
          exact ⟨by omega, by omega⟩
        have hbr : Below w.heap.size w8 wr := HM.out.below fun b hb => by
          have h1 : b < w8.heap.size := by omega
          have h2 : b ≠ w1.heap.size := by omega
          have h3 : b ≠ w6.heap.size := by omega
          exact ⟨h1, h2, h3⟩
        have hBf : Below w.heap.size w Wf := by
          rw [← hWf]
          repeat (with_reducible refine Below.setCell ?_ (Nat.le_refl w.heap.size) _)
          exact HBW.out.trans (hb8.trans hbr)
        have hf := HF.out
        refine ⟨_, rfl, ⟨_, _, _, _, _, _, _, _, _, rfl, ⟨i64_of_fits hf.kind (by decide), i64_of_fits hf.fr (by decide), i64_of_fits hf.to (by decide)⟩, ?_, ?_, ?_⟩, hBf⟩
        · exact ((HD5.out.keep (w' := wr) fun b hb => hMr.agree b hb).keep (w' := Wf) fun b hb => hoth b (by have := hb.1; omega)).mono fun b hb => Nat.le_of_lt hb.1
        · exact ((HD6.out.keep (w' := wr) fun b hb => hMr.agree b hb).keep (w' := Wf) fun b hb => hoth b (by have := hb.1; omega)).mono fun b hb => Nat.le_of_lt hb.1
        · have h1 : Sl (fun b => w8.heap.size ≤ b) wr po m.ops.length co m.ops := HSO.out.mono fun b hb => by
            rcases hb with hb | hb
            · exact hb
            · exact hb.1
          exact (h1.keep (w' := Wf) fun b hb => hoth b (by omega)).mono fun b hb => by unfold newB; omega
end Go.Proofs.Ytpmdkmpmpjdglaa
