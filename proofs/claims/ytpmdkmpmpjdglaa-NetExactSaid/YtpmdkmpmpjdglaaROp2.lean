/- The Reader's Op at what a Writer wrote. -/
import Derived.Test.YtpmdkmpmpjdglaaROp
import Derived.Deep.RegionLaw
set_option linter.unusedSimpArgs false
set_option linter.unusedVariables false
namespace Go.Proofs.Ytpmdkmpmpjdglaa
open Go Go.RowKit
open Rep (vr)

set_option maxRecDepth 100000 in
set_option maxHeartbeats 1000000 in
theorem ROp_at {F : Blks} {w : World} {g : Nat} {bs : List UInt8} {a : Nat} {x : Opn} (h : Rd F (OldX w g) w g bs a) (hg : g < w.heap.size) (hl : bs.length ≤ 1000000000) (hh : Here bs a (opB x)) (hf : OpFits x) :
    Calls Try.prog 44 #[.pointer (some ⟨g, 0, none⟩)] w fun e w' => ∃ v, e = .returned v ∧ vr (newB w) w' v x ∧ Rd F (OldX w' g) w' g bs (a + (opB x).length) ∧ Mod (OldX w g) w w' := by
  have h0 := (h.more (Y := OldX w g) (al1 w (.cells #[.int .i64 0, .int .i64 0, .slice none 0 0, .int .i64 0, .int .i64 0, .int .i64 0, .int .i64 0, .int .i64 0, .string ⟨#[]⟩, .int .i64 0, .slice none 0 0, .slice none 0 0] 76)) (fun b hb => .inl hb) (fun b hb => hb)).full
  have HFw := Lib.hid (fun b (hb : F b) => (h.sub b hb).1)
  unfold opB at hh
  have q1 := hh.fst
  replace hh := hh.snd; rw [be_length] at hh
  have q2 := hh.fst
  replace hh := hh.snd; rw [dotB_len] at hh
  have q3 := hh.fst
  replace hh := hh.snd; rw [numsB_len] at hh
  have q4 := hh.fst
  replace hh := hh.snd; rw [stampB_len] at hh
  have q5 := hh.fst
  replace hh := hh.snd; rw [be_length] at hh
  have q6 := hh.fst
  replace hh := hh.snd; rw [textB_len] at hh
  have q7 := hh.fst
  replace hh := hh.snd; rw [be_length] at hh
  have q8 := hh.fst
  replace hh := hh.snd
  have q9 := hh.fst
  replace hh := hh.snd; rw [be_length] at hh
  obtain ⟨a1, ha1⟩ : ∃ a1, a + 1 = a1 := ⟨_, rfl⟩
  rw [ha1] at q2 q3 q4 q5 q6 q7 q8 q9 hh
  obtain ⟨a2, ha2⟩ : ∃ a2, a1 + 5 = a2 := ⟨_, rfl⟩
  rw [ha2] at q3 q4 q5 q6 q7 q8 q9 hh
  obtain ⟨a3, ha3⟩ : ∃ a3, a2 + (1 + 4 * x.deps.length) = a3 := ⟨_, rfl⟩
  rw [ha3] at q4 q5 q6 q7 q8 q9 hh
  obtain ⟨a4, ha4⟩ : ∃ a4, a3 + 10 = a4 := ⟨_, rfl⟩
  rw [ha4] at q5 q6 q7 q8 q9 hh
  obtain ⟨a5, ha5⟩ : ∃ a5, a4 + 1 = a5 := ⟨_, rfl⟩
  rw [ha5] at q6 q7 q8 q9 hh
  obtain ⟨a6, ha6⟩ : ∃ a6, a5 + (x.key.size + 1) = a6 := ⟨_, rfl⟩
  rw [ha6] at q7 q8 q9 hh
  obtain ⟨a7, ha7⟩ : ∃ a7, a6 + 1 = a7 := ⟨_, rfl⟩
  rw [ha7] at q8 q9 hh
  obtain ⟨a8, ha8⟩ : ∃ a8, a7 + (rowB x.vals).length = a8 := ⟨_, rfl⟩
  rw [ha8] at q9 hh
  obtain ⟨a9, ha9⟩ : ∃ a9, a8 + 1 = a9 := ⟨_, rfl⟩
  rw [ha9] at hh
  have HA := Lib.hid (And.intro ha1 (And.intro ha2 (And.intro ha3 (And.intro ha4 (And.intro ha5 (And.intro ha6 (And.intro ha7 (And.intro ha8 ha9))))))))
  have Q1 := Lib.hid q1; have Q2 := Lib.hid q2; have Q3 := Lib.hid q3; have Q4 := Lib.hid q4; have Q5 := Lib.hid q5; have Q6 := Lib.hid q6; have Q7 := Lib.hid q7; have Q8 := Lib.hid q8; have Q9 := Lib.hid q9; have QD := Lib.hid (fun k (hk : k < x.dots.length) => hh.item hk)
  have H0 := Lib.hid h0; have HF := Lib.hid hf
  clear h h0 ha1 ha2 ha3 ha4 ha5 ha6 ha7 ha8 ha9 q1 q2 q3 q4 q5 q6 q7 q8 q9 hh hf
  go_enter Try.func44, Try.ntmps44
  go_wp2_with fail
  refine (ONum (k := 1) H0.out hl (by decide) (by decide) Q1.out HF.out.kind).mono ?_
  rintro e w1 ⟨rfl, hR1, hM1⟩
  rw [HA.out.1] at hR1
  have HR1 := Lib.hid hR1; have HM1 := Lib.hid hM1
  clear hR1 hM1
  go_wp2_with fail
  refine (ODot HR1.out hl Q2.out HF.out.dot).mono ?_
  rintro e w2 ⟨rfl, hR2, hM2⟩
  rw [HA.out.2.1] at hR2
  have HR2 := Lib.hid hR2; have HM2 := Lib.hid (HM1.out.old hM2)
  have hz2 : w.heap.size + 1 ≤ w2.heap.size := by have := HM2.out.size; simpa using this
  clear hR2 hM2
  go_wp2_with fail
  refine (ONums HR2.out (by omega) hl Q3.out HF.out.deps).mono ?_
  rintro e w3 ⟨v3, rfl, ho3, hR3, hM3⟩
  obtain ⟨p3, c3, rfl, hs3⟩ := ho3.sl
  rw [Nat.add_assoc, HA.out.2.2.1] at hR3
  have HR3 := Lib.hid hR3; have HM3 := Lib.hid (HM2.out.old hM3); have HO3 := Lib.hid ho3
  clear hR3 hM3 ho3 hs3
  go_wp2_with fail
  refine (OStamp HR3.out hl Q4.out HF.out.stamp).mono ?_
  rintro e w4 ⟨rfl, hR4, hM4⟩
  rw [HA.out.2.2.2.1] at hR4
  have HR4 := Lib.hid hR4; have HM4 := Lib.hid (HM3.out.old hM4); have HO4 := Lib.hid (HO3.out.mod hM4 (by omega))
  clear hR4 hM4
  go_wp2_with fail
  refine (ONum (k := 1) HR4.out hl (by decide) (by decide) Q5.out HF.out.table).mono ?_
  rintro e w5 ⟨rfl, hR5, hM5⟩
  rw [HA.out.2.2.2.2.1] at hR5
  have HR5 := Lib.hid hR5; have HM5 := Lib.hid (HM4.out.old hM5); have HO5 := Lib.hid (HO4.out.mod hM5 (by omega))
  clear hR5 hM5
  go_wp2_with fail
  refine (OText HR5.out hl Q6.out HF.out.key).mono ?_
  rintro e w6 ⟨rfl, hR6, hM6⟩
  rw [Nat.add_assoc, Nat.add_comm 1, HA.out.2.2.2.2.2.1] at hR6
  have HR6 := Lib.hid hR6; have HM6 := Lib.hid (HM5.out.old hM6); have HO6 := Lib.hid (HO5.out.mod hM6 (by omega))
  clear hR6 hM6
  go_wp2_with fail
  refine (ONum (k := 1) HR6.out hl (by decide) (by decide) Q7.out HF.out.col).mono ?_
  rintro e w7 ⟨rfl, hR7, hM7⟩
  rw [HA.out.2.2.2.2.2.2.1] at hR7
  have HR7 := Lib.hid hR7; have HM7 := Lib.hid (HM6.out.old hM7); have HO7 := Lib.hid (HO6.out.mod hM7 (by omega))
  clear hR7 hM7
  obtain ⟨p, c, T, hgb, hsb⟩ := HR7.out.form
  have hz7 : w.heap.size + 1 ≤ w7.heap.size := by have := HM7.out.size; simpa using this
  have hgl := heap_lt hgb
  have hoff := HR7.out.off; have hsub := HR7.out.sub
  have HSB := Lib.hid hsb
  obtain ⟨W, hW⟩ : ∃ W, W = w7.alloc (.cells #[.int .i64 x.dot.peer, .int .i64 x.dot.n, .slice p3 x.deps.length c3, .int .i64 x.stamp.phys, .int .i64 x.stamp.logic, .int .i64 x.stamp.peer, .int .i64 x.kind, .int .i64 x.table, .string x.key, .int .i64 x.col, .slice none 0 0, .slice none 0 0] 76) := ⟨_, rfl⟩
  have hbW : Below w7.heap.size w7 W := by rw [hW]; exact al1 _ _
  have hWz : W.heap.size = w7.heap.size + 1 := by rw [hW]; simp
  have hWx : W.heap[w7.heap.size]? = some (.cells #[.int .i64 x.dot.peer, .int .i64 x.dot.n, .slice p3 x.deps.length c3, .int .i64 x.stamp.phys, .int .i64 x.stamp.logic, .int .i64 x.stamp.peer, .int .i64 x.kind, .int .i64 x.table, .string x.key, .int .i64 x.col, .slice none 0 0, .slice none 0 0] 76 (0, 0)) := by rw [hW]; exact heap_alloc_new _ _
  have HWX := Lib.hid hWx; have HBW := Lib.hid hbW; have HWZ := Lib.hid hWz
  have hgW : W.heap[g]? = some (.cells #[.slice p bs.length c, .int .i64 (a7 : Nat), .bool false] T (0, 0)) := (hbW.block g hgl).trans hgb
  have f0 : ∀ w', Below W.heap.size W w' → w'.cell? ⟨g, 0, none⟩ = some (.slice p bs.length c) := fun w' hb => cell_later hb (heap_cell hgW)
  have f1 : ∀ w', Below W.heap.size W w' → w'.cell? ⟨g, 1, none⟩ = some (.int .i64 (a7 : Nat)) := fun w' hb => cell_later hb (heap_cell hgW)
  have HGW := Lib.hid hgW
  clear hWx hbW hWz hgb hsb hgW
  go_wp2
  rw [← hW]
  clear hW
  refine wp_flowL 16 [(8, .unk [] fun _ v w1 => ∃ u, v = .tuple #[u, .int .i64 (a8 : Nat), .int .i64 0] ∧ Own 127 W.heap.size noB w1 u x.vals), (10, .unk [8] fun vs v _ => vs.headD undef = .tuple #[v, .int .i64 (a8 : Nat), .int .i64 0]), (11, .exact [8] (.int .i64 (a8 : Nat))), (12, .exact [8] (.int .i64 0))] (by kernel_rfl) (by kernel_rfl) ?_ ?_
  · refine ⟨?_, ?_, trivial⟩
    · rintro _ v w1 w2 _ ⟨u, hv, h⟩ hb
      exact ⟨u, hv, h.grow hb⟩
    · exact fun _ v w1 w2 _ h hb => h
  repeat (first
    | (refine Flow.skip_ rfl ?_; simp only [Act.put, List.setIfInBounds_toArray, List.set_cons_zero, List.set_cons_succ, Nat.reduceAdd])
    | (refine Flow.pure_ (v := ?_) rfl rfl ?_ ?_; rotate_left; focus (intro w hb; go_simp; try with_reducible rfl)
       simp only [Act.put, List.setIfInBounds_toArray, List.set_cons_zero, List.set_cons_succ, Nat.reduceAdd]))
  refine Flow.unk_ rfl rfl ?_ ?_
  · intro wf hb hk
    (try simp only [holdsF, lookF, lookV, List.map_cons, List.map_nil, List.headD_cons, List.getD_cons_zero, List.getD_cons_succ, Nat.reduceEqDiff, Nat.reduceAdd, ↓reduceIte, and_true] at hk ⊢)
    skip
    go_simp
    (refine (RowRead_ok ((HSB.out.grow HBW.out).grow hb) hl Q8.out HF.out.vals).mono ?_; rintro e w' ⟨v, rfl, ho, hb'⟩; rw [HA.out.2.2.2.2.2.2.2.1]; exact ⟨_, rfl, hb', _, rfl, ho.base hb.size⟩)
  intro v1
  simp only [Act.put, List.setIfInBounds_toArray, List.set_cons_zero, List.set_cons_succ, Nat.reduceAdd]
  (try simp only [holdsF, lookF, lookV, List.map_cons, List.map_nil, List.headD_cons, List.getD_cons_zero, List.getD_cons_succ, Nat.reduceEqDiff, Nat.reduceAdd, ↓reduceIte, and_true])
  repeat (first
    | (refine Flow.skip_ rfl ?_; simp only [Act.put, List.setIfInBounds_toArray, List.set_cons_zero, List.set_cons_succ, Nat.reduceAdd])
    | (refine Flow.pure_ (v := ?_) rfl rfl ?_ ?_; rotate_left; focus (intro w hb; go_simp; try with_reducible rfl)
       simp only [Act.put, List.setIfInBounds_toArray, List.set_cons_zero, List.set_cons_succ, Nat.reduceAdd]))
  refine Flow.unk_ rfl rfl ?_ ?_
  · intro wf hb hk
    (try simp only [holdsF, lookF, lookV, List.map_cons, List.map_nil, List.headD_cons, List.getD_cons_zero, List.getD_cons_succ, Nat.reduceEqDiff, Nat.reduceAdd, ↓reduceIte, and_true] at hk ⊢)
    (obtain ⟨u, rfl, -⟩ := hk)
    go_simp
    (exact Below.refl _ _)
  intro v2
  simp only [Act.put, List.setIfInBounds_toArray, List.set_cons_zero, List.set_cons_succ, Nat.reduceAdd]
  (try simp only [holdsF, lookF, lookV, List.map_cons, List.map_nil, List.headD_cons, List.getD_cons_zero, List.getD_cons_succ, Nat.reduceEqDiff, Nat.reduceAdd, ↓reduceIte, and_true])
  refine Flow.exact_ rfl rfl ?_ ?_
  · intro wf hb hk
    (try simp only [holdsF, lookF, lookV, List.map_cons, List.map_nil, List.headD_cons, List.getD_cons_zero, List.getD_cons_succ, Nat.reduceEqDiff, Nat.reduceAdd, ↓reduceIte, and_true] at hk ⊢)
    (obtain ⟨u, rfl, -⟩ := hk)
    go_simp
    (exact Below.refl _ _)
  simp only [Act.put, List.setIfInBounds_toArray, List.set_cons_zero, List.set_cons_succ, Nat.reduceAdd]
  refine Flow.exact_ rfl rfl ?_ ?_
  · intro wf hb hk
    (try simp only [holdsF, lookF, lookV, List.map_cons, List.map_nil, List.headD_cons, List.getD_cons_zero, List.getD_cons_succ, Nat.reduceEqDiff, Nat.reduceAdd, ↓reduceIte, and_true] at hk ⊢)
    (obtain ⟨u, rfl, -⟩ := hk)
    go_simp
    (exact Below.refl _ _)
  simp only [Act.put, List.setIfInBounds_toArray, List.set_cons_zero, List.set_cons_succ, Nat.reduceAdd]
  repeat (first
    | (refine Flow.skip_ rfl ?_; simp only [Act.put, List.setIfInBounds_toArray, List.set_cons_zero, List.set_cons_succ, Nat.reduceAdd])
    | (refine Flow.pure_ (v := ?_) rfl rfl ?_ ?_; rotate_left; focus (intro w hb; go_simp; try with_reducible rfl)
       simp only [Act.put, List.setIfInBounds_toArray, List.set_cons_zero, List.set_cons_succ, Nat.reduceAdd]))
  refine Flow.done_ (fun w8 hb8 hk => ?_)
  obtain ⟨h10, ⟨v8, h8, ho8⟩, -⟩ := hk
  obtain rfl : v2 = v8 := by
    rw [h8] at h10
    have := congrArg (fun v => match v with | .tuple a => a.getD 0 undef | _ => undef) h10
    exact this.symm
  subst h8
  clear h10
  obtain ⟨p8, c8, rfl, hs8⟩ := ho8.sl
  clear f0 f1
  have hg8 : w8.heap[g]? = some (.cells #[.slice p bs.length c, .int .i64 (a7 : Nat), .bool false] T (0, 0)) := (hb8.block g (heap_lt HGW.out)).trans HGW.out
  have e1 : w8.cell? ⟨g, 1, none⟩ = some (.int .i64 (a7 : Nat)) := heap_cell hg8
  have e2 : w8.cell? ⟨g, 2, none⟩ = some (.bool false) := heap_cell hg8
  have ef : ∀ o, w8.frozen? ⟨g, o, none⟩ = false := fun o => heap_frozen hg8
  have hx8 := (hb8.block w7.heap.size (heap_lt HWX.out)).trans HWX.out
  have x10 : w8.cell? ⟨w7.heap.size, 10, none⟩ = some (.slice none 0 0) := heap_cell hx8
  have xf : ∀ o, w8.frozen? ⟨w7.heap.size, o, none⟩ = false := fun o => heap_frozen hx8
  have hz8 : w7.heap.size + 1 ≤ w8.heap.size := by have := hb8.size; rw [HWZ.out] at this; exact this
  have hne3 : w7.heap.size ≠ g := by omega
  -- the world behind the two stores
  obtain ⟨W9, hW9⟩ : ∃ W9, W9 = (w8.setCell ⟨w7.heap.size, 10, none⟩ (.slice p8 x.vals.length c8)).setCell ⟨g, 1, none⟩ (.int .i64 (a8 : Nat)) := ⟨_, rfl⟩
  have hz9 : W9.heap.size = w8.heap.size := by rw [hW9]; simp [World.setCell]
  have hkeep : ∀ b, b ≠ w7.heap.size → b ≠ g → W9.heap[b]? = w8.heap[b]? := fun b h1 h2 => by
    rw [hW9]
    exact (Below.heap_setCell _ _ _ _ h2).trans (Below.heap_setCell _ _ _ _ h1)
  have hx9 : W9.heap[w7.heap.size]? = some (.cells #[.int .i64 x.dot.peer, .int .i64 x.dot.n, .slice p3 x.deps.length c3, .int .i64 x.stamp.phys, .int .i64 x.stamp.logic, .int .i64 x.stamp.peer, .int .i64 x.kind, .int .i64 x.table, .string x.key, .int .i64 x.col, .slice p8 x.vals.length c8, .slice none 0 0] 76 (0, 0)) := by
    rw [hW9]
    refine (Below.heap_setCell _ _ _ _ hne3).trans ?_
    have := heap_set (i := 10) (u := .slice p8 x.vals.length c8) hx8
    simpa using this
  have hM9 : Mod (OldX w g) w W9 := by
    have h7 : Mod (OldX w g) w w7 := (Mod.oldB (al1 w _)).old HM7.out
    have h8 : Mod (OldX w g) w w8 := (h7.old (Mod.oldB HBW.out)).old (Mod.oldB hb8)
    rw [hW9]
    exact (h8.setCell (p := ⟨w7.heap.size, 10, none⟩) (fun hx => by have := hx.1; simp at this; omega) _).setCell (p := ⟨g, 1, none⟩) (fun hx => hx.2 rfl) _
  have hR9 : Rd F (OldX W9 g) W9 g bs a8 := by
    have h8 := ((HR7.out.below HBW.out).below hb8).only
    rw [hW9]
    exact ((h8.setCell (p := ⟨w7.heap.size, 10, none⟩) hne3 (fun hx => by have := (HR7.out.old _ (hsub _ hx)); simp at this) _).put a8).full
  have hD3 : Sl (fun b => w.heap.size < b ∧ b < w8.heap.size ∧ b ≠ g ∧ b ≠ w7.heap.size) W9 p3 x.deps.length c3 x.deps := by
    obtain ⟨p', c', hv, hs⟩ := HO7.out.sl
    injection hv with v1 v2 v3
    subst v1; subst v3
    have h7 : Sl (fun b => w.heap.size < b ∧ b < w8.heap.size ∧ b ≠ g ∧ b ≠ w7.heap.size) w7 p3 x.deps.length c3 x.deps := hs.lt.mono fun b hb => by
      obtain ⟨hb1 | hb1, hb2⟩ := hb
      · exact hb1.elim
      · have := hb1.1
        exact ⟨by omega, by omega, by omega, by omega⟩
    exact (((h7.grow HBW.out).grow hb8).keep (w' := W9) fun b hb => hkeep b hb.2.2.2 hb.2.2.1)
  have hD8 : Sl (fun b => w.heap.size < b ∧ b < w8.heap.size ∧ b ≠ g ∧ b ≠ w7.heap.size) W9 p8 x.vals.length c8 x.vals := by
    have h8 : Sl (fun b => w.heap.size < b ∧ b < w8.heap.size ∧ b ≠ g ∧ b ≠ w7.heap.size) w8 p8 x.vals.length c8 x.vals := hs8.lt.mono fun b hb => by
      obtain ⟨hb1 | hb1, hb2⟩ := hb
      · exact hb1.elim
      · have := hb1.1
        rw [HWZ.out] at this
        exact ⟨by omega, by omega, by omega, by omega⟩
    exact h8.keep (w' := W9) fun b hb => hkeep b hb.2.2.2 hb.2.2.1
  have h29 : W9.heap[w.heap.size]? = some (.cells #[.int .i64 0, .int .i64 0, .slice none 0 0, .int .i64 0, .int .i64 0, .int .i64 0, .int .i64 0, .int .i64 0, .string ⟨#[]⟩, .int .i64 0, .slice none 0 0, .slice none 0 0] 76 (0, 0)) := by
    refine (hkeep _ (by omega) (by omega)).trans ?_
    refine (hb8.block _ (by rw [HWZ.out]; omega)).trans ?_
    refine (HBW.out.block _ (by omega)).trans ?_
    refine (HM7.out.agree _ ⟨by simp, by omega⟩).trans ?_
    exact heap_alloc_new _ _
  have HM9 := Lib.hid hM9; have HX9 := Lib.hid hx9; have H29 := Lib.hid h29; have HD3 := Lib.hid hD3; have HD8 := Lib.hid hD8; have HR9 := Lib.hid hR9; have HZ9 := Lib.hid hz9
  clear hb8 ho8 hs8 hg8 hx8 hM9 hx9 h29 hD3 hD8 hR9 hkeep hz9 HO3 HO4 HO5 HO6 HM1 HM2 HM3 HM4 HM5 HM6 HR1 HR2 HR3 HR4 HR5 HR6 H0 HM7 HR7 HO7 HSB HWX HBW HGW
  go_wp2_with fail
  rw [← hW9]
  clear hW9 e1 e2 ef x10 xf
  refine (OMany (most := 64) HR9.out hl Q9.out (fits_small (by omega) (by have := HF.out.len; omega)) (by have := HF.out.len; omega)).mono ?_
  rintro e w9 ⟨rfl, hRd, hMd⟩
  rw [HA.out.2.2.2.2.2.2.2.2] at hRd
  have HX10 := Lib.hid ((hMd.agree w7.heap.size ⟨by have := HZ9.out; omega, hne3⟩).trans HX9.out)
  have HRd := Lib.hid hRd; have HMd := Lib.hid hMd
  clear hRd hMd
  have h64 : x.dots.length ≤ 64 := HF.out.len
  go_wp2_with fail
  go_loopw [55] (fun i wr => ∃ (k : Nat) (v : Value), k ≤ x.dots.length ∧ i = .int .i64 k ∧ wr.heap[w7.heap.size]? = some (.cells #[.int .i64 x.dot.peer, .int .i64 x.dot.n, .slice p3 x.deps.length c3, .int .i64 x.stamp.phys, .int .i64 x.stamp.logic, .int .i64 x.stamp.peer, .int .i64 x.kind, .int .i64 x.table, .string x.key, .int .i64 x.col, .slice p8 x.vals.length c8, v] 76 (0, 0)) ∧ Own 70 w8.heap.size noB wr v (x.dots.take k) ∧ Rd F (OldX wr g) wr g bs (a9 + 5 * k) ∧ Mod (fun b => b < w8.heap.size ∧ b ≠ g ∧ b ≠ w7.heap.size) W9 wr) (fun i _ => x.dots.length - (intOf i).toNat)
  case atStart => exact ⟨0, .slice none 0 0, Nat.zero_le _, rfl, HX10.out, Own.nil _ _ _ _, HRd.out, HMd.out.mono fun b hb => ⟨by have := HZ9.out; omega, hb.2.1⟩⟩
  case round =>
    obtain ⟨k, v, hk, rfl, hx, ho, hR, hM⟩ := hrel
    have HXr := Lib.hid hx; have HO := Lib.hid ho; have HR := Lib.hid hR; have HM := Lib.hid hM
    have s1 : wr.cell? ⟨w7.heap.size, 11, none⟩ = some v := heap_cell hx
    have sf : ∀ o, wr.frozen? ⟨w7.heap.size, o, none⟩ = false := fun o => heap_frozen hx
    clear hx ho hR hM
    by_cases hlt : k < x.dots.length
    · have hRr := ((HR.out.below (below_drew (Below.refl _ _))).full)
      have HRr := Lib.hid hRr
      have HOr := Lib.hid (HO.out.grow (below_drew (Below.refl _ _)))
      have hqd := QD.out k hlt
      rw [dotsB_len, List.length_take, Nat.min_eq_left hk] at hqd
      have HQ := Lib.hid hqd
      have hdf := HF.out.dots _ (List.mem_of_getElem? (gt_get hlt))
      have HD := Lib.hid hdf
      have HI := Lib.hid (And.intro (i64_of_fits hdf.peer (by decide)) (i64_of_fits hdf.n (by decide)))
      have HLn := Lib.hid (show (x.dots.take k ++ [gt x.dots k]).length = k + 1 by rw [List.length_append, List.length_take, Nat.min_eq_left hk]; rfl)
      have hzr : w8.heap.size ≤ wr.heap.size := by have := HM.out.size; have := HZ9.out; omega
      clear hRr hqd hdf
      go_wp2
      go_region_law (first
        | (refine step_gives (R := fun v w2 => v = .agg #[.int .i64 (gt x.dots k).peer, .int .i64 (gt x.dots k).n] ∧ Rd F (OldX w2 g) w2 g bs (a9 + 5 * k + 5) ∧ Mod (OldX wr.drew g) wr.drew w2) rfl (by go_simp; exact (ODot (x := gt x.dots k) HRr.out hl HQ.out HD.out).mono fun _ _ h => ⟨_, h.1, rfl, h.2⟩) ?_; rintro _ w2 ⟨rfl, hR2, hM2⟩; have s2 : w2.cell? ⟨w7.heap.size, 11, none⟩ = some v := hM2.cell ⟨by show w7.heap.size < wr.heap.size; omega, hne3⟩ s1; have s2a : ∀ o, (w2.alloc o).cell? ⟨w7.heap.size, 11, none⟩ = some v := fun o => cell_later (al1 w2 o) s2; have HO2 := Lib.hid (HOr.out.mod hM2 (by omega)); have hzz : w8.heap.size ≤ w2.heap.size := Nat.le_trans hzr hM2.size; have HR2 := Lib.hid hR2; have HM2 := Lib.hid hM2; clear hR2 hM2)
        | (refine step_append_Own (α := Dot) rfl (.tmp 58) (.tmp 61) rfl Try.underlying74 (z := .agg #[.int .i64 0, .int .i64 0]) (bytes := 16) (by kernel_rfl) rfl (by decide) (by rfl) (by rfl) (HO2.out.alloc _) (sl_dot (F := fun b => b = w2.heap.size) HI.out rfl rfl) (fun b hb e => absurd (HO2.out.block _ e).2 (by rw [hb]; omega)) (by simp; omega) (by rw [List.length_take]; have := HF.out.len; omega) ?_; intro v' w3 ho3 hg3 hat; obtain ⟨p', c', rfl, -⟩ := ho3.sl; rw [HLn.out] at ho3; have hx3 := (hg3.block w7.heap.size (by simp; omega) (fun e => absurd (HO2.out.block _ e.symm).1 (by omega))).trans (((al1 w2 _).block w7.heap.size (by omega)).trans ((HM2.out.agree w7.heap.size ⟨by show w7.heap.size < wr.heap.size; omega, hne3⟩).trans HXr.out)); have s3 := heap_cell (i := 11) hx3; simp only [List.getElem?_toArray, List.getElem?_cons_succ, List.getElem?_cons_zero] at s3; have sf3 : ∀ o, w3.frozen? ⟨w7.heap.size, o, none⟩ = false := fun o => heap_frozen hx3; have HX3 := Lib.hid hx3; clear hx3))
      all_goals
        have HX4 := Lib.hid (heap_set (i := 11) (u := .slice p' (k + 1) c') HX3.out)
        have hvb : ∀ b, v.ownBlock = some b → w8.heap.size ≤ b := fun b hb => (HO2.out.block b hb).1
        have hR4 : Rd F F (w3.setCell ⟨w7.heap.size, 11, none⟩ (.slice p' (k + 1) c')) g bs (a9 + 5 * k + 5) := by
          refine (((HR2.out.only).below (al1 w2 _)).grown hg3 (fun b hb => ⟨by have := hvb b hb; omega, fun hF => ?_⟩)).setCell (p := ⟨w7.heap.size, 11, none⟩) hne3 (fun hF => ?_) _
          · have h1 := (hsub _ hF).1
            have := hvb b hb
            omega
          · have h1 := (hsub _ hF).1
            simp at h1
        have HR4 := Lib.hid hR4.full
        have hM4 : Mod (fun b => b < w8.heap.size ∧ b ≠ g ∧ b ≠ w7.heap.size) W9 (w3.setCell ⟨w7.heap.size, 11, none⟩ (.slice p' (k + 1) c')) := by
          have h1 : Mod (fun b => b < w8.heap.size ∧ b ≠ g ∧ b ≠ w7.heap.size) wr w2 := ⟨HM2.out.os, HM2.out.tape, HM2.out.output, HM2.out.size, fun b hb => HM2.out.agree b ⟨Nat.lt_of_lt_of_le hb.1 hzr, hb.2.1⟩⟩
          have h2 := ((HM.out.trans h1).alloc (fun b hb => by have := hb.1; omega) _).grown hg3 (fun b hb => by have := hb.1; simp; omega) (fun b hb hx => by have := hvb b hb; have := hx.1; omega)
          exact h2.setCell (p := ⟨w7.heap.size, 11, none⟩) (fun hx => hx.2.2 rfl) _
        have HM4 := Lib.hid hM4
        have hO4 : Own 70 w8.heap.size noB (w3.setCell ⟨w7.heap.size, 11, none⟩ (.slice p' (k + 1) c')) (.slice p' (k + 1) c') (x.dots.take (k + 1)) := by
          rw [take_snoc' hlt]
          have h1 := (ho3.flat (G := noB))
          refine h1.keep (fun b hb => hb.elim) fun b hb => Below.heap_setCell _ _ _ _ fun e => ?_
          have h2 := (h1.block b hb).1
          have h3 : b = w7.heap.size := e
          omega
        have HO4 := Lib.hid hO4
        clear hR4 hM4 hO4 ho3 hg3 hat hvb s1 s2 s2a s3 sf sf3
        go_wp2
        go_roundw
        case rel => exact ⟨k + 1, .slice p' (k + 1) c', by omega, by go_num, by simpa using HX4.out, HO4.out, by rw [show a9 + 5 * (k + 1) = a9 + 5 * k + 5 by omega]; exact HR4.out, HM4.out⟩
        case measure => simp [intOf]; omega
    · obtain rfl : k = x.dots.length := by omega
      have hxr := HXr.out
      have h2r := (HM.out.agree w.heap.size ⟨by omega, by omega, by omega⟩).trans H29.out
      obtain ⟨pd, cd, rfl, hsd⟩ := HO.out.sl
      rw [List.take_length] at hxr hsd
      have x0 := heap_cell (i := 0) hxr; have x1 := heap_cell (i := 1) hxr; have x2 := heap_cell (i := 2) hxr; have x3 := heap_cell (i := 3) hxr; have x4 := heap_cell (i := 4) hxr; have x5 := heap_cell (i := 5) hxr; have x6 := heap_cell (i := 6) hxr; have x7 := heap_cell (i := 7) hxr; have x8 := heap_cell (i := 8) hxr; have x9 := heap_cell (i := 9) hxr; have x10 := heap_cell (i := 10) hxr; have x11 := heap_cell (i := 11) hxr
      have y0 := heap_cell (i := 0) h2r; have y1 := heap_cell (i := 1) h2r; have y2 := heap_cell (i := 2) h2r; have y3 := heap_cell (i := 3) h2r; have y4 := heap_cell (i := 4) h2r; have y5 := heap_cell (i := 5) h2r; have y6 := heap_cell (i := 6) h2r; have y7 := heap_cell (i := 7) h2r; have y8 := heap_cell (i := 8) h2r; have y9 := heap_cell (i := 9) h2r; have y10 := heap_cell (i := 10) h2r; have y11 := heap_cell (i := 11) h2r
      simp only [List.getElem?_toArray, List.getElem?_cons_succ, List.getElem?_cons_zero] at x0 x1 x2 x3 x4 x5 x6 x7 x8 x9 x10 x11 y0 y1 y2 y3 y4 y5 y6 y7 y8 y9 y10 y11
      have yf : ∀ o, wr.frozen? ⟨w.heap.size, o, none⟩ = false := fun o => heap_frozen h2r
      have HSD := Lib.hid hsd
      clear hsd h2r hxr s1 sf
      go_wp2
      refine bodyPost_ret (v := .agg #[.int .i64 x.dot.peer, .int .i64 x.dot.n, .slice p3 x.deps.length c3, .int .i64 x.stamp.phys, .int .i64 x.stamp.logic, .int .i64 x.stamp.peer, .int .i64 x.kind, .int .i64 x.table, .string x.key, .int .i64 x.col, .slice p8 x.vals.length c8, .slice pd x.dots.length cd]) ?_ rfl ?_
      · simp [results, Try.results44, go_sem, y0, y1, y2, y3, y4, y5, y6, y7, y8, y9, y10, y11, yf]
      · generalize hWf : World.setCell (World.setCell _ _ _) _ _ = Wf
        have hoth : ∀ b, b ≠ w.heap.size → Wf.heap[b]? = wr.heap[b]? := fun b hb => by
          rw [← hWf]
          repeat (refine (Below.heap_setCell _ _ _ _ hb).trans ?_)
          rfl
        have hRf : Rd F F Wf g bs (a9 + 5 * x.dots.length) := by
          rw [← hWf]
          repeat (refine Rd.setCell ?_ (show w.heap.size ≠ g by omega) (fun hF => Nat.lt_irrefl _ (HFw.out _ hF)) _)
          exact HR.out.only
        have hMf : Mod (OldX w g) w Wf := by
          rw [← hWf]
          repeat (refine Mod.setCell ?_ (fun hx => Nat.lt_irrefl _ hx.1) _)
          exact HM9.out.trans (HM.out.mono fun b hb => ⟨by have := hb.1; omega, hb.2, by have := hb.1; omega⟩)
        have hf := HF.out
        refine ⟨_, rfl, ⟨_, _, _, _, _, _, _, _, _, rfl, ⟨i64_of_fits hf.dot.peer (by decide), i64_of_fits hf.dot.n (by decide), i64_of_fits hf.stamp.phys (by decide), i64_of_fits hf.stamp.logic (by decide), i64_of_fits hf.stamp.peer (by decide), i64_of_fits hf.kind (by decide), i64_of_fits hf.table (by decide), by have := hf.key; unfold maxLen; omega, i64_of_fits hf.col (by decide)⟩, ?_, ?_, ?_⟩, ?_, hMf⟩
        · exact ((HD3.out.keep (w' := wr) fun b hb => HM.out.agree b hb.2).keep (w' := Wf) fun b hb => hoth b (by have := hb.1; omega)).mono fun b hb => Nat.le_of_lt hb.1
        · exact ((HD8.out.keep (w' := wr) fun b hb => HM.out.agree b hb.2).keep (w' := Wf) fun b hb => hoth b (by have := hb.1; omega)).mono fun b hb => Nat.le_of_lt hb.1
        · have h1 : Sl (fun b => w8.heap.size ≤ b) wr pd x.dots.length cd x.dots := HSD.out.mono fun b hb => by
            rcases hb with hb | hb
            · exact hb.elim
            · exact hb.1
          exact (h1.keep (w' := Wf) fun b hb => hoth b (by omega)).mono fun b hb => by unfold newB; omega
        · have hlen : a + (opB x).length = a9 + 5 * x.dots.length := by
            have := HA.out
            unfold opB
            simp only [List.length_append, be_length, dotB_len, numsB_len, stampB_len, textB_len, dotsB_len]
            omega
          rw [hlen]
          exact hRf.full
end Go.Proofs.Ytpmdkmpmpjdglaa
