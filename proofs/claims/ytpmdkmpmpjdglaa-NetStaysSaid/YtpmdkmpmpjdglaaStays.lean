/- The law NetStays, walked. -/
import Derived.Test.YtpmdkmpmpjdglaaWakes
set_option linter.unusedSimpArgs false
set_option linter.unusedVariables false
namespace Go.Proofs.Ytpmdkmpmpjdglaa
open Go Go.RowKit
open Rep (vr)

set_option maxRecDepth 100000 in
set_option maxHeartbeats 400000 in
theorem NetStays_heavy {F : Blks} {p : Option Addr} {n c : Nat} {l : List Letter} {w : World} {at_ : Int} (h1 : Sl F w p n c l) (hh : heavyL l = true) :
    Calls Try.prog 5 #[.slice p n c, .int .i64 at_] w fun e w' => e = .returned (.bool true) ∧ Below w.heap.size w w' := by
  go_enter Try.func5, Try.ntmps5
  go_wp2_with fail
  refine (Heavy_any h1).mono ?_
  rintro e w1 ⟨rfl, rfl⟩
  rw [hh]
  go_wp2
  go_ret
  exact ⟨rfl, Below.refl _ _⟩

set_option maxRecDepth 100000 in
set_option maxHeartbeats 400000 in
theorem NetStays_yes {F : Blks} {p : Option Addr} {n c : Nat} {l : List Letter} {w : World} {k : Nat} (h1 : Sl F w p n c l) (hh : heavyL l = false) (hk : k < n) :
    Calls Try.prog 5 #[.slice p n c, .int .i64 k] w fun e w' => e = .returned (.bool true) ∧ Below w.heap.size w w' := by
  obtain ⟨hn60, hl300⟩ := not_heavyL hh
  have hln := h1.len
  have hnc := h1.le
  have hcm : c ≤ 9223372036854775807 := by have := h1.max; unfold maxLen at this; exact this
  have hn : n ≤ 60 := by omega
  have hl2 : ∀ x ∈ l, x.body.length ≤ 140737488355328 := fun x hx => Nat.le_trans (hl300 x hx) (by decide)
  have hdn : decide ((k : Int) < 0) = false := by simp
  have hdk : decide ((n : Int) ≤ (k : Int)) = false := by simp; omega
  have H1 := Lib.hid h1; have HH := Lib.hid hh; have HL2 := Lib.hid hl2; have HLN := Lib.hid hln
  clear h1 hh hl2 hl300 hn60 hln
  go_enter Try.func5, Try.ntmps5
  go_wp2_with fail
  refine (Heavy_any H1.out).mono ?_
  rintro e w1 ⟨rfl, rfl⟩
  rw [HH.out]
  go_wp2_with fail
  refine (Take_yes (k := k) H1.out hk (by omega) HL2.out).mono ?_
  rintro e w1 ⟨v1, u1, rfl, ho1, hu1, hb1⟩
  obtain ⟨q1, d1, rfl, hs1⟩ := ho1.sl
  obtain ⟨q2, n2, d2, rfl, hi2, hs2⟩ := hu1
  have hcut : (l.take k ++ l.drop (k + 1)).length = n - 1 := by have := HLN.out; simp; omega
  rw [hcut] at hs1 ⊢
  have HS1 := Lib.hid hs1; have HS2 := Lib.hid hs2; have HI := Lib.hid hi2; have HB1 := Lib.hid hb1
  clear ho1 hs1 hs2 hi2 hb1 hcut
  go_wp2_with fail
  have HBA := Lib.hid (al1 w1 (.cells #[.int .i64 (gt l k).fr, .int .i64 (gt l k).to, .slice q2 n2 d2] 39))
  refine (Copy_yes (k := k) (H1.out.grow (below2 HB1.out HBA.out)) hk (by omega) HL2.out).mono ?_
  rintro e w2 ⟨v3, rfl, ho3, hb3⟩
  obtain ⟨q3, d3, rfl, hs3⟩ := ho3.sl
  have hcl : (l ++ [gt l k]).length = n + 1 := by have := HLN.out; simp; omega
  rw [hcl] at hs3 ⊢
  have HS3 := Lib.hid hs3; have HB3 := Lib.hid hb3
  have hle3 := hs3.le
  have hmx3 : d3 ≤ 9223372036854775807 := by have := hs3.max; unfold maxLen at this; exact this
  have hle1 := HS1.out.le
  have hmx1 : d1 ≤ 9223372036854775807 := by have := HS1.out.max; unfold maxLen at this; exact this
  have hz := hb3.size
  simp at hz
  have f0 : ∀ w', Below w2.heap.size w2 w' → w'.cell? ⟨w1.heap.size, 0, none⟩ = some (.int .i64 (gt l k).fr) := fun w' h => (cell_later (below2 hb3 h) (a := ⟨w1.heap.size, 0, none⟩) (v := .int .i64 (gt l k).fr) (by go_simp))
  have f1 : ∀ w', Below w2.heap.size w2 w' → w'.cell? ⟨w1.heap.size, 1, none⟩ = some (.int .i64 (gt l k).to) := fun w' h => (cell_later (below2 hb3 h) (a := ⟨w1.heap.size, 1, none⟩) (v := .int .i64 (gt l k).to) (by go_simp))
  have f2 : ∀ w', Below w2.heap.size w2 w' → w'.cell? ⟨w1.heap.size, 2, none⟩ = some (.slice q2 n2 d2) := fun w' h => (cell_later (below2 hb3 h) (a := ⟨w1.heap.size, 2, none⟩) (v := .slice q2 n2 d2) (by go_simp))
  have HB2 := Lib.hid (below2 HB1.out (below2 HBA.out hb3))
  have HG := Lib.hid (And.intro (H1.out.grow HB2.out) (And.intro (HS1.out.grow (below2 HBA.out hb3)) (And.intro (HS2.out.grow (below2 HBA.out hb3)) hs3)))
  have hm1 : IntKind.i64.wrap ((n : Int) - 1) = ((n - 1 : Nat) : Int) := by rw [IntWalk.i64_in _ (by omega)]; omega
  have hm2 : IntKind.i64.wrap ((n : Int) + 1) = ((n + 1 : Nat) : Int) := by rw [IntWalk.i64_in _ (by omega)]; omega
  have hm3 : IntKind.i64.wrap ((k : Int) + 1) = ((k + 1 : Nat) : Int) := by rw [IntWalk.i64_in _ (by omega)]; omega
  have hkd1 : k ≤ d1 := by omega
  have hkc : k ≤ c := by omega
  have hkc1 : k + 1 ≤ c := by omega
  have hkn1 : k ≤ n - 1 := by omega
  have hkn2 : k + 1 ≤ n := by omega
  have hn3 : n ≤ d3 := by omega
  have hk0 : (0 : Int) ≤ (k : Int) + 1 := by omega
  have hnni : (n : Int) ≤ (n : Int) + 1 := by omega
  have hkci : (k : Int) + 1 ≤ (c : Int) := by omega
  have hk2 : (k : Int) + 1 ≤ (n : Int) := by omega
  have hk3 : ((k : Int) + 1).toNat = k + 1 := by omega
  have HX := Lib.hid (show (Sl allB w2 q1 k d1 (l.take k) ∧ Sl allB w2 p k c (l.take k)) ∧ (Sl allB w2 (if d1 = k then q1 else q1.map (·.add (k * 3))) (n - 1 - k) (d1 - k) (l.drop (k + 1)) ∧ Sl allB w2 (if c = k + 1 then p else p.map (·.add ((k + 1) * 3))) (n - (k + 1)) (c - (k + 1)) (l.drop (k + 1))) ∧
      Sl allB w2 (if c = k then p else p.map (·.add (k * 3))) 1 (c - k) [gt l k] ∧ (Sl allB w2 q3 n d3 l ∧ Sl allB w2 p n c l) ∧ Sl allB w2 (if d3 = n then q3 else q3.map (·.add (n * 3))) 1 (d3 - n) [gt l k] ∧ vr allB w2 (.agg #[.int .i64 (gt l k).fr, .int .i64 (gt l k).to, .slice q2 n2 d2]) (gt l k) from by
    obtain ⟨g1, g2, g3, g4⟩ := HG.out
    have hl := HLN.out
    have e1 : (l.take k ++ l.drop (k + 1)).take k = l.take k := by rw [List.take_append_of_le_length (by simp; omega), List.take_take, Nat.min_self]
    have e2 : (l.take k ++ l.drop (k + 1)).drop k = l.drop (k + 1) := by rw [List.drop_append_of_le_length (by simp; omega), List.drop_take]; simp
    have e3 : (l ++ [gt l k]).take n = l := by rw [← hl]; simp
    have e4 : (l ++ [gt l k]).drop n = [gt l k] := by rw [← hl]; simp
    have e5 : (l.take (k + 1)).drop k = [gt l k] := by
      rw [List.take_succ_eq_append_getElem (by omega), List.drop_append_of_le_length (by simp; omega), List.drop_take, gt_eq (List.getElem?_eq_getElem (by omega))]
      simp
    have T : ∀ {α : Type} [Rep α] {F : Blks} {p : Option Addr} {n c : Nat} {x : List α}, Sl F w2 p n c x → Sl allB w2 p n c x := fun h => h.mono fun _ _ => trivial
    refine ⟨⟨?_, T (g1.take (by omega))⟩, ⟨?_, T (g1.drop (by omega))⟩, ?_, ⟨?_, T g1⟩, ?_, ⟨q2, n2, d2, rfl, HI.out, T g3⟩⟩
    · have := T (g2.take (k := k) (by omega)); rw [e1] at this; exact this
    · have := T (g2.drop (k := k) (by omega)); rw [e2] at this; exact this
    · have := T ((g1.take (k := k + 1) (by omega)).drop (k := k) (by omega)); rw [e5, show k + 1 - k = 1 by omega] at this; exact this
    · have := T (g4.take (k := n) (by omega)); rw [e3] at this; exact this
    · have := T (g4.drop (k := n) (by omega)); rw [e4, show n + 1 - n = 1 by omega] at this; exact this)
  clear ho3 hs3 hb3 hcl HB3 HBA HG HS1 HS2 HS3
  go_wp2
  refine wp_flowL 74 [(21, .exact [] (.bool true)), (31, .exact [] (.bool true)), (35, .unk [] fun _ v wr => ∃ q, v = .slice (some q) 1 1 ∧ Sl allB wr (some q) 1 1 [gt l k]), (41, .exact [35] (.bool true)), (57, .exact [] (.bool true)), (69, .exact [] (.bool true)), (72, .exact [] (.bool true))] (by kernel_rfl) (by kernel_rfl) ?_ ?_
  · refine ⟨?_, trivial⟩
    rintro _ v w1 w2 _ ⟨q, hv, h⟩ hb
    exact ⟨q, hv, h.grow hb⟩
  repeat (first
    | (refine Flow.skip_ rfl ?_; simp only [Act.put, List.setIfInBounds_toArray, List.set_cons_zero, List.set_cons_succ, Nat.reduceAdd])
    | (refine Flow.pure_ (v := ?_) rfl rfl ?_ ?_; rotate_left; focus (intro w hb; go_simp; try with_reducible rfl)
       simp only [Act.put, List.setIfInBounds_toArray, List.set_cons_zero, List.set_cons_succ, Nat.reduceAdd]))
  refine Flow.exact_ rfl rfl ?_ ?_
  · intro wf hb hk
    (try simp only [holdsF, lookF, lookV, List.map_cons, List.map_nil, List.headD_cons, List.getD_cons_zero, List.getD_cons_succ, Nat.reduceEqDiff, Nat.reduceAdd, ↓reduceIte, and_true] at hk ⊢)
    go_simp
    (refine (Letters_eq (HX.out.1.1.grow hb) (HX.out.1.2.grow hb)).mono ?_; rintro e w' ⟨rfl, hb'⟩; exact ⟨_, rfl, rfl, hb'⟩)
  simp only [Act.put, List.setIfInBounds_toArray, List.set_cons_zero, List.set_cons_succ, Nat.reduceAdd]
  repeat (first
    | (refine Flow.skip_ rfl ?_; simp only [Act.put, List.setIfInBounds_toArray, List.set_cons_zero, List.set_cons_succ, Nat.reduceAdd])
    | (refine Flow.pure_ (v := ?_) rfl rfl ?_ ?_; rotate_left; focus (intro w hb; go_simp; try with_reducible rfl)
       simp only [Act.put, List.setIfInBounds_toArray, List.set_cons_zero, List.set_cons_succ, Nat.reduceAdd]))
  refine Flow.exact_ rfl rfl ?_ ?_
  · intro wf hb hk
    (try simp only [holdsF, lookF, lookV, List.map_cons, List.map_nil, List.headD_cons, List.getD_cons_zero, List.getD_cons_succ, Nat.reduceEqDiff, Nat.reduceAdd, ↓reduceIte, and_true] at hk ⊢)
    go_simp
    (refine (Letters_eq (HX.out.2.1.1.grow hb) (HX.out.2.1.2.grow hb)).mono ?_; rintro e w' ⟨rfl, hb'⟩; exact ⟨_, rfl, rfl, hb'⟩)
  simp only [Act.put, List.setIfInBounds_toArray, List.set_cons_zero, List.set_cons_succ, Nat.reduceAdd]
  repeat (first
    | (refine Flow.skip_ rfl ?_; simp only [Act.put, List.setIfInBounds_toArray, List.set_cons_zero, List.set_cons_succ, Nat.reduceAdd])
    | (refine Flow.pure_ (v := ?_) rfl rfl ?_ ?_; rotate_left; focus (intro w hb; go_simp; try with_reducible rfl)
       simp only [Act.put, List.setIfInBounds_toArray, List.set_cons_zero, List.set_cons_succ, Nat.reduceAdd]))
  refine Flow.unk_ rfl rfl ?_ ?_
  · intro wf hb hk
    (try simp only [holdsF, lookF, lookV, List.map_cons, List.map_nil, List.headD_cons, List.getD_cons_zero, List.getD_cons_succ, Nat.reduceEqDiff, Nat.reduceAdd, ↓reduceIte, and_true] at hk ⊢)
    skip
    go_simp
    (exact ⟨al1 _ _, Sl.lit (α := Letter) (xs := [gt l k]) (t := 39) (fz := (0, 0)) (heap_alloc_new _ _) [_] rfl rfl (elems1 (vr_grow (vr_grow HX.out.2.2.2.2.2 hb) (al1 _ _))) trivial (by simp)⟩)
  intro v35
  simp only [Act.put, List.setIfInBounds_toArray, List.set_cons_zero, List.set_cons_succ, Nat.reduceAdd]
  (try simp only [holdsF, lookF, lookV, List.map_cons, List.map_nil, List.headD_cons, List.getD_cons_zero, List.getD_cons_succ, Nat.reduceEqDiff, Nat.reduceAdd, ↓reduceIte, and_true])
  repeat (first
    | (refine Flow.skip_ rfl ?_; simp only [Act.put, List.setIfInBounds_toArray, List.set_cons_zero, List.set_cons_succ, Nat.reduceAdd])
    | (refine Flow.pure_ (v := ?_) rfl rfl ?_ ?_; rotate_left; focus (intro w hb; go_simp; try with_reducible rfl)
       simp only [Act.put, List.setIfInBounds_toArray, List.set_cons_zero, List.set_cons_succ, Nat.reduceAdd]))
  refine Flow.exact_ rfl rfl ?_ ?_
  · intro wf hb hk
    (try simp only [holdsF, lookF, lookV, List.map_cons, List.map_nil, List.headD_cons, List.getD_cons_zero, List.getD_cons_succ, Nat.reduceEqDiff, Nat.reduceAdd, ↓reduceIte, and_true] at hk ⊢)
    go_simp
    (obtain ⟨q, rfl, h35⟩ := hk; refine (Letters_eq h35 (HX.out.2.2.1.grow hb)).mono ?_; rintro e w' ⟨rfl, hb'⟩; exact ⟨_, rfl, rfl, hb'⟩)
  simp only [Act.put, List.setIfInBounds_toArray, List.set_cons_zero, List.set_cons_succ, Nat.reduceAdd]
  repeat (first
    | (refine Flow.skip_ rfl ?_; simp only [Act.put, List.setIfInBounds_toArray, List.set_cons_zero, List.set_cons_succ, Nat.reduceAdd])
    | (refine Flow.pure_ (v := ?_) rfl rfl ?_ ?_; rotate_left; focus (intro w hb; go_simp; try with_reducible rfl)
       simp only [Act.put, List.setIfInBounds_toArray, List.set_cons_zero, List.set_cons_succ, Nat.reduceAdd]))
  refine Flow.exact_ rfl rfl ?_ ?_
  · intro wf hb hk
    (try simp only [holdsF, lookF, lookV, List.map_cons, List.map_nil, List.headD_cons, List.getD_cons_zero, List.getD_cons_succ, Nat.reduceEqDiff, Nat.reduceAdd, ↓reduceIte, and_true] at hk ⊢)
    go_simp
    (refine (Letters_eq (HX.out.2.2.2.1.1.grow hb) (HX.out.2.2.2.1.2.grow hb)).mono ?_; rintro e w' ⟨rfl, hb'⟩; exact ⟨_, rfl, rfl, hb'⟩)
  simp only [Act.put, List.setIfInBounds_toArray, List.set_cons_zero, List.set_cons_succ, Nat.reduceAdd]
  repeat (first
    | (refine Flow.skip_ rfl ?_; simp only [Act.put, List.setIfInBounds_toArray, List.set_cons_zero, List.set_cons_succ, Nat.reduceAdd])
    | (refine Flow.pure_ (v := ?_) rfl rfl ?_ ?_; rotate_left; focus (intro w hb; go_simp; try with_reducible rfl)
       simp only [Act.put, List.setIfInBounds_toArray, List.set_cons_zero, List.set_cons_succ, Nat.reduceAdd]))
  refine Flow.exact_ rfl rfl ?_ ?_
  · intro wf hb hk
    (try simp only [holdsF, lookF, lookV, List.map_cons, List.map_nil, List.headD_cons, List.getD_cons_zero, List.getD_cons_succ, Nat.reduceEqDiff, Nat.reduceAdd, ↓reduceIte, and_true] at hk ⊢)
    go_simp
    (refine (Letters_eq (HX.out.2.2.2.2.1.grow hb) (HX.out.2.2.1.grow hb)).mono ?_; rintro e w' ⟨rfl, hb'⟩; exact ⟨_, rfl, rfl, hb'⟩)
  simp only [Act.put, List.setIfInBounds_toArray, List.set_cons_zero, List.set_cons_succ, Nat.reduceAdd]
  repeat (first
    | (refine Flow.skip_ rfl ?_; simp only [Act.put, List.setIfInBounds_toArray, List.set_cons_zero, List.set_cons_succ, Nat.reduceAdd])
    | (refine Flow.pure_ (v := ?_) rfl rfl ?_ ?_; rotate_left; focus (intro w hb; go_simp; try with_reducible rfl)
       simp only [Act.put, List.setIfInBounds_toArray, List.set_cons_zero, List.set_cons_succ, Nat.reduceAdd]))
  refine Flow.exact_ rfl rfl ?_ ?_
  · intro wf hb hk
    (try simp only [holdsF, lookF, lookV, List.map_cons, List.map_nil, List.headD_cons, List.getD_cons_zero, List.getD_cons_succ, Nat.reduceEqDiff, Nat.reduceAdd, ↓reduceIte, and_true] at hk ⊢)
    go_simp
    (refine wakes_any.mono ?_; rintro e w' ⟨rfl, hb'⟩; exact ⟨_, rfl, rfl, hb'⟩)
  simp only [Act.put, List.setIfInBounds_toArray, List.set_cons_zero, List.set_cons_succ, Nat.reduceAdd]
  repeat (first
    | (refine Flow.skip_ rfl ?_; simp only [Act.put, List.setIfInBounds_toArray, List.set_cons_zero, List.set_cons_succ, Nat.reduceAdd])
    | (refine Flow.pure_ (v := ?_) rfl rfl ?_ ?_; rotate_left; focus (intro w hb; go_simp; try with_reducible rfl)
       simp only [Act.put, List.setIfInBounds_toArray, List.set_cons_zero, List.set_cons_succ, Nat.reduceAdd]))
  refine Flow.done_ (fun wr hbr hk => ?_)
  go_wp2
  all_goals
    go_ret
    exact ⟨rfl, below2 HB2.out hbr⟩

set_option maxRecDepth 100000 in
set_option maxHeartbeats 400000 in
theorem NetStays_no {F : Blks} {p : Option Addr} {n c : Nat} {l : List Letter} {w : World} {at_ : Int} (h1 : Sl F w p n c l) (hh : heavyL l = false) (hk : ¬ (0 ≤ at_ ∧ at_ < n)) :
    Calls Try.prog 5 #[.slice p n c, .int .i64 at_] w fun e w' => e = .returned (.bool true) ∧ Below w.heap.size w w' := by
  have hnc := h1.le
  have H1 := Lib.hid h1; have HH := Lib.hid hh; have HK := Lib.hid hk
  have hout : (decide (at_ < 0) = true) ∨ (decide (at_ < 0) = false ∧ decide ((n : Int) ≤ at_) = true) := by
    by_cases h : at_ < 0
    · exact .inl (by simpa using h)
    · exact .inr ⟨by simpa using h, by simp; omega⟩
  clear h1 hh hk
  go_enter Try.func5, Try.ntmps5
  go_wp2_with fail
  refine (Heavy_any H1.out).mono ?_
  rintro e w1 ⟨rfl, rfl⟩
  rw [HH.out]
  go_wp2_with fail
  refine (Take_no HK.out).mono ?_
  rintro e w1 ⟨rfl, hb1⟩
  have HB1 := Lib.hid hb1
  clear hb1
  go_wp2_with fail
  have hba := al1 w1 (.cells #[.int .i64 0, .int .i64 0, .slice none 0 0] 39)
  refine (Copy_no HK.out).mono ?_
  rintro e w2 ⟨rfl, hb3⟩
  have f0 : w2.cell? ⟨w1.heap.size, 0, none⟩ = some (.int .i64 0) := cell_later hb3 (a := ⟨w1.heap.size, 0, none⟩) (v := .int .i64 0) (by go_simp)
  have f1 : w2.cell? ⟨w1.heap.size, 1, none⟩ = some (.int .i64 0) := cell_later hb3 (a := ⟨w1.heap.size, 1, none⟩) (v := .int .i64 0) (by go_simp)
  have f2 : w2.cell? ⟨w1.heap.size, 2, none⟩ = some (.slice none 0 0) := cell_later hb3 (a := ⟨w1.heap.size, 2, none⟩) (v := .slice none 0 0) (by go_simp)
  have HB2 := Lib.hid (below2 HB1.out (below2 hba hb3))
  clear hba hb3
  rcases hout with hd1 | ⟨hd1, hd2⟩
  all_goals
    go_wp2_with fail
    have hL : ∀ (W : World) (g : Nat), W.heap[g]? = some (.cells #[.int .i64 0, .int .i64 0, .slice none 0 0] 39 (0, 0)) → Sl allB W (some ⟨g, 0, none⟩) 1 1 [(⟨0, 0, []⟩ : Letter)] := fun W g h =>
      Sl.lit (α := Letter) (xs := [(⟨0, 0, []⟩ : Letter)]) h [.agg #[.int .i64 0, .int .i64 0, .slice none 0 0]] rfl rfl (elems1 ⟨none, 0, 0, rfl, ⟨i64_of (by decide), i64_of (by decide)⟩, Sl.nil _ _ none 0 (by simp [maxLen])⟩) trivial (by simp)
    refine (Letters_eq (hL _ w2.heap.size (((al1 (w2.alloc _) _).block _ (by simp)).trans (heap_alloc_new w2 _))) (hL _ (w2.heap.size + 1) (by simpa using heap_alloc_new (w2.alloc (.cells #[.int .i64 0, .int .i64 0, .slice none 0 0] 39)) (.cells #[.int .i64 0, .int .i64 0, .slice none 0 0] 39)))).mono ?_
    rintro e w4 ⟨rfl, hb4⟩
    have HB4 := Lib.hid (below2 HB2.out (below2 (al2 _ _ _) hb4))
    clear hL hb4 f0 f1 f2
    go_wp2_with fail
    refine wakes_any.mono ?_
    rintro e w5 ⟨rfl, hb5⟩
    go_wp2
    go_ret
    exact ⟨rfl, below2 HB4.out hb5⟩

theorem NetStays_any {F : Blks} {p : Option Addr} {n c : Nat} {l : List Letter} {w : World} {at_ : Int} (h1 : Sl F w p n c l) :
    Calls Try.prog 5 #[.slice p n c, .int .i64 at_] w fun e w' => e = .returned (.bool true) ∧ Below w.heap.size w w' := by
  cases hh : heavyL l with
  | true => exact NetStays_heavy h1 hh
  | false =>
    by_cases hk : 0 ≤ at_ ∧ at_ < n
    · obtain ⟨k, rfl⟩ := Int.eq_ofNat_of_zero_le hk.1
      exact NetStays_yes h1 hh (by omega)
    · exact NetStays_no h1 hh hk
end Go.Proofs.Ytpmdkmpmpjdglaa
