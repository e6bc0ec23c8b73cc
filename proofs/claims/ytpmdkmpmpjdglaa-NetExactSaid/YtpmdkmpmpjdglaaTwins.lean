/- raddlekeep's twins: numbers, rows, operations, messages, letters told anew. -/
import Derived.Test.YtpmdkmpmpjdglaaRefD
import Derived.Test.YtpmdkmpmpjdglaaNet
import Derived.Test.YtpmdkmpmpjdglaaMRead
import Derived.Deep.RegionHeld3
import Derived.Deep.RegionLaw
set_option linter.unusedSimpArgs false
set_option linter.unusedVariables false
namespace Go.Proofs.Ytpmdkmpmpjdglaa
open Go Go.RowKit
open Rep (vr)

theorem sl_letter {F : Blks} {W : World} {x : Letter} {g n1 : Nat} {p1 : Option Addr} {c1 : Nat}
    (hx : vr F W (.agg #[.int .i64 x.fr, .int .i64 x.to, .slice p1 n1 c1]) x) (hg : g = W.heap.size) (hF : F g) :
    Sl F (W.alloc (.cells #[.int .i64 x.fr, .int .i64 x.to, .slice p1 n1 c1] 39)) (some ⟨g, 0, none⟩) 1 1 [x] := by
  subst hg
  exact Sl.lit (α := Letter) (xs := [x]) (t := 39) (fz := (0, 0)) (heap_alloc_new _ _) [_] rfl rfl (elems1 (vr_grow hx (al1 W _))) hF (by simp)

set_option maxRecDepth 100000 in
set_option maxHeartbeats 1000000 in
theorem TwinLetters_any {F : Blks} {p : Option Addr} {n c : Nat} {l : List Letter} {w : World} (h1 : Sl F w p n c l) (hn : n ≤ 1000000) (hl : ∀ x ∈ l, x.body.length ≤ 140737488355328) :
    Calls Try.prog 10 #[.slice p n c] w fun e w' => ∃ v, e = .returned v ∧ Own 39 w.heap.size (newB w) w' v l ∧ Below w.heap.size w w' := by
  have H1 := Lib.hid h1; have HL := Lib.hid h1.len; have HB := Lib.hid hl
  clear h1 hl
  go_enter Try.func10, Try.ntmps10
  go_wp2
  go_loopw [3, 4] (fun v i wr => ∃ k : Nat, k ≤ n ∧ i = .int .i64 k ∧ Own 39 w.heap.size (newB w) wr v (l.take k) ∧ Below w.heap.size w wr) (fun _ i _ => n - (intOf i).toNat)
  case atStart => exact ⟨0, Nat.zero_le _, rfl, Own.nil _ _ _ _, Below.refl _ _⟩
  case round =>
    obtain ⟨k, hk, rfl, ho, hb⟩ := hrel
    by_cases hlt : k < n
    · obtain ⟨b, o, p1, n1, c1, hp, hF, hbw, e1, e2, e3, i1, i2, hs1⟩ := H1.out.letter hlt
      have hkl : k < l.length := by have := HL.out; omega
      have hbl := HB.out _ (List.mem_of_getElem? (gt_get hkl))
      have hz : w.heap.size ≤ wr.heap.size := hb.size
      have HO := Lib.hid (ho.grow (below_drew (Below.refl wr.heap.size wr)))
      have HBr := Lib.hid (below_drew hb)
      have HE := Lib.hid (fun w' (hb' : Below w.heap.size w w') => And.intro (cell_later hb' e1) (And.intro (cell_later hb' e2) (cell_later hb' e3)))
      have HS := Lib.hid (hs1.grow (below_drew hb))
      have hn1 : n1 ≤ 140737488355328 := by have := hs1.len; omega
      have HN := Lib.hid hs1.len
      subst hp
      clear e1 e2 e3 ho hb hs1 hbl
      go_wp2
      go_region_held3 (fun w' => w'.cell? ⟨b, o + k * 3, none⟩ = some (.int .i64 (gt l k).fr) ∧ w'.cell? ⟨b, o + k * 3 + 1, none⟩ = some (.int .i64 (gt l k).to) ∧ w'.cell? ⟨b, o + k * 3 + 2, none⟩ = some (.slice p1 n1 c1)) (first | exact HE.out _ HBr.out | exact HE.out _ (below2 HBr.out (al1 _ _))) (first
        | (go_at_call 25; ((refine (TwinBytes_any HS.out hn1).mono ?_); rintro e w2 ⟨v2, rfl, ho2, hb2⟩; have hz2 : wr.heap.size ≤ w2.heap.size := hb2.size; have HBr := Lib.hid (below2 HBr.out hb2); have HO2 := Lib.hid (HO.out.grow hb2); obtain ⟨q, d, rfl, hs2⟩ := ho2.sl' (G := fun b => wr.heap.size ≤ b) (fun b hb => hb.elim) (fun b hb _ => hb); have HS2 := Lib.hid hs2; clear ho2 hb2 hs2))
        | (refine step_append_Own (α := Letter) rfl (.tmp 11) (.tmp 29) rfl Try.underlying22 (z := .agg #[.int .i64 0, .int .i64 0, .slice none 0 0]) (bytes := 40) (by kernel_rfl) rfl (by decide) (by rfl) (by rfl) (HO2.out.alloc _) (sl_letter (x := gt l k) (F := fun b => wr.heap.size ≤ b) ⟨_, _, _, rfl, ⟨i1, i2⟩, HS2.out⟩ rfl hz2) (fun b hb e => absurd (HO.out.block _ e).2 (Nat.not_lt.2 hb)) (by simp; omega) (by rw [List.length_take]; omega) ?_; intro v' w' ho hg hat; have HB2 := Lib.hid ((below2 HBr.out (al1 _ _)).grown hg (by simp; omega) (fun j hj => (HO.out.block j hj).1)); have HBr := HB2; have HO3 := Lib.hid ho; clear ho hg hat))
      go_wp2
      go_roundw
      case rel => exact ⟨k + 1, by omega, by go_num, by rw [take_snoc' hkl]; exact HO3.out.mono (fun b hb => by rcases hb with hb | hb; exact hb; exact Nat.le_trans hz hb), HBr.out⟩
      case measure => simp [intOf]; omega
    · go_wp2
      go_ret
      rw [List.take_of_length_le (by have := HL.out; omega)] at ho
      exact ⟨_, rfl, ho, hb⟩

set_option maxRecDepth 100000 in
set_option maxHeartbeats 400000 in
theorem TwinInts_any {F : Blks} {p : Option Addr} {n c : Nat} {l : List Int} {w : World} (h1 : Sl F w p n c l) (hn : n ≤ 1000000000) :
    Calls Try.prog 26 #[.slice p n c] w fun e w' => ∃ v, e = .returned v ∧ Own 3 w.heap.size noB w' v l ∧ Below w.heap.size w w' := by
  have H1 := Lib.hid h1
  clear h1
  go_enter Try.func26, Try.ntmps26
  go_wp2_with (at_builtin; refine wpList_append_Own (α := Int) rfl (.tmp 4) (.tmp 5) rfl Try.underlying23 (z := .int .i64 0) (bytes := 8) (by kernel_rfl) rfl (by decide) rfl rfl (Own.nil _ w.heap.size noB w) H1.out (fun b hb e => by cases e) (Nat.le_refl _) (by simp; omega) ?_; intro v' w' ho hg hat)
  go_ret
  exact ⟨_, rfl, by simpa using ho.flat (G := noB), (Below.refl _ _).grown hg (Nat.le_refl _) (fun k hk => by cases hk)⟩
set_option maxRecDepth 100000 in
set_option maxHeartbeats 400000 in
theorem TwinRow_any {F : Blks} {p : Option Addr} {n c : Nat} {l : List Val} {w : World} (h1 : Sl F w p n c l) (hn : n ≤ 1000000000) :
    Calls Try.prog 73 #[.slice p n c] w fun e w' => ∃ v, e = .returned v ∧ Own 127 w.heap.size noB w' v l ∧ Below w.heap.size w w' := by
  have H1 := Lib.hid h1
  clear h1
  go_enter Try.func73, Try.ntmps73
  go_wp2_with (at_builtin; refine wpList_append_Own (α := Val) rfl (.tmp 4) (.tmp 5) rfl Try.underlying73 (z := .agg #[.int .i64 0, .int .i64 0, .string ⟨#[]⟩]) (bytes := 32) (by kernel_rfl) rfl (by decide) rfl rfl (Own.nil _ w.heap.size noB w) H1.out (fun b hb e => by cases e) (Nat.le_refl _) (by simp; omega) ?_; intro v' w' ho hg hat)
  go_ret
  exact ⟨_, rfl, by simpa using ho.flat (G := noB), (Below.refl _ _).grown hg (Nat.le_refl _) (fun k hk => by cases hk)⟩

set_option maxRecDepth 100000 in
set_option maxHeartbeats 2000000 in
theorem TwinOp_any {F : Blks} {w : World} {v : Value} {x : Opn} (hv : vr F w v x) (hn : x.deps.length ≤ 1000000 ∧ x.vals.length ≤ 1000000 ∧ x.dots.length ≤ 1000000) :
    Calls Try.prog 46 #[v] w fun e w' => ∃ u, e = .returned u ∧ vr (newB w) w' u x ∧ Below w.heap.size w w' := by
  obtain ⟨p1, n1, c1, p2, n2, c2, p3, n3, c3, rfl, hi, s1, s2, s3⟩ := hv
  have HL := Lib.hid (show n1 ≤ 1000000 ∧ n2 ≤ 1000000 ∧ n3 ≤ 1000000 from ⟨by have := s1.len; omega, by have := s2.len; omega, by have := s3.len; omega⟩)
  have H1 := Lib.hid s1; have H2 := Lib.hid s2; have H3 := Lib.hid s3; have HI := Lib.hid hi
  clear s1 s2 s3 hn hi
  go_enter Try.func46, Try.ntmps46
  go_wp2
  obtain ⟨W, hW⟩ : ∃ W, W = (w.alloc (.cells #[.int .i64 x.dot.peer, .int .i64 x.dot.n, .slice p1 n1 c1, .int .i64 x.stamp.phys, .int .i64 x.stamp.logic, .int .i64 x.stamp.peer, .int .i64 x.kind, .int .i64 x.table, .string x.key, .int .i64 x.col, .slice p2 n2 c2, .slice p3 n3 c3] 76)).alloc (.cells #[.int .i64 0, .int .i64 0, .slice none 0 0, .int .i64 0, .int .i64 0, .int .i64 0, .int .i64 0, .int .i64 0, .string { data := #[] }, .int .i64 0, .slice none 0 0, .slice none 0 0] 76) := ⟨_, rfl⟩
  have hb0 : Below w.heap.size w W := by rw [hW]; exact al2 _ _ _
  have hWz : W.heap.size = w.heap.size + 2 := by rw [hW]; simp
  have hA : ∀ w', Below W.heap.size W w' → w'.heap[w.heap.size]? = some (.cells #[.int .i64 x.dot.peer, .int .i64 x.dot.n, .slice p1 n1 c1, .int .i64 x.stamp.phys, .int .i64 x.stamp.logic, .int .i64 x.stamp.peer, .int .i64 x.kind, .int .i64 x.table, .string x.key, .int .i64 x.col, .slice p2 n2 c2, .slice p3 n3 c3] 76 (0, 0)) := fun w' hb => (hb.block _ (by omega)).trans (by rw [hW]; exact ((al1 (w.alloc _) _).block _ (by simp)).trans (heap_alloc_new _ _))
  have hZ : ∀ w', Below W.heap.size W w' → w'.heap[w.heap.size + 1]? = some (.cells #[.int .i64 0, .int .i64 0, .slice none 0 0, .int .i64 0, .int .i64 0, .int .i64 0, .int .i64 0, .int .i64 0, .string { data := #[] }, .int .i64 0, .slice none 0 0, .slice none 0 0] 76 (0, 0)) := fun w' hb => (hb.block _ (by omega)).trans (by rw [hW]; have := heap_alloc_new (w.alloc (.cells #[.int .i64 x.dot.peer, .int .i64 x.dot.n, .slice p1 n1 c1, .int .i64 x.stamp.phys, .int .i64 x.stamp.logic, .int .i64 x.stamp.peer, .int .i64 x.kind, .int .i64 x.table, .string x.key, .int .i64 x.col, .slice p2 n2 c2, .slice p3 n3 c3] 76)) (.cells #[.int .i64 0, .int .i64 0, .slice none 0 0, .int .i64 0, .int .i64 0, .int .i64 0, .int .i64 0, .int .i64 0, .string { data := #[] }, .int .i64 0, .slice none 0 0, .slice none 0 0] 76); simpa using this)
  have f2 : ∀ w', Below W.heap.size W w' → w'.cell? ⟨w.heap.size, 2, none⟩ = some (.slice p1 n1 c1) := fun w' h => heap_cell (hA w' h)
  have f10 : ∀ w', Below W.heap.size W w' → w'.cell? ⟨w.heap.size, 10, none⟩ = some (.slice p2 n2 c2) := fun w' h => heap_cell (hA w' h)
  have f11 : ∀ w', Below W.heap.size W w' → w'.cell? ⟨w.heap.size, 11, none⟩ = some (.slice p3 n3 c3) := fun w' h => heap_cell (hA w' h)
  have HB0 := Lib.hid hb0; have HA := Lib.hid hA; have HZ := Lib.hid hZ; have HWZ := Lib.hid hWz
  rw [← hW]
  clear hb0 hA hZ hW hWz
  refine wp_flowL 11 [(2, .unk [] fun _ v wr => Own 3 W.heap.size noB wr v x.deps), (5, .unk [] fun _ v wr => Own 127 W.heap.size noB wr v x.vals), (9, .unk [] fun _ v wr => Own 70 W.heap.size noB wr v x.dots)] (by kernel_rfl) (by kernel_rfl) ?_ ?_
  · exact ⟨fun _ v w1 w2 _ h hb => h.grow hb, fun _ v w1 w2 _ h hb => h.grow hb, fun _ v w1 w2 _ h hb => h.grow hb, trivial⟩
  repeat (first
    | (refine Flow.skip_ rfl ?_; simp only [Act.put, List.setIfInBounds_toArray, List.set_cons_zero, List.set_cons_succ, Nat.reduceAdd])
    | (refine Flow.pure_ (v := ?_) rfl rfl ?_ ?_; rotate_left; focus (intro w hb; go_simp; try with_reducible rfl)
       simp only [Act.put, List.setIfInBounds_toArray, List.set_cons_zero, List.set_cons_succ, Nat.reduceAdd]))
  refine Flow.unk_ rfl rfl ?_ ?_
  · intro wf hb hk
    (try simp only [holdsF, lookF, lookV, List.map_cons, List.map_nil, List.headD_cons, List.getD_cons_zero, List.getD_cons_succ, Nat.reduceEqDiff, Nat.reduceAdd, ↓reduceIte, and_true] at hk ⊢)
    skip
    go_simp
    (have hz := hb.size; refine (TwinInts_any (H1.out.grow (below2 HB0.out hb)) (by have := HL.out; omega)).mono ?_; rintro e w' ⟨v, rfl, ho, hb'⟩; exact ⟨v, rfl, hb', ho.base hz⟩)
  intro v6
  simp only [Act.put, List.setIfInBounds_toArray, List.set_cons_zero, List.set_cons_succ, Nat.reduceAdd]
  (try simp only [holdsF, lookF, lookV, List.map_cons, List.map_nil, List.headD_cons, List.getD_cons_zero, List.getD_cons_succ, Nat.reduceEqDiff, Nat.reduceAdd, ↓reduceIte, and_true])
  repeat (first
    | (refine Flow.skip_ rfl ?_; simp only [Act.put, List.setIfInBounds_toArray, List.set_cons_zero, List.set_cons_succ, Nat.reduceAdd])
    | (refine Flow.pure_ (v := ?_) rfl rfl ?_ ?_; rotate_left; focus (intro w hb; go_simp; try with_reducible rfl)
       simp only [Act.put, List.setIfInBounds_toArray, List.set_cons_zero, List.set_cons_succ, Nat.reduceAdd]))
  refine Flow.unk_ rfl rfl ?_ ?_
  · intro wf hb hk
    (try simp only [holdsF, lookF, lookV, List.map_cons, List.map_nil, List.headD_cons, List.getD_cons_zero, List.getD_cons_succ, Nat.reduceEqDiff, Nat.reduceAdd, ↓reduceIte, and_true] at hk ⊢)
    skip
    go_simp
    (have hz := hb.size; refine (TwinRow_any (H2.out.grow (below2 HB0.out hb)) (by have := HL.out; omega)).mono ?_; rintro e w' ⟨v, rfl, ho, hb'⟩; exact ⟨v, rfl, hb', ho.base hz⟩)
  intro v9
  simp only [Act.put, List.setIfInBounds_toArray, List.set_cons_zero, List.set_cons_succ, Nat.reduceAdd]
  (try simp only [holdsF, lookF, lookV, List.map_cons, List.map_nil, List.headD_cons, List.getD_cons_zero, List.getD_cons_succ, Nat.reduceEqDiff, Nat.reduceAdd, ↓reduceIte, and_true])
  repeat (first
    | (refine Flow.skip_ rfl ?_; simp only [Act.put, List.setIfInBounds_toArray, List.set_cons_zero, List.set_cons_succ, Nat.reduceAdd])
    | (refine Flow.pure_ (v := ?_) rfl rfl ?_ ?_; rotate_left; focus (intro w hb; go_simp; try with_reducible rfl)
       simp only [Act.put, List.setIfInBounds_toArray, List.set_cons_zero, List.set_cons_succ, Nat.reduceAdd]))
  refine Flow.unk_ rfl rfl ?_ ?_
  · intro wf hb hk
    (try simp only [holdsF, lookF, lookV, List.map_cons, List.map_nil, List.headD_cons, List.getD_cons_zero, List.getD_cons_succ, Nat.reduceEqDiff, Nat.reduceAdd, ↓reduceIte, and_true] at hk ⊢)
    (exact gives_append_Own (α := Dot) (.tmp 10) (.tmp 12) rfl Try.underlying74 (z := .agg #[.int .i64 0, .int .i64 0]) (bytes := 16) (by kernel_rfl) rfl (by decide) rfl rfl (Own.nil _ W.heap.size noB _) (H3.out.grow (below2 HB0.out hb)) (fun b hb e => by cases e) hb.size (by have := HL.out; simp; omega) fun v' w' h1 h2 h3 => ⟨(Below.refl _ _).grown h2 (Nat.le_refl _) (fun k hk => by cases hk), by simpa using h1.flat (G := noB)⟩)
  intro v13
  simp only [Act.put, List.setIfInBounds_toArray, List.set_cons_zero, List.set_cons_succ, Nat.reduceAdd]
  (try simp only [holdsF, lookF, lookV, List.map_cons, List.map_nil, List.headD_cons, List.getD_cons_zero, List.getD_cons_succ, Nat.reduceEqDiff, Nat.reduceAdd, ↓reduceIte, and_true])
  repeat (first
    | (refine Flow.skip_ rfl ?_; simp only [Act.put, List.setIfInBounds_toArray, List.set_cons_zero, List.set_cons_succ, Nat.reduceAdd])
    | (refine Flow.pure_ (v := ?_) rfl rfl ?_ ?_; rotate_left; focus (intro w hb; go_simp; try with_reducible rfl)
       simp only [Act.put, List.setIfInBounds_toArray, List.set_cons_zero, List.set_cons_succ, Nat.reduceAdd]))
  refine Flow.done_ (fun w1 hb1 hk => ?_)
  obtain ⟨h13, h9, h6, -⟩ := hk
  obtain ⟨q6, d6, rfl, hs6⟩ := h6.sl' (G := fun b => W.heap.size ≤ b) (fun b hb => hb.elim) (fun b hb _ => hb)
  obtain ⟨q9, d9, rfl, hs9⟩ := h9.sl' (G := fun b => W.heap.size ≤ b) (fun b hb => hb.elim) (fun b hb _ => hb)
  obtain ⟨q13, d13, rfl, hs13⟩ := h13.sl' (G := fun b => W.heap.size ≤ b) (fun b hb => hb.elim) (fun b hb _ => hb)
  have HS := Lib.hid (And.intro hs6 (And.intro hs9 hs13))
  have hb2 := below2 HB0.out hb1
  have HB2 := Lib.hid hb2
  have hWz := HWZ.out
  have a0 : w1.cell? ⟨w.heap.size, 0, none⟩ = some (.int .i64 x.dot.peer) := heap_cell (HA.out w1 hb1)
  have a1 : w1.cell? ⟨w.heap.size, 1, none⟩ = some (.int .i64 x.dot.n) := heap_cell (HA.out w1 hb1)
  have a2 : w1.cell? ⟨w.heap.size, 2, none⟩ = some (.slice p1 n1 c1) := heap_cell (HA.out w1 hb1)
  have a3 : w1.cell? ⟨w.heap.size, 3, none⟩ = some (.int .i64 x.stamp.phys) := heap_cell (HA.out w1 hb1)
  have a4 : w1.cell? ⟨w.heap.size, 4, none⟩ = some (.int .i64 x.stamp.logic) := heap_cell (HA.out w1 hb1)
  have a5 : w1.cell? ⟨w.heap.size, 5, none⟩ = some (.int .i64 x.stamp.peer) := heap_cell (HA.out w1 hb1)
  have a6 : w1.cell? ⟨w.heap.size, 6, none⟩ = some (.int .i64 x.kind) := heap_cell (HA.out w1 hb1)
  have a7 : w1.cell? ⟨w.heap.size, 7, none⟩ = some (.int .i64 x.table) := heap_cell (HA.out w1 hb1)
  have a8 : w1.cell? ⟨w.heap.size, 8, none⟩ = some (.string x.key) := heap_cell (HA.out w1 hb1)
  have a9 : w1.cell? ⟨w.heap.size, 9, none⟩ = some (.int .i64 x.col) := heap_cell (HA.out w1 hb1)
  have a10 : w1.cell? ⟨w.heap.size, 10, none⟩ = some (.slice p2 n2 c2) := heap_cell (HA.out w1 hb1)
  have a11 : w1.cell? ⟨w.heap.size, 11, none⟩ = some (.slice p3 n3 c3) := heap_cell (HA.out w1 hb1)
  have b0 : w1.cell? ⟨w.heap.size + 1, 0, none⟩ = some (.int .i64 0) := heap_cell (HZ.out w1 hb1)
  have b1 : w1.cell? ⟨w.heap.size + 1, 1, none⟩ = some (.int .i64 0) := heap_cell (HZ.out w1 hb1)
  have b2 : w1.cell? ⟨w.heap.size + 1, 2, none⟩ = some (.slice none 0 0) := heap_cell (HZ.out w1 hb1)
  have b3 : w1.cell? ⟨w.heap.size + 1, 3, none⟩ = some (.int .i64 0) := heap_cell (HZ.out w1 hb1)
  have b4 : w1.cell? ⟨w.heap.size + 1, 4, none⟩ = some (.int .i64 0) := heap_cell (HZ.out w1 hb1)
  have b5 : w1.cell? ⟨w.heap.size + 1, 5, none⟩ = some (.int .i64 0) := heap_cell (HZ.out w1 hb1)
  have b6 : w1.cell? ⟨w.heap.size + 1, 6, none⟩ = some (.int .i64 0) := heap_cell (HZ.out w1 hb1)
  have b7 : w1.cell? ⟨w.heap.size + 1, 7, none⟩ = some (.int .i64 0) := heap_cell (HZ.out w1 hb1)
  have b8 : w1.cell? ⟨w.heap.size + 1, 8, none⟩ = some (.string { data := #[] }) := heap_cell (HZ.out w1 hb1)
  have b9 : w1.cell? ⟨w.heap.size + 1, 9, none⟩ = some (.int .i64 0) := heap_cell (HZ.out w1 hb1)
  have b10 : w1.cell? ⟨w.heap.size + 1, 10, none⟩ = some (.slice none 0 0) := heap_cell (HZ.out w1 hb1)
  have b11 : w1.cell? ⟨w.heap.size + 1, 11, none⟩ = some (.slice none 0 0) := heap_cell (HZ.out w1 hb1)
  have af : ∀ o, w1.frozen? ⟨w.heap.size, o, none⟩ = false := fun o => heap_frozen (HA.out w1 hb1)
  have bf : ∀ o, w1.frozen? ⟨w.heap.size + 1, o, none⟩ = false := fun o => heap_frozen (HZ.out w1 hb1)
  clear h6 h9 h13 hs6 hs9 hs13 f2 f10 f11 hb1
  go_wp2
  refine bodyPost_ret (v := .agg #[.int .i64 x.dot.peer, .int .i64 x.dot.n, .slice q6 x.deps.length d6, .int .i64 x.stamp.phys, .int .i64 x.stamp.logic, .int .i64 x.stamp.peer, .int .i64 x.kind, .int .i64 x.table, .string x.key, .int .i64 x.col, .slice q9 x.vals.length d9, .slice q13 x.dots.length d13]) ?_ rfl ?_
  · simp [results, Try.results46, go_sem, a0, a1, a2, a3, a4, a5, a6, a7, a8, a9, a10, a11, b0, b1, b2, b3, b4, b5, b6, b7, b8, b9, b10, b11, af, bf]
  · refine ⟨_, rfl, ⟨q6, _, d6, q9, _, d9, q13, _, d13, rfl, HI.out, (HS.out.1.keep (by repeat' (first | with_reducible exact Agree.refl _ _ | ((with_reducible refine Agree.setCell ?_ ?_ _); rotate_left; (focus (intro b hb; (try simp only [newB, oldB] at hb); (try simp at hb ⊢); omega))) | ((with_reducible refine Agree.alloc ?_ ?_ _); rotate_left; (focus (intro b hb; (try simp only [newB, oldB] at hb); (try simp at hb ⊢); omega))) | (with_reducible refine Agree.drew ?_) | (with_reducible refine Agree.drewN ?_ _)))).mono ?_, (HS.out.2.1.keep (by repeat' (first | with_reducible exact Agree.refl _ _ | ((with_reducible refine Agree.setCell ?_ ?_ _); rotate_left; (focus (intro b hb; (try simp only [newB, oldB] at hb); (try simp at hb ⊢); omega))) | ((with_reducible refine Agree.alloc ?_ ?_ _); rotate_left; (focus (intro b hb; (try simp only [newB, oldB] at hb); (try simp at hb ⊢); omega))) | (with_reducible refine Agree.drew ?_) | (with_reducible refine Agree.drewN ?_ _)))).mono ?_, (HS.out.2.2.keep (by repeat' (first | with_reducible exact Agree.refl _ _ | ((with_reducible refine Agree.setCell ?_ ?_ _); rotate_left; (focus (intro b hb; (try simp only [newB, oldB] at hb); (try simp at hb ⊢); omega))) | ((with_reducible refine Agree.alloc ?_ ?_ _); rotate_left; (focus (intro b hb; (try simp only [newB, oldB] at hb); (try simp at hb ⊢); omega))) | (with_reducible refine Agree.drew ?_) | (with_reducible refine Agree.drewN ?_ _)))).mono ?_⟩, (by repeat' (first | with_reducible exact HB2.out | with_reducible exact Below.refl _ _ | ((with_reducible refine Below.setCell ?_ ?_ _); rotate_left; (focus (simp <;> omega))) | ((with_reducible refine Below.alloc ?_ ?_ _); rotate_left; (focus (simp <;> omega))) | (with_reducible refine below_drew ?_) | (with_reducible refine below_drewN ?_ _)))⟩
    all_goals (intro b hb; show w.heap.size ≤ b; have := HB0.out.size; omega)

set_option maxRecDepth 100000 in
set_option maxHeartbeats 1000000 in
theorem TwinOps_any {F : Blks} {p : Option Addr} {n c : Nat} {l : List Opn} {w : World} (h1 : Sl F w p n c l) (hn : n ≤ 1000000) (hl : ∀ x ∈ l, x.deps.length ≤ 1000000 ∧ x.vals.length ≤ 1000000 ∧ x.dots.length ≤ 1000000) :
    Calls Try.prog 27 #[.slice p n c] w fun e w' => ∃ v, e = .returned v ∧ Own 76 w.heap.size (newB w) w' v l ∧ Below w.heap.size w w' := by
  have H1 := Lib.hid h1; have HL := Lib.hid h1.len; have HB := Lib.hid hl
  clear h1 hl
  go_enter Try.func27, Try.ntmps27
  go_wp2
  go_loopw [3, 4] (fun v i wr => ∃ k : Nat, k ≤ n ∧ i = .int .i64 k ∧ Own 76 w.heap.size (newB w) wr v (l.take k) ∧ Below w.heap.size w wr) (fun _ i _ => n - (intOf i).toNat)
  case atStart => exact ⟨0, Nat.zero_le _, rfl, Own.nil _ _ _ _, Below.refl _ _⟩
  case round =>
    obtain ⟨k, hk, rfl, ho, hb⟩ := hrel
    by_cases hlt : k < n
    · obtain ⟨b, o, q1, a1, d1, q2, a2, d2, q3, a3, d3, rfl, _, _, ⟨e0, e1, e2, e3, e4, e5, e6, e7, e8, e9, e10, e11⟩, jj, t1, t2, t3⟩ := (H1.out.grow hb).opn hlt
      have hkl : k < l.length := by have := HL.out; omega
      have hbl := HB.out _ (List.mem_of_getElem? (gt_get hkl))
      have hz : w.heap.size ≤ wr.heap.size := hb.size
      have HT := Lib.hid (TwinOp_any (F := F) (x := gt l k) ⟨q1, a1, d1, q2, a2, d2, q3, a3, d3, rfl, jj, t1, t2, t3⟩ hbl)
      have HO := Lib.hid ho; have HBr := Lib.hid hb
      clear t1 t2 t3 jj hbl ho hb
      go_wp2_with fail
      refine HT.out.mono ?_
      rintro e w2 ⟨v2, rfl, hv2, hb2⟩
      have hz2 : wr.heap.size ≤ w2.heap.size := hb2.size
      have HB2 := Lib.hid (below2 HBr.out hb2); have HO2 := Lib.hid (HO.out.grow hb2); have HV2 := Lib.hid hv2
      obtain ⟨r1, m1, g1, r2, m2, g2, r3, m3, g3, rfl, -⟩ := hv2
      clear hb2 e0 e1 e2 e3 e4 e5 e6 e7 e8 e9 e10 e11 HT
      go_wp2_with (at_builtin; (refine wpList_append_Own (α := Opn) rfl (.tmp 11) (.tmp 17) rfl Try.underlying24 (z := .agg #[.int .i64 0, .int .i64 0, .slice none 0 0, .int .i64 0, .int .i64 0, .int .i64 0, .int .i64 0, .int .i64 0, .string ⟨#[]⟩, .int .i64 0, .slice none 0 0, .slice none 0 0]) (bytes := 152) (by kernel_rfl) rfl (by decide) rfl rfl (HO2.out.alloc _) (sl_opn (x := gt l k) (F := fun b => wr.heap.size ≤ b) rfl HV2.out rfl hz2) (fun b hb e => absurd (HO.out.block _ e).2 (Nat.not_lt.2 hb)) (by simp; omega) (by rw [List.length_take]; omega) ?_); intro v' w' ho hg hat; have HB3 := Lib.hid ((below2 HB2.out (al1 _ _)).grown hg (by simp; omega) (fun j hj => (HO.out.block j hj).1)); have HO3 := Lib.hid ho; clear ho hg hat)
      go_roundw
      case rel => exact ⟨k + 1, by omega, by go_num, by rw [take_snoc' hkl]; exact HO3.out.mono (fun b hb => by rcases hb with hb | hb; exact hb; exact Nat.le_trans hz hb), HB3.out⟩
      case measure => simp [intOf]; omega
    · go_wp2
      go_ret
      rw [List.take_of_length_le (by have := HL.out; omega)] at ho
      exact ⟨_, rfl, ho, hb⟩

set_option maxRecDepth 100000 in
set_option maxHeartbeats 2000000 in
theorem TwinMsg_any {F : Blks} {w : World} {v : Value} {x : Msg} (hv : vr F w v x) (hn : x.have_.length ≤ 1000000 ∧ x.safe.length ≤ 1000000 ∧ x.ops.length ≤ 1000000) (hl : ∀ y ∈ x.ops, y.deps.length ≤ 1000000 ∧ y.vals.length ≤ 1000000 ∧ y.dots.length ≤ 1000000) :
    Calls Try.prog 11 #[v] w fun e w' => ∃ u, e = .returned u ∧ vr (newB w) w' u x ∧ Below w.heap.size w w' := by
  obtain ⟨p1, n1, c1, p2, n2, c2, p3, n3, c3, rfl, hi, s1, s2, s3⟩ := hv
  have HL := Lib.hid (show n1 ≤ 1000000 ∧ n2 ≤ 1000000 ∧ n3 ≤ 1000000 from ⟨by have := s1.len; omega, by have := s2.len; omega, by have := s3.len; omega⟩)
  have H1 := Lib.hid s1; have H2 := Lib.hid s2; have H3 := Lib.hid s3; have HI := Lib.hid hi; have HO := Lib.hid hl
  clear s1 s2 s3 hn hi hl
  go_enter Try.func11, Try.ntmps11
  go_wp2
  obtain ⟨W, hW⟩ : ∃ W, W = (w.alloc (.cells #[.int .i64 x.kind, .int .i64 x.fr, .int .i64 x.to, .slice p1 n1 c1, .slice p2 n2 c2, .slice p3 n3 c3] 26)).alloc (.cells #[.int .i64 0, .int .i64 0, .int .i64 0, .slice none 0 0, .slice none 0 0, .slice none 0 0] 26) := ⟨_, rfl⟩
  have hb0 : Below w.heap.size w W := by rw [hW]; exact al2 _ _ _
  have hWz : W.heap.size = w.heap.size + 2 := by rw [hW]; simp
  have hA : ∀ w', Below W.heap.size W w' → w'.heap[w.heap.size]? = some (.cells #[.int .i64 x.kind, .int .i64 x.fr, .int .i64 x.to, .slice p1 n1 c1, .slice p2 n2 c2, .slice p3 n3 c3] 26 (0, 0)) := fun w' hb => (hb.block _ (by omega)).trans (by rw [hW]; exact ((al1 (w.alloc _) _).block _ (by simp)).trans (heap_alloc_new _ _))
  have hZ : ∀ w', Below W.heap.size W w' → w'.heap[w.heap.size + 1]? = some (.cells #[.int .i64 0, .int .i64 0, .int .i64 0, .slice none 0 0, .slice none 0 0, .slice none 0 0] 26 (0, 0)) := fun w' hb => (hb.block _ (by omega)).trans (by rw [hW]; have := heap_alloc_new (w.alloc (.cells #[.int .i64 x.kind, .int .i64 x.fr, .int .i64 x.to, .slice p1 n1 c1, .slice p2 n2 c2, .slice p3 n3 c3] 26)) (.cells #[.int .i64 0, .int .i64 0, .int .i64 0, .slice none 0 0, .slice none 0 0, .slice none 0 0] 26); simpa using this)
  have f3 : ∀ w', Below W.heap.size W w' → w'.cell? ⟨w.heap.size, 3, none⟩ = some (.slice p1 n1 c1) := fun w' h => heap_cell (hA w' h)
  have f4 : ∀ w', Below W.heap.size W w' → w'.cell? ⟨w.heap.size, 4, none⟩ = some (.slice p2 n2 c2) := fun w' h => heap_cell (hA w' h)
  have f5 : ∀ w', Below W.heap.size W w' → w'.cell? ⟨w.heap.size, 5, none⟩ = some (.slice p3 n3 c3) := fun w' h => heap_cell (hA w' h)
  have HB0 := Lib.hid hb0; have HA := Lib.hid hA; have HZ := Lib.hid hZ; have HWZ := Lib.hid hWz
  rw [← hW]
  clear hb0 hA hZ hW hWz
  refine wp_flowL 10 [(2, .unk [] fun _ v wr => Own 3 W.heap.size noB wr v x.have_), (5, .unk [] fun _ v wr => Own 3 W.heap.size noB wr v x.safe), (8, .unk [] fun _ v wr => Own 76 W.heap.size (newB W) wr v x.ops)] (by kernel_rfl) (by kernel_rfl) ?_ ?_
  · exact ⟨fun _ v w1 w2 _ h hb => h.grow hb, fun _ v w1 w2 _ h hb => h.grow hb, fun _ v w1 w2 _ h hb => h.grow hb, trivial⟩
  repeat (first
    | (refine Flow.skip_ rfl ?_; simp only [Act.put, List.setIfInBounds_toArray, List.set_cons_zero, List.set_cons_succ, Nat.reduceAdd])
    | (refine Flow.pure_ (v := ?_) rfl rfl ?_ ?_; rotate_left; focus (intro w hb; go_simp; try with_reducible rfl)
       simp only [Act.put, List.setIfInBounds_toArray, List.set_cons_zero, List.set_cons_succ, Nat.reduceAdd]))
  refine Flow.unk_ rfl rfl ?_ ?_
  · intro wf hb hk
    (try simp only [holdsF, lookF, lookV, List.map_cons, List.map_nil, List.headD_cons, List.getD_cons_zero, List.getD_cons_succ, Nat.reduceEqDiff, Nat.reduceAdd, ↓reduceIte, and_true] at hk ⊢)
    skip
    go_simp
    (have hz := hb.size; refine (TwinInts_any (H1.out.grow (below2 HB0.out hb)) (by have := HL.out; omega)).mono ?_; rintro e w' ⟨v, rfl, ho, hb'⟩; exact ⟨v, rfl, hb', ho.base hz⟩)
  intro v5
  simp only [Act.put, List.setIfInBounds_toArray, List.set_cons_zero, List.set_cons_succ, Nat.reduceAdd]
  (try simp only [holdsF, lookF, lookV, List.map_cons, List.map_nil, List.headD_cons, List.getD_cons_zero, List.getD_cons_succ, Nat.reduceEqDiff, Nat.reduceAdd, ↓reduceIte, and_true])
  repeat (first
    | (refine Flow.skip_ rfl ?_; simp only [Act.put, List.setIfInBounds_toArray, List.set_cons_zero, List.set_cons_succ, Nat.reduceAdd])
    | (refine Flow.pure_ (v := ?_) rfl rfl ?_ ?_; rotate_left; focus (intro w hb; go_simp; try with_reducible rfl)
       simp only [Act.put, List.setIfInBounds_toArray, List.set_cons_zero, List.set_cons_succ, Nat.reduceAdd]))
  refine Flow.unk_ rfl rfl ?_ ?_
  · intro wf hb hk
    (try simp only [holdsF, lookF, lookV, List.map_cons, List.map_nil, List.headD_cons, List.getD_cons_zero, List.getD_cons_succ, Nat.reduceEqDiff, Nat.reduceAdd, ↓reduceIte, and_true] at hk ⊢)
    skip
    go_simp
    (have hz := hb.size; refine (TwinInts_any (H2.out.grow (below2 HB0.out hb)) (by have := HL.out; omega)).mono ?_; rintro e w' ⟨v, rfl, ho, hb'⟩; exact ⟨v, rfl, hb', ho.base hz⟩)
  intro v8
  simp only [Act.put, List.setIfInBounds_toArray, List.set_cons_zero, List.set_cons_succ, Nat.reduceAdd]
  (try simp only [holdsF, lookF, lookV, List.map_cons, List.map_nil, List.headD_cons, List.getD_cons_zero, List.getD_cons_succ, Nat.reduceEqDiff, Nat.reduceAdd, ↓reduceIte, and_true])
  repeat (first
    | (refine Flow.skip_ rfl ?_; simp only [Act.put, List.setIfInBounds_toArray, List.set_cons_zero, List.set_cons_succ, Nat.reduceAdd])
    | (refine Flow.pure_ (v := ?_) rfl rfl ?_ ?_; rotate_left; focus (intro w hb; go_simp; try with_reducible rfl)
       simp only [Act.put, List.setIfInBounds_toArray, List.set_cons_zero, List.set_cons_succ, Nat.reduceAdd]))
  refine Flow.unk_ rfl rfl ?_ ?_
  · intro wf hb hk
    (try simp only [holdsF, lookF, lookV, List.map_cons, List.map_nil, List.headD_cons, List.getD_cons_zero, List.getD_cons_succ, Nat.reduceEqDiff, Nat.reduceAdd, ↓reduceIte, and_true] at hk ⊢)
    skip
    go_simp
    (have hz := hb.size; refine (TwinOps_any (H3.out.grow (below2 HB0.out hb)) (by have := HL.out; omega) HO.out).mono ?_; rintro e w' ⟨v, rfl, ho, hb'⟩; exact ⟨v, rfl, hb', (ho.base hz).mono fun b hb => Nat.le_trans hz hb⟩)
  intro v11
  simp only [Act.put, List.setIfInBounds_toArray, List.set_cons_zero, List.set_cons_succ, Nat.reduceAdd]
  (try simp only [holdsF, lookF, lookV, List.map_cons, List.map_nil, List.headD_cons, List.getD_cons_zero, List.getD_cons_succ, Nat.reduceEqDiff, Nat.reduceAdd, ↓reduceIte, and_true])
  repeat (first
    | (refine Flow.skip_ rfl ?_; simp only [Act.put, List.setIfInBounds_toArray, List.set_cons_zero, List.set_cons_succ, Nat.reduceAdd])
    | (refine Flow.pure_ (v := ?_) rfl rfl ?_ ?_; rotate_left; focus (intro w hb; go_simp; try with_reducible rfl)
       simp only [Act.put, List.setIfInBounds_toArray, List.set_cons_zero, List.set_cons_succ, Nat.reduceAdd]))
  refine Flow.done_ (fun w1 hb1 hk => ?_)
  obtain ⟨h13, h9, h6, -⟩ := hk
  obtain ⟨q6, d6, rfl, hs6⟩ := h6.sl' (G := fun b => W.heap.size ≤ b) (fun b hb => hb.elim) (fun b hb _ => hb)
  obtain ⟨q9, d9, rfl, hs9⟩ := h9.sl' (G := fun b => W.heap.size ≤ b) (fun b hb => hb.elim) (fun b hb _ => hb)
  obtain ⟨q13, d13, rfl, hs13⟩ := h13.sl' (G := fun b => W.heap.size ≤ b) (fun b hb => hb) (fun b hb _ => hb)
  have HS := Lib.hid (And.intro hs6 (And.intro hs9 hs13))
  have hb2 := below2 HB0.out hb1
  have HB2 := Lib.hid hb2
  have hWz := HWZ.out
  have a0 : w1.cell? ⟨w.heap.size, 0, none⟩ = some (.int .i64 x.kind) := heap_cell (HA.out w1 hb1)
  have a1 : w1.cell? ⟨w.heap.size, 1, none⟩ = some (.int .i64 x.fr) := heap_cell (HA.out w1 hb1)
  have a2 : w1.cell? ⟨w.heap.size, 2, none⟩ = some (.int .i64 x.to) := heap_cell (HA.out w1 hb1)
  have a3 : w1.cell? ⟨w.heap.size, 3, none⟩ = some (.slice p1 n1 c1) := heap_cell (HA.out w1 hb1)
  have a4 : w1.cell? ⟨w.heap.size, 4, none⟩ = some (.slice p2 n2 c2) := heap_cell (HA.out w1 hb1)
  have a5 : w1.cell? ⟨w.heap.size, 5, none⟩ = some (.slice p3 n3 c3) := heap_cell (HA.out w1 hb1)
  have b0 : w1.cell? ⟨w.heap.size + 1, 0, none⟩ = some (.int .i64 0) := heap_cell (HZ.out w1 hb1)
  have b1 : w1.cell? ⟨w.heap.size + 1, 1, none⟩ = some (.int .i64 0) := heap_cell (HZ.out w1 hb1)
  have b2 : w1.cell? ⟨w.heap.size + 1, 2, none⟩ = some (.int .i64 0) := heap_cell (HZ.out w1 hb1)
  have b3 : w1.cell? ⟨w.heap.size + 1, 3, none⟩ = some (.slice none 0 0) := heap_cell (HZ.out w1 hb1)
  have b4 : w1.cell? ⟨w.heap.size + 1, 4, none⟩ = some (.slice none 0 0) := heap_cell (HZ.out w1 hb1)
  have b5 : w1.cell? ⟨w.heap.size + 1, 5, none⟩ = some (.slice none 0 0) := heap_cell (HZ.out w1 hb1)
  have af : ∀ o, w1.frozen? ⟨w.heap.size, o, none⟩ = false := fun o => heap_frozen (HA.out w1 hb1)
  have bf : ∀ o, w1.frozen? ⟨w.heap.size + 1, o, none⟩ = false := fun o => heap_frozen (HZ.out w1 hb1)
  clear h6 h9 h13 hs6 hs9 hs13 f3 f4 f5 hb1
  go_wp2
  refine bodyPost_ret (v := .agg #[.int .i64 x.kind, .int .i64 x.fr, .int .i64 x.to, .slice q6 x.have_.length d6, .slice q9 x.safe.length d9, .slice q13 x.ops.length d13]) ?_ rfl ?_
  · simp [results, Try.results11, go_sem, a0, a1, a2, a3, a4, a5, b0, b1, b2, b3, b4, b5, af, bf]
  · refine ⟨_, rfl, ⟨q6, _, d6, q9, _, d9, q13, _, d13, rfl, HI.out, (HS.out.1.keep (by repeat' (first | with_reducible exact Agree.refl _ _ | ((with_reducible refine Agree.setCell ?_ ?_ _); rotate_left; (focus (intro b hb; (try simp only [newB, oldB] at hb); (try simp at hb ⊢); omega))) | ((with_reducible refine Agree.alloc ?_ ?_ _); rotate_left; (focus (intro b hb; (try simp only [newB, oldB] at hb); (try simp at hb ⊢); omega))) | (with_reducible refine Agree.drew ?_) | (with_reducible refine Agree.drewN ?_ _)))).mono ?_, (HS.out.2.1.keep (by repeat' (first | with_reducible exact Agree.refl _ _ | ((with_reducible refine Agree.setCell ?_ ?_ _); rotate_left; (focus (intro b hb; (try simp only [newB, oldB] at hb); (try simp at hb ⊢); omega))) | ((with_reducible refine Agree.alloc ?_ ?_ _); rotate_left; (focus (intro b hb; (try simp only [newB, oldB] at hb); (try simp at hb ⊢); omega))) | (with_reducible refine Agree.drew ?_) | (with_reducible refine Agree.drewN ?_ _)))).mono ?_, (HS.out.2.2.keep (by repeat' (first | with_reducible exact Agree.refl _ _ | ((with_reducible refine Agree.setCell ?_ ?_ _); rotate_left; (focus (intro b hb; (try simp only [newB, oldB] at hb); (try simp at hb ⊢); omega))) | ((with_reducible refine Agree.alloc ?_ ?_ _); rotate_left; (focus (intro b hb; (try simp only [newB, oldB] at hb); (try simp at hb ⊢); omega))) | (with_reducible refine Agree.drew ?_) | (with_reducible refine Agree.drewN ?_ _)))).mono ?_⟩, (by repeat' (first | with_reducible exact HB2.out | with_reducible exact Below.refl _ _ | ((with_reducible refine Below.setCell ?_ ?_ _); rotate_left; (focus (simp <;> omega))) | ((with_reducible refine Below.alloc ?_ ?_ _); rotate_left; (focus (simp <;> omega))) | (with_reducible refine below_drew ?_) | (with_reducible refine below_drewN ?_ _)))⟩
    all_goals (intro b hb; show w.heap.size ≤ b; have := HB0.out.size; omega)
end Go.Proofs.Ytpmdkmpmpjdglaa
