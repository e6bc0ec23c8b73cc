/- net.Put, and the law's own wakes and Heavy. -/
import Derived.Test.YtpmdkmpmpjdglaaMsg
import Derived.Test.YtpmdkmpmpjdglaaNet
set_option linter.unusedSimpArgs false
set_option linter.unusedVariables false
namespace Go.Proofs.Ytpmdkmpmpjdglaa
open Go Go.RowKit
open Rep (vr)

set_option maxRecDepth 100000 in
set_option maxHeartbeats 400000 in
theorem Put_bad {F : Blks} {w : World} {v : Value} {m : Msg} {p : Option Addr} {n c : Nat} (hv : vr F w v m) (hm : SmallM m) (HOp : ∀ x ∈ m.ops, OpOk x) (he : msgErr m ≠ 0) :
    Calls Try.prog 12 #[.slice p n c, v] w fun e w' => e = .returned (.tuple #[.slice none 0 0, .int .i64 (msgErr m)]) ∧ Below w.heap.size w w' := by
  obtain ⟨p1, n1, c1, p2, n2, c2, p3, n3, c3, rfl, hi, hs1, hs2, hs3⟩ := hv
  have HS := Lib.hid (And.intro hs1 (And.intro hs2 hs3))
  clear hs1 hs2 hs3
  go_enter Try.func12, Try.ntmps12
  go_wp2_with fail
  refine (MsgBytes_any (F := F) (m := m) ⟨p1, n1, c1, p2, n2, c2, p3, n3, c3, rfl, hi, HS.out.1.grow (al1 _ _), HS.out.2.1.grow (al1 _ _), HS.out.2.2.grow (al1 _ _)⟩ hm HOp).mono ?_
  rintro e w1 ⟨v1, rfl, ho, hb⟩
  have hb1 : Below w.heap.size w w1 := below2 (al1 _ _) hb
  clear ho hb
  go_wp2
  go_ret2
  exact ⟨rfl, hb1⟩
set_option maxRecDepth 100000 in
set_option maxHeartbeats 400000 in
theorem Put_full {F : Blks} {w : World} {v : Value} {m : Msg} {p : Option Addr} {n c : Nat} (hv : vr F w v m) (hm : SmallM m) (HOp : ∀ x ∈ m.ops, OpOk x) (he : msgErr m = 0) (hn : 1200 ≤ n) :
    Calls Try.prog 12 #[.slice p n c, v] w fun e w' => e = .returned (.tuple #[.slice none 0 0, .int .i64 6]) ∧ Below w.heap.size w w' := by
  obtain ⟨p1, n1, c1, p2, n2, c2, p3, n3, c3, rfl, hi, hs1, hs2, hs3⟩ := hv
  have HS := Lib.hid (And.intro hs1 (And.intro hs2 hs3))
  clear hs1 hs2 hs3
  go_enter Try.func12, Try.ntmps12
  go_wp2_with fail
  refine (MsgBytes_any (F := F) (m := m) ⟨p1, n1, c1, p2, n2, c2, p3, n3, c3, rfl, hi, HS.out.1.grow (al1 _ _), HS.out.2.1.grow (al1 _ _), HS.out.2.2.grow (al1 _ _)⟩ hm HOp).mono ?_
  rintro e w1 ⟨v1, rfl, ho, hb⟩
  have hb1 : Below w.heap.size w w1 := below2 (al1 _ _) hb
  rw [he]
  clear ho hb he
  go_wp2
  go_ret2
  exact ⟨rfl, hb1⟩
set_option maxRecDepth 100000 in
set_option maxHeartbeats 400000 in
theorem Put_yes {F : Blks} {w : World} {v : Value} {m : Msg} {p : Option Addr} {n c : Nat} {l : List Letter} (h1 : Sl F w p n c l) (hn : n < 1200) (hl : ∀ x ∈ l, x.body.length ≤ 140737488355328)
    (hv : vr F w v m) (hm : SmallM m) (HOp : ∀ x ∈ m.ops, OpOk x) (he : msgErr m = 0) :
    Calls Try.prog 12 #[.slice p n c, v] w fun e w' => ∃ v, e = .returned (.tuple #[v, .int .i64 0]) ∧ Own 39 w.heap.size (newB w) w' v (l ++ [⟨m.fr, m.to, msgB m⟩]) ∧ Below w.heap.size w w' := by
  obtain ⟨p1, n1, c1, p2, n2, c2, p3, n3, c3, rfl, hi, hs1, hs2, hs3⟩ := hv
  have hln := h1.len
  have HS := Lib.hid (And.intro hs1 (And.intro hs2 hs3)); have HL := Lib.hid hl; have HN := Lib.hid hln; have H1 := Lib.hid h1
  clear hs1 hs2 hs3 hl hln h1
  go_enter Try.func12, Try.ntmps12
  go_wp2_with fail
  refine (MsgBytes_any (F := F) (m := m) ⟨p1, n1, c1, p2, n2, c2, p3, n3, c3, rfl, hi, HS.out.1.grow (al1 _ _), HS.out.2.1.grow (al1 _ _), HS.out.2.2.grow (al1 _ _)⟩ hm HOp).mono ?_
  rintro e w1 ⟨v1, rfl, ho, hb⟩
  have hb1 : Below w.heap.size w w1 := below2 (al1 _ _) hb
  have hz1 := hb.size
  simp at hz1
  have f1 : ∀ w', Below w1.heap.size w1 w' → w'.cell? ⟨w.heap.size, 1, none⟩ = some (.int .i64 m.fr) := fun w' h => (cell_later (below2 hb h) (a := ⟨w.heap.size, 1, none⟩) (v := .int .i64 m.fr) (by go_simp))
  have f2 : ∀ w', Below w1.heap.size w1 w' → w'.cell? ⟨w.heap.size, 2, none⟩ = some (.int .i64 m.to) := fun w' h => (cell_later (below2 hb h) (a := ⟨w.heap.size, 2, none⟩) (v := .int .i64 m.to) (by go_simp))
  obtain ⟨q, d, rfl, hsb⟩ := ho.sl
  have HB := Lib.hid (hsb.lt.mono (G := fun b => newB w b ∧ b < w1.heap.size) (fun b hb => ⟨by rcases hb.1 with h | h; exact h.elim; have := h.1; simp at this; unfold newB; omega, hb.2⟩)); have HB1 := Lib.hid hb1
  rw [he]
  clear ho hb he hb1 hsb
  go_wp2
  refine wp_flowM 9 [(1, .unk [] fun _ v wr => Own 39 w1.heap.size (newB w) wr v l), (8, .unk [] fun vs v wr => ∃ g, v = .slice (some ⟨g, 0, none⟩) 1 1 ∧ Sl (fun b => newB w b ∧ (b = g ∨ b < w1.heap.size)) wr (some ⟨g, 0, none⟩) 1 1 [(⟨m.fr, m.to, msgB m⟩ : Letter)])] [1,8] (by kernel_rfl) (by kernel_rfl) ?_ ?_
  · refine ⟨?_, ?_, trivial⟩
    · exact fun _ v w1 w2 _ h hb => h.grow hb
    · rintro _ v w1 w2 _ ⟨q, hv, h⟩ hb
      exact ⟨q, hv, h.grow hb⟩
  repeat (first
    | (refine Flow.skip_ rfl ?_; simp only [Act.put, List.setIfInBounds_toArray, List.set_cons_zero, List.set_cons_succ, Nat.reduceAdd])
    | (refine Flow.pure_ (v := ?_) rfl rfl ?_ ?_; rotate_left; focus (intro w hb; go_simp; try with_reducible rfl)
       simp only [Act.put, List.setIfInBounds_toArray, List.set_cons_zero, List.set_cons_succ, Nat.reduceAdd]))
  refine Flow.made_ rfl rfl ?_ ?_
  · intro wf hb hk
    (try simp only [holdsF, lookF, lookV, List.map_cons, List.map_nil, List.headD_cons, List.getD_cons_zero, List.getD_cons_succ, Nat.reduceEqDiff, Nat.reduceAdd, ↓reduceIte, and_true] at hk ⊢)
    skip
    go_simp
    (refine (Twin_any (H1.out.grow (below2 HB1.out hb)) (by have := HN.out; omega) HL.out).mono ?_; rintro e w' ⟨v, rfl, ho, hb'⟩; have hz := hb.size; have hz0 := HB1.out.size; exact ⟨v, rfl, ⟨hb', (ho.base hz).mono fun b hb => by unfold newB at hb ⊢; omega⟩, ho.block⟩)
  intro v1
  simp only [Act.put, List.setIfInBounds_toArray, List.set_cons_zero, List.set_cons_succ, Nat.reduceAdd]
  (try simp only [holdsF, lookF, lookV, List.map_cons, List.map_nil, List.headD_cons, List.getD_cons_zero, List.getD_cons_succ, Nat.reduceEqDiff, Nat.reduceAdd, ↓reduceIte, and_true])
  repeat (first
    | (refine Flow.skip_ rfl ?_; simp only [Act.put, List.setIfInBounds_toArray, List.set_cons_zero, List.set_cons_succ, Nat.reduceAdd])
    | (refine Flow.pure_ (v := ?_) rfl rfl ?_ ?_; rotate_left; focus (intro w hb; go_simp; try with_reducible rfl)
       simp only [Act.put, List.setIfInBounds_toArray, List.set_cons_zero, List.set_cons_succ, Nat.reduceAdd]))
  refine Flow.made_ rfl rfl ?_ ?_
  · intro wf hb hk
    (try simp only [holdsF, lookF, lookV, List.map_cons, List.map_nil, List.headD_cons, List.getD_cons_zero, List.getD_cons_succ, Nat.reduceEqDiff, Nat.reduceAdd, ↓reduceIte, and_true] at hk ⊢)
    (skip)
    go_simp
    (have hz := hb.size; have hz0 := HB1.out.size; exact ⟨⟨al1 _ _, Sl.lit (α := Letter) (xs := [(⟨m.fr, m.to, msgB m⟩ : Letter)]) (t := 39) (fz := (0, 0)) (heap_alloc_new _ _) [_] rfl rfl (elems1 ⟨q, _, d, rfl, hi.2, ((HB.out.grow (below2 hb (al1 _ _))).mono fun b hb => ⟨hb.1, .inr hb.2⟩)⟩) ⟨by unfold newB; omega, .inl rfl⟩ (by simp)⟩, fun b hb => by simp [Value.ownBlock] at hb ⊢; omega⟩)
  intro v8
  simp only [Act.put, List.setIfInBounds_toArray, List.set_cons_zero, List.set_cons_succ, Nat.reduceAdd]
  (try simp only [holdsF, lookF, lookV, List.map_cons, List.map_nil, List.headD_cons, List.getD_cons_zero, List.getD_cons_succ, Nat.reduceEqDiff, Nat.reduceAdd, ↓reduceIte, and_true])
  repeat (first
    | (refine Flow.skip_ rfl ?_; simp only [Act.put, List.setIfInBounds_toArray, List.set_cons_zero, List.set_cons_succ, Nat.reduceAdd])
    | (refine Flow.pure_ (v := ?_) rfl rfl ?_ ?_; rotate_left; focus (intro w hb; go_simp; try with_reducible rfl)
       simp only [Act.put, List.setIfInBounds_toArray, List.set_cons_zero, List.set_cons_succ, Nat.reduceAdd]))
  refine Flow.doneM_ (fun wr hb hk hap => ?_)
  obtain ⟨⟨g, rfl, h8⟩, h1, -⟩ := hk
  have hne : v1.ownBlock ≠ some g := by
    intro h
    exact hap _ (List.mem_cons_of_mem _ List.mem_cons_self) _ List.mem_cons_self (by simp) rfl rfl g h rfl
  have hz := hb.size
  have hz0 := HB1.out.size
  have hl2 : (l.length + 1) * 40 ≤ 140737488355328 := by have := HN.out; omega
  clear f1 f2 hap
  go_wp2_with (at_builtin; refine wpList_append_Own (α := Letter) rfl (.tmp 22) (.tmp 29) rfl Try.underlying22 (z := .agg #[.int .i64 0, .int .i64 0, .slice none 0 0]) (bytes := 40) (by kernel_rfl) rfl (by decide) rfl rfl h1 h8 (fun b hb => by rcases hb.2 with h | h; exact h ▸ hne; exact fun e => absurd (h1.block _ e).1 (by omega)) hz hl2 ?_; intro v' w' ho hg hat)
  go_ret2
  have hbw : Below w.heap.size w wr := below2 HB1.out hb
  exact ⟨_, rfl, (ho.base hz0).mono (fun b hb => by rcases hb with hb | hb; exact hb; exact hb.1), hbw.grown hg hbw.size (fun k hk => Nat.le_trans hz0 (h1.block k hk).1)⟩
end Go.Proofs.Ytpmdkmpmpjdglaa
