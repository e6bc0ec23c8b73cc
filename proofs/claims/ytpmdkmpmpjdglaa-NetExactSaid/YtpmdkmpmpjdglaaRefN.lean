/- The reference's net: put, taken, copied. -/
import Derived.Test.YtpmdkmpmpjdglaaRefE
import Derived.Test.YtpmdkmpmpjdglaaTwins
import Derived.Test.YtpmdkmpmpjdglaaPut
set_option linter.unusedSimpArgs false
set_option linter.unusedVariables false
namespace Go.Proofs.Ytpmdkmpmpjdglaa
open Go Go.RowKit
open Rep (vr)

set_option maxRecDepth 100000 in
set_option maxHeartbeats 400000 in
theorem inN_any {w : World} {n lo hi : Int} : Calls Try.prog 36 #[.int .i64 n, .int .i64 lo, .int .i64 hi] w fun e w' => e = .returned (.bool (decide (lo ≤ n) && decide (n ≤ hi))) ∧ w = w' := by
  by_cases h1 : lo ≤ n
  · have e1 : decide (lo ≤ n) = true := by simpa using h1
    go_enter Try.func36, Try.ntmps36
    go_wp2
    go_ret
    exact ⟨by simp [h1], rfl⟩
  · have e1 : decide (lo ≤ n) = false := by simpa using h1
    go_enter Try.func36, Try.ntmps36
    go_wp2
    go_ret
    exact ⟨by simp [h1], rfl⟩
set_option maxRecDepth 100000 in
set_option maxHeartbeats 400000 in
theorem PutR_bad {F : Blks} {w : World} {v : Value} {m : Msg} {p : Option Addr} {n c : Nat} (hv : vr F w v m) (hm : SmallM m) (he : msgErr m ≠ 0) :
    Calls Try.prog 13 #[.slice p n c, v] w fun e w' => e = .returned (.tuple #[.slice none 0 0, .int .i64 (msgErr m)]) ∧ Below w.heap.size w w' := by
  obtain ⟨p1, n1, c1, p2, n2, c2, p3, n3, c3, rfl, hi, hs1, hs2, hs3⟩ := hv
  have HS := Lib.hid (And.intro hs1 (And.intro hs2 hs3))
  clear hs1 hs2 hs3
  go_enter Try.func13, Try.ntmps13
  go_wp2_with fail
  refine (MsgRef_any (F := F) (m := m) ⟨p1, n1, c1, p2, n2, c2, p3, n3, c3, rfl, hi, HS.out.1.grow (al1 _ _), HS.out.2.1.grow (al1 _ _), HS.out.2.2.grow (al1 _ _)⟩ hm.2.2.1).mono ?_
  rintro e w1 ⟨v1, rfl, ho, hb⟩
  have hb1 : Below w.heap.size w w1 := below2 (al1 _ _) hb
  clear ho hb
  go_wp2
  go_ret2
  exact ⟨rfl, hb1⟩
set_option maxRecDepth 100000 in
set_option maxHeartbeats 400000 in
theorem PutR_full {F : Blks} {w : World} {v : Value} {m : Msg} {p : Option Addr} {n c : Nat} (hv : vr F w v m) (hm : SmallM m) (he : msgErr m = 0) (hn : 1200 ≤ n) :
    Calls Try.prog 13 #[.slice p n c, v] w fun e w' => e = .returned (.tuple #[.slice none 0 0, .int .i64 6]) ∧ Below w.heap.size w w' := by
  obtain ⟨p1, n1, c1, p2, n2, c2, p3, n3, c3, rfl, hi, hs1, hs2, hs3⟩ := hv
  have HS := Lib.hid (And.intro hs1 (And.intro hs2 hs3))
  clear hs1 hs2 hs3
  go_enter Try.func13, Try.ntmps13
  go_wp2_with fail
  refine (MsgRef_any (F := F) (m := m) ⟨p1, n1, c1, p2, n2, c2, p3, n3, c3, rfl, hi, HS.out.1.grow (al1 _ _), HS.out.2.1.grow (al1 _ _), HS.out.2.2.grow (al1 _ _)⟩ hm.2.2.1).mono ?_
  rintro e w1 ⟨v1, rfl, ho, hb⟩
  have hb1 : Below w.heap.size w w1 := below2 (al1 _ _) hb
  rw [he]
  clear ho hb he
  go_wp2
  go_ret2
  exact ⟨rfl, hb1⟩
set_option maxRecDepth 100000 in
set_option maxHeartbeats 400000 in
theorem PutR_yes {F : Blks} {w : World} {v : Value} {m : Msg} {p : Option Addr} {n c : Nat} {l : List Letter} (h1 : Sl F w p n c l) (hn : n < 1200) (hl : ∀ x ∈ l, x.body.length ≤ 140737488355328)
    (hv : vr F w v m) (hm : SmallM m) (he : msgErr m = 0) :
    Calls Try.prog 13 #[.slice p n c, v] w fun e w' => ∃ v, e = .returned (.tuple #[v, .int .i64 0]) ∧ Own 39 w.heap.size (newB w) w' v (l ++ [⟨m.fr, m.to, msgB m⟩]) ∧ Below w.heap.size w w' := by
  obtain ⟨p1, n1, c1, p2, n2, c2, p3, n3, c3, rfl, hi, hs1, hs2, hs3⟩ := hv
  have hln := h1.len
  have HS := Lib.hid (And.intro hs1 (And.intro hs2 hs3)); have HL := Lib.hid hl; have HN := Lib.hid hln; have H1 := Lib.hid h1
  clear hs1 hs2 hs3 hl hln h1
  go_enter Try.func13, Try.ntmps13
  go_wp2_with fail
  refine (MsgRef_any (F := F) (m := m) ⟨p1, n1, c1, p2, n2, c2, p3, n3, c3, rfl, hi, HS.out.1.grow (al1 _ _), HS.out.2.1.grow (al1 _ _), HS.out.2.2.grow (al1 _ _)⟩ hm.2.2.1).mono ?_
  rintro e w1 ⟨v1, rfl, ho, hb⟩
  have hb1 : Below w.heap.size w w1 := below2 (al1 _ _) hb
  have hz1 := hb.size
  simp at hz1
  have f1 : ∀ w', Below w1.heap.size w1 w' → w'.cell? ⟨w.heap.size, 1, none⟩ = some (.int .i64 m.fr) := fun w' h => (cell_later (below2 hb h) (a := ⟨w.heap.size, 1, none⟩) (v := .int .i64 m.fr) (by go_simp))
  have f2 : ∀ w', Below w1.heap.size w1 w' → w'.cell? ⟨w.heap.size, 2, none⟩ = some (.int .i64 m.to) := fun w' h => (cell_later (below2 hb h) (a := ⟨w.heap.size, 2, none⟩) (v := .int .i64 m.to) (by go_simp))
  obtain ⟨q, d, rfl, hsb⟩ := ho.sl
  have HB := Lib.hid (hsb.lt.mono (G := fun b => newB w b ∧ b < w1.heap.size) (fun b hb => ⟨by rcases hb.1 with h | h; exact h.elim; have := h.1; simp at this; unfold newB; omega, hb.2⟩)); have HB1 := Lib.hid hb1
  rw [he]
  clear ho hb he hb1 hsb
  go_wp2
  refine wp_flowM 9 [(1, .unk [] fun _ v wr => Own 39 w1.heap.size (newB w) wr v l), (8, .unk [] fun vs v wr => ∃ g, v = .slice (some ⟨g, 0, none⟩) 1 1 ∧ Sl (fun b => newB w b ∧ (b = g ∨ b < w1.heap.size)) wr (some ⟨g, 0, none⟩) 1 1 [(⟨m.fr, m.to, msgB m⟩ : Letter)])] [1,8] (by kernel_rfl) (by kernel_rfl) ?_ ?_
  · refine ⟨?_, ?_, trivial⟩
    · exact fun _ v w1 w2 _ h hb => h.grow hb
    · rintro _ v w1 w2 _ ⟨q, hv, h⟩ hb
      exact ⟨q, hv, h.grow hb⟩
  repeat (first
    | (refine Flow.skip_ rfl ?_; simp only [Act.put, List.setIfInBounds_toArray, List.set_cons_zero, List.set_cons_succ, Nat.reduceAdd])
    | (refine Flow.pure_ (v := ?_) rfl rfl ?_ ?_; rotate_left; focus (intro w hb; go_simp; try with_reducible rfl)
       simp only [Act.put, List.setIfInBounds_toArray, List.set_cons_zero, List.set_cons_succ, Nat.reduceAdd]))
  refine Flow.made_ rfl rfl ?_ ?_
  · intro wf hb hk
    (try simp only [holdsF, lookF, lookV, List.map_cons, List.map_nil, List.headD_cons, List.getD_cons_zero, List.getD_cons_succ, Nat.reduceEqDiff, Nat.reduceAdd, ↓reduceIte, and_true] at hk ⊢)
    skip
    go_simp
    (refine (TwinLetters_any (H1.out.grow (below2 HB1.out hb)) (by have := HN.out; omega) HL.out).mono ?_; rintro e w' ⟨v, rfl, ho, hb'⟩; have hz := hb.size; have hz0 := HB1.out.size; exact ⟨v, rfl, ⟨hb', (ho.base hz).mono fun b hb => by unfold newB at hb ⊢; omega⟩, ho.block⟩)
  intro v1
  simp only [Act.put, List.setIfInBounds_toArray, List.set_cons_zero, List.set_cons_succ, Nat.reduceAdd]
  (try simp only [holdsF, lookF, lookV, List.map_cons, List.map_nil, List.headD_cons, List.getD_cons_zero, List.getD_cons_succ, Nat.reduceEqDiff, Nat.reduceAdd, ↓reduceIte, and_true])
  repeat (first
    | (refine Flow.skip_ rfl ?_; simp only [Act.put, List.setIfInBounds_toArray, List.set_cons_zero, List.set_cons_succ, Nat.reduceAdd])
    | (refine Flow.pure_ (v := ?_) rfl rfl ?_ ?_; rotate_left; focus (intro w hb; go_simp; try with_reducible rfl)
       simp only [Act.put, List.setIfInBounds_toArray, List.set_cons_zero, List.set_cons_succ, Nat.reduceAdd]))
  refine Flow.made_ rfl rfl ?_ ?_
  · intro wf hb hk
    (try simp only [holdsF, lookF, lookV, List.map_cons, List.map_nil, List.headD_cons, List.getD_cons_zero, List.getD_cons_succ, Nat.reduceEqDiff, Nat.reduceAdd, ↓reduceIte, and_true] at hk ⊢)
    (skip)
    go_simp
    (have hz := hb.size; have hz0 := HB1.out.size; exact ⟨⟨al1 _ _, Sl.lit (α := Letter) (xs := [(⟨m.fr, m.to, msgB m⟩ : Letter)]) (t := 39) (fz := (0, 0)) (heap_alloc_new _ _) [_] rfl rfl (elems1 ⟨q, _, d, rfl, hi.2, ((HB.out.grow (below2 hb (al1 _ _))).mono fun b hb => ⟨hb.1, .inr hb.2⟩)⟩) ⟨by unfold newB; omega, .inl rfl⟩ (by simp)⟩, fun b hb => by simp [Value.ownBlock] at hb ⊢; omega⟩)
  intro v8
  simp only [Act.put, List.setIfInBounds_toArray, List.set_cons_zero, List.set_cons_succ, Nat.reduceAdd]
  (try simp only [holdsF, lookF, lookV, List.map_cons, List.map_nil, List.headD_cons, List.getD_cons_zero, List.getD_cons_succ, Nat.reduceEqDiff, Nat.reduceAdd, ↓reduceIte, and_true])
  repeat (first
    | (refine Flow.skip_ rfl ?_; simp only [Act.put, List.setIfInBounds_toArray, List.set_cons_zero, List.set_cons_succ, Nat.reduceAdd])
    | (refine Flow.pure_ (v := ?_) rfl rfl ?_ ?_; rotate_left; focus (intro w hb; go_simp; try with_reducible rfl)
       simp only [Act.put, List.setIfInBounds_toArray, List.set_cons_zero, List.set_cons_succ, Nat.reduceAdd]))
  refine Flow.doneM_ (fun wr hb hk hap => ?_)
  obtain ⟨⟨g, rfl, h8⟩, h1, -⟩ := hk
  have hne : v1.ownBlock ≠ some g := by
    intro h
    exact hap _ (List.mem_cons_of_mem _ List.mem_cons_self) _ List.mem_cons_self (by simp) rfl rfl g h rfl
  have hz := hb.size
  have hz0 := HB1.out.size
  have hl2 : (l.length + 1) * 40 ≤ 140737488355328 := by have := HN.out; omega
  clear f1 f2 hap
  go_wp2_with (at_builtin; refine wpList_append_Own (α := Letter) rfl (.tmp 20) (.tmp 27) rfl Try.underlying22 (z := .agg #[.int .i64 0, .int .i64 0, .slice none 0 0]) (bytes := 40) (by kernel_rfl) rfl (by decide) rfl rfl h1 h8 (fun b hb => by rcases hb.2 with h | h; exact h ▸ hne; exact fun e => absurd (h1.block _ e).1 (by omega)) hz hl2 ?_; intro v' w' ho hg hat)
  go_ret2
  have hbw : Below w.heap.size w wr := below2 HB1.out hb
  exact ⟨_, rfl, (ho.base hz0).mono (fun b hb => by rcases hb with hb | hb; exact hb; exact hb.1), hbw.grown hg hbw.size (fun k hk => Nat.le_trans hz0 (h1.block k hk).1)⟩

theorem inN_yes {w : World} {n lo hi : Int} (h1 : lo ≤ n) (h2 : n ≤ hi) : Calls Try.prog 36 #[.int .i64 n, .int .i64 lo, .int .i64 hi] w fun e w' => e = .returned (.bool true) ∧ w = w' :=
  inN_any.mono fun e w' ⟨he, hw⟩ => ⟨by rw [he, decide_eq_true h1, decide_eq_true h2]; rfl, hw⟩
theorem inN_no {w : World} {n lo hi : Int} (h : ¬ (lo ≤ n ∧ n ≤ hi)) : Calls Try.prog 36 #[.int .i64 n, .int .i64 lo, .int .i64 hi] w fun e w' => e = .returned (.bool false) ∧ w = w' :=
  inN_any.mono fun e w' ⟨he, hw⟩ => ⟨by rw [he, ← Bool.decide_and, decide_eq_false h], hw⟩
set_option maxRecDepth 100000 in
set_option maxHeartbeats 400000 in
theorem TakeR_no {p : Option Addr} {n c : Nat} {at_ : Int} {w : World} (h : ¬ (0 ≤ at_ ∧ at_ < n)) (hn : n ≤ 1000000) :
    Calls Try.prog 18 #[.slice p n c, .int .i64 at_] w fun e w' =>
      e = .returned (.tuple #[.slice none 0 0, .agg #[.int .i64 0, .int .i64 0, .slice none 0 0], .int .i64 7]) ∧ Below w.heap.size w w' := by
  have hw1 : IntKind.i64.wrap ((n : Int) - 1) = (n : Int) - 1 := IntWalk.i64_in _ (by omega)
  have H := Lib.hid (show ¬ (0 ≤ at_ ∧ at_ ≤ (n : Int) - 1) by omega)
  clear h
  go_enter Try.func18, Try.ntmps18
  go_wp2_with (go_at_call 36; refine (inN_no H.out).mono ?_; rintro e w' ⟨rfl, rfl⟩)
  refine bodyPost_ret (v := .tuple #[.slice none 0 0, .agg #[.int .i64 0, .int .i64 0, .slice none 0 0], .int .i64 7]) ?_ rfl ?_
  · simp [results, Try.results18, go_sem]
  · exact ⟨rfl, by first | exact al1 _ _ | exact (by repeat' (first | with_reducible exact (Below.refl w.heap.size w) | with_reducible exact Below.refl _ _ | ((with_reducible refine Below.setCell ?_ ?_ _); rotate_left; (focus (simp <;> omega))) | ((with_reducible refine Below.alloc ?_ ?_ _); rotate_left; (focus (simp <;> omega))) | (with_reducible refine below_drew ?_) | (with_reducible refine below_drewN ?_ _)))⟩
set_option maxRecDepth 100000 in
set_option maxHeartbeats 1000000 in
theorem TakeR_yes {F : Blks} {p : Option Addr} {n c : Nat} {l : List Letter} {w : World} {k : Nat} (h1 : Sl F w p n c l) (hk : k < n) (hn : n ≤ 1000000) (hl : ∀ x ∈ l, x.body.length ≤ 140737488355328) :
    Calls Try.prog 18 #[.slice p n c, .int .i64 k] w fun e w' => ∃ v u,
      e = .returned (.tuple #[v, u, .int .i64 0]) ∧ Own 39 w.heap.size (newB w) w' v (l.take k ++ l.drop (k + 1)) ∧ vr (newB w) w' u (gt l k) ∧ Below w.heap.size w w' := by
  have hln := h1.len
  have hk0 := hk
  have hkn : ((k : Int) < (n : Int)) := by omega
  have hw1 : IntKind.i64.wrap ((n : Int) - 1) = (n : Int) - 1 := IntWalk.i64_in _ (by omega)
  have hw2 : IntKind.i64.wrap ((k : Int) + 1) = (k : Int) + 1 := IntWalk.i64_in _ (by omega)
  have hw3 : (0 : Int) ≤ (k : Int) + 1 := by omega
  have hw4 : (k : Int) + 1 ≤ (n : Int) := by omega
  have hw5 : ((k : Int) + 1).toNat = k + 1 := by omega
  have H1 := Lib.hid h1; have HL := Lib.hid hl; have HN := Lib.hid hln
  clear h1 hl
  subst hln
  go_enter Try.func18, Try.ntmps18
  go_wp2_with (first
    | (go_at_call 36; refine (inN_yes (by omega) (by omega)).mono ?_; rintro e w' ⟨rfl, rfl⟩))
  go_wp2_with fail
  refine (TwinLetters_any (H1.out.grow (al1 _ _)) hn HL.out).mono ?_
  rintro e w1 ⟨v7, rfl, ho, hb⟩
  obtain ⟨q, d, rfl, hs⟩ := ho.sl
  have hle := hs.le
  have hmx : d ≤ 9223372036854775807 := by have := hs.max; unfold maxLen at this; exact this
  obtain ⟨b, o, p1, n1, c1, rfl, hb1, hb2, e1, e2, e3, i1, i2, hs1⟩ := hs.letter hk0
  have hkd : k ≤ d := by omega
  have hkd1 : k + 1 ≤ d := by omega
  have HO := Lib.hid ho
  have HB := Lib.hid hb
  have HS := Lib.hid hs
  have HS1 := Lib.hid hs1
  clear ho hb hs hs1 hb1
  go_wp2
  have hzw := HB.out.size
  simp at hzw
  obtain ⟨W, hW⟩ : ∃ W, W = w1.alloc (.cells #[.int .i64 (gt l k).fr, .int .i64 (gt l k).to, .slice p1 n1 c1] 39) := ⟨_, rfl⟩
  have hbW : Below w1.heap.size w1 W := by rw [hW]; exact al1 _ _
  have hWz : W.heap.size = w1.heap.size + 1 := by rw [hW]; simp
  have hA : ∀ w', Below W.heap.size W w' → w'.heap[w1.heap.size]? = some (.cells #[.int .i64 (gt l k).fr, .int .i64 (gt l k).to, .slice p1 n1 c1] 39 (0, 0)) := fun w' hb => (hb.block _ (by omega)).trans (by rw [hW]; exact heap_alloc_new _ _)
  have hZ : ∀ w', Below W.heap.size W w' → w'.heap[w.heap.size]? = some (.cells #[.int .i64 0, .int .i64 0, .slice none 0 0] 39 (0, 0)) := fun w' hb => ((hb.block _ (by omega)).trans (hbW.block _ (by omega))).trans ((HB.out.block _ (by simp)).trans (heap_alloc_new _ _))
  have hbw : Below w.heap.size w W := below2 (below2 (al1 _ _) HB.out) hbW
  have hG : Sl (fun b => w.heap.size < b ∧ b < w1.heap.size) W.drew (some ⟨b, o, none⟩) l.length d l := (HS.out.lt.mono (fun b hb => ⟨by rcases hb.1 with h | h; unfold newB at h; simp at h; omega; have := h.1; simp at this; omega, hb.2⟩)).grow (below_drew hbW)
  have hL : Sl (fun b => w.heap.size < b ∧ b < w1.heap.size) W p1 n1 c1 (gt l k).body := (HS1.out.lt.mono (fun b hb => ⟨by rcases hb.1 with h | h; unfold newB at h; simp at h; omega; have := h.1; simp at this; omega, hb.2⟩)).grow hbW
  have HG := Lib.hid hG; have HL1 := Lib.hid hL; have HA := Lib.hid hA; have HZ := Lib.hid hZ; have HBW := Lib.hid hbw; have HWZ := Lib.hid hWz
  have HBc := Lib.hid (below_drew (Below.refl W.heap.size W))
  have hne : w.heap.size ≠ w1.heap.size := by omega
  have hne2 : w1.heap.size ≠ w.heap.size := by omega
  rw [← hW]
  clear hG hL hA hZ hbw hbW hWz hW e1 e2 e3 HS HS1 HO HB
  go_region_held3 (fun w' => w'.cell? ⟨w1.heap.size, 0, none⟩ = some (.int .i64 (gt l k).fr) ∧ w'.cell? ⟨w1.heap.size, 1, none⟩ = some (.int .i64 (gt l k).to) ∧ w'.cell? ⟨w1.heap.size, 2, none⟩ = some (.slice p1 n1 c1)) (first | exact ⟨heap_cell (HA.out _ HBc.out), heap_cell (HA.out _ HBc.out), heap_cell (HA.out _ HBc.out)⟩ | go_keep) (first
    | (refine step_append_Own (α := Letter) rfl (.tmp 23) (.tmp 26) rfl Try.underlying22 (z := .agg #[.int .i64 0, .int .i64 0, .slice none 0 0]) (bytes := 40) (by kernel_rfl) rfl (by decide) (by rfl) (by rfl) (Own.nil _ W.heap.size (fun b => w.heap.size < b ∧ b < w1.heap.size) _) (HG.out.take (k := k) (by omega)) (fun b hb e => by cases e) HBc.out.size (by simp; omega) ?_; intro v27 w27 ho27 hg27 hat27; have HO27 := Lib.hid ho27; have HG2 := Lib.hid (HG.out.grow ((Below.refl _ _).grown hg27 (Nat.le_refl _) (fun j hj => by cases hj))); have HBc := Lib.hid (HBc.out.grown hg27 HBc.out.size (fun j hj => by cases hj)); clear ho27 hg27 hat27)
    | (refine step_append_Own (α := Letter) rfl (.tmp 27) (.tmp 31) rfl Try.underlying22 (z := .agg #[.int .i64 0, .int .i64 0, .slice none 0 0]) (bytes := 40) (by kernel_rfl) rfl (by decide) (by rfl) (by rfl) HO27.out (HG2.out.drop (k := k + 1) (by omega)) (fun b hb e => by have := (HO27.out.block _ e).1; have := HWZ.out; have := hb.2; omega) HBc.out.size (by simp; omega) ?_; intro v32 w32 ho32 hg32 hat32; have HO32 := Lib.hid ho32; have HBc := Lib.hid (HBc.out.grown hg32 HBc.out.size (fun j hj => (HO27.out.block _ hj).1)); have z0 : w32.cell? ⟨w.heap.size, 0, none⟩ = some (.int .i64 0) := heap_cell (HZ.out _ HBc.out); have z1 : w32.cell? ⟨w.heap.size, 1, none⟩ = some (.int .i64 0) := heap_cell (HZ.out _ HBc.out); have z2 : w32.cell? ⟨w.heap.size, 2, none⟩ = some (.slice none 0 0) := heap_cell (HZ.out _ HBc.out); have zf : ∀ o, w32.frozen? ⟨w.heap.size, o, none⟩ = false := fun o => heap_frozen (HZ.out _ HBc.out); clear ho32 hg32 hat32))
  all_goals go_wp2
  all_goals
    have hwz := HWZ.out
    refine bodyPost_ret (v := .tuple #[v32, .agg #[.int .i64 (gt l k).fr, .int .i64 (gt l k).to, .slice p1 n1 c1], .int .i64 0]) ?_ rfl ?_
    · simp [results, Try.results18, go_sem, z0, z1, z2, zf]
    · have ha : Agree (fun b => w.heap.size + 1 ≤ b) w32 (((w32.setCell ⟨w.heap.size, 0, none⟩ (.int .i64 (gt l k).fr)).setCell ⟨w.heap.size, 1, none⟩ (.int .i64 (gt l k).to)).setCell ⟨w.heap.size, 2, none⟩ (.slice p1 n1 c1)) := (by repeat' (first | with_reducible exact Agree.refl _ _ | ((with_reducible refine Agree.setCell ?_ ?_ _); rotate_left; (focus (intro b hb; (try simp only [newB, oldB] at hb); (try simp at hb ⊢); omega))) | ((with_reducible refine Agree.alloc ?_ ?_ _); rotate_left; (focus (intro b hb; (try simp only [newB, oldB] at hb); (try simp at hb ⊢); omega))) | (with_reducible refine Agree.drew ?_) | (with_reducible refine Agree.drewN ?_ _)))
      have hb4 : Below w.heap.size w w32 := below2 HBW.out HBc.out
      refine ⟨_, _, rfl, ?_, ?_, ?_⟩
      · exact (((HO32.out.base (B' := w.heap.size + 1) (by omega)).keepB (fun b hb => by rcases hb with (hb | hb) | hb <;> exact hb.1) ha).base (Nat.le_succ _)).mono fun b hb => by rcases hb with (hb | hb) | hb <;> exact Nat.le_of_lt hb.1
      · exact ⟨p1, n1, c1, rfl, ⟨i1, i2⟩, ((HL1.out.grow HBc.out).keep (fun b hb => ha b hb.1)).mono fun b hb => Nat.le_of_lt hb.1⟩
      · exact (by repeat' (first | with_reducible exact hb4 | with_reducible exact Below.refl _ _ | ((with_reducible refine Below.setCell ?_ ?_ _); rotate_left; (focus (simp <;> omega))) | ((with_reducible refine Below.alloc ?_ ?_ _); rotate_left; (focus (simp <;> omega))) | (with_reducible refine below_drew ?_) | (with_reducible refine below_drewN ?_ _)))

set_option maxRecDepth 100000 in
set_option maxHeartbeats 400000 in
theorem CopyR_no {p : Option Addr} {n c : Nat} {at_ : Int} {w : World} (h : ¬ (0 ≤ at_ ∧ at_ < n)) (hn : n ≤ 1000000) :
    Calls Try.prog 20 #[.slice p n c, .int .i64 at_] w fun e w' => e = .returned (.tuple #[.slice none 0 0, .int .i64 7]) ∧ Below w.heap.size w w' := by
  have H := Lib.hid h
  clear h
  go_enter Try.func20, Try.ntmps20
  go_wp2_with fail
  refine (TakeR_no H.out hn).mono ?_
  rintro e w1 ⟨rfl, hb⟩
  have HB := Lib.hid hb
  clear hb
  go_wp2
  go_ret2
  exact ⟨rfl, below2 HB.out (al1 _ _)⟩
set_option maxRecDepth 100000 in
set_option maxHeartbeats 400000 in
theorem CopyR_full {F : Blks} {p : Option Addr} {n c : Nat} {l : List Letter} {w : World} {k : Nat} (h1 : Sl F w p n c l) (hk : k < n) (hn : n ≤ 1000000) (hl : ∀ x ∈ l, x.body.length ≤ 140737488355328) (h2 : 1200 ≤ n) :
    Calls Try.prog 20 #[.slice p n c, .int .i64 k] w fun e w' => e = .returned (.tuple #[.slice none 0 0, .int .i64 6]) ∧ Below w.heap.size w w' := by
  have HT := Lib.hid (TakeR_yes h1 hk hn hl)
  clear h1 hl
  go_enter Try.func20, Try.ntmps20
  go_wp2_with fail
  refine HT.out.mono ?_
  rintro e w1 ⟨v, u, rfl, ho, hv, hb⟩
  obtain ⟨p1, n1, c1, rfl, i1, hs1⟩ := hv
  have HB := Lib.hid hb
  clear hb hs1 ho
  go_wp2
  go_ret2
  exact ⟨rfl, below2 HB.out (al1 _ _)⟩
set_option maxRecDepth 100000 in
set_option maxHeartbeats 1000000 in
theorem CopyR_yes {F : Blks} {p : Option Addr} {n c : Nat} {l : List Letter} {w : World} {k : Nat} (h1 : Sl F w p n c l) (hk : k < n) (hn : n < 1200) (hl : ∀ x ∈ l, x.body.length ≤ 140737488355328) :
    Calls Try.prog 20 #[.slice p n c, .int .i64 k] w fun e w' => ∃ v,
      e = .returned (.tuple #[v, .int .i64 0]) ∧ Own 39 w.heap.size (newB w) w' v (l ++ [gt l k]) ∧ Below w.heap.size w w' := by
  have HT := Lib.hid (TakeR_yes h1 hk (by omega) hl)
  have hln := h1.len
  have H1 := Lib.hid h1; have HL := Lib.hid hl; have HN := Lib.hid hln
  clear h1 hl hln
  go_enter Try.func20, Try.ntmps20
  go_wp2_with fail
  refine HT.out.mono ?_
  rintro e w1 ⟨v, u, rfl, ho, hv, hb⟩
  obtain ⟨p1, n1, c1, rfl, i1, hs1⟩ := hv
  obtain ⟨W, hW⟩ : ∃ W, W = w1.alloc (.cells #[.int .i64 (gt l k).fr, .int .i64 (gt l k).to, .slice p1 n1 c1] 39) := ⟨_, rfl⟩
  have hbW : Below w1.heap.size w1 W := by rw [hW]; exact al1 _ _
  have hWz : W.heap.size = w1.heap.size + 1 := by rw [hW]; simp
  have hA : ∀ w', Below W.heap.size W w' → w'.heap[w1.heap.size]? = some (.cells #[.int .i64 (gt l k).fr, .int .i64 (gt l k).to, .slice p1 n1 c1] 39 (0, 0)) := fun w' hb => (hb.block _ (by omega)).trans (by rw [hW]; exact heap_alloc_new _ _)
  have f0 : ∀ w', Below W.heap.size W w' → w'.cell? ⟨w1.heap.size, 0, none⟩ = some (.int .i64 (gt l k).fr) := fun w' h => heap_cell (hA w' h)
  have f1 : ∀ w', Below W.heap.size W w' → w'.cell? ⟨w1.heap.size, 1, none⟩ = some (.int .i64 (gt l k).to) := fun w' h => heap_cell (hA w' h)
  have f2 : ∀ w', Below W.heap.size W w' → w'.cell? ⟨w1.heap.size, 2, none⟩ = some (.slice p1 n1 c1) := fun w' h => heap_cell (hA w' h)
  have HB := Lib.hid (below2 hb hbW); have HW := Lib.hid hWz; have HV := Lib.hid ((hs1.lt.mono (G := fun b => newB w b ∧ b < w1.heap.size) (fun b hb => hb)).grow hbW)
  have hz1 : w.heap.size ≤ w1.heap.size := hb.size
  clear ho hs1 hb hbW hWz hA
  go_wp2
  rw [← hW]
  clear hW
  refine wp_flowM 4 [(1, .unk [] fun _ v wr => Own 39 W.heap.size (newB w) wr v l), (3, .unk [] fun vs v wr => ∃ g, v = .slice (some ⟨g, 0, none⟩) 1 1 ∧ Sl (fun b => newB w b ∧ (b = g ∨ b < w1.heap.size)) wr (some ⟨g, 0, none⟩) 1 1 [gt l k])] [1,3] (by kernel_rfl) (by kernel_rfl) ?_ ?_
  · refine ⟨?_, ?_, trivial⟩
    · exact fun _ v w1 w2 _ h hb => h.grow hb
    · rintro _ v w1 w2 _ ⟨q, hv, h⟩ hb
      exact ⟨q, hv, h.grow hb⟩
  repeat (first
    | (refine Flow.skip_ rfl ?_; simp only [Act.put, List.setIfInBounds_toArray, List.set_cons_zero, List.set_cons_succ, Nat.reduceAdd])
    | (refine Flow.pure_ (v := ?_) rfl rfl ?_ ?_; rotate_left; focus (intro w hb; go_simp; try with_reducible rfl)
       simp only [Act.put, List.setIfInBounds_toArray, List.set_cons_zero, List.set_cons_succ, Nat.reduceAdd]))
  refine Flow.made_ rfl rfl ?_ ?_
  · intro wf hb hk
    (try simp only [holdsF, lookF, lookV, List.map_cons, List.map_nil, List.headD_cons, List.getD_cons_zero, List.getD_cons_succ, Nat.reduceEqDiff, Nat.reduceAdd, ↓reduceIte, and_true] at hk ⊢)
    skip
    go_simp
    (refine (TwinLetters_any (H1.out.grow (below2 HB.out hb)) (by omega) HL.out).mono ?_; rintro e w' ⟨v, rfl, ho, hb'⟩; have hz := hb.size; have hw := HW.out; exact ⟨v, rfl, ⟨hb', (ho.base hz).mono fun b hb => by unfold newB at hb ⊢; omega⟩, ho.block⟩)
  intro v1
  simp only [Act.put, List.setIfInBounds_toArray, List.set_cons_zero, List.set_cons_succ, Nat.reduceAdd]
  (try simp only [holdsF, lookF, lookV, List.map_cons, List.map_nil, List.headD_cons, List.getD_cons_zero, List.getD_cons_succ, Nat.reduceEqDiff, Nat.reduceAdd, ↓reduceIte, and_true])
  repeat (first
    | (refine Flow.skip_ rfl ?_; simp only [Act.put, List.setIfInBounds_toArray, List.set_cons_zero, List.set_cons_succ, Nat.reduceAdd])
    | (refine Flow.pure_ (v := ?_) rfl rfl ?_ ?_; rotate_left; focus (intro w hb; go_simp; try with_reducible rfl)
       simp only [Act.put, List.setIfInBounds_toArray, List.set_cons_zero, List.set_cons_succ, Nat.reduceAdd]))
  refine Flow.made_ rfl rfl ?_ ?_
  · intro wf hb hk
    (try simp only [holdsF, lookF, lookV, List.map_cons, List.map_nil, List.headD_cons, List.getD_cons_zero, List.getD_cons_succ, Nat.reduceEqDiff, Nat.reduceAdd, ↓reduceIte, and_true] at hk ⊢)
    (skip)
    go_simp
    (have hz := hb.size; have hw := HW.out; exact ⟨⟨al1 _ _, Sl.lit (α := Letter) (xs := [gt l k]) (t := 39) (fz := (0, 0)) (heap_alloc_new _ _) [_] rfl rfl (elems1 ⟨p1, _, c1, rfl, i1, ((HV.out.grow (below2 hb (al1 _ _))).mono fun b hb => ⟨hb.1, .inr hb.2⟩)⟩) ⟨by unfold newB; omega, .inl rfl⟩ (by simp)⟩, fun b hb => by simp [Value.ownBlock] at hb ⊢; omega⟩)
  intro v3
  simp only [Act.put, List.setIfInBounds_toArray, List.set_cons_zero, List.set_cons_succ, Nat.reduceAdd]
  (try simp only [holdsF, lookF, lookV, List.map_cons, List.map_nil, List.headD_cons, List.getD_cons_zero, List.getD_cons_succ, Nat.reduceEqDiff, Nat.reduceAdd, ↓reduceIte, and_true])
  repeat (first
    | (refine Flow.skip_ rfl ?_; simp only [Act.put, List.setIfInBounds_toArray, List.set_cons_zero, List.set_cons_succ, Nat.reduceAdd])
    | (refine Flow.pure_ (v := ?_) rfl rfl ?_ ?_; rotate_left; focus (intro w hb; go_simp; try with_reducible rfl)
       simp only [Act.put, List.setIfInBounds_toArray, List.set_cons_zero, List.set_cons_succ, Nat.reduceAdd]))
  refine Flow.doneM_ (fun wr hb hk hap => ?_)
  obtain ⟨⟨g, rfl, h8⟩, h1, -⟩ := hk
  have hne : v1.ownBlock ≠ some g := by
    intro h
    exact hap _ (List.mem_cons_of_mem _ List.mem_cons_self) _ List.mem_cons_self (by simp) rfl rfl g h rfl
  have hz := hb.size
  have hl2 : (l.length + 1) * 40 ≤ 140737488355328 := by have := HN.out; omega
  clear f0 f1 f2 hap
  go_wp2_with (at_builtin; refine wpList_append_Own (α := Letter) rfl (.tmp 23) (.tmp 25) rfl Try.underlying22 (z := .agg #[.int .i64 0, .int .i64 0, .slice none 0 0]) (bytes := 40) (by kernel_rfl) rfl (by decide) rfl rfl h1 h8 (fun b hb => by rcases hb.2 with h | h; exact h ▸ hne; exact fun e => absurd (h1.block _ e).1 (by have := HW.out; omega)) hz hl2 ?_; intro v' w' ho hg hat)
  go_ret2
  have hbw : Below w.heap.size w wr := below2 HB.out hb
  exact ⟨_, rfl, (ho.base (by have := HW.out; omega)).mono (fun b hb => by rcases hb with hb | hb; exact hb; exact hb.1), hbw.grown hg hbw.size (fun k hk => by have := (h1.block k hk).1; have := HW.out; omega)⟩
end Go.Proofs.Ytpmdkmpmpjdglaa
