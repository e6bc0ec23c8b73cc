/- net's functions: letters told anew, put together, taken, doubled. Conditions: the lengths are below 2^40. -/
import Derived.Test.YtpmdkmpmpjdglaaBase
set_option linter.unusedSimpArgs false
set_option linter.unusedVariables false
namespace Go.Proofs.Ytpmdkmpmpjdglaa
open Go Go.RowKit
open Rep (vr)

set_option maxRecDepth 100000 in
set_option maxHeartbeats 400000 in
theorem one_any {F : Blks} {v : Value} {x : Letter} {w : World} (h : vr F w v x) (hn : x.body.length ≤ 140737488355328) :
    Calls Try.prog 35 #[v] w fun e w' => ∃ v', e = .returned v' ∧ vr (newB w) w' v' x ∧ Below w.heap.size w w' := by
  obtain ⟨p1, n1, c1, rfl, ⟨hi1, hi2⟩, hs⟩ := h
  obtain rfl : x.body.length = n1 := hs.len
  go_enter Try.func35, Try.ntmps35
  go_wp2_with fail
  refine (CloneBytes (hs.grow (al2 _ _ _)) (by omega)).mono ?_
  rintro e w1 ⟨v1, rfl, ho, hb⟩
  have a0 : World.cell? w1 ⟨w.heap.size, 0, none⟩ = some (.int .i64 x.fr) := cell_later hb (by go_simp)
  have a1 : World.cell? w1 ⟨w.heap.size, 1, none⟩ = some (.int .i64 x.to) := cell_later hb (by go_simp)
  have a2 : World.cell? w1 ⟨w.heap.size, 2, none⟩ = some (.slice p1 x.body.length c1) := cell_later hb (by go_simp)
  have af : ∀ o, World.frozen? w1 ⟨w.heap.size, o, none⟩ = false := fun o => (Below.frozen hb (p := ⟨w.heap.size, o, none⟩) (by simp <;> omega)).trans (by go_simp)
  have b0 : World.cell? w1 ⟨(w.heap.size + 1), 0, none⟩ = some (.int .i64 0) := cell_later hb (by go_simp)
  have b1 : World.cell? w1 ⟨(w.heap.size + 1), 1, none⟩ = some (.int .i64 0) := cell_later hb (by go_simp)
  have b2 : World.cell? w1 ⟨(w.heap.size + 1), 2, none⟩ = some (.slice none 0 0) := cell_later hb (by go_simp)
  have bf : ∀ o, World.frozen? w1 ⟨(w.heap.size + 1), o, none⟩ = false := fun o => (Below.frozen hb (p := ⟨(w.heap.size + 1), o, none⟩) (by simp <;> omega)).trans (by go_simp)
  have hz : w.heap.size + 1 < w1.heap.size := by have := hb.size; simp at this; omega
  obtain ⟨p2, c2, rfl, hs2⟩ := (ho.flat (G := noB)).sl' (G := fun b => w.heap.size + 2 ≤ b) (fun b hb => hb.elim) (fun b hb _ => by simp at hb; omega)
  have hb0 : Below w.heap.size w w1 := (al2 _ _ _).trans (hb.mono (by simp <;> omega))
  clear ho hs hb
  go_wp2
  refine bodyPost_ret (v := .agg #[.int .i64 x.fr, .int .i64 x.to, .slice p2 x.body.length c2]) ?_ rfl ?_
  ·
    simp [results, Try.results35, go_sem, a0, a1, a2, b0, b1, b2, af, bf]
  ·
    refine ⟨_, rfl, ⟨p2, _, c2, rfl, ⟨hi1, hi2⟩, ?_⟩, ?_⟩
    ·
      exact (hs2.keep (by repeat' (first | with_reducible exact Agree.refl _ _ | ((with_reducible refine Agree.setCell ?_ ?_ _); rotate_left; (focus (intro b hb; (try simp only [newB, oldB] at hb); (try simp at hb ⊢); omega))) | ((with_reducible refine Agree.alloc ?_ ?_ _); rotate_left; (focus (intro b hb; (try simp only [newB, oldB] at hb); (try simp at hb ⊢); omega))) | (with_reducible refine Agree.drew ?_) | (with_reducible refine Agree.drewN ?_ _)))).mono fun b hb => by simp only [newB]; omega
    ·
      exact (by repeat' (first | with_reducible exact hb0 | with_reducible exact Below.refl _ _ | ((with_reducible refine Below.setCell ?_ ?_ _); rotate_left; (focus (simp <;> omega))) | ((with_reducible refine Below.alloc ?_ ?_ _); rotate_left; (focus (simp <;> omega))) | (with_reducible refine below_drew ?_) | (with_reducible refine below_drewN ?_ _)))

def small : Nat := 1099511627776
theorem small_eq : small = 1099511627776 := rfl

set_option maxRecDepth 100000 in
set_option maxHeartbeats 400000 in
theorem Twin_any {F : Blks} {p : Option Addr} {n c : Nat} {l : List Letter} {w : World} (h1 : Sl F w p n c l) (hn : n ≤ 1000000) (hl : ∀ x ∈ l, x.body.length ≤ 140737488355328) :
    Calls Try.prog 28 #[.slice p n c] w fun e w' => ∃ v, e = .returned v ∧ Own 39 w.heap.size (newB w) w' v l ∧ Below w.heap.size w w' := by
  have hln := h1.len
  go_enter Try.func28, Try.ntmps28
  go_wp2_with fail
  refine (CloneLetters h1 (by omega)).mono ?_
  rintro e w1 ⟨v1, rfl, ho, hb⟩
  obtain ⟨q, d, rfl, -⟩ := ho.sl
  obtain ⟨us, hr, hul, hu⟩ := ho.row
  obtain rfl : l.length = n := hln
  clear ho
  go_wp2
  go_loopw [9] (fun i wr => ∃ (k : Nat) (us : List Value), k ≤ l.length ∧ i = .int .i64 k ∧ RowU 39 w.heap.size 3 wr (.slice q l.length d) us ∧ us.length = l.length ∧ Below w.heap.size w wr ∧
      Hid (∀ (i : Nat) (u : Value) (x : Letter), us[i]? = some u → l[i]? = some x → vr (fun b => (i < k → w.heap.size ≤ b) ∧ (Value.slice q l.length d).ownBlock ≠ some b) wr u x)) (fun i _ => l.length - (intOf i).toNat)
  case atStart => exact ⟨0, us, Nat.zero_le _, rfl, hr, hul, hb, fun i u x h1 h2 => Rep.mono (fun b hb => ⟨fun h => by omega, hb.2⟩) (hu i u x h1 h2)⟩
  case round =>
    obtain ⟨k, us', hk, rfl, hr', hul', hb', hu'⟩ := hrel
    clear hu hr hul hb h1
    by_cases hlt : k < l.length
    · obtain ⟨g, d', hv, hg1, hg2⟩ := hr'.form (k := k) (by omega)
      injection hv with hv1 hv2 hv3
      subst hv1
      clear hv2 hv3
      have hui : us'[k]? = some (gt us' k) := gt_get (by omega)
      have hli : l[k]? = some (gt l k) := gt_get hlt
      have hx := hu'.out k _ _ hui hli
      obtain ⟨p1, n1, c1, hue, hi, hs⟩ := hx
      have hvr : vr (fun b => (Value.slice (some ⟨g, 0, none⟩) l.length d).ownBlock ≠ some b) wr (gt us' k) (gt l k) := Rep.mono (fun b hb => hb.2) (hu'.out k _ _ hui hli)
      obtain ⟨e0, e1, e2⟩ := hr'.cell3 (hui.trans (by rw [hue]))
      have hfr : ∀ o, wr.frozen? ⟨g, o, none⟩ = false := fun o => hr'.frozen o
      have hbl : (gt l k).body.length ≤ 140737488355328 := hl _ (List.mem_of_getElem? hli)
      rw [hue] at hvr
      have Hue := Lib.hid hue
      clear hue hi hs
      go_wp2_with fail
      refine (one_any hvr hbl).mono ?_
      rintro e w2 ⟨v2, rfl, hv2, hb2⟩
      obtain ⟨p3, n3, c3, rfl, hi3, hs3⟩ := id hv2
      have f0 := cell_later hb2 e0
      have f1 := cell_later hb2 e1
      have f2 := cell_later hb2 e2
      have hfr2 : ∀ o, w2.frozen? ⟨g, o, none⟩ = false := fun o => (hb2.frozen (p := ⟨g, o, none⟩) hg2).trans (hfr o)
      clear e0 e1 e2 hfr hvr
      go_wp2
      go_roundw
      case rel =>
        refine ⟨k + 1, us'.set k (.agg #[.int .i64 (gt l k).fr, .int .i64 (gt l k).to, .slice p3 n3 c3]), by omega, by go_num, (hr'.grow hb2).set3 k (by omega) _ _ _, by simpa using hul', ?_, ?_⟩
        · have hb3 : Below w.heap.size w w2 := below_next hb' hb2 hb'.size
          exact (by repeat' (first | with_reducible exact hb3 | with_reducible exact Below.refl _ _ | ((with_reducible refine Below.setCell ?_ ?_ _); rotate_left; (focus (simp <;> omega))) | ((with_reducible refine Below.alloc ?_ ?_ _); rotate_left; (focus (simp <;> omega))) | (with_reducible refine below_drew ?_) | (with_reducible refine below_drewN ?_ _)))
        · have agree : ∀ {H : Blks}, (∀ b, H b → b ≠ g) → Agree H w2 (((w2.setCell ⟨g, k * 3, none⟩ (.int .i64 (gt l k).fr)).setCell ⟨g, k * 3 + 1, none⟩ (.int .i64 (gt l k).to)).setCell ⟨g, k * 3 + 2, none⟩ (.slice p3 n3 c3)) :=
            fun h => (((Agree.refl _ _).setCell h _).setCell h _).setCell h _
          intro i u x h1 h2
          by_cases hik : i = k
          · subst hik
            rw [List.getElem?_set_self (by omega)] at h1
            injection h1 with h1
            subst h1
            rw [hli] at h2
            injection h2 with h2
            subst h2
            refine Rep.mono ?_ (Rep.keep (agree (H := newB wr) fun b hb => by unfold newB at hb; show b ≠ g; omega) hv2)
            intro b hb
            unfold newB at hb
            have := hb'.size
            exact ⟨fun _ => by omega, fun e => by have e : g = b := Option.some.inj e; omega⟩
          · rw [List.getElem?_set_ne (Ne.symm hik)] at h1
            have h3 := vr_grow (hu'.out i u x h1 h2) hb2
            refine Rep.mono ?_ (Rep.keep (agree fun b hb => fun e => hb.2 (by rw [e]; rfl)) h3)
            intro b hb
            exact ⟨fun h => hb.1 (by omega), hb.2⟩
      case measure => simp [intOf]; omega
    · go_wp2
      go_ret
      refine ⟨_, rfl, hr'.own hul' ?_, hb'⟩
      intro i u x h1 h2
      refine Rep.mono (fun b hb => ⟨hb.1 ?_, hb.2⟩) (hu'.out i u x h1 h2)
      have := (List.getElem?_eq_some_iff.1 h2).1
      omega

theorem in_yes {p : Option Addr} {n c : Nat} {at_ : Int} {w : World} (h0 : 0 ≤ at_) (h1 : at_ < n) :
    Calls Try.prog 33 #[.slice p n c, .int .i64 at_] w fun e w' => e = .returned (.bool true) ∧ w = w' := by
  have h2 : decide (at_ < (n : Int)) = true := by simpa using h1
  go_enter Try.func33, Try.ntmps33
  go_wp2
  go_ret
  exact ⟨rfl, rfl⟩
theorem in_no {p : Option Addr} {n c : Nat} {at_ : Int} {w : World} (h : ¬ (0 ≤ at_ ∧ at_ < n)) :
    Calls Try.prog 33 #[.slice p n c, .int .i64 at_] w fun e w' => e = .returned (.bool false) ∧ w = w' := by
  by_cases h0 : 0 ≤ at_
  · have h2 : decide (at_ < (n : Int)) = false := by simp; omega
    clear h
    go_enter Try.func33, Try.ntmps33
    go_wp2
    go_ret
    exact ⟨rfl, rfl⟩
  · have h2 : decide (0 ≤ at_) = false := by simpa using h0
    clear h
    go_enter Try.func33, Try.ntmps33
    go_wp2
    go_ret
    exact ⟨rfl, rfl⟩

set_option maxRecDepth 100000 in
set_option maxHeartbeats 400000 in
theorem Take_no {p : Option Addr} {n c : Nat} {at_ : Int} {w : World} (h : ¬ (0 ≤ at_ ∧ at_ < n)) :
    Calls Try.prog 17 #[.slice p n c, .int .i64 at_] w fun e w' =>
      e = .returned (.tuple #[.slice none 0 0, .agg #[.int .i64 0, .int .i64 0, .slice none 0 0], .int .i64 7]) ∧ Below w.heap.size w w' := by
  go_enter Try.func17, Try.ntmps17
  go_wp2_with (go_at_call 33; refine (in_no h).mono ?_; rintro e w' ⟨rfl, rfl⟩)
  refine bodyPost_ret (v := .tuple #[.slice none 0 0, .agg #[.int .i64 0, .int .i64 0, .slice none 0 0], .int .i64 7]) ?_ rfl ?_
  · simp [results, Try.results17, go_sem]
  · exact ⟨rfl, al1 _ _⟩
set_option maxRecDepth 100000 in
set_option maxHeartbeats 400000 in
theorem Take_yes {F : Blks} {p : Option Addr} {n c : Nat} {l : List Letter} {w : World} {k : Nat} (h1 : Sl F w p n c l) (hk : k < n) (hn : n ≤ 1000000) (hl : ∀ x ∈ l, x.body.length ≤ 140737488355328) :
    Calls Try.prog 17 #[.slice p n c, .int .i64 k] w fun e w' => ∃ v u,
      e = .returned (.tuple #[v, u, .int .i64 0]) ∧ Own 39 w.heap.size (newB w) w' v (l.take k ++ l.drop (k + 1)) ∧ vr (newB w) w' u (gt l k) ∧ Below w.heap.size w w' := by
  have hnc := h1.le
  have hcm : c ≤ 9223372036854775807 := by have := h1.max; unfold maxLen at this; exact this
  have hk0 := hk
  have hkc : k ≤ c := by omega
  have hkc1 : k + 1 ≤ c := by omega
  have hw0 : (0 : Int) ≤ (k : Int) + 1 := by omega
  have hw2 : (k : Int) + 1 ≤ (n : Int) := by omega
  have hw3 : ((k : Int) + 1).toNat = k + 1 := by omega
  have hw1 : IntKind.i64.wrap ((k : Int) + 1) = (k : Int) + 1 := IntWalk.i64_in _ (by omega)
  go_enter Try.func17, Try.ntmps17
  go_wp2_with (go_at_call 33; refine (in_yes (by omega) (by omega)).mono ?_; rintro e w' ⟨rfl, rfl⟩)
  have hb0 := al1 w (.cells #[.int .i64 0, .int .i64 0, .slice none 0 0] 39)
  have hcat : [l.take k, l.drop (k + 1)].flatten = l.take k ++ l.drop (k + 1) := by simp
  have hcl : (l.take k ++ l.drop (k + 1)).length ≤ 1000000 := by have := h1.len; simp; omega
  have hsub : ∀ x ∈ (l.take k ++ l.drop (k + 1)), x.body.length ≤ 140737488355328 := fun x hx => by
    rcases List.mem_append.1 hx with h | h
    · exact hl x (List.mem_of_mem_take h)
    · exact hl x (List.mem_of_mem_drop h)
  have H1 := Lib.hid h1; have HC := Lib.hid hcat; have HS := Lib.hid hsub; have HL := Lib.hid hl; have H0 := Lib.hid hb0; have HN := Lib.hid hcl
  clear h1 hcat hsub hl hb0 hcl
  refine wp_flowL 10 [(7, .unk [] fun _ v w1 => ∃ q, v = .slice (some q) 2 2 ∧ Sl allB w1 (some q) 2 2 [l.take k, l.drop (k + 1)]), (8, .unk [7] fun _ v w1 => Own 39 0 allB w1 v (l.take k ++ l.drop (k + 1))), (9, .unk [8] fun _ v w1 => Own 39 (w.heap.size + 1) (fun b => w.heap.size + 1 ≤ b) w1 v (l.take k ++ l.drop (k + 1)))] (by kernel_rfl) (by kernel_rfl) ?_ ?_
  · refine ⟨?_, ?_, ?_, trivial⟩
    · rintro _ v w1 w2 _ ⟨q, hv, h⟩ hb
      exact ⟨q, hv, h.grow hb⟩
    · exact fun _ v w1 w2 _ h hb => h.grow hb
    · exact fun _ v w1 w2 _ h hb => h.grow hb
  repeat (first
    | (refine Flow.skip_ rfl ?_; simp only [Act.put, List.setIfInBounds_toArray, List.set_cons_zero, List.set_cons_succ, Nat.reduceAdd])
    | (refine Flow.pure_ (v := ?_) rfl rfl ?_ ?_; rotate_left; focus (intro w hb; go_simp; try with_reducible rfl)
       simp only [Act.put, List.setIfInBounds_toArray, List.set_cons_zero, List.set_cons_succ, Nat.reduceAdd]))
  refine Flow.unk_ rfl rfl ?_ ?_
  · intro wf hb hk
    (try simp only [holdsF, lookF, lookV, List.map_cons, List.map_nil, List.headD_cons, List.getD_cons_zero, List.getD_cons_succ, Nat.reduceEqDiff, Nat.reduceAdd, ↓reduceIte, and_true] at hk ⊢)
    skip
    go_simp
    (have hs := (H1.out.grow (below2 H0.out hb)).mono (fun _ _ => trivial : ∀ b, F b → allB b); exact ⟨al1 _ _, Sl.lit (α := List Letter) (xs := [l.take k, l.drop (k + 1)]) (t := 22) (fz := (0, 0)) (heap_alloc_new _ _) [_, _] rfl rfl (elems2 ((hs.take (k := k) (by omega)).grow (al1 _ _)).vr ((hs.drop (k := k + 1) (by omega)).grow (al1 _ _)).vr) trivial (by simp)⟩)
  intro v1
  simp only [Act.put, List.setIfInBounds_toArray, List.set_cons_zero, List.set_cons_succ, Nat.reduceAdd]
  (try simp only [holdsF, lookF, lookV, List.map_cons, List.map_nil, List.headD_cons, List.getD_cons_zero, List.getD_cons_succ, Nat.reduceEqDiff, Nat.reduceAdd, ↓reduceIte, and_true])
  repeat (first
    | (refine Flow.skip_ rfl ?_; simp only [Act.put, List.setIfInBounds_toArray, List.set_cons_zero, List.set_cons_succ, Nat.reduceAdd])
    | (refine Flow.pure_ (v := ?_) rfl rfl ?_ ?_; rotate_left; focus (intro w hb; go_simp; try with_reducible rfl)
       simp only [Act.put, List.setIfInBounds_toArray, List.set_cons_zero, List.set_cons_succ, Nat.reduceAdd]))
  refine Flow.unk_ rfl rfl ?_ ?_
  · intro wf hb hk
    (try simp only [holdsF, lookF, lookV, List.map_cons, List.map_nil, List.headD_cons, List.getD_cons_zero, List.getD_cons_succ, Nat.reduceEqDiff, Nat.reduceAdd, ↓reduceIte, and_true] at hk ⊢)
    skip
    go_simp
    (obtain ⟨q, rfl, h7⟩ := hk; refine (ConcatLetters h7 (by omega) (by unfold flen; rw [HC.out]; have := HN.out; omega)).mono ?_; rintro e w' ⟨v, rfl, ho, hb'⟩; exact ⟨v, rfl, hb', by rw [HC.out] at ho; exact (ho.base (Nat.zero_le _))⟩)
  intro v2
  simp only [Act.put, List.setIfInBounds_toArray, List.set_cons_zero, List.set_cons_succ, Nat.reduceAdd]
  (try simp only [holdsF, lookF, lookV, List.map_cons, List.map_nil, List.headD_cons, List.getD_cons_zero, List.getD_cons_succ, Nat.reduceEqDiff, Nat.reduceAdd, ↓reduceIte, and_true])
  repeat (first
    | (refine Flow.skip_ rfl ?_; simp only [Act.put, List.setIfInBounds_toArray, List.set_cons_zero, List.set_cons_succ, Nat.reduceAdd])
    | (refine Flow.pure_ (v := ?_) rfl rfl ?_ ?_; rotate_left; focus (intro w hb; go_simp; try with_reducible rfl)
       simp only [Act.put, List.setIfInBounds_toArray, List.set_cons_zero, List.set_cons_succ, Nat.reduceAdd]))
  refine Flow.unk_ rfl rfl ?_ ?_
  · intro wf hb hk
    (try simp only [holdsF, lookF, lookV, List.map_cons, List.map_nil, List.headD_cons, List.getD_cons_zero, List.getD_cons_succ, Nat.reduceEqDiff, Nat.reduceAdd, ↓reduceIte, and_true] at hk ⊢)
    skip
    go_simp
    (obtain ⟨q, d, rfl, hs8⟩ := Own.sl hk; refine (Twin_any hs8 HN.out HS.out).mono ?_; rintro e w' ⟨v, rfl, ho, hb'⟩; have hz := hb.size; simp at hz; exact ⟨v, rfl, hb', (ho.base hz).mono fun b hb => Nat.le_trans hz hb⟩)
  intro v3
  simp only [Act.put, List.setIfInBounds_toArray, List.set_cons_zero, List.set_cons_succ, Nat.reduceAdd]
  (try simp only [holdsF, lookF, lookV, List.map_cons, List.map_nil, List.headD_cons, List.getD_cons_zero, List.getD_cons_succ, Nat.reduceEqDiff, Nat.reduceAdd, ↓reduceIte, and_true])
  repeat (first
    | (refine Flow.skip_ rfl ?_; simp only [Act.put, List.setIfInBounds_toArray, List.set_cons_zero, List.set_cons_succ, Nat.reduceAdd])
    | (refine Flow.pure_ (v := ?_) rfl rfl ?_ ?_; rotate_left; focus (intro w hb; go_simp; try with_reducible rfl)
       simp only [Act.put, List.setIfInBounds_toArray, List.set_cons_zero, List.set_cons_succ, Nat.reduceAdd]))
  refine Flow.done_ (fun w1 hb1 hk => ?_)
  obtain ⟨h9, -⟩ := hk
  have hb3 := below2 H0.out hb1
  have hs := H1.out.grow hb3
  obtain ⟨b, o, p1, n1, c1, rfl, _, _, e1, e2, e3, i1, i2, hs1⟩ := hs.letter hk0
  have f1 := cell_later hb1 (a := ⟨w.heap.size, 0, none⟩) (v := .int .i64 0) (by go_simp)
  have f2 := cell_later hb1 (a := ⟨w.heap.size, 1, none⟩) (v := .int .i64 0) (by go_simp)
  have f3 := cell_later hb1 (a := ⟨w.heap.size, 2, none⟩) (v := .slice none 0 0) (by go_simp)
  have af : ∀ o, w1.frozen? ⟨w.heap.size, o, none⟩ = false := fun o => (hb1.frozen (p := ⟨w.heap.size, o, none⟩) (by simp)).trans (by go_simp)
  have hlk : gt l k ∈ l := List.mem_of_getElem? (gt_get (by have := H1.out.len; omega))
  have hz1 := hb1.size
  simp at hz1
  clear hs hw1 hw3 hk
  go_wp2_with (go_at_call 35; refine (one_any (F := F) (x := gt l k) ⟨p1, n1, c1, rfl, ⟨i1, i2⟩, hs1⟩ (HL.out _ hlk)).mono ?_; rintro e w2 ⟨v2, rfl, hv2, hb2⟩; obtain ⟨p3, n3, c3, rfl, hi3, hs3⟩ := id hv2; have g1 := cell_later hb2 f1; have g2 := cell_later hb2 f2; have g3 := cell_later hb2 f3; have gf : ∀ o, w2.frozen? ⟨w.heap.size, o, none⟩ = false := fun o => (hb2.frozen (p := ⟨w.heap.size, o, none⟩) (by show w.heap.size < w1.heap.size; omega)).trans (af o); clear f1 f2 f3 af e1 e2 e3)
  all_goals
    have hz2 := hb2.size
    refine bodyPost_ret (v := .tuple #[v3, .agg #[.int .i64 (gt l k).fr, .int .i64 (gt l k).to, .slice p3 n3 c3], .int .i64 0]) ?_ rfl ?_
    · simp [results, Try.results17, go_sem, g1, g2, g3, gf]
    · have ha : Agree (fun b => w.heap.size + 1 ≤ b) w2 (((w2.setCell ⟨w.heap.size, 0, none⟩ (.int .i64 (gt l k).fr)).setCell ⟨w.heap.size, 1, none⟩ (.int .i64 (gt l k).to)).setCell ⟨w.heap.size, 2, none⟩ (.slice p3 n3 c3)) := (by repeat' (first | with_reducible exact Agree.refl _ _ | ((with_reducible refine Agree.setCell ?_ ?_ _); rotate_left; (focus (intro b hb; (try simp only [newB, oldB] at hb); (try simp at hb ⊢); omega))) | ((with_reducible refine Agree.alloc ?_ ?_ _); rotate_left; (focus (intro b hb; (try simp only [newB, oldB] at hb); (try simp at hb ⊢); omega))) | (with_reducible refine Agree.drew ?_) | (with_reducible refine Agree.drewN ?_ _)))
      have hb4 : Below w.heap.size w w2 := below2 hb3 hb2
      refine ⟨_, _, rfl, ?_, ?_, ?_⟩
      · exact (((h9.grow hb2).keepB (fun b hb => hb) ha).base (Nat.le_succ _)).mono fun b hb => Nat.le_of_succ_le hb
      · refine Rep.mono ?_ (Rep.keep (F := newB w1) (fun b hb => ha b (by unfold newB at hb; omega)) hv2)
        intro b hb
        unfold newB at hb ⊢
        omega
      · exact (by repeat' (first | with_reducible exact hb4 | with_reducible exact Below.refl _ _ | ((with_reducible refine Below.setCell ?_ ?_ _); rotate_left; (focus (simp <;> omega))) | ((with_reducible refine Below.alloc ?_ ?_ _); rotate_left; (focus (simp <;> omega))) | (with_reducible refine below_drew ?_) | (with_reducible refine below_drewN ?_ _)))

set_option maxRecDepth 100000 in
set_option maxHeartbeats 400000 in
theorem Copy_no {p : Option Addr} {n c : Nat} {at_ : Int} {w : World} (h : ¬ (0 ≤ at_ ∧ at_ < n)) :
    Calls Try.prog 19 #[.slice p n c, .int .i64 at_] w fun e w' => e = .returned (.tuple #[.slice none 0 0, .int .i64 7]) ∧ Below w.heap.size w w' := by
  go_enter Try.func19, Try.ntmps19
  go_wp2_with (go_at_call 33; refine (in_no h).mono ?_; rintro e w' ⟨rfl, rfl⟩)
  go_ret2
  exact ⟨rfl, Below.refl _ _⟩
set_option maxRecDepth 100000 in
set_option maxHeartbeats 400000 in
theorem Copy_full {p : Option Addr} {n c : Nat} {at_ : Int} {w : World} (h0 : 0 ≤ at_) (h1 : at_ < n) (h2 : 1200 ≤ n) :
    Calls Try.prog 19 #[.slice p n c, .int .i64 at_] w fun e w' => e = .returned (.tuple #[.slice none 0 0, .int .i64 6]) ∧ Below w.heap.size w w' := by
  go_enter Try.func19, Try.ntmps19
  go_wp2_with (go_at_call 33; refine (in_yes h0 h1).mono ?_; rintro e w' ⟨rfl, rfl⟩)
  go_ret2
  exact ⟨rfl, Below.refl _ _⟩
set_option maxRecDepth 100000 in
set_option maxHeartbeats 400000 in
theorem Copy_yes {F : Blks} {p : Option Addr} {n c : Nat} {l : List Letter} {w : World} {k : Nat} (h1 : Sl F w p n c l) (hk : k < n) (hn : n < 1200) (hl : ∀ x ∈ l, x.body.length ≤ 140737488355328) :
    Calls Try.prog 19 #[.slice p n c, .int .i64 k] w fun e w' => ∃ v,
      e = .returned (.tuple #[v, .int .i64 0]) ∧ Own 39 w.heap.size (newB w) w' v (l ++ [gt l k]) ∧ Below w.heap.size w w' := by
  have hln := h1.len
  have hkn := hk
  have hlk : gt l k ∈ l := List.mem_of_getElem? (gt_get (by omega))
  obtain ⟨b, o, p1, n1, c1, rfl, _, _, e1, e2, e3, i1, i2, hs1⟩ := h1.letter hk
  have hcell : ∀ {b o : Nat} {u : Value}, w.cell? ⟨b, o, none⟩ = some u → ∀ w', Below w.heap.size w w' → w'.cell? ⟨b, o, none⟩ = some u := fun h w' hb => (hb.cell (lt_of_cell h)).trans h
  replace e1 := hcell e1; replace e2 := hcell e2; replace e3 := hcell e3
  have HL := Lib.hid hl; have HN := Lib.hid hln; have H1 := Lib.hid h1; have HS := Lib.hid hs1
  clear hl hln h1 hs1 hcell
  go_enter Try.func19, Try.ntmps19
  go_wp2_with (go_at_call 33; refine (in_yes (by omega) (by omega)).mono ?_; rintro e w' ⟨rfl, rfl⟩)
  refine wp_flowL 8 [(1, .unk [] fun _ v w1 => Own 39 w.heap.size (newB w) w1 v l), (6, .unk [1] fun vs v w1 => vr (fun b => newB w b ∧ (vs.headD undef).ownBlock ≠ some b) w1 v (gt l k)), (7, .unk [1, 6] fun vs v w1 => ∃ q, v = .slice (some q) 1 1 ∧ Sl (fun b => newB w b ∧ (vs.headD undef).ownBlock ≠ some b) w1 (some q) 1 1 [gt l k])] (by kernel_rfl) (by kernel_rfl) ?_ ?_
  · refine ⟨?_, ?_, ?_, trivial⟩
    · exact fun _ v w1 w2 _ h hb => h.grow hb
    · exact fun _ v w1 w2 _ h hb => vr_grow h hb
    · rintro _ v w1 w2 _ ⟨q, hv, h⟩ hb
      exact ⟨q, hv, h.grow hb⟩
  repeat (first
    | (refine Flow.skip_ rfl ?_; simp only [Act.put, List.setIfInBounds_toArray, List.set_cons_zero, List.set_cons_succ, Nat.reduceAdd])
    | (refine Flow.pure_ (v := ?_) rfl rfl ?_ ?_; rotate_left; focus (intro w hb; go_simp; try with_reducible rfl)
       simp only [Act.put, List.setIfInBounds_toArray, List.set_cons_zero, List.set_cons_succ, Nat.reduceAdd]))
  refine Flow.unk_ rfl rfl ?_ ?_
  · intro wf hb hk
    (try simp only [holdsF, lookF, lookV, List.map_cons, List.map_nil, List.headD_cons, List.getD_cons_zero, List.getD_cons_succ, Nat.reduceEqDiff, Nat.reduceAdd, ↓reduceIte, and_true] at hk ⊢)
    skip
    go_simp
    (refine (Twin_any (H1.out.grow hb) (by omega) HL.out).mono ?_; rintro e w' ⟨v, rfl, ho, hb'⟩; have hz := hb.size; exact ⟨v, rfl, hb', (ho.base hz).mono fun b hb => Nat.le_trans hz hb⟩)
  intro v1
  simp only [Act.put, List.setIfInBounds_toArray, List.set_cons_zero, List.set_cons_succ, Nat.reduceAdd]
  (try simp only [holdsF, lookF, lookV, List.map_cons, List.map_nil, List.headD_cons, List.getD_cons_zero, List.getD_cons_succ, Nat.reduceEqDiff, Nat.reduceAdd, ↓reduceIte, and_true])
  repeat (first
    | (refine Flow.skip_ rfl ?_; simp only [Act.put, List.setIfInBounds_toArray, List.set_cons_zero, List.set_cons_succ, Nat.reduceAdd])
    | (refine Flow.pure_ (v := ?_) rfl rfl ?_ ?_; rotate_left; focus (intro w hb; go_simp; try with_reducible rfl)
       simp only [Act.put, List.setIfInBounds_toArray, List.set_cons_zero, List.set_cons_succ, Nat.reduceAdd]))
  refine Flow.unk_ rfl rfl ?_ ?_
  · intro wf hb hk
    (try simp only [holdsF, lookF, lookV, List.map_cons, List.map_nil, List.headD_cons, List.getD_cons_zero, List.getD_cons_succ, Nat.reduceEqDiff, Nat.reduceAdd, ↓reduceIte, and_true] at hk ⊢)
    skip
    go_simp
    (have hz := hb.size; refine (one_any (F := F) ⟨p1, n1, c1, rfl, ⟨i1, i2⟩, HS.out.grow hb⟩ (HL.out _ hlk)).mono ?_; rintro e w' ⟨v, rfl, hv, hb'⟩; exact ⟨v, rfl, hb', Rep.mono (fun b hbb => ⟨Nat.le_trans hz hbb, fun e => absurd (hk.block _ e).2 (Nat.not_lt.2 hbb)⟩) hv⟩)
  intro v6
  simp only [Act.put, List.setIfInBounds_toArray, List.set_cons_zero, List.set_cons_succ, Nat.reduceAdd]
  (try simp only [holdsF, lookF, lookV, List.map_cons, List.map_nil, List.headD_cons, List.getD_cons_zero, List.getD_cons_succ, Nat.reduceEqDiff, Nat.reduceAdd, ↓reduceIte, and_true])
  repeat (first
    | (refine Flow.skip_ rfl ?_; simp only [Act.put, List.setIfInBounds_toArray, List.set_cons_zero, List.set_cons_succ, Nat.reduceAdd])
    | (refine Flow.pure_ (v := ?_) rfl rfl ?_ ?_; rotate_left; focus (intro w hb; go_simp; try with_reducible rfl)
       simp only [Act.put, List.setIfInBounds_toArray, List.set_cons_zero, List.set_cons_succ, Nat.reduceAdd]))
  refine Flow.unk_ rfl rfl ?_ ?_
  · intro wf hb hk
    (try simp only [holdsF, lookF, lookV, List.map_cons, List.map_nil, List.headD_cons, List.getD_cons_zero, List.getD_cons_succ, Nat.reduceEqDiff, Nat.reduceAdd, ↓reduceIte, and_true] at hk ⊢)
    (obtain ⟨h1, p3, n3, c3, rfl, i3, h6⟩ := hk)
    go_simp
    (have hz := hb.size; exact ⟨al1 _ _, Sl.lit (α := Letter) (xs := [gt l k]) (t := 39) (fz := (0, 0)) (heap_alloc_new _ _) [_] rfl rfl (elems1 ⟨p3, n3, c3, rfl, i3, (h6.grow (al1 _ _))⟩) ⟨hz, fun e => absurd (h1.block _ e).2 (Nat.lt_irrefl _)⟩ (by simp)⟩)
  intro v7
  simp only [Act.put, List.setIfInBounds_toArray, List.set_cons_zero, List.set_cons_succ, Nat.reduceAdd]
  (try simp only [holdsF, lookF, lookV, List.map_cons, List.map_nil, List.headD_cons, List.getD_cons_zero, List.getD_cons_succ, Nat.reduceEqDiff, Nat.reduceAdd, ↓reduceIte, and_true])
  repeat (first
    | (refine Flow.skip_ rfl ?_; simp only [Act.put, List.setIfInBounds_toArray, List.set_cons_zero, List.set_cons_succ, Nat.reduceAdd])
    | (refine Flow.pure_ (v := ?_) rfl rfl ?_ ?_; rotate_left; focus (intro w hb; go_simp; try with_reducible rfl)
       simp only [Act.put, List.setIfInBounds_toArray, List.set_cons_zero, List.set_cons_succ, Nat.reduceAdd]))
  refine Flow.done_ (fun w1 hb1 hk => ?_)
  obtain ⟨h7, h6, h1, -⟩ := hk
  obtain ⟨q, rfl, h7⟩ := h7
  have hl2 : (l.length + 1) * 40 ≤ 140737488355328 := by have := HN.out; omega
  have hz := hb1.size
  clear h6 e1 e2 e3
  go_wp2_with (at_builtin; refine wpList_append_Own (α := Letter) rfl (.tmp 16) (.tmp 22) rfl Try.underlying22 (z := .agg #[.int .i64 0, .int .i64 0, .slice none 0 0]) (bytes := 40) (by kernel_rfl) rfl (by decide) rfl rfl h1 h7 (fun b hb => hb.2) hz hl2 ?_; intro v' w' ho hg hat)
  go_ret2
  exact ⟨_, rfl, ho.mono (fun b hb => by rcases hb with hb | hb; exact hb; exact hb.1), hb1.grown hg hz (fun k hk => (h1.block k hk).1)⟩
end Go.Proofs.Ytpmdkmpmpjdglaa
