/- Blocks no cell of which is frozen; bytes spoiled. -/
import Derived.Test.YtpmdkmpmpjdglaaRefN
set_option linter.unusedSimpArgs false
set_option linter.unusedVariables false
namespace Go.Proofs.Ytpmdkmpmpjdglaa
open Go Go.RowKit
open Rep (vr)

def thaw (w : World) (b : Nat) : Prop := ∀ o, w.frozen? ⟨b, o, none⟩ = false
theorem thaw_eq {w w' : World} {b : Nat} (h : w'.heap[b]? = w.heap[b]?) (ht : thaw w b) : thaw w' b := fun o => by
  have := ht o
  unfold World.frozen? at this ⊢
  simp only at this ⊢
  rw [h]
  exact this
theorem thaw_below {w w' : World} {b : Nat} (h : Below w.heap.size w w') (hb : b < w.heap.size) (ht : thaw w b) : thaw w' b := thaw_eq (h.block b hb) ht
theorem Own.thaw {α : Type} [Rep α] {e : TypeId} {B : Nat} {F : Blks} {w : World} {v : Value} {xs : List α} (h : Own e B F w v xs) : ∀ b, v.ownBlock = some b → thaw w b := by
  obtain ⟨us, hl, hu, h1, h2⟩ := h
  rcases h2 with ⟨rfl, -⟩ | ⟨g, cap, cur, rfl, hg, hh, r⟩
  · intro b hb; cases hb
  · intro b hb o
    cases hb
    exact heap_frozen hh
theorem thaw_set {w : World} {a : Addr} {u : Value} {b : Nat} (ht : thaw w b) : thaw (w.setCell a u) b := fun o => by
  have := ht o
  simpa using this

set_option maxRecDepth 100000 in
set_option maxHeartbeats 400000 in
theorem one_thaw {F : Blks} {v : Value} {x : Letter} {w : World} (h : vr F w v x) (hn : x.body.length ≤ 140737488355328) :
    Calls Try.prog 35 #[v] w fun e w' => ∃ v', e = .returned v' ∧ vr (fun b => newB w b ∧ thaw w' b) w' v' x ∧ Below w.heap.size w w' := by
  obtain ⟨p1, n1, c1, rfl, ⟨hi1, hi2⟩, hs⟩ := h
  obtain rfl : x.body.length = n1 := hs.len
  go_enter Try.func35, Try.ntmps35
  go_wp2_with fail
  refine (CloneBytes (hs.grow (al2 _ _ _)) (by omega)).mono ?_
  rintro e w1 ⟨v1, rfl, ho, hb⟩
  have a0 : World.cell? w1 ⟨w.heap.size, 0, none⟩ = some (.int .i64 x.fr) := cell_later hb (by go_simp)
  have a1 : World.cell? w1 ⟨w.heap.size, 1, none⟩ = some (.int .i64 x.to) := cell_later hb (by go_simp)
  have a2 : World.cell? w1 ⟨w.heap.size, 2, none⟩ = some (.slice p1 x.body.length c1) := cell_later hb (by go_simp)
  have af : ∀ o, World.frozen? w1 ⟨w.heap.size, o, none⟩ = false := fun o => (Below.frozen hb (p := ⟨w.heap.size, o, none⟩) (by simp <;> omega)).trans (by go_simp)
  have b0 : World.cell? w1 ⟨(w.heap.size + 1), 0, none⟩ = some (.int .i64 0) := cell_later hb (by go_simp)
  have b1 : World.cell? w1 ⟨(w.heap.size + 1), 1, none⟩ = some (.int .i64 0) := cell_later hb (by go_simp)
  have b2 : World.cell? w1 ⟨(w.heap.size + 1), 2, none⟩ = some (.slice none 0 0) := cell_later hb (by go_simp)
  have bf : ∀ o, World.frozen? w1 ⟨(w.heap.size + 1), o, none⟩ = false := fun o => (Below.frozen hb (p := ⟨(w.heap.size + 1), o, none⟩) (by simp <;> omega)).trans (by go_simp)
  have hz : w.heap.size + 1 < w1.heap.size := by have := hb.size; simp at this; omega
  have htw := ho.thaw
  obtain ⟨p2, c2, rfl, hs2'⟩ := (ho.flat (G := noB)).sl
  have hs2 : Sl (fun b => w.heap.size + 2 ≤ b ∧ thaw w1 b) w1 p2 x.body.length c2 x.body := hs2'.mono fun b hb => by rcases hb with hb | hb; exact hb.elim; exact ⟨by have := hb.1; simp at this; omega, htw b hb.2⟩
  have HS2 := Lib.hid hs2
  have hb0 : Below w.heap.size w w1 := (al2 _ _ _).trans (hb.mono (by simp <;> omega))
  clear ho hs hb hs2' htw hs2
  go_wp2
  refine bodyPost_ret (v := .agg #[.int .i64 x.fr, .int .i64 x.to, .slice p2 x.body.length c2]) ?_ rfl ?_
  ·
    simp [results, Try.results35, go_sem, a0, a1, a2, b0, b1, b2, af, bf]
  ·
    refine ⟨_, rfl, ⟨p2, _, c2, rfl, ⟨hi1, hi2⟩, ?_⟩, ?_⟩
    ·
      exact (HS2.out.keep (by repeat' (first | with_reducible exact Agree.refl _ _ | ((with_reducible refine Agree.setCell ?_ ?_ _); rotate_left; (focus (intro b hb; (try simp only [newB, oldB] at hb); (try simp at hb ⊢); omega))) | ((with_reducible refine Agree.alloc ?_ ?_ _); rotate_left; (focus (intro b hb; (try simp only [newB, oldB] at hb); (try simp at hb ⊢); omega))) | (with_reducible refine Agree.drew ?_) | (with_reducible refine Agree.drewN ?_ _)))).mono fun b hb => ⟨by have := hb.1; unfold newB; omega, by have ht := hb.2; repeat' (first | exact ht | with_reducible refine thaw_set ?_)⟩
    ·
      exact (by repeat' (first | with_reducible exact hb0 | with_reducible exact Below.refl _ _ | ((with_reducible refine Below.setCell ?_ ?_ _); rotate_left; (focus (simp <;> omega))) | ((with_reducible refine Below.alloc ?_ ?_ _); rotate_left; (focus (simp <;> omega))) | (with_reducible refine below_drew ?_) | (with_reducible refine below_drewN ?_ _)))

set_option maxRecDepth 100000 in
set_option maxHeartbeats 400000 in
theorem Twin_thaw {F : Blks} {p : Option Addr} {n c : Nat} {l : List Letter} {w : World} (h1 : Sl F w p n c l) (hn : n ≤ 1000000) (hl : ∀ x ∈ l, x.body.length ≤ 140737488355328) :
    Calls Try.prog 28 #[.slice p n c] w fun e w' => ∃ v, e = .returned v ∧ Own 39 w.heap.size (fun b => newB w b ∧ thaw w' b) w' v l ∧ Below w.heap.size w w' := by
  have hln := h1.len
  go_enter Try.func28, Try.ntmps28
  go_wp2_with fail
  refine (CloneLetters h1 (by omega)).mono ?_
  rintro e w1 ⟨v1, rfl, ho, hb⟩
  obtain ⟨q, d, rfl, -⟩ := ho.sl
  obtain ⟨us, hr, hul, hu⟩ := ho.row
  obtain rfl : l.length = n := hln
  clear ho
  go_wp2
  go_loopw [9] (fun i wr => ∃ (k : Nat) (us : List Value), k ≤ l.length ∧ i = .int .i64 k ∧ RowU 39 w.heap.size 3 wr (.slice q l.length d) us ∧ us.length = l.length ∧ Below w.heap.size w wr ∧
      Hid (∀ (i : Nat) (u : Value) (x : Letter), us[i]? = some u → l[i]? = some x → vr (fun b => (i < k → w.heap.size ≤ b ∧ thaw wr b) ∧ (Value.slice q l.length d).ownBlock ≠ some b) wr u x)) (fun i _ => l.length - (intOf i).toNat)
  case atStart => exact ⟨0, us, Nat.zero_le _, rfl, hr, hul, hb, fun i u x h1 h2 => Rep.mono (fun b hb => ⟨fun h => by omega, hb.2⟩) (hu i u x h1 h2)⟩
  case round =>
    obtain ⟨k, us', hk, rfl, hr', hul', hb', hu'⟩ := hrel
    clear hu hr hul hb h1
    by_cases hlt : k < l.length
    · obtain ⟨g, d', hv, hg1, hg2⟩ := hr'.form (k := k) (by omega)
      injection hv with hv1 hv2 hv3
      subst hv1
      clear hv2 hv3
      have hui : us'[k]? = some (gt us' k) := gt_get (by omega)
      have hli : l[k]? = some (gt l k) := gt_get hlt
      have hx := hu'.out k _ _ hui hli
      obtain ⟨p1, n1, c1, hue, hi, hs⟩ := hx
      have hvr : vr (fun b => (Value.slice (some ⟨g, 0, none⟩) l.length d).ownBlock ≠ some b) wr (gt us' k) (gt l k) := Rep.mono (fun b hb => hb.2) (hu'.out k _ _ hui hli)
      obtain ⟨e0, e1, e2⟩ := hr'.cell3 (hui.trans (by rw [hue]))
      have hfr : ∀ o, wr.frozen? ⟨g, o, none⟩ = false := fun o => hr'.frozen o
      have hbl : (gt l k).body.length ≤ 140737488355328 := hl _ (List.mem_of_getElem? hli)
      rw [hue] at hvr
      have Hue := Lib.hid hue
      clear hue hi hs
      go_wp2_with fail
      refine (one_thaw hvr hbl).mono ?_
      rintro e w2 ⟨v2, rfl, hv2, hb2⟩
      obtain ⟨p3, n3, c3, rfl, hi3, hs3⟩ := id hv2
      have f0 := cell_later hb2 e0
      have f1 := cell_later hb2 e1
      have f2 := cell_later hb2 e2
      have hfr2 : ∀ o, w2.frozen? ⟨g, o, none⟩ = false := fun o => (hb2.frozen (p := ⟨g, o, none⟩) hg2).trans (hfr o)
      clear e0 e1 e2 hfr hvr
      go_wp2
      go_roundw
      case rel =>
        refine ⟨k + 1, us'.set k (.agg #[.int .i64 (gt l k).fr, .int .i64 (gt l k).to, .slice p3 n3 c3]), by omega, by go_num, (hr'.grow hb2).set3 k (by omega) _ _ _, by simpa using hul', ?_, ?_⟩
        · have hb3 : Below w.heap.size w w2 := below_next hb' hb2 hb'.size
          exact (by repeat' (first | with_reducible exact hb3 | with_reducible exact Below.refl _ _ | ((with_reducible refine Below.setCell ?_ ?_ _); rotate_left; (focus (simp <;> omega))) | ((with_reducible refine Below.alloc ?_ ?_ _); rotate_left; (focus (simp <;> omega))) | (with_reducible refine below_drew ?_) | (with_reducible refine below_drewN ?_ _)))
        · have agree : ∀ {H : Blks}, (∀ b, H b → b ≠ g) → Agree H w2 (((w2.setCell ⟨g, k * 3, none⟩ (.int .i64 (gt l k).fr)).setCell ⟨g, k * 3 + 1, none⟩ (.int .i64 (gt l k).to)).setCell ⟨g, k * 3 + 2, none⟩ (.slice p3 n3 c3)) :=
            fun h => (((Agree.refl _ _).setCell h _).setCell h _).setCell h _
          intro i u x h1 h2
          by_cases hik : i = k
          · subst hik
            rw [List.getElem?_set_self (by omega)] at h1
            injection h1 with h1
            subst h1
            rw [hli] at h2
            injection h2 with h2
            subst h2
            refine Rep.mono ?_ (Rep.keep (agree (H := fun b => newB wr b ∧ thaw w2 b) fun b hb => by have hb := hb.1; unfold newB at hb; show b ≠ g; omega) hv2)
            intro b ⟨hb, ht⟩
            unfold newB at hb
            have := hb'.size
            exact ⟨fun _ => ⟨by omega, thaw_set (thaw_set (thaw_set ht))⟩, fun e => by have e : g = b := Option.some.inj e; omega⟩
          · rw [List.getElem?_set_ne (Ne.symm hik)] at h1
            have h3 := vr_grow (Rep.lt (hu'.out i u x h1 h2)) hb2
            refine Rep.mono ?_ (Rep.keep (agree fun b hb => fun e => hb.1.2 (by rw [e]; rfl)) h3)
            intro b hb
            exact ⟨fun h => ⟨(hb.1.1 (by omega)).1, thaw_set (thaw_set (thaw_set (thaw_below hb2 hb.2 (hb.1.1 (by omega)).2)))⟩, hb.1.2⟩
      case measure => simp [intOf]; omega
    · go_wp2
      go_ret
      refine ⟨_, rfl, hr'.own hul' ?_, hb'⟩
      intro i u x h1 h2
      refine Rep.mono (fun b hb => ⟨hb.1 ?_, hb.2⟩) (hu'.out i u x h1 h2)
      have := (List.getElem?_eq_some_iff.1 h2).1
      omega


theorem Own.self {α : Type} [Rep α] {e : TypeId} {B : Nat} {F : Blks} {w : World} {v : Value} {xs : List α} (h : Own e B F w v xs) : Own e B (fun b => F b ∧ v.ownBlock ≠ some b) w v xs := by
  obtain ⟨us, hl, hu, ho⟩ := h
  exact ⟨us, hl, fun i u x h1 h2 => Rep.mono (fun b hb => ⟨hb, hb.2⟩) (hu i u x h1 h2), ho⟩
set_option maxRecDepth 100000 in
set_option maxHeartbeats 400000 in
theorem Take_thaw {F : Blks} {p : Option Addr} {n c : Nat} {l : List Letter} {w : World} {k : Nat} (h1 : Sl F w p n c l) (hk : k < n) (hn : n ≤ 1000000) (hl : ∀ x ∈ l, x.body.length ≤ 140737488355328) :
    Calls Try.prog 17 #[.slice p n c, .int .i64 k] w fun e w' => ∃ v u,
      e = .returned (.tuple #[v, u, .int .i64 0]) ∧ Own 39 w.heap.size (newB w) w' v (l.take k ++ l.drop (k + 1)) ∧ vr (fun b => newB w b ∧ thaw w' b) w' u (gt l k) ∧ Below w.heap.size w w' := by
  have hnc := h1.le
  have hcm : c ≤ 9223372036854775807 := by have := h1.max; unfold maxLen at this; exact this
  have hk0 := hk
  have hkc : k ≤ c := by omega
  have hkc1 : k + 1 ≤ c := by omega
  have hw0 : (0 : Int) ≤ (k : Int) + 1 := by omega
  have hw2 : (k : Int) + 1 ≤ (n : Int) := by omega
  have hw3 : ((k : Int) + 1).toNat = k + 1 := by omega
  have hw1 : IntKind.i64.wrap ((k : Int) + 1) = (k : Int) + 1 := IntWalk.i64_in _ (by omega)
  go_enter Try.func17, Try.ntmps17
  go_wp2_with (go_at_call 33; refine (in_yes (by omega) (by omega)).mono ?_; rintro e w' ⟨rfl, rfl⟩)
  have hb0 := al1 w (.cells #[.int .i64 0, .int .i64 0, .slice none 0 0] 39)
  have hcat : [l.take k, l.drop (k + 1)].flatten = l.take k ++ l.drop (k + 1) := by simp
  have hcl : (l.take k ++ l.drop (k + 1)).length ≤ 1000000 := by have := h1.len; simp; omega
  have hsub : ∀ x ∈ (l.take k ++ l.drop (k + 1)), x.body.length ≤ 140737488355328 := fun x hx => by
    rcases List.mem_append.1 hx with h | h
    · exact hl x (List.mem_of_mem_take h)
    · exact hl x (List.mem_of_mem_drop h)
  have H1 := Lib.hid h1; have HC := Lib.hid hcat; have HS := Lib.hid hsub; have HL := Lib.hid hl; have H0 := Lib.hid hb0; have HN := Lib.hid hcl
  clear h1 hcat hsub hl hb0 hcl
  refine wp_flowL 10 [(7, .unk [] fun _ v w1 => ∃ q, v = .slice (some q) 2 2 ∧ Sl allB w1 (some q) 2 2 [l.take k, l.drop (k + 1)]), (8, .unk [7] fun _ v w1 => Own 39 0 allB w1 v (l.take k ++ l.drop (k + 1))), (9, .unk [8] fun _ v w1 => Own 39 (w.heap.size + 1) (fun b => w.heap.size + 1 ≤ b) w1 v (l.take k ++ l.drop (k + 1)))] (by kernel_rfl) (by kernel_rfl) ?_ ?_
  · refine ⟨?_, ?_, ?_, trivial⟩
    · rintro _ v w1 w2 _ ⟨q, hv, h⟩ hb
      exact ⟨q, hv, h.grow hb⟩
    · exact fun _ v w1 w2 _ h hb => h.grow hb
    · exact fun _ v w1 w2 _ h hb => h.grow hb
  repeat (first
    | (refine Flow.skip_ rfl ?_; simp only [Act.put, List.setIfInBounds_toArray, List.set_cons_zero, List.set_cons_succ, Nat.reduceAdd])
    | (refine Flow.pure_ (v := ?_) rfl rfl ?_ ?_; rotate_left; focus (intro w hb; go_simp; try with_reducible rfl)
       simp only [Act.put, List.setIfInBounds_toArray, List.set_cons_zero, List.set_cons_succ, Nat.reduceAdd]))
  refine Flow.unk_ rfl rfl ?_ ?_
  · intro wf hb hk
    (try simp only [holdsF, lookF, lookV, List.map_cons, List.map_nil, List.headD_cons, List.getD_cons_zero, List.getD_cons_succ, Nat.reduceEqDiff, Nat.reduceAdd, ↓reduceIte, and_true] at hk ⊢)
    skip
    go_simp
    (have hs := (H1.out.grow (below2 H0.out hb)).mono (fun _ _ => trivial : ∀ b, F b → allB b); exact ⟨al1 _ _, Sl.lit (α := List Letter) (xs := [l.take k, l.drop (k + 1)]) (t := 22) (fz := (0, 0)) (heap_alloc_new _ _) [_, _] rfl rfl (elems2 ((hs.take (k := k) (by omega)).grow (al1 _ _)).vr ((hs.drop (k := k + 1) (by omega)).grow (al1 _ _)).vr) trivial (by simp)⟩)
  intro v1
  simp only [Act.put, List.setIfInBounds_toArray, List.set_cons_zero, List.set_cons_succ, Nat.reduceAdd]
  (try simp only [holdsF, lookF, lookV, List.map_cons, List.map_nil, List.headD_cons, List.getD_cons_zero, List.getD_cons_succ, Nat.reduceEqDiff, Nat.reduceAdd, ↓reduceIte, and_true])
  repeat (first
    | (refine Flow.skip_ rfl ?_; simp only [Act.put, List.setIfInBounds_toArray, List.set_cons_zero, List.set_cons_succ, Nat.reduceAdd])
    | (refine Flow.pure_ (v := ?_) rfl rfl ?_ ?_; rotate_left; focus (intro w hb; go_simp; try with_reducible rfl)
       simp only [Act.put, List.setIfInBounds_toArray, List.set_cons_zero, List.set_cons_succ, Nat.reduceAdd]))
  refine Flow.unk_ rfl rfl ?_ ?_
  · intro wf hb hk
    (try simp only [holdsF, lookF, lookV, List.map_cons, List.map_nil, List.headD_cons, List.getD_cons_zero, List.getD_cons_succ, Nat.reduceEqDiff, Nat.reduceAdd, ↓reduceIte, and_true] at hk ⊢)
    skip
    go_simp
    (obtain ⟨q, rfl, h7⟩ := hk; refine (ConcatLetters h7 (by omega) (by unfold flen; rw [HC.out]; have := HN.out; omega)).mono ?_; rintro e w' ⟨v, rfl, ho, hb'⟩; exact ⟨v, rfl, hb', by rw [HC.out] at ho; exact (ho.base (Nat.zero_le _))⟩)
  intro v2
  simp only [Act.put, List.setIfInBounds_toArray, List.set_cons_zero, List.set_cons_succ, Nat.reduceAdd]
  (try simp only [holdsF, lookF, lookV, List.map_cons, List.map_nil, List.headD_cons, List.getD_cons_zero, List.getD_cons_succ, Nat.reduceEqDiff, Nat.reduceAdd, ↓reduceIte, and_true])
  repeat (first
    | (refine Flow.skip_ rfl ?_; simp only [Act.put, List.setIfInBounds_toArray, List.set_cons_zero, List.set_cons_succ, Nat.reduceAdd])
    | (refine Flow.pure_ (v := ?_) rfl rfl ?_ ?_; rotate_left; focus (intro w hb; go_simp; try with_reducible rfl)
       simp only [Act.put, List.setIfInBounds_toArray, List.set_cons_zero, List.set_cons_succ, Nat.reduceAdd]))
  refine Flow.unk_ rfl rfl ?_ ?_
  · intro wf hb hk
    (try simp only [holdsF, lookF, lookV, List.map_cons, List.map_nil, List.headD_cons, List.getD_cons_zero, List.getD_cons_succ, Nat.reduceEqDiff, Nat.reduceAdd, ↓reduceIte, and_true] at hk ⊢)
    skip
    go_simp
    (obtain ⟨q, d, rfl, hs8⟩ := Own.sl hk; refine (Twin_any hs8 HN.out HS.out).mono ?_; rintro e w' ⟨v, rfl, ho, hb'⟩; have hz := hb.size; simp at hz; exact ⟨v, rfl, hb', (ho.base hz).mono fun b hb => Nat.le_trans hz hb⟩)
  intro v3
  simp only [Act.put, List.setIfInBounds_toArray, List.set_cons_zero, List.set_cons_succ, Nat.reduceAdd]
  (try simp only [holdsF, lookF, lookV, List.map_cons, List.map_nil, List.headD_cons, List.getD_cons_zero, List.getD_cons_succ, Nat.reduceEqDiff, Nat.reduceAdd, ↓reduceIte, and_true])
  repeat (first
    | (refine Flow.skip_ rfl ?_; simp only [Act.put, List.setIfInBounds_toArray, List.set_cons_zero, List.set_cons_succ, Nat.reduceAdd])
    | (refine Flow.pure_ (v := ?_) rfl rfl ?_ ?_; rotate_left; focus (intro w hb; go_simp; try with_reducible rfl)
       simp only [Act.put, List.setIfInBounds_toArray, List.set_cons_zero, List.set_cons_succ, Nat.reduceAdd]))
  refine Flow.done_ (fun w1 hb1 hk => ?_)
  obtain ⟨h9, -⟩ := hk
  have hb3 := below2 H0.out hb1
  have hs := H1.out.grow hb3
  obtain ⟨b, o, p1, n1, c1, rfl, _, _, e1, e2, e3, i1, i2, hs1⟩ := hs.letter hk0
  have f1 := cell_later hb1 (a := ⟨w.heap.size, 0, none⟩) (v := .int .i64 0) (by go_simp)
  have f2 := cell_later hb1 (a := ⟨w.heap.size, 1, none⟩) (v := .int .i64 0) (by go_simp)
  have f3 := cell_later hb1 (a := ⟨w.heap.size, 2, none⟩) (v := .slice none 0 0) (by go_simp)
  have af : ∀ o, w1.frozen? ⟨w.heap.size, o, none⟩ = false := fun o => (hb1.frozen (p := ⟨w.heap.size, o, none⟩) (by simp)).trans (by go_simp)
  have hlk : gt l k ∈ l := List.mem_of_getElem? (gt_get (by have := H1.out.len; omega))
  have hz1 := hb1.size
  simp at hz1
  clear hs hw1 hw3 hk
  go_wp2_with (go_at_call 35; refine (one_thaw (F := F) (x := gt l k) ⟨p1, n1, c1, rfl, ⟨i1, i2⟩, hs1⟩ (HL.out _ hlk)).mono ?_; rintro e w2 ⟨v2, rfl, hv2, hb2⟩; obtain ⟨p3, n3, c3, rfl, hi3, hs3⟩ := id hv2; have g1 := cell_later hb2 f1; have g2 := cell_later hb2 f2; have g3 := cell_later hb2 f3; have gf : ∀ o, w2.frozen? ⟨w.heap.size, o, none⟩ = false := fun o => (hb2.frozen (p := ⟨w.heap.size, o, none⟩) (by show w.heap.size < w1.heap.size; omega)).trans (af o); clear f1 f2 f3 af e1 e2 e3)
  all_goals
    have hz2 := hb2.size
    refine bodyPost_ret (v := .tuple #[v3, .agg #[.int .i64 (gt l k).fr, .int .i64 (gt l k).to, .slice p3 n3 c3], .int .i64 0]) ?_ rfl ?_
    · simp [results, Try.results17, go_sem, g1, g2, g3, gf]
    · have ha : Agree (fun b => w.heap.size + 1 ≤ b) w2 (((w2.setCell ⟨w.heap.size, 0, none⟩ (.int .i64 (gt l k).fr)).setCell ⟨w.heap.size, 1, none⟩ (.int .i64 (gt l k).to)).setCell ⟨w.heap.size, 2, none⟩ (.slice p3 n3 c3)) := (by repeat' (first | with_reducible exact Agree.refl _ _ | ((with_reducible refine Agree.setCell ?_ ?_ _); rotate_left; (focus (intro b hb; (try simp only [newB, oldB] at hb); (try simp at hb ⊢); omega))) | ((with_reducible refine Agree.alloc ?_ ?_ _); rotate_left; (focus (intro b hb; (try simp only [newB, oldB] at hb); (try simp at hb ⊢); omega))) | (with_reducible refine Agree.drew ?_) | (with_reducible refine Agree.drewN ?_ _)))
      have hb4 : Below w.heap.size w w2 := below2 hb3 hb2
      refine ⟨_, _, rfl, ?_, ?_, ?_⟩
      · exact (((h9.grow hb2).keepB (fun b hb => hb) ha).base (Nat.le_succ _)).mono fun b hb => Nat.le_of_succ_le hb
      · refine Rep.mono ?_ (Rep.keep (F := fun b => newB w1 b ∧ thaw w2 b) (fun b hb => ha b (by have hb := hb.1; unfold newB at hb; omega)) hv2)
        intro b ⟨hb, ht⟩
        unfold newB at hb ⊢
        exact ⟨by omega, by repeat' (first | exact ht | with_reducible refine thaw_set ?_)⟩
      · exact (by repeat' (first | with_reducible exact hb4 | with_reducible exact Below.refl _ _ | ((with_reducible refine Below.setCell ?_ ?_ _); rotate_left; (focus (simp <;> omega))) | ((with_reducible refine Below.alloc ?_ ?_ _); rotate_left; (focus (simp <;> omega))) | (with_reducible refine below_drew ?_) | (with_reducible refine below_drewN ?_ _)))

set_option maxRecDepth 100000 in
set_option maxHeartbeats 400000 in
theorem Put_thaw {F : Blks} {w : World} {v : Value} {m : Msg} {p : Option Addr} {n c : Nat} {l : List Letter} (h1 : Sl F w p n c l) (hn : n < 1200) (hl : ∀ x ∈ l, x.body.length ≤ 140737488355328)
    (hv : vr F w v m) (hm : SmallM m) (HOp : ∀ x ∈ m.ops, OpOk x) (he : msgErr m = 0) :
    Calls Try.prog 12 #[.slice p n c, v] w fun e w' => ∃ v, e = .returned (.tuple #[v, .int .i64 0]) ∧ Own 39 w.heap.size (fun b => newB w b ∧ thaw w' b) w' v (l ++ [⟨m.fr, m.to, msgB m⟩]) ∧ Below w.heap.size w w' := by
  obtain ⟨p1, n1, c1, p2, n2, c2, p3, n3, c3, rfl, hi, hs1, hs2, hs3⟩ := hv
  have hln := h1.len
  have HS := Lib.hid (And.intro hs1 (And.intro hs2 hs3)); have HL := Lib.hid hl; have HN := Lib.hid hln; have H1 := Lib.hid h1
  clear hs1 hs2 hs3 hl hln h1
  go_enter Try.func12, Try.ntmps12
  go_wp2_with fail
  refine (MsgBytes_any (F := F) (m := m) ⟨p1, n1, c1, p2, n2, c2, p3, n3, c3, rfl, hi, HS.out.1.grow (al1 _ _), HS.out.2.1.grow (al1 _ _), HS.out.2.2.grow (al1 _ _)⟩ hm HOp).mono ?_
  rintro e w1 ⟨v1, rfl, ho, hb⟩
  have hb1 : Below w.heap.size w w1 := below2 (al1 _ _) hb
  have hz1 := hb.size
  simp at hz1
  have f1 : ∀ w', Below w1.heap.size w1 w' → w'.cell? ⟨w.heap.size, 1, none⟩ = some (.int .i64 m.fr) := fun w' h => (cell_later (below2 hb h) (a := ⟨w.heap.size, 1, none⟩) (v := .int .i64 m.fr) (by go_simp))
  have f2 : ∀ w', Below w1.heap.size w1 w' → w'.cell? ⟨w.heap.size, 2, none⟩ = some (.int .i64 m.to) := fun w' h => (cell_later (below2 hb h) (a := ⟨w.heap.size, 2, none⟩) (v := .int .i64 m.to) (by go_simp))
  have htw := ho.thaw
  obtain ⟨q, d, rfl, hsb⟩ := ho.sl
  have HB := Lib.hid (hsb.lt.mono (G := fun b => newB w b ∧ b < w1.heap.size ∧ thaw w1 b) (fun b hb => ⟨by rcases hb.1 with h | h; exact h.elim; have := h.1; simp at this; unfold newB; omega, hb.2, by rcases hb.1 with h | h; exact h.elim; exact htw b h.2⟩)); have HB1 := Lib.hid hb1
  rw [he]
  clear ho hb he hb1 hsb htw
  go_wp2
  refine wp_flowM 9 [(1, .unk [] fun _ v wr => Own 39 w1.heap.size (fun b => newB w b ∧ thaw wr b) wr v l), (8, .unk [] fun vs v wr => ∃ g, v = .slice (some ⟨g, 0, none⟩) 1 1 ∧ Sl (fun b => (newB w b ∧ (b = g ∨ b < w1.heap.size)) ∧ thaw wr b) wr (some ⟨g, 0, none⟩) 1 1 [(⟨m.fr, m.to, msgB m⟩ : Letter)])] [1,8] (by kernel_rfl) (by kernel_rfl) ?_ ?_
  · refine ⟨?_, ?_, trivial⟩
    · exact fun _ v w1 w2 _ h hb => (h.lt.grow hb).mono fun b h => ⟨h.1.1, thaw_below hb h.2 h.1.2⟩
    · rintro _ v w1 w2 _ ⟨q, hv, h⟩ hb
      exact ⟨q, hv, (h.lt.grow hb).mono fun b h => ⟨h.1.1, thaw_below hb h.2 h.1.2⟩⟩
  repeat (first
    | (refine Flow.skip_ rfl ?_; simp only [Act.put, List.setIfInBounds_toArray, List.set_cons_zero, List.set_cons_succ, Nat.reduceAdd])
    | (refine Flow.pure_ (v := ?_) rfl rfl ?_ ?_; rotate_left; focus (intro w hb; go_simp; try with_reducible rfl)
       simp only [Act.put, List.setIfInBounds_toArray, List.set_cons_zero, List.set_cons_succ, Nat.reduceAdd]))
  refine Flow.made_ rfl rfl ?_ ?_
  · intro wf hb hk
    (try simp only [holdsF, lookF, lookV, List.map_cons, List.map_nil, List.headD_cons, List.getD_cons_zero, List.getD_cons_succ, Nat.reduceEqDiff, Nat.reduceAdd, ↓reduceIte, and_true] at hk ⊢)
    skip
    go_simp
    (refine (Twin_thaw (H1.out.grow (below2 HB1.out hb)) (by have := HN.out; omega) HL.out).mono ?_; rintro e w' ⟨v, rfl, ho, hb'⟩; have hz := hb.size; have hz0 := HB1.out.size; exact ⟨v, rfl, ⟨hb', (ho.base hz).mono fun b hb => ⟨by have hb := hb.1; unfold newB at hb ⊢; omega, hb.2⟩⟩, ho.block⟩)
  intro v1
  simp only [Act.put, List.setIfInBounds_toArray, List.set_cons_zero, List.set_cons_succ, Nat.reduceAdd]
  (try simp only [holdsF, lookF, lookV, List.map_cons, List.map_nil, List.headD_cons, List.getD_cons_zero, List.getD_cons_succ, Nat.reduceEqDiff, Nat.reduceAdd, ↓reduceIte, and_true])
  repeat (first
    | (refine Flow.skip_ rfl ?_; simp only [Act.put, List.setIfInBounds_toArray, List.set_cons_zero, List.set_cons_succ, Nat.reduceAdd])
    | (refine Flow.pure_ (v := ?_) rfl rfl ?_ ?_; rotate_left; focus (intro w hb; go_simp; try with_reducible rfl)
       simp only [Act.put, List.setIfInBounds_toArray, List.set_cons_zero, List.set_cons_succ, Nat.reduceAdd]))
  refine Flow.made_ rfl rfl ?_ ?_
  · intro wf hb hk
    (try simp only [holdsF, lookF, lookV, List.map_cons, List.map_nil, List.headD_cons, List.getD_cons_zero, List.getD_cons_succ, Nat.reduceEqDiff, Nat.reduceAdd, ↓reduceIte, and_true] at hk ⊢)
    (skip)
    go_simp
    (have hz := hb.size; have hz0 := HB1.out.size; exact ⟨⟨al1 _ _, Sl.lit (α := Letter) (xs := [(⟨m.fr, m.to, msgB m⟩ : Letter)]) (t := 39) (fz := (0, 0)) (heap_alloc_new _ _) [_] rfl rfl (elems1 ⟨q, _, d, rfl, hi.2, ((HB.out.grow (below2 hb (al1 _ _))).mono fun b hb' => ⟨⟨hb'.1, .inr hb'.2.1⟩, thaw_below (below2 hb (al1 _ _)) hb'.2.1 hb'.2.2⟩)⟩) ⟨⟨by unfold newB; omega, .inl rfl⟩, fun o => heap_frozen (heap_alloc_new _ _)⟩ (by simp)⟩, fun b hb => by simp [Value.ownBlock] at hb ⊢; omega⟩)
  intro v8
  simp only [Act.put, List.setIfInBounds_toArray, List.set_cons_zero, List.set_cons_succ, Nat.reduceAdd]
  (try simp only [holdsF, lookF, lookV, List.map_cons, List.map_nil, List.headD_cons, List.getD_cons_zero, List.getD_cons_succ, Nat.reduceEqDiff, Nat.reduceAdd, ↓reduceIte, and_true])
  repeat (first
    | (refine Flow.skip_ rfl ?_; simp only [Act.put, List.setIfInBounds_toArray, List.set_cons_zero, List.set_cons_succ, Nat.reduceAdd])
    | (refine Flow.pure_ (v := ?_) rfl rfl ?_ ?_; rotate_left; focus (intro w hb; go_simp; try with_reducible rfl)
       simp only [Act.put, List.setIfInBounds_toArray, List.set_cons_zero, List.set_cons_succ, Nat.reduceAdd]))
  refine Flow.doneM_ (fun wr hb hk hap => ?_)
  obtain ⟨⟨g, rfl, h8⟩, h1, -⟩ := hk
  have hne : v1.ownBlock ≠ some g := by
    intro h
    exact hap _ (List.mem_cons_of_mem _ List.mem_cons_self) _ List.mem_cons_self (by simp) rfl rfl g h rfl
  have hz := hb.size
  have hz0 := HB1.out.size
  have hl2 : (l.length + 1) * 40 ≤ 140737488355328 := by have := HN.out; omega
  clear f1 f2 hap
  go_wp2_with (at_builtin; refine wpList_append_Own (α := Letter) rfl (.tmp 22) (.tmp 29) rfl Try.underlying22 (z := .agg #[.int .i64 0, .int .i64 0, .slice none 0 0]) (bytes := 40) (by kernel_rfl) rfl (by decide) rfl rfl h1.self.lt h8.lt (fun b hb => by rcases hb.1.1.2 with h | h; exact h ▸ hne; exact fun e => absurd (h1.block _ e).1 (by omega)) hz hl2 ?_; intro v' w' ho hg hat)
  go_ret2
  have hbw : Below w.heap.size w wr := below2 HB1.out hb
  exact ⟨_, rfl, (ho.base hz0).mono (fun b hb => by rcases hb with hb | hb; exact ⟨hb.1.1.1, thaw_eq (hg.block b hb.2 fun e => hb.1.2 e.symm) hb.1.1.2⟩; exact ⟨hb.1.1.1, thaw_eq (hg.block b hb.2 fun e => by rcases hb.1.1.2 with h | h; exact hne (h ▸ e.symm); exact absurd (h1.block _ e.symm).1 (by omega)) hb.1.2⟩), hbw.grown hg hbw.size (fun k hk => Nat.le_trans hz0 (h1.block k hk).1)⟩

/-- Bytes of blocks beyond K have been written; nothing else. -/
structure Spoilt (K : Blks) (w w' : World) : Prop where
  size : w'.heap.size = w.heap.size
  keep : ∀ b, K b → w'.heap[b]? = w.heap[b]?
  thaw : ∀ b, thaw w b → thaw w' b
  byte : ∀ b o (x : UInt8), w.cell? ⟨b, o, none⟩ = some (.int .u8 (x.toNat : Int)) → ∃ y : UInt8, w'.cell? ⟨b, o, none⟩ = some (.int .u8 (y.toNat : Int))
  bel : ∀ B, (∀ b, b < B → K b) → Below B w w'
theorem Spoilt.refl (K : Blks) (w : World) : Spoilt K w w := ⟨rfl, fun _ _ => rfl, fun _ h => h, fun _ _ x h => ⟨x, h⟩, fun _ _ => Below.refl _ _⟩
theorem Spoilt.trans {K : Blks} {a b c : World} (h : Spoilt K a b) (k : Spoilt K b c) : Spoilt K a c :=
  ⟨k.size.trans h.size, fun x hx => (k.keep x hx).trans (h.keep x hx), fun x hx => k.thaw x (h.thaw x hx), fun b o x hx => by obtain ⟨y, hy⟩ := h.byte b o x hx; exact k.byte b o y hy, fun B hB => (h.bel B hB).trans (k.bel B hB)⟩
theorem Spoilt.set {K : Blks} {w : World} {b o : Nat} {x y : UInt8} (hc : w.cell? ⟨b, o, none⟩ = some (.int .u8 (x.toNat : Int))) (hK : ¬ K b) : Spoilt K w (w.setCell ⟨b, o, none⟩ (.int .u8 (y.toNat : Int))) := by
  refine ⟨by simp, fun k hk => ?_, fun k hk => thaw_set hk, fun b' o' z hz => ?_, fun B hB => Below.setCell (Below.refl _ _) (Nat.not_lt.1 fun h => hK (hB b h)) _⟩
  · exact ((Agree.refl (fun j => K j) w).setCell (fun j hj => by intro e; have e : j = b := e; subst e; exact hK hj) _) k hk
  · by_cases h : (⟨b', o', none⟩ : Addr) = ⟨b, o, none⟩
    · rw [h]
      exact ⟨y, World.cell?_setCell_same _ _ _ hc⟩
    · exact ⟨z, (World.cell?_setCell_other _ _ _ _ (fun e => h e.symm)).trans hz⟩
def byteOf (u : Option Value) : UInt8 := match u with | some (.int _ z) => UInt8.ofNat z.toNat | _ => 0
theorem Spoilt.sl {K G : Blks} {w w' : World} (h : Spoilt K w w') {p : Option Addr} {n c : Nat} {bs : List UInt8} (hs : Sl G w p n c bs) : ∃ bs' : List UInt8, Sl G w' p n c bs' := by
  rcases Nat.eq_zero_or_pos n with h0 | h0
  · subst h0
    exact ⟨[], rfl, hs.le, hs.max, fun i x hi => by simp at hi⟩
  · obtain ⟨b, o, rfl, hF, hb, -⟩ := hs.byte (i := 0) h0
    refine ⟨(List.range n).map fun i => byteOf (w'.cell? ⟨b, o + i, none⟩), by simp, hs.le, hs.max, fun i x hi => ?_⟩
    rw [List.getElem?_map] at hi
    obtain ⟨j, hj, hx⟩ := Option.map_eq_some_iff.1 hi
    obtain ⟨hin, rfl⟩ := List.getElem?_eq_some_iff.1 hj
    simp only [List.length_range] at hin
    simp only [List.getElem_range] at hx
    obtain ⟨b2, o2, e, _, _, hcell⟩ := hs.byte (i := i) hin
    injection e with e
    injection e with e1 e2
    subst e1; subst e2
    obtain ⟨y, hy⟩ := h.byte _ _ _ hcell
    rw [hy] at hx
    have hxy : x = y := by rw [← hx]; show UInt8.ofNat ((y.toNat : Int).toNat) = y; simp
    subst hxy
    refine ⟨b, o, .int .u8 (x.toNat : Int), rfl, hF, by rw [h.size]; exact hb, rfl, fun j u hu => ?_⟩
    rcases j with _ | j
    · have hu : u = .int .u8 (x.toNat : Int) := by simpa [Value.cells] using hu.symm
      subst hu
      simpa [Rep.size] using hy
    · simp [Value.cells] at hu

set_option maxRecDepth 100000 in
set_option maxHeartbeats 400000 in
theorem SpoilBytes_any {K G : Blks} {w : World} {p : Option Addr} {n c : Nat} {bs : List UInt8} (h : Sl G w p n c bs) (hn : n ≤ 1000000000) (hG : ∀ b, G b → ¬ K b ∧ thaw w b) :
    Calls Try.prog 16 #[.slice p n c] w fun e w' => e = .returned (.tuple #[]) ∧ Spoilt K w w' := by
  have H := Lib.hid h; have HG := Lib.hid hG
  clear h hG
  go_enter Try.func16, Try.ntmps16
  go_wp2
  go_loopw [2] (fun i wr => ∃ k : Nat, k ≤ n ∧ i = .int .i64 k ∧ Spoilt K w wr) (fun i _ => n - (intOf i).toNat)
  case atStart => exact ⟨0, Nat.zero_le _, rfl, Spoilt.refl _ _⟩
  case round =>
    obtain ⟨k, hk, rfl, hsp⟩ := hrel
    have HSP := Lib.hid hsp
    clear hsp
    by_cases hlt : k < n
    · obtain ⟨bs', hs'⟩ := HSP.out.sl H.out
      obtain ⟨b, o, rfl, hF, _, e1⟩ := hs'.byte hlt
      have af : wr.frozen? ⟨b, o + k, none⟩ = false := HSP.out.thaw b (HG.out b hF).2 _
      have HS := Lib.hid (fun y : UInt8 => Spoilt.set (K := K) (y := y) e1 (HG.out b hF).1)
      generalize gt bs' k = x at e1 HS
      have HW := Lib.hid (show ((x.toNat : Int) + 101) % 256 = (((x + 101 : UInt8).toNat : Nat) : Int) by simp [UInt8.toNat_add])
      clear hs' hF
      go_wp2
      go_roundw
      case rel => exact ⟨k + 1, by omega, by go_num, by rw [HW.out]; exact HSP.out.trans (HS.out _)⟩
      case measure => simp [intOf]; omega
    · go_wp2
      go_end0
      exact ⟨rfl, HSP.out⟩
end Go.Proofs.Ytpmdkmpmpjdglaa
