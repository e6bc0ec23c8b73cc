/- append onto a slice of the call's own, as a step of the walk and of a drawn region. -/
import Derived.Test.YtpmdkmpmpjdglaaKeep
import Derived.WalkSpells
import Derived.Lib.Hide
import Derived.Lib.AppendZeros
import Derived.Lib.AppendStr
set_option linter.unusedSimpArgs false
set_option linter.unusedVariables false
namespace Go.Proofs.Ytpmdkmpmpjdglaa
open Go Go.RowKit
open Rep (vr)

section
variable {α : Type} [Rep α] {P : Program} {ops : Array Oper} {rest : List Oper} {o : Oper} {a : Act} {Q : Exit → Act → World → Prop} {F G : Blks} {w : World} {e t : TypeId} {B : Nat} {v z : Value} {xs : List α} {bytes : Nat}
theorem wpList_append_Own (hgd : o.guard = none) (s x : Operand) (ho : o.op = .call { callee := .builtin .append, args := #[s, x], argTypes := #[t, t] })
    (ht : P.underlying t = some (.slice e)) (hinfo : (P.info? e).map (fun i => (i.zero, i.size, i.bytes)) = some (some z, Rep.size α, bytes)) (hz : z.cells.size = Rep.size α) (hb0 : 0 < bytes)
    (hs : a.eval s = v) {p : Option Addr} {m c : Nat} (hx : a.eval x = .slice p m c)
    (h : Own e B F w v xs) {ys : List α} (hy : Sl G w p m c ys) (hG : ∀ b, G b → v.ownBlock ≠ some b) (hB : B ≤ w.heap.size) (hl : (xs.length + m) * bytes ≤ 140737488355328)
    (K : ∀ v' w', Own e B (fun b => F b ∨ G b) w' v' (xs ++ ys) → w.grownBy w' v.ownBlock → (v'.ownBlock = v.ownBlock ∨ v'.ownBlock = some w.heap.size) → wpList P ops Q rest (a.put o.dst v') w') :
    wpList P ops Q (o :: rest) a w := by
  obtain ⟨v', w', hr, h1, h2, h3⟩ := run_append_Own (ty := o.type) ht hinfo hz hb0 h hy hG hB hl
  refine wpList_plain hgd fun K' hK => ?_
  unfold Oper.wp execOp
  simp only [ho, resolve, invoke, builtin, Sem.run_bind, Sem.run_pure, Result.andThen_ok, List.map_toArray, List.map_cons, List.map_nil, hs, hx, hr]
  exact hK _ _ (K v' w' h1 h2 h3)
theorem gives_append_Own (s x : Operand) (ho : o.op = .call { callee := .builtin .append, args := #[s, x], argTypes := #[t, t] })
    (ht : P.underlying t = some (.slice e)) (hinfo : (P.info? e).map (fun i => (i.zero, i.size, i.bytes)) = some (some z, Rep.size α, bytes)) (hz : z.cells.size = Rep.size α) (hb0 : 0 < bytes)
    (hs : a.eval s = v) {p : Option Addr} {m c : Nat} (hx : a.eval x = .slice p m c)
    (h : Own e B F w v xs) {ys : List α} (hy : Sl G w p m c ys) (hG : ∀ b, G b → v.ownBlock ≠ some b) (hB : B ≤ w.heap.size) (hl : (xs.length + m) * bytes ≤ 140737488355328) {R : Value → World → Prop}
    (K : ∀ v' w', Own e B (fun b => F b ∨ G b) w' v' (xs ++ ys) → w.grownBy w' v.ownBlock → (v'.ownBlock = v.ownBlock ∨ v'.ownBlock = some w.heap.size) → R v' w') :
    Oper.gives P o a w R := by
  obtain ⟨v', w', hr, h1, h2, h3⟩ := run_append_Own (ty := o.type) ht hinfo hz hb0 h hy hG hB hl
  unfold Oper.gives execOp
  simp only [ho, resolve, invoke, builtin, Sem.run_bind, Sem.run_pure, Result.andThen_ok, List.map_toArray, List.map_cons, List.map_nil, hs, hx, hr]
  exact K v' w' h1 h2 h3
end
/-- How many elements there are in all. -/
def flen {α : Type} (x : List (List α)) : Nat := x.flatten.length
theorem flen_take {α : Type} (x : List (List α)) (k : Nat) : flen (x.take k) ≤ flen x := by
  unfold flen
  have h : x.flatten = (x.take k).flatten ++ (x.drop k).flatten := by rw [← List.flatten_append, List.take_append_drop]
  rw [h, List.length_append]; omega
set_option maxRecDepth 100000 in
set_option maxHeartbeats 400000 in
theorem CloneBytes {F : Blks} {p : Option Addr} {n c : Nat} {x : List UInt8} {w : World} (h1 : Sl F w p n c x) (hn : n * 1 ≤ 140737488355328) :
    Calls Try.prog 57 #[.slice p n c] w fun e w' => ∃ v, e = .returned v ∧ Own 5 w.heap.size F w' v x ∧ Below w.heap.size w w' := by
  have qn := fun (w : World) (a : Option Addr) (n c : Nat) => Lib.run_eql_slice_nil (P := Try.prog) w 37 5 a n c 0 0 Try.underlying37
  go_enter Try.func57, Try.ntmps57
  cases p with
  | none =>
    have hx : x = [] := by
      cases x with
      | nil => rfl
      | cons a l => obtain ⟨b, o, v, he, _⟩ := h1.at_ 0 a rfl; cases he
    clear h1 hn
    go_wp2
    go_ret
    exact ⟨_, rfl, by rw [hx]; exact Own.nil _ _ _ _, Below.refl _ _⟩
  | some a =>
    have H0 : Own 5 w.heap.size noB (w.alloc (.cells #[] 5)) (.slice (some ⟨w.heap.size, 0, none⟩) 0 0) ([] : List UInt8) :=
      ⟨[], rfl, fun i u x h => by simp at h, World.ownsRow_made w #[] 0 (Nat.le_refl _) (by simp [maxLen]) (by simp)⟩
    have h2 : Sl (fun b => F b ∧ b < w.heap.size) (w.alloc (.cells #[] 5)) (some a) n c x := h1.lt.keep (agree_below ((Below.refl w.heap.size w).alloc (Nat.le_refl _) _) fun _ hb => hb.2)
    have hG : ∀ b, (F b ∧ b < w.heap.size) → (Value.slice (some ⟨w.heap.size, 0, none⟩) 0 0).ownBlock ≠ some b := fun b hb h => by
      simp only [Value.ownBlock, Option.some.injEq] at h
      have := hb.2
      omega
    clear h1
    go_wp2_with (at_builtin; go_loud (refine wpList_append_Own (α := UInt8) rfl (.tmp 5) (.tmp 6) rfl Try.underlying37 (z := .int .u8 0) (bytes := 1) (by kernel_rfl) rfl (by decide) rfl rfl H0 h2 hG (by simp) (by simp; omega) ?_); intro v' w' ho hg hat)
    go_ret
    refine ⟨_, rfl, by simpa using ho.mono (G := F) (fun b hb => by rcases hb with hb | hb; exact hb.elim; exact hb.1), ((Below.refl w.heap.size w).alloc (Nat.le_refl _) _).grown hg (by simp) (fun k hk => Nat.le_of_eq (Option.some.inj hk))⟩

set_option maxRecDepth 100000 in
set_option maxHeartbeats 400000 in
theorem CloneLetters {F : Blks} {p : Option Addr} {n c : Nat} {x : List Letter} {w : World} (h1 : Sl F w p n c x) (hn : n * 40 ≤ 140737488355328) :
    Calls Try.prog 47 #[.slice p n c] w fun e w' => ∃ v, e = .returned v ∧ Own 39 w.heap.size F w' v x ∧ Below w.heap.size w w' := by
  have qn := fun (w : World) (a : Option Addr) (n c : Nat) => Lib.run_eql_slice_nil (P := Try.prog) w 22 39 a n c 0 0 Try.underlying22
  go_enter Try.func47, Try.ntmps47
  cases p with
  | none =>
    have hx : x = [] := by
      cases x with
      | nil => rfl
      | cons a l => obtain ⟨b, o, v, he, _⟩ := h1.at_ 0 a rfl; cases he
    clear h1 hn
    go_wp2
    go_ret
    exact ⟨_, rfl, by rw [hx]; exact Own.nil _ _ _ _, Below.refl _ _⟩
  | some a =>
    have H0 : Own 39 w.heap.size noB (w.alloc (.cells #[] 39)) (.slice (some ⟨w.heap.size, 0, none⟩) 0 0) ([] : List Letter) :=
      ⟨[], rfl, fun i u x h => by simp at h, World.ownsRow_made w #[] 0 (Nat.le_refl _) (by simp [maxLen]) (by simp)⟩
    have h2 : Sl (fun b => F b ∧ b < w.heap.size) (w.alloc (.cells #[] 39)) (some a) n c x := h1.lt.keep (agree_below ((Below.refl w.heap.size w).alloc (Nat.le_refl _) _) fun _ hb => hb.2)
    have hG : ∀ b, (F b ∧ b < w.heap.size) → (Value.slice (some ⟨w.heap.size, 0, none⟩) 0 0).ownBlock ≠ some b := fun b hb h => by
      simp only [Value.ownBlock, Option.some.injEq] at h
      have := hb.2
      omega
    clear h1
    go_wp2_with (at_builtin; go_loud (refine wpList_append_Own (α := Letter) rfl (.tmp 5) (.tmp 6) rfl Try.underlying22 (z := .agg #[.int .i64 0, .int .i64 0, .slice none 0 0]) (bytes := 40) (by kernel_rfl) rfl (by decide) rfl rfl H0 h2 hG (by simp) (by simp; omega) ?_); intro v' w' ho hg hat)
    go_ret
    refine ⟨_, rfl, by simpa using ho.mono (G := F) (fun b hb => by rcases hb with hb | hb; exact hb.elim; exact hb.1), ((Below.refl w.heap.size w).alloc (Nat.le_refl _) _).grown hg (by simp) (fun k hk => Nat.le_of_eq (Option.some.inj hk))⟩


theorem Own.keepB {α : Type} [Rep α] {e : TypeId} {B : Nat} {F : Blks} {w w' : World} {v : Value} {xs : List α} (h : Own e B F w v xs) (hF : ∀ b, F b → B ≤ b) (hk : Agree (fun b => B ≤ b) w w') : Own e B F w' v xs :=
  h.keep (fun b hb => hk b (hF b hb)) fun k hv => hk k (h.block k hv).1
/-! ### A row of the call's own, its elements' values one by one -/
def RowU (e : TypeId) (B s : Nat) (w : World) (v : Value) (us : List Value) : Prop :=
  (∀ u ∈ us, u.cells.size = s) ∧ w.ownsRow B e s v us.length (us.flatMap fun u => u.cells.toList)
section
variable {α : Type} [Rep α] {F G : Blks} {w w' : World} {e : TypeId} {B s : Nat} {v : Value} {us : List Value} {xs : List α}
theorem Own.row (h : Own e B F w v xs) : ∃ us, RowU e B (Rep.size α) w v us ∧ us.length = xs.length ∧
    ∀ (i : Nat) (u : Value) (x : α), us[i]? = some u → xs[i]? = some x → Rep.vr (fun b => F b ∧ v.ownBlock ≠ some b) w u x := by
  obtain ⟨us, hl, hu, ho⟩ := h
  exact ⟨us, ⟨Own.elem hl hu, by rw [hl]; exact ho⟩, hl, hu⟩
theorem RowU.own (h : RowU e B (Rep.size α) w v us) (hl : us.length = xs.length)
    (hu : ∀ (i : Nat) (u : Value) (x : α), us[i]? = some u → xs[i]? = some x → vr (fun b => F b ∧ v.ownBlock ≠ some b) w u x) : Own e B F w v xs :=
  ⟨us, hl, hu, by rw [← hl]; exact h.2⟩
theorem RowU.form (h : RowU e B s w v us) {k : Nat} (hk : k < us.length) : ∃ g cap, v = .slice (some ⟨g, 0, none⟩) us.length cap ∧ B ≤ g ∧ g < w.heap.size := by
  rcases h.2.2 with ⟨_, h0⟩ | ⟨g, cap, cur, hv, hg, hh, _⟩
  · omega
  · exact ⟨g, cap, hv, hg, (Array.getElem?_eq_some_iff.1 hh).1⟩
theorem RowU.cell {g n cap : Nat} (h : RowU e B s w (.slice (some ⟨g, 0, none⟩) n cap) us) {i j : Nat} {u y : Value} (hi : us[i]? = some u) (hj : u.cells[j]? = some y) :
    w.cell? ⟨g, i * s + j, none⟩ = some y := by
  have := h.2.cells (g := g) rfl _ _ (flat_get h.1 i j u y hi hj)
  have ha : (⟨g, 0, none⟩ : Addr).add (i * s + j) = ⟨g, i * s + j, none⟩ := by unfold Addr.add; split <;> simp_all
  rwa [ha] at this
theorem RowU.cell3 {g n cap : Nat} (h : RowU e B 3 w (.slice (some ⟨g, 0, none⟩) n cap) us) {i : Nat} {c0 c1 c2 : Value} (hi : us[i]? = some (.agg #[c0, c1, c2])) :
    w.cell? ⟨g, i * 3, none⟩ = some c0 ∧ w.cell? ⟨g, i * 3 + 1, none⟩ = some c1 ∧ w.cell? ⟨g, i * 3 + 2, none⟩ = some c2 :=
  ⟨h.cell (j := 0) hi rfl, h.cell (j := 1) hi rfl, h.cell (j := 2) hi rfl⟩
theorem RowU.frozen {g n cap : Nat} (h : RowU e B s w (.slice (some ⟨g, 0, none⟩) n cap) us) (j : Nat) : w.frozen? ⟨g, j, none⟩ = false := by
  rcases h.2.2 with ⟨h', _⟩ | ⟨g', cap', cur, h', _, hh, _⟩
  · cases h'
  · have : g = g' := by injection h' with h'; injection h' with h'; injection h' with h'
    subst this
    simp [World.frozen?, hh]
theorem RowU.keep (h : RowU e B s w v us) (hv : ∀ k, v.ownBlock = some k → w'.heap[k]? = w.heap[k]?) : RowU e B s w' v us := by
  obtain ⟨h0, h1, h2⟩ := h
  refine ⟨h0, h1, ?_⟩
  rcases h2 with h2 | ⟨g, cap, cur, rfl, hg, hh, r⟩
  · exact .inl h2
  · exact .inr ⟨g, cap, cur, rfl, hg, by rw [hv g rfl]; exact hh, r⟩
theorem RowU.lt (h : RowU e B s w v us) {k : Nat} (hk : v.ownBlock = some k) : B ≤ k ∧ k < w.heap.size := h.2.lt k hk
theorem RowU.grow (h : RowU e B s w v us) (hb : Below w.heap.size w w') : RowU e B s w' v us := h.keep fun k hk => hb.block k (h.lt hk).2

theorem set_mid {α : Type} (L A R : List α) (j : Nat) (c : α) (hj : j < A.length) : (L ++ (A ++ R)).set (L.length + j) c = L ++ (A.set j c ++ R) := by
  rw [List.set_append_right _ _ (by omega), Nat.add_sub_cancel_left, List.set_append_left _ _ hj]
/-- An element of three cells is stored. -/
theorem RowU.set3 {g n cap : Nat} (h : RowU e B 3 w (.slice (some ⟨g, 0, none⟩) n cap) us) (i : Nat) (hi : i < us.length) (c0 c1 c2 : Value) :
    RowU e B 3 (((w.setCell ⟨g, i * 3, none⟩ c0).setCell ⟨g, i * 3 + 1, none⟩ c1).setCell ⟨g, i * 3 + 2, none⟩ c2) (.slice (some ⟨g, 0, none⟩) n cap) (us.set i (.agg #[c0, c1, c2])) := by
  obtain ⟨h0, h1⟩ := h
  have hn : us.length = n := by
    rcases h1.2 with ⟨h', _⟩ | ⟨g', cap', cur, h', _⟩
    · cases h'
    · injection h' with _ h' _; exact h'.symm
  subst hn
  refine ⟨fun u hu => ?_, ?_⟩
  · rcases List.mem_or_eq_of_mem_set hu with hu | rfl
    · exact h0 u hu
    · rfl
  · have h2 := (((h1.stored (i * 3) c0).1.stored (i * 3 + 1) c1).1.stored (i * 3 + 2) c2).1
    have hget : us = us.take i ++ (us[i] :: us.drop (i + 1)) := by rw [← List.drop_eq_getElem_cons hi, List.take_append_drop]
    have e : ((((us.flatMap fun u => u.cells.toList).set (i * 3) c0).set (i * 3 + 1) c1).set (i * 3 + 2) c2) = ((us.set i (.agg #[c0, c1, c2])).flatMap fun u => u.cells.toList) := by
      have hA := h0 us[i] (List.getElem_mem hi)
      have hL : (List.flatMap (fun u => u.cells.toList) (us.take i)).length = i * 3 := by
        rw [flat_length (s := 3) (fun u hu => h0 u (List.mem_of_mem_take hu)), List.length_take]
        congr 1; omega
      have hset : us.set i (.agg #[c0, c1, c2]) = us.take i ++ (.agg #[c0, c1, c2] :: us.drop (i + 1)) := by
        rw [List.set_eq_take_append_cons_drop, if_pos hi]
      rw [hset]
      conv => lhs; rw [hget]
      simp only [List.flatMap_append, List.flatMap_cons]
      have hA' : (us[i]).cells.toList.length = 3 := by simpa using hA
      rw [show i * 3 = (List.flatMap (fun u => u.cells.toList) (us.take i)).length + 0 by omega, set_mid _ _ _ _ _ (by omega)]
      rw [show (List.flatMap (fun u => u.cells.toList) (us.take i)).length + 0 + 1 = (List.flatMap (fun u => u.cells.toList) (us.take i)).length + 1 by omega, set_mid _ _ _ _ _ (by simp; omega)]
      rw [show (List.flatMap (fun u => u.cells.toList) (us.take i)).length + 0 + 2 = (List.flatMap (fun u => u.cells.toList) (us.take i)).length + 2 by omega, set_mid _ _ _ _ _ (by simp; omega)]
      congr 2
      generalize hX : (us[i]).cells.toList = X at *
      match X, hA' with
      | [x0, x1, x2], _ => rfl
    rw [List.length_set, ← e]
    exact h2
end

theorem Agree.refl (F : Blks) (w : World) : Agree F w w := fun _ _ => rfl
theorem Agree.trans {F : Blks} {a b c : World} (h : Agree F a b) (k : Agree F b c) : Agree F a c := fun i hi => (k i hi).trans (h i hi)
theorem Agree.setCell {F : Blks} {a w : World} (h : Agree F a w) {p : Addr} (hp : ∀ b, F b → b ≠ p.block) (u : Value) : Agree F a (w.setCell p u) :=
  fun i hi => (Below.heap_setCell w p u i (hp i hi)).trans (h i hi)
theorem Agree.alloc {F : Blks} {a w : World} (h : Agree F a w) (hp : ∀ b, F b → b < w.heap.size) (o : Obj) : Agree F a (w.alloc o) :=
  fun i hi => (Below.heap_alloc w o i (hp i hi)).trans (h i hi)
theorem Agree.drew {F : Blks} {a w : World} (h : Agree F a w) : Agree F a w.drew := h
theorem Agree.drewN {F : Blks} {a w : World} (h : Agree F a w) (n : Nat) : Agree F a (w.drewN n) := h
theorem al1 (w : World) (o : Obj) : Below w.heap.size w (w.alloc o) := (Below.refl _ _).alloc (Nat.le_refl _) _
theorem al2 (w : World) (o o' : Obj) : Below w.heap.size w ((w.alloc o).alloc o') := (al1 w o).alloc (by simp) _
theorem al3 (w : World) (o o' o'' : Obj) : Below w.heap.size w (((w.alloc o).alloc o').alloc o'') := (al2 w o o').alloc (by simp <;> omega) _
theorem bcell {W w1 : World} (hb : Below W.heap.size W w1) : (∀ b o, b < W.heap.size → w1.cell? ⟨b, o, none⟩ = W.cell? ⟨b, o, none⟩) ∧ (∀ b o, b < W.heap.size → w1.frozen? ⟨b, o, none⟩ = W.frozen? ⟨b, o, none⟩) :=
  ⟨fun b o h => hb.cell (p := ⟨b, o, none⟩) h, fun b o h => hb.frozen (p := ⟨b, o, none⟩) h⟩
set_option maxRecDepth 100000 in
set_option maxHeartbeats 400000 in
theorem GrowConcatLetters (n : Nat) (w : World) (hn : n * 40 ≤ 140737488355328) :
    Calls Try.prog 56 #[.slice none 0 0, .int .i64 n] w fun e w' => ∃ v, e = .returned v ∧ Own 39 w.heap.size noB w' v ([] : List Letter) ∧ Below w.heap.size w w' := by
  obtain ⟨i0, hi, hz0, hz1, hz2⟩ := info_parts (P := Try.prog) (e := 39) (z := .agg #[.int .i64 0, .int .i64 0, .slice none 0 0]) (size := 3) (bytes := 40) (by kernel_rfl)
  go_enter Try.func56, Try.ntmps56
  by_cases h0 : n = 0
  · subst h0
    clear hn
    go_wp2
    go_ret
    exact ⟨_, rfl, Own.nil _ _ _ _, Below.refl _ _⟩
  · have hp : 0 < n := by omega
    go_wp2_with (at_builtin; refine Lib.wpList_append_run _ rfl (.tmp 20) (.tmp 21) _ _ rfl (.slice none 0 0) (.int .i64 (n : Int)) rfl (by simp [go_sem]) _ _ (Lib.run_append_nil_zeros _ 22 3 _ 39 i0 (.agg #[.int .i64 0, .int .i64 0, .slice none 0 0]) .i64 .i64 Try.underlying22 Try.underlying3 hi hz0 n hp (by omega) (by omega) (by rw [hz2]; omega)) ?_)
    go_ret
    refine ⟨_, rfl, ⟨[], rfl, fun i u x h => by simp at h, ?_⟩, ((Below.refl w.heap.size w).drew.alloc (Nat.le_refl _) _)⟩
    have hg := grownCap_ge w n 0 39
    have hg2 := grownCap_le_maxLen w n 0 39 (by unfold maxLen; omega)
    refine World.ownsRow_made w.drew _ _ (Nat.le_refl _) hg2 ?_
    simp only [Array.size_append, size_zeroCells, Rep.size]
    show n * 3 + (grownCap w n 0 39 - n) * 3 = grownCap w n 0 39 * 3
    omega
set_option maxRecDepth 100000 in
set_option maxHeartbeats 400000 in
theorem ConcatLetters {F : Blks} {p : Option Addr} {n c : Nat} {x : List (List Letter)} {w : World} (h1 : Sl F w p n c x) (hn : n ≤ 1000000) (hl : flen x * 40 ≤ 140737488355328) :
    Calls Try.prog 34 #[.slice p n c] w fun e w' => ∃ v, e = .returned v ∧ Own 39 w.heap.size F w' v x.flatten ∧ Below w.heap.size w w' := by
  have hpre : ∀ k, flen (x.take k) ≤ flen x := flen_take x
  have hstep : ∀ k, k < x.length → (x.take (k + 1)).flatten = (x.take k).flatten ++ gt x k := fun k hk => by
    rw [List.take_succ_eq_append_getElem hk, List.flatten_append, gt_eq (List.getElem?_eq_getElem hk)]; simp
  have hxl := h1.len
  go_enter Try.func34, Try.ntmps34
  go_wp2
  go_loop [3, 11] (fun s i => ∃ k : Nat, k ≤ n ∧ i = .int .i64 k ∧ s = .int .i64 (flen (x.take k) : Nat)) (fun _ i => n - (intOf i).toNat)
  case atStart => exact ⟨0, Nat.zero_le _, rfl, rfl⟩
  case round =>
    obtain ⟨k, hk, rfl, rfl⟩ := hrel
    by_cases hlt : k < n
    · obtain ⟨b, o, p1, n1, c1, rfl, _, _, e1, hs⟩ := h1.row hlt
      have hk2 := hstep k (by omega)
      have hk3 := hpre (k + 1)
      have hk4 : flen (x.take (k + 1)) = flen (x.take k) + n1 := by unfold flen; rw [hk2, List.length_append, hs.len]
      have hk5 : flen (x.take k) + n1 ≤ 140737488355328 := by omega
      have H4 := Lib.hid hk4
      clear h1 hpre hstep hs hk2 hk3 hk4 hl hxl
      go_wp2
      go_round
      case rel => exact ⟨k + 1, by omega, by go_num, by rw [H4.out]; go_num⟩
      case measure => simp [intOf]; omega
    · have hkx : x.take k = x := List.take_of_length_le (by omega)
      obtain rfl : n = k := by omega
      rw [hkx]
      have HX := Lib.hid hxl
      have HS := Lib.hid hstep
      have HL := Lib.hid hl
      have HP := Lib.hid hpre
      have hl' : flen x ≤ 140737488355328 := by omega
      clear hkx hxl hstep hl hpre
      go_wp2_with fail
      refine (GrowConcatLetters (flen x) w (by have := HL.out; omega)).mono ?_
      rintro e w1 ⟨v1, rfl, ho, hb⟩
      go_wp2
      go_loopw [6, 27] (fun v i wr => ∃ k : Nat, k ≤ n ∧ i = .int .i64 k ∧ Own 39 w.heap.size (fun b => F b ∧ b < w.heap.size) wr v (x.take k).flatten ∧ Below w.heap.size w wr) (fun _ i _ => n - (intOf i).toNat)
      case atStart => exact ⟨0, Nat.zero_le _, rfl, by simpa using ho.mono (fun b hb => hb.elim), hb⟩
      case round =>
        obtain ⟨k, hk, rfl, ho', hb'⟩ := hrel
        clear ho hb
        by_cases hlt : k < n
        · obtain ⟨b, o, p1, n1, c1, rfl, _, _, e1, hs⟩ := (h1.lt.keep (agree_below hb' fun _ hb => hb.2)).row hlt
          have hk2 := HS.out k (by have := HX.out; omega)
          have hk3 := HP.out (k + 1)
          have hk5 : ((x.take k).flatten.length + n1) * 40 ≤ 140737488355328 := by
            have := HL.out
            have hk4 : flen (x.take (k + 1)) = (x.take k).flatten.length + n1 := by unfold flen; rw [hk2, List.length_append, hs.len]
            omega

          have hG : ∀ b, (F b ∧ b < w.heap.size) → u6.ownBlock ≠ some b := fun b hb h => by
            have := (ho'.block b h).1
            have := hb.2
            omega
          have H2 := Lib.hid hk2
          have H5 := Lib.hid hk5
          clear hk2 hk3 hk5 h1
          go_wp2_with (at_builtin; refine wpList_append_Own (α := Letter) rfl (.tmp 31) (.tmp 32) rfl Try.underlying22 (z := .agg #[.int .i64 0, .int .i64 0, .slice none 0 0]) (bytes := 40) (by kernel_rfl) rfl (by decide) rfl rfl ho' hs hG hb'.size H5.out ?_; intro v' w' ho2 hg hat)
          go_roundw
          case rel => exact ⟨k + 1, by omega, by go_num, by rw [H2.out]; exact ho2.mono (fun b hb => by rcases hb with hb | hb <;> exact hb), hb'.grown hg hb'.size (fun k hk => (ho'.block k hk).1)⟩
          case measure => simp [intOf]; omega
        · go_wp2
          go_ret
          refine ⟨_, rfl, ?_, hb'⟩
          rw [show x.take k = x from List.take_of_length_le (by have := HX.out; omega)] at ho'
          exact ho'.mono fun b hb => hb.1

section
variable {α : Type} [Rep α] {F G : Blks} {w w' : World} {p : Option Addr} {n cap : Nat} {xs : List α}
theorem elems1 {u0 : Value} {x0 : α} (h0 : Rep.vr F w u0 x0) : ∀ (i : Nat) (u : Value) (x : α), [u0][i]? = some u → [x0][i]? = some x → Rep.vr F w u x := by
  intro i u x h1 h2
  match i with
  | 0 => simp at h1 h2; subst h1; subst h2; exact h0
  | i + 1 => simp at h1
theorem elems2 {u0 u1 : Value} {x0 x1 : α} (h0 : Rep.vr F w u0 x0) (h1 : Rep.vr F w u1 x1) : ∀ (i : Nat) (u : Value) (x : α), [u0, u1][i]? = some u → [x0, x1][i]? = some x → Rep.vr F w u x := by
  intro i u x g1 g2
  match i with
  | 0 => simp at g1 g2; subst g1; subst g2; exact h0
  | 1 => simp at g1 g2; subst g1; subst g2; exact h1
  | i + 2 => simp at g1
/-- A literal's slice. -/
theorem Sl.lit {g : Nat} {cs : Array Value} {t : TypeId} {fz : Nat × Nat} (hblk : w.heap[g]? = some (.cells cs t fz)) (us : List Value) (hcs : cs.toList = us.flatMap fun u => u.cells.toList) (hl : us.length = xs.length)
    (hu : ∀ (i : Nat) (u : Value) (x : α), us[i]? = some u → xs[i]? = some x → Rep.vr F w u x) (hg : F g) (hm : xs.length ≤ 1000000) : Sl F w (some ⟨g, 0, none⟩) xs.length xs.length xs :=
  ⟨rfl, Nat.le_refl _, by unfold maxLen; omega, fun i x hx => by
    have hi : i < xs.length := (List.getElem?_eq_some_iff.1 hx).1
    have hui : us[i]? = some (us[i]'(by omega)) := List.getElem?_eq_getElem (by omega)
    refine ⟨g, 0, _, rfl, hg, (Array.getElem?_eq_some_iff.1 hblk).1, hu i _ x hui hx, fun j y hy => ?_⟩
    rw [cell_of_row w g _ cs t fz hblk, Nat.zero_add]
    have := flat_get (Own.elem hl hu) i j _ y hui hy
    rw [← hcs] at this
    simpa using this⟩
theorem Sl.take (h : Sl F w p n cap xs) {k : Nat} (hk : k ≤ n) : Sl F w p k cap (xs.take k) :=
  ⟨by rw [List.length_take, h.len]; omega, Nat.le_trans hk h.le, h.max, fun i x hx => by
    have hi : i < k := by have := (List.getElem?_eq_some_iff.1 hx).1; rw [List.length_take] at this; omega
    rw [List.getElem?_take_of_lt hi] at hx
    exact h.at_ i x hx⟩
theorem Sl.drop (h : Sl F w p n cap xs) {k : Nat} (hk : k ≤ n) : Sl F w (if cap = k then p else p.map (·.add (k * Rep.size α))) (n - k) (cap - k) (xs.drop k) :=
  ⟨by rw [List.length_drop, h.len], by have := h.le; omega, Nat.le_trans (Nat.sub_le _ _) h.max, fun i x hx => by
    rw [List.getElem?_drop] at hx
    have hi : k + i < n := by have := (List.getElem?_eq_some_iff.1 hx).1; have := h.len; omega
    obtain ⟨b, o, v, rfl, hF, hb, hv, hc⟩ := h.at_ (k + i) x hx
    have hle := h.le
    refine ⟨b, o + k * Rep.size α, v, ?_, hF, hb, hv, fun j u hu => ?_⟩
    · rw [if_neg (by omega)]
      simp only [Option.map_some, Addr.add]
      split
      · rename_i h0; rw [h0, Nat.add_zero]
      · rfl
    · have := hc j u hu
      rw [show o + k * Rep.size α + i * Rep.size α + j = o + (k + i) * Rep.size α + j by rw [Nat.add_mul]; omega]
      exact this⟩
end

/-! ### Bytes -/
def byteVal (b : UInt8) : Value := .int .u8 (b.toNat : Int)
theorem own_bytes {w : World} {B : Nat} {v : Value} {bs : List UInt8} : Own 5 B noB w v bs ↔ w.ownsRow B 5 1 v bs.length (bs.map byteVal) := by
  constructor
  · rintro ⟨us, hl, hu, ho⟩
    have e : us.flatMap (fun u => u.cells.toList) = bs.map byteVal := by
      have hus : us = bs.map byteVal := by
        apply List.ext_getElem
        · simp [hl]
        · intro i h1 h2
          have := hu i us[i] (bs[i]'(by omega)) (List.getElem?_eq_getElem h1) (List.getElem?_eq_getElem _)
          rw [List.getElem_map]
          exact this
      rw [hus, List.flatMap_map]
      clear hu ho hus hl
      induction bs with
      | nil => rfl
      | cons b bs ih => exact congrArg (byteVal b :: ·) ih
    rw [← e]
    exact ho
  · intro ho
    refine ⟨bs.map byteVal, by simp, fun i u x h1 h2 => ?_, ?_⟩
    · rw [List.getElem?_map, h2] at h1
      injection h1 with h1
      subst h1
      rfl
    · have e : (bs.map byteVal).flatMap (fun u => u.cells.toList) = bs.map byteVal := by
        rw [List.flatMap_map]
        clear ho
        induction bs with
        | nil => rfl
        | cons b bs ih => exact congrArg (byteVal b :: ·) ih
      rw [e]
      exact ho
theorem wpList_append_str {P : Program} {ops : Array Oper} {rest : List Oper} {o : Oper} {a : Act} {Q : Exit → Act → World → Prop} {w : World} {B : Nat} {v : Value} {bs : List UInt8} {t u : TypeId} (hgd : o.guard = none) (sl x : Operand)
    (ho : o.op = .call { callee := .builtin .append, args := #[sl, x], argTypes := #[t, u] }) (ht : P.underlying t = some (.slice 5)) (hu : P.underlying u = some .string)
    (hinfo : (P.info? 5).map (fun i => (i.zero, i.size, i.bytes)) = some (some (.int .u8 0), 1, 1)) (hs : a.eval sl = v) (hown : Own 5 B noB w v bs) (s : ByteArray) (hx : a.eval x = .string s)
    (hl : bs.length + s.size ≤ 140737488355328) (hB : B ≤ w.heap.size)
    (K : ∀ v' w', Own 5 B noB w' v' (bs ++ s.data.toList) → w.grownBy w' v.ownBlock → wpList P ops Q rest (a.put o.dst v') w') : wpList P ops Q (o :: rest) a w := by
  obtain ⟨i0, hi, hzz⟩ := Option.map_eq_some_iff.1 hinfo
  simp only [Prod.mk.injEq] at hzz
  refine Lib.wpList_append_own_string (P := P) w hgd sl x t u ho B 5 i0 ht hu hi hzz.1 hzz.2.1 hzz.2.2 v bs.length _ hs (own_bytes.1 hown) s hx (by unfold maxLen; omega) hl hB fun v' w' h1 h2 _ => K v' w' (own_bytes.2 ?_) h2
  have e : (bs ++ s.data.toList).map byteVal = bs.map byteVal ++ Lib.strCells s := by rw [List.map_append]; rfl
  rw [e, List.length_append]
  exact h1
end Go.Proofs.Ytpmdkmpmpjdglaa
