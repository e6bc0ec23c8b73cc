/- What cells of memory stand for: a class of plain data; slices of such data; slices that a call owns. Conditions: none; plain theorems on memory. -/
import Derived.WalkKit
import Derived.Maps.AppendAt
import Derived.Deep.AppendLies
import Derived.Test.YtpmdkmpmpjdglaaFlow
set_option linter.unusedSimpArgs false
set_option linter.unusedVariables false
namespace Go.Proofs.Ytpmdkmpmpjdglaa
open Go Go.RowKit

abbrev Blks := Nat → Prop
def allB : Blks := fun _ => True
def noB : Blks := fun _ => False
/-- The blocks that stood in a world; those that did not. -/
def oldB (w : World) : Blks := fun b => b < w.heap.size
def newB (w : World) : Blks := fun b => w.heap.size ≤ b

def Agree (F : Blks) (w w' : World) : Prop := ∀ b, F b → w'.heap[b]? = w.heap[b]?

class Rep (α : Type) where
  size : Nat
  vr : Blks → World → Value → α → Prop
  pos : 0 < size
  cells : ∀ {F w v x}, vr F w v x → v.cells.size = size
  one : ∀ {F w v x}, vr F w v x → ∀ u ∈ v.cells.toList, u.oneCell' = true
  mono : ∀ {F G w v x}, (∀ b, F b → G b) → vr F w v x → vr G w v x
  keep : ∀ {F w w' v x}, Agree F w w' → vr F w v x → vr F w' v x
  lt : ∀ {F w v x}, vr F w v x → vr (fun b => F b ∧ b < w.heap.size) w v x
open Rep (vr)

/-! ### Whole numbers, bytes, truths, texts -/
def I64 (n : Int) : Prop := -9223372036854775808 ≤ n ∧ n ≤ 9223372036854775807
theorem I64.of {n : Int} (h0 : -4611686018427387904 ≤ n) (h1 : n ≤ 4611686018427387904) : I64 n := ⟨by omega, by omega⟩

instance : Rep Int where
  size := 1
  vr _ _ v x := v = .int .i64 x ∧ I64 x
  pos := by decide
  cells h := by obtain ⟨rfl, _⟩ := h; rfl
  one h := by obtain ⟨rfl, _⟩ := h; simp [Value.cells, Value.oneCell']
  mono _ h := h
  keep _ h := h
  lt h := h

instance : Rep UInt8 where
  size := 1
  vr _ _ v x := v = .int .u8 (x.toNat : Int)
  pos := by decide
  cells h := by subst h; rfl
  one h := by subst h; simp [Value.cells, Value.oneCell']
  mono _ h := h
  keep _ h := h
  lt h := h

instance : Rep Bool where
  size := 1
  vr _ _ v x := v = .bool x
  pos := by decide
  cells h := by subst h; rfl
  one h := by subst h; simp [Value.cells, Value.oneCell']
  mono _ h := h
  keep _ h := h
  lt h := h

instance : Rep ByteArray where
  size := 1
  vr _ _ v x := v = .string x ∧ x.size ≤ maxLen
  pos := by decide
  cells h := by obtain ⟨rfl, _⟩ := h; rfl
  one h := by obtain ⟨rfl, _⟩ := h; simp [Value.cells, Value.oneCell']
  mono _ h := h
  keep _ h := h
  lt h := h

/-- The element at a place; a plain name, into which the walk doesn't look. -/
def gt {α : Type} [Inhabited α] (xs : List α) (i : Nat) : α := xs.getD i default
theorem gt_eq {α : Type} [Inhabited α] {xs : List α} {i : Nat} {x : α} (h : xs[i]? = some x) : gt xs i = x := by simp [gt, List.getD_eq_getElem?_getD, h]
theorem gt_get {α : Type} [Inhabited α] {xs : List α} {i : Nat} (h : i < xs.length) : xs[i]? = some (gt xs i) := by simp [gt, List.getD_eq_getElem?_getD, h]

/-! ### Slices -/
section
variable {α : Type} [Rep α]
/-- The slice '.slice p n cap' reads as the list xs. -/
structure Sl (F : Blks) (w : World) (p : Option Addr) (n cap : Nat) (xs : List α) : Prop where
  len : xs.length = n
  le : n ≤ cap
  max : cap ≤ maxLen
  at_ : ∀ (i : Nat) (x : α), xs[i]? = some x → ∃ b o v, p = some ⟨b, o, none⟩ ∧ F b ∧ b < w.heap.size ∧ vr F w v x ∧
    ∀ j u, v.cells[j]? = some u → w.cell? ⟨b, o + i * Rep.size α + j, none⟩ = some u

variable {F G : Blks} {w w' : World} {p : Option Addr} {n cap : Nat} {xs : List α} {v : Value}

theorem Sl.mono (h : Sl F w p n cap xs) (hm : ∀ b, F b → G b) : Sl G w p n cap xs :=
  ⟨h.len, h.le, h.max, fun i x hx => by
    obtain ⟨b, o, v, hp, hF, hb, hv, hc⟩ := h.at_ i x hx
    exact ⟨b, o, v, hp, hm b hF, hb, Rep.mono hm hv, hc⟩⟩
theorem Sl.lt (h : Sl F w p n cap xs) : Sl (fun b => F b ∧ b < w.heap.size) w p n cap xs :=
  ⟨h.len, h.le, h.max, fun i x hx => by
    obtain ⟨b, o, v, hp, hF, hb, hv, hc⟩ := h.at_ i x hx
    exact ⟨b, o, v, hp, ⟨hF, hb⟩, hb, Rep.lt hv, hc⟩⟩
theorem cell_agree {b o : Nat} {u : Value} (h : w'.heap[b]? = w.heap[b]?) (hc : w.cell? ⟨b, o, none⟩ = some u) : w'.cell? ⟨b, o, none⟩ = some u :=
  (World.cell?_of_block (w := w) h).trans hc
theorem lt_of_cell {b o : Nat} {u : Value} (hc : w.cell? ⟨b, o, none⟩ = some u) : b < w.heap.size := World.block_lt_of_cell? w ⟨b, o, none⟩ hc
theorem vr_cell0 {x : α} (h : vr F w v x) : ∃ u, v.cells[0]? = some u := by
  have h1 := Rep.cells h
  have h2 := Rep.pos (α := α)
  exact ⟨v.cells[0]'(by omega), Array.getElem?_eq_getElem _⟩
theorem Sl.keep (h : Sl F w p n cap xs) (hk : Agree F w w') : Sl F w' p n cap xs :=
  ⟨h.len, h.le, h.max, fun i x hx => by
    obtain ⟨b, o, v, hp, hF, hb, hv, hc⟩ := h.at_ i x hx
    refine ⟨b, o, v, hp, hF, ?_, Rep.keep hk hv, fun j u hu => cell_agree (hk b hF) (hc j u hu)⟩
    obtain ⟨u, hu⟩ := vr_cell0 hv
    exact lt_of_cell (cell_agree (hk b hF) (hc 0 u hu))⟩
theorem Sl.nil (F : Blks) (w : World) (p : Option Addr) (cap : Nat) (h : cap ≤ maxLen) : Sl F w p 0 cap ([] : List α) :=
  ⟨rfl, Nat.zero_le _, h, fun i x hx => by simp at hx⟩
/-- An element by its place: for the walk. -/
theorem Sl.get (h : Sl F w p n cap xs) {i : Nat} (hi : i < n) : ∃ b o v, p = some ⟨b, o, none⟩ ∧ F b ∧ b < w.heap.size ∧ vr F w v (xs[i]'(by rw [h.len]; exact hi)) ∧
    ∀ j u, v.cells[j]? = some u → w.cell? ⟨b, o + i * Rep.size α + j, none⟩ = some u :=
  h.at_ i _ (List.getElem?_eq_getElem _)

theorem Sl.nth [Inhabited α] (h : Sl F w p n cap xs) {i : Nat} (hi : i < n) : ∃ b o v, p = some ⟨b, o, none⟩ ∧ F b ∧ b < w.heap.size ∧ vr F w v (gt xs i) ∧
    ∀ j u, v.cells[j]? = some u → w.cell? ⟨b, o + i * Rep.size α + j, none⟩ = some u :=
  h.at_ i _ (gt_get (by rw [h.len]; exact hi))

instance : Rep (List α) where
  size := 1
  vr F w v xs := ∃ p n cap, v = .slice p n cap ∧ Sl F w p n cap xs
  pos := by decide
  cells h := by obtain ⟨p, n, cap, rfl, _⟩ := h; rfl
  one h := by obtain ⟨p, n, cap, rfl, _⟩ := h; simp [Value.cells, Value.oneCell']
  mono hm h := by obtain ⟨p, n, cap, rfl, h⟩ := h; exact ⟨p, n, cap, rfl, h.mono hm⟩
  keep hk h := by obtain ⟨p, n, cap, rfl, h⟩ := h; exact ⟨p, n, cap, rfl, h.keep hk⟩
  lt h := by obtain ⟨p, n, cap, rfl, h⟩ := h; exact ⟨p, n, cap, rfl, h.lt⟩

theorem Sl.vr (h : Sl F w p n cap xs) : vr F w (.slice p n cap) xs := ⟨p, n, cap, rfl, h⟩
theorem vr_sl (h : vr F w (.slice p n cap) xs) : Sl F w p n cap xs := by
  obtain ⟨p', n', cap', e, h⟩ := h
  injection e with e1 e2 e3
  subst e1; subst e2; subst e3
  exact h

theorem Sl.byte {x : List UInt8} (h : Sl F w p n cap x) {i : Nat} (hi : i < n) : ∃ b o, p = some ⟨b, o, none⟩ ∧ F b ∧ b < w.heap.size ∧ w.cell? ⟨b, o + i, none⟩ = some (.int .u8 ((gt x i).toNat : Int)) := by
  obtain ⟨b, o, v, hp, hF, hb, rfl, hc⟩ := h.nth hi
  refine ⟨b, o, hp, hF, hb, ?_⟩
  have e : w.cell? ⟨b, o + i * Rep.size UInt8 + 0, none⟩ = some (.int .u8 ((gt x i).toNat : Int)) := hc 0 _ rfl
  simpa [Rep.size] using e
theorem Sl.int {x : List Int} (h : Sl F w p n cap x) {i : Nat} (hi : i < n) : ∃ b o, p = some ⟨b, o, none⟩ ∧ F b ∧ b < w.heap.size ∧ w.cell? ⟨b, o + i, none⟩ = some (.int .i64 (gt x i)) ∧ I64 (gt x i) := by
  obtain ⟨b, o, v, hp, hF, hb, ⟨rfl, hi⟩, hc⟩ := h.nth hi
  refine ⟨b, o, hp, hF, hb, ?_, hi⟩
  have e : w.cell? ⟨b, o + i * Rep.size Int + 0, none⟩ = some (.int .i64 (gt x i)) := hc 0 _ rfl
  simpa [Rep.size] using e

theorem Sl.row {x : List (List α)} (h : Sl F w p n cap x) {i : Nat} (hi : i < n) : ∃ b o p1 n1 c1, p = some ⟨b, o, none⟩ ∧ F b ∧ b < w.heap.size ∧ w.cell? ⟨b, o + i, none⟩ = some (.slice p1 n1 c1) ∧ Sl F w p1 n1 c1 (gt x i) := by
  obtain ⟨b, o, v, hp, hF, hb, ⟨p1, n1, c1, rfl, hs⟩, hc⟩ := h.nth hi
  refine ⟨b, o, p1, n1, c1, hp, hF, hb, ?_, hs⟩
  have e : w.cell? ⟨b, o + i * Rep.size (List α) + 0, none⟩ = some (.slice p1 n1 c1) := hc 0 _ rfl
  simpa [Rep.size] using e

/-! ### Kept as the world grows -/
theorem agree_below {B : Nat} (h : Below B w w') (hF : ∀ b, F b → b < B) : Agree F w w' := fun b hb => h.block b (hF b hb)
theorem Sl.old (h : Sl (oldB w) w p n cap xs) (hb : Below w.heap.size w w') : Sl (oldB w) w' p n cap xs := h.keep (agree_below hb fun _ hb => hb)
/-- Whatever is known of a world is known of one that has grown. -/
theorem vr_grow {x : α} (h : vr F w v x) (hb : Below w.heap.size w w') : vr F w' v x :=
  Rep.mono (fun _ hb => hb.1) (Rep.keep (agree_below hb fun _ hb => hb.2) (Rep.lt h))
theorem Sl.grow (h : Sl F w p n cap xs) (hb : Below w.heap.size w w') : Sl F w' p n cap xs :=
  (h.lt.keep (agree_below hb fun _ hb => hb.2)).mono fun _ hb => hb.1
theorem vr_all {x : α} (h : vr F w v x) : vr allB w v x := Rep.mono (fun _ _ => trivial) h
theorem vr_oldB {x : α} (h : vr F w v x) : vr (oldB w) w v x := Rep.mono (fun _ hb => hb.2) (Rep.lt h)
theorem Sl.oldB (h : Sl F w p n cap xs) : Sl (oldB w) w p n cap xs := h.lt.mono fun _ hb => hb.2
theorem newB_mono (h : w.heap.size ≤ w'.heap.size) {b : Nat} (hb : newB w' b) : newB w b := Nat.le_trans h hb

/-! ### Slices of a call's own -/
/-- The value owns a row in a block from B on, not frozen, at whose head xs stand; its elements lie in F, not in the row itself. -/
def Own (e : TypeId) (B : Nat) (F : Blks) (w : World) (v : Value) (xs : List α) : Prop :=
  ∃ us : List Value, us.length = xs.length ∧ (∀ (i : Nat) (u : Value) (x : α), us[i]? = some u → xs[i]? = some x → vr (fun b => F b ∧ v.ownBlock ≠ some b) w u x) ∧
    w.ownsRow B e (Rep.size α) v xs.length (us.flatMap fun u => u.cells.toList)

theorem flat_get {us : List Value} {s : Nat} (hs : ∀ u ∈ us, u.cells.size = s) : ∀ (i j : Nat) (u y : Value), us[i]? = some u → u.cells[j]? = some y → (us.flatMap fun u => u.cells.toList)[i * s + j]? = some y := by
  induction us with
  | nil => intro i j u y h; simp at h
  | cons a us ih =>
    intro i j u y h hj
    have ha : a.cells.toList.length = s := by simpa using hs a List.mem_cons_self
    simp only [List.flatMap_cons]
    cases i with
    | zero =>
      simp only [List.getElem?_cons_zero, Option.some.injEq] at h
      subst h
      have hlt : j < a.cells.size := (Array.getElem?_eq_some_iff.1 hj).1
      rw [List.getElem?_append_left (by simp at ha ⊢; omega)]
      simpa using hj
    | succ i =>
      simp only [List.getElem?_cons_succ] at h
      rw [List.getElem?_append_right (by rw [ha, Nat.succ_mul]; omega)]
      have e : (i + 1) * s + j - a.cells.toList.length = i * s + j := by rw [ha, Nat.succ_mul]; omega
      rw [e]
      exact ih (fun u hu => hs u (List.mem_cons_of_mem _ hu)) i j u y h hj
theorem flat_length {us : List Value} {s : Nat} (hs : ∀ u ∈ us, u.cells.size = s) : (us.flatMap fun u => u.cells.toList).length = us.length * s := by
  induction us with
  | nil => simp
  | cons a us ih =>
    have ha : a.cells.toList.length = s := by simpa using hs a List.mem_cons_self
    rw [List.flatMap_cons, List.length_append, ha, ih fun u hu => hs u (List.mem_cons_of_mem _ hu), List.length_cons, Nat.succ_mul]
    omega

variable {e : TypeId} {B : Nat}
theorem Own.elem {us : List Value} (hl : us.length = xs.length) (hu : ∀ (i : Nat) (u : Value) (x : α), us[i]? = some u → xs[i]? = some x → vr F w u x) : ∀ u ∈ us, u.cells.size = Rep.size α := by
  intro u hm
  obtain ⟨i, hi, rfl⟩ := List.mem_iff_getElem.1 hm
  exact Rep.cells (hu i _ _ (List.getElem?_eq_getElem hi) (List.getElem?_eq_getElem (by omega)))
theorem Own.nil (e : TypeId) (B : Nat) (F : Blks) (w : World) : Own e B F w (.slice none 0 0) ([] : List α) :=
  ⟨[], rfl, fun i u x h => by simp at h, World.ownsRow_nil w B e _⟩
theorem Own.mono (h : Own e B F w v xs) (hm : ∀ b, F b → G b) : Own e B G w v xs := by
  obtain ⟨us, hl, hu, ho⟩ := h
  exact ⟨us, hl, fun i u x h1 h2 => Rep.mono (fun b hb => ⟨hm b hb.1, hb.2⟩) (hu i u x h1 h2), ho⟩
theorem Own.base {B' : Nat} (h : Own e B F w v xs) (hB : B' ≤ B) : Own e B' F w v xs := by
  obtain ⟨us, hl, hu, h1, h2⟩ := h
  refine ⟨us, hl, hu, h1, ?_⟩
  rcases h2 with h2 | ⟨g, cap, cur, hv, hg, r⟩
  · exact .inl h2
  · exact .inr ⟨g, cap, cur, hv, by omega, r⟩
theorem Own.block (h : Own e B F w v xs) : ∀ k, v.ownBlock = some k → B ≤ k ∧ k < w.heap.size := by
  obtain ⟨us, hl, hu, ho⟩ := h
  exact ho.lt
theorem Own.keep (h : Own e B F w v xs) (hk : Agree F w w') (hv : ∀ k, v.ownBlock = some k → w'.heap[k]? = w.heap[k]?) : Own e B F w' v xs := by
  obtain ⟨us, hl, hu, h1, h2⟩ := h
  refine ⟨us, hl, fun i u x h3 h4 => Rep.keep (fun b hb => hk b hb.1) (hu i u x h3 h4), h1, ?_⟩
  rcases h2 with h2 | ⟨g, cap, cur, rfl, hg, hh, r⟩
  · exact .inl h2
  · exact .inr ⟨g, cap, cur, rfl, hg, by rw [hv g rfl]; exact hh, r⟩
theorem Own.lt (h : Own e B F w v xs) : Own e B (fun b => F b ∧ b < w.heap.size) w v xs := by
  obtain ⟨us, hl, hu, ho⟩ := h
  exact ⟨us, hl, fun i u x h3 h4 => Rep.mono (fun b hb => ⟨⟨hb.1.1, hb.2⟩, hb.1.2⟩) (Rep.lt (hu i u x h3 h4)), ho⟩
theorem Own.grow (h : Own e B F w v xs) (hb : Below w.heap.size w w') : Own e B F w' v xs :=
  (h.lt.keep (agree_below hb fun _ hb => hb.2) fun k hk => hb.block k (h.block k hk).2).mono fun _ hb => hb.1
/-- The value, and what it reads as. -/
theorem Own.sl (h : Own e B F w v xs) : ∃ p cap, v = .slice p xs.length cap ∧ Sl (fun b => F b ∨ (B ≤ b ∧ v.ownBlock = some b)) w p xs.length cap xs := by
  obtain ⟨us, hl, hu, ho⟩ := h
  have hc := Own.elem hl hu
  have h2 := ho.2
  rcases h2 with ⟨rfl, h0⟩ | ⟨g, cap, cur, rfl, hg, hh, hn, hm, hsz, ht⟩
  · refine ⟨none, 0, by rw [h0], ?_⟩
    have : xs = [] := List.eq_nil_of_length_eq_zero h0
    subst this
    exact Sl.nil _ _ _ _ (by simp [maxLen])
  · refine ⟨some ⟨g, 0, none⟩, cap, rfl, rfl, hn, hm, fun i x hx => ?_⟩
    have hi : i < xs.length := (List.getElem?_eq_some_iff.1 hx).1
    have hui : us[i]? = some (us[i]'(by omega)) := List.getElem?_eq_getElem (by omega)
    refine ⟨g, 0, _, rfl, .inr ⟨hg, rfl⟩, (Array.getElem?_eq_some_iff.1 hh).1, Rep.mono (fun b hb => .inl hb.1) (hu i _ x hui hx), fun j y hy => ?_⟩
    have hf := flat_get hc i j _ y hui hy
    have := ho.cells (g := g) rfl _ _ hf
    have ha : (⟨g, 0, none⟩ : Addr).add (i * Rep.size α + j) = ⟨g, 0 + i * Rep.size α + j, none⟩ := by
      unfold Addr.add; split <;> simp_all
    rwa [ha] at this
theorem Own.vr (h : Own e B F w v xs) : vr (fun b => F b ∨ (B ≤ b ∧ v.ownBlock = some b)) w v xs := by
  obtain ⟨p, cap, hv, hs⟩ := h.sl
  exact ⟨p, xs.length, cap, hv, hs⟩

/-- Data without memory of its own. -/
class Flat (α : Type) [Rep α] : Prop where
  flat : ∀ {F G w w' v} {x : α}, Rep.vr F w v x → Rep.vr G w' v x
theorem Own.flat [Flat α] (h : Own e B F w v xs) : Own e B G w v xs := by
  obtain ⟨us, hl, hu, ho⟩ := h
  exact ⟨us, hl, fun i u x h3 h4 => Flat.flat (hu i u x h3 h4), ho⟩
/-- .. as a slice in whatever blocks hold its own row. -/
theorem Own.sl' (h : Own e B F w v xs) (hF : ∀ b, F b → G b) (hB : ∀ b, B ≤ b → b < w.heap.size → G b) : ∃ p cap, v = .slice p xs.length cap ∧ Sl G w p xs.length cap xs := by
  obtain ⟨p, cap, hv, hs⟩ := h.sl
  exact ⟨p, cap, hv, hs.lt.mono fun b hb => by
    rcases hb with ⟨hb | hb, hlt⟩
    · exact hF b hb
    · exact hB b hb.1 hlt⟩

/-- append(v, ys...), v of the call's own. -/
theorem run_append_Own {P : Program} {t ty : TypeId} {z : Value} {bytes : Nat} (ht : P.underlying t = some (.slice e))
    (hinfo : (P.info? e).map (fun i => (i.zero, i.size, i.bytes)) = some (some z, Rep.size α, bytes)) (hz : z.cells.size = Rep.size α) (hb0 : 0 < bytes)
    (h : Own e B F w v xs) {m c : Nat} {ys : List α} (hy : Sl G w p m c ys) (hG : ∀ b, G b → v.ownBlock ≠ some b) (hB : B ≤ w.heap.size) (hl : (xs.length + m) * bytes ≤ 140737488355328) :
    ∃ v' w', (Builtin.append_ #[t, t] ty #[v, .slice p m c]).run P w = .ok v' w' ∧ Own e B (fun b => F b ∨ G b) w' v' (xs ++ ys) ∧ w.grownBy w' v.ownBlock ∧
      (v'.ownBlock = v.ownBlock ∨ v'.ownBlock = some w.heap.size) := by
  obtain ⟨i0, hi, hzz⟩ := Option.map_eq_some_iff.1 hinfo
  simp only [Prod.mk.injEq] at hzz
  obtain ⟨hz0, hz1, hz2⟩ := hzz
  have hlen : xs.length + m ≤ 140737488355328 := Nat.le_trans (Nat.le_mul_of_pos_right _ hb0) hl
  have hym := hy.len
  rcases Nat.eq_zero_or_pos m with h0 | h0
  · -- nothing comes
    subst h0
    obtain rfl : ys = [] := List.eq_nil_of_length_eq_zero hym
    refine ⟨v, w, ?_, by simpa using h.mono fun b hb => .inl hb, World.grownBy.refl w _, .inl rfl⟩
    obtain ⟨us, hul, hu, ho⟩ := h
    rcases ho.2 with ⟨rfl, hn⟩ | ⟨g, cap, cur, rfl, _, _, hnc, _⟩
    · cases p <;> simp [Builtin.append_, run_underlying ht, sizeOf, typeInfo, hi, Builtin.lenOf, Builtin.firstCells, loadCells, loadCellsFrom]
    · cases p <;> simp [Builtin.append_, run_underlying ht, sizeOf, typeInfo, hi, Builtin.lenOf, Builtin.firstCells, hnc, loadCells, loadCellsFrom, storeCells]
  · -- the elements that come
    have hall : ∃ b o, p = some ⟨b, o, none⟩ ∧ ∃ vs : List Value, vs.length = ys.length ∧ (∀ i u y, vs[i]? = some u → ys[i]? = some y → Rep.vr G w u y ∧ ∀ j u', u.cells[j]? = some u' → w.cell? ⟨b, o + i * Rep.size α + j, none⟩ = some u') := by
      obtain ⟨b, o, v0, rfl, _⟩ := hy.get (i := 0) h0
      refine ⟨b, o, rfl, ?_⟩
      have hch : ∀ i, i < ys.length → ∃ u, ∀ y, ys[i]? = some y → Rep.vr G w u y ∧ ∀ j u', u.cells[j]? = some u' → w.cell? ⟨b, o + i * Rep.size α + j, none⟩ = some u' := by
        intro i hi
        obtain ⟨b', o', u, he, _, _, hv, hc⟩ := hy.get (i := i) (by omega)
        injection he with he
        injection he with he1 he2
        subst he1; subst he2
        exact ⟨u, fun y hy' => by rw [List.getElem?_eq_getElem hi] at hy'; injection hy' with hy'; subst hy'; exact ⟨hv, hc⟩⟩
      have : ∀ n, n ≤ ys.length → ∃ vs : List Value, vs.length = n ∧ ∀ i u y, vs[i]? = some u → ys[i]? = some y → Rep.vr G w u y ∧ ∀ j u', u.cells[j]? = some u' → w.cell? ⟨b, o + i * Rep.size α + j, none⟩ = some u' := by
        intro n
        induction n with
        | zero => exact fun _ => ⟨[], rfl, fun i u y h => by simp at h⟩
        | succ n ih =>
          intro hn
          obtain ⟨vs, hvl, hvs⟩ := ih (by omega)
          obtain ⟨u, hu⟩ := hch n (by omega)
          refine ⟨vs ++ [u], by simp [hvl], fun i u' y h1 h2 => ?_⟩
          by_cases hin : i < n
          · rw [List.getElem?_append_left (by omega)] at h1
            exact hvs i u' y h1 h2
          · rw [List.getElem?_append_right (by omega)] at h1
            have hi0 : i = n := by
              rcases Nat.lt_or_ge n i with h | h
              · rw [List.getElem?_eq_none (by simp; omega)] at h1; cases h1
              · omega
            subst hi0
            simp [hvl] at h1
            subst h1
            exact hu y h2
      exact this ys.length (Nat.le_refl _)
    obtain ⟨b, o, rfl, vs, hvl, hvs⟩ := hall
    obtain ⟨us, hul, hu, ho⟩ := h
    have hcs := Own.elem (F := G) (w := w) hvl fun i u x h1 h2 => (hvs i u x h1 h2).1
    have hus := Own.elem hul hu
    have hsp := Rep.pos (α := α)
    have hnews : ∀ j u, (vs.flatMap fun u => u.cells.toList)[j]? = some u → w.cell? ((⟨b, o, none⟩ : Addr).add j) = some u := by
      intro j u hj
      have hjl : j < vs.length * Rep.size α := by rw [← flat_length hcs]; exact (List.getElem?_eq_some_iff.1 hj).1
      have hij : j / Rep.size α < vs.length := by rw [Nat.div_lt_iff_lt_mul hsp]; exact hjl
      have hjm := Nat.mod_lt j hsp
      have hdm := Nat.div_add_mod j (Rep.size α)
      have hv := List.getElem?_eq_getElem hij
      have hsz := hcs _ (List.getElem_mem hij)
      have hc : (vs[j / Rep.size α]).cells[j % Rep.size α]? = some ((vs[j / Rep.size α]).cells[j % Rep.size α]'(by omega)) := Array.getElem?_eq_getElem _
      have hf := flat_get hcs _ _ _ _ hv hc
      rw [show j / Rep.size α * Rep.size α + j % Rep.size α = j by rw [Nat.mul_comm]; exact hdm, hj] at hf
      injection hf with hf
      subst hf
      have h2 := (hvs _ _ _ hv (List.getElem?_eq_getElem (by omega))).2 _ _ hc
      have ha : (⟨b, o, none⟩ : Addr).add j = ⟨b, o + j / Rep.size α * Rep.size α + j % Rep.size α, none⟩ := by
        rw [Nat.add_assoc, show j / Rep.size α * Rep.size α + j % Rep.size α = j by rw [Nat.mul_comm]; exact hdm]
        unfold Addr.add; split <;> simp_all
      rw [ha]; exact h2
    have h1 : ∀ u ∈ (vs.flatMap fun u => u.cells.toList), u.oneCell' = true := by
      intro u hu'
      obtain ⟨a, ha, hua⟩ := List.mem_flatMap.1 hu'
      obtain ⟨i, hi, rfl⟩ := List.mem_iff_getElem.1 ha
      exact Rep.one (hvs i _ _ (List.getElem?_eq_getElem hi) (List.getElem?_eq_getElem (by omega))).1 u hua
    obtain ⟨v', w', hr, h2, h3, _, h5⟩ := run_append_own_at (P := P) w B t ty e i0 z (Rep.size α) bytes ht hi hz0 hz1 hz2 hz hsp v xs.length _ ho ⟨b, o, none⟩ m c _
      (by rw [flat_length hcs, hvl, hym]) hnews h1 (by unfold maxLen; omega) hl hB
    refine ⟨v', w', hr, ⟨us ++ vs, by simp [hul, hvl], ?_, ?_⟩, h3, h5⟩
    · intro i u x hx1 hx2
      have agree : ∀ {H : Blks} {u : Value} {x : α}, Rep.vr H w u x → (∀ b, H b → v.ownBlock ≠ some b) → Rep.vr (fun b => H b ∧ v'.ownBlock ≠ some b) w' u x := by
        intro H u x hv hne
        refine Rep.keep (w := w) (fun k hk => ?_) (Rep.mono (G := fun b => (H b ∧ b < w.heap.size) ∧ v'.ownBlock ≠ some b) ?_ (Rep.lt hv)) |> Rep.mono fun b hb => ⟨hb.1.1, hb.2⟩
        · exact h3.block k hk.1.2 fun e => hne k hk.1.1 e.symm
        · intro k hk
          refine ⟨hk, fun e => ?_⟩
          rcases h5 with h5 | h5
          · exact hne k hk.1 (h5.symm.trans e)
          · rw [h5] at e; injection e with e; omega
      by_cases hi' : i < us.length
      · rw [List.getElem?_append_left hi'] at hx1
        rw [List.getElem?_append_left (by omega)] at hx2
        exact Rep.mono (fun b hb => ⟨.inl hb.1.1, hb.2⟩) (agree (hu i u x hx1 hx2) fun b hb => hb.2)
      · rw [List.getElem?_append_right (by omega)] at hx1
        rw [List.getElem?_append_right (by omega), ← hul] at hx2
        exact Rep.mono (fun b hb => ⟨.inr hb.1, hb.2⟩) (agree (hvs _ u x hx1 hx2).1 hG)
    · rw [List.flatMap_append, List.length_append, hym]
      exact h2
end
instance : Flat Int := ⟨fun h => h⟩
instance : Flat UInt8 := ⟨fun h => h⟩
instance : Flat Bool := ⟨fun h => h⟩
instance : Flat ByteArray := ⟨fun h => h⟩
end Go.Proofs.Ytpmdkmpmpjdglaa
