/- op's Writer: what it writes, or that it could not. What is protected (X) stays. -/
import Derived.Test.YtpmdkmpmpjdglaaWire
set_option linter.unusedSimpArgs false
set_option linter.unusedVariables false
namespace Go.Proofs.Ytpmdkmpmpjdglaa
open Go Go.RowKit
open Rep (vr)

/-- The world has grown, and what lies in X is as it was. -/
structure Mod (X : Blks) (w w' : World) : Prop where
  os : w'.os = w.os
  tape : w'.tape = w.tape
  output : w'.output = w.output
  size : w.heap.size ≤ w'.heap.size
  agree : Agree X w w'
theorem Mod.refl (X : Blks) (w : World) : Mod X w w := ⟨rfl, rfl, rfl, Nat.le_refl _, fun _ _ => rfl⟩
theorem Mod.trans {X : Blks} {a b c : World} (h : Mod X a b) (k : Mod X b c) : Mod X a c :=
  ⟨k.os.trans h.os, k.tape.trans h.tape, k.output.trans h.output, Nat.le_trans h.size k.size, h.agree.trans k.agree⟩
theorem Mod.mono {X Y : Blks} {w w' : World} (h : Mod X w w') (hY : ∀ b, Y b → X b) : Mod Y w w' := ⟨h.os, h.tape, h.output, h.size, fun b hb => h.agree b (hY b hb)⟩
theorem Mod.of_below {X : Blks} {w w' : World} (h : Below w.heap.size w w') (hX : ∀ b, X b → b < w.heap.size) : Mod X w w' := ⟨h.os, h.tape, h.output, h.size, agree_below h hX⟩
theorem Mod.below {X : Blks} {w w' : World} {B : Nat} (h : Mod X w w') (hX : ∀ b, b < B → X b) : Below B w w' := ⟨h.os, h.tape, h.output, h.size, fun b hb => h.agree b (hX b hb)⟩
theorem Mod.cell {X : Blks} {w w' : World} (h : Mod X w w') {b o : Nat} {u : Value} (hb : X b) (hc : w.cell? ⟨b, o, none⟩ = some u) : w'.cell? ⟨b, o, none⟩ = some u := cell_agree (h.agree b hb) hc
theorem Mod.frozen {X : Blks} {w w' : World} (h : Mod X w w') {b : Nat} (hb : X b) (o : Nat) : w'.frozen? ⟨b, o, none⟩ = w.frozen? ⟨b, o, none⟩ := World.frozen?_of_block (h.agree b hb)
theorem Mod.grown {X : Blks} {a w w' : World} {row : Option Nat} (h : Mod X a w) (hg : w.grownBy w' row) (hX : ∀ b, X b → b < w.heap.size) (hr : ∀ k, row = some k → ¬ X k) : Mod X a w' :=
  h.trans ⟨hg.os, hg.tape, hg.output, hg.size, fun b hb => hg.block b (hX b hb) fun e => hr b e.symm hb⟩
theorem Mod.setCell {X : Blks} {a w : World} (h : Mod X a w) {p : Addr} (hp : ¬ X p.block) (u : Value) : Mod X a (w.setCell p u) :=
  h.trans ⟨rfl, rfl, rfl, by simp [World.setCell], fun b hb => Below.heap_setCell w p u b fun e => hp (e ▸ hb)⟩
theorem Mod.drew {X : Blks} {a w : World} (h : Mod X a w) : Mod X a w.drew := ⟨h.os, h.tape, h.output, h.size, h.agree⟩
theorem Mod.drewN {X : Blks} {a w : World} (h : Mod X a w) (n : Nat) : Mod X a (w.drewN n) := ⟨h.os, h.tape, h.output, h.size, h.agree⟩
theorem Mod.alloc {X : Blks} {a w : World} (h : Mod X a w) (hX : ∀ b, X b → b < w.heap.size) (o : Obj) : Mod X a (w.alloc o) := h.trans (Mod.of_below (al1 w o) hX)

/-- Block g is a Writer: it has written bs; bad: something could not be written. X: what it keeps off. -/
structure Wr (X : Blks) (w : World) (g : Nat) (bs : List UInt8) (bad : Bool) : Prop where
  old : ∀ b, X b → b < w.heap.size
  off : ¬ X g
  form : ∃ p n c T, w.heap[g]? = some (.cells #[.slice p n c, .bool bad] T (0, 0)) ∧ Own 5 0 noB w (.slice p n c) bs ∧ (∀ k, (Value.slice p n c).ownBlock = some k → ¬ X k ∧ k ≠ g)

theorem heap_set {w : World} {g i : Nat} {u : Value} {cs : Array Value} {T : TypeId} (h : w.heap[g]? = some (.cells cs T (0, 0))) : (w.setCell ⟨g, i, none⟩ u).heap[g]? = some (.cells (cs.setIfInBounds i u) T (0, 0)) := by
  simp [World.setCell, Array.getElem?_modify, h]
theorem heap_lt {w : World} {g : Nat} {o : Obj} (h : w.heap[g]? = some o) : g < w.heap.size := (Array.getElem?_eq_some_iff.1 h).1
theorem heap_cell {w : World} {g i : Nat} {cs : Array Value} {T : TypeId} (h : w.heap[g]? = some (.cells cs T (0, 0))) : w.cell? ⟨g, i, none⟩ = cs[i]? := cell_of_row w g i cs T (0, 0) h
theorem heap_frozen {w : World} {g i : Nat} {cs : Array Value} {T : TypeId} (h : w.heap[g]? = some (.cells cs T (0, 0))) : w.frozen? ⟨g, i, none⟩ = false := by simp [World.frozen?, h]

theorem Wr.grow {X : Blks} {w w' : World} {g : Nat} {bs : List UInt8} {bad : Bool} (h : Wr X w g bs bad) (hb : Below w.heap.size w w') : Wr X w' g bs bad := by
  obtain ⟨p, n, c, T, hg, ho, hv⟩ := h.form
  exact ⟨fun b hx => Nat.lt_of_lt_of_le (h.old b hx) hb.size, h.off, p, n, c, T, (hb.block g (heap_lt hg)).trans hg, ho.grow hb, hv⟩
/-- More is kept off: what lies neither in the Writer nor in its row. -/
theorem Wr.more {X Y : Blks} {w w' : World} {g : Nat} {bs : List UInt8} {bad : Bool} (h : Wr X w g bs bad) (hb : Below w.heap.size w w') (hY : ∀ b, Y b → X b ∨ (w.heap.size ≤ b ∧ b < w'.heap.size)) : Wr Y w' g bs bad := by
  obtain ⟨p, n, c, T, hg, ho, hv⟩ := h.form
  have hgl := heap_lt hg
  refine ⟨fun b hy => ?_, fun hy => ?_, p, n, c, T, (hb.block g hgl).trans hg, ho.grow hb, fun k hk => ⟨fun hy => ?_, (hv k hk).2⟩⟩
  · rcases hY b hy with hx | hx
    · exact Nat.lt_of_lt_of_le (h.old b hx) hb.size
    · exact hx.2
  · rcases hY g hy with hx | hx
    · exact h.off hx
    · omega
  · rcases hY k hy with hx | hx
    · exact (hv k hk).1 hx
    · have := (ho.block k hk).2; omega
theorem Wr.less {X Y : Blks} {w : World} {g : Nat} {bs : List UInt8} {bad : Bool} (h : Wr X w g bs bad) (hY : ∀ b, Y b → X b) : Wr Y w g bs bad := by
  obtain ⟨p, n, c, T, hg, ho, hv⟩ := h.form
  exact ⟨fun b hy => h.old b (hY b hy), fun hy => h.off (hY g hy), p, n, c, T, hg, ho, fun k hk => ⟨fun hy => (hv k hk).1 (hY k hy), (hv k hk).2⟩⟩

set_option maxRecDepth 100000 in
set_option maxHeartbeats 400000 in
theorem add_any {X F : Blks} {w : World} {g : Nat} {bs ys : List UInt8} {bad eb : Bool} {p : Option Addr} {n c : Nat} {e0 : Int} (h : Wr X w g bs bad) (hs : Sl F w p n c ys) (hF : ∀ b, F b → X b) (he : (e0 != 0) = eb) (hl : bs.length + n ≤ 1000000000) :
    Calls Try.prog 59 #[.pointer (some ⟨g, 0, none⟩), .slice p n c, .int .i64 e0] w fun e w' => e = .returned (.tuple #[]) ∧ Wr X w' g (bs ++ ys) (bad || eb) ∧ Mod X w w' := by
  obtain ⟨hold, hoff, q, m, d, T, hg, ho, hv⟩ := h
  have hgl := heap_lt hg
  have a0 : w.cell? ⟨g, 0, none⟩ = some (.slice q m d) := heap_cell hg
  have a1 : w.cell? ⟨g, 1, none⟩ = some (.bool bad) := heap_cell hg
  have af : ∀ o, w.frozen? ⟨g, o, none⟩ = false := fun o => heap_frozen hg
  go_enter Try.func59, Try.ntmps59
  have key : ∀ b' : Bool, ∃ W1, W1 = w.setCell ⟨g, 1, none⟩ (.bool b') ∧ W1.heap[g]? = some (.cells #[.slice q m d, .bool b'] T (0, 0)) ∧ Own 5 0 noB W1 (.slice q m d) bs ∧ Sl F W1 p n c ys ∧ Mod X w W1 := fun b' =>
    ⟨_, rfl, by simpa using heap_set (i := 1) (u := .bool b') hg, ho.keep (fun b hb => hb.elim) (fun k hk => Below.heap_setCell _ _ _ _ (hv k hk).2), hs.keep (fun b hb => Below.heap_setCell _ _ _ _ fun e => hoff ((show b = g from e) ▸ hF b hb)), (Mod.refl X w).setCell hoff _⟩
  have hbs : (bs.length + n) * 1 ≤ 140737488355328 := by omega
  have hG : ∀ b, F b → (Value.slice q m d).ownBlock ≠ some b := fun b hb e => (hv b e).1 (hF b hb)
  cases bad
  case false =>
    obtain ⟨W1, hW, hg1, ho1, hs1, hM⟩ := key eb
    have HW := Lib.hid hW; have HL := Lib.hid hbs; have HH := Lib.hid hg1
    clear hW hbs key hl hg hg1 hgl
    go_wp2_with (at_builtin; rw [← HW.out]; refine wpList_append_Own (α := UInt8) rfl (.tmp 21) (.tmp 22) rfl Try.underlying37 (z := .int .u8 0) (bytes := 1) (by kernel_rfl) rfl (by decide) rfl rfl ho1 hs1 hG (Nat.zero_le _) HL.out ?_; intro v' w2 ho2 hgr hat; have hg2 : w2.heap[g]? = some (.cells #[.slice q m d, .bool eb] T (0, 0)) := (hgr.block g (heap_lt HH.out) (fun e => (hv g e.symm).2 rfl)).trans HH.out; have b0 : w2.cell? ⟨g, 0, none⟩ = some (.slice q m d) := heap_cell hg2; have bf : ∀ o, w2.frozen? ⟨g, o, none⟩ = false := fun o => heap_frozen hg2; obtain ⟨q2, d2, hv2, -⟩ := ho2.sl; rw [hv2]; rw [hv2] at ho2 hat; clear hv2)
    go_end0
    have hM2 : Mod X w w2 := hM.grown hgr (fun b hb => Nat.lt_of_lt_of_le (hold b hb) hM.size) (fun k hk => (hv k hk).1)
    have hown : ∀ k, (Value.slice q2 (bs ++ ys).length d2).ownBlock = some k → ¬ X k ∧ k ≠ g := fun k hk => by
      rcases hat with hat | hat
      · exact hv k (hat.symm.trans hk)
      · rw [hat] at hk; injection hk with hk
        have h1 := heap_lt HH.out
        exact ⟨fun hx => by have := hold k hx; have := hM.size; omega, by omega⟩
    refine ⟨rfl, ⟨fun b hb => Nat.lt_of_lt_of_le (hold b hb) (hM2.setCell (p := ⟨g, 0, none⟩) hoff _).size, hoff, q2, _, d2, T, by simpa using heap_set (i := 0) (u := .slice q2 (bs ++ ys).length d2) hg2, ?_, hown⟩, hM2.setCell hoff _⟩
    exact (ho2.flat (G := noB)).keep (fun b hb => hb.elim) (fun k hk => Below.heap_setCell _ _ _ _ (hown k hk).2)
  case true =>
    obtain ⟨W1, hW, hg1, ho1, hs1, hM⟩ := key true
    have HW := Lib.hid hW; have HL := Lib.hid hbs; have HH := Lib.hid hg1
    clear hW hbs key hl hg hg1 hgl he
    go_wp2_with (at_builtin; rw [← HW.out]; refine wpList_append_Own (α := UInt8) rfl (.tmp 21) (.tmp 22) rfl Try.underlying37 (z := .int .u8 0) (bytes := 1) (by kernel_rfl) rfl (by decide) rfl rfl ho1 hs1 hG (Nat.zero_le _) HL.out ?_; intro v' w2 ho2 hgr hat; have hg2 : w2.heap[g]? = some (.cells #[.slice q m d, .bool true] T (0, 0)) := (hgr.block g (heap_lt HH.out) (fun e => (hv g e.symm).2 rfl)).trans HH.out; have b0 : w2.cell? ⟨g, 0, none⟩ = some (.slice q m d) := heap_cell hg2; have bf : ∀ o, w2.frozen? ⟨g, o, none⟩ = false := fun o => heap_frozen hg2; obtain ⟨q2, d2, hv2, -⟩ := ho2.sl; rw [hv2]; rw [hv2] at ho2 hat; clear hv2)
    go_end0
    have hM2 : Mod X w w2 := hM.grown hgr (fun b hb => Nat.lt_of_lt_of_le (hold b hb) hM.size) (fun k hk => (hv k hk).1)
    have hown : ∀ k, (Value.slice q2 (bs ++ ys).length d2).ownBlock = some k → ¬ X k ∧ k ≠ g := fun k hk => by
      rcases hat with hat | hat
      · exact hv k (hat.symm.trans hk)
      · rw [hat] at hk; injection hk with hk
        have h1 := heap_lt HH.out
        exact ⟨fun hx => by have := hold k hx; have := hM.size; omega, by omega⟩
    refine ⟨rfl, ⟨fun b hb => Nat.lt_of_lt_of_le (hold b hb) (hM2.setCell (p := ⟨g, 0, none⟩) hoff _).size, hoff, q2, _, d2, T, by simpa using heap_set (i := 0) (u := .slice q2 (bs ++ ys).length d2) hg2, ?_, hown⟩, hM2.setCell hoff _⟩
    exact (ho2.flat (G := noB)).keep (fun b hb => hb.elim) (fun k hk => Below.heap_setCell _ _ _ _ (hown k hk).2)

/-- A slice of the call's own, as an argument to a call that keeps off what is protected. -/
theorem own_arg {X : Blks} {w w1 : World} {g : Nat} {bs ys : List UInt8} {bad : Bool} {v : Value} (h : Wr X w g bs bad) (hb : Below w.heap.size w w1) (ho : Own 5 w.heap.size noB w1 v ys) :
    ∃ q d, v = .slice q ys.length d ∧ Wr (fun b => X b ∨ (w.heap.size ≤ b ∧ b < w1.heap.size)) w1 g bs bad ∧ Sl (fun b => w.heap.size ≤ b ∧ b < w1.heap.size) w1 q ys.length d ys := by
  obtain ⟨q, d, hv, hs⟩ := ho.sl' (G := fun b => w.heap.size ≤ b ∧ b < w1.heap.size) (fun b hb => hb.elim) (fun b h1 h2 => ⟨h1, h2⟩)
  exact ⟨q, d, hv, h.more hb (fun b hb => hb), hs⟩

set_option maxRecDepth 100000 in
set_option maxHeartbeats 400000 in
theorem Num1 {X : Blks} {w : World} {g : Nat} {s : WS} {x : Int} (h : Wr X w g s.1 s.2) (hl : s.1.length ≤ 900000000) :
    Calls Try.prog 37 #[.pointer (some ⟨g, 0, none⟩), .int .i64 x, .int .i64 1] w fun e w' => e = .returned (.tuple #[]) ∧ Wr X w' g (wNum s x 1).1 (wNum s x 1).2 ∧ Mod X w w' := by
  by_cases hx : 0 ≤ x ∧ x < 256
  · have hf : fitsN x 1 = true := by unfold fitsN; simp only [Nat.reduceMul, Int.reducePow]; simp; omega
    have hw : wNum s x 1 = (s.1 ++ be x 1, s.2) := by unfold wNum; rw [if_pos hf]
    rw [hw]
    have HP := Lib.hid (Put_ok1 (F := noB) (w := w) (Sl.nil noB w none 0 (by simp [maxLen])) (by omega) hx.1 hx.2)
    clear hw hf
    go_enter Try.func37, Try.ntmps37
    go_wp2_with fail
    refine HP.out.mono ?_
    rintro e w1 ⟨v1, rfl, ho, hb⟩
    obtain ⟨q, d, rfl, hW, hs⟩ := own_arg h hb ho
    clear ho
    go_wp2_with fail
    refine (add_any (eb := false) hW hs (fun b hb => .inr hb) (by decide) (by simp [be_length]; omega)).mono ?_
    rintro e w2 ⟨rfl, hW2, hM⟩
    go_wp2
    go_end0
    refine ⟨rfl, ?_, (Mod.of_below hb h.old).trans (hM.mono fun b hb => .inl hb)⟩
    have := hW2.less (Y := X) fun b hb => .inl hb
    simpa using this
  · have hf : fitsN x 1 = false := by unfold fitsN; simp only [Nat.reduceMul, Int.reducePow]; simp; omega
    have hw : wNum s x 1 = (s.1, true) := by unfold wNum; rw [hf]; rfl
    rw [hw]
    have HP := Lib.hid (Put_bad1 (p := none) (n := 0) (c := 0) (w := w) hx)
    clear hw hf
    go_enter Try.func37, Try.ntmps37
    go_wp2_with fail
    refine HP.out.mono ?_
    rintro e w1 ⟨rfl, hb⟩
    go_wp2_with fail
    refine (add_any (eb := true) (ys := []) (h.grow hb) (Sl.nil X w1 none 0 (by simp [maxLen])) (fun b hb => hb) (by decide) (by omega)).mono ?_
    rintro e w2 ⟨rfl, hW2, hM⟩
    go_wp2
    go_end0
    exact ⟨rfl, by simpa using hW2, (Mod.of_below hb h.old).trans hM⟩

set_option maxRecDepth 100000 in
set_option maxHeartbeats 400000 in
theorem Num2 {X : Blks} {w : World} {g : Nat} {s : WS} {x : Int} (h : Wr X w g s.1 s.2) (hl : s.1.length ≤ 900000000) :
    Calls Try.prog 37 #[.pointer (some ⟨g, 0, none⟩), .int .i64 x, .int .i64 2] w fun e w' => e = .returned (.tuple #[]) ∧ Wr X w' g (wNum s x 2).1 (wNum s x 2).2 ∧ Mod X w w' := by
  by_cases hx : 0 ≤ x ∧ x < 65536
  · have hf : fitsN x 2 = true := by unfold fitsN; simp only [Nat.reduceMul, Int.reducePow]; simp; omega
    have hw : wNum s x 2 = (s.1 ++ be x 2, s.2) := by unfold wNum; rw [if_pos hf]
    rw [hw]
    have HP := Lib.hid (Put_ok2 (F := noB) (w := w) (Sl.nil noB w none 0 (by simp [maxLen])) (by omega) hx.1 hx.2)
    clear hw hf
    go_enter Try.func37, Try.ntmps37
    go_wp2_with fail
    refine HP.out.mono ?_
    rintro e w1 ⟨v1, rfl, ho, hb⟩
    obtain ⟨q, d, rfl, hW, hs⟩ := own_arg h hb ho
    clear ho
    go_wp2_with fail
    refine (add_any (eb := false) hW hs (fun b hb => .inr hb) (by decide) (by simp [be_length]; omega)).mono ?_
    rintro e w2 ⟨rfl, hW2, hM⟩
    go_wp2
    go_end0
    refine ⟨rfl, ?_, (Mod.of_below hb h.old).trans (hM.mono fun b hb => .inl hb)⟩
    have := hW2.less (Y := X) fun b hb => .inl hb
    simpa using this
  · have hf : fitsN x 2 = false := by unfold fitsN; simp only [Nat.reduceMul, Int.reducePow]; simp; omega
    have hw : wNum s x 2 = (s.1, true) := by unfold wNum; rw [hf]; rfl
    rw [hw]
    have HP := Lib.hid (Put_bad2 (p := none) (n := 0) (c := 0) (w := w) hx)
    clear hw hf
    go_enter Try.func37, Try.ntmps37
    go_wp2_with fail
    refine HP.out.mono ?_
    rintro e w1 ⟨rfl, hb⟩
    go_wp2_with fail
    refine (add_any (eb := true) (ys := []) (h.grow hb) (Sl.nil X w1 none 0 (by simp [maxLen])) (fun b hb => hb) (by decide) (by omega)).mono ?_
    rintro e w2 ⟨rfl, hW2, hM⟩
    go_wp2
    go_end0
    exact ⟨rfl, by simpa using hW2, (Mod.of_below hb h.old).trans hM⟩

set_option maxRecDepth 100000 in
set_option maxHeartbeats 400000 in
theorem Num3 {X : Blks} {w : World} {g : Nat} {s : WS} {x : Int} (h : Wr X w g s.1 s.2) (hl : s.1.length ≤ 900000000) :
    Calls Try.prog 37 #[.pointer (some ⟨g, 0, none⟩), .int .i64 x, .int .i64 3] w fun e w' => e = .returned (.tuple #[]) ∧ Wr X w' g (wNum s x 3).1 (wNum s x 3).2 ∧ Mod X w w' := by
  by_cases hx : 0 ≤ x ∧ x < 16777216
  · have hf : fitsN x 3 = true := by unfold fitsN; simp only [Nat.reduceMul, Int.reducePow]; simp; omega
    have hw : wNum s x 3 = (s.1 ++ be x 3, s.2) := by unfold wNum; rw [if_pos hf]
    rw [hw]
    have HP := Lib.hid (Put_ok3 (F := noB) (w := w) (Sl.nil noB w none 0 (by simp [maxLen])) (by omega) hx.1 hx.2)
    clear hw hf
    go_enter Try.func37, Try.ntmps37
    go_wp2_with fail
    refine HP.out.mono ?_
    rintro e w1 ⟨v1, rfl, ho, hb⟩
    obtain ⟨q, d, rfl, hW, hs⟩ := own_arg h hb ho
    clear ho
    go_wp2_with fail
    refine (add_any (eb := false) hW hs (fun b hb => .inr hb) (by decide) (by simp [be_length]; omega)).mono ?_
    rintro e w2 ⟨rfl, hW2, hM⟩
    go_wp2
    go_end0
    refine ⟨rfl, ?_, (Mod.of_below hb h.old).trans (hM.mono fun b hb => .inl hb)⟩
    have := hW2.less (Y := X) fun b hb => .inl hb
    simpa using this
  · have hf : fitsN x 3 = false := by unfold fitsN; simp only [Nat.reduceMul, Int.reducePow]; simp; omega
    have hw : wNum s x 3 = (s.1, true) := by unfold wNum; rw [hf]; rfl
    rw [hw]
    have HP := Lib.hid (Put_bad3 (p := none) (n := 0) (c := 0) (w := w) hx)
    clear hw hf
    go_enter Try.func37, Try.ntmps37
    go_wp2_with fail
    refine HP.out.mono ?_
    rintro e w1 ⟨rfl, hb⟩
    go_wp2_with fail
    refine (add_any (eb := true) (ys := []) (h.grow hb) (Sl.nil X w1 none 0 (by simp [maxLen])) (fun b hb => hb) (by decide) (by omega)).mono ?_
    rintro e w2 ⟨rfl, hW2, hM⟩
    go_wp2
    go_end0
    exact ⟨rfl, by simpa using hW2, (Mod.of_below hb h.old).trans hM⟩

set_option maxRecDepth 100000 in
set_option maxHeartbeats 400000 in
theorem Num4 {X : Blks} {w : World} {g : Nat} {s : WS} {x : Int} (h : Wr X w g s.1 s.2) (hl : s.1.length ≤ 900000000) :
    Calls Try.prog 37 #[.pointer (some ⟨g, 0, none⟩), .int .i64 x, .int .i64 4] w fun e w' => e = .returned (.tuple #[]) ∧ Wr X w' g (wNum s x 4).1 (wNum s x 4).2 ∧ Mod X w w' := by
  by_cases hx : 0 ≤ x ∧ x < 4294967296
  · have hf : fitsN x 4 = true := by unfold fitsN; simp only [Nat.reduceMul, Int.reducePow]; simp; omega
    have hw : wNum s x 4 = (s.1 ++ be x 4, s.2) := by unfold wNum; rw [if_pos hf]
    rw [hw]
    have HP := Lib.hid (Put_ok4 (F := noB) (w := w) (Sl.nil noB w none 0 (by simp [maxLen])) (by omega) hx.1 hx.2)
    clear hw hf
    go_enter Try.func37, Try.ntmps37
    go_wp2_with fail
    refine HP.out.mono ?_
    rintro e w1 ⟨v1, rfl, ho, hb⟩
    obtain ⟨q, d, rfl, hW, hs⟩ := own_arg h hb ho
    clear ho
    go_wp2_with fail
    refine (add_any (eb := false) hW hs (fun b hb => .inr hb) (by decide) (by simp [be_length]; omega)).mono ?_
    rintro e w2 ⟨rfl, hW2, hM⟩
    go_wp2
    go_end0
    refine ⟨rfl, ?_, (Mod.of_below hb h.old).trans (hM.mono fun b hb => .inl hb)⟩
    have := hW2.less (Y := X) fun b hb => .inl hb
    simpa using this
  · have hf : fitsN x 4 = false := by unfold fitsN; simp only [Nat.reduceMul, Int.reducePow]; simp; omega
    have hw : wNum s x 4 = (s.1, true) := by unfold wNum; rw [hf]; rfl
    rw [hw]
    have HP := Lib.hid (Put_bad4 (p := none) (n := 0) (c := 0) (w := w) hx)
    clear hw hf
    go_enter Try.func37, Try.ntmps37
    go_wp2_with fail
    refine HP.out.mono ?_
    rintro e w1 ⟨rfl, hb⟩
    go_wp2_with fail
    refine (add_any (eb := true) (ys := []) (h.grow hb) (Sl.nil X w1 none 0 (by simp [maxLen])) (fun b hb => hb) (by decide) (by omega)).mono ?_
    rintro e w2 ⟨rfl, hW2, hM⟩
    go_wp2
    go_end0
    exact ⟨rfl, by simpa using hW2, (Mod.of_below hb h.old).trans hM⟩

set_option maxRecDepth 100000 in
set_option maxHeartbeats 400000 in
theorem Num6 {X : Blks} {w : World} {g : Nat} {s : WS} {x : Int} (h : Wr X w g s.1 s.2) (hl : s.1.length ≤ 900000000) :
    Calls Try.prog 37 #[.pointer (some ⟨g, 0, none⟩), .int .i64 x, .int .i64 6] w fun e w' => e = .returned (.tuple #[]) ∧ Wr X w' g (wNum s x 6).1 (wNum s x 6).2 ∧ Mod X w w' := by
  by_cases hx : 0 ≤ x ∧ x < 281474976710656
  · have hf : fitsN x 6 = true := by unfold fitsN; simp only [Nat.reduceMul, Int.reducePow]; simp; omega
    have hw : wNum s x 6 = (s.1 ++ be x 6, s.2) := by unfold wNum; rw [if_pos hf]
    rw [hw]
    have HP := Lib.hid (Put_ok6 (F := noB) (w := w) (Sl.nil noB w none 0 (by simp [maxLen])) (by omega) hx.1 hx.2)
    clear hw hf
    go_enter Try.func37, Try.ntmps37
    go_wp2_with fail
    refine HP.out.mono ?_
    rintro e w1 ⟨v1, rfl, ho, hb⟩
    obtain ⟨q, d, rfl, hW, hs⟩ := own_arg h hb ho
    clear ho
    go_wp2_with fail
    refine (add_any (eb := false) hW hs (fun b hb => .inr hb) (by decide) (by simp [be_length]; omega)).mono ?_
    rintro e w2 ⟨rfl, hW2, hM⟩
    go_wp2
    go_end0
    refine ⟨rfl, ?_, (Mod.of_below hb h.old).trans (hM.mono fun b hb => .inl hb)⟩
    have := hW2.less (Y := X) fun b hb => .inl hb
    simpa using this
  · have hf : fitsN x 6 = false := by unfold fitsN; simp only [Nat.reduceMul, Int.reducePow]; simp; omega
    have hw : wNum s x 6 = (s.1, true) := by unfold wNum; rw [hf]; rfl
    rw [hw]
    have HP := Lib.hid (Put_bad6 (p := none) (n := 0) (c := 0) (w := w) hx)
    clear hw hf
    go_enter Try.func37, Try.ntmps37
    go_wp2_with fail
    refine HP.out.mono ?_
    rintro e w1 ⟨rfl, hb⟩
    go_wp2_with fail
    refine (add_any (eb := true) (ys := []) (h.grow hb) (Sl.nil X w1 none 0 (by simp [maxLen])) (fun b hb => hb) (by decide) (by omega)).mono ?_
    rintro e w2 ⟨rfl, hW2, hM⟩
    go_wp2
    go_end0
    exact ⟨rfl, by simpa using hW2, (Mod.of_below hb h.old).trans hM⟩

set_option maxRecDepth 100000 in
set_option maxHeartbeats 400000 in
theorem WDot {X F : Blks} {w : World} {g : Nat} {s : WS} {v : Value} {x : Dot} (h : Wr X w g s.1 s.2) (hv : vr F w v x) (hl : s.1.length ≤ 800000000) :
    Calls Try.prog 60 #[.pointer (some ⟨g, 0, none⟩), v] w fun e w' => e = .returned (.tuple #[]) ∧ Wr X w' g (wDot s x).1 (wDot s x).2 ∧ Mod X w w' := by
  obtain ⟨rfl, -⟩ := hv
  have h1 := h.more (Y := fun b => X b ∨ b = w.heap.size) (al1 w (.cells #[.int .i64 x.peer, .int .i64 x.n] 70)) (fun b hb => by
    rcases hb with hb | rfl
    · exact .inl hb
    · exact .inr ⟨Nat.le_refl _, by simp⟩)
  have hlen := wNum_len s x.peer 1
  go_enter Try.func60, Try.ntmps60
  go_wp2_with fail
  refine (Num1 h1 (by omega)).mono ?_
  rintro e w1 ⟨rfl, hW, hM⟩
  have c1 := hM.cell (b := w.heap.size) (o := 1) (u := .int .i64 x.n) (.inr rfl) (by go_simp)
  go_wp2_with fail
  refine (Num4 hW (by omega)).mono ?_
  rintro e w2 ⟨rfl, hW2, hM2⟩
  go_wp2
  go_end0
  exact ⟨rfl, hW2.less fun b hb => .inl hb, (Mod.of_below (al1 w _) h.old).trans ((hM.trans hM2).mono fun b hb => .inl hb)⟩
set_option maxRecDepth 100000 in
set_option maxHeartbeats 400000 in
theorem WStamp {X F : Blks} {w : World} {g : Nat} {s : WS} {v : Value} {x : Stamp} (h : Wr X w g s.1 s.2) (hv : vr F w v x) (hl : s.1.length ≤ 800000000) :
    Calls Try.prog 61 #[.pointer (some ⟨g, 0, none⟩), v] w fun e w' => e = .returned (.tuple #[]) ∧ Wr X w' g (wStamp s x).1 (wStamp s x).2 ∧ Mod X w w' := by
  obtain ⟨rfl, -⟩ := hv
  have h1 := h.more (Y := fun b => X b ∨ b = w.heap.size) (al1 w (.cells #[.int .i64 x.phys, .int .i64 x.logic, .int .i64 x.peer] 72)) (fun b hb => by
    rcases hb with hb | rfl
    · exact .inl hb
    · exact .inr ⟨Nat.le_refl _, by simp⟩)
  have hlen := wNum_len s x.phys 6
  have hlen2 := wNum_len (wNum s x.phys 6) x.logic 3
  go_enter Try.func61, Try.ntmps61
  go_wp2_with fail
  refine (Num6 h1 (by omega)).mono ?_
  rintro e w1 ⟨rfl, hW, hM⟩
  have c1 := hM.cell (b := w.heap.size) (o := 1) (u := .int .i64 x.logic) (.inr rfl) (by go_simp)
  have c2 := hM.cell (b := w.heap.size) (o := 2) (u := .int .i64 x.peer) (.inr rfl) (by go_simp)
  go_wp2_with fail
  refine (Num3 hW (by omega)).mono ?_
  rintro e w2 ⟨rfl, hW2, hM2⟩
  have d2 := hM2.cell (.inr rfl) c2
  go_wp2_with fail
  refine (Num1 hW2 (by omega)).mono ?_
  rintro e w3 ⟨rfl, hW3, hM3⟩
  go_wp2
  go_end0
  exact ⟨rfl, hW3.less fun b hb => .inl hb, (Mod.of_below (al1 w _) h.old).trans (((hM.trans hM2).trans hM3).mono fun b hb => .inl hb)⟩
set_option maxRecDepth 100000 in
set_option maxHeartbeats 400000 in
theorem WNums {X F : Blks} {w : World} {g : Nat} {s : WS} {p : Option Addr} {n c : Nat} {x : List Int} (h : Wr X w g s.1 s.2) (hs : Sl F w p n c x) (hF : ∀ b, F b → X b) (hn : n ≤ 1000000) (hl : s.1.length ≤ 800000000) :
    Calls Try.prog 38 #[.pointer (some ⟨g, 0, none⟩), .slice p n c] w fun e w' => e = .returned (.tuple #[]) ∧ Wr X w' g (wNums s x).1 (wNums s x).2 ∧ Mod X w w' := by
  obtain ⟨q, m, d, T, hg, ho, hv⟩ := h.form
  have a1 : w.cell? ⟨g, 1, none⟩ = some (.bool s.2) := heap_cell hg
  have af : ∀ o, w.frozen? ⟨g, o, none⟩ = false := fun o => heap_frozen hg
  obtain rfl : x.length = n := hs.len
  have hgl := heap_lt hg
  obtain ⟨bs, bad⟩ := s
  have key : ∀ b' : Bool, Wr X (w.setCell ⟨g, 1, none⟩ (.bool b')) g bs b' := fun b' =>
    ⟨fun b hb => by simpa [World.setCell] using h.old b hb, h.off, q, m, d, T, by simpa using heap_set (i := 1) (u := .bool b') hg, ho.keep (fun b hb => hb.elim) (fun k hk => Below.heap_setCell _ _ _ _ (hv k hk).2), hv⟩
  have HM : ∀ b' : Bool, Mod X w (w.setCell ⟨g, 1, none⟩ (.bool b')) := fun b' => (Mod.refl X w).setCell h.off _
  have HS : ∀ b' : Bool, Sl X (w.setCell ⟨g, 1, none⟩ (.bool b')) p x.length c x := fun b' => (hs.mono hF).keep (HM b').agree
  have Hw : wNums (bs, bad) x = wNumsL (wNum (bs, bad || decide (5 < x.length)) x.length 1) x := rfl
  rw [Hw]
  have hcast : decide ((5 : Int) < (x.length : Int)) = decide (5 < x.length) := by
    by_cases h : 5 < x.length
    · rw [decide_eq_true h, decide_eq_true (by omega)]
    · rw [decide_eq_false h, decide_eq_false (by omega)]
  obtain ⟨eb, heb⟩ : ∃ eb : Bool, (bad || decide (5 < x.length)) = eb := ⟨_, rfl⟩
  rw [heb]
  have HL0 := wNum_len (bs, eb) x.length 1
  have hgap : ∀ k, (wNumsL (wNum (bs, eb) x.length 1) (x.take k)).1.length ≤ 900000000 := fun k => by
    have h1 := wNumsL_len (x.take k) (wNum (bs, eb) x.length 1)
    have h2 := List.length_take_le' k x
    simp only at HL0 hl
    omega
  have HG := Lib.hid hgap; have HK := Lib.hid (key eb); have HMM := Lib.hid (HM eb); have HSS := Lib.hid (HS eb)
  have H5 := Lib.hid (wNumsL_take (wNum (bs, eb) x.length 1) x)
  clear h hg ho hv Hw hgap HL0 key HM HS
  go_enter Try.func38, Try.ntmps38
  cases bad
  case' false =>
    have hd : decide ((5 : Int) < (x.length : Int)) = eb := by rw [hcast]; simpa using heb
    clear heb hcast
  case' true =>
    obtain rfl : true = eb := by simpa using heb
    clear hcast heb
  all_goals
    go_wp2_with fail
    refine (Num1 (s := (bs, _)) HK.out (by simp only; omega)).mono ?_
    rintro e w1 ⟨rfl, hW, hM⟩
    have HM1 := Lib.hid (HMM.out.trans hM)
    have HS1 := Lib.hid (HSS.out.keep hM.agree)
    clear HMM HSS HK a1 af hs hM
    go_wp2
    go_loopw [24] (fun i wr => ∃ k : Nat, k ≤ x.length ∧ i = .int .i64 k ∧ Wr X wr g (wNumsL (wNum (bs, _) x.length 1) (x.take k)).1 (wNumsL (wNum (bs, _) x.length 1) (x.take k)).2 ∧ Mod X w1 wr) (fun i _ => x.length - (intOf i).toNat)
    case atStart => exact ⟨0, Nat.zero_le _, rfl, hW, Mod.refl _ _⟩
    case round =>
      obtain ⟨k, hk, rfl, hW', hM'⟩ := hrel
      clear hW
      by_cases hlt : k < x.length
      · obtain ⟨b, o, rfl, _, _, e1, _⟩ := (HS1.out.keep hM'.agree).int hlt
        go_wp2_with fail
        refine (Num4 (s := wNumsL (wNum (bs, _) x.length 1) (x.take k)) hW' (HG.out k)).mono ?_
        rintro e w2 ⟨rfl, hW2, hM2⟩
        clear hW' e1
        go_wp2
        go_roundw
        case rel => exact ⟨k + 1, by omega, by go_num, by rw [H5.out k hlt]; exact hW2, hM'.trans hM2⟩
        case measure => simp [intOf]; omega
      · go_wp2
        go_end0
        rw [show x.take k = x from List.take_of_length_le (by omega)] at hW'
        exact ⟨rfl, hW', HM1.out.trans hM'⟩
end Go.Proofs.Ytpmdkmpmpjdglaa
