/- The Reader's Text and Op at what a Writer wrote. -/
import Derived.Test.YtpmdkmpmpjdglaaRRow
import Derived.Deep.RegionHeld3
import Derived.Deep.DrawnRows
set_option linter.unusedSimpArgs false
set_option linter.unusedVariables false
namespace Go.Proofs.Ytpmdkmpmpjdglaa
open Go Go.RowKit
open Rep (vr)

set_option maxRecDepth 100000 in
set_option maxHeartbeats 400000 in
theorem RText_at {F X : Blks} {w : World} {g : Nat} {bs : List UInt8} {a : Nat} {s : ByteArray} (h : Rd F X w g bs a) (hl : bs.length ≤ 1000000000) (hh : Here bs a (textB s)) (hs24 : s.size ≤ 24) :
    Calls Try.prog 70 #[.pointer (some ⟨g, 0, none⟩)] w fun e w' => e = .returned (.string s) ∧ Rd F X w' g bs (a + 1 + s.size) ∧ Mod X w w' := by
  obtain ⟨hold, hoff, hsub, p, c, T, hg, hs⟩ := h
  have hgl := heap_lt hg
  have f0 : ∀ w', Below w.heap.size w w' → w'.cell? ⟨g, 0, none⟩ = some (.slice p bs.length c) := fun w' hb => cell_later hb (heap_cell hg)
  have f1 : ∀ w', Below w.heap.size w w' → w'.cell? ⟨g, 1, none⟩ = some (.int .i64 (a : Nat)) := fun w' hb => cell_later hb (heap_cell hg)
  have HG := Lib.hid hg; have HS := Lib.hid hs; have HH := Lib.hid hh
  clear hs hg hh
  go_enter Try.func70, Try.ntmps70
  go_wp2
  refine wp_flowL 16 [(8, .exact [] (.tuple #[.string s, .int .i64 (a + 1 + s.size : Nat), .int .i64 0]))] (by kernel_rfl) (by kernel_rfl) ?_ ?_
  · trivial
  repeat (first
    | (refine Flow.skip_ rfl ?_; simp only [Act.put, List.setIfInBounds_toArray, List.set_cons_zero, List.set_cons_succ, Nat.reduceAdd])
    | (refine Flow.pure_ (v := ?_) rfl rfl ?_ ?_; rotate_left; focus (intro w hb; go_simp; try with_reducible rfl)
       simp only [Act.put, List.setIfInBounds_toArray, List.set_cons_zero, List.set_cons_succ, Nat.reduceAdd]))
  refine Flow.exact_ rfl rfl ?_ ?_
  · intro wf hb hk
    (try simp only [holdsF, lookF, lookV, List.map_cons, List.map_nil, List.headD_cons, List.getD_cons_zero, List.getD_cons_succ, Nat.reduceEqDiff, Nat.reduceAdd, ↓reduceIte, and_true] at hk ⊢)
    skip
    go_simp
    exact (GetText_ok (HS.out.grow hb) hl HH.out hs24).mono fun e w' ⟨he, hw⟩ => ⟨_, he, rfl, hw ▸ Below.refl _ _⟩
  simp only [Act.put, List.setIfInBounds_toArray, List.set_cons_zero, List.set_cons_succ, Nat.reduceAdd]
  repeat (first
    | (refine Flow.skip_ rfl ?_; simp only [Act.put, List.setIfInBounds_toArray, List.set_cons_zero, List.set_cons_succ, Nat.reduceAdd])
    | (refine Flow.pure_ (v := ?_) rfl rfl ?_ ?_; rotate_left; focus (intro w hb; go_simp; try with_reducible rfl)
       simp only [Act.put, List.setIfInBounds_toArray, List.set_cons_zero, List.set_cons_succ, Nat.reduceAdd]))
  refine Flow.done_ (fun w1 hb1 hk => ?_)
  have hg1 : w1.heap[g]? = some (.cells #[.slice p bs.length c, .int .i64 (a : Nat), .bool false] T (0, 0)) := (hb1.block g hgl).trans HG.out
  have e0 : w1.cell? ⟨g, 0, none⟩ = some (.slice p bs.length c) := heap_cell hg1
  have e1 : w1.cell? ⟨g, 1, none⟩ = some (.int .i64 (a : Nat)) := heap_cell hg1
  have e2 : w1.cell? ⟨g, 2, none⟩ = some (.bool false) := heap_cell hg1
  have ef : ∀ o, w1.frozen? ⟨g, o, none⟩ = false := fun o => heap_frozen hg1
  have HG1 := Lib.hid hg1
  clear f0 f1 hg1
  go_wp2
  go_ret
  have hM : Mod X w w1 := Mod.of_below hb1 hold
  refine ⟨rfl, ⟨fun b hb => Nat.lt_of_lt_of_le (hold b hb) (hM.setCell (p := ⟨g, 1, none⟩) hoff _).size, hoff, hsub, p, c, T, ?_, ?_⟩, hM.setCell hoff _⟩
  · have := heap_set (i := 1) (u := .int .i64 ((a : Int) + 1 + (s.size : Int))) HG1.out
    simpa using this
  · exact (HS.out.grow hb1).keep (fun b hb => Below.heap_setCell _ _ _ _ fun e => hoff ((show b = g from e) ▸ hsub b hb))

/-! ### a Reader that keeps off all that stood, but its own block -/
def OldX (w : World) (g : Nat) : Blks := fun b => b < w.heap.size ∧ b ≠ g
theorem Rd.full {F X : Blks} {w : World} {g : Nat} {bs : List UInt8} {a : Nat} (h : Rd F X w g bs a) : Rd F (OldX w g) w g bs a :=
  ⟨fun b hb => hb.1, fun hb => hb.2 rfl, fun b hb => ⟨h.old b (h.sub b hb), fun e => h.off (e ▸ h.sub b hb)⟩, h.form⟩
theorem Mod.old {w w1 w2 : World} {g : Nat} (h : Mod (OldX w g) w w1) (k : Mod (OldX w1 g) w1 w2) : Mod (OldX w g) w w2 :=
  h.trans (k.mono fun b hb => ⟨Nat.lt_of_lt_of_le hb.1 h.size, hb.2⟩)
theorem Mod.oldB {w w1 : World} {g : Nat} (h : Below w.heap.size w w1) : Mod (OldX w g) w w1 := Mod.of_below h fun b hb => hb.1
theorem Own.mod {α : Type} [Rep α] {e : TypeId} {B : Nat} {w w' : World} {v : Value} {xs : List α} {g : Nat} (h : Own e B noB w v xs) (hm : Mod (OldX w g) w w') (hg : g < B) : Own e B noB w' v xs :=
  h.keep (fun b hb => hb.elim) fun k hk => hm.agree k ⟨(h.block k hk).2, by have := (h.block k hk).1; omega⟩
theorem Sl.modO {α : Type} [Rep α] {F : Blks} {p : Option Addr} {n c : Nat} {w w' : World} {xs : List α} {g : Nat} (h : Sl F w p n c xs) (hm : Mod (OldX w g) w w') (hg : ¬ F g) : Sl F w' p n c xs :=
  (h.lt.keep fun b hb => hm.agree b ⟨hb.2, fun e => hg (e ▸ hb.1)⟩).mono fun b hb => hb.1

theorem Rd.put {F X : Blks} {w : World} {g : Nat} {bs : List UInt8} {a : Nat} (h : Rd F X w g bs a) (a' : Nat) : Rd F X (w.setCell ⟨g, 1, none⟩ (.int .i64 (a' : Nat))) g bs a' := by
  obtain ⟨p, c, T, hg, hs⟩ := h.form
  refine ⟨fun b hb => by simpa [World.setCell] using h.old b hb, h.off, h.sub, p, c, T, ?_, hs.keep (fun b hb => Below.heap_setCell _ _ _ _ fun e => h.off ((show b = g from e) ▸ h.sub b hb))⟩
  have := heap_set (i := 1) (u := .int .i64 (a' : Nat)) hg
  simpa using this
theorem Rd.only {F X : Blks} {w : World} {g : Nat} {bs : List UInt8} {a : Nat} (h : Rd F X w g bs a) : Rd F F w g bs a := h.less (fun b hb => h.sub b hb) fun b hb => hb
def dotB (d : Dot) : List UInt8 := be d.peer 1 ++ be d.n 4
def stampB (s : Stamp) : List UInt8 := be s.phys 6 ++ (be s.logic 3 ++ be s.peer 1)
def numsB (l : List Int) : List UInt8 := be l.length 1 ++ intsB l
def opB (x : Opn) : List UInt8 :=
  be x.kind 1 ++ (dotB x.dot ++ (numsB x.deps ++ (stampB x.stamp ++ (be x.table 1 ++ (textB x.key ++ (be x.col 1 ++ (rowB x.vals ++ (be x.dots.length 1 ++ x.dots.flatMap dotB))))))))
structure DotFits (d : Dot) : Prop where
  peer : fitsN d.peer 1 = true
  n : fitsN d.n 4 = true
structure StampFits (s : Stamp) : Prop where
  phys : fitsN s.phys 6 = true
  logic : fitsN s.logic 3 = true
  peer : fitsN s.peer 1 = true
structure NumsFit (l : List Int) : Prop where
  len : l.length ≤ 5
  all : ∀ x ∈ l, fitsN x 4 = true
structure OpFits (x : Opn) : Prop where
  kind : fitsN x.kind 1 = true
  dot : DotFits x.dot
  deps : NumsFit x.deps
  stamp : StampFits x.stamp
  table : fitsN x.table 1 = true
  key : x.key.size ≤ 24
  col : fitsN x.col 1 = true
  vals : rowOk x.vals = true
  len : x.dots.length ≤ 64
  dots : ∀ d ∈ x.dots, DotFits d
theorem dotB_len (d : Dot) : (dotB d).length = 5 := by unfold dotB; rw [List.length_append, be_length, be_length]
theorem stampB_len (s : Stamp) : (stampB s).length = 10 := by unfold stampB; simp [be_length]
theorem numsB_len (l : List Int) : (numsB l).length = 1 + 4 * l.length := by unfold numsB; rw [List.length_append, be_length, intsB_len]
theorem dotsB_len (l : List Dot) : (l.flatMap dotB).length = 5 * l.length := by
  induction l with
  | nil => rfl
  | cons d l ih => rw [List.flatMap_cons, List.length_append, dotB_len, ih, List.length_cons]; omega

section
variable {F : Blks} {w : World} {g : Nat} {bs : List UInt8} {a : Nat}
theorem ONum {k : Nat} {x : Int} (h : Rd F (OldX w g) w g bs a) (hl : bs.length ≤ 1000000000) (hs1 : 1 ≤ k) (hs2 : k ≤ 7) (hh : Here bs a (be x k)) (hf : fitsN x k = true) :
    Calls Try.prog 42 #[.pointer (some ⟨g, 0, none⟩), .int .i64 k] w fun e w' => e = .returned (.int .i64 x) ∧ Rd F (OldX w' g) w' g bs (a + k) ∧ Mod (OldX w g) w w' :=
  (RNum_at h hl hs1 hs2 hh hf).mono fun _ _ ⟨he, hr, hm⟩ => ⟨he, hr.full, hm⟩
theorem ODot {x : Dot} (h : Rd F (OldX w g) w g bs a) (hl : bs.length ≤ 1000000000) (hh : Here bs a (dotB x)) (hf : DotFits x) :
    Calls Try.prog 68 #[.pointer (some ⟨g, 0, none⟩)] w fun e w' => e = .returned (.agg #[.int .i64 x.peer, .int .i64 x.n]) ∧ Rd F (OldX w' g) w' g bs (a + 5) ∧ Mod (OldX w g) w w' :=
  (RDot_at h hl hh hf.peer hf.n).mono fun _ _ ⟨he, hr, hm⟩ => ⟨he, hr.full, hm⟩
theorem OStamp {x : Stamp} (h : Rd F (OldX w g) w g bs a) (hl : bs.length ≤ 1000000000) (hh : Here bs a (stampB x)) (hf : StampFits x) :
    Calls Try.prog 69 #[.pointer (some ⟨g, 0, none⟩)] w fun e w' => e = .returned (.agg #[.int .i64 x.phys, .int .i64 x.logic, .int .i64 x.peer]) ∧ Rd F (OldX w' g) w' g bs (a + 10) ∧ Mod (OldX w g) w w' :=
  (RStamp_at h hl hh hf.phys hf.logic hf.peer).mono fun _ _ ⟨he, hr, hm⟩ => ⟨he, hr.full, hm⟩
theorem OText {x : ByteArray} (h : Rd F (OldX w g) w g bs a) (hl : bs.length ≤ 1000000000) (hh : Here bs a (textB x)) (hf : x.size ≤ 24) :
    Calls Try.prog 70 #[.pointer (some ⟨g, 0, none⟩)] w fun e w' => e = .returned (.string x) ∧ Rd F (OldX w' g) w' g bs (a + 1 + x.size) ∧ Mod (OldX w g) w w' :=
  (RText_at h hl hh hf).mono fun _ _ ⟨he, hr, hm⟩ => ⟨he, hr.full, hm⟩
theorem OMany {x most : Int} (h : Rd F (OldX w g) w g bs a) (hl : bs.length ≤ 1000000000) (hh : Here bs a (be x 1)) (hf : fitsN x 1 = true) (hm : x ≤ most) :
    Calls Try.prog 67 #[.pointer (some ⟨g, 0, none⟩), .int .i64 1, .int .i64 most] w fun e w' => e = .returned (.int .i64 x) ∧ Rd F (OldX w' g) w' g bs (a + 1) ∧ Mod (OldX w g) w w' :=
  (RMany_at h hl hh hf hm).mono fun _ _ ⟨he, hr, hm⟩ => ⟨he, hr.full, hm⟩
theorem ONums {l : List Int} (h : Rd F (OldX w g) w g bs a) (hg : g < w.heap.size) (hl : bs.length ≤ 1000000000) (hh : Here bs a (numsB l)) (hf : NumsFit l) :
    Calls Try.prog 43 #[.pointer (some ⟨g, 0, none⟩)] w fun e w' => ∃ v, e = .returned v ∧ Own 3 w.heap.size noB w' v l ∧ Rd F (OldX w' g) w' g bs (a + 1 + 4 * l.length) ∧ Mod (OldX w g) w w' :=
  (RNums_at h hg hl hh hf.len hf.all).mono fun _ _ ⟨v, he, ho, hr, hm⟩ => ⟨v, he, ho, hr.full, hm⟩
end

/-- append at a step of a region that draws its order. -/
theorem step_append_Own {α : Type} [Rep α] {P : Program} {ops : Array Oper} {o : Oper} {a : Act} {K : Act → World → Prop} {Q : Exit → Act → World → Prop} {E : Prop} {F G : Blks} {w : World} {e t : TypeId} {B : Nat} {v z : Value} {xs : List α} {bytes : Nat}
    (hgd : o.guard = none) (s x : Operand) (ho : o.op = .call { callee := .builtin .append, args := #[s, x], argTypes := #[t, t] })
    (ht : P.underlying t = some (.slice e)) (hinfo : (P.info? e).map (fun i => (i.zero, i.size, i.bytes)) = some (some z, Rep.size α, bytes)) (hz : z.cells.size = Rep.size α) (hb0 : 0 < bytes)
    (hs : a.eval s = v) {p : Option Addr} {m c : Nat} (hx : a.eval x = .slice p m c)
    (h : Own e B F w v xs) {ys : List α} (hy : Sl G w p m c ys) (hG : ∀ b, G b → v.ownBlock ≠ some b) (hB : B ≤ w.heap.size) (hl : (xs.length + m) * bytes ≤ 140737488355328)
    (Kk : ∀ v' w', Own e B (fun b => F b ∨ G b) w' v' (xs ++ ys) → w.grownBy w' v.ownBlock → (v'.ownBlock = v.ownBlock ∨ v'.ownBlock = some w.heap.size) → K (a.put o.dst v') w') :
    if Region.wanted o (yielded ops a.tmps) = true then Oper.wp P o a w K Q else E := by
  have hw : Region.wanted o (yielded ops a.tmps) = true := by simp [Region.wanted, hgd]
  rw [if_pos hw]
  obtain ⟨v', w', hr, h1, h2, h3⟩ := run_append_Own (ty := o.type) ht hinfo hz hb0 h hy hG hB hl
  unfold Oper.wp execOp
  simp only [ho, resolve, invoke, builtin, Sem.run_bind, Sem.run_pure, Result.andThen_ok, List.map_toArray, List.map_cons, List.map_nil, hs, hx, hr]
  exact Kk v' w' h1 h2 h3
/-- Any operation, at such a step. -/
theorem step_gives {P : Program} {ops : Array Oper} {o : Oper} {a : Act} {K : Act → World → Prop} {Q : Exit → Act → World → Prop} {E : Prop} {w : World} {R : Value → World → Prop}
    (hgd : o.guard = none) (h : Oper.gives P o a w R) (hK : ∀ r w', R r w' → K (a.put o.dst r) w') :
    if Region.wanted o (yielded ops a.tmps) = true then Oper.wp P o a w K Q else E := by
  have hw : Region.wanted o (yielded ops a.tmps) = true := by simp [Region.wanted, hgd]
  rw [if_pos hw]
  unfold Oper.gives at h
  unfold Oper.wp
  generalize (execOp a.eval o).run P w = r at *
  cases r with
  | ok n w' =>
    cases n <;> simp only [givesR] at h <;> simp only [Oper.upon]
    case value v => exact hK _ _ h
    case skip => exact hK _ _ h
    case enter f args => exact Calls.mono h fun e w'' ⟨v, he, hR⟩ => by subst he; exact hK _ _ hR
    case row row args => exact Rows.mono h fun v w'' hR => hK _ _ hR
  | halt x w' => simp only [givesR] at h
theorem sl_dot {F : Blks} {W : World} {x : Dot} {g : Nat} (hx : I64 x.peer ∧ I64 x.n) (hg : g = W.heap.size) (hF : F g) : Sl F (W.alloc (.cells #[.int .i64 x.peer, .int .i64 x.n] 70)) (some ⟨g, 0, none⟩) 1 1 [x] := by
  subst hg
  exact Sl.lit (α := Dot) (xs := [x]) (t := 70) (fz := (0, 0)) (heap_alloc_new _ _) [.agg #[.int .i64 x.peer, .int .i64 x.n]] rfl rfl (elems1 ⟨rfl, hx⟩) hF (by simp)
theorem i64_of_fits {x : Int} {k : Nat} (h : fitsN x k = true) (hk : k ≤ 7) : I64 x := by
  unfold fitsN at h
  simp only [Bool.and_eq_true, decide_eq_true_eq] at h
  have h2 : (2 : Int) ^ (8 * k) ≤ 2 ^ 56 := by
    have : (2 : Nat) ^ (8 * k) ≤ 2 ^ 56 := Nat.pow_le_pow_right (by decide) (by omega)
    exact_mod_cast this
  have h3 : (2 : Int) ^ 56 = 72057594037927936 := by decide
  exact ⟨by omega, by omega⟩
end Go.Proofs.Ytpmdkmpmpjdglaa
