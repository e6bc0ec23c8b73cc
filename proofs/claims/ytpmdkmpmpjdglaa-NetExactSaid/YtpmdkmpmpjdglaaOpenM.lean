/- Structs of plain data, opened: values, dots, times, operations, messages. Conditions: none. -/
import Derived.Test.YtpmdkmpmpjdglaaOpen
set_option linter.unusedSimpArgs false
set_option linter.unusedVariables false
namespace Go.Proofs.Ytpmdkmpmpjdglaa
open Go Go.RowKit Go.ChangeShapes Go.WideShapes
open Rep (vr)
theorem list2 {α : Type} {l : List α} (h : l.length = 2) : ∃ a0 a1, l = [a0, a1] := by
  match l, h with
  | [a0, a1], _ => exact ⟨a0, a1, rfl⟩
theorem list6 {α : Type} {l : List α} (h : l.length = 6) : ∃ a0 a1 a2 a3 a4 a5, l = [a0, a1, a2, a3, a4, a5] := by
  match l, h with
  | [a0, a1, a2, a3, a4, a5], _ => exact ⟨a0, a1, a2, a3, a4, a5, rfl⟩
theorem list9 {α : Type} {l : List α} (h : l.length = 9) : ∃ a0 a1 a2 a3 a4 a5 a6 a7 a8, l = [a0, a1, a2, a3, a4, a5, a6, a7, a8] := by
  match l, h with
  | [a0, a1, a2, a3, a4, a5, a6, a7, a8], _ => exact ⟨a0, a1, a2, a3, a4, a5, a6, a7, a8, rfl⟩
theorem list12 {α : Type} {l : List α} (h : l.length = 12) : ∃ a0 a1 a2 a3 a4 a5 a6 a7 a8 a9 a10 a11, l = [a0, a1, a2, a3, a4, a5, a6, a7, a8, a9, a10, a11] := by
  match l, h with
  | [a0, a1, a2, a3, a4, a5, a6, a7, a8, a9, a10, a11], _ => exact ⟨a0, a1, a2, a3, a4, a5, a6, a7, a8, a9, a10, a11, rfl⟩
theorem opens_val {e : TypeId} {f0 f1 f2 : Field} (ht : Try.prog.underlying e = some (.struct #[f0, f1, f2])) (hc : Try.prog.cellsOf e = 3) (a0 : At f0 0 1) (a1 : At f1 1 1) (a2 : At f2 2 1)
    (o0 : Opens Int f0.type) (o1 : Opens Int f1.type) (o2 : Opens ByteArray f2.type) : Opens Val e where
  get {H enc w spare held n cs x} h := by
    obtain ⟨xs, n, _, _, hl, hlen, hf⟩ := DataW.trod_struct ht h
    rw [hc] at hl
    obtain ⟨c0, c1, c2, rfl⟩ := list3 hl
    obtain ⟨x0, x1, x2, rfl⟩ := list3 hlen
    have k0 := hf 0 f0 rfl
    rw [a0.1, a0.2] at k0
    obtain ⟨v0, y0, e0, r0⟩ := o0.get k0
    have k1 := hf 1 f1 rfl
    rw [a1.1, a1.2] at k1
    obtain ⟨v1, y1, e1, r1⟩ := o1.get k1
    have k2 := hf 2 f2 rfl
    rw [a2.1, a2.2] at k2
    obtain ⟨v2, y2, e2, r2⟩ := o2.get k2
    obtain ⟨rfl, i0⟩ := r0
    obtain ⟨rfl, i1⟩ := r1
    obtain ⟨rfl, i2⟩ := r2
    simp [Value.cells] at e0 e1 e2
    subst e0 e1 e2
    exact ⟨.agg #[.int .i64 y0, .int .i64 y1, .string y2], ⟨y0, y1, y2⟩, rfl, rfl, i0, i1, i2⟩
theorem opens_dot {e : TypeId} {f0 f1 : Field} (ht : Try.prog.underlying e = some (.struct #[f0, f1])) (hc : Try.prog.cellsOf e = 2) (a0 : At f0 0 1) (a1 : At f1 1 1)
    (o0 : Opens Int f0.type) (o1 : Opens Int f1.type) : Opens Dot e where
  get {H enc w spare held n cs x} h := by
    obtain ⟨xs, n, _, _, hl, hlen, hf⟩ := DataW.trod_struct ht h
    rw [hc] at hl
    obtain ⟨c0, c1, rfl⟩ := list2 hl
    obtain ⟨x0, x1, rfl⟩ := list2 hlen
    have k0 := hf 0 f0 rfl
    rw [a0.1, a0.2] at k0
    obtain ⟨v0, y0, e0, r0⟩ := o0.get k0
    have k1 := hf 1 f1 rfl
    rw [a1.1, a1.2] at k1
    obtain ⟨v1, y1, e1, r1⟩ := o1.get k1
    obtain ⟨rfl, i0⟩ := r0
    obtain ⟨rfl, i1⟩ := r1
    simp [Value.cells] at e0 e1
    subst e0 e1
    exact ⟨.agg #[.int .i64 y0, .int .i64 y1], ⟨y0, y1⟩, rfl, rfl, i0, i1⟩
theorem opens_stamp {e : TypeId} {f0 f1 f2 : Field} (ht : Try.prog.underlying e = some (.struct #[f0, f1, f2])) (hc : Try.prog.cellsOf e = 3) (a0 : At f0 0 1) (a1 : At f1 1 1) (a2 : At f2 2 1)
    (o0 : Opens Int f0.type) (o1 : Opens Int f1.type) (o2 : Opens Int f2.type) : Opens Stamp e where
  get {H enc w spare held n cs x} h := by
    obtain ⟨xs, n, _, _, hl, hlen, hf⟩ := DataW.trod_struct ht h
    rw [hc] at hl
    obtain ⟨c0, c1, c2, rfl⟩ := list3 hl
    obtain ⟨x0, x1, x2, rfl⟩ := list3 hlen
    have k0 := hf 0 f0 rfl
    rw [a0.1, a0.2] at k0
    obtain ⟨v0, y0, e0, r0⟩ := o0.get k0
    have k1 := hf 1 f1 rfl
    rw [a1.1, a1.2] at k1
    obtain ⟨v1, y1, e1, r1⟩ := o1.get k1
    have k2 := hf 2 f2 rfl
    rw [a2.1, a2.2] at k2
    obtain ⟨v2, y2, e2, r2⟩ := o2.get k2
    obtain ⟨rfl, i0⟩ := r0
    obtain ⟨rfl, i1⟩ := r1
    obtain ⟨rfl, i2⟩ := r2
    simp [Value.cells] at e0 e1 e2
    subst e0 e1 e2
    exact ⟨.agg #[.int .i64 y0, .int .i64 y1, .int .i64 y2], ⟨y0, y1, y2⟩, rfl, rfl, i0, i1, i2⟩
theorem opens_opn {e : TypeId} {f0 f1 f2 f3 f4 f5 f6 f7 f8 : Field} (ht : Try.prog.underlying e = some (.struct #[f0, f1, f2, f3, f4, f5, f6, f7, f8])) (hc : Try.prog.cellsOf e = 12) (a0 : At f0 0 2) (a1 : At f1 2 1) (a2 : At f2 3 3) (a3 : At f3 6 1) (a4 : At f4 7 1) (a5 : At f5 8 1) (a6 : At f6 9 1) (a7 : At f7 10 1) (a8 : At f8 11 1)
    (o0 : Opens Dot f0.type) (o1 : Opens (List Int) f1.type) (o2 : Opens Stamp f2.type) (o3 : Opens Int f3.type) (o4 : Opens Int f4.type) (o5 : Opens ByteArray f5.type) (o6 : Opens Int f6.type) (o7 : Opens (List Val) f7.type) (o8 : Opens (List Dot) f8.type) : Opens Opn e where
  get {H enc w spare held n cs x} h := by
    obtain ⟨xs, n, _, _, hl, hlen, hf⟩ := DataW.trod_struct ht h
    rw [hc] at hl
    obtain ⟨c0, c1, c2, c3, c4, c5, c6, c7, c8, c9, c10, c11, rfl⟩ := list12 hl
    obtain ⟨x0, x1, x2, x3, x4, x5, x6, x7, x8, rfl⟩ := list9 hlen
    have k0 := hf 0 f0 rfl
    rw [a0.1, a0.2] at k0
    obtain ⟨v0, y0, e0, r0⟩ := o0.get k0
    have k1 := hf 1 f1 rfl
    rw [a1.1, a1.2] at k1
    obtain ⟨v1, y1, e1, r1⟩ := o1.get k1
    have k2 := hf 2 f2 rfl
    rw [a2.1, a2.2] at k2
    obtain ⟨v2, y2, e2, r2⟩ := o2.get k2
    have k3 := hf 3 f3 rfl
    rw [a3.1, a3.2] at k3
    obtain ⟨v3, y3, e3, r3⟩ := o3.get k3
    have k4 := hf 4 f4 rfl
    rw [a4.1, a4.2] at k4
    obtain ⟨v4, y4, e4, r4⟩ := o4.get k4
    have k5 := hf 5 f5 rfl
    rw [a5.1, a5.2] at k5
    obtain ⟨v5, y5, e5, r5⟩ := o5.get k5
    have k6 := hf 6 f6 rfl
    rw [a6.1, a6.2] at k6
    obtain ⟨v6, y6, e6, r6⟩ := o6.get k6
    have k7 := hf 7 f7 rfl
    rw [a7.1, a7.2] at k7
    obtain ⟨v7, y7, e7, r7⟩ := o7.get k7
    have k8 := hf 8 f8 rfl
    rw [a8.1, a8.2] at k8
    obtain ⟨v8, y8, e8, r8⟩ := o8.get k8
    obtain ⟨rfl, i0⟩ := r0
    obtain ⟨p1, m1, d1, rfl, s1⟩ := r1
    obtain ⟨rfl, i2⟩ := r2
    obtain ⟨rfl, i3⟩ := r3
    obtain ⟨rfl, i4⟩ := r4
    obtain ⟨rfl, i5⟩ := r5
    obtain ⟨rfl, i6⟩ := r6
    obtain ⟨p7, m7, d7, rfl, s7⟩ := r7
    obtain ⟨p8, m8, d8, rfl, s8⟩ := r8
    simp [Value.cells] at e0 e1 e2 e3 e4 e5 e6 e7 e8
    obtain ⟨e0_0, e0_1⟩ := e0
    obtain ⟨e2_0, e2_1, e2_2⟩ := e2
    subst e0_0 e0_1 e1 e2_0 e2_1 e2_2 e3 e4 e5 e6 e7 e8
    exact ⟨.agg #[.int .i64 y0.peer, .int .i64 y0.n, .slice p1 m1 d1, .int .i64 y2.phys, .int .i64 y2.logic, .int .i64 y2.peer, .int .i64 y3, .int .i64 y4, .string y5, .int .i64 y6, .slice p7 m7 d7, .slice p8 m8 d8], ⟨y0, y1, y2, y3, y4, y5, y6, y7, y8⟩, rfl, p1, m1, d1, p7, m7, d7, p8, m8, d8, rfl, ⟨i0.1, i0.2, i2.1, i2.2.1, i2.2.2, i3, i4, i5, i6⟩, s1, s7, s8⟩
theorem opens_msg {e : TypeId} {f0 f1 f2 f3 f4 f5 : Field} (ht : Try.prog.underlying e = some (.struct #[f0, f1, f2, f3, f4, f5])) (hc : Try.prog.cellsOf e = 6) (a0 : At f0 0 1) (a1 : At f1 1 1) (a2 : At f2 2 1) (a3 : At f3 3 1) (a4 : At f4 4 1) (a5 : At f5 5 1)
    (o0 : Opens Int f0.type) (o1 : Opens Int f1.type) (o2 : Opens Int f2.type) (o3 : Opens (List Int) f3.type) (o4 : Opens (List Int) f4.type) (o5 : Opens (List Opn) f5.type) : Opens Msg e where
  get {H enc w spare held n cs x} h := by
    obtain ⟨xs, n, _, _, hl, hlen, hf⟩ := DataW.trod_struct ht h
    rw [hc] at hl
    obtain ⟨c0, c1, c2, c3, c4, c5, rfl⟩ := list6 hl
    obtain ⟨x0, x1, x2, x3, x4, x5, rfl⟩ := list6 hlen
    have k0 := hf 0 f0 rfl
    rw [a0.1, a0.2] at k0
    obtain ⟨v0, y0, e0, r0⟩ := o0.get k0
    have k1 := hf 1 f1 rfl
    rw [a1.1, a1.2] at k1
    obtain ⟨v1, y1, e1, r1⟩ := o1.get k1
    have k2 := hf 2 f2 rfl
    rw [a2.1, a2.2] at k2
    obtain ⟨v2, y2, e2, r2⟩ := o2.get k2
    have k3 := hf 3 f3 rfl
    rw [a3.1, a3.2] at k3
    obtain ⟨v3, y3, e3, r3⟩ := o3.get k3
    have k4 := hf 4 f4 rfl
    rw [a4.1, a4.2] at k4
    obtain ⟨v4, y4, e4, r4⟩ := o4.get k4
    have k5 := hf 5 f5 rfl
    rw [a5.1, a5.2] at k5
    obtain ⟨v5, y5, e5, r5⟩ := o5.get k5
    obtain ⟨rfl, i0⟩ := r0
    obtain ⟨rfl, i1⟩ := r1
    obtain ⟨rfl, i2⟩ := r2
    obtain ⟨p3, m3, d3, rfl, s3⟩ := r3
    obtain ⟨p4, m4, d4, rfl, s4⟩ := r4
    obtain ⟨p5, m5, d5, rfl, s5⟩ := r5
    simp [Value.cells] at e0 e1 e2 e3 e4 e5
    subst e0 e1 e2 e3 e4 e5
    exact ⟨.agg #[.int .i64 y0, .int .i64 y1, .int .i64 y2, .slice p3 m3 d3, .slice p4 m4 d4, .slice p5 m5 d5], ⟨y0, y1, y2, y3, y4, y5⟩, rfl, p3, m3, d3, p4, m4, d4, p5, m5, d5, rfl, ⟨i0, i1, i2⟩, s3, s4, s5⟩
theorem opensStr : Opens ByteArray 9 := opens_str Try.underlying9
theorem opensVal : Opens Val 127 := opens_val Try.underlying127 (by kernel_rfl) ⟨rfl, by kernel_rfl⟩ ⟨rfl, by kernel_rfl⟩ ⟨rfl, by kernel_rfl⟩ opensInt opensInt opensStr
theorem opensVals : Opens (List Val) 73 := opens_list Try.underlying73 (by kernel_rfl) opensVal
theorem opensDot : Opens Dot 70 := opens_dot Try.underlying70 (by kernel_rfl) ⟨rfl, by kernel_rfl⟩ ⟨rfl, by kernel_rfl⟩ opensInt opensInt
theorem opensDots : Opens (List Dot) 74 := opens_list Try.underlying74 (by kernel_rfl) opensDot
theorem opensStamp : Opens Stamp 72 := opens_stamp Try.underlying72 (by kernel_rfl) ⟨rfl, by kernel_rfl⟩ ⟨rfl, by kernel_rfl⟩ ⟨rfl, by kernel_rfl⟩ opensInt opensInt opensInt
theorem opensOp : Opens Opn 76 := opens_opn Try.underlying76 (by kernel_rfl) ⟨rfl, by kernel_rfl⟩ ⟨rfl, by kernel_rfl⟩ ⟨rfl, by kernel_rfl⟩ ⟨rfl, by kernel_rfl⟩ ⟨rfl, by kernel_rfl⟩ ⟨rfl, by kernel_rfl⟩ ⟨rfl, by kernel_rfl⟩ ⟨rfl, by kernel_rfl⟩ ⟨rfl, by kernel_rfl⟩ opensDot opensInts opensStamp opensInt opensInt opensStr opensInt opensVals opensDots
theorem opensOps : Opens (List Opn) 24 := opens_list Try.underlying24 (by kernel_rfl) opensOp
theorem opensMsg : Opens Msg 26 := opens_msg Try.underlying26 (by kernel_rfl) ⟨rfl, by kernel_rfl⟩ ⟨rfl, by kernel_rfl⟩ ⟨rfl, by kernel_rfl⟩ ⟨rfl, by kernel_rfl⟩ ⟨rfl, by kernel_rfl⟩ ⟨rfl, by kernel_rfl⟩ opensInt opensInt opensInt opensInts opensInts opensOps
theorem opensMsgs : Opens (List Msg) 48 := opens_list Try.underlying48 (by kernel_rfl) opensMsg
/-- A struct that came in. -/
theorem open_one {α : Type} [Rep α] {t : TypeId} (ho : Opens α t) {H : Type} {enc : TypeId × Value → H} {w : World} {v : Value} {d : DataW H} {p : List MemPlace}
    (h : DataW.Trod enc Try.prog w 0 (fun _ => true) true t v d p) : ∃ (u : Value) (y : α), u.cells.toList = v.cells.toList ∧ vr allB w u y := by
  obtain ⟨fuel, hf⟩ := h
  exact ho.get hf
end Go.Proofs.Ytpmdkmpmpjdglaa
