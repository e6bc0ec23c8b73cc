/- The program's types of plain data, and what cells stand for them. No conditions. -/
import Derived.Test.YtpmdkmpmpjdglaaRep
set_option linter.unusedSimpArgs false
set_option linter.unusedVariables false
namespace Go.Proofs.Ytpmdkmpmpjdglaa
open Go Go.RowKit
open Rep (vr)

structure Val where
  kind : Int
  i : Int
  s : ByteArray
  deriving DecidableEq, Inhabited
structure Dot where
  peer : Int
  n : Int
  deriving DecidableEq, Inhabited
structure Stamp where
  phys : Int
  logic : Int
  peer : Int
  deriving DecidableEq, Inhabited
structure Opn where
  dot : Dot
  deps : List Int
  stamp : Stamp
  kind : Int
  table : Int
  key : ByteArray
  col : Int
  vals : List Val
  dots : List Dot
  deriving DecidableEq, Inhabited
structure Msg where
  kind : Int
  fr : Int
  to : Int
  have_ : List Int
  safe : List Int
  ops : List Opn
  deriving DecidableEq, Inhabited
structure Letter where
  fr : Int
  to : Int
  body : List UInt8
  deriving DecidableEq, Inhabited

instance : Rep Val where
  size := 3
  vr _ _ v x := v = .agg #[.int .i64 x.kind, .int .i64 x.i, .string x.s] ∧ I64 x.kind ∧ I64 x.i ∧ x.s.size ≤ maxLen
  pos := by decide
  cells h := by obtain ⟨rfl, _⟩ := h; rfl
  one h := by obtain ⟨rfl, _⟩ := h; simp [Value.cells, Value.oneCell']
  mono _ h := h
  keep _ h := h
  lt h := h

instance : Rep Dot where
  size := 2
  vr _ _ v x := v = .agg #[.int .i64 x.peer, .int .i64 x.n] ∧ I64 x.peer ∧ I64 x.n
  pos := by decide
  cells h := by obtain ⟨rfl, _⟩ := h; rfl
  one h := by obtain ⟨rfl, _⟩ := h; simp [Value.cells, Value.oneCell']
  mono _ h := h
  keep _ h := h
  lt h := h

instance : Rep Stamp where
  size := 3
  vr _ _ v x := v = .agg #[.int .i64 x.phys, .int .i64 x.logic, .int .i64 x.peer] ∧ I64 x.phys ∧ I64 x.logic ∧ I64 x.peer
  pos := by decide
  cells h := by obtain ⟨rfl, _⟩ := h; rfl
  one h := by obtain ⟨rfl, _⟩ := h; simp [Value.cells, Value.oneCell']
  mono _ h := h
  keep _ h := h
  lt h := h

instance : Rep Opn where
  size := 12
  vr F w v x := ∃ p1 n1 c1 p2 n2 c2 p3 n3 c3, v = .agg #[.int .i64 x.dot.peer, .int .i64 x.dot.n, .slice p1 n1 c1, .int .i64 x.stamp.phys, .int .i64 x.stamp.logic, .int .i64 x.stamp.peer,
      .int .i64 x.kind, .int .i64 x.table, .string x.key, .int .i64 x.col, .slice p2 n2 c2, .slice p3 n3 c3] ∧
    (I64 x.dot.peer ∧ I64 x.dot.n ∧ I64 x.stamp.phys ∧ I64 x.stamp.logic ∧ I64 x.stamp.peer ∧ I64 x.kind ∧ I64 x.table ∧ x.key.size ≤ maxLen ∧ I64 x.col) ∧
    Sl F w p1 n1 c1 x.deps ∧ Sl F w p2 n2 c2 x.vals ∧ Sl F w p3 n3 c3 x.dots
  pos := by decide
  cells h := by obtain ⟨p1, n1, c1, p2, n2, c2, p3, n3, c3, rfl, _⟩ := h; rfl
  one h := by obtain ⟨p1, n1, c1, p2, n2, c2, p3, n3, c3, rfl, _⟩ := h; simp [Value.cells, Value.oneCell']
  mono hm h := by obtain ⟨p1, n1, c1, p2, n2, c2, p3, n3, c3, rfl, hi, h1, h2, h3⟩ := h; exact ⟨_, _, _, _, _, _, _, _, _, rfl, hi, h1.mono hm, h2.mono hm, h3.mono hm⟩
  keep hk h := by obtain ⟨p1, n1, c1, p2, n2, c2, p3, n3, c3, rfl, hi, h1, h2, h3⟩ := h; exact ⟨_, _, _, _, _, _, _, _, _, rfl, hi, h1.keep hk, h2.keep hk, h3.keep hk⟩
  lt h := by obtain ⟨p1, n1, c1, p2, n2, c2, p3, n3, c3, rfl, hi, h1, h2, h3⟩ := h; exact ⟨_, _, _, _, _, _, _, _, _, rfl, hi, h1.lt, h2.lt, h3.lt⟩

instance : Rep Msg where
  size := 6
  vr F w v x := ∃ p1 n1 c1 p2 n2 c2 p3 n3 c3, v = .agg #[.int .i64 x.kind, .int .i64 x.fr, .int .i64 x.to, .slice p1 n1 c1, .slice p2 n2 c2, .slice p3 n3 c3] ∧
    (I64 x.kind ∧ I64 x.fr ∧ I64 x.to) ∧ Sl F w p1 n1 c1 x.have_ ∧ Sl F w p2 n2 c2 x.safe ∧ Sl F w p3 n3 c3 x.ops
  pos := by decide
  cells h := by obtain ⟨p1, n1, c1, p2, n2, c2, p3, n3, c3, rfl, _⟩ := h; rfl
  one h := by obtain ⟨p1, n1, c1, p2, n2, c2, p3, n3, c3, rfl, _⟩ := h; simp [Value.cells, Value.oneCell']
  mono hm h := by obtain ⟨p1, n1, c1, p2, n2, c2, p3, n3, c3, rfl, hi, h1, h2, h3⟩ := h; exact ⟨_, _, _, _, _, _, _, _, _, rfl, hi, h1.mono hm, h2.mono hm, h3.mono hm⟩
  keep hk h := by obtain ⟨p1, n1, c1, p2, n2, c2, p3, n3, c3, rfl, hi, h1, h2, h3⟩ := h; exact ⟨_, _, _, _, _, _, _, _, _, rfl, hi, h1.keep hk, h2.keep hk, h3.keep hk⟩
  lt h := by obtain ⟨p1, n1, c1, p2, n2, c2, p3, n3, c3, rfl, hi, h1, h2, h3⟩ := h; exact ⟨_, _, _, _, _, _, _, _, _, rfl, hi, h1.lt, h2.lt, h3.lt⟩

instance : Rep Letter where
  size := 3
  vr F w v x := ∃ p1 n1 c1, v = .agg #[.int .i64 x.fr, .int .i64 x.to, .slice p1 n1 c1] ∧ (I64 x.fr ∧ I64 x.to) ∧ Sl F w p1 n1 c1 x.body
  pos := by decide
  cells h := by obtain ⟨p1, n1, c1, rfl, _⟩ := h; rfl
  one h := by obtain ⟨p1, n1, c1, rfl, _⟩ := h; simp [Value.cells, Value.oneCell']
  mono hm h := by obtain ⟨p1, n1, c1, rfl, hi, h1⟩ := h; exact ⟨_, _, _, rfl, hi, h1.mono hm⟩
  keep hk h := by obtain ⟨p1, n1, c1, rfl, hi, h1⟩ := h; exact ⟨_, _, _, rfl, hi, h1.keep hk⟩
  lt h := by obtain ⟨p1, n1, c1, rfl, hi, h1⟩ := h; exact ⟨_, _, _, rfl, hi, h1.lt⟩

instance : Flat Val := ⟨fun h => h⟩
instance : Flat Dot := ⟨fun h => h⟩
instance : Flat Stamp := ⟨fun h => h⟩

section
variable {F G : Blks} {w w' : World} {p : Option Addr} {n cap : Nat} {v : Value}
theorem Sl.val {x : List Val} (h : Sl F w p n cap x) {i : Nat} (hi : i < n) : ∃ b o, p = some ⟨b, o, none⟩ ∧ F b ∧ b < w.heap.size ∧
    w.cell? ⟨b, o + i * 3, none⟩ = some (.int .i64 (gt x i).kind) ∧ w.cell? ⟨b, o + i * 3 + 1, none⟩ = some (.int .i64 (gt x i).i) ∧ w.cell? ⟨b, o + i * 3 + 2, none⟩ = some (.string (gt x i).s) ∧
    I64 (gt x i).kind ∧ I64 (gt x i).i ∧ (gt x i).s.size ≤ maxLen := by
  obtain ⟨b, o, v, hp, hF, hb, ⟨rfl, hi⟩, hc⟩ := h.nth hi
  exact ⟨b, o, hp, hF, hb, hc 0 _ rfl, hc 1 _ rfl, hc 2 _ rfl, hi⟩
theorem Sl.dot {x : List Dot} (h : Sl F w p n cap x) {i : Nat} (hi : i < n) : ∃ b o, p = some ⟨b, o, none⟩ ∧ F b ∧ b < w.heap.size ∧
    w.cell? ⟨b, o + i * 2, none⟩ = some (.int .i64 (gt x i).peer) ∧ w.cell? ⟨b, o + i * 2 + 1, none⟩ = some (.int .i64 (gt x i).n) ∧
    I64 (gt x i).peer ∧ I64 (gt x i).n := by
  obtain ⟨b, o, v, hp, hF, hb, ⟨rfl, hi⟩, hc⟩ := h.nth hi
  exact ⟨b, o, hp, hF, hb, hc 0 _ rfl, hc 1 _ rfl, hi⟩
theorem Sl.letter {x : List Letter} (h : Sl F w p n cap x) {i : Nat} (hi : i < n) : ∃ b o p1 n1 c1, p = some ⟨b, o, none⟩ ∧ F b ∧ b < w.heap.size ∧
    w.cell? ⟨b, o + i * 3, none⟩ = some (.int .i64 (gt x i).fr) ∧ w.cell? ⟨b, o + i * 3 + 1, none⟩ = some (.int .i64 (gt x i).to) ∧ w.cell? ⟨b, o + i * 3 + 2, none⟩ = some (.slice p1 n1 c1) ∧
    I64 (gt x i).fr ∧ I64 (gt x i).to ∧ Sl F w p1 n1 c1 (gt x i).body := by
  obtain ⟨b, o, v, hp, hF, hb, ⟨p1, n1, c1, rfl, hi, hs⟩, hc⟩ := h.nth hi
  exact ⟨b, o, p1, n1, c1, hp, hF, hb, hc 0 _ rfl, hc 1 _ rfl, hc 2 _ rfl, hi.1, hi.2, hs⟩
theorem Sl.opn {x : List Opn} (h : Sl F w p n cap x) {i : Nat} (hi : i < n) : ∃ b o p1 n1 c1 p2 n2 c2 p3 n3 c3, p = some ⟨b, o, none⟩ ∧ F b ∧ b < w.heap.size ∧
    (w.cell? ⟨b, o + i * 12, none⟩ = some (.int .i64 (gt x i).dot.peer) ∧ w.cell? ⟨b, o + i * 12 + 1, none⟩ = some (.int .i64 (gt x i).dot.n) ∧ w.cell? ⟨b, o + i * 12 + 2, none⟩ = some (.slice p1 n1 c1) ∧
     w.cell? ⟨b, o + i * 12 + 3, none⟩ = some (.int .i64 (gt x i).stamp.phys) ∧ w.cell? ⟨b, o + i * 12 + 4, none⟩ = some (.int .i64 (gt x i).stamp.logic) ∧ w.cell? ⟨b, o + i * 12 + 5, none⟩ = some (.int .i64 (gt x i).stamp.peer) ∧
     w.cell? ⟨b, o + i * 12 + 6, none⟩ = some (.int .i64 (gt x i).kind) ∧ w.cell? ⟨b, o + i * 12 + 7, none⟩ = some (.int .i64 (gt x i).table) ∧ w.cell? ⟨b, o + i * 12 + 8, none⟩ = some (.string (gt x i).key) ∧
     w.cell? ⟨b, o + i * 12 + 9, none⟩ = some (.int .i64 (gt x i).col) ∧ w.cell? ⟨b, o + i * 12 + 10, none⟩ = some (.slice p2 n2 c2) ∧ w.cell? ⟨b, o + i * 12 + 11, none⟩ = some (.slice p3 n3 c3)) ∧
    (I64 (gt x i).dot.peer ∧ I64 (gt x i).dot.n ∧ I64 (gt x i).stamp.phys ∧ I64 (gt x i).stamp.logic ∧ I64 (gt x i).stamp.peer ∧ I64 (gt x i).kind ∧ I64 (gt x i).table ∧ (gt x i).key.size ≤ maxLen ∧ I64 (gt x i).col) ∧
    Sl F w p1 n1 c1 (gt x i).deps ∧ Sl F w p2 n2 c2 (gt x i).vals ∧ Sl F w p3 n3 c3 (gt x i).dots := by
  obtain ⟨b, o, v, hp, hF, hb, ⟨p1, n1, c1, p2, n2, c2, p3, n3, c3, rfl, hi, hs⟩, hc⟩ := h.nth hi
  exact ⟨b, o, p1, n1, c1, p2, n2, c2, p3, n3, c3, hp, hF, hb, ⟨hc 0 _ rfl, hc 1 _ rfl, hc 2 _ rfl, hc 3 _ rfl, hc 4 _ rfl, hc 5 _ rfl, hc 6 _ rfl, hc 7 _ rfl, hc 8 _ rfl, hc 9 _ rfl, hc 10 _ rfl, hc 11 _ rfl⟩, hi, hs⟩
end
end Go.Proofs.Ytpmdkmpmpjdglaa
