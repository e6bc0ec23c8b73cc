/- NetExact: each call whole, in one contract; the law walked. -/
import Derived.Test.YtpmdkmpmpjdglaaSpoil
import Derived.Test.YtpmdkmpmpjdglaaBacks
set_option linter.unusedSimpArgs false
set_option linter.unusedVariables false
namespace Go.Proofs.Ytpmdkmpmpjdglaa
open Go Go.RowKit
open Rep (vr)

def putL (l : List Letter) (m : Msg) : List Letter := if msgErr m = 0 then l ++ [⟨m.fr, m.to, msgB m⟩] else []
abbrev thB (w w' : World) : Blks := fun b => newB w b ∧ thaw w' b
theorem PutX {F : Blks} {w : World} {v : Value} {m : Msg} {p : Option Addr} {n c : Nat} {l : List Letter} (h1 : Sl F w p n c l) (hn : n < 1200) (hl : ∀ x ∈ l, x.body.length ≤ 140737488355328) (hv : vr F w v m) (hm : SmallM m) :
    Calls Try.prog 12 #[.slice p n c, v] w fun e w' => ∃ v, e = .returned (.tuple #[v, .int .i64 (msgErr m)]) ∧ Own 39 w.heap.size (thB w w') w' v (putL l m) ∧ Below w.heap.size w w' := by
  by_cases he : msgErr m = 0
  · unfold putL
    rw [if_pos he, he]
    exact Put_thaw h1 hn hl hv hm (smallOps hm) he
  · unfold putL
    rw [if_neg he]
    exact (Put_bad hv hm (smallOps hm) he).mono fun e w' ⟨h, hb⟩ => ⟨_, h, Own.nil _ _ _ _, hb⟩
theorem PutRX {F : Blks} {w : World} {v : Value} {m : Msg} {p : Option Addr} {n c : Nat} {l : List Letter} (h1 : Sl F w p n c l) (hn : n < 1200) (hl : ∀ x ∈ l, x.body.length ≤ 140737488355328) (hv : vr F w v m) (hm : SmallM m) :
    Calls Try.prog 13 #[.slice p n c, v] w fun e w' => ∃ v, e = .returned (.tuple #[v, .int .i64 (msgErr m)]) ∧ Own 39 w.heap.size (newB w) w' v (putL l m) ∧ Below w.heap.size w w' := by
  by_cases he : msgErr m = 0
  · unfold putL
    rw [if_pos he, he]
    exact PutR_yes h1 hn hl hv hm he
  · unfold putL
    rw [if_neg he]
    exact (PutR_bad hv hm he).mono fun e w' ⟨h, hb⟩ => ⟨_, h, Own.nil _ _ _ _, hb⟩
def inL (l : List Letter) (at_ : Int) : Bool := decide (0 ≤ at_) && decide (at_ < l.length)
def takeE (l : List Letter) (at_ : Int) : Int := if inL l at_ then 0 else 7
def takeL (l : List Letter) (at_ : Int) : List Letter := if inL l at_ then l.take at_.toNat ++ l.drop (at_.toNat + 1) else []
def takeM (l : List Letter) (at_ : Int) : Letter := if inL l at_ then gt l at_.toNat else ⟨0, 0, []⟩
def copyL (l : List Letter) (at_ : Int) : List Letter := if inL l at_ then l ++ [gt l at_.toNat] else []
theorem inL_cases {l : List Letter} {n : Nat} (hl : l.length = n) (at_ : Int) : (∃ k : Nat, at_ = k ∧ k < n ∧ inL l at_ = true) ∨ (¬ (0 ≤ at_ ∧ at_ < n) ∧ inL l at_ = false) := by
  unfold inL
  by_cases h : 0 ≤ at_ ∧ at_ < n
  · refine .inl ⟨at_.toNat, by omega, by omega, ?_⟩
    rw [hl, decide_eq_true h.1, decide_eq_true h.2]; rfl
  · refine .inr ⟨h, ?_⟩
    rw [hl, ← Bool.decide_and, decide_eq_false h]
theorem zero_letter {F : Blks} {w : World} : vr F w (.agg #[.int .i64 0, .int .i64 0, .slice none 0 0]) (⟨0, 0, []⟩ : Letter) :=
  ⟨none, 0, 0, rfl, ⟨I64.of (by decide) (by decide), I64.of (by decide) (by decide)⟩, Sl.nil _ _ none 0 (by simp [maxLen])⟩
theorem TakeX {F : Blks} {p : Option Addr} {n c : Nat} {l : List Letter} {w : World} {at_ : Int} (h1 : Sl F w p n c l) (hn : n ≤ 1000000) (hl : ∀ x ∈ l, x.body.length ≤ 140737488355328) :
    Calls Try.prog 17 #[.slice p n c, .int .i64 at_] w fun e w' => ∃ v u,
      e = .returned (.tuple #[v, u, .int .i64 (takeE l at_)]) ∧ Own 39 w.heap.size (newB w) w' v (takeL l at_) ∧ vr (thB w w') w' u (takeM l at_) ∧ Below w.heap.size w w' := by
  unfold takeE takeL takeM
  rcases inL_cases h1.len at_ with ⟨k, rfl, hk, he⟩ | ⟨hk, he⟩
  · simp only [he, if_true, Int.toNat_natCast]
    exact Take_thaw h1 hk hn hl
  · simp only [he, Bool.false_eq_true, if_false]
    exact (Take_no hk).mono fun e w' ⟨h, hb⟩ => ⟨_, _, h, Own.nil _ _ _ _, zero_letter, hb⟩
theorem TakeRX {F : Blks} {p : Option Addr} {n c : Nat} {l : List Letter} {w : World} {at_ : Int} (h1 : Sl F w p n c l) (hn : n ≤ 1000000) (hl : ∀ x ∈ l, x.body.length ≤ 140737488355328) :
    Calls Try.prog 18 #[.slice p n c, .int .i64 at_] w fun e w' => ∃ v u,
      e = .returned (.tuple #[v, u, .int .i64 (takeE l at_)]) ∧ Own 39 w.heap.size (newB w) w' v (takeL l at_) ∧ vr (newB w) w' u (takeM l at_) ∧ Below w.heap.size w w' := by
  unfold takeE takeL takeM
  rcases inL_cases h1.len at_ with ⟨k, rfl, hk, he⟩ | ⟨hk, he⟩
  · simp only [he, if_true, Int.toNat_natCast]
    exact TakeR_yes h1 hk hn hl
  · simp only [he, Bool.false_eq_true, if_false]
    exact (TakeR_no hk hn).mono fun e w' ⟨h, hb⟩ => ⟨_, _, h, Own.nil _ _ _ _, zero_letter, hb⟩
theorem CopyX {F : Blks} {p : Option Addr} {n c : Nat} {l : List Letter} {w : World} {at_ : Int} (h1 : Sl F w p n c l) (hn : n < 1200) (hl : ∀ x ∈ l, x.body.length ≤ 140737488355328) :
    Calls Try.prog 19 #[.slice p n c, .int .i64 at_] w fun e w' => ∃ v,
      e = .returned (.tuple #[v, .int .i64 (takeE l at_)]) ∧ Own 39 w.heap.size (newB w) w' v (copyL l at_) ∧ Below w.heap.size w w' := by
  unfold takeE copyL
  rcases inL_cases h1.len at_ with ⟨k, rfl, hk, he⟩ | ⟨hk, he⟩
  · simp only [he, if_true, Int.toNat_natCast]
    exact Copy_yes h1 hk hn hl
  · simp only [he, Bool.false_eq_true, if_false]
    exact (Copy_no hk).mono fun e w' ⟨h, hb⟩ => ⟨_, h, Own.nil _ _ _ _, hb⟩
theorem CopyRX {F : Blks} {p : Option Addr} {n c : Nat} {l : List Letter} {w : World} {at_ : Int} (h1 : Sl F w p n c l) (hn : n < 1200) (hl : ∀ x ∈ l, x.body.length ≤ 140737488355328) :
    Calls Try.prog 20 #[.slice p n c, .int .i64 at_] w fun e w' => ∃ v,
      e = .returned (.tuple #[v, .int .i64 (takeE l at_)]) ∧ Own 39 w.heap.size (newB w) w' v (copyL l at_) ∧ Below w.heap.size w w' := by
  unfold takeE copyL
  rcases inL_cases h1.len at_ with ⟨k, rfl, hk, he⟩ | ⟨hk, he⟩
  · simp only [he, if_true, Int.toNat_natCast]
    exact CopyR_yes h1 hk hn hl
  · simp only [he, Bool.false_eq_true, if_false]
    exact (CopyR_no hk (by omega)).mono fun e w' ⟨h, hb⟩ => ⟨_, h, Own.nil _ _ _ _, hb⟩

set_option maxRecDepth 100000 in
set_option maxHeartbeats 400000 in
theorem NetExact_heavyL {F G : Blks} {p : Option Addr} {n c : Nat} {l : List Letter} {v : Value} {m : Msg} {w : World} {at_ : Int} (h1 : Sl F w p n c l) (hv : vr G w v m) (hh : heavyL l = true) :
    Calls Try.prog 3 #[.slice p n c, v, .int .i64 at_] w fun e w' => e = .returned (.bool true) ∧ Below w.heap.size w w' := by
  obtain ⟨p1, n1, c1, p2, n2, c2, p3, n3, c3, rfl, hi, s1, s2, s3⟩ := hv
  have H1 := Lib.hid (h1.grow (al1 w (.cells #[.int .i64 m.kind, .int .i64 m.fr, .int .i64 m.to, .slice p1 n1 c1, .slice p2 n2 c2, .slice p3 n3 c3] 26)))
  clear s1 s2 s3 h1
  go_enter Try.func3, Try.ntmps3
  go_wp2_with fail
  refine (Heavy_any H1.out).mono ?_
  rintro e w1 ⟨rfl, rfl⟩
  rw [hh]
  go_wp2
  go_ret
  exact ⟨rfl, al1 _ _⟩

theorem six_below {B g : Nat} {w w' : World} {v0 v1 v2 v3 v4 v5 : Value} (h : Below B w w') (hg : B ≤ g) :
    Below B w ((((((w'.setCell ⟨g, 0, none⟩ v0).setCell ⟨g, 1, none⟩ v1).setCell ⟨g, 2, none⟩ v2).setCell ⟨g, 3, none⟩ v3).setCell ⟨g, 4, none⟩ v4).setCell ⟨g, 5, none⟩ v5) :=
  ((((((h.setCell hg _).setCell hg _).setCell hg _).setCell hg _).setCell hg _).setCell hg _)
theorem six_agree {F : Blks} {g : Nat} {w : World} {v0 v1 v2 v3 v4 v5 : Value} (h : ∀ b, F b → b ≠ g) :
    Agree F w ((((((w.setCell ⟨g, 0, none⟩ v0).setCell ⟨g, 1, none⟩ v1).setCell ⟨g, 2, none⟩ v2).setCell ⟨g, 3, none⟩ v3).setCell ⟨g, 4, none⟩ v4).setCell ⟨g, 5, none⟩ v5) :=
  (((((((Agree.refl _ _).setCell h _).setCell h _).setCell h _).setCell h _).setCell h _).setCell h _)
theorem six_cells {g : Nat} {w : World} {v0 v1 v2 v3 v4 v5 u0 u1 u2 u3 u4 u5 : Value} (z0 : w.cell? ⟨g, 0, none⟩ = some u0) (z1 : w.cell? ⟨g, 1, none⟩ = some u1) (z2 : w.cell? ⟨g, 2, none⟩ = some u2) (z3 : w.cell? ⟨g, 3, none⟩ = some u3) (z4 : w.cell? ⟨g, 4, none⟩ = some u4) (z5 : w.cell? ⟨g, 5, none⟩ = some u5) {w' : World}
    (hw : w' = ((((((w.setCell ⟨g, 0, none⟩ v0).setCell ⟨g, 1, none⟩ v1).setCell ⟨g, 2, none⟩ v2).setCell ⟨g, 3, none⟩ v3).setCell ⟨g, 4, none⟩ v4).setCell ⟨g, 5, none⟩ v5)) :
    w'.cell? ⟨g, 0, none⟩ = some v0 ∧ w'.cell? ⟨g, 1, none⟩ = some v1 ∧ w'.cell? ⟨g, 2, none⟩ = some v2 ∧ w'.cell? ⟨g, 3, none⟩ = some v3 ∧ w'.cell? ⟨g, 4, none⟩ = some v4 ∧ w'.cell? ⟨g, 5, none⟩ = some v5 := by
  subst hw
  refine ⟨?_, ?_, ?_, ?_, ?_, ?_⟩ <;> go_simp
structure Twinned (l : List Letter) (m : Msg) (W w : World) (v : Value) (g : Nat) (r1 : Option Addr) (k1 t1 : Nat) (r2 : Option Addr) (k2 t2 : Nat) (r3 : Option Addr) (k3 t3 : Nat) : Prop where
  c0 : w.cell? ⟨g, 0, none⟩ = some (.int .i64 m.kind)
  c1 : w.cell? ⟨g, 1, none⟩ = some (.int .i64 m.fr)
  c2 : w.cell? ⟨g, 2, none⟩ = some (.int .i64 m.to)
  c3 : w.cell? ⟨g, 3, none⟩ = some (.slice r1 k1 t1)
  c4 : w.cell? ⟨g, 4, none⟩ = some (.slice r2 k2 t2)
  c5 : w.cell? ⟨g, 5, none⟩ = some (.slice r3 k3 t3)
  own : Own 39 W.heap.size (newB W) w v l
  msg : vr (newB W) w (.agg #[.int .i64 m.kind, .int .i64 m.fr, .int .i64 m.to, .slice r1 k1 t1, .slice r2 k2 t2, .slice r3 k3 t3]) m
  below : Below W.heap.size W w
theorem small_len {m : Msg} (h : SmallM m) : (m.have_.length ≤ 1000000 ∧ m.safe.length ≤ 1000000 ∧ m.ops.length ≤ 1000000) ∧ ∀ y ∈ m.ops, y.deps.length ≤ 1000000 ∧ y.vals.length ≤ 1000000 ∧ y.dots.length ≤ 1000000 := by
  refine ⟨⟨by have := h.1; omega, by have := h.2.1; omega, by have := h.2.2.1; omega⟩, fun y hy => ?_⟩
  have hs := h.2.2.2 y hy
  unfold Small at hs
  refine ⟨?_, ?_, ?_⟩ <;> omega

set_option maxRecDepth 100000 in
set_option maxHeartbeats 4000000 in
theorem NetExact_light {F G : Blks} {p : Option Addr} {n c : Nat} {l : List Letter} {v : Value} {m : Msg} {w : World} {at_ : Int} (h1 : Sl F w p n c l) (hv : vr G w v m) (hh : heavyL l = false) :
    Calls Try.prog 3 #[.slice p n c, v, .int .i64 at_] w fun e w' => e = .returned (.bool true) ∧ Below w.heap.size w w' := by
  obtain ⟨p1, n1, c1, p2, n2, c2, p3, n3, c3, rfl, hi, s1, s2, s3⟩ := hv
  obtain ⟨W, hW⟩ : ∃ W, W = w.alloc (.cells #[.int .i64 m.kind, .int .i64 m.fr, .int .i64 m.to, .slice p1 n1 c1, .slice p2 n2 c2, .slice p3 n3 c3] 26) := ⟨_, rfl⟩
  have hbW : Below w.heap.size w W := by rw [hW]; exact al1 _ _
  have HWL := Lib.hid (show ∀ n : Nat, W.heap.size ≤ n → w.heap.size < n from fun n h => by rw [hW] at h; simp at h; omega)
  have hWx : W.heap[w.heap.size]? = some (.cells #[.int .i64 m.kind, .int .i64 m.fr, .int .i64 m.to, .slice p1 n1 c1, .slice p2 n2 c2, .slice p3 n3 c3] 26 (0, 0)) := by rw [hW]; exact heap_alloc_new _ _
  have hc : ∀ (i : Nat) (u : Value), (#[.int .i64 m.kind, .int .i64 m.fr, .int .i64 m.to, .slice p1 n1 c1, .slice p2 n2 c2, .slice p3 n3 c3] : Array Value)[i]? = some u → ∀ w', Below W.heap.size W w' → w'.cell? ⟨w.heap.size, i, none⟩ = some u := fun i u h w' hb => cell_later hb ((heap_cell hWx).trans h)
  have hvm : ∀ w', Below W.heap.size W w' → vr G w' (.agg #[.int .i64 m.kind, .int .i64 m.fr, .int .i64 m.to, .slice p1 n1 c1, .slice p2 n2 c2, .slice p3 n3 c3]) m := fun w' hb => by
    have hb2 := below2 hbW hb
    exact ⟨p1, n1, c1, p2, n2, c2, p3, n3, c3, rfl, hi, s1.grow hb2, s2.grow hb2, s3.grow hb2⟩
  obtain ⟨hn60, hl300⟩ := not_heavyL hh
  have hln := h1.len
  have hn : n ≤ 60 := by omega
  have hl2 : ∀ x ∈ l, x.body.length ≤ 140737488355328 := fun x hx => Nat.le_trans (hl300 x hx) (by decide)
  have e0 := hc 0 _ rfl; have e1 := hc 1 _ rfl; have e2 := hc 2 _ rfl; have e3 := hc 3 _ rfl; have e4 := hc 4 _ rfl; have e5 := hc 5 _ rfl
  have H1 := Lib.hid (fun w' (hb : Below W.heap.size W w') => h1.grow (below2 hbW hb)); have HH := Lib.hid hh; have HL2 := Lib.hid hl2; have HL3 := Lib.hid hl300; have HLN := Lib.hid hln; have HV := Lib.hid hvm; have HBW := Lib.hid hbW
  have HC := Lib.hid (show ∀ w', Below W.heap.size W w' → w'.cell? ⟨w.heap.size, 0, none⟩ = some (.int .i64 m.kind) ∧ w'.cell? ⟨w.heap.size, 1, none⟩ = some (.int .i64 m.fr) ∧ w'.cell? ⟨w.heap.size, 2, none⟩ = some (.int .i64 m.to) ∧ w'.cell? ⟨w.heap.size, 3, none⟩ = some (.slice p1 n1 c1) ∧ w'.cell? ⟨w.heap.size, 4, none⟩ = some (.slice p2 n2 c2) ∧ w'.cell? ⟨w.heap.size, 5, none⟩ = some (.slice p3 n3 c3) from fun w' hb => ⟨e0 w' hb, e1 w' hb, e2 w' hb, e3 w' hb, e4 w' hb, e5 w' hb⟩)
  clear h1 hh hl2 hl300 hn60 hln hvm hbW hWx hc s1 s2 s3 hi e0 e1 e2 e3 e4 e5
  go_enter Try.func3, Try.ntmps3
  go_wp2_with fail
  rw [← hW]
  clear hW
  refine (Heavy_any (H1.out _ (Below.refl _ _))).mono ?_
  rintro e w1 ⟨rfl, rfl⟩
  rw [HH.out]
  obtain ⟨x0, x1, x2, x3, x4, x5⟩ := HC.out W (Below.refl _ _)
  go_wp2_with fail
  refine (HeavyM_any (HV.out _ (Below.refl _ _))).mono ?_
  rintro e w1 ⟨b, rfl, hb, hb1⟩
  have HB := Lib.hid hb; have HB1 := Lib.hid hb1
  clear hb hb1 x0 x1 x2 x3 x4 x5
  cases b with
  | true =>
    go_wp2
    go_ret
    exact ⟨rfl, below2 HBW.out HB1.out⟩
  | false =>
    have hsm := (HB.out.out rfl).1
    have HSM := Lib.hid hsm; have HOP := Lib.hid (smallOps hsm)
    clear hsm
    go_upto_region 3 with fail
    have hn2 : n ≤ 1000000 := by omega
    have HSL := Lib.hid (small_len HSM.out)
    have hBa : Below W.heap.size W (w1.alloc (.cells #[.int .i64 0, .int .i64 0, .int .i64 0, .slice none 0 0, .slice none 0 0, .slice none 0 0] 26)).drew := below_drew (below2 HB1.out (al1 _ _))
    have HBa := Lib.hid hBa
    have HBc := Lib.hid (below_drew HB1.out)
    have hz1 : W.heap.size ≤ w1.heap.size := HB1.out.size
    have hWz := HBW.out.size
    have hlt1 : w.heap.size < w1.heap.size := HWL.out _ HB1.out.size
    have hne1 : w.heap.size ≠ w1.heap.size := by omega
    clear hBa hWz
    go_cut [7, 8] from 18 (fun v7 v8 wc => ∃ g r1 k1 t1 r2 k2 t2 r3 k3 t3, v8 = .pointer (some ⟨g, 0, none⟩) ∧ Twinned l m W wc v7 g r1 k1 t1 r2 k2 t2 r3 k3 t3)
    case first =>
      go_region_held3? (fun w' => w'.cell? ⟨w.heap.size, 0, none⟩ = some (.int .i64 m.kind) ∧ w'.cell? ⟨w.heap.size, 1, none⟩ = some (.int .i64 m.fr) ∧ w'.cell? ⟨w.heap.size, 2, none⟩ = some (.int .i64 m.to) ∧ w'.cell? ⟨w.heap.size, 3, none⟩ = some (.slice p1 n1 c1) ∧ w'.cell? ⟨w.heap.size, 4, none⟩ = some (.slice p2 n2 c2) ∧ w'.cell? ⟨w.heap.size, 5, none⟩ = some (.slice p3 n3 c3)) (first | with_reducible exact HC.out _ (six_below HBc.out hz1) | with_reducible exact HC.out _ (six_below HBc.out (Nat.le_trans hz1 hz2)) | with_reducible exact HC.out _ HBc.out | with_reducible exact HC.out _ HBa.out | with_reducible exact HC.out _ (below2 HBc.out (al1 _ _))) (first
        | (go_at_call 10; ((with_reducible refine (TwinLetters_any (H1.out _ HBa.out) hn2 HL2.out).mono ?_); rintro e w25 ⟨v25, rfl, ho25, hb25⟩; have HBc := Lib.hid (below2 HBa.out hb25); have HO := Lib.hid ho25; have hz2 : w1.heap.size < w25.heap.size := Nat.lt_of_lt_of_le (by simp) hb25.size; have HZ := Lib.hid ((hb25.block w1.heap.size (by simp)).trans (heap_alloc_new w1 (.cells #[.int .i64 0, .int .i64 0, .int .i64 0, .slice none 0 0, .slice none 0 0, .slice none 0 0] 26))); clear ho25 hb25))
        | (go_at_call 11; ((with_reducible refine (TwinMsg_any (HV.out _ HBc.out) HSL.out.1 HSL.out.2).mono ?_); rintro e w27 ⟨v27, rfl, hv27, hb27⟩; have HBc := Lib.hid (below2 HBc.out hb27); have HO2 := Lib.hid (HO.out.grow hb27); have HM := Lib.hid hv27; obtain ⟨r1, k1, t1, r2, k2, t2, r3, k3, t3, rfl, -⟩ := hv27; have hz3 : w25.heap.size ≤ w27.heap.size := hb27.size; have hne3 : w.heap.size ≠ w27.heap.size := (by omega); (try (have HZ := Lib.hid ((hb27.block w1.heap.size hz2).trans HZ.out); have z0 : w27.cell? ⟨w1.heap.size, 0, none⟩ = some (.int .i64 0) := heap_cell HZ.out; have z1 : w27.cell? ⟨w1.heap.size, 1, none⟩ = some (.int .i64 0) := heap_cell HZ.out; have z2 : w27.cell? ⟨w1.heap.size, 2, none⟩ = some (.int .i64 0) := heap_cell HZ.out; have z3 : w27.cell? ⟨w1.heap.size, 3, none⟩ = some (.slice none 0 0) := heap_cell HZ.out; have z4 : w27.cell? ⟨w1.heap.size, 4, none⟩ = some (.slice none 0 0) := heap_cell HZ.out; have z5 : w27.cell? ⟨w1.heap.size, 5, none⟩ = some (.slice none 0 0) := heap_cell HZ.out; have zf : ∀ o, w27.frozen? ⟨w1.heap.size, o, none⟩ = false := fun o => heap_frozen HZ.out)); clear hb27))
        | (go_at_call 11; ((with_reducible refine (TwinMsg_any (HV.out _ (below2 HBc.out (al1 _ _))) HSL.out.1 HSL.out.2).mono ?_); rintro e w27 ⟨v27, rfl, hv27, hb27⟩; have HBc := Lib.hid (below2 (below2 HBc.out (al1 _ _)) hb27); have HO2 := Lib.hid ((HO.out.lt.grow (al1 _ _)).grow hb27); have HM := Lib.hid hv27; obtain ⟨r1, k1, t1, r2, k2, t2, r3, k3, t3, rfl, -⟩ := hv27; have hz3 : w25.heap.size < w27.heap.size := Nat.lt_of_lt_of_le (by simp) hb27.size; have HZ := Lib.hid ((hb27.block w25.heap.size (by simp)).trans (heap_alloc_new w25 (.cells #[.int .i64 0, .int .i64 0, .int .i64 0, .slice none 0 0, .slice none 0 0, .slice none 0 0] 26))); have z0 : w27.cell? ⟨w25.heap.size, 0, none⟩ = some (.int .i64 0) := heap_cell HZ.out; have z1 : w27.cell? ⟨w25.heap.size, 1, none⟩ = some (.int .i64 0) := heap_cell HZ.out; have z2 : w27.cell? ⟨w25.heap.size, 2, none⟩ = some (.int .i64 0) := heap_cell HZ.out; have z3 : w27.cell? ⟨w25.heap.size, 3, none⟩ = some (.slice none 0 0) := heap_cell HZ.out; have z4 : w27.cell? ⟨w25.heap.size, 4, none⟩ = some (.slice none 0 0) := heap_cell HZ.out; have z5 : w27.cell? ⟨w25.heap.size, 5, none⟩ = some (.slice none 0 0) := heap_cell HZ.out; have zf : ∀ o, w27.frozen? ⟨w25.heap.size, o, none⟩ = false := fun o => heap_frozen HZ.out; clear hb27))
        | (go_at_call 10; ((with_reducible refine (TwinLetters_any (H1.out _ HBc.out) hn2 HL2.out).mono ?_); rintro e w25 ⟨v25, rfl, ho25, hb25⟩; have HBc := Lib.hid (below2 HBc.out hb25); have HO := Lib.hid ho25; have hz2 : w1.heap.size ≤ w25.heap.size := hb25.size; have hne2 : w.heap.size ≠ w25.heap.size := (by omega); clear ho25 hb25)))
      all_goals go_wp2_with fail
      · go_meet
        case rel =>
          have hA := heap_alloc_new w27 (.cells #[.int .i64 m.kind, .int .i64 m.fr, .int .i64 m.to, .slice r1 k1 t1, .slice r2 k2 t2, .slice r3 k3 t3] 26)
          exact ⟨_, r1, k1, t1, r2, k2, t2, r3, k3, t3, rfl, ⟨heap_cell hA, heap_cell hA, heap_cell hA, heap_cell hA, heap_cell hA, heap_cell hA,
            ((HO2.out.grow (al1 _ _)).base (B' := W.heap.size) hz1).mono (fun b hb => Nat.le_trans hz1 hb), Rep.mono (fun b hb => Nat.le_trans hz1 (Nat.le_trans hz2 hb)) (vr_grow HM.out (al1 _ _)), below2 HBc.out (al1 _ _)⟩⟩
      · go_meet
        case rel =>
          obtain ⟨c0, c1, c2, c3, c4, c5⟩ := six_cells (v0 := .int .i64 m.kind) (v1 := .int .i64 m.fr) (v2 := .int .i64 m.to) (v3 := .slice r1 k1 t1) (v4 := .slice r2 k2 t2) (v5 := .slice r3 k3 t3) z0 z1 z2 z3 z4 z5 rfl
          exact ⟨_, r1, k1, t1, r2, k2, t2, r3, k3, t3, rfl, ⟨c0, c1, c2, c3, c4, c5,
            ((HO2.out.keep (six_agree fun b hb => Nat.ne_of_lt hb.2) (fun k hk => six_agree (F := fun b => b = k) (fun b hb => by have := (HO.out.block k hk).2; omega) k rfl)).base (B' := W.heap.size) hz1).mono (fun b hb => Nat.le_trans hz1 hb.1),
            Rep.mono (fun b hb => Nat.le_trans (Nat.le_trans hz1 hz2) (Nat.le_of_lt hb.1)) (Rep.keep (F := fun b => w25.heap.size < b ∧ True) (six_agree fun b hb => Nat.ne_of_gt hb.1) (Rep.mono (fun b hb => ⟨by unfold newB at hb; simp at hb; omega, trivial⟩) HM.out)), six_below HBc.out (Nat.le_trans hz1 hz2)⟩⟩
      · go_meet
        case rel =>
          obtain ⟨c0, c1, c2, c3, c4, c5⟩ := six_cells (v0 := .int .i64 m.kind) (v1 := .int .i64 m.fr) (v2 := .int .i64 m.to) (v3 := .slice r1 k1 t1) (v4 := .slice r2 k2 t2) (v5 := .slice r3 k3 t3) z0 z1 z2 z3 z4 z5 rfl
          exact ⟨_, r1, k1, t1, r2, k2, t2, r3, k3, t3, rfl, ⟨c0, c1, c2, c3, c4, c5,
            (((HO2.out.mono (G := fun b => w1.heap.size < b) (fun b hb => by unfold newB at hb; simp at hb; omega)).keep (six_agree fun b hb => Nat.ne_of_gt hb) (fun k hk => six_agree (F := fun b => b = k) (fun b hb => by have := (HO.out.block k hk).1; simp at this; omega) k rfl)).base (B' := W.heap.size) (by simp; omega)).mono (fun b hb => Nat.le_trans hz1 (Nat.le_of_lt hb)),
            Rep.mono (fun b hb => Nat.le_trans hz1 (Nat.le_of_lt hb)) (Rep.keep (F := fun b => w1.heap.size < b) (six_agree fun b hb => Nat.ne_of_gt hb) (Rep.mono (fun b hb => Nat.lt_of_lt_of_le hz2 hb) HM.out)), six_below HBc.out hz1⟩⟩
    obtain ⟨g, r1, k1, t1, r2, k2, t2, r3, k3, t3, rfl, HT⟩ := hcut
    have HB2 := Lib.hid HT.below
    have HOI := Lib.hid HT.own; have HMI := Lib.hid HT.msg
    have HTC := Lib.hid (And.intro HT.c0 (And.intro HT.c1 (And.intro HT.c2 (And.intro HT.c3 (And.intro HT.c4 HT.c5)))))
    obtain ⟨a0, a1, a2, a3, a4, a5⟩ := HTC.out
    clear HT
    obtain ⟨q7, d7, hv7, hs7⟩ := HOI.out.sl
    subst hv7
    rw [HLN.out] at hs7 HOI ⊢
    have HS7 := Lib.hid (hs7.mono (G := allB) fun _ _ => trivial)
    clear hs7
    go_wp2_with fail
    refine (PutX HS7.out (by omega) HL2.out (vr_all HMI.out) HSM.out).mono ?_
    rintro e w2 ⟨v9, rfl, ho9, hb9⟩
    have HO9 := Lib.hid ho9; have HB9 := Lib.hid hb9; have HB3 := Lib.hid (below2 HB2.out hb9)
    obtain ⟨x0, x1, x2, x3, x4, x5⟩ := HC.out w2 HB3.out
    clear ho9 hb9 a0 a1 a2 a3 a4 a5
    go_wp2_with fail
    refine (PutRX ((H1.out _ HB3.out).mono (G := allB) fun _ _ => trivial) (by omega) HL2.out (vr_all (HV.out _ HB3.out)) HSM.out).mono ?_
    rintro e w3 ⟨v11, rfl, ho11, hb11⟩
    have HB4 := Lib.hid (below2 HB3.out hb11); have HB94 := Lib.hid (below2 HB9.out hb11)
    obtain ⟨q9, d9, rfl, hs9⟩ := HO9.out.sl
    obtain ⟨q11, d11, rfl, hs11⟩ := ho11.sl
    have HS9 := Lib.hid (hs9.grow hb11); have HS11 := Lib.hid hs11; have HBx := Lib.hid hb11
    clear ho11 hb11 x0 x1 x2 x3 x4 x5 hs9 hs11
    have hk1200 : (putL l m).length ≤ 1000000 := by unfold putL; split <;> simp; have := HLN.out; omega
    obtain ⟨E, hE⟩ : ∃ E, E = msgErr m := ⟨_, rfl⟩
    obtain ⟨L, hL⟩ : ∃ L, L = putL l m := ⟨_, rfl⟩
    rw [← hE, ← hL]
    rw [← hL] at HO9 HS9 HS11 hk1200
    have HE := Lib.hid hE; have HLp := Lib.hid hL
    clear hE hL
    go_wp2_with fail
    refine (Letters_eq HS9.out HS11.out).mono ?_
    rintro e w4 ⟨rfl, hb4⟩
    have HB5 := Lib.hid (below2 HB4.out hb4); have HB95 := Lib.hid (below2 HB94.out hb4)
    obtain ⟨x0, x1, x2, x3, x4, x5⟩ := HC.out w4 HB5.out
    have a0 := cell_later HB95.out HTC.out.1; have a1 := cell_later HB95.out HTC.out.2.1; have a2 := cell_later HB95.out HTC.out.2.2.1; have a3 := cell_later HB95.out HTC.out.2.2.2.1; have a4 := cell_later HB95.out HTC.out.2.2.2.2.1; have a5 := cell_later HB95.out HTC.out.2.2.2.2.2
    have HBy := Lib.hid (below2 HBx.out hb4)
    clear hb4
    go_wp2_with fail
    refine (Msg_eq (vr_grow HMI.out HB95.out) (HV.out _ HB5.out)).mono ?_
    rintro e w5 ⟨rfl, hb5⟩
    have HB6 := Lib.hid (below2 HB5.out hb5); have HB96 := Lib.hid (below2 HB95.out hb5); have HBz := Lib.hid (below2 HBy.out hb5)
    clear hb5 x0 x1 x2 x3 x4 x5 a0 a1 a2 a3 a4 a5 HB95 HB94 HBy HBx HB5 HB4 HS9 HS11
    have HO5 := Lib.hid ((HO9.out.lt.grow HBz.out).mono (G := fun b => newB wc b ∧ thaw w5 b) fun b h => ⟨h.1.1, thaw_below HBz.out h.2 h.1.2⟩)
    have hbodyL : ∀ x ∈ L, x.body.length ≤ 1000000 := by
      rw [HLp.out]
      unfold putL
      split
      · rename_i he
        intro x hx
        rcases List.mem_append.1 hx with h | h
        · exact Nat.le_trans (HL3.out x h) (by decide)
        · rw [List.mem_singleton.1 h]; have := msgB_len he; show (msgB m).length ≤ _; omega
      · intro x hx; cases hx
    have HBL := Lib.hid hbodyL
    obtain ⟨us, hr9, hul9, hu9⟩ := HO5.out.row
    have HR9 := Lib.hid hr9; have HUL := Lib.hid hul9; have HU9 := Lib.hid hu9
    clear hbodyL hr9 hul9 hu9
    go_wp2
    go_loopw [13] (fun i wr => ∃ k : Nat, k ≤ L.length ∧ i = .int .i64 k ∧ Spoilt (fun b => b < wc.heap.size ∨ (Value.slice q9 L.length d9).ownBlock = some b) w5 wr) (fun i _ => L.length - (intOf i).toNat)
    case atStart => exact ⟨0, Nat.zero_le _, rfl, Spoilt.refl _ _⟩
    case round =>
      obtain ⟨k, hk, rfl, hsp⟩ := hrel
      have HSP := Lib.hid hsp
      clear hsp
      by_cases hlt : k < L.length
      · have hui : us[k]? = some (gt us k) := gt_get (by have := HUL.out; omega)
        have hli : L[k]? = some (gt L k) := gt_get hlt
        obtain ⟨b9, d9', hv, hg1, hg2⟩ := HR9.out.form (k := k) (by have := HUL.out; omega)
        injection hv with hv1 hv2 hv3
        subst hv1
        clear hv2 hv3
        obtain ⟨p5, n5, c5, hue, hi5, hs5⟩ := HU9.out k _ _ hui hli
        obtain ⟨e0, e1, e2⟩ := HR9.out.cell3 (hui.trans (by rw [hue]))
        have hkeep := HSP.out.keep b9 (.inr rfl)
        replace e2 := cell_agree hkeep e2
        have hn5 : n5 ≤ 1000000000 := by have := HBL.out _ (List.mem_of_getElem? hli); have := hs5.len; omega
        obtain ⟨bs', hs5'⟩ := HSP.out.sl hs5
        have HSb := Lib.hid (SpoilBytes_any (K := fun b => b < wc.heap.size ∨ (Value.slice (some ⟨b9, 0, none⟩) L.length d9).ownBlock = some b) hs5' hn5 (fun b hb => ⟨by rintro (h | h); exact absurd hb.1.1 (Nat.not_le.2 h); exact hb.2 h, HSP.out.thaw b hb.1.2⟩))
        clear hs5 hs5' hue hi5 hui hli e0 e1 hkeep
        go_wp2_with fail
        refine HSb.out.mono ?_
        rintro e w6 ⟨rfl, hsp6⟩
        have HSP6 := Lib.hid (HSP.out.trans hsp6)
        clear hsp6 e2
        go_wp2
        go_roundw
        case rel => exact ⟨k + 1, by omega, by go_num, HSP6.out⟩
        case measure => simp [intOf]; omega
      · have hin : Sl (fun b => b < wc.heap.size) wr q7 n d7 l := ((HS7.out.lt.grow HB96.out).mono fun b hb => hb.2).keep fun b hb => HSP.out.keep b (.inl hb)
        have HB7 := Lib.hid (HB6.out.trans (HSP.out.bel W.heap.size fun b hb => .inl (Nat.lt_of_lt_of_le hb HB2.out.size)))
        have HIN := Lib.hid (hin.mono (G := allB) fun _ _ => trivial)
        clear hin
        go_wp2_with fail
        refine (TakeX (at_ := at_) HIN.out (by omega) HL2.out).mono ?_
        rintro e w7 ⟨v14, u15, rfl, ho14, hu15, hb7⟩
        obtain ⟨q15, n15, c15, rfl, i15, hs15⟩ := hu15
        obtain ⟨q14, d14, rfl, hs14⟩ := ho14.sl
        have hA7 := heap_alloc_new w7 (.cells #[.int .i64 (takeM l at_).fr, .int .i64 (takeM l at_).to, .slice q15 n15 c15] 39)
        have hal7 := al1 w7 (.cells #[.int .i64 (takeM l at_).fr, .int .i64 (takeM l at_).to, .slice q15 n15 c15] 39)
        have HAL7 := Lib.hid hal7; have HA7 := Lib.hid hA7
        have HB8 := Lib.hid (below2 (below2 HB7.out hb7) hal7)
        have HBr8 := Lib.hid (below2 hb7 hal7)
        have HS14 := Lib.hid (hs14.grow hal7); have HS15 := Lib.hid hs15
        clear ho14 hs14 hs15 hb7 hA7 hal7
        go_wp2_with fail
        refine (TakeRX (at_ := at_) ((H1.out _ HB8.out).mono (G := allB) fun _ _ => trivial) (by omega) HL2.out).mono ?_
        rintro e w8 ⟨v16, u17, rfl, ho16, hu17, hb8⟩
        obtain ⟨q17, n17, c17, rfl, i17, hs17⟩ := hu17
        obtain ⟨q16, d16, rfl, hs16⟩ := ho16.sl
        have hA8 := heap_alloc_new w8 (.cells #[.int .i64 (takeM l at_).fr, .int .i64 (takeM l at_).to, .slice q17 n17 c17] 39)
        have hal8 := al1 w8 (.cells #[.int .i64 (takeM l at_).fr, .int .i64 (takeM l at_).to, .slice q17 n17 c17] 39)
        have HA8 := Lib.hid hA8
        have HB9 := Lib.hid (below2 (below2 HB8.out hb8) hal8)
        have HBr9 := Lib.hid (below2 (below2 HBr8.out hb8) hal8)
        have HB79 := Lib.hid (below2 (below2 HAL7.out hb8) hal8)
        have HS14b := Lib.hid (HS14.out.grow (below2 hb8 hal8)); have HS16 := Lib.hid (hs16.grow hal8)
        have HV17 := Lib.hid (show vr (newB (w7.alloc (.cells #[.int .i64 (takeM l at_).fr, .int .i64 (takeM l at_).to, .slice q15 n15 c15] 39))) w8 (.agg #[.int .i64 (takeM l at_).fr, .int .i64 (takeM l at_).to, .slice q17 n17 c17]) (takeM l at_) from ⟨q17, n17, c17, rfl, i17, hs17⟩)
        have HV15 := Lib.hid (show vr (thB wr w7) w7 (.agg #[.int .i64 (takeM l at_).fr, .int .i64 (takeM l at_).to, .slice q15 n15 c15]) (takeM l at_) from ⟨q15, n15, c15, rfl, i15, HS15.out⟩)
        have HH7 := Lib.hid (((below2 hb8 hal8).block w7.heap.size (by simp)).trans HA7.out)
        have HAL8 := Lib.hid hal8
        clear ho16 hs16 hs17 hb8 hA8 hal8 HS14
        go_wp2_with fail
        refine (Letters_eq HS14b.out HS16.out).mono ?_
        rintro e w9 ⟨rfl, hb9⟩
        have hlt7 : w7.heap.size < (w8.alloc (.cells #[.int .i64 (takeM l at_).fr, .int .i64 (takeM l at_).to, .slice q17 n17 c17] 39)).heap.size := lt_of_cell (o := 0) (heap_cell HH7.out)
        have HH7b := Lib.hid ((hb9.block w7.heap.size hlt7).trans HH7.out)
        have HH8b := Lib.hid ((hb9.block w8.heap.size (by simp)).trans HA8.out)
        have y0 : w9.cell? ⟨w7.heap.size, 0, none⟩ = some (.int .i64 (takeM l at_).fr) := heap_cell HH7b.out
        have y1 : w9.cell? ⟨w7.heap.size, 1, none⟩ = some (.int .i64 (takeM l at_).to) := heap_cell HH7b.out
        have y2 : w9.cell? ⟨w7.heap.size, 2, none⟩ = some (.slice q15 n15 c15) := heap_cell HH7b.out
        have z0 : ∀ o, (w9.alloc o).cell? ⟨w8.heap.size, 0, none⟩ = some (.int .i64 (takeM l at_).fr) := fun o => cell_later (al1 w9 o) (heap_cell HH8b.out)
        have z1 : ∀ o, (w9.alloc o).cell? ⟨w8.heap.size, 1, none⟩ = some (.int .i64 (takeM l at_).to) := fun o => cell_later (al1 w9 o) (heap_cell HH8b.out)
        have z2 : ∀ o, (w9.alloc o).cell? ⟨w8.heap.size, 2, none⟩ = some (.slice q17 n17 c17) := fun o => cell_later (al1 w9 o) (heap_cell HH8b.out)
        have HB9b := Lib.hid (below2 HB9.out hb9); have HBr9b := Lib.hid (below2 HBr9.out hb9); have HB79b := Lib.hid (below2 HB79.out hb9); have HB89 := Lib.hid (below2 HAL8.out hb9)
        clear hb9 hlt7 HS14b HS16 HH7
        go_wp2_with fail
        have SA : Sl allB ((w9.alloc (.cells #[.int .i64 (takeM l at_).fr, .int .i64 (takeM l at_).to, .slice q15 n15 c15] 39)).alloc (.cells #[.int .i64 (takeM l at_).fr, .int .i64 (takeM l at_).to, .slice q17 n17 c17] 39)) (some ⟨w9.heap.size, 0, none⟩) 1 1 [takeM l at_] := (sl_letter (x := takeM l at_) (F := allB) (vr_all (vr_grow HV15.out HB79b.out)) rfl trivial).grow (al1 _ _)
        have SB : Sl allB ((w9.alloc (.cells #[.int .i64 (takeM l at_).fr, .int .i64 (takeM l at_).to, .slice q15 n15 c15] 39)).alloc (.cells #[.int .i64 (takeM l at_).fr, .int .i64 (takeM l at_).to, .slice q17 n17 c17] 39)) (some ⟨w9.heap.size + 1, 0, none⟩) 1 1 [takeM l at_] := sl_letter (x := takeM l at_) (F := allB) (vr_all (vr_grow HV17.out (below2 HB89.out (al1 _ _)))) (by simp) trivial
        refine (Letters_eq SA SB).mono ?_
        rintro e w10 ⟨rfl, hb10⟩
        have HB910 := Lib.hid (below2 (al2 w9 (.cells #[.int .i64 (takeM l at_).fr, .int .i64 (takeM l at_).to, .slice q15 n15 c15] 39) (.cells #[.int .i64 (takeM l at_).fr, .int .i64 (takeM l at_).to, .slice q17 n17 c17] 39)) hb10)
        have HB10 := Lib.hid (below2 HB9b.out HB910.out); have HBr10 := Lib.hid (below2 HBr9b.out HB910.out); have HB710 := Lib.hid (below2 HB79b.out HB910.out)
        have y2' := cell_later HB910.out y2
        have hn15 : n15 ≤ 1000000000 := by
          have h := HS15.out.len
          have h2 : (takeM l at_).body.length ≤ 1000000 := by
            unfold takeM
            rcases inL_cases HLN.out at_ with ⟨k, rfl, hk, he⟩ | ⟨hk, he⟩
            · rw [he]; exact Nat.le_trans (HL3.out _ (List.mem_of_getElem? (gt_get (by have := HLN.out; simp; omega)))) (by decide)
            · rw [he]; simp
          omega
        have HSY := Lib.hid (SpoilBytes_any (K := fun b => b < wr.heap.size) (HS15.out.lt.grow HB710.out) hn15 (fun b hb => ⟨Nat.not_lt.2 hb.1.1, thaw_below HB710.out hb.2 hb.1.2⟩))
        clear hb10 y0 y1 y2 z0 z1 z2 SA SB hn15
        go_wp2_with fail
        refine HSY.out.mono ?_
        rintro e w11 ⟨rfl, hsp11⟩
        have hin : Sl (fun b => b < wr.heap.size) w11 q7 n d7 l := ((HIN.out.lt.grow HBr10.out).mono fun b hb => hb.2).keep fun b hb => hsp11.keep b hb
        have HB11 := Lib.hid (HB10.out.trans (hsp11.bel W.heap.size fun b hb => Nat.lt_of_lt_of_le hb HB7.out.size))
        have HI11 := Lib.hid (hin.mono (G := allB) fun _ _ => trivial)
        clear hin hsp11 y2'
        go_wp2_with fail
        refine (CopyX (at_ := at_) HI11.out (by omega) HL2.out).mono ?_
        rintro e w12 ⟨v18, rfl, ho18, hb12⟩
        obtain ⟨q18, d18, rfl, hs18⟩ := ho18.sl
        have HS18 := Lib.hid hs18; have HB12 := Lib.hid (below2 HB11.out hb12); have HI12 := Lib.hid (HI11.out.grow hb12)
        clear ho18 hs18 hb12
        go_wp2_with fail
        refine (CopyRX (at_ := at_) ((H1.out _ HB12.out).mono (G := allB) fun _ _ => trivial) (by omega) HL2.out).mono ?_
        rintro e w13 ⟨v19, rfl, ho19, hb13⟩
        obtain ⟨q19, d19, rfl, hs19⟩ := ho19.sl
        have HS18b := Lib.hid (HS18.out.grow hb13); have HS19 := Lib.hid hs19; have HB13 := Lib.hid (below2 HB12.out hb13); have HI13 := Lib.hid (HI12.out.grow hb13)
        clear ho19 hs19 hb13
        go_wp2_with fail
        refine (Letters_eq HS18b.out HS19.out).mono ?_
        rintro e w14 ⟨rfl, hb14⟩
        have HB14 := Lib.hid (below2 HB13.out hb14); have HI14 := Lib.hid (HI13.out.grow hb14)
        clear hb14
        go_wp2_with fail
        refine (Letters_eq HI14.out (H1.out _ HB14.out)).mono ?_
        rintro e w15 ⟨rfl, hb15⟩
        have HB15 := Lib.hid (below2 HB14.out hb15)
        clear hb15
        go_wp2_with fail
        refine wakes_any.mono ?_
        rintro e w16 ⟨rfl, hb16⟩
        have HB16 := Lib.hid (below2 HB15.out hb16)
        clear hb16
        go_wp2
        go_ret
        exact ⟨rfl, below2 HBW.out HB16.out⟩
theorem NetExact_any {F G : Blks} {p : Option Addr} {n c : Nat} {l : List Letter} {v : Value} {m : Msg} {w : World} {at_ : Int} (h1 : Sl F w p n c l) (hv : vr G w v m) :
    Calls Try.prog 3 #[.slice p n c, v, .int .i64 at_] w fun e w' => e = .returned (.bool true) ∧ Below w.heap.size w w' := by
  cases hh : heavyL l with
  | true => exact NetExact_heavyL h1 hv hh
  | false => exact NetExact_light h1 hv hh
end Go.Proofs.Ytpmdkmpmpjdglaa
