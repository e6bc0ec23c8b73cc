/- msg.Bytes: a message's bytes. -/
import Derived.Test.YtpmdkmpmpjdglaaCrc
set_option linter.unusedSimpArgs false
set_option linter.unusedVariables false
namespace Go.Proofs.Ytpmdkmpmpjdglaa
open Go Go.RowKit
open Rep (vr)

theorem Wr_new (w : World) (T : TypeId) : Wr (fun b => b < w.heap.size) (w.alloc (.cells #[.slice none 0 0, .bool false] T)) w.heap.size [] false :=
  ⟨fun b hb => by simp; omega, fun h => Nat.lt_irrefl _ h, none, 0, 0, T, heap_alloc_new _ _, Own.nil _ _ _ _, fun k hk => by cases hk⟩
/-- The Writer writes this operation as it should. -/
structure OpOk (x : Opn) : Prop where
  run : ∀ {X F : Blks} {w : World} {g : Nat} {s : WS} {v : Value}, Wr X w g s.1 s.2 → vr F w v x → (∀ b, F b → X b) → s.1.length ≤ 700000000 →
  Calls Try.prog 39 #[.pointer (some ⟨g, 0, none⟩), v] w fun e w' => e = .returned (.tuple #[]) ∧ Wr X w' g (wOp s x).1 (wOp s x).2 ∧ Mod X w w'

/-- What msg.Bytes answers: the error's number, the bytes. -/
def msgErr (m : Msg) : Int := if 65535 < m.ops.length then 1 else if (wMsg m).2 then 1 else if 65532 < (wMsg m).1.length then 2 else 0
def msgB (m : Msg) : List UInt8 := if msgErr m = 0 then sealed (wMsg m).1 else []
/-- A message of not too great a size. -/
def SmallM (m : Msg) : Prop := m.have_.length ≤ 1000 ∧ m.safe.length ≤ 1000 ∧ m.ops.length ≤ 60000 ∧ ∀ x ∈ m.ops, Small x

set_option maxRecDepth 100000 in
set_option maxHeartbeats 400000 in
theorem MsgBytes_any {F : Blks} {w : World} {v : Value} {m : Msg} (hv : vr F w v m) (hm : SmallM m) (HOp : ∀ x ∈ m.ops, OpOk x) :
    Calls Try.prog 22 #[v] w fun e w' => ∃ v, e = .returned (.tuple #[v, .int .i64 (msgErr m)]) ∧ Own 5 w.heap.size noB w' v (msgB m) ∧ Below w.heap.size w w' := by
  obtain ⟨p1, n1, c1, p2, n2, c2, p3, n3, c3, rfl, hi, hs1, hs2, hs3⟩ := hv
  obtain ⟨hm1, hm2, hm3, hm4⟩ := hm
  have hl1 := hs1.len
  have hl2 := hs2.len
  have hl3 := hs3.len
  have hn3 : n3 ≤ 60000 := by omega
  have hx0 : ¬ 65535 < m.ops.length := by omega
  have HE : msgErr m = if (wMsg m).2 then 1 else if 65532 < (wMsg m).1.length then 2 else 0 := by unfold msgErr; rw [if_neg hx0]
  have hh := wMsgHead_len m
  have hq1 := wNum_len ([], false) m.kind 1
  have hq2 := wNum_len (wNum ([], false) m.kind 1) m.fr 1
  have hq3 := wNum_len (wNum (wNum ([], false) m.kind 1) m.fr 1) m.to 1
  have hq4 := wNums_len (wNum (wNum (wNum ([], false) m.kind 1) m.fr 1) m.to 1) m.have_
  have hq5 := wNums_len (wNums (wNum (wNum (wNum ([], false) m.kind 1) m.fr 1) m.to 1) m.have_) m.safe
  simp only [List.length_nil] at hq1
  have HQ := Lib.hid (And.intro hq1 (And.intro hq2 (And.intro hq3 (And.intro hq4 (And.intro hq5 hh)))))
  have HL := Lib.hid (And.intro hl1 (And.intro hl2 hl3))
  have HS := Lib.hid (And.intro hs1 (And.intro hs2 hs3))
  have HM := Lib.hid (And.intro hm1 (And.intro hm2 (And.intro hm3 hm4)))
  have HH := Lib.hid HE
  clear hh hq1 hq2 hq3 hq4 hq5 hl1 hl2 hl3 hs1 hs2 hs3 hm1 hm2 hm3 hm4 HE hx0
  have hwr := Wr_new (w.alloc (.cells #[.int .i64 m.kind, .int .i64 m.fr, .int .i64 m.to, .slice p1 n1 c1, .slice p2 n2 c2, .slice p3 n3 c3] 26)) 66
  have hcl : ∀ (i : Nat) (u : Value), (#[.int .i64 m.kind, .int .i64 m.fr, .int .i64 m.to, .slice p1 n1 c1, .slice p2 n2 c2, .slice p3 n3 c3] : Array Value)[i]? = some u →
      ((w.alloc (.cells #[.int .i64 m.kind, .int .i64 m.fr, .int .i64 m.to, .slice p1 n1 c1, .slice p2 n2 c2, .slice p3 n3 c3] 26)).alloc (.cells #[.slice none 0 0, .bool false] 66)).cell? ⟨w.heap.size, i, none⟩ = some u := fun i u h => by
    rw [← h]
    refine heap_cell (T := 26) ?_
    exact ((al1 (w.alloc _) _).block _ (by simp)).trans (heap_alloc_new _ _)
  have hbel : Below w.heap.size w ((w.alloc (.cells #[.int .i64 m.kind, .int .i64 m.fr, .int .i64 m.to, .slice p1 n1 c1, .slice p2 n2 c2, .slice p3 n3 c3] 26)).alloc (.cells #[.slice none 0 0, .bool false] 66)) := al2 _ _ _
  have hsz : (w.alloc (.cells #[.int .i64 m.kind, .int .i64 m.fr, .int .i64 m.to, .slice p1 n1 c1, .slice p2 n2 c2, .slice p3 n3 c3] 26)).heap.size = w.heap.size + 1 := by simp
  rw [hsz] at hwr
  have HW := Lib.hid hwr
  have HC := Lib.hid hcl
  have HB := Lib.hid hbel
  clear hwr hcl hbel hsz
  go_enter Try.func22, Try.ntmps22
  go_wp2_with fail
  refine (Num1 (s := ([], false)) HW.out (by simp)).mono ?_
  rintro e w1 ⟨rfl, hW1, hM1⟩
  have HF := Lib.hid (hM1.frozen (b := w.heap.size) (by omega))
  have d1 := hM1.cell (b := w.heap.size) (by omega) (HC.out 1 _ rfl)
  go_wp2_with fail
  refine (Num1 hW1 (by have := HQ.out; omega)).mono ?_
  rintro e w2 ⟨rfl, hW2, hM2'⟩
  have hM2 := hM1.trans hM2'
  clear hM1 hM2' d1 hW1
  have d2 := hM2.cell (b := w.heap.size) (by omega) (HC.out 2 _ rfl)
  go_wp2_with fail
  refine (Num1 hW2 (by have := HQ.out; omega)).mono ?_
  rintro e w3 ⟨rfl, hW3, hM3'⟩
  have hM3 := hM2.trans hM3'
  clear hM2 hM3' d2 hW2
  have d3 := hM3.cell (b := w.heap.size) (by omega) (HC.out 3 _ rfl)
  have hB3 := HB.out.trans (hM3.below (B := w.heap.size) fun b hb => Nat.lt_succ_of_lt hb)
  go_wp2_with fail
  refine (WNums hW3 (HS.out.1.lt.keep (agree_below hB3 fun _ hb => hb.2)) (fun b hb => Nat.lt_succ_of_lt hb.2) (by have := HM.out.1; have := HL.out.1; omega) (by have := HQ.out; omega)).mono ?_
  rintro e w4 ⟨rfl, hW4, hM4'⟩
  have hM4 := hM3.trans hM4'
  clear hM3 hM4' d3 hW3 hB3
  have d4 := hM4.cell (b := w.heap.size) (by omega) (HC.out 4 _ rfl)
  have hB4 := HB.out.trans (hM4.below (B := w.heap.size) fun b hb => Nat.lt_succ_of_lt hb)
  go_wp2_with fail
  refine (WNums hW4 (HS.out.2.1.lt.keep (agree_below hB4 fun _ hb => hb.2)) (fun b hb => Nat.lt_succ_of_lt hb.2) (by have := HM.out.2.1; have := HL.out.2.1; omega) (by have := HQ.out; have := HM.out; omega)).mono ?_
  rintro e w5 ⟨rfl, hW5, hM5'⟩
  have hM5 := hM4.trans hM5'
  clear hM4 hM5' d4 hW4 hB4
  have d5 := hM5.cell (b := w.heap.size) (by omega) (HC.out 5 _ rfl)
  go_wp2_with fail
  refine (Num2 hW5 (by have := HQ.out; have := HM.out; omega)).mono ?_
  rintro e w6 ⟨rfl, hW6, hM6'⟩
  have hM6 := hM5.trans hM6'
  clear hM5 hM6' d5 hW5
  have d6 := hM6.cell (b := w.heap.size) (by omega) (HC.out 5 _ rfl)
  have hhd : wMsgHead m = wNum (wNums (wNums (wNum (wNum (wNum ([], false) m.kind 1) m.fr 1) m.to 1) m.have_) m.safe) m.ops.length 2 := rfl
  rw [HL.out.2.2] at hhd
  rw [← hhd] at hW6
  clear hhd
  have hB6 := HB.out.trans (hM6.below (B := w.heap.size) fun b hb => Nat.lt_succ_of_lt hb)
  have HW6 := Lib.hid hW6; have HM6 := Lib.hid hM6; have HB6 := Lib.hid hB6
  clear hW6 hM6 hB6 HB HC HW
  go_wp2_with fail
  go_loopw [41] (fun i wr => ∃ k : Nat, k ≤ n3 ∧ i = .int .i64 k ∧ Wr (fun b => b < w.heap.size) wr (w.heap.size + 1) (wOps (wMsgHead m) (m.ops.take k)).1 (wOps (wMsgHead m) (m.ops.take k)).2 ∧ Below w.heap.size w wr) (fun i _ => n3 - (intOf i).toNat)
  case atStart =>
    refine ⟨0, Nat.zero_le _, rfl, ?_, HB6.out⟩
    rw [List.take_zero, wOps_nil]
    exact HW6.out.less fun b hb => Nat.lt_succ_of_lt hb
  case round =>
    obtain ⟨k, hk, rfl, hWk, hBk⟩ := hrel
    by_cases hlt : k < n3
    · have hsk := HS.out.2.2.lt.keep (agree_below hBk fun _ hb => hb.2)
      obtain ⟨b, o, q1, m1, d1, q2, m2, d2, q3, m3, d3, rfl, hFb, _, ⟨e0, e1, e2, e3, e4, e5, e6, e7, e8, e9, e10, e11⟩, hii, ht1, ht2, ht3⟩ := hsk.opn hlt
      have hxl : gt m.ops k ∈ m.ops := List.mem_of_getElem? (gt_get (by have := HL.out; omega))
      have HO := HOp _ hxl
      have htk := wOps_take (wMsgHead m) m.ops k (by have := HL.out; omega)
      have HH2 := Lib.hid htk; have HI := Lib.hid hii; have HT := Lib.hid (And.intro ht1 (And.intro ht2 ht3)); have HWk := Lib.hid hWk; have HO' := Lib.hid HO
      clear htk hii ht1 ht2 ht3 HO hsk hWk
      go_wp2_with fail
      have hlen := wOps_len (m.ops.take k) (fun x hx => HM.out.2.2.2 x (List.mem_of_mem_take hx)) (wMsgHead m)
      have hlen2 := List.length_take_le k m.ops
      refine (HO'.out.run (F := fun b => F b ∧ b < w.heap.size) (X := fun b => b < w.heap.size) (s := wOps (wMsgHead m) (m.ops.take k)) (HWk.out.grow (al1 _ _)) ⟨q1, m1, d1, q2, m2, d2, q3, m3, d3, rfl, HI.out, HT.out.1.grow (al1 _ _), HT.out.2.1.grow (al1 _ _), HT.out.2.2.grow (al1 _ _)⟩ (fun b hb => hb.2) (by have := HQ.out; have := HM.out; omega)).mono ?_
      rintro e w7 ⟨rfl, hW7, hM7⟩
      have hB7 : Below w.heap.size w w7 := (hBk.alloc hBk.size _).trans (hM7.below fun b hb => hb)
      clear hM7 hlen hlen2 e0 e1 e2 e3 e4 e5 e6 e7 e8 e9 e10 e11
      go_wp2
      go_roundw
      case rel => exact ⟨k + 1, by omega, by go_num, by rw [HH2.out]; exact hW7, hB7⟩
      case measure => simp [intOf]; omega
    · have hk2 : m.ops.take k = m.ops := List.take_of_length_le (by have := HL.out; omega)
      have hwm : wOps (wMsgHead m) m.ops = wMsg m := rfl
      rw [hk2, hwm] at hWk
      obtain ⟨q, qn, qc, T, hg, ho, hvk⟩ := hWk.form
      have a0 : wr.cell? ⟨w.heap.size + 1, 0, none⟩ = some (.slice q qn qc) := heap_cell hg
      have a1 : wr.cell? ⟨w.heap.size + 1, 1, none⟩ = some (.bool (wMsg m).2) := heap_cell hg
      have af : ∀ o, wr.frozen? ⟨w.heap.size + 1, o, none⟩ = false := fun o => heap_frozen hg
      have HE := HH.out
      have HOw := Lib.hid ho
      have hB : msgB m = if msgErr m = 0 then sealed (wMsg m).1 else [] := rfl
      cases hbad : (wMsg m).2 with
      | true =>
        rw [hbad, if_pos rfl] at HE
        rw [HE] at hB
        rw [if_neg (by decide)] at hB
        have HR := Lib.hid (And.intro HE hB)
        rw [hbad] at a1
        clear hB HE hbad hwm hk2 hWk hg ho hvk
        go_wp2
        go_ret2
        rw [HR.out.1, HR.out.2]
        exact ⟨_, rfl, Own.nil _ _ _ _, hBk⟩
      | false =>
        rw [hbad, if_neg (by decide)] at HE
        rw [hbad] at a1
        have hqn : qn = (wMsg m).1.length := by
          obtain ⟨q', d', hq, hs⟩ := ho.sl
          injection hq
        subst hqn
        obtain ⟨q', d', hq, hsl⟩ := ho.sl
        have hsl2 : Sl allB wr q (wMsg m).1.length qc (wMsg m).1 := by injection hq with h1 h2 h3; subst h1; subst h3; exact hsl.mono fun _ _ => trivial
        have HSl := Lib.hid hsl2
        have hz := hBk.size
        by_cases hlong : 65532 < (wMsg m).1.length
        · rw [if_pos hlong] at HE
          rw [HE] at hB
          rw [if_neg (by decide)] at hB
          have HR := Lib.hid (And.intro HE hB)
          clear hB HE hbad hwm hk2 hWk hg ho hvk hsl hsl2 hq
          go_wp2_with fail
          refine (Seal_no hlong).mono ?_
          rintro e w8 ⟨rfl, hb8⟩
          go_wp2
          go_ret2
          rw [HR.out.1, HR.out.2]
          exact ⟨_, rfl, Own.nil _ _ _ _, below2 hBk hb8⟩
        · rw [if_neg hlong] at HE
          rw [HE] at hB
          rw [if_pos rfl] at hB
          have HR := Lib.hid (And.intro HE hB)
          clear hB HE hbad hwm hk2 hWk hg ho hvk hsl hsl2 hq
          go_wp2_with fail
          refine (Seal_yes HSl.out (by omega)).mono ?_
          rintro e w8 ⟨v8, rfl, ho8, hb8⟩
          go_wp2
          go_ret2
          rw [HR.out.1, HR.out.2]
          exact ⟨_, rfl, ho8.base hz, below2 hBk hb8⟩
end Go.Proofs.Ytpmdkmpmpjdglaa
