/- The reference's message: does it fit; its bytes, sealed. -/
import Derived.Test.YtpmdkmpmpjdglaaRefD
import Derived.Test.YtpmdkmpmpjdglaaMsgB
import Derived.Test.YtpmdkmpmpjdglaaMsg
import Derived.Deep.Cut
set_option linter.unusedSimpArgs false
set_option linter.unusedVariables false
namespace Go.Proofs.Ytpmdkmpmpjdglaa
open Go Go.RowKit
open Rep (vr)

/-! ### what fits is written -/
theorem wNum_y {s : WS} {x : Int} {k : Nat} (h : fitsN x k = true) : wNum s x k = (s.1 ++ be x k, s.2) := if_pos h
theorem wDot_y {s : WS} {d : Dot} (h : DotFits d) : wDot s d = (s.1 ++ dotB d, s.2) := by unfold wDot; rw [wNum_y h.peer, wNum_y h.n, List.append_assoc]; rfl
theorem wStamp_y {s : WS} {d : Stamp} (h : StampFits d) : wStamp s d = (s.1 ++ stampB d, s.2) := by
  unfold wStamp; rw [wNum_y h.phys, wNum_y h.logic, wNum_y h.peer, List.append_assoc, List.append_assoc]; rfl
theorem wNumsL_y (l : List Int) : ∀ {s : WS}, (∀ x ∈ l, fitsN x 4 = true) → wNumsL s l = (s.1 ++ intsB l, s.2) := by
  induction l with
  | nil => intro s _; simp [wNumsL, intsB]
  | cons y l ih =>
    intro s h
    show wNumsL (wNum s y 4) l = _
    rw [ih (fun x hx => h x (List.mem_cons_of_mem _ hx)), wNum_y (h y List.mem_cons_self), List.append_assoc]; rfl
theorem fit_len {n : Nat} (h : n ≤ 255) : fitsN (n : Int) 1 = true := by
  unfold fitsN
  simp only [Bool.and_eq_true, decide_eq_true_eq, Nat.reduceMul, Int.reducePow]
  omega
theorem wNums_y {s : WS} {l : List Int} (h : NumsFit l) : wNums s l = (s.1 ++ numsB l, s.2) := by
  unfold wNums
  rw [wNum_y (fit_len (by have := h.len; omega)), wNumsL_y l h.all, List.append_assoc, decide_eq_false (by have := h.len; omega), Bool.or_false]; rfl
theorem wText_y {s : WS} {t : ByteArray} (h : t.size ≤ 24) : wText s t = (s.1 ++ textB t, s.2) := if_pos h
theorem wRow_y {s : WS} {r : List Val} (h : rowOk r = true) : wRow s r = (s.1 ++ rowB r, s.2) := if_pos h
theorem wDots_y (l : List Dot) : ∀ {s : WS}, (∀ x ∈ l, DotFits x) → wDots s l = (s.1 ++ l.flatMap dotB, s.2) := by
  induction l with
  | nil => intro s _; simp [wDots]
  | cons y l ih =>
    intro s h
    show wDots (wDot s y) l = _
    rw [ih (fun x hx => h x (List.mem_cons_of_mem _ hx)), wDot_y (h y List.mem_cons_self), List.append_assoc]; rfl
theorem wOp_y {s : WS} {x : Opn} (h : OpFits x) : wOp s x = (s.1 ++ opB x, s.2) := by
  have e : wMid s x = (s.1 ++ (be x.kind 1 ++ (dotB x.dot ++ (numsB x.deps ++ (stampB x.stamp ++ (be x.table 1 ++ (textB x.key ++ (be x.col 1 ++ rowB x.vals))))))), s.2) := by
    unfold wMid wHead
    rw [wNum_y h.kind, wDot_y h.dot, wNums_y h.deps, wStamp_y h.stamp, wNum_y h.table, wText_y h.key, wNum_y h.col, wRow_y h.vals]
    simp only [List.append_assoc]
  unfold wOp
  rw [e, wNum_y (fit_len (by have := h.len; omega)), wDots_y _ h.dots, decide_eq_false (by have := h.len; omega), Bool.or_false]
  unfold opB
  simp only [List.append_assoc]
theorem wOps_y (l : List Opn) : ∀ {s : WS}, (∀ x ∈ l, OpFits x) → wOps s l = (s.1 ++ l.flatMap opB, s.2) := by
  induction l with
  | nil => intro s _; simp [wOps]
  | cons y l ih =>
    intro s h
    show wOps (wOp s y) l = _
    rw [ih (fun x hx => h x (List.mem_cons_of_mem _ hx)), wOp_y (h y List.mem_cons_self), List.append_assoc]; rfl
theorem wMsg_y {m : Msg} (h : MsgFits m) : wMsg m = (msgBody m, false) := by
  unfold wMsg wMsgHead
  rw [wNum_y h.kind, wNum_y h.fr, wNum_y h.to, wNums_y h.have_, wNums_y h.safe, wNum_y h.len, wOps_y _ h.ops]
  unfold msgBody
  simp only [List.append_assoc, List.nil_append]
def headB (m : Msg) : Bool := fitsN m.kind 1 && fitsN m.fr 1 && fitsN m.to 1 && vecFitB m.have_ && vecFitB m.safe && decide (m.ops.length ≤ 65535)
theorem fits_iff {m : Msg} : (headB m && m.ops.all opFitB) = true ↔ MsgFits m := by
  unfold headB
  simp only [Bool.and_eq_true, decide_eq_true_eq, List.all_eq_true, vecFitB_iff, opFitB_iff]
  constructor
  · rintro ⟨⟨⟨⟨⟨⟨a, b⟩, c⟩, d⟩, e⟩, f⟩, g⟩
    refine ⟨a, b, c, d, e, ?_, g⟩
    unfold fitsN
    simp only [Bool.and_eq_true, decide_eq_true_eq, Nat.reduceMul, Int.reducePow]
    omega
  · intro h
    exact ⟨⟨⟨⟨⟨⟨h.kind, h.fr⟩, h.to⟩, h.have_⟩, h.safe⟩, fits2 h.len⟩, h.ops⟩
theorem err_no {m : Msg} (h : (headB m && m.ops.all opFitB) = false) : msgErr m = 1 ∧ msgB m = [] := by
  have e : msgErr m = 1 := by
    unfold msgErr
    split
    · rfl
    · cases h2 : (wMsg m).2
      · have := fits_iff.2 (wMsg_ok h2).1
        rw [h] at this; cases this
      · simp
  exact ⟨e, by unfold msgB; rw [if_neg (by rw [e]; decide)]⟩
theorem err_yes {m : Msg} (h : MsgFits m) : msgErr m = (if 65532 < (msgBody m).length then 2 else 0) ∧ msgB m = (if 65532 < (msgBody m).length then [] else sealed (msgBody m)) := by
  have e : msgErr m = (if 65532 < (msgBody m).length then 2 else 0) := by
    unfold msgErr
    rw [if_neg (by have := fits2 h.len; omega), wMsg_y h]
    simp
  refine ⟨e, ?_⟩
  unfold msgB
  rw [e, wMsg_y h]
  split <;> simp

theorem opB_len {x : Opn} (h : OpFits x) : (opB x).length ≤ 800 := by
  unfold opB
  simp only [List.length_append, be_length, dotB_len, numsB_len, stampB_len, textB_len, dotsB_len]
  have := rowB_len _ h.vals
  have := h.key; have := h.len; have := h.deps.len
  omega
theorem ops_take {l : List Opn} {k : Nat} (h : k < l.length) : (l.take (k + 1)).flatMap opB = (l.take k).flatMap opB ++ opB (gt l k) := by
  rw [take_snoc' h, List.flatMap_append]; simp
theorem ops_len {l : List Opn} (h : ∀ x ∈ l, OpFits x) (k : Nat) (hk : k ≤ l.length) : ((l.take k).flatMap opB).length ≤ 800 * k := by
  induction k with
  | zero => simp
  | succ k ih =>
    rw [ops_take (by omega), List.length_append]
    have := ih (by omega)
    have := opB_len (h (gt l k) (List.mem_of_getElem? (gt_get (by omega))))
    omega
theorem all_take {l : List Opn} {k : Nat} (h : k < l.length) : (l.take (k + 1)).all opFitB = ((l.take k).all opFitB && opFitB (gt l k)) := by
  rw [take_snoc' h, List.all_append]; simp
theorem all_no {l : List Opn} {k : Nat} (h : (l.take k).all opFitB = false) : l.all opFitB = false := by
  rw [← List.take_append_drop k l, List.all_append, h]; rfl
theorem no_take {m : Msg} {k : Nat} (h : (headB m && (m.ops.take k).all opFitB) = false) : (headB m && m.ops.all opFitB) = false := by
  rcases Bool.and_eq_false_iff.1 h with h | h
  · rw [h]; rfl
  · rw [all_no h, Bool.and_false]
theorem own_lit3 {w : World} {B : Nat} {z y x : Int} {a b c : UInt8} (hz : z = (a.toNat : Int)) (hy : y = (b.toNat : Int)) (hx : x = (c.toNat : Int)) (hB : B ≤ w.heap.size) : Own 5 B noB (w.alloc (.cells #[.int .u8 z, .int .u8 y, .int .u8 x] 5)) (.slice (some ⟨w.heap.size, 0, none⟩) 3 3) [a, b, c] := by
  refine own_bytes.2 ⟨rfl, .inr ⟨w.heap.size, 3, _, rfl, hB, heap_alloc_new _ _, Nat.le_refl _, by simp [maxLen], rfl, ?_⟩⟩
  rw [hz, hy, hx]
  rfl
theorem R3.lit3A {w0 w : World} {a b c : VB} {z y x : Int} {s t u : UInt8} (h : R3 w0 w a b c) (hz : z = (s.toNat : Int)) (hy : y = (t.toNat : Int)) (hx : x = (u.toNat : Int)) : R3 w0 (w.alloc (.cells #[.int .u8 z, .int .u8 y, .int .u8 x] 5)) (.slice (some ⟨w.heap.size, 0, none⟩) 3 3, [s, t, u]) b c :=
  h.setA (al1 _ _) (own_lit3 hz hy hx (Nat.le_refl _))
theorem msgBody_flat {m : Msg} {n : Nat} (h : m.ops.length = n) : msgBody m = [byteAt m.kind 0, byteAt m.fr 0, byteAt m.to 0] ++ numsB m.have_ ++ numsB m.safe ++ be n 2 ++ m.ops.flatMap opB := by
  unfold msgBody
  rw [be_one, be_one, be_one, h]
  simp

set_option maxRecDepth 100000 in
set_option maxHeartbeats 2000000 in
theorem MsgRef_any {F : Blks} {w : World} {v : Value} {m : Msg} (hv : vr F w v m) (hm : m.ops.length ≤ 60000) :
    Calls Try.prog 29 #[v] w fun e w' => ∃ v, e = .returned (.tuple #[v, .int .i64 (msgErr m)]) ∧ Own 5 w.heap.size noB w' v (msgB m) ∧ Below w.heap.size w w' := by
  obtain ⟨p1, n1, c1, p2, n2, c2, p3, n3, c3, rfl, ⟨i1, i2, i3⟩, s1, s2, s3⟩ := hv
  obtain ⟨W, hW⟩ : ∃ W, W = w.alloc (.cells #[.int .i64 m.kind, .int .i64 m.fr, .int .i64 m.to, .slice p1 n1 c1, .slice p2 n2 c2, .slice p3 n3 c3] 26) := ⟨_, rfl⟩
  have hbW : Below w.heap.size w W := by rw [hW]; exact al1 _ _
  have hWz : W.heap.size = w.heap.size + 1 := by rw [hW]; simp
  have hx : ∀ w', Below W.heap.size W w' → w'.heap[w.heap.size]? = some (.cells #[.int .i64 m.kind, .int .i64 m.fr, .int .i64 m.to, .slice p1 n1 c1, .slice p2 n2 c2, .slice p3 n3 c3] 26 (0, 0)) := fun w' hb => (hb.block _ (by rw [hW]; simp)).trans (by rw [hW]; exact heap_alloc_new _ _)
  have HC := Lib.hid (fun (i : Nat) (u : Value) (w' : World) (h : (#[.int .i64 m.kind, .int .i64 m.fr, .int .i64 m.to, .slice p1 n1 c1, .slice p2 n2 c2, .slice p3 n3 c3] : Array Value)[i]? = some u) (hb : Below W.heap.size W w') => (heap_cell (hx w' hb)).trans h)
  have HS := Lib.hid (fun w' (hb : Below W.heap.size W w') => And.intro (s1.grow (below2 hbW hb)) (And.intro (s2.grow (below2 hbW hb)) (s3.grow (below2 hbW hb))))
  have HL := Lib.hid (And.intro s1.len (And.intro s2.len s3.len))
  have hn3 : n3 ≤ 60000 := by have := s3.len; omega
  have HBW := Lib.hid hbW; have HWZ := Lib.hid hWz
  clear hx hbW hWz s1 s2 s3 hm
  have x0 := HC.out 0 _ _ rfl (Below.refl _ _)
  have x1 := HC.out 1 _ _ rfl (Below.refl _ _)
  have x2 := HC.out 2 _ _ rfl (Below.refl _ _)
  have x3 := HC.out 3 _ _ rfl (Below.refl _ _)
  have x4 := HC.out 4 _ _ rfl (Below.refl _ _)
  have x5 := HC.out 5 _ _ rfl (Below.refl _ _)
  go_enter Try.func29, Try.ntmps29
  go_upto_region 1 with fail
  rw [← hW]
  clear hW
  go_cut [4] from 8 (fun ok wc => ok = .bool (headB m) ∧ Below W.heap.size W wc)
  case first =>
    go_wp2_with fail
    refine (fits_any (k := 1) (by decide) (by decide)).mono ?_
    rintro e w0 ⟨rfl, rfl⟩
    cases q0 : fitsN m.kind 1
    · go_wp2_with fail
      go_meet
      case rel => exact ⟨by unfold headB; simp [q0], Below.refl _ _⟩
    · have Q0 := Lib.hid q0
      clear q0
      go_wp2_with fail
      refine (fits_any (k := 1) (by decide) (by decide)).mono ?_
      rintro e w0 ⟨rfl, rfl⟩
      cases q1 : fitsN m.fr 1
      · go_wp2_with fail
        go_meet
        case rel => exact ⟨by unfold headB; simp [Q0.out, q1], Below.refl _ _⟩
      · have Q1 := Lib.hid q1
        clear q1
        go_wp2_with fail
        refine (fits_any (k := 1) (by decide) (by decide)).mono ?_
        rintro e w0 ⟨rfl, rfl⟩
        cases q2 : fitsN m.to 1
        · go_wp2_with fail
          go_meet
          case rel => exact ⟨by unfold headB; simp [Q0.out, Q1.out, q2], Below.refl _ _⟩
        · have Q2 := Lib.hid q2
          clear q2
          go_wp2_with fail
          refine (VecFits_any (HS.out _ (Below.refl _ _)).1).mono ?_
          rintro e w0 ⟨rfl, rfl⟩
          cases q3 : vecFitB m.have_
          · go_wp2_with fail
            go_meet
            case rel => exact ⟨by unfold headB; simp [Q0.out, Q1.out, Q2.out, q3], Below.refl _ _⟩
          · have Q3 := Lib.hid q3
            clear q3
            go_wp2_with fail
            refine (VecFits_any (HS.out _ (Below.refl _ _)).2.1).mono ?_
            rintro e w0 ⟨rfl, rfl⟩
            cases q4 : vecFitB m.safe
            · go_wp2_with fail
              go_meet
              case rel => exact ⟨by unfold headB; simp [Q0.out, Q1.out, Q2.out, Q3.out, q4], Below.refl _ _⟩
            · have Q4 := Lib.hid q4
              clear q4
              go_wp2_with fail
              go_meet
              case rel => exact ⟨by unfold headB; rw [Q0.out, Q1.out, Q2.out, Q3.out, Q4.out, HL.out.2.2]; simp; omega, Below.refl _ _⟩
  clear x0 x1 x2 x3 x4 x5
  obtain ⟨rfl, hbc⟩ := hcut
  have HB0 := Lib.hid hbc
  clear hbc
  go_wp2
  go_loopw [4, 5] (fun ok i wr => ∃ k : Nat, k ≤ n3 ∧ i = .int .i64 k ∧ ok = .bool (headB m && (m.ops.take k).all opFitB) ∧ Below W.heap.size W wr) (fun _ i _ => n3 - (intOf i).toNat)
  case atStart => exact ⟨0, Nat.zero_le _, rfl, by simp, HB0.out⟩
  case round =>
    obtain ⟨k, hk, rfl, rfl, hbr⟩ := hrel
    have HB := Lib.hid hbr
    clear hbr
    have x5 := HC.out 5 _ _ rfl HB.out
    cases hok : (headB m && (m.ops.take k).all opFitB)
    · have hno := no_take hok
      have HE := Lib.hid (err_no hno)
      clear hok hno
      go_wp2
      all_goals (go_ret2; rw [HE.out.1, HE.out.2]; exact ⟨_, rfl, Own.nil _ _ _ _, below2 HBW.out HB.out⟩)
    · have HK := Lib.hid hok
      clear hok
      by_cases hlt : k < n3
      · obtain ⟨b, o, q1, a1, d1, q2, a2, d2, q3, a3, d3, rfl, _, _, ⟨e0, e1, e2, e3, e4, e5, e6, e7, e8, e9, e10, e11⟩, j, t1, t2, t3⟩ := (HS.out _ HB.out).2.2.opn hlt
        have hkl : k < m.ops.length := by have := HL.out; omega
        have hvo : vr F wr (.agg #[.int .i64 (gt m.ops k).dot.peer, .int .i64 (gt m.ops k).dot.n, .slice q1 a1 d1, .int .i64 (gt m.ops k).stamp.phys, .int .i64 (gt m.ops k).stamp.logic, .int .i64 (gt m.ops k).stamp.peer, .int .i64 (gt m.ops k).kind, .int .i64 (gt m.ops k).table, .string (gt m.ops k).key, .int .i64 (gt m.ops k).col, .slice q2 a2 d2, .slice q3 a3 d3]) (gt m.ops k) := ⟨q1, a1, d1, q2, a2, d2, q3, a3, d3, rfl, j, t1, t2, t3⟩
        have HO := Lib.hid (OpFits_any hvo)
        clear hvo t1 t2 t3 j
        go_wp2_with fail
        refine HO.out.mono ?_
        rintro e w1 ⟨rfl, hb1⟩
        have HB1 := Lib.hid (below2 HB.out hb1)
        clear hb1 e0 e1 e2 e3 e4 e5 e6 e7 e8 e9 e10 e11 x5
        have HT := Lib.hid (all_take hkl)
        go_wp2
        go_roundw
        case rel => exact ⟨k + 1, by omega, by go_num, by rw [HT.out, ← Bool.and_assoc, HK.out, Bool.true_and], HB1.out⟩
        case measure => simp [intOf]; omega
      · have hfit : MsgFits m := fits_iff.1 (by have := HK.out; rwa [List.take_of_length_le (by have := HL.out; omega)] at this)
        obtain rfl : k = n3 := by omega
        have HF := Lib.hid hfit
        have w1 := u8_wrap hfit.kind; have w2 := u8_wrap hfit.fr; have w3 := u8_wrap hfit.to
        have K1 := Lib.hid (u8_byte hfit.kind).2; have K2 := Lib.hid (u8_byte hfit.fr).2; have K3 := Lib.hid (u8_byte hfit.to).2
        have HVec1 := Lib.hid (fun w' (hb : Below W.heap.size W w') => VecBytes_any (HS.out w' hb).1 hfit.have_)
        have HVec2 := Lib.hid (fun w' (hb : Below W.heap.size W w') => VecBytes_any (HS.out w' hb).2.1 hfit.safe)
        have HBe := Lib.hid (show ∀ w', Calls Try.prog 52 #[.int .i64 k, .int .i64 2] w' fun e w'' => ∃ v, e = .returned v ∧ Own 5 w'.heap.size noB w'' v (be k 2) ∧ Below w'.heap.size w' w'' from fun w' => by
          have := Be_any (w := w') (x := k) (size := 2) (by omega) (by omega) (by decide) (by decide)
          exact this)
        have HN := Lib.hid (show (numsB m.have_).length ≤ 21 ∧ (numsB m.safe).length ≤ 21 from ⟨by rw [numsB_len]; have := hfit.have_.len; omega, by rw [numsB_len]; have := hfit.safe.len; omega⟩)
        have HI : Hid (R3 W wr.drew vb0 vb0 vb0) := Lib.hid ⟨below_drew HB.out, Own.nil _ _ _ _, Own.nil _ _ _ _, Own.nil _ _ _ _, Apart.nil_left _, Apart.nil_left _, Apart.nil_left _⟩
        have HL3 : Hid (R3 W (wr.alloc (.cells #[.int .u8 m.kind, .int .u8 m.fr, .int .u8 m.to] 5)).drew (.slice (some ⟨wr.heap.size, 0, none⟩) 3 3, [byteAt m.kind 0, byteAt m.fr 0, byteAt m.to 0]) vb0 vb0) :=
          Lib.hid (R3.lit3A (w0 := W) (w := wr) (a := vb0) (b := vb0) (c := vb0) ⟨HB.out, Own.nil _ _ _ _, Own.nil _ _ _ _, Own.nil _ _ _ _, Apart.nil_left _, Apart.nil_left _, Apart.nil_left _⟩ K1.out K2.out K3.out).drew
        clear hfit hlt HK
        go_upto_region 8 with fail
        clear x5
        go_cut [6] from 8 (fun v6 wc => R3 W wc (v6, [byteAt m.kind 0, byteAt m.fr 0, byteAt m.to 0] ++ numsB m.have_) vb0 vb0)
        case first =>
          go_region_held3 (fun w' => w'.cell? ⟨w.heap.size, 0, none⟩ = some (.int .i64 m.kind) ∧ w'.cell? ⟨w.heap.size, 1, none⟩ = some (.int .i64 m.fr) ∧ w'.cell? ⟨w.heap.size, 2, none⟩ = some (.int .i64 m.to) ∧ w'.cell? ⟨w.heap.size, 3, none⟩ = some (.slice p1 n1 c1)) (first | exact ⟨HC.out 0 _ _ rfl (HI.out).below, HC.out 1 _ _ rfl (HI.out).below, HC.out 2 _ _ rfl (HI.out).below, HC.out 3 _ _ rfl (HI.out).below⟩ | exact ⟨HC.out 0 _ _ rfl (HI.out.lit3A K1.out K2.out K3.out).below, HC.out 1 _ _ rfl (HI.out.lit3A K1.out K2.out K3.out).below, HC.out 2 _ _ rfl (HI.out.lit3A K1.out K2.out K3.out).below, HC.out 3 _ _ rfl (HI.out.lit3A K1.out K2.out K3.out).below⟩ | exact ⟨HC.out 0 _ _ rfl HL3.out.below, HC.out 1 _ _ rfl HL3.out.below, HC.out 2 _ _ rfl HL3.out.below, HC.out 3 _ _ rfl HL3.out.below⟩) (first
            | (refine step_eatB rfl (.tmp 64) (.tmp 67) rfl rfl rfl (by first | exact HI.out | exact HI.out.lit3A K1.out K2.out K3.out) (by have := HN.out; simp only [List.length_append, List.length_cons, List.length_nil, be_length]; omega) ?_; intro v' w' h'; have HI := Lib.hid h'; clear h')
            | (go_at_call 51; ((first | (with_reducible refine (HVec1.out _ HI.out.below).mono ?_) | (with_reducible refine (HVec1.out _ HL3.out.below).mono ?_)); rintro e w2 ⟨v2, rfl, ho2, hb2⟩; (first | have HI := Lib.hid (HI.out.setB hb2 ho2) | have HI := Lib.hid (HL3.out.setB hb2 ho2)); clear ho2 hb2)))
          all_goals (go_wp2_with fail; go_meet; case rel => exact HI.out.drop)
        have HI := Lib.hid hcut.drew
        clear hcut
        go_wp2
        go_cut [6] from 8 (fun v6 wc => R3 W wc (v6, [byteAt m.kind 0, byteAt m.fr 0, byteAt m.to 0] ++ numsB m.have_ ++ numsB m.safe ++ be k 2) vb0 vb0)
        case first =>
          go_region_held3 (fun w' => w'.cell? ⟨w.heap.size, 4, none⟩ = some (.slice p2 n2 c2) ∧ w'.cell? ⟨w.heap.size, 5, none⟩ = some (.slice p3 k c3)) (first | exact ⟨HC.out 4 _ _ rfl (HI.out).below, HC.out 5 _ _ rfl (HI.out).below⟩) (first
            | (refine step_eatB rfl (.tmp 69) (.tmp 72) rfl rfl rfl HI.out (by have := HN.out; simp only [List.length_append, List.length_cons, List.length_nil, be_length]; omega) ?_; intro v' w' h'; have HI := Lib.hid h'; clear h')
            | (refine step_eatC rfl (.tmp 73) (.tmp 77) rfl rfl rfl HI.out (by have := HN.out; simp only [List.length_append, List.length_cons, List.length_nil, be_length]; omega) ?_; intro v' w' h'; have HI := Lib.hid h'; clear h')
            | (go_at_call 51; ((with_reducible refine (HVec2.out _ HI.out.below).mono ?_); rintro e w2 ⟨v2, rfl, ho2, hb2⟩; have HI := Lib.hid (HI.out.setB hb2 ho2); clear ho2 hb2))
            | (go_at_call 52; ((with_reducible refine (HBe.out _).mono ?_); rintro e w2 ⟨v2, rfl, ho2, hb2⟩; have HI := Lib.hid (HI.out.setC hb2 ho2); clear ho2 hb2)))
          all_goals (go_wp2_with fail; go_meet; case rel => exact HI.out.drop)
        have HI := Lib.hid hcut
        have HLn := Lib.hid (show ([byteAt m.kind 0, byteAt m.fr 0, byteAt m.to 0] ++ numsB m.have_ ++ numsB m.safe ++ be k 2).length ≤ 1000 by have := HN.out; simp only [List.length_append, List.length_cons, List.length_nil, be_length]; omega)
        clear hcut
        obtain ⟨B, hB⟩ : ∃ B, B = [byteAt m.kind 0, byteAt m.fr 0, byteAt m.to 0] ++ numsB m.have_ ++ numsB m.safe ++ be k 2 := ⟨_, rfl⟩
        rw [← hB] at HI HLn
        have HBe := Lib.hid hB
        clear hB
        go_wp2
        go_loopw [6, 7] (fun v i wr => ∃ j : Nat, j ≤ k ∧ i = .int .i64 j ∧ R3 W wr (v, B ++ (m.ops.take j).flatMap opB) vb0 vb0) (fun _ i _ => k - (intOf i).toNat)
        case atStart => exact ⟨0, Nat.zero_le _, rfl, by simpa using HI.out⟩
        case round =>
          obtain ⟨j, hj, rfl, hr⟩ := hrel
          have HI := Lib.hid hr
          have x5 := HC.out 5 _ _ rfl hr.below
          clear hr
          have hol := ops_len HF.out.ops j (by have := HL.out; omega)
          by_cases hlt : j < k
          · obtain ⟨b, o, q1, a1, d1, q2, a2, d2, q3, a3, d3, rfl, _, _, ⟨e0, e1, e2, e3, e4, e5, e6, e7, e8, e9, e10, e11⟩, jj, t1, t2, t3⟩ := (HS.out _ HI.out.below).2.2.opn hlt
            have hjl : j < m.ops.length := by have := HL.out; omega
            have hfj := HF.out.ops _ (List.mem_of_getElem? (gt_get hjl))
            have HO := Lib.hid (OpBytes_any (F := F) (x := gt m.ops j) ⟨q1, a1, d1, q2, a2, d2, q3, a3, d3, rfl, jj, t1, t2, t3⟩ hfj)
            have HN2 := Lib.hid (And.intro hol (opB_len hfj))
            clear t1 t2 t3 jj hol hfj
            go_wp2_with fail
            refine HO.out.mono ?_
            rintro e w1 ⟨v1, rfl, ho1, hb1⟩
            have HI := Lib.hid (HI.out.setC hb1 ho1)
            clear ho1 hb1 e0 e1 e2 e3 e4 e5 e6 e7 e8 e9 e10 e11 x5 HO
            go_wp2_with (at_builtin; (refine wpList_eatC rfl (.tmp 86) (.tmp 92) rfl rfl rfl HI.out (by have := HLn.out; have := HN2.out; rw [List.length_append]; omega) ?_); intro v' w' h'; have HI := Lib.hid h'; clear h')
            go_roundw
            case rel => exact ⟨j + 1, by omega, by go_num, by rw [ops_take hjl, ← List.append_assoc]; exact HI.out.drop⟩
            case measure => simp [intOf]; omega
          · have h2 := HI.out
            rw [List.take_of_length_le (by have := HL.out; omega), HBe.out, ← msgBody_flat HL.out.2.2] at h2
            have h3 : (msgBody m).length ≤ 60000000 := by
              rw [msgBody_flat HL.out.2.2, ← HBe.out, List.length_append]
              rw [List.take_of_length_le (by have := HL.out; omega)] at hol
              have := HLn.out
              omega
            have HE := Lib.hid (err_yes HF.out)
            have HI := Lib.hid h2
            clear hol h2
            have ho := HI.out.oa
            have HBr := Lib.hid HI.out.below
            simp only at ho
            clear HI
            obtain ⟨q, d, rfl, hs⟩ := ho.hand
            clear ho
            by_cases hbig : 65532 < (msgBody m).length
            · rw [if_pos hbig, if_pos hbig] at HE
              have HX := Lib.hid (SealRef_no (p := q) (n := (msgBody m).length) (c := d) (w := wr) hbig)
              clear hs hbig
              go_wp2_with fail
              refine HX.out.mono ?_
              rintro e w1 ⟨rfl, hb1⟩
              go_wp2
              go_ret2
              rw [HE.out.1, HE.out.2]
              exact ⟨_, rfl, Own.nil _ _ _ _, below2 HBW.out (below2 HBr.out hb1)⟩
            · rw [if_neg hbig, if_neg hbig] at HE
              have HX := Lib.hid (SealRef_yes hs (by omega))
              have hz : W.heap.size ≤ wr.heap.size := HBr.out.size
              clear hs hbig
              go_wp2_with fail
              refine HX.out.mono ?_
              rintro e w1 ⟨v1, rfl, ho1, hb1⟩
              have HO1 := Lib.hid ho1; have HB1 := Lib.hid hb1
              clear ho1 hb1
              go_wp2
              go_ret2
              rw [HE.out.1, HE.out.2]
              exact ⟨_, rfl, HO1.out.base (by have := HWZ.out; omega), below2 HBW.out (below2 HBr.out HB1.out)⟩
end Go.Proofs.Ytpmdkmpmpjdglaa
