/- The reference's bytes: rows and operations. -/
import Derived.Test.YtpmdkmpmpjdglaaRefB
import Derived.Deep.Cut
set_option linter.unusedSimpArgs false
set_option linter.unusedVariables false
namespace Go.Proofs.Ytpmdkmpmpjdglaa
open Go Go.RowKit
open Rep (vr)

theorem ValueBytes_any {F : Blks} {w : World} {v : Value} {x : Val} (hv : vr F w v x) (hok : valOk x = true) :
    Calls Try.prog 94 #[v] w fun e w' => ∃ u, e = .returned u ∧ Own 5 w.heap.size noB w' u (valB x) ∧ Below w.heap.size w w' := by
  obtain ⟨rfl, -⟩ := hv
  unfold valOk at hok
  simp only [Bool.or_eq_true, Bool.and_eq_true, decide_eq_true_eq] at hok
  exact RefValue (k := x.kind) (i := x.i) (t := x.s) (by omega) (by omega) (by omega) (by omega)
theorem valB_len2 {x : Val} (h : valOk x = true) : (valB x).length ≤ 27 := by
  unfold valOk at h
  simp only [Bool.or_eq_true, Bool.and_eq_true, decide_eq_true_eq] at h
  unfold valB
  rw [List.length_cons]
  split
  · simp
  · split
    · simp [intB, be_length]
    · split
      · rw [textB_len]; omega
      · simp
theorem vals_take {l : List Val} {k : Nat} (h : k < l.length) : (l.take (k + 1)).flatMap valB = (l.take k).flatMap valB ++ valB (gt l k) := by
  rw [take_snoc' h, List.flatMap_append]; simp
theorem vals_len {l : List Val} (h : l.all valOk = true) (k : Nat) (hk : k ≤ l.length) : ((l.take k).flatMap valB).length ≤ 27 * k := by
  induction k with
  | zero => simp
  | succ k ih =>
    rw [vals_take (by omega), List.length_append]
    have := ih (by omega)
    have := valB_len2 (List.all_eq_true.1 h (gt l k) (List.mem_of_getElem? (gt_get (by omega))))
    omega

set_option maxRecDepth 100000 in
set_option maxHeartbeats 400000 in
theorem RowBytes_any {F : Blks} {w : World} {p : Option Addr} {n c : Nat} {l : List Val} (h1 : Sl F w p n c l) (hok : rowOk l = true) :
    Calls Try.prog 79 #[.slice p n c] w fun e w' => ∃ u, e = .returned u ∧ Own 5 w.heap.size noB w' u (rowB l) ∧ Below w.heap.size w w' := by
  have hln := h1.len
  unfold rowOk at hok
  simp only [Bool.and_eq_true, decide_eq_true_eq] at hok
  have hn : n ≤ 12 := by omega
  have HA := Lib.hid hok.2
  have H1 := Lib.hid h1; have HL := Lib.hid hln
  have HI0 := (R3.start w).litA (len_byte (n := n) (by omega))
  have hw : IntKind.u8.wrap (n : Int) = (n : Int) := by unfold IntKind.wrap; simp [IntKind.bits, IntKind.signed]; omega
  rw [hw] at HI0
  have HI0 := Lib.hid HI0
  clear h1 hln hok
  go_enter Try.func79, Try.ntmps79
  go_wp2
  go_loopw [3, 4] (fun v i wr => ∃ k : Nat, k ≤ n ∧ i = .int .i64 k ∧ R3 w wr (v, [byteAt (n : Int) 0] ++ (l.take k).flatMap valB) vb0 vb0) (fun _ i _ => n - (intOf i).toNat)
  case atStart => exact ⟨0, Nat.zero_le _, rfl, by simpa using HI0.out⟩
  case round =>
    obtain ⟨k, hk, rfl, hr⟩ := hrel
    have HI := Lib.hid hr
    clear hr
    by_cases hlt : k < n
    · obtain ⟨b, o, rfl, _, _, e1, e2, e3, i1⟩ := (H1.out.grow HI.out.below).val hlt
      have hkl : k < l.length := by have := HL.out; omega
      go_wp2_with fail
      refine (ValueBytes_any (F := F) (x := gt l k) ⟨rfl, i1⟩ (List.all_eq_true.1 HA.out _ (List.mem_of_getElem? (gt_get hkl)))).mono ?_
      rintro e w1 ⟨v1, rfl, ho1, hb1⟩
      have HI := Lib.hid (HI.out.setC hb1 ho1)
      have HN := Lib.hid (And.intro (vals_len HA.out k (by omega)) (valB_len2 (List.all_eq_true.1 HA.out _ (List.mem_of_getElem? (gt_get hkl)))))
      clear ho1 hb1 e1 e2 e3
      go_wp2_with (at_builtin; (refine wpList_eatC rfl (.tmp 15) (.tmp 20) rfl rfl rfl HI.out (by rw [List.length_append]; have := HN.out; simp only [List.length_singleton]; omega) ?_); intro v' w' h'; have HI := Lib.hid h'; clear h')
      go_roundw
      case rel => exact ⟨k + 1, by omega, by go_num, by rw [vals_take hkl, ← List.append_assoc]; exact HI.out.drop⟩
      case measure => simp [intOf]; omega
    · go_wp2
      go_ret
      have h2 := HI.out.oa
      rw [List.take_of_length_le (by have := HL.out; omega)] at h2
      exact ⟨_, rfl, by unfold rowB; rw [HL.out]; exact h2, HI.out.below⟩

theorem own_lit2 {w : World} {B : Nat} {z y : Int} {a b : UInt8} (hz : z = (a.toNat : Int)) (hy : y = (b.toNat : Int)) (hB : B ≤ w.heap.size) : Own 5 B noB (w.alloc (.cells #[.int .u8 z, .int .u8 y] 5)) (.slice (some ⟨w.heap.size, 0, none⟩) 2 2) [a, b] := by
  refine own_bytes.2 ⟨rfl, .inr ⟨w.heap.size, 2, _, rfl, hB, heap_alloc_new _ _, Nat.le_refl _, by simp [maxLen], rfl, ?_⟩⟩
  rw [hz, hy]
  rfl
theorem R3.lit2C {w0 w : World} {a b c : VB} {z y : Int} {s t : UInt8} (h : R3 w0 w a b c) (hz : z = (s.toNat : Int)) (hy : y = (t.toNat : Int)) : R3 w0 (w.alloc (.cells #[.int .u8 z, .int .u8 y] 5)) a b (.slice (some ⟨w.heap.size, 0, none⟩) 2 2, [s, t]) :=
  h.setC (al1 _ _) (own_lit2 hz hy (Nat.le_refl _))
theorem u8_wrap {x : Int} (h : fitsN x 1 = true) : IntKind.u8.wrap x = x := by have := u8_byte h; unfold IntKind.wrap; simp [IntKind.bits, IntKind.signed]; omega
theorem u8_wrap_nat {n : Nat} (h : n ≤ 255) : IntKind.u8.wrap (n : Int) = (n : Int) := by unfold IntKind.wrap; simp [IntKind.bits, IntKind.signed]; omega
theorem nat_byte {n : Nat} (h : n ≤ 255) : (n : Int) = (((byteAt (n : Int) 0).toNat : Nat) : Int) := by rw [byteAt_int (by omega)]; simp; omega

theorem text_byte {t : ByteArray} : textB t = byteAt (t.size : Int) 0 :: t.data.toList := by
  have e : byteAt (t.size : Int) 0 = UInt8.ofNat t.size := by
    unfold byteAt
    apply UInt8.toNat_inj.1
    simp
  rw [e]
  rfl
theorem opB_flat {x : Opn} {n : Nat} (h : x.dots.length = n) : opB x = ([byteAt x.kind 0] ++ dotB x.dot) ++ numsB x.deps ++ stampB x.stamp ++ [byteAt x.table 0, byteAt (x.key.size : Int) 0] ++ x.key.data.toList ++ [byteAt x.col 0] ++ rowB x.vals ++ [byteAt (n : Int) 0] ++ x.dots.flatMap dotB := by
  unfold opB
  rw [be_one, be_one, be_one, be_one, text_byte, h]
  simp

set_option maxRecDepth 100000 in
set_option maxHeartbeats 2000000 in
theorem OpBytes_any {F : Blks} {w : World} {v : Value} {x : Opn} (hv : vr F w v x) (hf : OpFits x) :
    Calls Try.prog 53 #[v] w fun e w' => ∃ u, e = .returned u ∧ Own 5 w.heap.size noB w' u (opB x) ∧ Below w.heap.size w w' := by
  obtain ⟨p1, n1, c1, p2, n2, c2, p3, n3, c3, rfl, ⟨i1, i2, i3, i4, i5, i6, i7, i8, i9⟩, s1, s2, s3⟩ := hv
  obtain ⟨W, hW⟩ : ∃ W, W = w.alloc (.cells #[.int .i64 x.dot.peer, .int .i64 x.dot.n, .slice p1 n1 c1, .int .i64 x.stamp.phys, .int .i64 x.stamp.logic, .int .i64 x.stamp.peer, .int .i64 x.kind, .int .i64 x.table, .string x.key, .int .i64 x.col, .slice p2 n2 c2, .slice p3 n3 c3] 76) := ⟨_, rfl⟩
  have hbW : Below w.heap.size w W := by rw [hW]; exact al1 _ _
  have hWz : W.heap.size = w.heap.size + 1 := by rw [hW]; simp
  have hx : ∀ w', Below W.heap.size W w' → w'.heap[w.heap.size]? = some (.cells #[.int .i64 x.dot.peer, .int .i64 x.dot.n, .slice p1 n1 c1, .int .i64 x.stamp.phys, .int .i64 x.stamp.logic, .int .i64 x.stamp.peer, .int .i64 x.kind, .int .i64 x.table, .string x.key, .int .i64 x.col, .slice p2 n2 c2, .slice p3 n3 c3] 76 (0, 0)) := fun w' hb => (hb.block _ (by rw [hW]; simp)).trans (by rw [hW]; exact heap_alloc_new _ _)
  have HC := Lib.hid (fun (i : Nat) (u : Value) (w' : World) (h : (#[.int .i64 x.dot.peer, .int .i64 x.dot.n, .slice p1 n1 c1, .int .i64 x.stamp.phys, .int .i64 x.stamp.logic, .int .i64 x.stamp.peer, .int .i64 x.kind, .int .i64 x.table, .string x.key, .int .i64 x.col, .slice p2 n2 c2, .slice p3 n3 c3] : Array Value)[i]? = some u) (hb : Below W.heap.size W w') => (heap_cell (hx w' hb)).trans h)
  have HS := Lib.hid (fun w' (hb : Below W.heap.size W w') => And.intro (s1.grow (below2 hbW hb)) (And.intro (s2.grow (below2 hbW hb)) (s3.grow (below2 hbW hb))))
  have HL := Lib.hid (And.intro s1.len (And.intro s2.len s3.len))
  have HBW := Lib.hid hbW; have HWZ := Lib.hid hWz; have HF := Lib.hid hf
  have HDot := Lib.hid (fun w' => DotBytes_any (F := allB) (w := w') (v := .agg #[.int .i64 x.dot.peer, .int .i64 x.dot.n]) (d := x.dot) ⟨rfl, i1, i2⟩ hf.dot)
  have HStamp := Lib.hid (fun w' => StampBytes_any (F := allB) (w := w') (v := .agg #[.int .i64 x.stamp.phys, .int .i64 x.stamp.logic, .int .i64 x.stamp.peer]) (d := x.stamp) ⟨rfl, i3, i4, i5⟩ hf.stamp)
  have HVec := Lib.hid (fun w' (hb : Below W.heap.size W w') => VecBytes_any (HS.out w' hb).1 hf.deps)
  have HRow := Lib.hid (fun w' (hb : Below W.heap.size W w') => RowBytes_any (HS.out w' hb).2.1 hf.vals)
  have hn3 : n3 ≤ 64 := by have := hf.len; have := s3.len; omega
  have HN := Lib.hid (show (dotB x.dot).length = 5 ∧ (numsB x.deps).length ≤ 21 ∧ (stampB x.stamp).length = 10 ∧ (rowB x.vals).length ≤ 400 ∧ x.key.size ≤ 24 from
    ⟨dotB_len _, by rw [numsB_len]; have := hf.deps.len; omega, stampB_len _, rowB_len _ hf.vals, hf.key⟩)
  have w1 := u8_wrap hf.kind; have w2 := u8_wrap hf.table; have w3 := u8_wrap hf.col
  have w4 := u8_wrap_nat (n := x.key.size) (by have := hf.key; omega); have w5 := u8_wrap_nat (n := n3) (by omega)
  have K1 := Lib.hid (u8_byte hf.kind).2; have K2 := Lib.hid (u8_byte hf.table).2; have K3 := Lib.hid (u8_byte hf.col).2
  have K4 := Lib.hid (nat_byte (n := x.key.size) (by have := hf.key; omega)); have K5 := Lib.hid (nat_byte (n := n3) (by omega))
  have HI := Lib.hid (R3.start W).drew
  clear hx hbW hWz hf s1 s2 s3 i1 i2 i3 i4 i5
  go_enter Try.func53, Try.ntmps53
  go_wp2
  rw [← hW]
  clear hW
  go_cut [3] from 5 (fun v3 wc => R3 W wc (v3, [byteAt x.kind 0] ++ dotB x.dot) vb0 vb0)
  case first =>
    go_region_held3 (fun w' => w'.cell? ⟨w.heap.size, 0, none⟩ = some (.int .i64 x.dot.peer) ∧ w'.cell? ⟨w.heap.size, 1, none⟩ = some (.int .i64 x.dot.n) ∧ w'.cell? ⟨w.heap.size, 6, none⟩ = some (.int .i64 x.kind)) (first | exact ⟨HC.out 0 _ _ rfl (HI.out).below, HC.out 1 _ _ rfl (HI.out).below, HC.out 6 _ _ rfl (HI.out).below⟩ | exact ⟨HC.out 0 _ _ rfl (HI.out.litA K1.out).below, HC.out 1 _ _ rfl (HI.out.litA K1.out).below, HC.out 6 _ _ rfl (HI.out.litA K1.out).below⟩) (first
      | (refine step_eatB rfl (.tmp 8) (.tmp 11) rfl rfl rfl (by first | exact HI.out | exact HI.out.litA K1.out) (by have := HN.out; simp; omega) ?_; intro v' w' h'; have HI := Lib.hid h'; clear h')
      | (go_at_call 77; ((with_reducible refine (HDot.out _).mono ?_); rintro e w2 ⟨v2, rfl, ho2, hb2⟩; (first | have HI := Lib.hid (HI.out.setB hb2 ho2) | have HI := Lib.hid ((HI.out.litA K1.out).setB hb2 ho2)); clear ho2 hb2)))
    all_goals (go_wp2_with fail; go_meet; case rel => exact HI.out.drop)
  have HI := Lib.hid hcut.drew
  clear hcut
  go_wp2
  go_cut [3] from 5 (fun v3 wc => R3 W wc (v3, ([byteAt x.kind 0] ++ dotB x.dot) ++ numsB x.deps ++ stampB x.stamp) vb0 vb0)
  case first =>
    go_region_held3 (fun w' => w'.cell? ⟨w.heap.size, 2, none⟩ = some (.slice p1 n1 c1) ∧ w'.cell? ⟨w.heap.size, 3, none⟩ = some (.int .i64 x.stamp.phys) ∧ w'.cell? ⟨w.heap.size, 4, none⟩ = some (.int .i64 x.stamp.logic) ∧ w'.cell? ⟨w.heap.size, 5, none⟩ = some (.int .i64 x.stamp.peer)) (first | exact ⟨HC.out 2 _ _ rfl (HI.out).below, HC.out 3 _ _ rfl (HI.out).below, HC.out 4 _ _ rfl (HI.out).below, HC.out 5 _ _ rfl (HI.out).below⟩) (first
      | (refine step_eatB rfl (.tmp 13) (.tmp 16) rfl rfl rfl HI.out (by have := HN.out; simp; omega) ?_; intro v' w' h'; have HI := Lib.hid h'; clear h')
      | (refine step_eatC rfl (.tmp 17) (.tmp 20) rfl rfl rfl HI.out (by have := HN.out; simp; omega) ?_; intro v' w' h'; have HI := Lib.hid h'; clear h')
      | (go_at_call 51; ((with_reducible refine (HVec.out _ HI.out.below).mono ?_); rintro e w2 ⟨v2, rfl, ho2, hb2⟩; have HI := Lib.hid (HI.out.setB hb2 ho2); clear ho2 hb2))
      | (go_at_call 78; ((with_reducible refine (HStamp.out _).mono ?_); rintro e w2 ⟨v2, rfl, ho2, hb2⟩; have HI := Lib.hid (HI.out.setC hb2 ho2); clear ho2 hb2)))
    all_goals (go_wp2_with fail; go_meet; case rel => exact HI.out.drop)
  have HI := Lib.hid hcut.drew
  clear hcut
  go_wp2
  go_cut [3] from 5 (fun v3 wc => R3 W wc (v3, ([byteAt x.kind 0] ++ dotB x.dot) ++ numsB x.deps ++ stampB x.stamp ++ [byteAt x.table 0, byteAt (x.key.size : Int) 0] ++ x.key.data.toList) vb0 vb0)
  case first =>
    go_region_held3 (fun w' => w'.cell? ⟨w.heap.size, 7, none⟩ = some (.int .i64 x.table) ∧ w'.cell? ⟨w.heap.size, 8, none⟩ = some (.string x.key)) (first | exact ⟨HC.out 7 _ _ rfl (HI.out).below, HC.out 8 _ _ rfl (HI.out).below⟩ | exact ⟨HC.out 7 _ _ rfl (HI.out.lit2C K2.out K4.out).below, HC.out 8 _ _ rfl (HI.out.lit2C K2.out K4.out).below⟩) (first
      | (refine step_eatC rfl (.tmp 22) (.tmp 30) rfl rfl rfl (HI.out.lit2C K2.out K4.out) (by have := HN.out; simp; omega) ?_; intro v' w' h'; have HI := Lib.hid h'; clear h')
      | (refine step_eatS rfl (.tmp 31) (.tmp 33) rfl Try.underlying9 rfl rfl HI.out (by have := HN.out; simp; omega) ?_; intro v' w' h'; have HI := Lib.hid h'; clear h'))
    all_goals (go_wp2_with fail; go_meet; case rel => exact HI.out.drop)
  have HI := Lib.hid hcut.drew
  clear hcut
  go_wp2
  go_cut [3] from 5 (fun v3 wc => R3 W wc (v3, ([byteAt x.kind 0] ++ dotB x.dot) ++ numsB x.deps ++ stampB x.stamp ++ [byteAt x.table 0, byteAt (x.key.size : Int) 0] ++ x.key.data.toList ++ [byteAt x.col 0] ++ rowB x.vals) vb0 vb0)
  case first =>
    go_region_held3 (fun w' => w'.cell? ⟨w.heap.size, 9, none⟩ = some (.int .i64 x.col) ∧ w'.cell? ⟨w.heap.size, 10, none⟩ = some (.slice p2 n2 c2)) (first | exact ⟨HC.out 9 _ _ rfl (HI.out).below, HC.out 10 _ _ rfl (HI.out).below⟩ | exact ⟨HC.out 9 _ _ rfl (HI.out.litC K3.out).below, HC.out 10 _ _ rfl (HI.out.litC K3.out).below⟩) (first
      | (refine step_eatC rfl (.tmp 35) (.tmp 39) rfl rfl rfl (by first | exact HI.out | exact HI.out.litC K3.out) (by have := HN.out; simp; omega) ?_; intro v' w' h'; have HI := Lib.hid h'; clear h')
      | (refine step_eatB rfl (.tmp 40) (.tmp 43) rfl rfl rfl HI.out (by have := HN.out; simp; omega) ?_; intro v' w' h'; have HI := Lib.hid h'; clear h')
      | (go_at_call 79; ((first | (with_reducible refine (HRow.out _ HI.out.below).mono ?_) | (with_reducible refine (HRow.out _ (HI.out.litC K3.out).below).mono ?_)); rintro e w2 ⟨v2, rfl, ho2, hb2⟩; (first | have HI := Lib.hid (HI.out.setB hb2 ho2) | have HI := Lib.hid ((HI.out.litC K3.out).setB hb2 ho2)); clear ho2 hb2)))
    all_goals (go_wp2_with fail; go_meet; case rel => exact HI.out.drop)
  have x11 := HC.out 11 _ _ rfl hcut.below
  have y11 := fun o => HC.out 11 _ _ rfl (below2 hcut.below (al1 _ o))
  have HI := Lib.hid (hcut.litC K5.out)
  have HLn := Lib.hid (show (([byteAt x.kind 0] ++ dotB x.dot) ++ numsB x.deps ++ stampB x.stamp ++ [byteAt x.table 0, byteAt (x.key.size : Int) 0] ++ x.key.data.toList ++ [byteAt x.col 0] ++ rowB x.vals).length ≤ 1000 by have := HN.out; simp; omega)
  clear hcut
  obtain ⟨B, hB⟩ : ∃ B, B = ([byteAt x.kind 0] ++ dotB x.dot) ++ numsB x.deps ++ stampB x.stamp ++ [byteAt x.table 0, byteAt (x.key.size : Int) 0] ++ x.key.data.toList ++ [byteAt x.col 0] ++ rowB x.vals := ⟨_, rfl⟩
  rw [← hB] at HI HLn
  have HB := Lib.hid hB
  clear hB
  go_wp2_with (at_builtin; (refine wpList_eatC rfl (.tmp 45) (.tmp 50) rfl rfl rfl HI.out (by have := HLn.out; simp; omega) ?_); intro v' w' h'; have HI := Lib.hid h'.drop; clear h' x11 y11)
  go_loopw [3, 4] (fun v i wr => ∃ k : Nat, k ≤ n3 ∧ i = .int .i64 k ∧ R3 W wr (v, B ++ [byteAt (n3 : Int) 0] ++ (x.dots.take k).flatMap dotB) vb0 vb0) (fun _ i _ => n3 - (intOf i).toNat)
  case atStart => exact ⟨0, Nat.zero_le _, rfl, by simpa using HI.out⟩
  case round =>
    obtain ⟨k, hk, rfl, hr⟩ := hrel
    have HI := Lib.hid hr
    have x11 := HC.out 11 _ _ rfl hr.below
    clear hr
    by_cases hlt : k < n3
    · obtain ⟨b, o, rfl, _, _, e1, e2, j1, j2⟩ := (HS.out _ HI.out.below).2.2.dot hlt
      have hkl : k < x.dots.length := by have := HL.out; omega
      go_wp2_with fail
      refine (DotBytes_any (F := allB) (d := gt x.dots k) ⟨rfl, j1, j2⟩ (HF.out.dots _ (List.mem_of_getElem? (gt_get hkl)))).mono ?_
      rintro e w1 ⟨v1, rfl, ho1, hb1⟩
      have HI := Lib.hid (HI.out.setC hb1 ho1)
      clear ho1 hb1 e1 e2 x11
      go_wp2_with (at_builtin; (refine wpList_eatC rfl (.tmp 59) (.tmp 65) rfl rfl rfl HI.out (by have := HLn.out; rw [dotB_len, List.length_append, List.length_append, dotsB_len, List.length_take]; simp; omega) ?_); intro v' w' h'; have HI := Lib.hid h'; clear h')
      go_roundw
      case rel => exact ⟨k + 1, by omega, by go_num, by rw [take_snoc' hkl, List.flatMap_append, ← List.append_assoc]; simpa using HI.out.drop⟩
      case measure => simp [intOf]; omega
    · go_wp2
      go_ret
      have h2 := HI.out.oa
      rw [List.take_of_length_le (by have := HL.out; omega), HB.out] at h2
      refine ⟨_, rfl, ?_, below2 HBW.out HI.out.below⟩
      have h3 := h2.base (B' := w.heap.size) (by have := HWZ.out; omega)
      have e : opB x = _ := opB_flat (x := x) (n := n3) HL.out.2.2
      rw [e]
      exact h3
end Go.Proofs.Ytpmdkmpmpjdglaa
