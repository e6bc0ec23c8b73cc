/- The law NetBack, walked. -/
import Derived.Test.YtpmdkmpmpjdglaaMRead
import Derived.Test.YtpmdkmpmpjdglaaHeavyM
import Derived.Test.YtpmdkmpmpjdglaaKeepM
import Derived.Test.YtpmdkmpmpjdglaaWOp
set_option linter.unusedSimpArgs false
set_option linter.unusedVariables false
namespace Go.Proofs.Ytpmdkmpmpjdglaa
open Go Go.RowKit
open Rep (vr)

theorem smallOps {m : Msg} (h : SmallM m) : ∀ x ∈ m.ops, OpOk x := fun x hx => opOk (h.2.2.2 x hx)
theorem msgB_body {m : Msg} (h : msgErr m = 0) : MsgFits m ∧ msgB m = sealed (msgBody m) ∧ (msgBody m).length ≤ 65532 := by
  have hb : msgB m = sealed (wMsg m).1 := by unfold msgB; rw [if_pos h]
  unfold msgErr at h
  by_cases h1 : 65535 < m.ops.length
  · rw [if_pos h1] at h; cases h
  · rw [if_neg h1] at h
    cases hbad : (wMsg m).2 with
    | true => rw [hbad, if_pos rfl] at h; cases h
    | false =>
      rw [hbad, if_neg (by decide)] at h
      by_cases h2 : 65532 < (wMsg m).1.length
      · rw [if_pos h2] at h; cases h
      · obtain ⟨hf, he⟩ := wMsg_ok hbad
        rw [he] at hb h2
        exact ⟨hf, hb, by omega⟩
theorem msgB_len {m : Msg} (h : msgErr m = 0) : (msgB m).length ≤ 65536 := by
  obtain ⟨_, h1, h2⟩ := msgB_body h
  rw [h1, sealed_len]
  omega
theorem u64_mod (at_ : Int) (n : Nat) (h : 0 < n) : ∃ r : Nat, (IntKind.u64.wrap at_).tmod (n : Int) = (r : Int) ∧ r < n := by
  have h0 : 0 ≤ IntKind.u64.wrap at_ := by simp only [IntKind.wrap, IntKind.bits, IntKind.signed]; simp; exact Int.emod_nonneg _ (by decide)
  obtain ⟨m, hm⟩ := Int.eq_ofNat_of_zero_le h0
  exact ⟨m % n, by rw [hm]; rfl, Nat.mod_lt _ h⟩

theorem Sl.one {α : Type} [Rep α] [Inhabited α] {F : Blks} {w : World} {p : Option Addr} {n c k : Nat} {l : List α} (h : Sl F w p n c l) (hk : k < n) :
    Sl F w (if c = k then p else p.map (·.add (k * Rep.size α))) 1 (c - k) [gt l k] := by
  have hl := h.len
  have h1 := (h.take (k := k + 1) (by omega)).drop (k := k) (by omega)
  have e5 : (l.take (k + 1)).drop k = [gt l k] := by
    rw [List.take_succ_eq_append_getElem (by omega), List.drop_append_of_le_length (by simp; omega), List.drop_take, gt_eq (List.getElem?_eq_getElem (by omega))]
    simp
  rw [e5, show k + 1 - k = 1 by omega] at h1
  exact h1
theorem snoc_cut {α : Type} {l : List α} {x : α} {n : Nat} (h : l.length = n) : (l ++ [x]).take n ++ (l ++ [x]).drop (n + 1) = l := by
  rw [← h, List.take_left, List.drop_eq_nil_of_le (by simp), List.append_nil]
theorem snoc_gt {α : Type} [Inhabited α] {l : List α} {x : α} {n : Nat} (h : l.length = n) : gt (l ++ [x]) n = x := by
  apply gt_eq
  rw [← h, List.getElem?_append_right (Nat.le_refl _), Nat.sub_self]
  rfl

set_option maxRecDepth 100000 in
set_option maxHeartbeats 400000 in
theorem NetBack_heavyL {F G : Blks} {p : Option Addr} {n c : Nat} {l : List Letter} {v : Value} {m : Msg} {w : World} {at_ : Int} (h1 : Sl F w p n c l) (hv : vr G w v m) (hh : heavyL l = true) :
    Calls Try.prog 7 #[.slice p n c, v, .int .i64 at_] w fun e w' => e = .returned (.bool true) ∧ Below w.heap.size w w' := by
  obtain ⟨p1, n1, c1, p2, n2, c2, p3, n3, c3, rfl, hi, s1, s2, s3⟩ := hv
  have H1 := Lib.hid (h1.grow (al1 w (.cells #[.int .i64 m.kind, .int .i64 m.fr, .int .i64 m.to, .slice p1 n1 c1, .slice p2 n2 c2, .slice p3 n3 c3] 26)))
  clear s1 s2 s3 h1
  go_enter Try.func7, Try.ntmps7
  go_wp2_with fail
  refine (Heavy_any H1.out).mono ?_
  rintro e w1 ⟨rfl, rfl⟩
  rw [hh]
  go_wp2
  go_ret
  exact ⟨rfl, al1 _ _⟩

set_option maxRecDepth 100000 in
set_option maxHeartbeats 1000000 in
theorem NetBack_light {F G : Blks} {p : Option Addr} {n c : Nat} {l : List Letter} {v : Value} {m : Msg} {w : World} {at_ : Int} (h1 : Sl F w p n c l) (hv : vr G w v m) (hh : heavyL l = false) :
    Calls Try.prog 7 #[.slice p n c, v, .int .i64 at_] w fun e w' => e = .returned (.bool true) ∧ Below w.heap.size w w' := by
  obtain ⟨p1, n1, c1, p2, n2, c2, p3, n3, c3, rfl, hi, s1, s2, s3⟩ := hv
  obtain ⟨W, hW⟩ : ∃ W, W = w.alloc (.cells #[.int .i64 m.kind, .int .i64 m.fr, .int .i64 m.to, .slice p1 n1 c1, .slice p2 n2 c2, .slice p3 n3 c3] 26) := ⟨_, rfl⟩
  have hbW : Below w.heap.size w W := by rw [hW]; exact al1 _ _
  have hWx : W.heap[w.heap.size]? = some (.cells #[.int .i64 m.kind, .int .i64 m.fr, .int .i64 m.to, .slice p1 n1 c1, .slice p2 n2 c2, .slice p3 n3 c3] 26 (0, 0)) := by rw [hW]; exact heap_alloc_new _ _
  have hc : ∀ (i : Nat) (u : Value), (#[.int .i64 m.kind, .int .i64 m.fr, .int .i64 m.to, .slice p1 n1 c1, .slice p2 n2 c2, .slice p3 n3 c3] : Array Value)[i]? = some u → ∀ w', Below W.heap.size W w' → w'.cell? ⟨w.heap.size, i, none⟩ = some u := fun i u h w' hb => cell_later hb ((heap_cell hWx).trans h)
  have hvm : ∀ w', Below W.heap.size W w' → vr G w' (.agg #[.int .i64 m.kind, .int .i64 m.fr, .int .i64 m.to, .slice p1 n1 c1, .slice p2 n2 c2, .slice p3 n3 c3]) m := fun w' hb => by
    have hb2 := below2 hbW hb
    exact ⟨p1, n1, c1, p2, n2, c2, p3, n3, c3, rfl, hi, s1.grow hb2, s2.grow hb2, s3.grow hb2⟩
  obtain ⟨hn60, hl300⟩ := not_heavyL hh
  have hln := h1.len
  have hn : n ≤ 60 := by omega
  have hl2 : ∀ x ∈ l, x.body.length ≤ 140737488355328 := fun x hx => Nat.le_trans (hl300 x hx) (by decide)
  have e0 := hc 0 _ rfl; have e1 := hc 1 _ rfl; have e2 := hc 2 _ rfl; have e3 := hc 3 _ rfl; have e4 := hc 4 _ rfl; have e5 := hc 5 _ rfl
  have H1 := Lib.hid (fun w' (hb : Below W.heap.size W w') => h1.grow (below2 hbW hb)); have HH := Lib.hid hh; have HL2 := Lib.hid hl2; have HLN := Lib.hid hln; have HV := Lib.hid hvm; have HBW := Lib.hid hbW
  have HC := Lib.hid (fun w' (hb : Below W.heap.size W w') => And.intro (e0 w' hb) (And.intro (e1 w' hb) (And.intro (e2 w' hb) (And.intro (e3 w' hb) (And.intro (e4 w' hb) (e5 w' hb))))))
  clear h1 hh hl2 hl300 hn60 hln hvm hbW hWx hc s1 s2 s3 hi e0 e1 e2 e3 e4 e5
  go_enter Try.func7, Try.ntmps7
  go_wp2_with fail
  rw [← hW]
  clear hW
  refine (Heavy_any (H1.out _ (Below.refl _ _))).mono ?_
  rintro e w1 ⟨rfl, rfl⟩
  rw [HH.out]
  obtain ⟨x0, x1, x2, x3, x4, x5⟩ := HC.out W (Below.refl _ _)
  go_wp2_with fail
  refine (HeavyM_any (HV.out _ (Below.refl _ _))).mono ?_
  rintro e w1 ⟨b, rfl, hb, hb1⟩
  have HB := Lib.hid hb; have HB1 := Lib.hid hb1
  clear hb hb1 x0 x1 x2 x3 x4 x5
  cases b with
  | true =>
    go_wp2
    go_ret
    exact ⟨rfl, below2 HBW.out HB1.out⟩
  | false =>
    have hsm := (HB.out.out rfl).1
    have HSM := Lib.hid hsm; have HOP := Lib.hid (smallOps hsm)
    obtain ⟨x0, x1, x2, x3, x4, x5⟩ := HC.out w1 HB1.out
    clear hsm
    by_cases he : msgErr m = 0
    · obtain ⟨hfits, hbody, hblen⟩ := msgB_body he
      have hml := msgB_len he
      obtain ⟨x, hx⟩ : ∃ x : Letter, x = ⟨m.fr, m.to, msgB m⟩ := ⟨_, rfl⟩
      have hxs : ∀ y ∈ l ++ [x], y.body.length ≤ 140737488355328 := fun y hy => by
        rcases List.mem_append.1 hy with h | h
        · exact HL2.out y h
        · rw [List.mem_singleton.1 h, hx]; simp only; omega
      have hcut : (l ++ [x]).take n ++ (l ++ [x]).drop (n + 1) = l := by
        have := HLN.out
        rw [← this, List.take_left, List.drop_eq_nil_of_le (by simp), List.append_nil]
      have hgx : gt (l ++ [x]) n = x := by
        have := HLN.out
        apply gt_eq
        rw [← this, List.getElem?_append_right (Nat.le_refl _), Nat.sub_self]
        rfl
      have hl1 : (l ++ [x]).length = n + 1 := by have := HLN.out; simp; omega
      have HFI := Lib.hid hfits; have HBO := Lib.hid hbody; have HBL := Lib.hid hblen; have HXS := Lib.hid hxs; have HCU := Lib.hid hcut; have HGX := Lib.hid hgx; have HL1 := Lib.hid hl1; have HX := Lib.hid hx
      clear hfits hbody hblen hml hxs hcut hgx hl1 hx
      go_wp2_with fail
      refine (Put_yes (F := allB) ((H1.out _ HB1.out).mono fun _ _ => trivial) (by omega) HL2.out (vr_all (HV.out _ HB1.out)) HSM.out HOP.out he).mono ?_
      rintro e w2 ⟨v2, rfl, ho2, hb2⟩
      rw [← HX.out] at ho2
      obtain ⟨q2, d2, rfl, hs2⟩ := ho2.sl
      rw [HL1.out] at hs2 ⊢
      have HB2 := Lib.hid (below2 HB1.out hb2)
      have HS2 := Lib.hid (hs2.mono (G := allB) fun _ _ => trivial)
      have hle2 := hs2.le
      have hmx2 : d2 ≤ 9223372036854775807 := by have := hs2.max; unfold maxLen at this; exact this
      clear ho2 hs2 hb2 x0 x1 x2 x3 x4 x5 he
      go_wp2_with fail
      refine (Take_yes (k := n) HS2.out (by omega) (by omega) HXS.out).mono ?_
      rintro e w3 ⟨v3, u3, rfl, ho3, hu3, hb3⟩
      rw [HCU.out] at ho3
      rw [HGX.out] at hu3
      obtain ⟨q3, d3, rfl, hs3⟩ := ho3.sl
      rw [HLN.out] at hs3 ⊢
      obtain ⟨q4, n4, d4, rfl, hi4, hs4⟩ := hu3
      rw [HX.out] at hs4
      simp only at hs4
      rw [HBO.out] at hs4
      have hxf : x.fr = m.fr := by rw [HX.out]
      have hxt : x.to = m.to := by rw [HX.out]
      rw [hxf, hxt]
      have HS3 := Lib.hid (hs3.mono (G := allB) fun _ _ => trivial); have HS4 := Lib.hid hs4; have HB3 := Lib.hid (below2 HB2.out hb3); have HS23 := Lib.hid (HS2.out.grow hb3)
      clear ho3 hs3 hs4 hb3 hi4 hxf hxt
      go_wp2_with fail
      refine (MsgRead_ok (m := m) (HS4.out.grow (al1 _ _)) HBL.out HFI.out).mono ?_
      rintro e w4 ⟨v4, rfl, hv4, hb4⟩
      obtain ⟨r1, k1, t1, r2, k2, t2, r3, k3, t3, rfl, hi4, g1, g2, g3⟩ := hv4
      have hb34 : Below w3.heap.size w3 w4 := below2 (al1 _ _) hb4
      have HB4 := Lib.hid (below2 HB3.out hb34)
      have hz4 : w3.heap.size < w4.heap.size := by have := hb4.size; simp at this; omega
      have HF4 := Lib.hid (And.intro (cell_later hb4 (a := ⟨w3.heap.size, 0, none⟩) (v := .int .i64 m.fr) (by go_simp)) (cell_later hb4 (a := ⟨w3.heap.size, 1, none⟩) (v := .int .i64 m.to) (by go_simp)))
      have HG4 := Lib.hid (And.intro g1 (And.intro g2 g3))
      have HA4 := Lib.hid (al1 w4 (.cells #[.int .i64 m.kind, .int .i64 m.fr, .int .i64 m.to, .slice r1 k1 t1, .slice r2 k2 t2, .slice r3 k3 t3] 26))
      have HS34 := Lib.hid (HS3.out.grow hb34); have HS24 := Lib.hid (HS23.out.grow hb34)
      clear hb4 hb34 g1 g2 g3
      go_wp2_with fail
      refine (Letters_eq (HS34.out.grow HA4.out) (H1.out _ (below2 HB4.out HA4.out))).mono ?_
      rintro e w5 ⟨rfl, hb5⟩
      have hx5 := (hb5.block w4.heap.size (by simp)).trans (heap_alloc_new w4 _)
      have y0 := heap_cell (i := 0) hx5; have y1 := heap_cell (i := 1) hx5; have y2 := heap_cell (i := 2) hx5; have y3 := heap_cell (i := 3) hx5; have y4 := heap_cell (i := 4) hx5; have y5 := heap_cell (i := 5) hx5
      simp only [List.getElem?_toArray, List.getElem?_cons_succ, List.getElem?_cons_zero] at y0 y1 y2 y3 y4 y5
      have HB45 := Lib.hid (below2 HA4.out hb5)
      have HB5 := Lib.hid (below2 HB4.out HB45.out)
      obtain ⟨x0, x1, x2, x3, x4, x5⟩ := HC.out w5 HB5.out
      clear hb5 hx5
      go_wp2_with fail
      refine (Msg_eq (F := newB (w3.alloc (.cells #[.int .i64 m.fr, .int .i64 m.to, .slice q4 n4 d4] 39))) (G := G) (x := m) ⟨r1, k1, t1, r2, k2, t2, r3, k3, t3, rfl, hi4, HG4.out.1.grow HB45.out, HG4.out.2.1.grow HB45.out, HG4.out.2.2.grow HB45.out⟩ (HV.out _ HB5.out)).mono ?_
      rintro e w6 ⟨rfl, hb6⟩
      clear x0 x1 x2 x3 x4 x5 y0 y1 y2 y3 y4 y5
      have HB46 := Lib.hid (below2 HB45.out hb6)
      have HB6 := Lib.hid (below2 HB4.out HB46.out)
      obtain ⟨x0, x1, x2, x3, x4, x5⟩ := HC.out w6 HB6.out
      have z0 := cell_later HB46.out HF4.out.1
      have z1 := cell_later HB46.out HF4.out.2
      clear x0 x3 x4 x5 hb6
      have HS26 := Lib.hid (HS24.out.grow HB46.out)
      obtain ⟨k, hk, hkn⟩ := u64_mod at_ (n + 1) (by omega)
      have hk' : (IntKind.u64.wrap at_).tmod ((n : Int) + 1) = (k : Int) := by rw [← hk]; rfl
      have hkw : IntKind.i64.wrap (k : Int) = (k : Int) := IntWalk.i64_in _ (by omega)
      clear hk
      go_wp2_with fail
      obtain ⟨l', hl'⟩ : ∃ l', l' = l ++ [x] := ⟨_, rfl⟩
      rw [← hl'] at HS26 HL1 HXS
      clear HCU HGX HX HS23 HS2 HS24
      refine (Copy_yes (k := k) HS26.out (by omega) (by omega) HXS.out).mono ?_
      rintro e w7 ⟨v7, rfl, ho7, hb7⟩
      obtain ⟨q7, d7, rfl, hs7⟩ := ho7.sl
      have hl7 : (l' ++ [gt l' k]).length = n + 2 := by have := HL1.out; simp; omega
      have hy7 : ∀ y ∈ l' ++ [gt l' k], y.body.length ≤ 140737488355328 := fun y hy => by
        rcases List.mem_append.1 hy with h | h
        · exact HXS.out y h
        · rw [List.mem_singleton.1 h]; exact HXS.out _ (List.mem_of_getElem? (gt_get (by have := HL1.out; omega)))
      rw [hl7] at hs7 ⊢
      have hT := Take_yes (k := n + 1) hs7 (by omega) (by omega) hy7
      rw [snoc_cut HL1.out, snoc_gt HL1.out, show ((n + 1 : Nat) : Int) = (n : Int) + 1 by omega] at hT
      have HT := Lib.hid hT
      have HB7 := Lib.hid (below2 HB6.out hb7); have HS27 := Lib.hid (HS26.out.grow hb7)
      clear ho7 hs7 hl7 hy7 hT hb7 x1 x2 z0 z1 hl'
      go_wp2_with fail
      refine HT.out.mono ?_
      rintro e w8 ⟨v8, u8, rfl, ho8, hu8, hb8⟩
      obtain ⟨q8, d8, rfl, hs8⟩ := ho8.sl
      rw [HL1.out] at hs8 ⊢
      have HU8 := Lib.hid hu8
      obtain ⟨q9, n9, d9, rfl, -⟩ := hu8
      obtain ⟨W8, hW8⟩ : ∃ W8, W8 = w8.alloc (.cells #[.int .i64 (gt l' k).fr, .int .i64 (gt l' k).to, .slice q9 n9 d9] 39) := ⟨_, rfl⟩
      have hb88 : Below w8.heap.size w8 W8 := by rw [hW8]; exact al1 _ _
      have hx8 : W8.heap[w8.heap.size]? = some (.cells #[.int .i64 (gt l' k).fr, .int .i64 (gt l' k).to, .slice q9 n9 d9] 39 (0, 0)) := by rw [hW8]; exact heap_alloc_new _ _
      have f0 : ∀ w', Below W8.heap.size W8 w' → w'.cell? ⟨w8.heap.size, 0, none⟩ = some (.int .i64 (gt l' k).fr) := fun w' h => cell_later h (heap_cell hx8)
      have f1 : ∀ w', Below W8.heap.size W8 w' → w'.cell? ⟨w8.heap.size, 1, none⟩ = some (.int .i64 (gt l' k).to) := fun w' h => cell_later h (heap_cell hx8)
      have f2 : ∀ w', Below W8.heap.size W8 w' → w'.cell? ⟨w8.heap.size, 2, none⟩ = some (.slice q9 n9 d9) := fun w' h => cell_later h (heap_cell hx8)
      have HB8 := Lib.hid (below2 (below2 HB7.out hb8) hb88)
      have HS8 := Lib.hid ((hs8.grow hb88).mono (G := allB) fun _ _ => trivial)
      have HS28 := Lib.hid (HS27.out.grow (below2 hb8 hb88))
      have HZ8 := Lib.hid (vr_all (vr_grow HU8.out hb88))
      have HS1 := Lib.hid (HS28.out.one (k := k) hkn)
      have hkd : k ≤ d2 := by omega
      have hkd1 : k + 1 ≤ d2 := by omega
      have hk0 : (0 : Int) ≤ (k : Int) + 1 := by omega
      have hki : (k : Int) ≤ (k : Int) + 1 := by omega
      have hkdi : (k : Int) + 1 ≤ (d2 : Int) := by omega
      have hk3 : ((k : Int) + 1).toNat = k + 1 := by omega
      have hm3 : IntKind.i64.wrap ((k : Int) + 1) = ((k + 1 : Nat) : Int) := by rw [IntWalk.i64_in _ (by omega)]; omega
      clear ho8 hs8 hb8 hb88 hx8 HB7 HS27 hk' hkw HT HU8
      go_wp2
      rw [← hW8]
      clear hW8
      refine wp_flowL 25 [(9, .exact [] (.bool true)), (13, .unk [] fun _ v wr => ∃ q, v = .slice (some q) 1 1 ∧ Sl allB wr (some q) 1 1 [gt l' k]), (19, .exact [13] (.bool true)), (22, .exact [] (.bool true))] (by kernel_rfl) (by kernel_rfl) ?_ ?_
      · refine ⟨?_, trivial⟩
        rintro _ v w1 w2 _ ⟨q, hv, h⟩ hb
        exact ⟨q, hv, h.grow hb⟩
      repeat (first
        | (refine Flow.skip_ rfl ?_; simp only [Act.put, List.setIfInBounds_toArray, List.set_cons_zero, List.set_cons_succ, Nat.reduceAdd])
        | (refine Flow.pure_ (v := ?_) rfl rfl ?_ ?_; rotate_left; focus (intro w hb; go_simp; try with_reducible rfl)
           simp only [Act.put, List.setIfInBounds_toArray, List.set_cons_zero, List.set_cons_succ, Nat.reduceAdd]))
      refine Flow.exact_ rfl rfl ?_ ?_
      · intro wf hb hk
        (try simp only [holdsF, lookF, lookV, List.map_cons, List.map_nil, List.headD_cons, List.getD_cons_zero, List.getD_cons_succ, Nat.reduceEqDiff, Nat.reduceAdd, ↓reduceIte, and_true] at hk ⊢)
        skip
        go_simp
        (refine (Letters_eq (HS8.out.grow hb) (HS28.out.grow hb)).mono ?_; rintro e w' ⟨rfl, hb'⟩; exact ⟨_, rfl, rfl, hb'⟩)
      simp only [Act.put, List.setIfInBounds_toArray, List.set_cons_zero, List.set_cons_succ, Nat.reduceAdd]
      repeat (first
        | (refine Flow.skip_ rfl ?_; simp only [Act.put, List.setIfInBounds_toArray, List.set_cons_zero, List.set_cons_succ, Nat.reduceAdd])
        | (refine Flow.pure_ (v := ?_) rfl rfl ?_ ?_; rotate_left; focus (intro w hb; go_simp; try with_reducible rfl)
           simp only [Act.put, List.setIfInBounds_toArray, List.set_cons_zero, List.set_cons_succ, Nat.reduceAdd]))
      refine Flow.unk_ rfl rfl ?_ ?_
      · intro wf hb hk
        (try simp only [holdsF, lookF, lookV, List.map_cons, List.map_nil, List.headD_cons, List.getD_cons_zero, List.getD_cons_succ, Nat.reduceEqDiff, Nat.reduceAdd, ↓reduceIte, and_true] at hk ⊢)
        skip
        go_simp
        (exact ⟨al1 _ _, Sl.lit (α := Letter) (xs := [gt l' k]) (t := 39) (fz := (0, 0)) (heap_alloc_new _ _) [_] rfl rfl (elems1 (vr_grow (vr_grow HZ8.out hb) (al1 _ _))) trivial (by simp)⟩)
      intro v35
      simp only [Act.put, List.setIfInBounds_toArray, List.set_cons_zero, List.set_cons_succ, Nat.reduceAdd]
      (try simp only [holdsF, lookF, lookV, List.map_cons, List.map_nil, List.headD_cons, List.getD_cons_zero, List.getD_cons_succ, Nat.reduceEqDiff, Nat.reduceAdd, ↓reduceIte, and_true])
      repeat (first
        | (refine Flow.skip_ rfl ?_; simp only [Act.put, List.setIfInBounds_toArray, List.set_cons_zero, List.set_cons_succ, Nat.reduceAdd])
        | (refine Flow.pure_ (v := ?_) rfl rfl ?_ ?_; rotate_left; focus (intro w hb; go_simp; try with_reducible rfl)
           simp only [Act.put, List.setIfInBounds_toArray, List.set_cons_zero, List.set_cons_succ, Nat.reduceAdd]))
      refine Flow.exact_ rfl rfl ?_ ?_
      · intro wf hb hk
        (try simp only [holdsF, lookF, lookV, List.map_cons, List.map_nil, List.headD_cons, List.getD_cons_zero, List.getD_cons_succ, Nat.reduceEqDiff, Nat.reduceAdd, ↓reduceIte, and_true] at hk ⊢)
        skip
        go_simp
        (obtain ⟨q, rfl, h35⟩ := hk; refine (Letters_eq h35 (HS1.out.grow hb)).mono ?_; rintro e w' ⟨rfl, hb'⟩; exact ⟨_, rfl, rfl, hb'⟩)
      simp only [Act.put, List.setIfInBounds_toArray, List.set_cons_zero, List.set_cons_succ, Nat.reduceAdd]
      repeat (first
        | (refine Flow.skip_ rfl ?_; simp only [Act.put, List.setIfInBounds_toArray, List.set_cons_zero, List.set_cons_succ, Nat.reduceAdd])
        | (refine Flow.pure_ (v := ?_) rfl rfl ?_ ?_; rotate_left; focus (intro w hb; go_simp; try with_reducible rfl)
           simp only [Act.put, List.setIfInBounds_toArray, List.set_cons_zero, List.set_cons_succ, Nat.reduceAdd]))
      refine Flow.exact_ rfl rfl ?_ ?_
      · intro wf hb hk
        (try simp only [holdsF, lookF, lookV, List.map_cons, List.map_nil, List.headD_cons, List.getD_cons_zero, List.getD_cons_succ, Nat.reduceEqDiff, Nat.reduceAdd, ↓reduceIte, and_true] at hk ⊢)
        skip
        go_simp
        (refine wakes_any.mono ?_; rintro e w' ⟨rfl, hb'⟩; exact ⟨_, rfl, rfl, hb'⟩)
      simp only [Act.put, List.setIfInBounds_toArray, List.set_cons_zero, List.set_cons_succ, Nat.reduceAdd]
      repeat (first
        | (refine Flow.skip_ rfl ?_; simp only [Act.put, List.setIfInBounds_toArray, List.set_cons_zero, List.set_cons_succ, Nat.reduceAdd])
        | (refine Flow.pure_ (v := ?_) rfl rfl ?_ ?_; rotate_left; focus (intro w hb; go_simp; try with_reducible rfl)
           simp only [Act.put, List.setIfInBounds_toArray, List.set_cons_zero, List.set_cons_succ, Nat.reduceAdd]))
      refine Flow.done_ (fun wr hbr hk => ?_)
      go_wp2
      all_goals
        go_ret
        exact ⟨rfl, below2 HBW.out (below2 HB8.out hbr)⟩
    · have hd : (msgErr m == 0) = false := by simpa using he
      have hd2 : (msgErr m != 0) = true := by simpa using he
      go_wp2_with fail
      refine (Put_bad (HV.out _ HB1.out) HSM.out HOP.out he).mono ?_
      rintro e w2 ⟨rfl, hb2⟩
      have HB2 := Lib.hid (below2 HB1.out hb2)
      clear x0 x1 x2 x3 x4 x5 hb2
      obtain ⟨x0, x1, x2, x3, x4, x5⟩ := HC.out w2 HB2.out
      go_wp2_with fail
      refine (MsgBytes_any (HV.out _ HB2.out) HSM.out HOP.out).mono ?_
      rintro e w3 ⟨v3, rfl, ho3, hb3⟩
      have HB3 := Lib.hid (below2 HB2.out hb3)
      clear x0 x1 x2 x3 x4 x5 hb3 ho3
      go_wp2_with fail
      refine wakes_any.mono ?_
      rintro e w4 ⟨rfl, hb4⟩
      go_wp2
      go_ret
      exact ⟨rfl, below2 HBW.out (below2 HB3.out hb4)⟩

theorem NetBack_any {F G : Blks} {p : Option Addr} {n c : Nat} {l : List Letter} {v : Value} {m : Msg} {w : World} {at_ : Int} (h1 : Sl F w p n c l) (hv : vr G w v m) :
    Calls Try.prog 7 #[.slice p n c, v, .int .i64 at_] w fun e w' => e = .returned (.bool true) ∧ Below w.heap.size w w' := by
  cases hh : heavyL l with
  | true => exact NetBack_heavyL h1 hv hh
  | false => exact NetBack_light h1 hv hh
end Go.Proofs.Ytpmdkmpmpjdglaa
