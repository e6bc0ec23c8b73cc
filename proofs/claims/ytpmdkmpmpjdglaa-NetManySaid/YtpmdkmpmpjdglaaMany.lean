/- The law NetMany, walked. -/
import Derived.Test.YtpmdkmpmpjdglaaBacks
set_option linter.unusedSimpArgs false
set_option linter.unusedVariables false
namespace Go.Proofs.Ytpmdkmpmpjdglaa
open Go Go.RowKit
open Rep (vr)

theorem Sl.msg {F : Blks} {w : World} {p : Option Addr} {n cap : Nat} {x : List Msg} (h : Sl F w p n cap x) {i : Nat} (hi : i < n) : ∃ b o p1 n1 c1 p2 n2 c2 p3 n3 c3, p = some ⟨b, o, none⟩ ∧ F b ∧ b < w.heap.size ∧
    (w.cell? ⟨b, o + i * 6, none⟩ = some (.int .i64 (gt x i).kind) ∧ w.cell? ⟨b, o + i * 6 + 1, none⟩ = some (.int .i64 (gt x i).fr) ∧ w.cell? ⟨b, o + i * 6 + 2, none⟩ = some (.int .i64 (gt x i).to) ∧
     w.cell? ⟨b, o + i * 6 + 3, none⟩ = some (.slice p1 n1 c1) ∧ w.cell? ⟨b, o + i * 6 + 4, none⟩ = some (.slice p2 n2 c2) ∧ w.cell? ⟨b, o + i * 6 + 5, none⟩ = some (.slice p3 n3 c3)) ∧
    Rep.vr F w (.agg #[.int .i64 (gt x i).kind, .int .i64 (gt x i).fr, .int .i64 (gt x i).to, .slice p1 n1 c1, .slice p2 n2 c2, .slice p3 n3 c3]) (gt x i) := by
  obtain ⟨b, o, v, hp, hF, hb, ⟨p1, n1, c1, p2, n2, c2, p3, n3, c3, rfl, hi, hs⟩, hc⟩ := h.nth hi
  exact ⟨b, o, p1, n1, c1, p2, n2, c2, p3, n3, c3, hp, hF, hb, ⟨hc 0 _ rfl, hc 1 _ rfl, hc 2 _ rfl, hc 3 _ rfl, hc 4 _ rfl, hc 5 _ rfl⟩, p1, n1, c1, p2, n2, c2, p3, n3, c3, rfl, hi, hs⟩
theorem sl_msg {F : Blks} {W : World} {x : Msg} {g n1 n2 n3 : Nat} {p1 p2 p3 : Option Addr} {c1 c2 c3 : Nat}
    (hx : vr F W (.agg #[.int .i64 x.kind, .int .i64 x.fr, .int .i64 x.to, .slice p1 n1 c1, .slice p2 n2 c2, .slice p3 n3 c3]) x) (hg : g = W.heap.size) (hF : F g) :
    Sl F (W.alloc (.cells #[.int .i64 x.kind, .int .i64 x.fr, .int .i64 x.to, .slice p1 n1 c1, .slice p2 n2 c2, .slice p3 n3 c3] 26)) (some ⟨g, 0, none⟩) 1 1 [x] := by
  subst hg
  exact Sl.lit (α := Msg) (xs := [x]) (t := 26) (fz := (0, 0)) (heap_alloc_new _ _) [_] rfl rfl (elems1 (vr_grow hx (al1 W _))) hF (by simp)
/-- The letter that a message becomes. -/
def letterOf (m : Msg) : Letter := ⟨m.fr, m.to, msgB m⟩
/-- A message that can be put. -/
structure Puts (m : Msg) : Prop where
  small : SmallM m
  ok : msgErr m = 0
def putsB (m : Msg) : Bool := msgErr m == 0
theorem letters_small {ws : List Msg} (h : ∀ m ∈ ws, Puts m) : ∀ x ∈ ws.map letterOf, x.body.length ≤ 140737488355328 := fun x hx => by
  obtain ⟨m, hm, rfl⟩ := List.mem_map.1 hx
  exact Nat.le_trans (msgB_len (h m hm).ok) (by decide)
theorem gt_map {ws : List Msg} {r : Nat} (h : r < ws.length) : gt (ws.map letterOf) r = letterOf (gt ws r) := by
  apply gt_eq
  rw [List.getElem?_map, gt_get h]
  rfl
theorem map_cut {ws : List Msg} {r : Nat} : (ws.map letterOf).take r ++ (ws.map letterOf).drop (r + 1) = (ws.take r ++ ws.drop (r + 1)).map letterOf := by
  rw [List.map_append, List.map_take, List.map_drop]
theorem cut_mem {ws : List Msg} {r : Nat} (h : ∀ m ∈ ws, Puts m) : ∀ m ∈ ws.take r ++ ws.drop (r + 1), Puts m := fun m hm => by
  rcases List.mem_append.1 hm with h1 | h1
  · exact h m (List.mem_of_mem_take h1)
  · exact h m (List.mem_of_mem_drop h1)
theorem cut_len {ws : List Msg} {r : Nat} (h : r < ws.length) : (ws.take r ++ ws.drop (r + 1)).length = ws.length - 1 := by simp; omega

/-- Letters and wanted messages, as the loops keep them. -/
structure Keeps (w wr : World) (v5 v6 : Value) (ws : List Msg) : Prop where
  all : ∀ m ∈ ws, Puts m
  want : Own 26 w.heap.size allB wr v6 ws
  form : ∃ p c, v5 = .slice p ws.length c ∧ Sl (fun b => v6.ownBlock ≠ some b) wr p ws.length c (ws.map letterOf)
  below : Below w.heap.size w wr
theorem Keeps.nil (w : World) : Keeps w w (.slice none 0 0) (.slice none 0 0) [] :=
  ⟨(fun m hm => by cases hm), Own.nil _ _ _ _, ⟨none, 0, rfl, Sl.nil _ _ none 0 (by simp [maxLen])⟩, Below.refl _ _⟩
theorem Keeps.grow {w wr w' : World} {v5 v6 : Value} {ws : List Msg} (h : Keeps w wr v5 v6 ws) (hb : Below wr.heap.size wr w') : Keeps w w' v5 v6 ws := by
  obtain ⟨p, c, hv, hs⟩ := h.form
  exact ⟨h.all, h.want.grow hb, ⟨p, c, hv, hs.grow hb⟩, below2 h.below hb⟩

set_option maxRecDepth 100000 in
set_option maxHeartbeats 400000 in
theorem NetMany_long {F G : Blks} {p q : Option Addr} {n c no co : Nat} {l : List Msg} {os : List Int} {w : World} (h1 : Sl F w p n c l) (h2 : Sl G w q no co os) (hl : 20 < n ∨ 100 < no) :
    Calls Try.prog 6 #[.slice p n c, .slice q no co] w fun e w' => e = .returned (.bool true) ∧ Below w.heap.size w w' := by
  clear h1 h2
  by_cases h20 : 20 < n
  · clear hl
    go_enter Try.func6, Try.ntmps6
    go_wp2
    go_ret
    exact ⟨rfl, Below.refl _ _⟩
  · have hl : 100 < no := by omega
    go_enter Try.func6, Try.ntmps6
    go_wp2
    go_ret
    exact ⟨rfl, Below.refl _ _⟩

set_option maxRecDepth 100000 in
set_option maxHeartbeats 8000000 in
theorem NetMany_short {F G : Blks} {p q : Option Addr} {n c no co : Nat} {l : List Msg} {os : List Int} {w : World} (h1 : Sl F w p n c l) (h2 : Sl G w q no co os) (hn : n ≤ 20) (hno : no ≤ 100) :
    Calls Try.prog 6 #[.slice p n c, .slice q no co] w fun e w' => e = .returned (.bool true) ∧ Below w.heap.size w w' := by
  have hln := h1.len
  have H1 := Lib.hid (fun w' (hb : Below w.heap.size w w') => ((h1.lt.mono (G := fun b => b < w.heap.size) fun b hb => hb.2).grow hb)); have H2 := Lib.hid (fun w' (hb : Below w.heap.size w w') => h2.grow hb); have HLN := Lib.hid hln
  clear h1 h2 hln
  go_enter Try.func6, Try.ntmps6
  go_wp2
  go_loopw [5, 6, 7] (fun v5 v6 i wr => ∃ (k : Nat) (ws : List Msg), k ≤ n ∧ i = .int .i64 k ∧ ws.length ≤ k ∧ Keeps w wr v5 v6 ws) (fun _ _ i _ => n - (intOf i).toNat)
  case atStart => exact ⟨0, [], Nat.zero_le _, rfl, Nat.le_refl _, Keeps.nil w⟩
  case round =>
    obtain ⟨k, ws, hk, rfl, hwk, hK⟩ := hrel
    by_cases hlt : k < n
    · obtain ⟨b, o, p1, n1, c1, p2, n2, c2, p3, n3, c3, rfl, -, hbl, ⟨x0, x1, x2, x3, x4, x5⟩, hv⟩ := (H1.out _ hK.below).msg hlt
      obtain ⟨q5, d5, rfl, hs5⟩ := hK.form
      have HK := Lib.hid hK; have HV := Lib.hid (fun w' (hb : Below wr.heap.size wr w') => vr_grow hv hb); have HS5 := Lib.hid hs5
      have HX := Lib.hid (fun w' (hb : Below wr.heap.size wr w') => And.intro (cell_later hb x0) (And.intro (cell_later hb x1) (And.intro (cell_later hb x2) (And.intro (cell_later hb x3) (And.intro (cell_later hb x4) (cell_later hb x5))))))
      clear hK hv hs5
      go_wp2_with fail
      refine (HeavyM_any (HV.out _ (Below.refl _ _))).mono ?_
      rintro e w1 ⟨b', rfl, hb, hb1⟩
      have HB := Lib.hid hb; have HB1 := Lib.hid hb1
      clear hb hb1 x0 x1 x2 x3 x4 x5
      cases b' with
      | true =>
        go_wp2
        go_ret
        exact ⟨rfl, below2 HK.out.below HB1.out⟩
      | false =>
        have hsm := (HB.out.out rfl).1
        have HSM := Lib.hid hsm; have HOP := Lib.hid (smallOps hsm)
        obtain ⟨x0, x1, x2, x3, x4, x5⟩ := HX.out w1 HB1.out
        clear hsm
        by_cases he : msgErr (gt l k) = 0
        · have hwn : ws.length < 1200 := by omega
          go_wp2_with fail
          refine (Put_yes (F := allB) ((HS5.out.grow HB1.out).mono fun _ _ => trivial) hwn (letters_small HK.out.all) (vr_all (HV.out _ HB1.out)) HSM.out HOP.out he).mono ?_
          rintro e w2 ⟨v2, rfl, ho2, hb2⟩
          rw [show ws.map letterOf ++ [⟨(gt l k).fr, (gt l k).to, msgB (gt l k)⟩] = (ws ++ [gt l k]).map letterOf by rw [List.map_append]; rfl] at ho2
          have HL2 := Lib.hid (show ((ws ++ [gt l k]).map letterOf).length = ws.length + 1 by simp)
          obtain ⟨q2, d2, rfl, hs2⟩ := ho2.sl
          rw [HL2.out] at hs2 ⊢
          have HB2 := Lib.hid (below2 HB1.out hb2)
          have hs2' : Sl (fun b => w1.heap.size ≤ b ∧ b < w2.heap.size) w2 q2 (ws.length + 1) d2 ((ws ++ [gt l k]).map letterOf) := hs2.lt.mono fun b hb => by
            rcases hb.1 with h | h
            · exact ⟨h, hb.2⟩
            · exact ⟨h.1, hb.2⟩
          have HS2 := Lib.hid hs2'
          clear x0 x1 x2 x3 x4 x5 hs2 hs2' hb2 ho2
          obtain ⟨x0, x1, x2, x3, x4, x5⟩ := HX.out w2 HB2.out
          go_wp2_with fail
          refine (MsgBytes_any (HV.out _ HB2.out) HSM.out HOP.out).mono ?_
          rintro e w3 ⟨v3, rfl, -, hb3⟩
          rw [he]
          have HB3 := Lib.hid (below2 HB2.out hb3)
          have HS3 := Lib.hid (HS2.out.grow hb3)
          have HE := Lib.hid he
          have hz23 : w2.heap.size ≤ w3.heap.size := hb3.size
          have hz1 : wr.heap.size ≤ w1.heap.size := HB1.out.size
          have hz2 : wr.heap.size ≤ w2.heap.size := HB2.out.size
          have hzr : w.heap.size ≤ wr.heap.size := HK.out.below.size
          clear x0 x1 x2 x3 x4 x5 hb3 he
          obtain ⟨x0, x1, x2, x3, x4, x5⟩ := HX.out w3 HB3.out
          have HW3 := Lib.hid (HK.out.grow HB3.out)
          go_wp2_with (at_builtin; go_loud (refine wpList_append_Own (α := Msg) rfl (.tmp 65) (.tmp 70) rfl Try.underlying48 (z := .agg #[.int .i64 0, .int .i64 0, .int .i64 0, .slice none 0 0, .slice none 0 0, .slice none 0 0]) (bytes := 96) (by kernel_rfl) rfl (by decide) rfl rfl (HW3.out.want.grow (al1 _ _)) (sl_msg (F := fun b => b < w.heap.size ∨ b = w3.heap.size) (Rep.mono (fun b hb => .inl hb) (HV.out _ HB3.out)) rfl (.inr rfl)) (fun b hb e => by have h1 := (HK.out.want.block _ e); have h2 := HB3.out.size; rcases hb with hb | hb <;> omega) (by simp; omega) (by omega) ?_); intro v' w' ho4 hg4 hat)
          go_roundw
          case rel =>
            refine ⟨k + 1, ws ++ [gt l k], by omega, by go_num, by simp; omega, ?_⟩
            refine ⟨fun m hm => ?_, ho4.mono (fun _ _ => trivial), ⟨q2, d2, by simp, ?_⟩, ?_⟩
            · rcases List.mem_append.1 hm with h | h
              · exact HK.out.all m h
              · rw [List.mem_singleton.1 h]; exact ⟨HSM.out, HE.out⟩
            · have h3 := (HS3.out.grow (al1 w3 (.cells #[.int .i64 (gt l k).kind, .int .i64 (gt l k).fr, .int .i64 (gt l k).to, .slice p1 n1 c1, .slice p2 n2 c2, .slice p3 n3 c3] 26)))
              have h4 := h3.keep (w' := w') fun b hb => hg4.block b (by simp; omega) (fun e => by have := (HK.out.want.block _ e.symm).2; omega)
              rw [List.length_append]
              refine h4.mono fun b hb e => ?_
              rcases hat with ha | ha
              · rw [ha] at e
                have := (HK.out.want.block _ e).2
                omega
              · rw [ha] at e
                simp at e
                omega
            · exact ((HW3.out.below.alloc HW3.out.below.size _)).grown hg4 (by have := HW3.out.below.size; simp; omega) (fun b hb => (HK.out.want.block b hb).1)
          case measure => simp [intOf]; omega
        · have hd : (msgErr (gt l k) == 0) = false := by simpa using he
          have hd2 : (msgErr (gt l k) != 0) = true := by simpa using he
          go_wp2_with fail
          refine (Put_bad (HV.out _ HB1.out) HSM.out HOP.out he).mono ?_
          rintro e w2 ⟨rfl, hb2⟩
          have HB2 := Lib.hid (below2 HB1.out hb2)
          clear x0 x1 x2 x3 x4 x5 hb2
          obtain ⟨x0, x1, x2, x3, x4, x5⟩ := HX.out w2 HB2.out
          go_wp2_with fail
          refine (MsgBytes_any (HV.out _ HB2.out) HSM.out HOP.out).mono ?_
          rintro e w3 ⟨v3, rfl, -, hb3⟩
          have HB3 := Lib.hid (below2 HB2.out hb3)
          clear x0 x1 x2 x3 x4 x5 hb3
          go_wp2
          go_roundw
          case rel => exact ⟨k + 1, ws, by omega, by go_num, by omega, HK.out.grow HB3.out⟩
          case measure => simp [intOf]; omega
    · have HK := Lib.hid hK
      have hws : ws.length ≤ 20 := by omega
      clear hK
      go_wp2
      go_loopw [5, 6, 12] (fun v5 v6 s12 wr => ∃ (j : Nat) (ws : List Msg), s12 = .int .i64 j ∧ j + ws.length ≤ 20 ∧ Keeps w wr v5 v6 ws) (fun _ v6 _ _ => match v6 with | .slice _ n _ => n | _ => 0)
      case atStart => exact ⟨0, ws, rfl, by omega, HK.out⟩
      case round =>
        clear HK hws hwk hk hlt
        obtain ⟨j, ws, rfl, hj, hK⟩ := hrel
        obtain ⟨q5, d5, rfl, hs5⟩ := hK.form
        obtain ⟨q6, d6, rfl, hs6⟩ := hK.want.sl
        have HK := Lib.hid hK; have HS5 := Lib.hid hs5; have HS6 := Lib.hid hs6
        have hle6 := hs6.le
        have hmx6 : d6 ≤ 9223372036854775807 := by have := hs6.max; unfold maxLen at this; exact this
        clear hK hs5 hs6
        by_cases h0 : ws.length = 0
        · have hws0 : ws = [] := List.eq_nil_of_length_eq_zero h0
          subst hws0
          have hno0 : ¬ ((0 : Int) ≤ 0 ∧ (0 : Int) < ((0 : Nat) : Int)) := by omega
          have HNo := Lib.hid hno0
          clear hno0 hj hle6 h0
          simp only [List.length_nil]
          go_wp2_with fail
          refine (Take_no HNo.out).mono ?_
          rintro e w2 ⟨rfl, hb2⟩
          have HB2 := Lib.hid (fun o => below2 HK.out.below (below2 hb2 (al1 _ o)))
          clear hb2
          go_wp2_with fail
          refine wakes_any.mono ?_
          rintro e w3 ⟨rfl, hb3⟩
          go_wp2
          go_ret
          exact ⟨rfl, below2 (HB2.out _) hb3⟩
        · by_cases hjo : j < no
          · obtain ⟨bo, oo, rfl, -, -, ex, ix⟩ := (H2.out _ HK.out.below).int hjo
            obtain ⟨r, hr, hRn⟩ := u64_mod (gt os j) ws.length (by omega)
            have hrw : IntKind.i64.wrap (r : Int) = (r : Int) := IntWalk.i64_in _ (by omega)
            have hT := Take_yes (k := r) HS5.out hRn (by omega) (letters_small HK.out.all)
            rw [map_cut, gt_map (by omega)] at hT
            have HT := Lib.hid hT
            have hgm : gt ws r ∈ ws := List.mem_of_getElem? (gt_get (by omega))
            obtain ⟨hfits, hbody, hblen⟩ := msgB_body (HK.out.all _ hgm).ok
            have HFI := Lib.hid hfits; have HBO := Lib.hid hbody; have HBL := Lib.hid hblen
            have HLC := Lib.hid (show ((ws.take r ++ ws.drop (r + 1)).map letterOf).length = ws.length - 1 by rw [List.length_map, cut_len (by omega)])
            clear hT hfits hbody hblen
            go_wp2_with fail
            refine HT.out.mono ?_
            rintro e w2 ⟨v2, u2, rfl, ho2, hu2, hb2⟩
            obtain ⟨q2, d2, rfl, hs2⟩ := ho2.sl
            rw [HLC.out] at hs2 ⊢
            have hs2' : Sl (fun b => wr.heap.size ≤ b ∧ b < w2.heap.size) w2 q2 (ws.length - 1) d2 ((ws.take r ++ ws.drop (r + 1)).map letterOf) := hs2.lt.mono fun b hb => by
              rcases hb.1 with h | h
              · exact ⟨h, hb.2⟩
              · exact ⟨h.1, hb.2⟩
            obtain ⟨q4, n4, d4, rfl, hi4, hs4⟩ := hu2
            have hfr : (letterOf (gt ws r)).fr = (gt ws r).fr := rfl
            have hto : (letterOf (gt ws r)).to = (gt ws r).to := rfl
            have hbo : (letterOf (gt ws r)).body = sealed (msgBody (gt ws r)) := HBO.out
            rw [hbo] at hs4
            rw [hfr, hto]
            have HB2 := Lib.hid hb2; have HS2 := Lib.hid hs2'; have HS4 := Lib.hid hs4
            clear ho2 hs2 hs2' hs4 hb2 hi4 hfr hto hbo HT HBO
            go_wp2_with fail
            refine (MsgRead_ok (m := gt ws r) (HS4.out.grow (al1 _ _)) HBL.out HFI.out).mono ?_
            rintro e w4 ⟨v4, rfl, hv4, hb4⟩
            have HV4 := Lib.hid hv4
            obtain ⟨r1, k1, t1, r2, k2, t2, r3, k3, t3, rfl, -⟩ := hv4
            obtain ⟨W, hW⟩ : ∃ W, W = w4.alloc (.cells #[.int .i64 (gt ws r).kind, .int .i64 (gt ws r).fr, .int .i64 (gt ws r).to, .slice r1 k1 t1, .slice r2 k2 t2, .slice r3 k3 t3] 26) := ⟨_, rfl⟩
            have hbW : Below w4.heap.size w4 W := by rw [hW]; exact al1 _ _
            have hWx : W.heap[w4.heap.size]? = some (.cells #[.int .i64 (gt ws r).kind, .int .i64 (gt ws r).fr, .int .i64 (gt ws r).to, .slice r1 k1 t1, .slice r2 k2 t2, .slice r3 k3 t3] 26 (0, 0)) := by rw [hW]; exact heap_alloc_new _ _
            have hb2W : Below w2.heap.size w2 W := below2 (below2 (al1 _ _) hb4) hbW
            have hbrW : Below wr.heap.size wr W := below2 HB2.out hb2W
            have y0 : ∀ w', Below W.heap.size W w' → w'.cell? ⟨w4.heap.size, 0, none⟩ = some (.int .i64 (gt ws r).kind) := fun w' h => cell_later h (heap_cell hWx)
            have y1 : ∀ w', Below W.heap.size W w' → w'.cell? ⟨w4.heap.size, 1, none⟩ = some (.int .i64 (gt ws r).fr) := fun w' h => cell_later h (heap_cell hWx)
            have y2 : ∀ w', Below W.heap.size W w' → w'.cell? ⟨w4.heap.size, 2, none⟩ = some (.int .i64 (gt ws r).to) := fun w' h => cell_later h (heap_cell hWx)
            have y3 : ∀ w', Below W.heap.size W w' → w'.cell? ⟨w4.heap.size, 3, none⟩ = some (.slice r1 k1 t1) := fun w' h => cell_later h (heap_cell hWx)
            have y4 : ∀ w', Below W.heap.size W w' → w'.cell? ⟨w4.heap.size, 4, none⟩ = some (.slice r2 k2 t2) := fun w' h => cell_later h (heap_cell hWx)
            have y5 : ∀ w', Below W.heap.size W w' → w'.cell? ⟨w4.heap.size, 5, none⟩ = some (.slice r3 k3 t3) := fun w' h => cell_later h (heap_cell hWx)
            have z0 : ∀ w', Below W.heap.size W w' → w'.cell? ⟨w2.heap.size, 0, none⟩ = some (.int .i64 (gt ws r).fr) := fun w' h => (cell_later (below2 (below2 hb4 hbW) h) (a := ⟨w2.heap.size, 0, none⟩) (v := .int .i64 (gt ws r).fr) (by go_simp))
            have z1 : ∀ w', Below W.heap.size W w' → w'.cell? ⟨w2.heap.size, 1, none⟩ = some (.int .i64 (gt ws r).to) := fun w' h => (cell_later (below2 (below2 hb4 hbW) h) (a := ⟨w2.heap.size, 1, none⟩) (v := .int .i64 (gt ws r).to) (by go_simp))
            obtain ⟨b6, o6, s1, m1, e1, s2, m2, e2, s3, m3, e3, rfl, -, hb6, ⟨x0, x1, x2, x3, x4, x5⟩, hvw⟩ := HS6.out.msg hRn
            have a0 : ∀ w', Below W.heap.size W w' → w'.cell? ⟨b6, o6 + r * 6, none⟩ = some (.int .i64 (gt ws r).kind) := fun w' h => cell_later (below2 hbrW h) x0
            have a1 : ∀ w', Below W.heap.size W w' → w'.cell? ⟨b6, o6 + r * 6 + 1, none⟩ = some (.int .i64 (gt ws r).fr) := fun w' h => cell_later (below2 hbrW h) x1
            have a2 : ∀ w', Below W.heap.size W w' → w'.cell? ⟨b6, o6 + r * 6 + 2, none⟩ = some (.int .i64 (gt ws r).to) := fun w' h => cell_later (below2 hbrW h) x2
            have a3 : ∀ w', Below W.heap.size W w' → w'.cell? ⟨b6, o6 + r * 6 + 3, none⟩ = some (.slice s1 m1 e1) := fun w' h => cell_later (below2 hbrW h) x3
            have a4 : ∀ w', Below W.heap.size W w' → w'.cell? ⟨b6, o6 + r * 6 + 4, none⟩ = some (.slice s2 m2 e2) := fun w' h => cell_later (below2 hbrW h) x4
            have a5 : ∀ w', Below W.heap.size W w' → w'.cell? ⟨b6, o6 + r * 6 + 5, none⟩ = some (.slice s3 m3 e3) := fun w' h => cell_later (below2 hbrW h) x5
            have HVW := Lib.hid (vr_grow hvw hbrW); have HV4W := Lib.hid (vr_grow HV4.out hbW); have HBr := Lib.hid hbrW; have HB2W := Lib.hid hb2W
            have hm1 : IntKind.i64.wrap ((ws.length : Int) - 1) = ((ws.length - 1 : Nat) : Int) := by rw [IntWalk.i64_in _ (by omega)]; omega
            clear hb4 hbW hWx hb2W hbrW x0 x1 x2 x3 x4 x5 hvw
            go_wp2
            rw [← hW]
            clear hW
            refine wp_flowL 43 [(12, .exact [] (.bool true))] (by kernel_rfl) (by kernel_rfl) ?_ ?_
            · trivial
            repeat (first
              | (refine Flow.skip_ rfl ?_; simp only [Act.put, List.setIfInBounds_toArray, List.set_cons_zero, List.set_cons_succ, Nat.reduceAdd])
              | (refine Flow.pure_ (v := ?_) rfl rfl ?_ ?_; rotate_left; focus (intro w hb; go_simp; try with_reducible rfl)
                 simp only [Act.put, List.setIfInBounds_toArray, List.set_cons_zero, List.set_cons_succ, Nat.reduceAdd]))
            refine Flow.exact_ rfl rfl ?_ ?_
            · intro wf hb hk
              (try simp only [holdsF, lookF, lookV, List.map_cons, List.map_nil, List.headD_cons, List.getD_cons_zero, List.getD_cons_succ, Nat.reduceEqDiff, Nat.reduceAdd, ↓reduceIte, and_true] at hk ⊢)
              skip
              go_simp
              exact (Msg_eq (vr_grow HV4W.out hb) (vr_grow HVW.out hb)).mono fun e w' ⟨he, hb'⟩ => ⟨_, he, rfl, hb'⟩
            simp only [Act.put, List.setIfInBounds_toArray, List.set_cons_zero, List.set_cons_succ, Nat.reduceAdd]
            repeat (first
              | (refine Flow.skip_ rfl ?_; simp only [Act.put, List.setIfInBounds_toArray, List.set_cons_zero, List.set_cons_succ, Nat.reduceAdd])
              | (refine Flow.pure_ (v := ?_) rfl rfl ?_ ?_; rotate_left; focus (intro w hb; go_simp; try with_reducible rfl)
                 simp only [Act.put, List.setIfInBounds_toArray, List.set_cons_zero, List.set_cons_succ, Nat.reduceAdd]))
            refine Flow.done_ (fun w5 hb5 hk => ?_)
            have HB5 := Lib.hid (below2 HBr.out hb5)
            have hS5 : Sl (fun b => b < w5.heap.size) w5 (some ⟨b6, o6, none⟩) ws.length d6 ws := (HS6.out.grow HB5.out).lt.mono fun b hb => hb.2
            have hTk := hS5.take (k := r) (by omega)
            have hDr := hS5.drop (k := r + 1) (by omega)
            have hadd : (⟨b6, o6, none⟩ : Addr).add ((r + 1) * Rep.size Msg) = ⟨b6, o6 + (r + 1) * 6, none⟩ := by unfold Addr.add; split <;> simp_all [Rep.size]
            rw [Option.map_some, hadd] at hDr
            have HTk := Lib.hid hTk; have HDr := Lib.hid hDr
            have HOl := Lib.hid ((HK.out.want.grow HB5.out).block)
            have hm3 : IntKind.i64.wrap ((r : Int) + 1) = ((r + 1 : Nat) : Int) := by rw [IntWalk.i64_in _ (by omega)]; omega
            have hk0 : (0 : Int) ≤ (r : Int) + 1 := by omega
            have hk1 : (r : Int) + 1 ≤ (ws.length : Int) := by omega
            have hk2 : (r : Int) + 1 ≤ (d6 : Int) := by omega
            have hk3 : ((r : Int) + 1).toNat = r + 1 := by omega
            have hk4 : r ≤ d6 := by omega
            have hk5 : r + 1 ≤ ws.length := by omega
            have hk6 : (r : Int) ≤ (r : Int) + 1 := by omega
            have hk7 : (r : Int) ≤ (d6 : Int) := by omega
            have HZ := Lib.hid (And.intro hb5.size (And.intro HBr.out.size HK.out.below.size))
            have HB5W := Lib.hid hb5
            clear hk hb5 y0 y1 y2 y3 y4 y5 z0 z1 a0 a1 a2 a3 a4 a5 hS5 hTk hDr hadd hm1
            go_wp2
            by_cases hc : d6 = r + 1
            · subst hc
              have hDr := HDr.out
              rw [if_pos rfl, Nat.sub_self, show ws.length - (r + 1) = 0 by omega] at hDr
              have HDr := Lib.hid hDr
              clear hDr
              refine wp_flowL 9 [(4, .unk [] fun _ v w1 => Own 26 w5.heap.size allB w1 v (ws.take r))] (by kernel_rfl) (by kernel_rfl) ?_ ?_
              · exact ⟨fun _ v w1 w2 _ h hb => h.grow hb, trivial⟩
              repeat (first
                | (refine Flow.skip_ rfl ?_; simp only [Act.put, List.setIfInBounds_toArray, List.set_cons_zero, List.set_cons_succ, Nat.reduceAdd])
                | (refine Flow.pure_ (v := ?_) rfl rfl ?_ ?_; rotate_left; focus (intro w hb; go_simp; try with_reducible rfl)
                   simp only [Act.put, List.setIfInBounds_toArray, List.set_cons_zero, List.set_cons_succ, Nat.reduceAdd]))
              refine Flow.unk_ rfl rfl ?_ ?_
              · intro wf hb hk
                (try simp only [holdsF, lookF, lookV, List.map_cons, List.map_nil, List.headD_cons, List.getD_cons_zero, List.getD_cons_succ, Nat.reduceEqDiff, Nat.reduceAdd, ↓reduceIte, and_true] at hk ⊢)
                (refine gives_append_Own (α := Msg) (.tmp 148) (.tmp 151) rfl Try.underlying48 (z := .agg #[.int .i64 0, .int .i64 0, .int .i64 0, .slice none 0 0, .slice none 0 0, .slice none 0 0]) (bytes := 96) (by kernel_rfl) rfl (by decide) (by rfl) (by rfl) (Own.nil _ w5.heap.size noB wf) (HTk.out.grow hb) (fun b hb e => by cases e) hb.size (by simp only [List.length_nil]; omega) ?_; intro v' w' h1 h2 h3; exact ⟨(Below.refl _ _).grown h2 (Nat.le_refl _) (fun k hk => by cases hk), by simpa using h1.mono (G := allB) fun _ _ => trivial⟩)
              intro v4
              simp only [Act.put, List.setIfInBounds_toArray, List.set_cons_zero, List.set_cons_succ, Nat.reduceAdd]
              (try simp only [holdsF, lookF, lookV, List.map_cons, List.map_nil, List.headD_cons, List.getD_cons_zero, List.getD_cons_succ, Nat.reduceEqDiff, Nat.reduceAdd, ↓reduceIte, and_true])
              repeat (first
                | (refine Flow.skip_ rfl ?_; simp only [Act.put, List.setIfInBounds_toArray, List.set_cons_zero, List.set_cons_succ, Nat.reduceAdd])
                | (refine Flow.pure_ (v := ?_) rfl rfl ?_ ?_; rotate_left; focus (intro w hb; go_simp; try with_reducible rfl)
                   simp only [Act.put, List.setIfInBounds_toArray, List.set_cons_zero, List.set_cons_succ, Nat.reduceAdd]))
              refine Flow.done_ (fun w6 hb6 hk => ?_)
              obtain ⟨h4, -⟩ := hk
              have HCL := Lib.hid (cut_len hRn)
              have hlt7 : ((ws.take r).length + 0) * 96 ≤ 140737488355328 := by rw [List.length_take]; omega
              have H4 := Lib.hid h4; have HB6 := Lib.hid hb6
              have HL7 := Lib.hid hlt7
              clear h4 hb6 hlt7
              go_wp2_with (at_builtin; go_loud (refine wpList_append_Own (α := Msg) rfl (.tmp 152) (.tmp 156) rfl Try.underlying48 (z := .agg #[.int .i64 0, .int .i64 0, .int .i64 0, .slice none 0 0, .slice none 0 0, .slice none 0 0]) (bytes := 96) (by kernel_rfl) rfl (by decide) rfl rfl H4.out (HDr.out.grow HB6.out) (fun b hb e => absurd (H4.out.block _ e).1 (Nat.not_le.2 hb)) HB6.out.size HL7.out ?_); intro v7 w7 ho7 hg7 hat7; obtain ⟨p7, c7, rfl, -⟩ := ho7.sl; rw [HCL.out] at ho7 hat7 ⊢)
              have hz := HZ.out
              have hz6 := HB6.out.size
              have hz2 := HB2W.out.size
              have hb7 : Below w5.heap.size w5 w7 := HB6.out.grown hg7 HB6.out.size (fun b hb => (H4.out.block b hb).1)
              have hs7 : Sl (fun b => wr.heap.size ≤ b ∧ b < w2.heap.size) w7 q2 (ws.length - 1) d2 ((ws.take r ++ ws.drop (r + 1)).map letterOf) :=
                ((HS2.out.grow HB2W.out).keep (w' := w5) (fun b hb => HB5W.out.block b (by omega))).keep (w' := w7) fun b hb => hb7.block b (by omega)
              have HB7 := Lib.hid (below2 HB5.out hb7); have HS7 := Lib.hid hs7; have HO7 := Lib.hid ho7; have HA7 := Lib.hid hat7
              clear hb7 hs7 ho7 hat7 hg7
              go_roundw
              case rel =>
                refine ⟨j + 1, ws.take r ++ ws.drop (r + 1), by go_num, by rw [HCL.out]; omega, cut_mem HK.out.all, ?_, ⟨q2, d2, by rw [HCL.out], ?_⟩, below2 HK.out.below HB7.out⟩
                · exact (HO7.out.base (by omega)).mono fun _ _ => trivial
                · rw [HCL.out]
                  refine HS7.out.mono fun b hb e => ?_
                  rcases HA7.out with ha | ha
                  · rw [ha] at e
                    have := (H4.out.block _ e).1
                    omega
                  · rw [ha] at e
                    simp at e
                    omega
              case measure => simp; omega
            · have hDr := HDr.out
              rw [if_neg hc] at hDr
              have HDr := Lib.hid hDr
              clear hDr
              refine wp_flowL 9 [(4, .unk [] fun _ v w1 => Own 26 w5.heap.size allB w1 v (ws.take r))] (by kernel_rfl) (by kernel_rfl) ?_ ?_
              · exact ⟨fun _ v w1 w2 _ h hb => h.grow hb, trivial⟩
              repeat (first
                | (refine Flow.skip_ rfl ?_; simp only [Act.put, List.setIfInBounds_toArray, List.set_cons_zero, List.set_cons_succ, Nat.reduceAdd])
                | (refine Flow.pure_ (v := ?_) rfl rfl ?_ ?_; rotate_left; focus (intro w hb; go_simp; try with_reducible rfl)
                   simp only [Act.put, List.setIfInBounds_toArray, List.set_cons_zero, List.set_cons_succ, Nat.reduceAdd]))
              refine Flow.unk_ rfl rfl ?_ ?_
              · intro wf hb hk
                (try simp only [holdsF, lookF, lookV, List.map_cons, List.map_nil, List.headD_cons, List.getD_cons_zero, List.getD_cons_succ, Nat.reduceEqDiff, Nat.reduceAdd, ↓reduceIte, and_true] at hk ⊢)
                (refine gives_append_Own (α := Msg) (.tmp 148) (.tmp 151) rfl Try.underlying48 (z := .agg #[.int .i64 0, .int .i64 0, .int .i64 0, .slice none 0 0, .slice none 0 0, .slice none 0 0]) (bytes := 96) (by kernel_rfl) rfl (by decide) (by rfl) (by rfl) (Own.nil _ w5.heap.size noB wf) (HTk.out.grow hb) (fun b hb e => by cases e) hb.size (by simp only [List.length_nil]; omega) ?_; intro v' w' h1 h2 h3; exact ⟨(Below.refl _ _).grown h2 (Nat.le_refl _) (fun k hk => by cases hk), by simpa using h1.mono (G := allB) fun _ _ => trivial⟩)
              intro v4
              simp only [Act.put, List.setIfInBounds_toArray, List.set_cons_zero, List.set_cons_succ, Nat.reduceAdd]
              (try simp only [holdsF, lookF, lookV, List.map_cons, List.map_nil, List.headD_cons, List.getD_cons_zero, List.getD_cons_succ, Nat.reduceEqDiff, Nat.reduceAdd, ↓reduceIte, and_true])
              repeat (first
                | (refine Flow.skip_ rfl ?_; simp only [Act.put, List.setIfInBounds_toArray, List.set_cons_zero, List.set_cons_succ, Nat.reduceAdd])
                | (refine Flow.pure_ (v := ?_) rfl rfl ?_ ?_; rotate_left; focus (intro w hb; go_simp; try with_reducible rfl)
                   simp only [Act.put, List.setIfInBounds_toArray, List.set_cons_zero, List.set_cons_succ, Nat.reduceAdd]))
              refine Flow.done_ (fun w6 hb6 hk => ?_)
              obtain ⟨h4, -⟩ := hk
              have HCL := Lib.hid (cut_len hRn)
              have hlt7 : ((ws.take r).length + (ws.length - (r + 1))) * 96 ≤ 140737488355328 := by rw [List.length_take]; omega
              have H4 := Lib.hid h4; have HB6 := Lib.hid hb6
              have HL7 := Lib.hid hlt7
              clear h4 hb6 hlt7
              go_wp2_with (at_builtin; go_loud (refine wpList_append_Own (α := Msg) rfl (.tmp 152) (.tmp 156) rfl Try.underlying48 (z := .agg #[.int .i64 0, .int .i64 0, .int .i64 0, .slice none 0 0, .slice none 0 0, .slice none 0 0]) (bytes := 96) (by kernel_rfl) rfl (by decide) rfl rfl H4.out (HDr.out.grow HB6.out) (fun b hb e => absurd (H4.out.block _ e).1 (Nat.not_le.2 hb)) HB6.out.size HL7.out ?_); intro v7 w7 ho7 hg7 hat7; obtain ⟨p7, c7, rfl, -⟩ := ho7.sl; rw [HCL.out] at ho7 hat7 ⊢)
              have hz := HZ.out
              have hz6 := HB6.out.size
              have hz2 := HB2W.out.size
              have hb7 : Below w5.heap.size w5 w7 := HB6.out.grown hg7 HB6.out.size (fun b hb => (H4.out.block b hb).1)
              have hs7 : Sl (fun b => wr.heap.size ≤ b ∧ b < w2.heap.size) w7 q2 (ws.length - 1) d2 ((ws.take r ++ ws.drop (r + 1)).map letterOf) :=
                ((HS2.out.grow HB2W.out).keep (w' := w5) (fun b hb => HB5W.out.block b (by omega))).keep (w' := w7) fun b hb => hb7.block b (by omega)
              have HB7 := Lib.hid (below2 HB5.out hb7); have HS7 := Lib.hid hs7; have HO7 := Lib.hid ho7; have HA7 := Lib.hid hat7
              clear hb7 hs7 ho7 hat7 hg7
              go_roundw
              case rel =>
                refine ⟨j + 1, ws.take r ++ ws.drop (r + 1), by go_num, by rw [HCL.out]; omega, cut_mem HK.out.all, ?_, ⟨q2, d2, by rw [HCL.out], ?_⟩, below2 HK.out.below HB7.out⟩
                · exact (HO7.out.base (by omega)).mono fun _ _ => trivial
                · rw [HCL.out]
                  refine HS7.out.mono fun b hb e => ?_
                  rcases HA7.out with ha | ha
                  · rw [ha] at e
                    have := (H4.out.block _ e).1
                    omega
                  · rw [ha] at e
                    simp at e
                    omega
              case measure => simp; omega
          · have hRn : 0 < ws.length := by omega
            have hT := Take_yes (k := 0) HS5.out hRn (by omega) (letters_small HK.out.all)
            rw [map_cut, gt_map (by omega), show ((0 : Nat) : Int) = 0 from rfl] at hT
            have HT := Lib.hid hT
            have hgm : gt ws 0 ∈ ws := List.mem_of_getElem? (gt_get (by omega))
            obtain ⟨hfits, hbody, hblen⟩ := msgB_body (HK.out.all _ hgm).ok
            have HFI := Lib.hid hfits; have HBO := Lib.hid hbody; have HBL := Lib.hid hblen
            have HLC := Lib.hid (show ((ws.take 0 ++ ws.drop (0 + 1)).map letterOf).length = ws.length - 1 by rw [List.length_map, cut_len (by omega)])
            clear hT hfits hbody hblen
            go_wp2_with fail
            refine HT.out.mono ?_
            rintro e w2 ⟨v2, u2, rfl, ho2, hu2, hb2⟩
            obtain ⟨q2, d2, rfl, hs2⟩ := ho2.sl
            rw [HLC.out] at hs2 ⊢
            have hs2' : Sl (fun b => wr.heap.size ≤ b ∧ b < w2.heap.size) w2 q2 (ws.length - 1) d2 ((ws.take 0 ++ ws.drop (0 + 1)).map letterOf) := hs2.lt.mono fun b hb => by
              rcases hb.1 with h | h
              · exact ⟨h, hb.2⟩
              · exact ⟨h.1, hb.2⟩
            obtain ⟨q4, n4, d4, rfl, hi4, hs4⟩ := hu2
            have hfr : (letterOf (gt ws 0)).fr = (gt ws 0).fr := rfl
            have hto : (letterOf (gt ws 0)).to = (gt ws 0).to := rfl
            have hbo : (letterOf (gt ws 0)).body = sealed (msgBody (gt ws 0)) := HBO.out
            rw [hbo] at hs4
            rw [hfr, hto]
            have HB2 := Lib.hid hb2; have HS2 := Lib.hid hs2'; have HS4 := Lib.hid hs4
            clear ho2 hs2 hs2' hs4 hb2 hi4 hfr hto hbo HT HBO
            go_wp2_with fail
            refine (MsgRead_ok (m := gt ws 0) (HS4.out.grow (al1 _ _)) HBL.out HFI.out).mono ?_
            rintro e w4 ⟨v4, rfl, hv4, hb4⟩
            have HV4 := Lib.hid hv4
            obtain ⟨r1, k1, t1, r2, k2, t2, r3, k3, t3, rfl, -⟩ := hv4
            obtain ⟨W, hW⟩ : ∃ W, W = w4.alloc (.cells #[.int .i64 (gt ws 0).kind, .int .i64 (gt ws 0).fr, .int .i64 (gt ws 0).to, .slice r1 k1 t1, .slice r2 k2 t2, .slice r3 k3 t3] 26) := ⟨_, rfl⟩
            have hbW : Below w4.heap.size w4 W := by rw [hW]; exact al1 _ _
            have hWx : W.heap[w4.heap.size]? = some (.cells #[.int .i64 (gt ws 0).kind, .int .i64 (gt ws 0).fr, .int .i64 (gt ws 0).to, .slice r1 k1 t1, .slice r2 k2 t2, .slice r3 k3 t3] 26 (0, 0)) := by rw [hW]; exact heap_alloc_new _ _
            have hb2W : Below w2.heap.size w2 W := below2 (below2 (al1 _ _) hb4) hbW
            have hbrW : Below wr.heap.size wr W := below2 HB2.out hb2W
            have y0 : ∀ w', Below W.heap.size W w' → w'.cell? ⟨w4.heap.size, 0, none⟩ = some (.int .i64 (gt ws 0).kind) := fun w' h => cell_later h (heap_cell hWx)
            have y1 : ∀ w', Below W.heap.size W w' → w'.cell? ⟨w4.heap.size, 1, none⟩ = some (.int .i64 (gt ws 0).fr) := fun w' h => cell_later h (heap_cell hWx)
            have y2 : ∀ w', Below W.heap.size W w' → w'.cell? ⟨w4.heap.size, 2, none⟩ = some (.int .i64 (gt ws 0).to) := fun w' h => cell_later h (heap_cell hWx)
            have y3 : ∀ w', Below W.heap.size W w' → w'.cell? ⟨w4.heap.size, 3, none⟩ = some (.slice r1 k1 t1) := fun w' h => cell_later h (heap_cell hWx)
            have y4 : ∀ w', Below W.heap.size W w' → w'.cell? ⟨w4.heap.size, 4, none⟩ = some (.slice r2 k2 t2) := fun w' h => cell_later h (heap_cell hWx)
            have y5 : ∀ w', Below W.heap.size W w' → w'.cell? ⟨w4.heap.size, 5, none⟩ = some (.slice r3 k3 t3) := fun w' h => cell_later h (heap_cell hWx)
            have z0 : ∀ w', Below W.heap.size W w' → w'.cell? ⟨w2.heap.size, 0, none⟩ = some (.int .i64 (gt ws 0).fr) := fun w' h => (cell_later (below2 (below2 hb4 hbW) h) (a := ⟨w2.heap.size, 0, none⟩) (v := .int .i64 (gt ws 0).fr) (by go_simp))
            have z1 : ∀ w', Below W.heap.size W w' → w'.cell? ⟨w2.heap.size, 1, none⟩ = some (.int .i64 (gt ws 0).to) := fun w' h => (cell_later (below2 (below2 hb4 hbW) h) (a := ⟨w2.heap.size, 1, none⟩) (v := .int .i64 (gt ws 0).to) (by go_simp))
            obtain ⟨b6, o6, s1, m1, e1, s2, m2, e2, s3, m3, e3, rfl, -, hb6, ⟨x0, x1, x2, x3, x4, x5⟩, hvw⟩ := HS6.out.msg hRn
            have a0 : ∀ w', Below W.heap.size W w' → w'.cell? ⟨b6, o6 + 0 * 6, none⟩ = some (.int .i64 (gt ws 0).kind) := fun w' h => cell_later (below2 hbrW h) x0
            have a1 : ∀ w', Below W.heap.size W w' → w'.cell? ⟨b6, o6 + 0 * 6 + 1, none⟩ = some (.int .i64 (gt ws 0).fr) := fun w' h => cell_later (below2 hbrW h) x1
            have a2 : ∀ w', Below W.heap.size W w' → w'.cell? ⟨b6, o6 + 0 * 6 + 2, none⟩ = some (.int .i64 (gt ws 0).to) := fun w' h => cell_later (below2 hbrW h) x2
            have a3 : ∀ w', Below W.heap.size W w' → w'.cell? ⟨b6, o6 + 0 * 6 + 3, none⟩ = some (.slice s1 m1 e1) := fun w' h => cell_later (below2 hbrW h) x3
            have a4 : ∀ w', Below W.heap.size W w' → w'.cell? ⟨b6, o6 + 0 * 6 + 4, none⟩ = some (.slice s2 m2 e2) := fun w' h => cell_later (below2 hbrW h) x4
            have a5 : ∀ w', Below W.heap.size W w' → w'.cell? ⟨b6, o6 + 0 * 6 + 5, none⟩ = some (.slice s3 m3 e3) := fun w' h => cell_later (below2 hbrW h) x5
            simp only [Nat.zero_mul, Nat.add_zero] at a0 a1 a2 a3 a4 a5
            have HVW := Lib.hid (vr_grow hvw hbrW); have HV4W := Lib.hid (vr_grow HV4.out hbW); have HBr := Lib.hid hbrW; have HB2W := Lib.hid hb2W
            have hm1 : IntKind.i64.wrap ((ws.length : Int) - 1) = ((ws.length - 1 : Nat) : Int) := by rw [IntWalk.i64_in _ (by omega)]; omega
            clear hb4 hbW hWx hb2W hbrW x0 x1 x2 x3 x4 x5 hvw
            go_wp2
            rw [← hW]
            clear hW
            refine wp_flowL 43 [(12, .exact [] (.bool true))] (by kernel_rfl) (by kernel_rfl) ?_ ?_
            · trivial
            repeat (first
              | (refine Flow.skip_ rfl ?_; simp only [Act.put, List.setIfInBounds_toArray, List.set_cons_zero, List.set_cons_succ, Nat.reduceAdd])
              | (refine Flow.pure_ (v := ?_) rfl rfl ?_ ?_; rotate_left; focus (intro w hb; go_simp; try with_reducible rfl)
                 simp only [Act.put, List.setIfInBounds_toArray, List.set_cons_zero, List.set_cons_succ, Nat.reduceAdd]))
            refine Flow.exact_ rfl rfl ?_ ?_
            · intro wf hb hk
              (try simp only [holdsF, lookF, lookV, List.map_cons, List.map_nil, List.headD_cons, List.getD_cons_zero, List.getD_cons_succ, Nat.reduceEqDiff, Nat.reduceAdd, ↓reduceIte, and_true] at hk ⊢)
              skip
              go_simp
              exact (Msg_eq (vr_grow HV4W.out hb) (vr_grow HVW.out hb)).mono fun e w' ⟨he, hb'⟩ => ⟨_, he, rfl, hb'⟩
            simp only [Act.put, List.setIfInBounds_toArray, List.set_cons_zero, List.set_cons_succ, Nat.reduceAdd]
            repeat (first
              | (refine Flow.skip_ rfl ?_; simp only [Act.put, List.setIfInBounds_toArray, List.set_cons_zero, List.set_cons_succ, Nat.reduceAdd])
              | (refine Flow.pure_ (v := ?_) rfl rfl ?_ ?_; rotate_left; focus (intro w hb; go_simp; try with_reducible rfl)
                 simp only [Act.put, List.setIfInBounds_toArray, List.set_cons_zero, List.set_cons_succ, Nat.reduceAdd]))
            refine Flow.done_ (fun w5 hb5 hk => ?_)
            have HB5 := Lib.hid (below2 HBr.out hb5)
            have hS5 : Sl (fun b => b < w5.heap.size) w5 (some ⟨b6, o6, none⟩) ws.length d6 ws := (HS6.out.grow HB5.out).lt.mono fun b hb => hb.2
            have hTk := hS5.take (k := 0) (by omega)
            have hDr := hS5.drop (k := 0 + 1) (by omega)
            have hadd : (⟨b6, o6, none⟩ : Addr).add ((0 + 1) * Rep.size Msg) = ⟨b6, o6 + (0 + 1) * 6, none⟩ := by unfold Addr.add; split <;> simp_all [Rep.size]
            rw [Option.map_some, hadd] at hDr
            have HTk := Lib.hid hTk; have HDr := Lib.hid hDr
            have HOl := Lib.hid ((HK.out.want.grow HB5.out).block)
            have hm3 : IntKind.i64.wrap ((0 : Int) + 1) = ((0 + 1 : Nat) : Int) := by rw [IntWalk.i64_in _ (by omega)]; omega
            have hk0 : (0 : Int) ≤ (0 : Int) + 1 := by omega
            have hk1 : (0 : Int) + 1 ≤ (ws.length : Int) := by omega
            have hk2 : (0 : Int) + 1 ≤ (d6 : Int) := by omega
            have hk3 : ((0 : Int) + 1).toNat = 0 + 1 := by omega
            have hk4 : 0 ≤ d6 := by omega
            have hk5 : 0 + 1 ≤ ws.length := by omega
            have hk6 : (0 : Int) ≤ (0 : Int) + 1 := by omega
            have hk7 : (0 : Int) ≤ (d6 : Int) := by omega
            have hk12 : IntKind.i64.wrap 1 = 1 := IntWalk.i64_in _ (by omega)
            have hk8 : (1 : Int) ≤ (ws.length : Int) := by omega
            have hk9 : (1 : Int) ≤ (d6 : Int) := by omega
            have hk10 : 1 ≤ ws.length := by omega
            have hk11 : 1 ≤ d6 := by omega
            have HZ := Lib.hid (And.intro hb5.size (And.intro HBr.out.size HK.out.below.size))
            have HB5W := Lib.hid hb5
            clear hk hb5 y0 y1 y2 y3 y4 y5 z0 z1 a0 a1 a2 a3 a4 a5 hS5 hTk hDr hadd hm1
            go_wp2
            by_cases hc : d6 = 0 + 1
            · subst hc
              have hDr := HDr.out
              rw [if_pos rfl, Nat.sub_self, show ws.length - (0 + 1) = 0 by omega] at hDr
              have HDr := Lib.hid hDr
              clear hDr
              refine wp_flowL 9 [(4, .unk [] fun _ v w1 => Own 26 w5.heap.size allB w1 v (ws.take 0))] (by kernel_rfl) (by kernel_rfl) ?_ ?_
              · exact ⟨fun _ v w1 w2 _ h hb => h.grow hb, trivial⟩
              repeat (first
                | (refine Flow.skip_ rfl ?_; simp only [Act.put, List.setIfInBounds_toArray, List.set_cons_zero, List.set_cons_succ, Nat.reduceAdd])
                | (refine Flow.pure_ (v := ?_) rfl rfl ?_ ?_; rotate_left; focus (intro w hb; go_simp; try with_reducible rfl)
                   simp only [Act.put, List.setIfInBounds_toArray, List.set_cons_zero, List.set_cons_succ, Nat.reduceAdd]))
              refine Flow.unk_ rfl rfl ?_ ?_
              · intro wf hb hk
                (try simp only [holdsF, lookF, lookV, List.map_cons, List.map_nil, List.headD_cons, List.getD_cons_zero, List.getD_cons_succ, Nat.reduceEqDiff, Nat.reduceAdd, ↓reduceIte, and_true] at hk ⊢)
                (refine gives_append_Own (α := Msg) (.tmp 148) (.tmp 151) rfl Try.underlying48 (z := .agg #[.int .i64 0, .int .i64 0, .int .i64 0, .slice none 0 0, .slice none 0 0, .slice none 0 0]) (bytes := 96) (by kernel_rfl) rfl (by decide) (by rfl) (by rfl) (Own.nil _ w5.heap.size noB wf) (HTk.out.grow hb) (fun b hb e => by cases e) hb.size (by simp only [List.length_nil]; omega) ?_; intro v' w' h1 h2 h3; exact ⟨(Below.refl _ _).grown h2 (Nat.le_refl _) (fun k hk => by cases hk), by simpa using h1.mono (G := allB) fun _ _ => trivial⟩)
              intro v4
              simp only [Act.put, List.setIfInBounds_toArray, List.set_cons_zero, List.set_cons_succ, Nat.reduceAdd]
              (try simp only [holdsF, lookF, lookV, List.map_cons, List.map_nil, List.headD_cons, List.getD_cons_zero, List.getD_cons_succ, Nat.reduceEqDiff, Nat.reduceAdd, ↓reduceIte, and_true])
              repeat (first
                | (refine Flow.skip_ rfl ?_; simp only [Act.put, List.setIfInBounds_toArray, List.set_cons_zero, List.set_cons_succ, Nat.reduceAdd])
                | (refine Flow.pure_ (v := ?_) rfl rfl ?_ ?_; rotate_left; focus (intro w hb; go_simp; try with_reducible rfl)
                   simp only [Act.put, List.setIfInBounds_toArray, List.set_cons_zero, List.set_cons_succ, Nat.reduceAdd]))
              refine Flow.done_ (fun w6 hb6 hk => ?_)
              obtain ⟨h4, -⟩ := hk
              have HCL := Lib.hid (show (ws.take 0 ++ ws.drop (0 + 1)).length = 0 by rw [cut_len hRn]; omega)
              have hlt7 : ((ws.take 0).length + 0) * 96 ≤ 140737488355328 := by rw [List.length_take]; omega
              have H4 := Lib.hid h4; have HB6 := Lib.hid hb6
              have HL7 := Lib.hid hlt7
              clear h4 hb6 hlt7
              go_wp2_with (at_builtin; go_loud (refine wpList_append_Own (α := Msg) rfl (.tmp 152) (.tmp 156) rfl Try.underlying48 (z := .agg #[.int .i64 0, .int .i64 0, .int .i64 0, .slice none 0 0, .slice none 0 0, .slice none 0 0]) (bytes := 96) (by kernel_rfl) rfl (by decide) rfl rfl H4.out (HDr.out.grow HB6.out) (fun b hb e => absurd (H4.out.block _ e).1 (Nat.not_le.2 hb)) HB6.out.size HL7.out ?_); intro v7 w7 ho7 hg7 hat7; obtain ⟨p7, c7, rfl, -⟩ := ho7.sl; rw [HCL.out] at ho7 hat7 ⊢)
              have hz := HZ.out
              have hz6 := HB6.out.size
              have hz2 := HB2W.out.size
              have hb7 : Below w5.heap.size w5 w7 := HB6.out.grown hg7 HB6.out.size (fun b hb => (H4.out.block b hb).1)
              have hs7 : Sl (fun b => wr.heap.size ≤ b ∧ b < w2.heap.size) w7 q2 (ws.length - 1) d2 ((ws.take 0 ++ ws.drop (0 + 1)).map letterOf) :=
                ((HS2.out.grow HB2W.out).keep (w' := w5) (fun b hb => HB5W.out.block b (by omega))).keep (w' := w7) fun b hb => hb7.block b (by omega)
              rw [show ws.length - 1 = 0 by omega] at hs7
              have HB7 := Lib.hid (below2 HB5.out hb7); have HS7 := Lib.hid hs7; have HO7 := Lib.hid ho7; have HA7 := Lib.hid hat7
              clear hb7 hs7 ho7 hat7 hg7
              go_roundw
              case rel =>
                refine ⟨j + 1, ws.take 0 ++ ws.drop (0 + 1), by go_num, by rw [HCL.out]; omega, cut_mem HK.out.all, ?_, ⟨q2, d2, by rw [HCL.out], ?_⟩, below2 HK.out.below HB7.out⟩
                · exact (HO7.out.base (by omega)).mono fun _ _ => trivial
                · rw [HCL.out]
                  refine HS7.out.mono fun b hb e => ?_
                  rcases HA7.out with ha | ha
                  · rw [ha] at e
                    have := (H4.out.block _ e).1
                    omega
                  · rw [ha] at e
                    simp at e
                    omega
              case measure => simp; omega
            · have hDr := HDr.out
              rw [if_neg hc] at hDr
              have HDr := Lib.hid hDr
              clear hDr
              refine wp_flowL 9 [(4, .unk [] fun _ v w1 => Own 26 w5.heap.size allB w1 v (ws.take 0))] (by kernel_rfl) (by kernel_rfl) ?_ ?_
              · exact ⟨fun _ v w1 w2 _ h hb => h.grow hb, trivial⟩
              repeat (first
                | (refine Flow.skip_ rfl ?_; simp only [Act.put, List.setIfInBounds_toArray, List.set_cons_zero, List.set_cons_succ, Nat.reduceAdd])
                | (refine Flow.pure_ (v := ?_) rfl rfl ?_ ?_; rotate_left; focus (intro w hb; go_simp; try with_reducible rfl)
                   simp only [Act.put, List.setIfInBounds_toArray, List.set_cons_zero, List.set_cons_succ, Nat.reduceAdd]))
              refine Flow.unk_ rfl rfl ?_ ?_
              · intro wf hb hk
                (try simp only [holdsF, lookF, lookV, List.map_cons, List.map_nil, List.headD_cons, List.getD_cons_zero, List.getD_cons_succ, Nat.reduceEqDiff, Nat.reduceAdd, ↓reduceIte, and_true] at hk ⊢)
                (refine gives_append_Own (α := Msg) (.tmp 148) (.tmp 151) rfl Try.underlying48 (z := .agg #[.int .i64 0, .int .i64 0, .int .i64 0, .slice none 0 0, .slice none 0 0, .slice none 0 0]) (bytes := 96) (by kernel_rfl) rfl (by decide) (by rfl) (by rfl) (Own.nil _ w5.heap.size noB wf) (HTk.out.grow hb) (fun b hb e => by cases e) hb.size (by simp only [List.length_nil]; omega) ?_; intro v' w' h1 h2 h3; exact ⟨(Below.refl _ _).grown h2 (Nat.le_refl _) (fun k hk => by cases hk), by simpa using h1.mono (G := allB) fun _ _ => trivial⟩)
              intro v4
              simp only [Act.put, List.setIfInBounds_toArray, List.set_cons_zero, List.set_cons_succ, Nat.reduceAdd]
              (try simp only [holdsF, lookF, lookV, List.map_cons, List.map_nil, List.headD_cons, List.getD_cons_zero, List.getD_cons_succ, Nat.reduceEqDiff, Nat.reduceAdd, ↓reduceIte, and_true])
              repeat (first
                | (refine Flow.skip_ rfl ?_; simp only [Act.put, List.setIfInBounds_toArray, List.set_cons_zero, List.set_cons_succ, Nat.reduceAdd])
                | (refine Flow.pure_ (v := ?_) rfl rfl ?_ ?_; rotate_left; focus (intro w hb; go_simp; try with_reducible rfl)
                   simp only [Act.put, List.setIfInBounds_toArray, List.set_cons_zero, List.set_cons_succ, Nat.reduceAdd]))
              refine Flow.done_ (fun w6 hb6 hk => ?_)
              obtain ⟨h4, -⟩ := hk
              have HCL := Lib.hid (cut_len hRn)
              have hlt7 : ((ws.take 0).length + (ws.length - (0 + 1))) * 96 ≤ 140737488355328 := by rw [List.length_take]; omega
              have H4 := Lib.hid h4; have HB6 := Lib.hid hb6
              have HL7 := Lib.hid hlt7
              clear h4 hb6 hlt7
              go_wp2_with (at_builtin; go_loud (refine wpList_append_Own (α := Msg) rfl (.tmp 152) (.tmp 156) rfl Try.underlying48 (z := .agg #[.int .i64 0, .int .i64 0, .int .i64 0, .slice none 0 0, .slice none 0 0, .slice none 0 0]) (bytes := 96) (by kernel_rfl) rfl (by decide) rfl rfl H4.out (HDr.out.grow HB6.out) (fun b hb e => absurd (H4.out.block _ e).1 (Nat.not_le.2 hb)) HB6.out.size HL7.out ?_); intro v7 w7 ho7 hg7 hat7; obtain ⟨p7, c7, rfl, -⟩ := ho7.sl; rw [HCL.out] at ho7 hat7 ⊢)
              have hz := HZ.out
              have hz6 := HB6.out.size
              have hz2 := HB2W.out.size
              have hb7 : Below w5.heap.size w5 w7 := HB6.out.grown hg7 HB6.out.size (fun b hb => (H4.out.block b hb).1)
              have hs7 : Sl (fun b => wr.heap.size ≤ b ∧ b < w2.heap.size) w7 q2 (ws.length - 1) d2 ((ws.take 0 ++ ws.drop (0 + 1)).map letterOf) :=
                ((HS2.out.grow HB2W.out).keep (w' := w5) (fun b hb => HB5W.out.block b (by omega))).keep (w' := w7) fun b hb => hb7.block b (by omega)
              have HB7 := Lib.hid (below2 HB5.out hb7); have HS7 := Lib.hid hs7; have HO7 := Lib.hid ho7; have HA7 := Lib.hid hat7
              clear hb7 hs7 ho7 hat7 hg7
              go_roundw
              case rel =>
                refine ⟨j + 1, ws.take 0 ++ ws.drop (0 + 1), by go_num, by rw [HCL.out]; omega, cut_mem HK.out.all, ?_, ⟨q2, d2, by rw [HCL.out], ?_⟩, below2 HK.out.below HB7.out⟩
                · exact (HO7.out.base (by omega)).mono fun _ _ => trivial
                · rw [HCL.out]
                  refine HS7.out.mono fun b hb e => ?_
                  rcases HA7.out with ha | ha
                  · rw [ha] at e
                    have := (H4.out.block _ e).1
                    omega
                  · rw [ha] at e
                    simp at e
                    omega
              case measure => simp; omega

theorem NetMany_any {F G : Blks} {p q : Option Addr} {n c no co : Nat} {l : List Msg} {os : List Int} {w : World} (h1 : Sl F w p n c l) (h2 : Sl G w q no co os) :
    Calls Try.prog 6 #[.slice p n c, .slice q no co] w fun e w' => e = .returned (.bool true) ∧ Below w.heap.size w w' := by
  by_cases h : 20 < n ∨ 100 < no
  · exact NetMany_long h1 h2 h
  · exact NetMany_short h1 h2 (by omega) (by omega)
end Go.Proofs.Ytpmdkmpmpjdglaa
