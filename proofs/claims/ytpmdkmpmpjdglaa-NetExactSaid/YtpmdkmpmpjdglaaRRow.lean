/- row.Read at a row that was written. -/
import Derived.Test.YtpmdkmpmpjdglaaRVal
set_option linter.unusedSimpArgs false
set_option linter.unusedVariables false
namespace Go.Proofs.Ytpmdkmpmpjdglaa
open Go Go.RowKit
open Rep (vr)

theorem Here.item {α : Type} [Inhabited α] {f : α → List UInt8} {bs : List UInt8} {a k : Nat} {l : List α} (h : Here bs a (l.flatMap f)) (hk : k < l.length) : Here bs (a + ((l.take k).flatMap f).length) (f (gt l k)) := by
  have e : l.flatMap f = (l.take k).flatMap f ++ (f (gt l k) ++ (l.drop (k + 1)).flatMap f) := by
    have h1 : l = l.take k ++ gt l k :: l.drop (k + 1) := by
      rw [gt_eq (List.getElem?_eq_getElem hk), List.getElem_cons_drop, List.take_append_drop]
    conv => lhs; rw [h1]
    rw [List.flatMap_append, List.flatMap_cons]
  rw [e] at h
  exact h.snd.fst
theorem flat_take {α : Type} [Inhabited α] (f : α → List UInt8) {k : Nat} {l : List α} (hk : k < l.length) : ((l.take (k + 1)).flatMap f).length = ((l.take k).flatMap f).length + (f (gt l k)).length := by
  rw [List.take_succ_eq_append_getElem hk, gt_eq (List.getElem?_eq_getElem hk), List.flatMap_append, List.length_append, List.flatMap_cons, List.flatMap_nil, List.append_nil]
theorem take_snoc' {α : Type} [Inhabited α] {k : Nat} {l : List α} (hk : k < l.length) : l.take (k + 1) = l.take k ++ [gt l k] := by
  rw [List.take_succ_eq_append_getElem hk, gt_eq (List.getElem?_eq_getElem hk)]
theorem rowB_head (r : List Val) : rowB r = be r.length 1 ++ r.flatMap valB := by
  rw [be_one]; rfl
theorem valOk_small {x : Val} (h : valOk x = true) : I64 x.kind ∧ I64 x.i ∧ x.s.size ≤ maxLen := by
  unfold valOk at h
  simp only [Bool.or_eq_true, Bool.and_eq_true, decide_eq_true_eq] at h
  unfold I64 maxLen
  omega
theorem sl_val {F : Blks} {W : World} {x : Val} {g : Nat} (hx : I64 x.kind ∧ I64 x.i ∧ x.s.size ≤ maxLen) (hg : g = W.heap.size) (hF : F g) : Sl F (W.alloc (.cells #[.int .i64 x.kind, .int .i64 x.i, .string x.s] 127)) (some ⟨g, 0, none⟩) 1 1 [x] := by
  subst hg
  exact Sl.lit (α := Val) (xs := [x]) (t := 127) (fz := (0, 0)) (heap_alloc_new _ _) [.agg #[.int .i64 x.kind, .int .i64 x.i, .string x.s]] rfl rfl (elems1 ⟨rfl, hx⟩) hF (by simp)

set_option maxRecDepth 100000 in
set_option maxHeartbeats 800000 in
theorem RowRead_ok {F : Blks} {p : Option Addr} {n c : Nat} {bs : List UInt8} {w : World} {a : Nat} {r : List Val} (h1 : Sl F w p n c bs) (hn : n ≤ 1000000000) (hh : Here bs a (rowB r)) (hok : rowOk r = true) :
    Calls Try.prog 71 #[.slice p n c, .int .i64 a] w fun e w' => ∃ v, e = .returned (.tuple #[v, .int .i64 (a + (rowB r).length : Nat), .int .i64 0]) ∧ Own 127 w.heap.size noB w' v r ∧ Below w.heap.size w w' := by
  have hv := rowB_head r
  rw [hv] at hh
  have ht := hh.snd
  rw [be_length] at ht
  have hlen : (rowB r).length = 1 + (r.flatMap valB).length := by rw [hv, List.length_append, be_length]
  unfold rowOk at hok
  simp only [Bool.and_eq_true, decide_eq_true_eq, List.all_eq_true] at hok
  obtain ⟨h12, hall⟩ := hok
  have hle : a + 1 + (r.flatMap valB).length ≤ 1000000001 := by
    have := h1.len
    rcases Nat.eq_zero_or_pos (r.flatMap valB).length with h0 | h0
    · have := hh.le (by rw [List.length_append, be_length]; omega)
      rw [List.length_append, be_length] at this
      omega
    · have := ht.le h0
      omega
  have hG := Lib.hid (Get_at (k := 1) h1 hn (by decide) (by decide) hh.fst (fits_small (by omega) (by omega)))
  have d1 : decide ((12 : Int) < ((r.length : Nat) : Int)) = false := by simp; omega
  have HL := Lib.hid hlen; have HT := Lib.hid (fun k (hk : k < r.length) => ht.item hk); have H1 := Lib.hid (fun w' (hb : Below w.heap.size w w') => h1.grow hb); have HA := Lib.hid (fun k (hk : k < r.length) => hall _ (List.mem_of_getElem? (gt_get hk)))
  have HE := Lib.hid hle
  clear hv hh ht hlen h1 hall hle
  go_enter Try.func71, Try.ntmps71
  go_wp2_with fail
  refine hG.out.mono ?_
  rintro e w1 ⟨rfl, rfl⟩
  go_wp2
  go_loopw [4, 5, 24] (fun v nx i wr => ∃ k m : Nat, k ≤ r.length ∧ i = .int .i64 k ∧ m = a + 1 + ((r.take k).flatMap valB).length ∧ nx = .int .i64 m ∧ Own 127 w.heap.size noB wr v (r.take k) ∧ Below w.heap.size w wr) (fun _ _ i _ => r.length - (intOf i).toNat)
  case atStart => exact ⟨0, a + 1, Nat.zero_le _, rfl, by simp, by go_num, Own.nil _ _ _ _, Below.refl _ _⟩
  case round =>
    obtain ⟨k, m, hk, rfl, hm, rfl, ho, hB⟩ := hrel
    have HO := Lib.hid ho; have HB := Lib.hid hB; have Hm := Lib.hid hm
    clear ho hB hm
    by_cases hlt : k < r.length
    · have hok := HA.out k hlt
      have hsm := valOk_small hok
      have hfl := flat_take valB hlt
      have hsn := take_snoc' hlt
      have HF := Lib.hid hfl; have HS := Lib.hid hsn; have HK := Lib.hid hok; have HM := Lib.hid hsm
      clear hfl hsn hok hsm
      go_wp2_with fail
      refine (ValRead_ok (a := m) (x := gt r k) (H1.out _ HB.out) hn (by rw [Hm.out]; exact HT.out k hlt) HK.out).mono ?_
      rintro e w2 ⟨rfl, hb2⟩
      have HB2 := Lib.hid (below2 HB.out hb2)
      have HO2 := Lib.hid (HO.out.grow hb2)
      have hz := HB2.out.size
      clear hb2
      go_wp2_with (at_builtin; go_loud (refine wpList_append_Own (α := Val) rfl (.tmp 35) (.tmp 37) rfl Try.underlying73 (z := .agg #[.int .i64 0, .int .i64 0, .string ⟨#[]⟩]) (bytes := 32) (by kernel_rfl) rfl (by decide) rfl rfl ((HO2.out.alloc _).alloc _) (sl_val (F := fun b => w2.heap.size ≤ b) HM.out (by simp) (by simp)) (fun b hb e => absurd (HO2.out.block _ e).2 (by omega)) (by simp; omega) (by rw [List.length_take]; omega) ?_); intro v' w' ho2 hg2 hat)
      go_roundw
      case rel =>
        exact ⟨k + 1, m + (valB (gt r k)).length, by omega, by go_num, by rw [HF.out, Hm.out]; omega, by go_num, by rw [HS.out]; exact ho2.flat, ((HB2.out.alloc hz _).alloc (by simp; omega) _).grown hg2 (by simp; omega) (fun b hb => (HO2.out.block b hb).1)⟩
      case measure => simp [intOf]; omega
    · go_wp2
      go_ret3
      obtain rfl : k = r.length := by omega
      have hm := Hm.out
      rw [List.take_length] at hm
      rw [show a + (rowB r).length = m by rw [HL.out]; omega]
      have := HO.out
      rw [List.take_length] at this
      exact ⟨_, rfl, this, HB.out⟩
end Go.Proofs.Ytpmdkmpmpjdglaa
