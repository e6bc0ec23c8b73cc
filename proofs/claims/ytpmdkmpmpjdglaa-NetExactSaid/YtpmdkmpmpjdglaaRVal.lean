/- value.Read at a value that was written. -/
import Derived.Test.YtpmdkmpmpjdglaaRText
set_option linter.unusedSimpArgs false
set_option linter.unusedVariables false
namespace Go.Proofs.Ytpmdkmpmpjdglaa
open Go Go.RowKit
open Rep (vr)

theorem Get_at {F : Blks} {p : Option Addr} {n c : Nat} {bs : List UInt8} {w : World} {a k : Nat} {x : Int} (h1 : Sl F w p n c bs) (hn : n ≤ 1000000000) (hs1 : 1 ≤ k) (hs2 : k ≤ 7) (hh : Here bs a (be x k)) (hf : fitsN x k = true) :
    Calls Try.prog 66 #[.slice p n c, .int .i64 a, .int .i64 k] w fun e w' => e = .returned (.tuple #[.int .i64 x, .int .i64 (a + k : Nat), .int .i64 0]) ∧ w = w' := by
  have h2 := hh.take
  have h3 := hh.le (by rw [be_length]; omega)
  rw [be_length] at h2 h3
  refine (Get_ok h1 hn hs1 hs2 (by rw [← h1.len]; exact h3)).mono ?_
  rintro e w' ⟨rfl, rfl⟩
  exact ⟨by rw [h2, numB_be hf], rfl⟩

theorem fits_small {x : Int} (h0 : 0 ≤ x) (h1 : x ≤ 255) : fitsN x 1 = true := by
  unfold fitsN
  simp only [Bool.and_eq_true, decide_eq_true_eq, Nat.reduceMul, Int.reducePow]
  omega
theorem be_one (x : Int) : be x 1 = [byteAt x 0] := by simp [be]
theorem valB_head (x : Val) : valB x = be x.kind 1 ++ (if x.kind = 2 then be x.i 1 else if x.kind = 3 then intB x.i else if x.kind = 4 then textB x.s else []) := by
  rw [be_one, be_one]; rfl

set_option maxRecDepth 100000 in
set_option maxHeartbeats 800000 in
theorem ValRead_ok {F : Blks} {p : Option Addr} {n c : Nat} {bs : List UInt8} {w : World} {a : Nat} {x : Val} (h1 : Sl F w p n c bs) (hn : n ≤ 1000000000) (hh : Here bs a (valB x)) (hok : valOk x = true) :
    Calls Try.prog 92 #[.slice p n c, .int .i64 a] w fun e w' => e = .returned (.tuple #[.agg #[.int .i64 x.kind, .int .i64 x.i, .string x.s], .int .i64 (a + (valB x).length : Nat), .int .i64 0]) ∧ Below w.heap.size w w' := by
  have hv := valB_head x
  rw [hv] at hh
  have ht := hh.snd
  rw [be_length] at ht
  have hx := hok
  unfold valOk at hx
  simp only [Bool.or_eq_true, Bool.and_eq_true, decide_eq_true_eq] at hx
  obtain ⟨k, i, s⟩ := x
  simp only at hx hh ht hv
  have hlen : (valB ⟨k, i, s⟩).length = 1 + (if k = 2 then be i 1 else if k = 3 then intB i else if k = 4 then textB s else []).length := by rw [hv, List.length_append, be_length]
  have hk : 1 ≤ k ∧ k ≤ 4 := by omega
  have h1' : ∀ w', Below w.heap.size w w' → Sl F w' p n c bs := fun w' hb => h1.grow hb
  have hG := Lib.hid (Get_at (w := w.alloc (.cells #[.int .i64 0, .int .i64 0, .string ⟨#[]⟩] 127)) (k := 1) (h1' _ (al1 _ _)) hn (by decide) (by decide) hh.fst (fits_small (by omega) (by omega)))
  have hii : I64 i ∧ s.size ≤ maxLen := by
    unfold I64 maxLen
    omega
  have hik : I64 k := ⟨by omega, by omega⟩
  have hc : ∀ w : World, Calls Try.prog 98 #[.agg #[.int .i64 k, .int .i64 i, .string s]] w fun e w' => e = .returned (.int .i64 0) ∧ Below w.heap.size w w' := fun w => by
    have := ValCheck (w := w) (F := allB) (x := ⟨k, i, s⟩) (v := .agg #[.int .i64 k, .int .i64 i, .string s]) ⟨rfl, hik, hii⟩
    rw [hok] at this
    exact this
  have HL := Lib.hid hlen; have HT := Lib.hid ht; have H1 := Lib.hid h1'; have HC := Lib.hid hc
  clear hv hh ht hlen h1' h1 hok hii hik hc
  rcases hx with ((⟨⟨h2, h3⟩, h4⟩ | ⟨⟨h2, h3⟩, h4⟩) | ⟨⟨h2, h3⟩, h4⟩) | ⟨⟨h2, h3⟩, h4⟩
  · subst h2; subst h3
    obtain rfl : s = ⟨#[]⟩ := by
      cases s with | mk d => simp at h4; rw [h4]; rfl
    clear h4 hk
    go_enter Try.func92, Try.ntmps92
    go_wp2_with fail
    refine hG.out.mono ?_
    rintro e w1 ⟨rfl, rfl⟩
    go_wp2_with fail
    refine (HC.out _).mono ?_
    rintro e w2 ⟨rfl, hb⟩
    have c0 : World.cell? w2 ⟨w.heap.size, 0, none⟩ = some (.int .i64 1) := cell_later hb (by go_simp)
    have c1 : World.cell? w2 ⟨w.heap.size, 1, none⟩ = some (.int .i64 0) := cell_later hb (by go_simp)
    have c2 : World.cell? w2 ⟨w.heap.size, 2, none⟩ = some (.string ⟨#[]⟩) := cell_later hb (by go_simp)
    have cf : ∀ o, World.frozen? w2 ⟨w.heap.size, o, none⟩ = false := fun o => (Below.frozen hb (p := ⟨w.heap.size, o, none⟩) (by simp <;> omega)).trans (by go_simp)
    have hB := below2 (al1 w _) hb
    go_wp2
    refine bodyPost_ret (v := .tuple #[.agg #[.int .i64 1, .int .i64 0, .string ⟨#[]⟩], .int .i64 (a + 1 : Nat), .int .i64 0]) ?_ rfl ⟨?_, ?_⟩
    · simp [results, Try.results92, go_sem, c0, c1, c2, cf]
    · rw [HL.out]; rfl
    · exact (by repeat' (first | with_reducible exact hB | with_reducible exact Below.refl _ _ | ((with_reducible refine Below.setCell ?_ ?_ _); rotate_left; (focus (simp <;> omega))) | ((with_reducible refine Below.alloc ?_ ?_ _); rotate_left; (focus (simp <;> omega))) | (with_reducible refine below_drew ?_) | (with_reducible refine below_drewN ?_ _)))
  · subst h2
    obtain rfl : s = ⟨#[]⟩ := by
      cases s with | mk d => simp at h4; rw [h4]; rfl
    have hT := Lib.hid (show Here bs (a + 1) (be i 1) from HT.out)
    have HLn : (valB ⟨2, i, ⟨#[]⟩⟩).length = 2 := by rw [HL.out, if_pos rfl, be_length]
    have HN := Lib.hid HLn
    have hI : 0 ≤ i ∧ i ≤ 255 := by omega
    clear h4 hk HLn h3
    have HI := Lib.hid hI
    clear hI
    go_enter Try.func92, Try.ntmps92
    go_wp2_with fail
    refine hG.out.mono ?_
    rintro e w1 ⟨rfl, rfl⟩
    go_wp2_with fail
    refine (Get_at (k := 1) (H1.out _ (by repeat' (first | with_reducible exact Below.refl _ _ | with_reducible exact Below.refl _ _ | ((with_reducible refine Below.setCell ?_ ?_ _); rotate_left; (focus (simp <;> omega))) | ((with_reducible refine Below.alloc ?_ ?_ _); rotate_left; (focus (simp <;> omega))) | (with_reducible refine below_drew ?_) | (with_reducible refine below_drewN ?_ _)))) hn (by decide) (by decide) hT.out (fits_small (by have := HI.out; omega) (by have := HI.out; omega))).mono ?_
    rintro e w1 ⟨rfl, rfl⟩
    go_wp2_with fail
    refine (HC.out _).mono ?_
    rintro e w2 ⟨rfl, hb⟩
    have c0 : World.cell? w2 ⟨w.heap.size, 0, none⟩ = some (.int .i64 2) := cell_later hb (by go_simp)
    have c1 : World.cell? w2 ⟨w.heap.size, 1, none⟩ = some (.int .i64 i) := cell_later hb (by go_simp)
    have c2 : World.cell? w2 ⟨w.heap.size, 2, none⟩ = some (.string ⟨#[]⟩) := cell_later hb (by go_simp)
    have cf : ∀ o, World.frozen? w2 ⟨w.heap.size, o, none⟩ = false := fun o => (Below.frozen hb (p := ⟨w.heap.size, o, none⟩) (by simp <;> omega)).trans (by go_simp)
    have hB := below2 (al1 w _) hb
    go_wp2
    refine bodyPost_ret (v := .tuple #[.agg #[.int .i64 2, .int .i64 i, .string ⟨#[]⟩], .int .i64 (a + 1 + 1 : Nat), .int .i64 0]) ?_ rfl ⟨?_, ?_⟩
    · simp [results, Try.results92, go_sem, c0, c1, c2, cf]
    · rw [HN.out]
    · exact (by repeat' (first | with_reducible exact hB | with_reducible exact Below.refl _ _ | ((with_reducible refine Below.setCell ?_ ?_ _); rotate_left; (focus (simp <;> omega))) | ((with_reducible refine Below.alloc ?_ ?_ _); rotate_left; (focus (simp <;> omega))) | (with_reducible refine below_drew ?_) | (with_reducible refine below_drewN ?_ _)))
  · subst h2
    obtain rfl : s = ⟨#[]⟩ := by
      cases s with | mk d => simp at h4; rw [h4]; rfl
    have hT := Lib.hid (show Here bs (a + 1) (intB i) from HT.out)
    have HLn : (valB ⟨3, i, ⟨#[]⟩⟩).length = 10 := by rw [HL.out, if_neg (by decide), if_pos rfl]; unfold intB; rw [List.length_cons, be_length]
    have HN := Lib.hid HLn
    clear h4 hk HLn
    have HI := Lib.hid h3
    clear h3
    go_enter Try.func92, Try.ntmps92
    go_wp2_with fail
    refine hG.out.mono ?_
    rintro e w1 ⟨rfl, rfl⟩
    go_wp2_with fail
    refine (GetInt_ok (a := a + 1) (H1.out _ (by repeat' (first | with_reducible exact Below.refl _ _ | with_reducible exact Below.refl _ _ | ((with_reducible refine Below.setCell ?_ ?_ _); rotate_left; (focus (simp <;> omega))) | ((with_reducible refine Below.alloc ?_ ?_ _); rotate_left; (focus (simp <;> omega))) | (with_reducible refine below_drew ?_) | (with_reducible refine below_drewN ?_ _)))) hn hT.out (by have := HI.out; omega) (by have := HI.out; omega)).mono ?_
    rintro e w1 ⟨rfl, rfl⟩
    go_wp2_with fail
    refine (HC.out _).mono ?_
    rintro e w2 ⟨rfl, hb⟩
    have c0 : World.cell? w2 ⟨w.heap.size, 0, none⟩ = some (.int .i64 3) := cell_later hb (by go_simp)
    have c1 : World.cell? w2 ⟨w.heap.size, 1, none⟩ = some (.int .i64 i) := cell_later hb (by go_simp)
    have c2 : World.cell? w2 ⟨w.heap.size, 2, none⟩ = some (.string ⟨#[]⟩) := cell_later hb (by go_simp)
    have cf : ∀ o, World.frozen? w2 ⟨w.heap.size, o, none⟩ = false := fun o => (Below.frozen hb (p := ⟨w.heap.size, o, none⟩) (by simp <;> omega)).trans (by go_simp)
    have hB := below2 (al1 w _) hb
    go_wp2
    refine bodyPost_ret (v := .tuple #[.agg #[.int .i64 3, .int .i64 i, .string ⟨#[]⟩], .int .i64 (a + 1 + 9 : Nat), .int .i64 0]) ?_ rfl ⟨?_, ?_⟩
    · simp [results, Try.results92, go_sem, c0, c1, c2, cf]
    · rw [HN.out]
    · exact (by repeat' (first | with_reducible exact hB | with_reducible exact Below.refl _ _ | ((with_reducible refine Below.setCell ?_ ?_ _); rotate_left; (focus (simp <;> omega))) | ((with_reducible refine Below.alloc ?_ ?_ _); rotate_left; (focus (simp <;> omega))) | (with_reducible refine below_drew ?_) | (with_reducible refine below_drewN ?_ _)))
  · subst h2; subst h3
    have hT := Lib.hid (show Here bs (a + 1) (textB s) from HT.out)
    have HLn : (valB ⟨4, 0, s⟩).length = 2 + s.size := by rw [HL.out, if_neg (by decide), if_neg (by decide), if_pos rfl, textB_len]; omega
    have HN := Lib.hid HLn
    have HI := Lib.hid h4
    clear h4 hk HLn
    go_enter Try.func92, Try.ntmps92
    go_wp2_with fail
    refine hG.out.mono ?_
    rintro e w1 ⟨rfl, rfl⟩
    go_wp2_with fail
    refine (GetText_ok (a := a + 1) (H1.out _ (by repeat' (first | with_reducible exact Below.refl _ _ | with_reducible exact Below.refl _ _ | ((with_reducible refine Below.setCell ?_ ?_ _); rotate_left; (focus (simp <;> omega))) | ((with_reducible refine Below.alloc ?_ ?_ _); rotate_left; (focus (simp <;> omega))) | (with_reducible refine below_drew ?_) | (with_reducible refine below_drewN ?_ _)))) hn hT.out HI.out).mono ?_
    rintro e w1 ⟨rfl, rfl⟩
    go_wp2_with fail
    refine (HC.out _).mono ?_
    rintro e w2 ⟨rfl, hb⟩
    have c0 : World.cell? w2 ⟨w.heap.size, 0, none⟩ = some (.int .i64 4) := cell_later hb (by go_simp)
    have c1 : World.cell? w2 ⟨w.heap.size, 1, none⟩ = some (.int .i64 0) := cell_later hb (by go_simp)
    have c2 : World.cell? w2 ⟨w.heap.size, 2, none⟩ = some (.string s) := cell_later hb (by go_simp)
    have cf : ∀ o, World.frozen? w2 ⟨w.heap.size, o, none⟩ = false := fun o => (Below.frozen hb (p := ⟨w.heap.size, o, none⟩) (by simp <;> omega)).trans (by go_simp)
    have hB := below2 (al1 w _) hb
    go_wp2
    refine bodyPost_ret (v := .tuple #[.agg #[.int .i64 4, .int .i64 0, .string s], .int .i64 (a + 1 + 1 + s.size : Nat), .int .i64 0]) ?_ rfl ⟨?_, ?_⟩
    · simp [results, Try.results92, go_sem, c0, c1, c2, cf]
    · rw [HN.out]; simp; omega
    · exact (by repeat' (first | with_reducible exact hB | with_reducible exact Below.refl _ _ | ((with_reducible refine Below.setCell ?_ ?_ _); rotate_left; (focus (simp <;> omega))) | ((with_reducible refine Below.alloc ?_ ?_ _); rotate_left; (focus (simp <;> omega))) | (with_reducible refine below_drew ?_) | (with_reducible refine below_drewN ?_ _)))
end Go.Proofs.Ytpmdkmpmpjdglaa
