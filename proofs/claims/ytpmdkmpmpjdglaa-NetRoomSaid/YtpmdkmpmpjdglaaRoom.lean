/- The law NetRoom, walked. -/
import Derived.Test.YtpmdkmpmpjdglaaWakes
set_option linter.unusedSimpArgs false
set_option linter.unusedVariables false
namespace Go.Proofs.Ytpmdkmpmpjdglaa
open Go Go.RowKit
open Rep (vr)

def l01 : Letter := ⟨0, 1, []⟩
theorem lit01 {w : World} {G : Blks} (hG : G w.heap.size) : Sl G (w.alloc (.cells #[.int .i64 0, .int .i64 1, .slice none 0 0] 39)) (some ⟨w.heap.size, 0, none⟩) 1 1 [l01] :=
  Sl.lit (α := Letter) (xs := [l01]) (t := 39) (fz := (0, 0)) (heap_alloc_new _ _) [.agg #[.int .i64 0, .int .i64 1, .slice none 0 0]] rfl rfl (elems1 ⟨none, 0, 0, rfl, ⟨i64_of (by decide), i64_of (by decide)⟩, Sl.nil _ _ none 0 (by simp [maxLen])⟩) hG (by simp)
theorem m0_new (w : World) (o : Obj) : vr allB (((w.alloc (.cells #[.int .i64 1, .int .i64 0] 3)).alloc (.cells #[.int .i64 0, .int .i64 0] 3)).alloc o) (.agg #[.int .i64 2, .int .i64 1, .int .i64 0, .slice (some ⟨w.heap.size, 0, none⟩) 2 2, .slice (some ⟨w.heap.size + 1, 0, none⟩) 2 2, .slice none 0 0]) m0 :=
  m0_vr (((al2 (w.alloc _) _ _).block _ (by simp)).trans (heap_alloc_new w _)) (((al1 ((w.alloc _).alloc _) _).block (w.heap.size + 1) (by simp)).trans (by simpa using heap_alloc_new (w.alloc (.cells #[.int .i64 1, .int .i64 0] 3)) (.cells #[.int .i64 0, .int .i64 0] 3)))
theorem l01_small (k : Nat) : ∀ x ∈ List.replicate k l01, x.body.length ≤ 140737488355328 := fun x hx => by rw [List.eq_of_mem_replicate hx]; exact Nat.zero_le _

set_option maxRecDepth 100000 in
set_option maxHeartbeats 400000 in
theorem NetRoom_any {w : World} {at_ : Int} : Calls Try.prog 4 #[.int .i64 at_] w fun e w' => e = .returned (.bool true) ∧ Below w.heap.size w w' := by
  obtain ⟨r, hr, hr3⟩ : ∃ r : Nat, (IntKind.u64.wrap at_).tmod 3 = (r : Int) ∧ r < 3 := by
    have h0 : 0 ≤ IntKind.u64.wrap at_ := by simp only [IntKind.wrap, IntKind.bits, IntKind.signed]; simp; exact Int.emod_nonneg _ (by decide)
    obtain ⟨m, hm⟩ := Int.eq_ofNat_of_zero_le h0
    refine ⟨m % 3, ?_, Nat.mod_lt _ (by decide)⟩
    rw [hm]
    rfl
  have hw0 : ∀ k : Nat, k < 2000 → IntKind.i64.wrap (k : Int) = (k : Int) := fun k hk => IntWalk.i64_in _ (by omega)
  go_enter Try.func4, Try.ntmps4
  go_wp2
  go_loopw [3, 4] (fun v i wr => ∃ k : Nat, k ≤ 1199 + r ∧ i = .int .i64 k ∧ Own 39 w.heap.size (newB w) wr v (List.replicate k l01) ∧ Below w.heap.size w wr) (fun _ i _ => 1199 + r - (intOf i).toNat)
  case atStart => exact ⟨0, Nat.zero_le _, rfl, Own.nil _ _ _ _, Below.refl _ _⟩
  case round =>
    obtain ⟨k, hk, rfl, ho, hb⟩ := hrel
    by_cases hlt : k < 1199 + r
    · have hb2 := below2 hb (al1 wr (.cells #[.int .i64 0, .int .i64 1, .slice none 0 0] 39))
      have H2 := Lib.hid (ho.grow (al1 wr (.cells #[.int .i64 0, .int .i64 1, .slice none 0 0] 39)))
      have HO := Lib.hid ho
      have hz := hb.size
      have hcnt : ((List.replicate k l01).length + 1) * 40 ≤ 140737488355328 := by simp; omega
      have HC := Lib.hid hcnt; have HB := Lib.hid hb2
      clear ho hb hb2 hcnt
      go_wp2_with (at_builtin; refine wpList_append_Own (α := Letter) rfl (.tmp 20) (.tmp 22) rfl Try.underlying22 (z := .agg #[.int .i64 0, .int .i64 0, .slice none 0 0]) (bytes := 40) (by kernel_rfl) rfl (by decide) rfl rfl H2.out (lit01 (G := fun b => b = wr.heap.size) rfl) (fun b hb h => by subst hb; exact absurd (HO.out.block _ h).2 (Nat.lt_irrefl _)) (by simp; omega) HC.out ?_; intro v' w' ho2 hg hat)
      go_roundw
      case rel =>
        refine ⟨k + 1, by omega, by go_num, ?_, HB.out.grown hg (by simp; omega) (fun k hk => (HO.out.block k hk).1)⟩
        rw [List.replicate_succ']
        exact ho2.mono fun b hb => by rcases hb with hb | rfl; exact hb; exact hz
      case measure => simp [intOf]; omega
    · obtain rfl : k = 1199 + r := by omega
      obtain ⟨q, d, rfl, hs⟩ := ho.sl
      have hrl : (List.replicate (1199 + r) l01).length = 1199 + r := by simp
      rw [hrl] at hs ⊢
      have HS := Lib.hid hs; have HB := Lib.hid hb
      clear ho hs hb hrl
      by_cases h0 : r = 0
      · subst h0
        go_wp2_with fail
        refine (Put_yes (F := allB) (HS.out.mono (fun _ _ => trivial) |>.grow (al3 _ _ _ _)) (by omega) (l01_small _) (m0_new wr _) m0_small (fun x hx => by cases hx) m0_ok).mono ?_
        rintro e w1 ⟨v1, rfl, ho1, hb1⟩
        obtain ⟨q1, d1, rfl, hs1⟩ := ho1.sl
        have hl1 : (List.replicate (1199 + 0) l01 ++ [(⟨m0.fr, m0.to, msgB m0⟩ : Letter)]).length = 1200 := by simp
        rw [hl1]
        have HB1 := Lib.hid (below2 (al3 wr _ _ _) hb1)
        clear ho1 hs1 hb1 hl1
        go_wp2_with fail
        refine (Copy_yes (k := 5) (HS.out.grow HB1.out) (by omega) (by omega) (l01_small _)).mono ?_
        rintro e w2 ⟨v2, rfl, ho2, hb2⟩
        obtain ⟨q2, d2, rfl, hs2⟩ := ho2.sl
        have hl2 : (List.replicate (1199 + 0) l01 ++ [gt (List.replicate (1199 + 0) l01) 5]).length = 1200 := by simp
        rw [hl2]
        have HB2 := Lib.hid (below2 HB.out (below2 HB1.out hb2))
        clear ho2 hs2 hb2 hl2
        go_wp2_with fail
        refine wakes_any.mono ?_
        rintro e w3 ⟨rfl, hb3⟩
        go_wp2
        go_ret
        exact ⟨rfl, below2 HB2.out hb3⟩
      · have hr0 : decide ((0 : Int) < (r : Int)) = true := by simp; omega
        go_wp2_with fail
        refine (Put_full (F := allB) (m0_new wr _) m0_small (fun x hx => by cases hx) m0_ok (by omega)).mono ?_
        rintro e w1 ⟨rfl, hb1⟩
        have HB1 := Lib.hid (below2 (al3 wr _ _ _) hb1)
        clear hb1
        go_wp2_with fail
        refine (Copy_full (by omega) (by omega) (by omega)).mono ?_
        rintro e w2 ⟨rfl, hb2⟩
        have HB2 := Lib.hid (below2 HB.out (below2 HB1.out hb2))
        clear hb2
        go_wp2_with fail
        refine wakes_any.mono ?_
        rintro e w3 ⟨rfl, hb3⟩
        go_wp2
        go_ret
        exact ⟨rfl, below2 HB2.out hb3⟩
end Go.Proofs.Ytpmdkmpmpjdglaa
