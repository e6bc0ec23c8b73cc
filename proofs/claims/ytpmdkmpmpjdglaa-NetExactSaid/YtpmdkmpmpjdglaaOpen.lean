/- An argument of plain data, opened: it is in memory what the walks ask for. -/
import Derived.Test.YtpmdkmpmpjdglaaData
import Derived.Test.YtpmdkmpmpjdglaaBase
import Derived.ProofKit
import Derived.OpenShut
import Derived.Deep.Slices
import Derived.ChangeArms
set_option linter.unusedSimpArgs false
set_option linter.unusedVariables false
namespace Go.Proofs.Ytpmdkmpmpjdglaa
open Go Go.RowKit Go.ChangeShapes Go.WideShapes
open Rep (vr)

/-- What reads as the type e stands for some y. -/
structure Opens (α : Type) [Rep α] (e : TypeId) : Prop where
  get : ∀ {H : Type} {enc : TypeId × Value → H} {w : World} {spare : Nat → Bool} {held : Bool} {n : Nat} {cs : List Value} {x : DataW H × List MemPlace},
    DataW.trod enc Try.prog w 0 spare held n e cs = some x → ∃ (v : Value) (y : α), v.cells.toList = cs ∧ vr allB w v y

theorem opens_int {e : TypeId} (ht : Try.prog.underlying e = some (.int .i64)) : Opens Int e where
  get h := by
    obtain ⟨n, rfl, _, hw⟩ := DataW.trod_int ht h
    exact ⟨.int .i64 n, n, rfl, rfl, bounds_i64 hw⟩
theorem opens_u8 {e : TypeId} (ht : Try.prog.underlying e = some (.int .u8)) : Opens UInt8 e where
  get h := by
    obtain ⟨n, rfl, _, hw⟩ := DataW.trod_int ht h
    have hb := bounds_u8 hw
    have hlt : n.toNat < 2 ^ 8 := by omega
    have key : (((UInt8.ofNat n.toNat).toNat : Nat) : Int) = n := by
      rw [UInt8.toNat_ofNat', Nat.mod_eq_of_lt hlt]
      omega
    exact ⟨.int .u8 n, UInt8.ofNat n.toNat, rfl, congrArg (Value.int .u8) key.symm⟩
theorem opens_str {e : TypeId} (ht : Try.prog.underlying e = some .string) : Opens ByteArray e where
  get h := by
    obtain ⟨s, rfl, _, hs⟩ := DataW.trod_string ht h
    exact ⟨.string s, s, rfl, rfl, hs⟩
theorem addr_spot {w : World} {a : Addr} {v : Value} (h : w.cell? a = some v) : a = ⟨a.block, a.off, none⟩ := by
  have := World.cell?_spot h
  obtain ⟨b, o, sp⟩ := a
  simp only at this
  subst this
  rfl
theorem add_add0 (b o i j : Nat) : ((⟨b, o, none⟩ : Addr).add i).add j = ⟨b, o + i + j, none⟩ := by
  unfold Addr.add
  by_cases h1 : i = 0 <;> by_cases h2 : j = 0 <;> simp [h1, h2]
theorem opens_list {α : Type} [Rep α] [Inhabited α] {t e : TypeId} (ht : Try.prog.underlying t = some (.slice e)) (hc : Try.prog.cellsOf e = Rep.size α) (he : Opens α e) : Opens (List α) t where
  get h := by
    rcases Go.Deep.open_slice ht h with ⟨rfl, _⟩ | ⟨a, len, cap, m, n, D, Pl, rfl, _, hle, hmax, hm, _, hel⟩
    · exact ⟨.slice none 0 0, [], rfl, none, 0, 0, rfl, Sl.nil _ _ none 0 (by simp [maxLen])⟩
    · have hlm : len ≤ m := by rw [hm]; split <;> omega
      obtain ⟨f, hf⟩ := Go.Deep.choose_lt (α := α) (n := len) (p := fun i y => ∃ v, vr allB _ v y ∧ ∀ j u, v.cells[j]? = some u → World.cell? _ ((a.add (i * Rep.size α)).add j) = some u) (fun i hi => by
        obtain ⟨cs', h1, h2⟩ := hel i (by omega)
        obtain ⟨v, y, hv, hy⟩ := he.get h2
        obtain ⟨_, hl, hcell⟩ := World.cells?_some h1
        refine ⟨y, v, hy, fun j u hu => ?_⟩
        rw [hc] at hcell hl
        have hju : cs'[j]? = some u := by rw [← hv]; simpa using hu
        have hj : j < Rep.size α := by have := (List.getElem?_eq_some_iff.1 hju).1; omega
        rw [hcell j hj, hju])
      refine ⟨.slice (some a) len cap, (List.range len).map f, rfl, some a, len, cap, rfl, by simp, hle, hmax, fun i x hx => ?_⟩
      have hi : i < len := by have := (List.getElem?_eq_some_iff.1 hx).1; simpa using this
      rw [List.getElem?_map, List.getElem?_range hi] at hx
      injection hx with hx
      obtain ⟨v, hv, hcell⟩ := hf i hi
      rw [hx] at hv
      obtain ⟨v0, hv0, hc0⟩ := hf 0 (by omega)
      have hp0 : 0 < v0.cells.size := by rw [Rep.cells hv0]; exact Rep.pos
      have h00 := hc0 0 _ (Array.getElem?_eq_getElem hp0)
      rw [Nat.zero_mul] at h00
      have ha := addr_spot (show World.cell? _ a = _ from h00)
      have hpos : 0 < v.cells.size := by rw [Rep.cells hv]; exact Rep.pos
      have h0 := hcell 0 _ (Array.getElem?_eq_getElem hpos)
      rw [ha] at hcell h0 ⊢
      refine ⟨a.block, a.off, v, rfl, trivial, ?_, hv, fun j u hu => ?_⟩
      · rw [add_add0] at h0
        exact lt_of_cell h0
      · have := hcell j u hu
        rw [add_add0] at this
        exact this

theorem list3 {α : Type} {l : List α} (h : l.length = 3) : ∃ a b c, l = [a, b, c] := by
  match l, h with
  | [a, b, c], _ => exact ⟨a, b, c, rfl⟩
/-- A field's cells. -/
def At (f : Field) (o c : Nat) : Prop := f.offset = o ∧ Try.prog.cellsOf f.type = c
theorem opens_letter {e : TypeId} {f0 f1 f2 : Field} (ht : Try.prog.underlying e = some (.struct #[f0, f1, f2])) (hc : Try.prog.cellsOf e = 3) (a0 : At f0 0 1) (a1 : At f1 1 1) (a2 : At f2 2 1)
    (o0 : Opens Int f0.type) (o1 : Opens Int f1.type) (o2 : Opens (List UInt8) f2.type) : Opens Letter e where
  get {H enc w spare held n cs x} h := by
    obtain ⟨xs, n, _, _, hl, hlen, hf⟩ := DataW.trod_struct ht h
    rw [hc] at hl
    obtain ⟨c0, c1, c2, rfl⟩ := list3 hl
    obtain ⟨x0, x1, x2, rfl⟩ := list3 hlen
    · have k0 := hf 0 f0 rfl
      have k1 := hf 1 f1 rfl
      have k2 := hf 2 f2 rfl
      rw [a0.1, a0.2] at k0
      rw [a1.1, a1.2] at k1
      rw [a2.1, a2.2] at k2
      obtain ⟨v0, y0, e0, r0⟩ := o0.get k0
      obtain ⟨v1, y1, e1, r1⟩ := o1.get k1
      obtain ⟨v2, y2, e2, r2⟩ := o2.get k2
      obtain ⟨rfl, i0⟩ := r0
      obtain ⟨rfl, i1⟩ := r1
      obtain ⟨p, m, d, rfl, hs⟩ := r2
      simp [Value.cells] at e0 e1 e2
      subst e0 e1 e2
      exact ⟨.agg #[.int .i64 y0, .int .i64 y1, .slice p m d], ⟨y0, y1, y2⟩, rfl, p, m, d, rfl, ⟨i0, i1⟩, hs⟩
theorem opensInt : Opens Int 3 := opens_int Try.underlying3
theorem opensU8 : Opens UInt8 5 := opens_u8 Try.underlying5
theorem opensBytes : Opens (List UInt8) 37 := opens_list Try.underlying37 (by kernel_rfl) opensU8
theorem opensInts : Opens (List Int) 23 := opens_list Try.underlying23 (by kernel_rfl) opensInt
theorem opensLetter : Opens Letter 39 := opens_letter Try.underlying39 (by kernel_rfl) ⟨rfl, by kernel_rfl⟩ ⟨rfl, by kernel_rfl⟩ ⟨rfl, by kernel_rfl⟩ opensInt opensInt opensBytes
theorem opensLetters : Opens (List Letter) 22 := opens_list Try.underlying22 (by kernel_rfl) opensLetter

/-- A slice that came in. -/
theorem open_list {α : Type} [Rep α] {t : TypeId} (ho : Opens (List α) t) {H : Type} {enc : TypeId × Value → H} {w : World} {a : Option Addr} {n c : Nat} {d : DataW H} {p : List MemPlace}
    (h : DataW.Trod enc Try.prog w 0 (fun _ => true) true t (.slice a n c) d p) : ∃ xs : List α, Sl allB w a n c xs := by
  obtain ⟨fuel, hf⟩ := h
  obtain ⟨v, y, hv, p', n', c', rfl, hs⟩ := ho.get hf
  simp [Value.cells] at hv
  obtain ⟨rfl, rfl, rfl⟩ := hv
  exact ⟨y, hs⟩
end Go.Proofs.Ytpmdkmpmpjdglaa
