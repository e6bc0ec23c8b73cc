/- A message whose bytes could be written: what they are. Plain. -/
import Derived.Test.YtpmdkmpmpjdglaaROp
set_option linter.unusedSimpArgs false
set_option linter.unusedVariables false
namespace Go.Proofs.Ytpmdkmpmpjdglaa
open Go

theorem wNum_ok {s : WS} {x : Int} {k : Nat} (h : (wNum s x k).2 = false) : s.2 = false ∧ fitsN x k = true ∧ (wNum s x k).1 = s.1 ++ be x k := by
  unfold wNum at h ⊢
  split at h
  · rename_i hf
    rw [if_pos hf]
    exact ⟨h, hf, rfl⟩
  · cases h
theorem wDot_ok {s : WS} {d : Dot} (h : (wDot s d).2 = false) : s.2 = false ∧ DotFits d ∧ (wDot s d).1 = s.1 ++ dotB d := by
  unfold wDot at h ⊢
  obtain ⟨h1, h2, h3⟩ := wNum_ok h
  obtain ⟨h4, h5, h6⟩ := wNum_ok h1
  exact ⟨h4, ⟨h5, h2⟩, by rw [h3, h6, List.append_assoc]; rfl⟩
theorem wStamp_ok {s : WS} {d : Stamp} (h : (wStamp s d).2 = false) : s.2 = false ∧ StampFits d ∧ (wStamp s d).1 = s.1 ++ stampB d := by
  unfold wStamp at h ⊢
  obtain ⟨h1, h2, h3⟩ := wNum_ok h
  obtain ⟨h4, h5, h6⟩ := wNum_ok h1
  obtain ⟨h7, h8, h9⟩ := wNum_ok h4
  exact ⟨h7, ⟨h8, h5, h2⟩, by rw [h3, h6, h9, List.append_assoc, List.append_assoc]; rfl⟩
theorem wNumsL_ok (l : List Int) : ∀ {s : WS}, (wNumsL s l).2 = false → s.2 = false ∧ (∀ x ∈ l, fitsN x 4 = true) ∧ (wNumsL s l).1 = s.1 ++ intsB l := by
  induction l with
  | nil => intro s h; exact ⟨h, (fun x hx => by cases hx), by simp [wNumsL, intsB]⟩
  | cons y l ih =>
    intro s h
    have e : wNumsL s (y :: l) = wNumsL (wNum s y 4) l := rfl
    rw [e] at h ⊢
    obtain ⟨h1, h2, h3⟩ := ih h
    obtain ⟨h4, h5, h6⟩ := wNum_ok h1
    refine ⟨h4, fun x hx => ?_, ?_⟩
    · rcases List.mem_cons.1 hx with rfl | hx
      · exact h5
      · exact h2 x hx
    · rw [h3, h6, List.append_assoc]; rfl
theorem wNums_ok {s : WS} {l : List Int} (h : (wNums s l).2 = false) : s.2 = false ∧ NumsFit l ∧ (wNums s l).1 = s.1 ++ numsB l := by
  unfold wNums at h ⊢
  obtain ⟨h1, h2, h3⟩ := wNumsL_ok l h
  obtain ⟨h4, h5, h6⟩ := wNum_ok h1
  simp only [Bool.or_eq_false_iff, decide_eq_false_iff_not] at h4
  exact ⟨h4.1, ⟨by omega, h2⟩, by rw [h3, h6, List.append_assoc]; rfl⟩
theorem wText_ok {s : WS} {t : ByteArray} (h : (wText s t).2 = false) : s.2 = false ∧ t.size ≤ 24 ∧ (wText s t).1 = s.1 ++ textB t := by
  unfold wText at h ⊢
  split at h
  · rename_i hf
    rw [if_pos hf]
    exact ⟨h, hf, rfl⟩
  · cases h
theorem wRow_ok {s : WS} {r : List Val} (h : (wRow s r).2 = false) : s.2 = false ∧ rowOk r = true ∧ (wRow s r).1 = s.1 ++ rowB r := by
  unfold wRow at h ⊢
  split at h
  · rename_i hf
    rw [if_pos hf]
    exact ⟨h, hf, rfl⟩
  · cases h
theorem wDots_ok (l : List Dot) : ∀ {s : WS}, (wDots s l).2 = false → s.2 = false ∧ (∀ x ∈ l, DotFits x) ∧ (wDots s l).1 = s.1 ++ l.flatMap dotB := by
  induction l with
  | nil => intro s h; exact ⟨h, (fun x hx => by cases hx), by simp [wDots]⟩
  | cons y l ih =>
    intro s h
    have e : wDots s (y :: l) = wDots (wDot s y) l := rfl
    rw [e] at h ⊢
    obtain ⟨h1, h2, h3⟩ := ih h
    obtain ⟨h4, h5, h6⟩ := wDot_ok h1
    refine ⟨h4, fun x hx => ?_, ?_⟩
    · rcases List.mem_cons.1 hx with rfl | hx
      · exact h5
      · exact h2 x hx
    · rw [h3, h6, List.append_assoc]; rfl
theorem wOp_ok {s : WS} {x : Opn} (h : (wOp s x).2 = false) : s.2 = false ∧ OpFits x ∧ (wOp s x).1 = s.1 ++ opB x := by
  unfold wOp at h ⊢
  obtain ⟨h1, h2, h3⟩ := wDots_ok _ h
  obtain ⟨h4, h5, h6⟩ := wNum_ok h1
  simp only [Bool.or_eq_false_iff, decide_eq_false_iff_not] at h4
  obtain ⟨h4, h7⟩ := h4
  unfold wMid at h4 h6 h3 ⊢
  obtain ⟨a1, a2, a3⟩ := wRow_ok h4
  obtain ⟨b1, b2, b3⟩ := wNum_ok a1
  obtain ⟨c1, c2, c3⟩ := wText_ok b1
  obtain ⟨d1, d2, d3⟩ := wNum_ok c1
  unfold wHead at d1 d3 c3 b3 a3 h6 h3 ⊢
  obtain ⟨e1, e2, e3⟩ := wStamp_ok d1
  obtain ⟨f1, f2, f3⟩ := wNums_ok e1
  obtain ⟨g1, g2, g3⟩ := wDot_ok f1
  obtain ⟨i1, i2, i3⟩ := wNum_ok g1
  refine ⟨i1, ⟨i2, g2, f2, e2, d2, c2, b2, a2, by omega, h2⟩, ?_⟩
  rw [h3, h6]
  simp only
  rw [a3, b3, c3, d3, e3, f3, g3, i3]
  unfold opB
  simp only [List.append_assoc]
theorem wOps_ok (l : List Opn) : ∀ {s : WS}, (wOps s l).2 = false → s.2 = false ∧ (∀ x ∈ l, OpFits x) ∧ (wOps s l).1 = s.1 ++ l.flatMap opB := by
  induction l with
  | nil => intro s h; exact ⟨h, (fun x hx => by cases hx), by simp [wOps]⟩
  | cons y l ih =>
    intro s h
    have e : wOps s (y :: l) = wOps (wOp s y) l := rfl
    rw [e] at h ⊢
    obtain ⟨h1, h2, h3⟩ := ih h
    obtain ⟨h4, h5, h6⟩ := wOp_ok h1
    refine ⟨h4, fun x hx => ?_, ?_⟩
    · rcases List.mem_cons.1 hx with rfl | hx
      · exact h5
      · exact h2 x hx
    · rw [h3, h6, List.append_assoc]; rfl

structure MsgFits (m : Msg) : Prop where
  kind : fitsN m.kind 1 = true
  fr : fitsN m.fr 1 = true
  to : fitsN m.to 1 = true
  have_ : NumsFit m.have_
  safe : NumsFit m.safe
  len : fitsN m.ops.length 2 = true
  ops : ∀ x ∈ m.ops, OpFits x
def msgBody (m : Msg) : List UInt8 := be m.kind 1 ++ (be m.fr 1 ++ (be m.to 1 ++ (numsB m.have_ ++ (numsB m.safe ++ (be m.ops.length 2 ++ m.ops.flatMap opB)))))
theorem wMsg_ok {m : Msg} (h : (wMsg m).2 = false) : MsgFits m ∧ (wMsg m).1 = msgBody m := by
  unfold wMsg at h ⊢
  obtain ⟨h1, h2, h3⟩ := wOps_ok _ h
  unfold wMsgHead at h1 h3 ⊢
  obtain ⟨a1, a2, a3⟩ := wNum_ok h1
  obtain ⟨b1, b2, b3⟩ := wNums_ok a1
  obtain ⟨c1, c2, c3⟩ := wNums_ok b1
  obtain ⟨d1, d2, d3⟩ := wNum_ok c1
  obtain ⟨e1, e2, e3⟩ := wNum_ok d1
  obtain ⟨f1, f2, f3⟩ := wNum_ok e1
  refine ⟨⟨f2, e2, d2, c2, b2, a2, h2⟩, ?_⟩
  rw [h3, a3, b3, c3, d3, e3, f3]
  unfold msgBody
  simp only [List.append_assoc, List.nil_append]
theorem fits2 {n : Nat} (h : fitsN (n : Nat) 2 = true) : n ≤ 65535 := by
  unfold fitsN at h
  simp only [Bool.and_eq_true, decide_eq_true_eq, Nat.reduceMul, Int.reducePow] at h
  omega
end Go.Proofs.Ytpmdkmpmpjdglaa
