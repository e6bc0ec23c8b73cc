/- A region that draws its order, met in one walk: each operation is shown in whatever world that has grown from the region's begin; what it hands on is said by a predicate that stays when the world grows. Conditions: the operations of the head only read, or make memory; the tail (from number n on) waits for all ahead of it. -/
import Derived.Orders
import Derived.Tactics
import Derived.Below
import Derived.KernelRfl
namespace Go.Proofs.Ytpmdkmpmpjdglaa
open Go Go.RowKit

/-- How an operation of a region is met: its value is reckoned; it is known; a predicate is known of it. 'need': the operations ahead of it whose predicates are asked for. -/
inductive FV where
  | pure
  | exact (need : List Nat) (v : Value)
  | unk (need : List Nat) (V : List Value → Value → World → Prop)
def FV.need : FV → List Nat | .pure => [] | .exact l _ => l | .unk l _ => l

def fnames (ops : Array Oper) (o : Oper) : List Tmp := o.dst.toList ++ o.looksAt ops

def forceN {α : Type} (n : Nat) (k : Nat → α) : α := match n with | 0 => k 0 | m + 1 => k (m + 1)
theorem forceN_eq {α : Type} (n : Nat) (k : Nat → α) : forceN n k = k n := by cases n <;> rfl

def maskOf (look : Nat → Nat) (o : Oper) : Nat := o.after.toList.foldl (fun s e => if Region.binds .any e then s ||| 2 ^ e.on ||| look e.on else s) 0
def lookR (acc : List Nat) (j k : Nat) : Nat := if k < j then acc.getD (j - 1 - k) 0 else 0
def maskK {α : Type} : List Oper → Nat → List Nat → (List Nat → Nat → α) → α
  | [], j, acc, k => k acc j
  | o :: rest, j, acc, k => forceN (maskOf (lookR acc j) o) fun v => maskK rest (j + 1) (v :: acc) k

def clash (ops : Array Oper) (oi oj : Oper) : Bool :=
  (match oj.dst with | some d => (fnames ops oi).contains d | none => false) || (match oi.dst with | some d => (fnames ops oj).contains d | none => false)

def flowCheck (ops : Array Oper) (need : Nat → List Nat) (n : Nat) (acc : List Nat) (j : Nat) : Bool :=
  (List.range ops.size).all fun i => match ops[i]? with
    | none => true
    | some oi =>
      oi.after.all (fun e => !Region.binds .any e || decide (e.on < i)) &&
      (need i).all (fun g => (lookR acc j i).testBit g) &&
      (match oi.op with | .select .. => false | _ => true) &&
      (match oi.guard with | none => true | some (g, _) => (lookR acc j i).testBit g && decide (g < i)) &&
      (List.range i).all fun k => (lookR acc j i).testBit k || (decide (i < n) && match ops[k]? with | none => true | some ok => !clash ops oi ok)

def flowOk (ops : Array Oper) (need : Nat → List Nat) (n : Nat) : Bool := decide (n ≤ ops.size) && maskK ops.toList 0 [] (flowCheck ops need n)

inductive Anc (ops : Array Oper) : Nat → Nat → Prop where
  | edge {i : Nat} {o : Oper} {e : Edge} : ops[i]? = some o → e ∈ o.after → Region.binds .any e = true → Anc ops e.on i
  | trans {j k i : Nat} : Anc ops j k → Anc ops k i → Anc ops j i

theorem maskOf_bit {look : Nat → Nat} {o : Oper} {x : Nat} (h : (maskOf look o).testBit x = true) :
    ∃ e ∈ o.after, Region.binds .any e = true ∧ (x = e.on ∨ (look e.on).testBit x = true) := by
  have key : ∀ (l : List Edge) (s : Nat), (l.foldl (fun s e => if Region.binds .any e then s ||| 2 ^ e.on ||| look e.on else s) s).testBit x = true →
      s.testBit x = true ∨ ∃ e ∈ l, Region.binds .any e = true ∧ (x = e.on ∨ (look e.on).testBit x = true) := by
    intro l
    induction l with
    | nil => intro s h; exact .inl h
    | cons e l ih =>
      intro s h
      simp only [List.foldl_cons] at h
      rcases ih _ h with h | ⟨e', he', hb, hx⟩
      · by_cases hb : Region.binds .any e = true
        · rw [if_pos hb] at h
          simp only [Nat.testBit_or, Bool.or_eq_true] at h
          rcases h with (h | h) | h
          · exact .inl h
          · rw [Nat.testBit_two_pow] at h
            exact .inr ⟨e, List.mem_cons_self, hb, .inl (of_decide_eq_true h).symm⟩
          · exact .inr ⟨e, List.mem_cons_self, hb, .inr h⟩
        · rw [if_neg hb] at h; exact .inl h
      · exact .inr ⟨e', List.mem_cons_of_mem _ he', hb, hx⟩
  rcases key _ _ h with h | ⟨e, he, r⟩
  · simp at h
  · exact ⟨e, Array.mem_toList_iff.1 he, r⟩

theorem maskK_ok {ops : Array Oper} {k : List Nat → Nat → Bool} : ∀ (l : List Oper) (j : Nat) (acc : List Nat), acc.length = j → (∀ i, l[i]? = ops[j + i]?) →
    (∀ i x, i < j → (lookR acc j i).testBit x = true → Anc ops x i) → maskK l j acc k = true →
    ∃ acc' j', k acc' j' = true ∧ ∀ i x, (lookR acc' j' i).testBit x = true → Anc ops x i := by
  intro l
  induction l with
  | nil =>
    intro j acc hl _ hc hk
    refine ⟨acc, j, hk, fun i x h => ?_⟩
    by_cases hi : i < j
    · exact hc i x hi h
    · simp [lookR, hi] at h
  | cons o l ih =>
    intro j acc hl ho hc hk
    simp only [maskK, forceN_eq] at hk
    have h0 : ops[j]? = some o := by simpa using (ho 0).symm
    refine ih (j + 1) _ (by simp [hl]) (fun i => by have := ho (i + 1); simpa [Nat.add_assoc, Nat.add_comm 1 i] using this) ?_ hk
    intro i x hi h
    by_cases hij : i < j
    · refine hc i x hij ?_
      have e1 : j + 1 - 1 - i = (j - 1 - i) + 1 := by omega
      simp only [lookR, hi, hij, if_true] at h ⊢
      rw [e1] at h
      simpa using h
    · have hij' : i = j := by omega
      subst hij'
      have hh : (maskOf (lookR acc i) o).testBit x = true := by
        simp only [lookR, hi, if_true] at h
        simpa using h
      obtain ⟨e, he, hb, hx⟩ := maskOf_bit hh
      rcases hx with rfl | hx
      · exact .edge h0 he hb
      · by_cases hlt : e.on < i
        · exact .trans (hc _ _ hlt hx) (.edge h0 he hb)
        · simp [lookR, hlt] at hx

/-- What the check says. -/
structure FlowSafe (ops : Array Oper) (need : Nat → List Nat) (n : Nat) : Prop where
  le : n ≤ ops.size
  back : ∀ (i : Nat) (o : Oper), ops[i]? = some o → ∀ e ∈ o.after, Region.binds .any e = true → e.on < i
  nosel : ∀ (i : Nat) (o : Oper), ops[i]? = some o → ∀ cs b, o.op ≠ .select cs b
  need : ∀ (i : Nat) (o : Oper) (g : Nat), ops[i]? = some o → g ∈ need i → Anc ops g i
  guard : ∀ (i : Nat) (o : Oper) (g : Nat) (b : Bool), ops[i]? = some o → o.guard = some (g, b) → Anc ops g i ∧ g < i
  head : ∀ (i : Nat) (o : Oper) (k : Nat) (ok : Oper), ops[i]? = some o → ops[k]? = some ok → k < i → Anc ops k i ∨ (i < n ∧ clash ops o ok = false)

theorem flowOk_safe {ops : Array Oper} {need : Nat → List Nat} {n : Nat} (h : flowOk ops need n = true) : FlowSafe ops need n := by
  unfold flowOk at h
  rw [Bool.and_eq_true] at h
  obtain ⟨hn, h⟩ := h
  obtain ⟨acc, j, hk, hanc⟩ := maskK_ok (ops := ops) ops.toList 0 [] rfl (by simp) (by intro i x h; omega) h
  have hk' := fun (i : Nat) (o : Oper) (ho : ops[i]? = some o) => by
    have := List.all_eq_true.1 hk i (List.mem_range.2 (Array.getElem?_eq_some_iff.1 ho).1)
    simp only [ho, Bool.and_eq_true] at this
    exact this
  refine ⟨of_decide_eq_true hn, ?_, ?_, ?_, ?_, ?_⟩
  · intro i o ho e he hb
    have := Array.all_eq_true_iff_forall_mem.1 (hk' i o ho).1.1.1.1 e he
    simpa [hb] using this
  · intro i o ho cs b heq
    have := (hk' i o ho).1.1.2
    rw [heq] at this
    simp at this
  · intro i o g ho hg
    exact hanc _ _ (List.all_eq_true.1 (hk' i o ho).1.1.1.2 g hg)
  · intro i o g b ho hg
    have := (hk' i o ho).1.2
    rw [hg] at this
    simp only [Bool.and_eq_true, decide_eq_true_eq] at this
    exact ⟨hanc _ _ this.1, this.2⟩
  · intro i o k ok ho hok hki
    have := List.all_eq_true.1 (hk' i o ho).2 k (List.mem_range.2 hki)
    simp only [hok, Bool.or_eq_true, Bool.and_eq_true, decide_eq_true_eq, Bool.not_eq_true'] at this
    rcases this with h | h
    · exact .inl (hanc _ _ h)
    · exact .inr h

/-- The operation runs to its end, and R holds of what it yields and of the world behind it. -/
def givesR (P : Program) (R : Value → World → Prop) : Result Next → Prop
  | .ok (.value v) w' => R v w'
  | .ok .skip w' => R undef w'
  | .ok (.enter f args) w' => Calls P f args w' fun e w'' => ∃ v, e = .returned v ∧ R v w''
  | .ok (.row row args) w' => Rows P row args w' R
  | _ => False
@[go_sem] def Oper.gives (P : Program) (o : Oper) (a : Act) (w : World) (R : Value → World → Prop) : Prop := givesR P R ((execOp a.eval o).run P w)

section
variable {P : Program} {R : Value → World → Prop} {w : World}
@[go_sem] theorem givesR_value (v : Value) : givesR P R (.ok (.value v) w) = R v w := rfl
@[go_sem] theorem givesR_skip : givesR P R (.ok .skip w) = R undef w := rfl
@[go_sem] theorem givesR_enter (f : FuncId) (args : Array Value) : givesR P R (.ok (.enter f args) w) = Calls P f args w fun e w'' => ∃ v, e = .returned v ∧ R v w'' := rfl
@[go_sem] theorem givesR_row (row : String) (args : Array Value) : givesR P R (.ok (.row row args) w) = Rows P row args w R := rfl
end

theorem Oper.gives_wpOp {P : Program} {ops : Array Oper} {Q : Exit → Act → World → Prop} {i : Nat} {o : Oper} {a : Act} {w : World} {R : Value → World → Prop} {K : Act → World → Prop}
    (hi : ops[i]? = some o) (hw : Region.wanted o (yielded ops a.tmps) = true) (h : Oper.gives P o a w R) (hK : ∀ v w', R v w' → K (a.put o.dst v) w') : wpOp P ops Q i K a w := by
  unfold wpOp
  simp only [hi, hw, if_true]
  refine .inl ?_
  unfold Oper.gives at h
  unfold Oper.wp
  generalize (execOp a.eval o).run P w = r at *
  cases r with
  | ok n w' =>
    cases n <;> simp only [givesR] at h <;> simp only [Oper.upon]
    case value v => exact hK _ _ h
    case skip => exact hK _ _ h
    case enter f args => exact Calls.mono h fun e w'' ⟨v, he, hR⟩ => by subst he; exact hK _ _ hR
    case row row args => exact Rows.mono h fun v w'' hR => hK _ _ hR
  | halt x w' => simp only [givesR] at h

abbrev FK := List (Nat × Value × (World → Prop))
def lookF : FK → Nat → World → Prop
  | [], _j, _w => True
  | (k, _, V) :: r, j, w => if k = j then V w else lookF r j w
def lookV : FK → Nat → Value
  | [], _j => undef
  | (k, v, _) :: r, j => if k = j then v else lookV r j
def holdsF (ks : FK) : List Nat → World → Prop
  | [], _ => True
  | j :: r, w => lookF ks j w ∧ holdsF ks r w
def allF : FK → World → Prop
  | [], _ => True
  | (_, _, V) :: r, w => V w ∧ allF r w

theorem lookF_of {ks : FK} {j : Nat} {w : World} (h : ∀ p ∈ ks, p.1 = j → p.2.2 w) : lookF ks j w := by
  induction ks with
  | nil => trivial
  | cons p r ih =>
    obtain ⟨k, v, V⟩ := p
    simp only [lookF]
    split
    · rename_i hb; exact h (k, v, V) List.mem_cons_self hb
    · exact ih fun p hp => h p (List.mem_cons_of_mem _ hp)
theorem holdsF_of {ks : FK} {w : World} : ∀ {need : List Nat}, (∀ p ∈ ks, p.1 ∈ need → p.2.2 w) → holdsF ks need w
  | [], _ => trivial
  | _ :: _, h => ⟨lookF_of fun p hp e => h p hp (e ▸ List.mem_cons_self), holdsF_of fun p hp hm => h p hp (List.mem_cons_of_mem _ hm)⟩
theorem allF_of {w : World} : ∀ {ks : FK}, (∀ p ∈ ks, p.2.2 w) → allF ks w
  | [], _ => trivial
  | p :: _, h => ⟨h p List.mem_cons_self, allF_of fun q hq => h q (List.mem_cons_of_mem _ hq)⟩

section flow
/-- Rows that were made anew, by different operations, are different rows. -/
def apartF (md : Nat → Bool) (ks : FK) : Prop := ∀ p ∈ ks, ∀ q ∈ ks, p.1 ≠ q.1 → md p.1 = true → md q.1 = true → ∀ b, p.2.1.ownBlock = some b → q.2.1.ownBlock ≠ some b
variable (P : Program) (ops : Array Oper) (fam : Nat → FV) (md : Nat → Bool) (w0 : World) (Q : Exit → Act → World → Prop)

def Flow : Nat → Nat → List Oper → FK → Act → Prop
  | 0, _, rest, ks, a => ∀ w, Below w0.heap.size w0 w → allF ks w → apartF md ks → wpList P ops Q rest a w
  | _ + 1, _, [], _, _ => False
  | m + 1, i, o :: rest, ks, a =>
    if Region.wanted o (yielded ops a.tmps) = true then
      match fam i with
      | .pure => ∃ v, (∀ w, Below w0.heap.size w0 w → (execOp a.eval o).run P w = .ok (.value v) w) ∧ Flow m (i + 1) rest ks (a.put o.dst v)
      | .exact need v => (∀ w, Below w0.heap.size w0 w → holdsF ks need w → Oper.gives P o a w fun v' w' => v' = v ∧ Below w.heap.size w w') ∧ Flow m (i + 1) rest ks (a.put o.dst v)
      | .unk need V => (∀ w, Below w0.heap.size w0 w → holdsF ks need w → Oper.gives P o a w fun v w' => (Below w.heap.size w w' ∧ V (need.map (lookV ks)) v w') ∧ (md i = true → ∀ b, v.ownBlock = some b → w.heap.size ≤ b ∧ b < w'.heap.size)) ∧ ∀ v, Flow m (i + 1) rest ((i, v, V (need.map (lookV ks)) v) :: ks) (a.put o.dst v)
    else Flow m (i + 1) rest ks (a.put o.dst undef)

variable (a0 : Act) (u : Nat → Value)
def fval (i : Nat) (o : Oper) (a : Act) : Value :=
  if Region.wanted o (yielded ops a.tmps) = true then
    match fam i with
    | .pure => (match (execOp a.eval o).run P w0 with | .ok (.value v) _ => v | _ => undef)
    | .exact _ v => v
    | .unk _ _ => u i
  else undef
def fr : Nat → Act
  | 0 => a0
  | i + 1 => match ops[i]? with | none => fr i | some o => (fr i).put o.dst (fval P ops fam w0 u i o (fr i))
def vl (i : Nat) : Value := match ops[i]? with | none => undef | some o => fval P ops fam w0 u i o (fr P ops fam w0 a0 u i)
def kss : Nat → FK
  | 0 => []
  | i + 1 => match ops[i]? with
    | none => kss i
    | some o => if Region.wanted o (yielded ops (fr P ops fam w0 a0 u i).tmps) = true then (match fam i with | .unk nd V => (i, u i, V (nd.map (lookV (kss i))) (u i)) :: kss i | _ => kss i) else kss i
def sl (D : Nat → Bool) : Nat → Tmp → Option Value
  | 0, t => a0.tmps[t]?
  | i + 1, t => match (ops[i]?).bind (·.dst) with
    | some d => if D i = true ∧ d = t then (if t < a0.tmps.size then some (vl P ops fam w0 a0 u i) else none) else sl D i t
    | none => sl D i t
end flow

section sound
variable {P : Program} {ops : Array Oper} {fam : Nat → FV} {md : Nat → Bool} {w0 : World} {Q : Exit → Act → World → Prop} {a0 : Act} {u : Nat → Value}

theorem put_size (a : Act) (d : Option Tmp) (v : Value) : (a.put d v).tmps.size = a.tmps.size := by cases d <;> simp [Act.put]
theorem put_defers' (a : Act) (d : Option Tmp) (v : Value) : (a.put d v).defers = a.defers := by cases d <;> simp [Act.put]
theorem put_get (a : Act) (d : Option Tmp) (v : Value) (t : Tmp) : (a.put d v).tmps[t]? = if d = some t then (if t < a.tmps.size then some v else none) else a.tmps[t]? := by
  cases d with
  | none => simp [Act.put]
  | some d =>
    simp only [Act.put, Option.some.injEq]
    rw [Array.getElem?_setIfInBounds]
    by_cases h : d = t
    · subst h; simp
    · simp [h]

theorem fr_size : ∀ i, (fr P ops fam w0 a0 u i).tmps.size = a0.tmps.size
  | 0 => rfl
  | i + 1 => by
    simp only [fr]
    split
    · exact fr_size i
    · rw [put_size]; exact fr_size i
theorem fr_defers : ∀ i, (fr P ops fam w0 a0 u i).defers = a0.defers
  | 0 => rfl
  | i + 1 => by
    simp only [fr]
    split
    · exact fr_defers i
    · rw [put_defers']; exact fr_defers i
theorem fr_sl : ∀ i t, (fr P ops fam w0 a0 u i).tmps[t]? = sl P ops fam w0 a0 u (fun _ => true) i t
  | 0, t => rfl
  | i + 1, t => by
    have ih := fr_sl i t
    simp only [fr, sl]
    cases ho : ops[i]? with
    | none => simpa using ih
    | some o =>
      simp only [Option.bind_some]
      rw [put_get, fr_size]
      cases hd : o.dst with
      | none => simpa using ih
      | some d =>
        by_cases hdt : d = t
        · subst hdt; simp [vl, ho]
        · simp [hdt]; simpa using ih

/-- What is done so far hides nothing that operation i looks at. -/
theorem sl_agree {D : Nat → Bool} {n i : Nat} {t : Tmp} (hin : i ≤ n) (h1 : ∀ k o, k < i → ops[k]? = some o → o.dst = some t → D k = true)
    (h2 : ∀ k o, i ≤ k → k < n → ops[k]? = some o → o.dst = some t → D k = false) :
    sl P ops fam w0 a0 u D n t = sl P ops fam w0 a0 u (fun _ => true) i t := by
  have step1 : ∀ m, i ≤ m → m ≤ n → sl P ops fam w0 a0 u D m t = sl P ops fam w0 a0 u D i t := by
    intro m
    induction m with
    | zero => intro him _; obtain rfl : i = 0 := by omega
              rfl
    | succ m ih =>
      intro him hmn
      by_cases he : i = m + 1
      · subst he; rfl
      · rw [← ih (by omega) (by omega)]
        simp only [sl]
        cases ho : ops[m]? with
        | none => rfl
        | some o =>
          simp only [Option.bind_some]
          cases hd : o.dst with
          | none => rfl
          | some d =>
            by_cases hdt : d = t
            · subst hdt
              have := h2 m o (by omega) (by omega) ho hd
              simp [this]
            · simp [hdt]
  rw [step1 n hin (Nat.le_refl _)]
  have step2 : ∀ m, m ≤ i → sl P ops fam w0 a0 u D m t = sl P ops fam w0 a0 u (fun _ => true) m t := by
    intro m
    induction m with
    | zero => intro _; rfl
    | succ m ih =>
      intro hmi
      simp only [sl]
      cases ho : ops[m]? with
      | none => exact ih (by omega)
      | some o =>
        simp only [Option.bind_some]
        cases hd : o.dst with
        | none => exact ih (by omega)
        | some d =>
          by_cases hdt : d = t
          · subst hdt
            have := h1 m o (by omega) ho hd
            simp [this]
          · simp [hdt]; exact ih (by omega)
  exact step2 i (Nat.le_refl _)

theorem sl_put {D D' : Nat → Bool} {n i : Nat} {o : Oper} {t : Tmp} (hin : i < n) (ho : ops[i]? = some o) (hD' : ∀ k, D' k = if k = i then true else D k)
    (h2 : ∀ k ok, i < k → k < n → ops[k]? = some ok → D k = true → o.dst = some t → ok.dst ≠ some t) :
    sl P ops fam w0 a0 u D' n t = if o.dst = some t then (if t < a0.tmps.size then some (vl P ops fam w0 a0 u i) else none) else sl P ops fam w0 a0 u D n t := by
  have low : ∀ m, m ≤ i → sl P ops fam w0 a0 u D' m t = sl P ops fam w0 a0 u D m t := by
    intro m
    induction m with
    | zero => intro _; rfl
    | succ m ih =>
      intro hmi
      have : D' m = D m := by rw [hD', if_neg (by omega)]
      simp only [sl, this, ih (by omega)]
  have high : ∀ m, i < m → m ≤ n → sl P ops fam w0 a0 u D' m t = if o.dst = some t then (if t < a0.tmps.size then some (vl P ops fam w0 a0 u i) else none) else sl P ops fam w0 a0 u D m t := by
    intro m
    induction m with
    | zero => intro h _; omega
    | succ m ih =>
      intro him hmn
      by_cases hmi : m = i
      · subst hmi
        simp only [sl, ho, Option.bind_some]
        cases hd : o.dst with
        | none => simpa using low m (Nat.le_refl _)
        | some d =>
          have h1 : D' m = true := by rw [hD', if_pos rfl]
          by_cases hdt : d = t
          · subst hdt; simp [h1]
          · simp [hdt, low m (Nat.le_refl _)]
      · have hlt : i < m := by omega
        have h1 : D' m = D m := by rw [hD', if_neg hmi]
        simp only [sl, h1, ih hlt (by omega)]
        cases hok : ops[m]? with
        | none => simp
        | some ok =>
          simp only [Option.bind_some]
          cases hdk : ok.dst with
          | none => simp
          | some d =>
            by_cases hc : D m = true ∧ d = t
            · obtain ⟨hDm, rfl⟩ := hc
              have : o.dst ≠ some d := fun e => h2 m ok hlt (by omega) hok hDm e hdk
              simp [hDm, this]
            · simp only [hc, if_false]
  exact high n hin (Nat.le_refl _)

theorem sl_congr {u' : Nat → Value} {D : Nat → Bool} {t : Tmp} : ∀ n, (∀ k o, k < n → ops[k]? = some o → o.dst = some t → D k = true → vl P ops fam w0 a0 u k = vl P ops fam w0 a0 u' k) →
    sl P ops fam w0 a0 u D n t = sl P ops fam w0 a0 u' D n t
  | 0, _ => rfl
  | n + 1, h => by
    have ih := sl_congr n (fun k o hk ho hd hD => h k o (by omega) ho hd hD)
    simp only [sl]
    cases ho : ops[n]? with
    | none => exact ih
    | some o =>
      simp only [Option.bind_some]
      cases hd : o.dst with
      | none => exact ih
      | some d =>
        by_cases hc : D n = true ∧ d = t
        · obtain ⟨hDn, rfl⟩ := hc
          simp [hDn, h n o (by omega) ho hd hDn]
        · simp only [hc, if_false]; exact ih

theorem looks_eval {o : Oper} {a b : Act} (hsel : ∀ cs b, o.op ≠ .select cs b) (h : ∀ t ∈ o.looksAt ops, a.tmps[t]? = b.tmps[t]?) :
    execOp a.eval o = execOp b.eval o ∧ Region.wanted o (yielded ops a.tmps) = Region.wanted o (yielded ops b.tmps) := by
  constructor
  · refine execOp_congr o hsel fun x hx => ?_
    cases x with
    | tmp t =>
      have : a.tmps[t]? = b.tmps[t]? := h t (List.mem_append_left _ (List.mem_filterMap.2 ⟨.tmp t, by simpa using hx, rfl⟩))
      simp [Act.eval, this]
    | _ => rfl
  · unfold Region.wanted
    cases hg : o.guard with
    | none => rfl
    | some gw =>
      obtain ⟨g, want⟩ := gw
      have hy : yielded ops a.tmps g = yielded ops b.tmps g := by
        unfold yielded
        cases ht : (ops[g]?).bind (·.dst) with
        | none => rfl
        | some t =>
          have : a.tmps[t]? = b.tmps[t]? := h t (by simp [Oper.looksAt, hg, ht])
          simp [this]
      simp only [hy]

variable {need : Nat → List Nat} {n : Nat}

theorem dst_clash {o ok : Oper} {t : Tmp} (hd : ok.dst = some t) (ht : t ∈ fnames ops o) : clash ops o ok = true := by
  simp [clash, hd, ht]
theorem dst_clash' {o ok : Oper} {t : Tmp} (hd : o.dst = some t) (ht : t ∈ fnames ops ok) : clash ops o ok = true := by
  simp [clash, hd, ht]

/-- What an operation comes to hangs on the values of those ahead of it alone. -/
theorem vl_congr (hs : FlowSafe ops need n) {u' : Nat → Value} : ∀ (j : Nat) (o : Oper), ops[j]? = some o → (∀ k, Anc ops k j → u k = u' k) →
    (u j = u' j → vl P ops fam w0 a0 u j = vl P ops fam w0 a0 u' j) ∧ Region.wanted o (yielded ops (fr P ops fam w0 a0 u j).tmps) = Region.wanted o (yielded ops (fr P ops fam w0 a0 u' j).tmps) := by
  intro j
  induction j using Nat.strongRecOn with
  | _ j ih =>
    intro o ho hu
    have hslot : ∀ t ∈ o.looksAt ops, (fr P ops fam w0 a0 u j).tmps[t]? = (fr P ops fam w0 a0 u' j).tmps[t]? := by
      intro t ht
      rw [fr_sl, fr_sl]
      refine sl_congr j fun k ok hk hok hd _ => ?_
      have hanc : Anc ops k j := by
        rcases hs.head j o k ok ho hok hk with h | ⟨_, h⟩
        · exact h
        · rw [dst_clash hd (List.mem_append_right _ ht)] at h; cases h
      exact (ih k hk ok hok fun x hx => hu x (.trans hx hanc)).1 (hu k hanc)
    obtain ⟨he, hw⟩ := looks_eval (hs.nosel j o ho) hslot
    refine ⟨fun huj => ?_, hw⟩
    simp only [vl, ho, fval, hw, he, huj]

structure FState (P : Program) (ops : Array Oper) (fam : Nat → FV) (md : Nat → Bool) (w0 : World) (a0 : Act) (n : Nat) (u : Nat → Value) (listed : Array Bool) (a : Act) (w : World) : Prop where
  size : listed.size = ops.size
  closed : ∀ (i : Nat) (o : Oper), ops[i]? = some o → listed.getD i false = true → ∀ e ∈ o.after, Region.binds .any e = true → listed.getD e.on false = true
  tail : ∀ i, n ≤ i → listed.getD i false = false
  asize : a.tmps.size = a0.tmps.size
  adef : a.defers = a0.defers
  slots : ∀ t, a.tmps[t]? = sl P ops fam w0 a0 u (fun i => listed.getD i false) n t
  below : Below w0.heap.size w0 w
  facts : ∀ (i : Nat) (o : Oper) (nd : List Nat) (V : List Value → Value → World → Prop), i < n → listed.getD i false = true → ops[i]? = some o →
    Region.wanted o (yielded ops (fr P ops fam w0 a0 u i).tmps) = true → fam i = .unk nd V → V (nd.map (lookV (kss P ops fam w0 a0 u i))) (u i) w
  made : ∀ (i : Nat) (o : Oper) (nd : List Nat) (V : List Value → Value → World → Prop), i < n → listed.getD i false = true → ops[i]? = some o →
    Region.wanted o (yielded ops (fr P ops fam w0 a0 u i).tmps) = true → fam i = .unk nd V → md i = true → ∀ b, (u i).ownBlock = some b → b < w.heap.size
  apart : ∀ (i j : Nat) (o o' : Oper) (nd nd' : List Nat) (V V' : List Value → Value → World → Prop), i < n → listed.getD i false = true → ops[i]? = some o →
    Region.wanted o (yielded ops (fr P ops fam w0 a0 u i).tmps) = true → fam i = .unk nd V → md i = true →
    j < n → listed.getD j false = true → ops[j]? = some o' → Region.wanted o' (yielded ops (fr P ops fam w0 a0 u j).tmps) = true → fam j = .unk nd' V' → md j = true → i ≠ j →
    ∀ b, (u i).ownBlock = some b → (u j).ownBlock ≠ some b

theorem anc_listed {listed : Array Bool} (hc : ∀ (i : Nat) (o : Oper), ops[i]? = some o → listed.getD i false = true → ∀ e ∈ o.after, Region.binds .any e = true → listed.getD e.on false = true) {j i : Nat}
    (h : Anc ops j i) : (listed.getD i false = true ∨ i ∈ Region.ready .any ops listed) → listed.getD j false = true := by
  induction h with
  | edge ho he hb =>
    rintro (hl | hr)
    · exact hc _ _ ho hl _ he hb
    · obtain ⟨_, o', ho', hall⟩ := mem_ready.1 hr
      obtain rfl := Option.some.inj (ho.symm.trans ho')
      exact hall _ he hb
  | trans _ _ ih1 ih2 => exact fun h => ih1 (.inl (ih2 h))

theorem unlisted {listed : Array Bool} {i : Nat} (h : listed.getD i true = false) : listed.getD i false = false := by
  rcases Nat.lt_or_ge i listed.size with h' | h'
  · simp [h'] at h ⊢; exact h
  · simp [Array.getElem?_eq_none h'] at h
theorem lt_of_unlisted {listed : Array Bool} {i : Nat} (h : listed.getD i true = false) : i < listed.size := by
  rcases Nat.lt_or_ge i listed.size with h' | h'
  · exact h'
  · simp [Array.getElem?_eq_none h'] at h
theorem unlisted' {listed : Array Bool} {i : Nat} (hi : i < listed.size) (h : listed.getD i false = false) : listed.getD i true = false := by
  simp [hi] at h ⊢; exact h
theorem set_get {listed : Array Bool} {i : Nat} (hi : i < listed.size) (k : Nat) : (listed.setIfInBounds i true).getD k false = if k = i then true else listed.getD k false := by
  by_cases h : k = i
  · subst h; simp [hi]
  · rw [getD_set_ne false (Ne.symm h), if_neg h]

def cntU (listed : Array Bool) : Nat → Nat
  | 0 => 0
  | k + 1 => cntU listed k + if listed.getD k true = false then 1 else 0
theorem cntU_set {listed : Array Bool} {i : Nat} (hi : listed.getD i true = false) : ∀ k, (i < k → cntU (listed.setIfInBounds i true) k + 1 = cntU listed k) ∧ (k ≤ i → cntU (listed.setIfInBounds i true) k = cntU listed k)
  | 0 => ⟨fun h => by omega, fun _ => rfl⟩
  | k + 1 => by
    have ih := cntU_set hi k
    constructor
    · intro h
      simp only [cntU]
      by_cases hk : k = i
      · subst hk
        have e : (listed.setIfInBounds k true).getD k true = true := by have := set_get (lt_of_unlisted hi) k; simp [lt_of_unlisted hi]
        rw [ih.2 (Nat.le_refl _), e, hi]; simp
      · have := ih.1 (by omega)
        rw [getD_set_ne true (Ne.symm hk)]; omega
    · intro h
      simp only [cntU]
      rw [ih.2 (by omega), getD_set_ne true (by omega)]
theorem cntU_zero {listed : Array Bool} : ∀ k, cntU listed k = 0 → ∀ i, i < k → listed.getD i true = true
  | 0, _, i, hi => by omega
  | k + 1, h, i, hi => by
    simp only [cntU] at h
    by_cases hk : i = k
    · subst hk
      cases hb : listed.getD i true
      · rw [hb] at h; simp at h
      · rfl
    · exact cntU_zero k (by omega) i (by omega)

theorem mem_kss {p : Nat × Value × (World → Prop)} : ∀ {i}, p ∈ kss P ops fam w0 a0 u i → ∃ (j : Nat) (o : Oper) (nd : List Nat) (V : List Value → Value → World → Prop), j < i ∧ ops[j]? = some o ∧
    Region.wanted o (yielded ops (fr P ops fam w0 a0 u j).tmps) = true ∧ fam j = .unk nd V ∧ p = (j, u j, V (nd.map (lookV (kss P ops fam w0 a0 u j))) (u j))
  | 0, h => by simp [kss] at h
  | i + 1, h => by
    have old : p ∈ kss P ops fam w0 a0 u i → ∃ (j : Nat) (o : Oper) (nd : List Nat) (V : List Value → Value → World → Prop), j < i + 1 ∧ ops[j]? = some o ∧
        Region.wanted o (yielded ops (fr P ops fam w0 a0 u j).tmps) = true ∧ fam j = .unk nd V ∧ p = (j, u j, V (nd.map (lookV (kss P ops fam w0 a0 u j))) (u j)) := fun h => by
      obtain ⟨j, o, nd, V, hj, r⟩ := mem_kss h
      exact ⟨j, o, nd, V, by omega, r⟩
    simp only [kss] at h
    split at h
    · exact old h
    · rename_i o ho
      split at h
      · rename_i hw
        split at h
        · rename_i nd V hV
          rcases List.mem_cons.1 h with rfl | h
          · exact ⟨i, o, nd, V, by omega, ho, hw, hV, rfl⟩
          · exact old h
        · exact old h
      · exact old h

theorem lookV_kss (j : Nat) : ∀ i, lookV (kss P ops fam w0 a0 u i) j = if j < i then (match ops[j]? with
      | none => undef
      | some o => if Region.wanted o (yielded ops (fr P ops fam w0 a0 u j).tmps) = true then (match fam j with | .unk _ _ => u j | _ => undef) else undef) else undef
  | 0 => by simp [kss, lookV]
  | i + 1 => by
    have ih := lookV_kss j i
    by_cases hji : j = i
    · subst hji
      have e0 : lookV (kss P ops fam w0 a0 u j) j = undef := by rw [ih, if_neg (by omega)]
      rw [if_pos (by omega)]
      simp only [kss]
      cases ho : ops[j]? with
      | none => exact e0
      | some o =>
        simp only []
        split
        · cases hf : fam j with
          | unk nd V => simp [lookV]
          | exact nd v => exact e0
          | pure => exact e0
        · exact e0
    · have e0 : lookV (kss P ops fam w0 a0 u (i + 1)) j = lookV (kss P ops fam w0 a0 u i) j := by
        simp only [kss]
        cases ho : ops[i]? with
        | none => rfl
        | some o =>
          simp only []
          split
          · cases hf : fam i with
            | unk nd V =>
              simp [lookV, Ne.symm hji]
            | exact nd v => rfl
            | pure => rfl
          · rfl
      rw [e0, ih]
      by_cases hlt : j < i
      · rw [if_pos hlt, if_pos (by omega)]
      · rw [if_neg hlt, if_neg (by omega)]
theorem lookV_congr (hs : FlowSafe ops need n) {u' : Nat → Value} {j i : Nat} (h : ∀ k, (k = j ∨ Anc ops k j) → u k = u' k) : lookV (kss P ops fam w0 a0 u i) j = lookV (kss P ops fam w0 a0 u' i) j := by
  rw [lookV_kss, lookV_kss]
  split
  · cases ho : ops[j]? with
    | none => rfl
    | some o => simp only [(vl_congr (P := P) (fam := fam) (w0 := w0) (a0 := a0) hs j o ho fun k hk => h k (.inr hk)).2, h j (.inl rfl)]
  · rfl

theorem flow_along (hs : FlowSafe ops need n) (h : Flow P ops fam md w0 Q n 0 ops.toList [] a0) : ∀ i, i ≤ n → Flow P ops fam md w0 Q (n - i) i (ops.toList.drop i) (kss P ops fam w0 a0 u i) (fr P ops fam w0 a0 u i)
  | 0, _ => by simpa [kss, fr] using h
  | i + 1, hi => by
    have ih := flow_along hs h i (by omega)
    have hlt : i < ops.size := by have := hs.le; omega
    have ho : ops[i]? = some ops[i] := Array.getElem?_eq_getElem hlt
    have hd : ops.toList.drop i = ops[i] :: ops.toList.drop (i + 1) := by rw [List.drop_eq_getElem_cons (by simpa using hlt)]; simp
    obtain ⟨m, hm⟩ : ∃ m, n - i = m + 1 := ⟨n - i - 1, by omega⟩
    have hm' : n - (i + 1) = m := by omega
    rw [hd, hm] at ih
    rw [hm']
    simp only [Flow] at ih
    simp only [kss, fr, ho, fval]
    split at ih
    · rename_i hw
      simp only [hw, if_true]
      split at ih
      · rename_i hp
        obtain ⟨v, hv, hf⟩ := ih
        simp only [hp, hv w0 (Below.refl _ _)]
        exact hf
      · rename_i nd v hp
        simp only [hp]
        exact ih.2
      · rename_i nd V hp
        simp only [hp]
        exact ih.2 _
    · rename_i hw
      simp only [hw, if_false, Bool.false_eq_true]
      exact ih

theorem tail_sound (hs : FlowSafe ops need n) : ∀ (m i : Nat) (listed : Array Bool) (a : Act) (w : World), n ≤ i → ops.size - i = m → i ≤ ops.size → listed.size = ops.size →
    (∀ j, j < i → listed.getD j false = true) → (∀ j, i ≤ j → listed.getD j false = false) → wpList P ops Q (ops.toList.drop i) a w → ∀ fuel, m ≤ fuel → wpAny P .any ops Q fuel listed a w := by
  intro m
  induction m with
  | zero =>
    intro i listed a w _ hm hi hsz hlow _ h fuel _
    have hie : i = ops.size := by omega
    have hr : Region.ready .any ops listed = [] := by
      apply List.eq_nil_iff_forall_not_mem.2
      intro j hj
      obtain ⟨h1, _⟩ := mem_ready.1 hj
      have := lt_of_unlisted h1
      have h2 := hlow j (by omega)
      rw [unlisted h1] at h2; cases h2
    rw [hie, List.drop_eq_nil_of_le (by simp)] at h
    exact wpAny_done hr h fuel
  | succ m ih =>
    intro i listed a w hni hm hi hsz hlow hhigh h fuel hfuel
    have hlt : i < ops.size := by omega
    obtain ⟨fuel, rfl⟩ : ∃ f, fuel = f + 1 := ⟨fuel - 1, by omega⟩
    have ho : ops[i]? = some ops[i] := Array.getElem?_eq_getElem hlt
    have hd : ops.toList.drop i = ops[i] :: ops.toList.drop (i + 1) := by rw [List.drop_eq_getElem_cons (by simpa using hlt)]; simp
    have hclosed : ∀ (k : Nat) (o : Oper), ops[k]? = some o → listed.getD k false = true → ∀ e ∈ o.after, Region.binds .any e = true → listed.getD e.on false = true := by
      intro k o hk hl e he hb
      have hki : k < i := by
        rcases Nat.lt_or_ge k i with h | h
        · exact h
        · rw [hhigh k h] at hl; cases hl
      exact hlow _ (Nat.lt_trans (hs.back k o hk e he hb) hki)
    have hready : ∀ k, k ∈ Region.ready .any ops listed → k = i := by
      intro k hk
      obtain ⟨h1, o, hok, _⟩ := mem_ready.1 hk
      have hki : i ≤ k := by
        rcases Nat.lt_or_ge k i with h | h
        · have := hlow k h; rw [unlisted h1] at this; cases this
        · exact h
      rcases Nat.eq_or_lt_of_le hki with h | h
      · exact h.symm
      · rcases hs.head k o i ops[i] hok ho h with hanc | ⟨hkn, _⟩
        · have := anc_listed hclosed hanc (.inr hk)
          rw [hhigh i (Nat.le_refl _)] at this; cases this
        · omega
    have hin : i ∈ Region.ready .any ops listed := mem_ready.2 ⟨unlisted' (by omega) (hhigh i (Nat.le_refl _)), ops[i], ho, fun e he hb => hlow _ (hs.back i _ ho e he hb)⟩
    refine ⟨fun he => (by rw [he] at hin; cases hin), fun k hk => ?_⟩
    obtain rfl := hready k hk
    rw [hd] at h
    have hwp : wpOp P ops Q k (wpList P ops Q (ops.toList.drop (k + 1))) a w := by
      simp only [wpList] at h
      simp only [wpOp, ho]
      exact h
    refine wpOp_mono (fun a' w' h' => ih (k + 1) _ a' w' (by omega) (by omega) (by omega) (by simp [hsz]) ?_ ?_ h' fuel (by omega)) hwp
    · intro j hj
      rw [set_get (by omega)]
      split
      · rfl
      · exact hlow j (by omega)
    · intro j hj
      rw [set_get (by omega), if_neg (by omega)]
      exact hhigh j (by omega)

theorem flow_sound (hs : FlowSafe ops (fun i => (fam i).need) n) (hst : ∀ (i : Nat) (nd : List Nat) (V : List Value → Value → World → Prop), fam i = .unk nd V → ∀ vs v w w', Below w0.heap.size w0 w → V vs v w → Below w.heap.size w w' → V vs v w')
    (h : Flow P ops fam md w0 Q n 0 ops.toList [] a0) : ∀ (fuel : Nat) (u : Nat → Value) (listed : Array Bool) (a : Act) (w : World), FState P ops fam md w0 a0 n u listed a w → cntU listed ops.size ≤ fuel →
    wpAny P .any ops Q fuel listed a w := by
  intro fuel
  induction fuel with
  | zero =>
    intro u listed a w st hc
    have hall : ∀ i, i < ops.size → listed.getD i true = true := cntU_zero _ (by omega)
    have hall' : ∀ i, i < ops.size → listed.getD i false = true := fun i hi => by
      have := hall i hi
      simpa [st.size, hi] using this
    have hn : n = ops.size := by
      rcases Nat.lt_or_ge n ops.size with h | h
      · have := st.tail n (Nat.le_refl _); rw [hall' n h] at this; cases this
      · have := hs.le; omega
    have hf := flow_along (u := u) hs h n (Nat.le_refl _)
    rw [Nat.sub_self] at hf
    simp only [Flow] at hf
    have ha : a = fr P ops fam w0 a0 u n := by
      obtain ⟨tm, df⟩ := a
      have e1 : tm = (fr P ops fam w0 a0 u n).tmps := by
        apply Array.ext_getElem?
        intro t
        have e := st.slots t
        rw [fr_sl]
        exact (show tm[t]? = _ from e).trans <|
        sl_agree (Nat.le_refl _) (fun k o hk _ _ => hall' k (by omega)) (fun k o h1 h2 => by omega)
      have e2 : df = (fr P ops fam w0 a0 u n).defers := st.adef.trans (fr_defers n).symm
      rw [e1, e2]
    have hw := hf w st.below (allF_of fun p hp => by
      obtain ⟨j, o, nd, V, hj, hoj, hwj, hfj, rfl⟩ := mem_kss hp
      exact st.facts j o nd V hj (hall' j (by omega)) hoj hwj hfj) (fun p hp q hq hpq h1 h2 b hb => by
      obtain ⟨j, o, nd, V, hj, hoj, hwj, hfj, rfl⟩ := mem_kss hp
      obtain ⟨k, o', nd', V', hk, hok, hwk, hfk, rfl⟩ := mem_kss hq
      exact st.apart j k o o' nd nd' V V' hj (hall' j (by omega)) hoj hwj hfj h1 hk (hall' k (by omega)) hok hwk hfk h2 hpq b hb)
    rw [← ha] at hw
    exact tail_sound hs 0 n listed a w (Nat.le_refl _) (by omega) (by omega) st.size (fun j hj => hall' j (by omega)) (fun j hj => st.tail j hj) hw 0 (Nat.le_refl _)
  | succ fuel ih =>
    intro u listed a w st hc
    by_cases hdone : ∀ i, i < n → listed.getD i false = true
    · have hf := flow_along (u := u) hs h n (Nat.le_refl _)
      rw [Nat.sub_self] at hf
      simp only [Flow] at hf
      have ha : a = fr P ops fam w0 a0 u n := by
        obtain ⟨tm, df⟩ := a
        have e1 : tm = (fr P ops fam w0 a0 u n).tmps := by
          apply Array.ext_getElem?
          intro t
          have e := st.slots t
          rw [fr_sl]
          exact (show tm[t]? = _ from e).trans <|
          sl_agree (Nat.le_refl _) (fun k o hk _ _ => hdone k (by omega)) (fun k o h1 h2 => by omega)
        have e2 : df = (fr P ops fam w0 a0 u n).defers := st.adef.trans (fr_defers n).symm
        rw [e1, e2]
      have hw := hf w st.below (allF_of fun p hp => by
        obtain ⟨j, o, nd, V, hj, hoj, hwj, hfj, rfl⟩ := mem_kss hp
        exact st.facts j o nd V hj (hdone j (by omega)) hoj hwj hfj) (fun p hp q hq hpq h1 h2 b hb => by
        obtain ⟨j, o, nd, V, hj, hoj, hwj, hfj, rfl⟩ := mem_kss hp
        obtain ⟨k, o', nd', V', hk, hok, hwk, hfk, rfl⟩ := mem_kss hq
        exact st.apart j k o o' nd nd' V V' hj (hdone j (by omega)) hoj hwj hfj h1 hk (hdone k (by omega)) hok hwk hfk h2 hpq b hb)
      rw [← ha] at hw
      have hcnt : ops.size - n ≤ cntU listed ops.size := by
        have key : ∀ k, k - n ≤ cntU listed k ∨ ops.size < k := by
          intro k
          induction k with
          | zero => exact .inl (by omega)
          | succ k ihk =>
            by_cases hk : ops.size < k + 1
            · exact .inr hk
            · rcases ihk with h | h
              · by_cases hkn : n ≤ k
                · have e1 := unlisted' (listed := listed) (i := k) (by have := st.size; omega) (st.tail k hkn)
                  refine .inl ?_
                  simp only [cntU, e1, if_true]
                  omega
                · exact .inl (by omega)
              · exact .inr (by omega)
        rcases key ops.size with h | h
        · exact h
        · omega
      exact tail_sound hs (ops.size - n) n listed a w (Nat.le_refl _) rfl hs.le st.size (fun j hj => hdone j hj) (fun j hj => st.tail j hj) hw _ (by omega)
    · -- the least one that is not done may come up
      have hmin : ∃ i, i < n ∧ listed.getD i false = false ∧ ∀ j, j < i → listed.getD j false = true := by
        have key : ∀ k, k ≤ n → (∀ j, j < k → listed.getD j false = true) ∨ ∃ i, i < k ∧ listed.getD i false = false ∧ ∀ j, j < i → listed.getD j false = true := by
          intro k
          induction k with
          | zero => exact fun _ => .inl (fun j hj => by omega)
          | succ k ihk =>
            intro hk
            rcases ihk (by omega) with h | ⟨i, h1, h2⟩
            · cases hb : listed.getD k false
              · exact .inr ⟨k, by omega, hb, h⟩
              · refine .inl fun j hj => ?_
                by_cases hjk : j = k
                · subst hjk; exact hb
                · exact h j (by omega)
            · exact .inr ⟨i, by omega, h2⟩
        rcases key n (Nat.le_refl _) with h | h
        · exact absurd h hdone
        · exact h
      obtain ⟨i0, hi0, hun0, hlow0⟩ := hmin
      have hle := hs.le
      have hready0 : i0 ∈ Region.ready .any ops listed := by
        have ho : ops[i0]? = some ops[i0] := Array.getElem?_eq_getElem (by omega)
        exact mem_ready.2 ⟨unlisted' (by rw [st.size]; omega) hun0, ops[i0], ho, fun e he hb => hlow0 _ (hs.back i0 _ ho e he hb)⟩
      refine ⟨fun he => (by rw [he] at hready0; cases hready0), fun i hi => ?_⟩
      obtain ⟨hun, o, ho, _⟩ := mem_ready.1 hi
      have hisz : i < listed.size := lt_of_unlisted hun
      have hunf := unlisted hun
      have hin : i < n := by
        rcases Nat.lt_or_ge i n with h | h
        · exact h
        · have ho0 : ops[i0]? = some ops[i0] := Array.getElem?_eq_getElem (by omega)
          rcases hs.head i o i0 _ ho ho0 (by omega) with hanc | ⟨h', _⟩
          · have := anc_listed st.closed hanc (.inr hi)
            rw [hun0] at this; cases this
          · omega
      have hslot : ∀ t ∈ o.looksAt ops, a.tmps[t]? = (fr P ops fam w0 a0 u i).tmps[t]? := by
        intro t ht
        rw [st.slots, fr_sl]
        refine sl_agree (by omega) ?_ ?_
        · intro k ok hk hok hd
          rcases hs.head i o k ok ho hok hk with hanc | ⟨_, hcl⟩
          · exact anc_listed st.closed hanc (.inr hi)
          · rw [dst_clash hd (List.mem_append_right _ ht)] at hcl; cases hcl
        · intro k ok hk1 hk2 hok hd
          rcases Nat.eq_or_lt_of_le hk1 with he | hlt
          · subst he; exact hunf
          · cases hb : listed.getD k false
            · rfl
            · rcases hs.head k ok i o hok ho hlt with hanc | ⟨_, hcl⟩
              · have := anc_listed st.closed hanc (.inl hb)
                rw [hunf] at this; cases this
              · rw [dst_clash' hd (List.mem_append_right _ ht)] at hcl; cases hcl
      obtain ⟨hexec, hwant⟩ := looks_eval (hs.nosel i o ho) hslot
      have hf := flow_along (u := u) hs h i (by omega)
      have hd : ops.toList.drop i = o :: ops.toList.drop (i + 1) := by
        have hlt : i < ops.size := by omega
        rw [List.drop_eq_getElem_cons (by simpa using hlt)]
        rw [Array.getElem?_eq_getElem hlt] at ho
        simp only [Option.some.injEq] at ho
        simp [ho]
      obtain ⟨m, hm⟩ : ∃ m, n - i = m + 1 := ⟨n - i - 1, by omega⟩
      rw [hd, hm] at hf
      simp only [Flow] at hf
      have hwi : ∀ u' : Nat → Value, (∀ k, k ≠ i → u' k = u k) → Region.wanted o (yielded ops (fr P ops fam w0 a0 u i).tmps) = Region.wanted o (yielded ops (fr P ops fam w0 a0 u' i).tmps) := fun u' hu =>
        (vl_congr (P := P) (fam := fam) (w0 := w0) (a0 := a0) (u := u) (u' := u') hs i o ho fun x hx => by
          have hxi : x ≠ i := by
            rintro rfl
            have := anc_listed st.closed hx (.inr hi); rw [hunf] at this; cases this
          exact (hu x hxi).symm).2
      -- the new state
      have mk : ∀ (u' : Nat → Value) (w' : World), (∀ k, k ≠ i → u' k = u k) → Below w.heap.size w w' →
          (∀ nd V, Region.wanted o (yielded ops (fr P ops fam w0 a0 u i).tmps) = true → fam i = .unk nd V → V (nd.map (lookV (kss P ops fam w0 a0 u i))) (u' i) w') →
          (∀ nd V, fam i = .unk nd V → Region.wanted o (yielded ops (fr P ops fam w0 a0 u i).tmps) = true → md i = true → ∀ b, (u' i).ownBlock = some b → w.heap.size ≤ b ∧ b < w'.heap.size) →
          FState P ops fam md w0 a0 n u' (listed.setIfInBounds i true) (a.put o.dst (vl P ops fam w0 a0 u' i)) w' := by
        intro u' w' hu hb hV hmd
        have hsame : ∀ k ok, ops[k]? = some ok → listed.getD k false = true → vl P ops fam w0 a0 u k = vl P ops fam w0 a0 u' k ∧
            Region.wanted ok (yielded ops (fr P ops fam w0 a0 u k).tmps) = Region.wanted ok (yielded ops (fr P ops fam w0 a0 u' k).tmps) := by
          intro k ok hok hl
          have := vl_congr (P := P) (fam := fam) (w0 := w0) (a0 := a0) (u := u) (u' := u') hs k ok hok fun x hx => by
            have hxi : x ≠ i := by
              rintro rfl
              have := anc_listed st.closed hx (.inl hl); rw [hunf] at this; cases this
            exact (hu x hxi).symm
          refine ⟨this.1 ?_, this.2⟩
          exact (hu k (by rintro rfl; rw [hunf] at hl; cases hl)).symm
        refine ⟨by simp [st.size], ?_, ?_, by rw [put_size]; exact st.asize, by rw [put_defers']; exact st.adef, ?_, ?_, ?_, ?_, ?_⟩
        · intro k ok hok hl e he hbe
          rw [set_get hisz] at hl ⊢
          split
          · rfl
          · by_cases hki : k = i
            · subst hki
              obtain ⟨_, o', ho', hall⟩ := mem_ready.1 hi
              obtain rfl := Option.some.inj (hok.symm.trans ho')
              exact hall e he hbe
            · rw [if_neg hki] at hl
              exact st.closed k ok hok hl e he hbe
        · intro k hk
          rw [set_get hisz, if_neg (by omega)]
          exact st.tail k hk
        · intro t
          rw [put_get, st.asize]
          rw [sl_put (D := fun i => listed.getD i false) hin ho (fun k => set_get hisz k) ?_]
          · rw [st.slots t]
            rw [sl_congr n (fun k ok _ hok _ hl => (hsame k ok hok hl).1)]
          · intro k ok hk1 hk2 hok hl hdo hdk
            rcases hs.head k ok i o hok ho hk1 with hanc | ⟨_, hcl⟩
            · have := anc_listed st.closed hanc (.inl hl)
              rw [hunf] at this; cases this
            · rw [dst_clash hdo (List.mem_append_left _ (by simp [hdk]))] at hcl; cases hcl
        · exact st.below.trans (hb.mono st.below.size)
        · intro k ok nd V hk hl hok hwk hfk
          rw [set_get hisz] at hl
          by_cases hki : k = i
          · subst hki
            obtain rfl := Option.some.inj (hok.symm.trans ho)
            have hmap : nd.map (lookV (kss P ops fam w0 a0 u' k)) = nd.map (lookV (kss P ops fam w0 a0 u k)) := by
              refine List.map_congr_left fun j hj => lookV_congr hs fun x hx => ?_
              have hj' : Anc ops j k := hs.need k ok j hok (by rw [hfk]; exact hj)
              have hxk : Anc ops x k := by rcases hx with rfl | hx; exact hj'; exact .trans hx hj'
              have hxi : x ≠ k := by
                rintro rfl
                have := anc_listed st.closed hxk (.inr hi); rw [hunf] at this; cases this
              exact hu x hxi
            rw [hmap]
            refine hV nd V ?_ hfk
            rw [(vl_congr (P := P) (fam := fam) (w0 := w0) (a0 := a0) (u := u) (u' := u') hs k ok hok fun x hx => ?_).2]
            · exact hwk
            · have hxi : x ≠ k := by
                rintro rfl
                have := anc_listed st.closed hx (.inr hi); rw [hunf] at this; cases this
              exact (hu x hxi).symm
          · rw [if_neg hki] at hl
            have h1 := st.facts k ok nd V hk hl hok (by rw [(hsame k ok hok hl).2]; exact hwk) hfk
            have hmap : nd.map (lookV (kss P ops fam w0 a0 u' k)) = nd.map (lookV (kss P ops fam w0 a0 u k)) := by
              refine List.map_congr_left fun j hj => lookV_congr hs fun x hx => ?_
              have hj' : Anc ops j k := hs.need k ok j hok (by rw [hfk]; exact hj)
              have hxk : Anc ops x k := by rcases hx with rfl | hx; exact hj'; exact .trans hx hj'
              have hxi : x ≠ i := by
                rintro rfl
                have := anc_listed st.closed hxk (.inl hl); rw [hunf] at this; cases this
              exact hu x hxi
            rw [hu k hki, hmap]
            exact hst k nd V hfk _ _ _ _ st.below h1 hb
        · intro k ok nd V hk hl hok hwk hfk hmk b hbk
          rw [set_get hisz] at hl
          by_cases hki : k = i
          · subst hki
            obtain rfl := Option.some.inj (hok.symm.trans ho)
            refine (hmd nd V hfk ?_ hmk b hbk).2
            rw [hwi u' hu]; exact hwk
          · rw [if_neg hki] at hl
            rw [hu k hki] at hbk
            exact Nat.lt_of_lt_of_le (st.made k ok nd V hk hl hok (by rw [(hsame k ok hok hl).2]; exact hwk) hfk hmk b hbk) hb.size
        · intro k j ok oj nd nd' V V' hk hl hok hwk hfk hmk hj hl' hoj hwj hfj hmj hkj b hbk hbj
          rw [set_get hisz] at hl hl'
          by_cases hki : k = i
          · subst hki
            have hji : j ≠ k := fun e => hkj e.symm
            obtain rfl := Option.some.inj (hok.symm.trans ho)
            rw [if_neg hji] at hl'
            rw [hu j hji] at hbj
            have h1 := st.made j oj nd' V' hj hl' hoj (by rw [(hsame j oj hoj hl').2]; exact hwj) hfj hmj b hbj
            have h2 := (hmd nd V hfk (by rw [hwi u' hu]; exact hwk) hmk b hbk).1
            omega
          · rw [if_neg hki] at hl
            rw [hu k hki] at hbk
            by_cases hji : j = i
            · subst hji
              obtain rfl := Option.some.inj (hoj.symm.trans ho)
              have h1 := st.made k ok nd V hk hl hok (by rw [(hsame k ok hok hl).2]; exact hwk) hfk hmk b hbk
              have h2 := (hmd nd' V' hfj (by rw [hwi u' hu]; exact hwj) hmj b hbj).1
              omega
            · rw [if_neg hji] at hl'
              rw [hu j hji] at hbj
              exact st.apart k j ok oj nd nd' V V' hk hl hok (by rw [(hsame k ok hok hl).2]; exact hwk) hfk hmk hj hl' hoj (by rw [(hsame j oj hoj hl').2]; exact hwj) hfj hmj hkj b hbk hbj
      have hcnt : cntU (listed.setIfInBounds i true) ops.size ≤ fuel := by
        have := (cntU_set hun ops.size).1 (by rw [← st.size]; exact hisz)
        omega
      have hks : ∀ nd : List Nat, nd = (fam i).need → holdsF (kss P ops fam w0 a0 u i) nd w := fun nd hnd => holdsF_of fun p hp hpn => by
        obtain ⟨j, oj, nd', V, hj, hoj, hwj, hfj, rfl⟩ := mem_kss hp
        have hanc := hs.need i o j ho (by rw [← hnd]; exact hpn)
        exact st.facts j oj nd' V (by omega) (anc_listed st.closed hanc (.inr hi)) hoj hwj hfj
      by_cases hw : Region.wanted o (yielded ops (fr P ops fam w0 a0 u i).tmps) = true
      · rw [if_pos hw] at hf
        split at hf
        · rename_i hp
          obtain ⟨v, hv, _⟩ := hf
          have hvl : vl P ops fam w0 a0 u i = v := by simp only [vl, ho, fval, hw, if_true, hp, hv w0 (Below.refl _ _)]
          have st' := mk u w (fun _ _ => rfl) (Below.refl _ _) (fun nd V _ hfk => by rw [hp] at hfk; cases hfk) (fun nd V hfk => by rw [hp] at hfk; cases hfk)
          rw [hvl] at st'
          simp only [wpOp, ho, hwant, hw, if_true]
          refine .inl ?_
          simp only [Oper.wp, hexec, hv w st.below, Oper.upon]
          exact ih u _ _ _ st' hcnt
        · rename_i nd v hp
          have hvl : vl P ops fam w0 a0 u i = v := by simp only [vl, ho, fval, hw, if_true, hp]
          have hg := hf.1 w st.below (hks nd (by rw [hp]; rfl))
          refine Oper.gives_wpOp ho (by rw [hwant]; exact hw) (by unfold Oper.gives at *; rw [hexec]; exact hg) ?_
          rintro v' w' ⟨rfl, hb⟩
          have st' := mk u w' (fun _ _ => rfl) hb (fun nd V _ hfk => by rw [hp] at hfk; cases hfk) (fun nd V hfk => by rw [hp] at hfk; cases hfk)
          rw [hvl] at st'
          exact ih u _ _ _ st' hcnt
        · rename_i nd V hp
          have hg := hf.1 w st.below (hks nd (by rw [hp]; rfl))
          refine Oper.gives_wpOp ho (by rw [hwant]; exact hw) (by unfold Oper.gives at *; rw [hexec]; exact hg) ?_
          rintro v w' ⟨⟨hb, hV⟩, hmd⟩
          have hne : ∀ k, k ≠ i → (fun k => if k = i then v else u k) k = u k := fun k hk => by simp [hk]
          have st' := mk (fun k => if k = i then v else u k) w' hne hb (fun nd' V' _ hfk => by
            rw [hp] at hfk
            injection hfk with h1 h2
            subst h1
            subst h2
            simpa using hV) (fun nd' V' _ _ hm b hb' => hmd hm b (by simpa using hb'))
          have hvl : vl P ops fam w0 a0 (fun k => if k = i then v else u k) i = v := by
            have hwi := (vl_congr (P := P) (fam := fam) (w0 := w0) (a0 := a0) (u := u) (u' := fun k => if k = i then v else u k) hs i o ho fun x hx => by
              have hxi : x ≠ i := by
                rintro rfl
                have := anc_listed st.closed hx (.inr hi); rw [hunf] at this; cases this
              simp [hxi]).2
            rw [hw] at hwi
            simp only [vl, ho, fval, ← hwi, if_true, hp]
          rw [hvl] at st'
          exact ih _ _ _ _ st' hcnt
      · have hw' : Region.wanted o (yielded ops (fr P ops fam w0 a0 u i).tmps) = false := by simpa using hw
        have hvl : vl P ops fam w0 a0 u i = undef := by simp only [vl, ho, fval, hw', Bool.false_eq_true, if_false]
        have st' := mk u w (fun _ _ => rfl) (Below.refl _ _) (fun nd V h _ => absurd h hw) (fun nd V _ h => absurd h hw)
        rw [hvl] at st'
        simp only [wpOp, ho, hwant, hw', Bool.false_eq_true, if_false]
        exact ih u _ _ _ st' hcnt

/-- THE RULE. 'n': how many operations are met by 'fam'; those behind wait for all ahead of them, and are walked one by one. -/
theorem wp_flow {id : Nat} {l : List Oper} {w : World} (n : Nat) (fam : Nat → FV) (md : Nat → Bool) (hm : P.follows .mixedOrders = true) (hok : flowOk l.toArray (fun i => (fam i).need) n = true)
    (hst : ∀ (i : Nat) (nd : List Nat) (V : List Value → Value → World → Prop), fam i = .unk nd V → ∀ vs v w1 w2, Below w.heap.size w w1 → V vs v w1 → Below w1.heap.size w1 w2 → V vs v w2)
    (h : Flow P l.toArray fam md w Q n 0 l [] a0) : (Code.region id l.toArray true).wp P Q a0 w := by
  have hs := flowOk_safe hok
  refine wp_region_any hm ?_
  have hb : Below w.heap.size w { w with drawn := w.drawn + 1 } := ⟨rfl, rfl, rfl, Nat.le_refl _, fun _ _ => rfl⟩
  have hcnt : ∀ (listed : Array Bool) (k : Nat), cntU listed k ≤ k := fun listed k => by
    induction k with
    | zero => exact Nat.le_refl _
    | succ k ih => simp only [cntU]; split <;> omega
  refine flow_sound hs hst (by simpa using h) _ (fun _ => undef) _ _ _ ⟨by simp, ?_, ?_, rfl, rfl, ?_, hb, ?_, ?_, ?_⟩ (hcnt _ _)
  · intro i o _ hl
    rcases Nat.lt_or_ge i l.toArray.size with h | h <;> simp_all
  · intro i _
    rcases Nat.lt_or_ge i l.toArray.size with h | h <;> simp_all
  · intro t
    have hz : ∀ m, sl P l.toArray fam w a0 (fun _ => undef) (fun i => (Array.replicate l.toArray.size false).getD i false) m t = a0.tmps[t]? := by
      intro m
      induction m with
      | zero => rfl
      | succ m ih =>
        have e : (Array.replicate l.toArray.size false).getD m false = false := by
          rcases Nat.lt_or_ge m l.toArray.size with h | h <;> simp_all
        simp only [sl, e]
        split
        · simpa using ih
        · exact ih
    exact (hz n).symm
  · intro i o nd V _ hl
    have e : (Array.replicate l.toArray.size false).getD i false = false := by
      rcases Nat.lt_or_ge i l.toArray.size with h | h <;> simp_all
    rw [e] at hl; cases hl
  · intro i o nd V _ hl
    have e : (Array.replicate l.toArray.size false).getD i false = false := by
      rcases Nat.lt_or_ge i l.toArray.size with h | h <;> simp_all
    rw [e] at hl; cases hl
  · intro i j o o' nd nd' V V' _ hl
    have e : (Array.replicate l.toArray.size false).getD i false = false := by
      rcases Nat.lt_or_ge i l.toArray.size with h | h <;> simp_all
    rw [e] at hl; cases hl

/-- 'fam' by a list. -/
def famOf : List (Nat × FV) → Nat → FV
  | [], _ => .pure
  | (k, f) :: r, i => match Nat.beq k i with | true => f | false => famOf r i
def stabs (w0 : World) : List (Nat × FV) → Prop
  | [] => True
  | (_, .unk _ V) :: r => (∀ vs v w1 w2, Below w0.heap.size w0 w1 → V vs v w1 → Below w1.heap.size w1 w2 → V vs v w2) ∧ stabs w0 r
  | (_, .exact _ _) :: r => stabs w0 r
  | (_, .pure) :: r => stabs w0 r
theorem stabs_fam {w : World} : ∀ {L : List (Nat × FV)}, stabs w L → ∀ (i : Nat) (nd : List Nat) (V : List Value → Value → World → Prop), famOf L i = .unk nd V → ∀ vs v w1 w2, Below w.heap.size w w1 → V vs v w1 → Below w1.heap.size w1 w2 → V vs v w2
  | [], _, i, nd, V, h => by cases h
  | (k, f) :: r, hs, i, nd, V, h => by
    simp only [famOf] at h
    split at h
    · subst h; exact hs.1
    · refine stabs_fam (L := r) ?_ i nd V h
      cases f with
      | unk nd V => exact hs.2
      | exact nd v => exact hs
      | pure => exact hs
abbrev noMd : Nat → Bool := fun _ => false
theorem wp_flowL {id : Nat} {l : List Oper} {w : World} (n : Nat) (L : List (Nat × FV)) (hm : P.follows .mixedOrders = true) (hok : flowOk l.toArray (fun i => (famOf L i).need) n = true)
    (hst : stabs w L) (h : Flow P l.toArray (famOf L) noMd w Q n 0 l [] a0) : (Code.region id l.toArray true).wp P Q a0 w :=
  wp_flow n (famOf L) noMd hm hok (stabs_fam hst) h
/-- 'M': the operations that hand on a row made anew. -/
theorem wp_flowM {id : Nat} {l : List Oper} {w : World} (n : Nat) (L : List (Nat × FV)) (M : List Nat) (hm : P.follows .mixedOrders = true) (hok : flowOk l.toArray (fun i => (famOf L i).need) n = true)
    (hst : stabs w L) (h : Flow P l.toArray (famOf L) (fun i => M.contains i) w Q n 0 l [] a0) : (Code.region id l.toArray true).wp P Q a0 w :=
  wp_flow n (famOf L) _ hm hok (stabs_fam hst) h

section steps
variable {m i : Nat} {o : Oper} {rest : List Oper} {ks : FK} {a : Act} {v : Value} {V : List Value → Value → World → Prop} {nd : List Nat}
theorem Flow.pure_ (hw : Region.wanted o (yielded ops a.tmps) = true) (hf : fam i = .pure) (hv : ∀ w, Below w0.heap.size w0 w → (execOp a.eval o).run P w = .ok (.value v) w)
    (h : Flow P ops fam md w0 Q m (i + 1) rest ks (a.put o.dst v)) : Flow P ops fam md w0 Q (m + 1) i (o :: rest) ks a := by
  simp only [Flow, hw, if_true, hf]
  exact ⟨v, hv, h⟩
theorem Flow.skip_ (hw : Region.wanted o (yielded ops a.tmps) = false) (h : Flow P ops fam md w0 Q m (i + 1) rest ks (a.put o.dst undef)) : Flow P ops fam md w0 Q (m + 1) i (o :: rest) ks a := by
  simp only [Flow, hw, Bool.false_eq_true, if_false]
  exact h
theorem Flow.exact_ (hw : Region.wanted o (yielded ops a.tmps) = true) (hf : fam i = .exact nd v)
    (hv : ∀ w, Below w0.heap.size w0 w → holdsF ks nd w → Oper.gives P o a w fun v' w' => v' = v ∧ Below w.heap.size w w')
    (h : Flow P ops fam md w0 Q m (i + 1) rest ks (a.put o.dst v)) : Flow P ops fam md w0 Q (m + 1) i (o :: rest) ks a := by
  simp only [Flow, hw, if_true, hf]
  exact ⟨hv, h⟩
theorem givesR_mono {P : Program} {R S : Value → World → Prop} (h : ∀ v w, R v w → S v w) {r : Result Next} (hr : givesR P R r) : givesR P S r := by
  cases r with
  | ok n w' =>
    cases n <;> simp only [givesR] at hr ⊢
    case value v => exact h _ _ hr
    case skip => exact h _ _ hr
    case enter f args => exact Calls.mono hr fun e w'' ⟨v, he, hR⟩ => ⟨v, he, h _ _ hR⟩
    case row row args => exact Rows.mono hr fun v w'' hR => h _ _ hR
  | halt x w' => exact hr
theorem Flow.unk_ (hw : Region.wanted o (yielded ops a.tmps) = true) (hf : fam i = .unk nd V)
    (hv : ∀ w, Below w0.heap.size w0 w → holdsF ks nd w → Oper.gives P o a w fun v w' => Below w.heap.size w w' ∧ V (nd.map (lookV ks)) v w')
    (h : ∀ v, Flow P ops fam md w0 Q m (i + 1) rest ((i, v, V (nd.map (lookV ks)) v) :: ks) (a.put o.dst v)) (hmd : md i = false := by rfl) : Flow P ops fam md w0 Q (m + 1) i (o :: rest) ks a := by
  simp only [Flow, hw, if_true, hf]
  exact ⟨fun w hb hk => givesR_mono (fun v w' h => ⟨h, fun he => by rw [hmd] at he; cases he⟩) (hv w hb hk), h⟩
theorem Flow.made_ (hw : Region.wanted o (yielded ops a.tmps) = true) (hf : fam i = .unk nd V)
    (hv : ∀ w, Below w0.heap.size w0 w → holdsF ks nd w → Oper.gives P o a w fun v w' => (Below w.heap.size w w' ∧ V (nd.map (lookV ks)) v w') ∧ ∀ b, v.ownBlock = some b → w.heap.size ≤ b ∧ b < w'.heap.size)
    (h : ∀ v, Flow P ops fam md w0 Q m (i + 1) rest ((i, v, V (nd.map (lookV ks)) v) :: ks) (a.put o.dst v)) : Flow P ops fam md w0 Q (m + 1) i (o :: rest) ks a := by
  simp only [Flow, hw, if_true, hf]
  exact ⟨fun w hb hk => givesR_mono (fun v w' h => ⟨h.1, fun _ => h.2⟩) (hv w hb hk), h⟩
theorem Flow.done_ (h : ∀ w, Below w0.heap.size w0 w → allF ks w → wpList P ops Q rest a w) : Flow P ops fam md w0 Q 0 i rest ks a := fun w h1 h2 _ => h w h1 h2
theorem Flow.doneM_ (h : ∀ w, Below w0.heap.size w0 w → allF ks w → apartF md ks → wpList P ops Q rest a w) : Flow P ops fam md w0 Q 0 i rest ks a := h
end steps
end sound
end Go.Proofs.Ytpmdkmpmpjdglaa
