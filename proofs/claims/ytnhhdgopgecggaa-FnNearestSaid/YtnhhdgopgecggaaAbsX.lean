/- The abstract machine: a statement whose order of evaluation is open (2): the check, and why it serves. No condition. -/
import Derived.Test.YtnhhdgopgecggaaAbsV
set_option linter.unusedVariables false
set_option linter.unusedSimpArgs false
namespace Go.Proofs.Ytnhhdgopgecggaa.Abs
open Go

/-- 0: it looks at nothing but its operands · 1: it reads or makes memory, or calls · 2: it writes. -/
def kindOf : Op → Nat
  | .move _ | .assign _ | .pick _ _ _ | .build _ _ | .nilCheck _ | .binOp _ _ _ _ _ | .unOp _ _ _ | .convert _ _ _ | .makeFunc _ _ _ | .slice _ _ _ _ _ | .fieldAddr _ _ _ | .field _ _ _ | .indexAddr _ _ _ | .index _ _ _ | .extract _ _ => 0
  | .call c => match c.callee with
    | .builtin b => match b with
      | .len | .max | .min => 0
      | _ => 2
    | _ => 1
  | .store _ _ _ => 2
  | _ => 1

def tmpsOf (l : List Operand) : List Tmp := l.filterMap fun
  | .tmp t => some t
  | _ => none
def readsOf (ops : Array Oper) (o : Oper) : List Tmp :=
  tmpsOf o.op.operands.toList ++ (match o.guard with
    | some (j, _) => ((ops[j]?).bind (·.dst)).toList
    | none => [])

def firstE (l : List Oper) : Nat := l.findIdx fun o => kindOf o.op == 2

def drawB (ops : Array Oper) : Bool :=
  (List.range ops.size).all fun i =>
    match ops[i]? with
    | none => true
    | some o =>
      (bAfter o).all (fun j => decide (j < i)) &&
      (readsOf ops o).all (fun d => (List.range ops.size).all fun j => match ops[j]? with
        | some p => !(p.dst == some d) || (decide (j < i) && (bAfter o).contains j) || (decide (i < j) && (bAfter p).contains i)
        | none => true) &&
      (List.range ops.size).all (fun j => match ops[j]? with
        | some p => j == i || o.dst == none || !(p.dst == o.dst)
        | none => true) &&
      (decide (i < firstE ops.toList) || kindOf o.op == 0 || (List.range i).all fun j => match ops[j]? with
        | some p => kindOf p.op == 0 || (bAfter o).contains j
        | none => true)

structure DrawOK (ops : Array Oper) : Prop where
  back : ∀ (i : Nat) o, ops[i]? = some o → ∀ j ∈ bAfter o, j < i
  reads : ∀ (i : Nat) o, ops[i]? = some o → ∀ d ∈ readsOf ops o, ∀ (j : Nat) p, ops[j]? = some p → p.dst = some d → (j < i ∧ j ∈ bAfter o) ∨ (i < j ∧ i ∈ bAfter p)
  dsts : ∀ (i : Nat) o, ops[i]? = some o → ∀ (j : Nat) p, ops[j]? = some p → ∀ d, o.dst = some d → p.dst = some d → j = i
  mem : ∀ (i : Nat) o, ops[i]? = some o → i < firstE ops.toList ∨ kindOf o.op = 0 ∨ ∀ j, j < i → ∀ p, ops[j]? = some p → kindOf p.op = 0 ∨ j ∈ bAfter o

theorem drawOK_of {ops : Array Oper} (h : drawB ops = true) : DrawOK ops := by
  have key : ∀ (i : Nat) o, ops[i]? = some o → _ := fun i o hi => by
    have hil : i < ops.size := (Array.getElem?_eq_some_iff.1 hi).1
    have := (List.all_eq_true.1 h) i (List.mem_range.2 hil)
    simp only [hi, Bool.and_eq_true] at this
    exact this
  refine ⟨?_, ?_, ?_, ?_⟩
  · intro i o hi j hj
    have := (key i o hi).1.1.1
    simpa using (List.all_eq_true.1 this) j hj
  · intro i o hi d hd j p hj hp
    have := (key i o hi).1.1.2
    have := (List.all_eq_true.1 this) d hd
    have hjl : j < ops.size := (Array.getElem?_eq_some_iff.1 hj).1
    have := (List.all_eq_true.1 this) j (List.mem_range.2 hjl)
    simp only [hj, hp, beq_self_eq_true, Bool.not_true, Bool.false_or, Bool.or_eq_true, Bool.and_eq_true, decide_eq_true_eq, List.contains_iff_mem] at this
    exact this
  · intro i o hi j p hj d ho hp
    have := (key i o hi).1.2
    have hjl : j < ops.size := (Array.getElem?_eq_some_iff.1 hj).1
    have := (List.all_eq_true.1 this) j (List.mem_range.2 hjl)
    simpa [hj, ho, hp] using this
  · intro i o hi
    have := (key i o hi).2
    simp only [Bool.or_eq_true, decide_eq_true_eq, beq_iff_eq] at this
    rcases this with (h1 | h1) | h1
    · exact .inl h1
    · exact .inr (.inl h1)
    · refine .inr (.inr fun j hj p hp => ?_)
      have := (List.all_eq_true.1 h1) j (List.mem_range.2 hj)
      simpa [hp] using this

/-! ### The run in the order of the text, step by step -/
/-- The first k operations only add to the memory. -/
def runDraw (P : Program) (G : Env) (ops : Array Oper) : Nat → List Oper → Cont → List Value → AHeap → Prop
  | _, [], K, t, H => K t H
  | 0, o :: l, K, t, H => runOps P G ops (o :: l) K t H
  | k + 1, o :: l, K, t, H =>
    if wantA ops o t = true then
      match aop P G o.op (ev t) H with
      | some (v, H') => H <+: H' ∧ runDraw P G ops k l K (setD t o.dst v) H'
      | none => False
    else runDraw P G ops k l K (setD t o.dst Go.undef) H

structure Trace (P : Program) (G : Env) (ops : Array Oper) (l : List Oper) (k : Nat) (t : List Value) (H : AHeap) (K : Cont) (T : Nat → List Value) (Hh : Nat → AHeap) (vs : Nat → Value) : Prop where
  t0 : T 0 = t
  H0 : Hh 0 = H
  step : ∀ (i : Nat) o, l[i]? = some o → T (i + 1) = setD (T i) o.dst (vs i) ∧
    ((wantA ops o (T i) = true ∧ aop P G o.op (ev (T i)) (Hh i) = some (vs i, Hh (i + 1)) ∧ (i < k → Hh i <+: Hh (i + 1))) ∨ (wantA ops o (T i) = false ∧ vs i = Go.undef ∧ Hh (i + 1) = Hh i))
  fin : K (T l.length) (Hh l.length)

theorem trace_cons {P : Program} {G : Env} {ops : Array Oper} {o : Oper} {l : List Oper} {k k' : Nat} {t t' : List Value} {H H' : AHeap} {K : Cont} {T : Nat → List Value} {Hh : Nat → AHeap} {vs : Nat → Value} {v : Value}
    (tr : Trace P G ops l k t' H' K T Hh vs) (ht : t' = setD t o.dst v) (hk : k' ≤ k + 1)
    (hs : (wantA ops o t = true ∧ aop P G o.op (ev t) H = some (v, H') ∧ (0 < k' → H <+: H')) ∨ (wantA ops o t = false ∧ v = Go.undef ∧ H' = H)) :
    ∃ T Hh vs, Trace P G ops (o :: l) k' t H K T Hh vs := by
  refine ⟨fun i => match i with | 0 => t | i + 1 => T i, fun i => match i with | 0 => H | i + 1 => Hh i, fun i => match i with | 0 => v | i + 1 => vs i, rfl, rfl, ?_, ?_⟩
  · intro i o' hi
    cases i with
    | zero =>
      simp at hi; subst hi
      refine ⟨?_, ?_⟩
      · show T 0 = setD t o.dst v
        rw [tr.t0, ht]
      · rcases hs with ⟨h1, h2, h3⟩ | ⟨h1, h2, h3⟩
        · left; refine ⟨h1, ?_, fun hk => ?_⟩
          · show aop P G o.op (ev t) H = some (v, Hh 0)
            rw [tr.H0]; exact h2
          · show H <+: Hh 0
            rw [tr.H0]; exact h3 hk
        · right; refine ⟨h1, h2, ?_⟩
          show Hh 0 = H
          rw [tr.H0]; exact h3
    | succ i =>
      have := tr.step i o' (by simpa using hi)
      refine ⟨this.1, ?_⟩
      rcases this.2 with ⟨h1, h2, h3⟩ | h
      · exact .inl ⟨h1, h2, fun hk => h3 (by omega)⟩
      · exact .inr h
  · exact tr.fin

theorem trace_of_runOps {P : Program} {G : Env} {ops : Array Oper} {K : Cont} : ∀ (l : List Oper) (t : List Value) (H : AHeap), runOps P G ops l K t H → ∃ T Hh vs, Trace P G ops l 0 t H K T Hh vs := by
  intro l
  induction l with
  | nil => intro t H h; exact ⟨fun _ => t, fun _ => H, fun _ => Go.undef, rfl, rfl, by simp, h⟩
  | cons o l ih =>
    intro t H h
    unfold runOps at h
    split at h
    · rename_i hw
      split at h
      · rename_i v H' hv
        obtain ⟨T, Hh, vs, tr⟩ := ih _ _ h
        exact trace_cons tr rfl (by omega) (.inl ⟨hw, hv, by omega⟩)
      · exact h.elim
    · rename_i hw
      obtain ⟨T, Hh, vs, tr⟩ := ih _ _ h
      exact trace_cons (v := Go.undef) tr rfl (by omega) (.inr ⟨by simpa using hw, rfl, rfl⟩)

theorem trace_of_runDraw {P : Program} {G : Env} {ops : Array Oper} {K : Cont} : ∀ (l : List Oper) (k : Nat) (t : List Value) (H : AHeap), runDraw P G ops k l K t H → ∃ T Hh vs, Trace P G ops l k t H K T Hh vs := by
  intro l
  induction l with
  | nil => intro k t H h; exact ⟨fun _ => t, fun _ => H, fun _ => Go.undef, rfl, rfl, by simp, by cases k <;> exact h⟩
  | cons o l ih =>
    intro k t H h
    cases k with
    | zero => exact trace_of_runOps (o :: l) t H h
    | succ k =>
      unfold runDraw at h
      split at h
      · rename_i hw
        split at h
        · rename_i v H' hv
          obtain ⟨T, Hh, vs, tr⟩ := ih _ _ _ h.2
          exact trace_cons tr rfl (by omega) (.inl ⟨hw, hv, fun _ => h.1⟩)
        · exact h.elim
      · rename_i hw
        obtain ⟨T, Hh, vs, tr⟩ := ih _ _ _ h
        exact trace_cons (v := Go.undef) tr rfl (by omega) (.inr ⟨by simpa using hw, rfl, rfl⟩)

/-! ### What looks at its operands alone -/
theorem slot_only {P : Program} {G : Env} {op : Op} {ρ : Operand → Value} {H H' : AHeap} {v : Value} (hk : kindOf op = 0) (h : aop P G op ρ H = some (v, H')) : H' = H ∧ ∀ H2, aop P G op ρ H2 = some (v, H2) := by
  unfold aop at h
  split at h <;> rename_i e <;> simp only [kindOf] at hk
  all_goals first | (exact absurd hk (by decide)) | skip
  · cases h; exact ⟨rfl, fun _ => rfl⟩
  · cases h; exact ⟨rfl, fun _ => rfl⟩
  · split at h
    · rename_i e; cases h; exact ⟨rfl, fun _ => by simp only [aop, e]⟩
    · rename_i e; cases h; exact ⟨rfl, fun _ => by simp only [aop, e]⟩
    · cases h
  all_goals first
    | (simp only [Option.map_eq_some_iff] at h; obtain ⟨v0, h, h0⟩ := h; cases h0; exact ⟨rfl, fun _ => by simp only [aop, h, Option.map_some]⟩)
    | (cases h; exact ⟨rfl, fun _ => rfl⟩)
    | skip
  · rename_i c
    split at hk
    · rename_i b eb
      simp only [aCall, eb, aBuiltin] at h
      split at h <;> simp only at hk <;> try (exact absurd hk (by decide))
      all_goals
        split at h
        · rename_i h1 h2
          simp only [Option.map_eq_some_iff] at h; obtain ⟨v0, h, h0⟩ := h; cases h0
          exact ⟨rfl, fun _ => by simp only [aop, aCall, eb, aBuiltin]; simp only [*, Option.map_some]⟩
        · cases h
    · exact absurd hk (by decide)

end Go.Proofs.Ytnhhdgopgecggaa.Abs
