/- The abstract machine: statements and functions: 'W' tells what a function's code does to abstract values and memory; what it tells holds of the model. No condition. -/
import Derived.Test.YtnhhdgopgecggaaAbsT
set_option linter.unusedVariables false
set_option linter.unusedSimpArgs false
namespace Go.Proofs.Ytnhhdgopgecggaa.Abs
open Go

abbrev Post := Exit → List Value → AHeap → Prop
abbrev Cont := List Value → AHeap → Prop

def ev (t : List Value) : Operand → Value
  | .tmp i => t.getD i Go.undef
  | .const v => v
  | .global g => .pointer (some ⟨g, 0, none⟩)
  | .func f => .func (.func f) #[] #[]

def setD (t : List Value) (d : Option Tmp) (v : Value) : List Value :=
  match d with
  | some d => t.set d v
  | none => t

/-- Whether an operation that hangs on another one's answer is carried out. -/
def wantA (ops : Array Oper) (o : Oper) (t : List Value) : Bool :=
  match o.guard with
  | none => true
  | some (j, want) => match ((ops[j]?).bind (·.dst)).bind (t[·]?) with
    | some (.bool b) => b == want
    | _ => false

/-- Operations, one behind another. -/
def runOps (P : Program) (G : Env) (ops : Array Oper) : List Oper → Cont → List Value → AHeap → Prop
  | [], K, t, H => K t H
  | o :: l, K, t, H =>
    if wantA ops o t = true then
      match aop P G o.op (ev t) H with
      | some (v, H') => runOps P G ops l K (setD t o.dst v) H'
      | none => False
    else runOps P G ops l K (setD t o.dst Go.undef) H

/-- What operands the code may have: constants without addresses, the listed variables. -/
def opnd (gs : List Nat) : Operand → Bool
  | .const v => closed v
  | .global g => gs.contains g
  | _ => true
def operOK (gs : List Nat) (o : Oper) : Bool := o.op.operands.toList.all (opnd gs)

theorem ev_rel {gs : List Nat} {μ : Ren} {t : List Value} {a : Act} (hg : Glob gs μ) (ht : VRL μ t a.tmps.toList) (x : Operand) (hx : opnd gs x = true) : VR μ (ev t x) (a.eval x) := by
  cases x with
  | tmp i =>
    have := ht.getD i
    simpa [ev, Act.eval, List.getD_eq_getElem?_getD, Array.getD_eq_getD_getElem?] using this
  | const v => exact VR.of_closed μ v (by simpa [opnd] using hx)
  | global g =>
    obtain ⟨size, h⟩ := hg g (by simpa [opnd] using hx)
    exact VR.ptr (off := 0) (base := 0) h
  | func f => exact .func _ .nil .nil

theorem setD_rel {μ : Ren} {t : List Value} {a : Act} (ht : VRL μ t a.tmps.toList) {v v' : Value} (hv : VR μ v v') (d : Option Tmp) : VRL μ (setD t d v) (a.put d v').tmps.toList := by
  cases d with
  | none => exact ht
  | some d =>
    show VRL μ (t.set d v) (a.tmps.setIfInBounds d v').toList
    rw [Array.toList_setIfInBounds]
    exact ht.set hv d

theorem want_rel {μ : Ren} {t : List Value} {a : Act} (ht : VRL μ t a.tmps.toList) (ops : Array Oper) (o : Oper) : Region.wanted o (yielded ops a.tmps) = wantA ops o t := by
  unfold Region.wanted wantA
  cases o.guard with
  | none => rfl
  | some g =>
    obtain ⟨j, want⟩ := g
    dsimp only
    unfold yielded
    cases hd : (ops[j]?).bind (·.dst) with
    | none => simp
    | some d =>
      simp only [Option.bind_some]
      cases hi : t[d]? with
      | none =>
        have : a.tmps[d]? = none := by
          rw [List.getElem?_eq_none_iff] at hi
          rw [Array.getElem?_eq_none_iff]
          have := ht.length; simp at this; omega
        simp [this]
      | some v =>
        obtain ⟨v', h1, h2⟩ := ht.get hi
        have h1' : a.tmps[d]? = some v' := by simpa using h1
        rw [h1']
        cases h2 <;> simp

/-- A state of the abstract machine, as one of the model, further on from a beginning. -/
def At (gs : List Nat) (μ0 : Ren) (H0 : AHeap) (w0 : World) (K : Cont) (a : Act) (w : World) : Prop :=
  ∃ t H μ, K t H ∧ a.defers = [] ∧ VRL μ t a.tmps.toList ∧ Rel μ H w ∧ Glob gs μ ∧ Keep μ0 H0 w0 μ H w

theorem put_defers (a : Act) (d : Option Tmp) (v : Value) : (a.put d v).defers = a.defers := by cases d <;> rfl

theorem runOps_sound {gs : List Nat} {P : Program} {G : Env} (hG : SoundEnv gs P G) (ops : Array Oper) {Q : Exit → Act → World → Prop} {K : Cont} {μ0 : Ren} {H0 : AHeap} {w0 : World} (hQ : ∀ a w, At gs μ0 H0 w0 K a w → Q .normal a w) :
    ∀ (l : List Oper), l.all (operOK gs) = true → ∀ (t : List Value) (H : AHeap) (a : Act) (w : World) (μ : Ren), runOps P G ops l K t H → a.defers = [] → VRL μ t a.tmps.toList → Rel μ H w → Glob gs μ → Keep μ0 H0 w0 μ H w →
    wpList P ops Q l a w := by
  intro l
  induction l with
  | nil =>
    intro _ t H a w μ h hd ht r hg k
    exact hQ a w ⟨t, H, μ, h, hd, ht, r, hg, k⟩
  | cons o l ih =>
    intro hall t H a w μ h hd ht r hg k
    simp only [List.all_cons, Bool.and_eq_true] at hall
    unfold wpList
    rw [want_rel ht]
    unfold runOps at h
    split at h
    · rename_i hw
      rw [if_pos hw]
      split at h
      · rename_i v H' hv
        left
        refine aop_sound hG r hg (fun x hx => ev_rel hg ht x (by
          have := hall.1
          simp only [operOK, List.all_eq_true] at this
          exact this x hx)) hv _ _ ?_
        rintro v' w' ⟨μ', r', k', hv'⟩
        have hle := k'.le r
        exact ih hall.2 _ _ _ _ μ' h (by rw [put_defers]; exact hd) (setD_rel (ht.mono hle) hv' o.dst) r' (hg.le hle) (k.trans k')
      · exact h.elim
    · rename_i hw
      rw [if_neg hw]
      exact ih hall.2 _ _ _ _ μ h (by rw [put_defers]; exact hd) (setD_rel ht (VR.undef μ) o.dst) r hg k

end Go.Proofs.Ytnhhdgopgecggaa.Abs
