/- The abstract machine, floats: not-a-numbers are one word; what an operation gives hangs on nothing else of them. No condition. -/
import Derived.Test.YtnhhdgopgecggaaAbsA
set_option linter.unusedVariables false
set_option linter.unusedSimpArgs false
namespace Go.Proofs.Ytnhhdgopgecggaa.Abs
open Go

theorem nanB_nanOf (k : FloatKind) : nanB k (nanOf k) = true := by cases k <;> decide +kernel
theorem canon_nan {k : FloatKind} {x : Nat} (h : nanB k x = true) : canon k x = nanOf k := by simp [canon, h]
theorem canon_not {k : FloatKind} {x : Nat} (h : nanB k x = false) : canon k x = x := by simp [canon, h]
theorem nanB_canon (k : FloatKind) (x : Nat) : nanB k (canon k x) = nanB k x := by
  cases h : nanB k x with
  | true => rw [canon_nan h]; exact nanB_nanOf k
  | false => rw [canon_not h]; exact h
theorem canon_canon (k : FloatKind) (x : Nat) : canon k (canon k x) = canon k x := by
  cases h : nanB k x with
  | true => rw [canon_nan (by rw [nanB_canon]; exact h), canon_nan h]
  | false => rw [canon_not h, canon_not h]
theorem canon_nanOf (k : FloatKind) : canon k (nanOf k) = nanOf k := canon_nan (nanB_nanOf k)

theorem nan_form {k : FloatKind} {x : Nat} (h : nanB k x = true) : ∃ s t, k.decode x = .nan s t := by
  unfold nanB at h
  cases e : k.decode x <;> simp [Ieee.Datum.isNaN, e] at h
  exact ⟨_, _, rfl⟩

theorem sum_nan_l (s : Bool) (t : Nat) (d : Ieee.Datum) : (Ieee.Datum.nan s t).sum d = none := by cases d <;> rfl
theorem sum_nan_r (s : Bool) (t : Nat) (d : Ieee.Datum) : d.sum (Ieee.Datum.nan s t) = none := by cases d <;> rfl
theorem product_nan_l (s : Bool) (t : Nat) (d : Ieee.Datum) : (Ieee.Datum.nan s t).product d = none := by cases d <;> rfl
theorem product_nan_r (s : Bool) (t : Nat) (d : Ieee.Datum) : d.product (Ieee.Datum.nan s t) = none := by cases d <;> rfl
theorem quotient_nan_l (n : Nat) (s : Bool) (t : Nat) (d : Ieee.Datum) : (Ieee.Datum.nan s t).quotient n d = none := by cases d <;> rfl
theorem quotient_nan_r (n : Nat) (s : Bool) (t : Nat) (d : Ieee.Datum) : d.quotient n (Ieee.Datum.nan s t) = none := by cases d <;> rfl
theorem order_nan_l (s : Bool) (t : Nat) (d : Ieee.Datum) : (Ieee.Datum.nan s t).order d = none := by cases d <;> rfl
theorem order_nan_r (s : Bool) (t : Nat) (d : Ieee.Datum) : d.order (Ieee.Datum.nan s t) = none := by cases d <;> rfl

theorem floatBits_nan_l {op : BinOp} {k : FloatKind} {x y : Nat} (h : nanB k x = true) : floatBits op k x y = none := by
  obtain ⟨s, t, e⟩ := nan_form h
  have e' : k.format.read x = .nan s t := e
  unfold floatBits
  cases op <;> simp [Ieee.Format.add, Ieee.Format.sub, Ieee.Format.mul, Ieee.Format.div, e', sum_nan_l, product_nan_l, quotient_nan_l]
theorem floatBits_nan_r {op : BinOp} {k : FloatKind} {x y : Nat} (h : nanB k y = true) : floatBits op k x y = none := by
  obtain ⟨s, t, e⟩ := nan_form h
  have e' : k.format.read y = .nan s t := e
  unfold floatBits
  cases op <;> simp [Ieee.Format.add, Ieee.Format.sub, Ieee.Format.mul, Ieee.Format.div, e', Ieee.Datum.opposite, sum_nan_r, product_nan_r, quotient_nan_r]

theorem floatBits_canon (op : BinOp) (k : FloatKind) (x y : Nat) : floatBits op k (canon k x) (canon k y) = floatBits op k x y := by
  cases hx : nanB k x with
  | true => rw [floatBits_nan_l hx, floatBits_nan_l (by rw [nanB_canon]; exact hx)]
  | false => cases hy : nanB k y with
    | true => rw [floatBits_nan_r hy, floatBits_nan_r (by rw [nanB_canon]; exact hy)]
    | false => rw [canon_not hx, canon_not hy]

theorem order_canon (k : FloatKind) (x y : Nat) : k.format.order (canon k x) (canon k y) = k.format.order x y := by
  have l : ∀ a b, nanB k a = true → k.format.order a b = none := fun a b h => by
    obtain ⟨s, t, e⟩ := nan_form h
    have e' : k.format.read a = .nan s t := e
    simp [Ieee.Format.order, e', order_nan_l]
  have r : ∀ a b, nanB k b = true → k.format.order a b = none := fun a b h => by
    obtain ⟨s, t, e⟩ := nan_form h
    have e' : k.format.read b = .nan s t := e
    simp [Ieee.Format.order, e', order_nan_r]
  cases hx : nanB k x with
  | true => rw [l _ _ hx, l _ _ (by rw [nanB_canon]; exact hx)]
  | false => cases hy : nanB k y with
    | true => rw [r _ _ hy, r _ _ (by rw [nanB_canon]; exact hy)]
    | false => rw [canon_not hx, canon_not hy]

/-! ### What is written is no not-a-number -/
theorem word_not_nan (k : FloatKind) (neg : Bool) (rung : Nat) (h : rung ≤ k.format.infRung) : nanB k (k.format.word neg rung) = false := by
  have hi := k.format.infRung_lt
  have hm : k.format.word neg rung % k.format.signWeight = rung := by
    unfold Ieee.Format.word
    split
    · rw [Nat.add_mod_left]; exact Nat.mod_eq_of_lt (by omega)
    · exact Nat.mod_eq_of_lt (by omega)
  unfold nanB FloatKind.decode Ieee.Format.read
  rw [hm]
  dsimp only
  split
  · rfl
  · split
    · rfl
    · split
      · rfl
      · omega
theorem nearest_not_nan (k : FloatKind) (neg : Bool) (mag : Nat) (place : Int) : nanB k (k.format.nearest neg mag place) = false := by
  unfold Ieee.Format.nearest
  dsimp only
  split
  · exact word_not_nan k neg 0 (Nat.zero_le _)
  · exact word_not_nan k neg _ (Nat.min_le_right ..)
theorem write_not_nan (k : FloatKind) (d : Ieee.Datum) (h : d.isNaN = false) : nanB k (k.format.write d) = false := by
  cases d with
  | number s m e => exact nearest_not_nan k s m e
  | infinity s => exact word_not_nan k s _ (Nat.le_refl _)
  | nan s t => simp [Ieee.Datum.isNaN] at h

theorem sum_not_nan {a b d : Ieee.Datum} (h : a.sum b = some d) : d.isNaN = false := by
  cases a <;> cases b <;> simp [Ieee.Datum.sum] at h
  · subst h; rfl
  · subst h; rfl
  · subst h; rfl
  · rw [← h.2]; rfl
theorem product_not_nan {a b d : Ieee.Datum} (h : a.product b = some d) : d.isNaN = false := by
  cases a <;> cases b <;> simp [Ieee.Datum.product] at h
  · subst h; rfl
  · rw [← h.2]; rfl
  · rw [← h.2]; rfl
  · subst h; rfl
theorem quotient_not_nan {n : Nat} {a b d : Ieee.Datum} (h : a.quotient n b = some d) : d.isNaN = false := by
  cases a <;> cases b <;> simp only [Ieee.Datum.quotient] at h
  · split at h
    · split at h
      · cases h
      · cases h; rfl
    · cases h; rfl
  all_goals first | (cases h; rfl) | (cases h; done)

theorem floatBits_not_nan {op : BinOp} {k : FloatKind} {x y r : Nat} (h : floatBits op k x y = some r) : nanB k r = false := by
  unfold floatBits at h
  split at h
  · simp only [Ieee.Format.add, Option.map_eq_some_iff] at h; obtain ⟨d, h1, rfl⟩ := h; exact write_not_nan k d (sum_not_nan h1)
  · simp only [Ieee.Format.sub, Option.map_eq_some_iff] at h; obtain ⟨d, h1, rfl⟩ := h; exact write_not_nan k d (sum_not_nan h1)
  · simp only [Ieee.Format.mul, Option.map_eq_some_iff] at h; obtain ⟨d, h1, rfl⟩ := h; exact write_not_nan k d (product_not_nan h1)
  · simp only [Ieee.Format.div, Option.map_eq_some_iff] at h; obtain ⟨d, h1, rfl⟩ := h; exact write_not_nan k d (quotient_not_nan h1)
  · cases h

theorem floatToFloatBits_not_nan {s k : FloatKind} {b r : Nat} (hb : nanB s b = false) (h : floatToFloatBits s b k = some r) : nanB k r = false := by
  unfold floatToFloatBits at h
  split at h
  · rename_i e; cases h; subst e; exact hb
  · split at h
    · cases h
    · cases h; exact write_not_nan k _ rfl
    · split at h
      · cases h
      · cases h; exact write_not_nan k _ rfl

/-! ### The abstract operations -/
/-- '+', '-', '*', '/': the word of a not-a-number where there is no answer. -/
def fbin (op : BinOp) (k : FloatKind) (x y : Nat) : Nat := (floatBits op k x y).getD (nanOf k)
def fneg (k : FloatKind) (x : Nat) : Nat := if nanB k x then nanOf k else Op.negFloat k x
def fcmp (op : BinOp) (k : FloatKind) (x y : Nat) : Bool :=
  match op with
  | .eql => k.format.order x y == some .eq
  | .neq => k.format.order x y != some .eq
  | .lss => k.format.order x y == some .lt
  | .leq => k.format.order x y == some .lt || k.format.order x y == some .eq
  | .gtr => k.format.order x y == some .gt
  | _ => k.format.order x y == some .gt || k.format.order x y == some .eq
def fmax (k : FloatKind) (x y : Nat) : Nat :=
  match k.format.order x y with
  | none => nanOf k
  | some .lt => y
  | some .gt => x
  | some .eq => if (k.decode x).neg then y else x
def fmin (k : FloatKind) (x y : Nat) : Nat :=
  match k.format.order x y with
  | none => nanOf k
  | some .lt => x
  | some .gt => y
  | some .eq => if (k.decode x).neg then x else y
/-- A float of one kind as one of the other; 'none' where the number is too great. -/
def fconv (s : FloatKind) (x : Nat) (k : FloatKind) : Option Nat :=
  if s = k then some x else if nanB s x then some (nanOf k) else floatToFloatBits s x k

theorem canon_fbin (op : BinOp) (k : FloatKind) (x y : Nat) : canon k (fbin op k x y) = fbin op k x y := by
  unfold fbin
  cases h : floatBits op k x y with
  | none => exact canon_nanOf k
  | some r => exact canon_not (floatBits_not_nan h)

theorem negFloat_nan (k : FloatKind) (x : Nat) : nanB k (Op.negFloat k x) = nanB k x := by
  have hm : Op.negFloat k x % k.format.signWeight = x % k.format.signWeight := by
    unfold Op.negFloat Ieee.Format.signWeight
    rw [Nat.xor_mod_two_pow, Nat.mod_self, Nat.xor_zero]
  unfold nanB FloatKind.decode Ieee.Format.read
  rw [hm]
  dsimp only
  split
  · rfl
  · split
    · rfl
    · split <;> rfl
theorem canon_negFloat (k : FloatKind) (x : Nat) : canon k (Op.negFloat k x) = fneg k (canon k x) := by
  unfold fneg
  rw [nanB_canon]
  cases h : nanB k x with
  | true => rw [canon_nan (by rw [negFloat_nan]; exact h)]; rfl
  | false => rw [canon_not (by rw [negFloat_nan]; exact h), canon_not h]; rfl

theorem fcmp_canon (op : BinOp) (k : FloatKind) (x y : Nat) : fcmp op k (canon k x) (canon k y) = fcmp op k x y := by
  unfold fcmp; rw [order_canon]

theorem order_some {k : FloatKind} {x y : Nat} {o : Ordering} (h : k.format.order x y = some o) : nanB k x = false ∧ nanB k y = false := by
  constructor
  · cases e : nanB k x with
    | false => rfl
    | true =>
      obtain ⟨s, t, e⟩ := nan_form e
      have e' : k.format.read x = .nan s t := e
      simp [Ieee.Format.order, e', order_nan_l] at h
  · cases e : nanB k y with
    | false => rfl
    | true =>
      obtain ⟨s, t, e⟩ := nan_form e
      have e' : k.format.read y = .nan s t := e
      simp [Ieee.Format.order, e', order_nan_r] at h

/-- What the tape may answer where a not-a-number is made. -/
theorem nan_answer (k : FloatKind) (t : Nat) : nanB k (match k with
    | .f32 => (t % 2) * 2 ^ 31 + 0x7f800000 + 1 + (t / 2) % (2 ^ 23 - 1)
    | .f64 => (t % 2) * 2 ^ 63 + 0x7ff0000000000000 + 1 + (t / 2) % (2 ^ 52 - 1)) = true := by
  cases k
  · dsimp only
    have h1 : t / 2 % (2 ^ 23 - 1) < 2 ^ 23 - 1 := Nat.mod_lt _ (by decide)
    have hm : ((t % 2) * 2 ^ 31 + 0x7f800000 + 1 + (t / 2) % (2 ^ 23 - 1)) % 2 ^ 31 = 0x7f800000 + 1 + (t / 2) % (2 ^ 23 - 1) := by omega
    unfold nanB FloatKind.decode FloatKind.format Ieee.Format.read
    have e : Ieee.single.signWeight = 2 ^ 31 := by decide
    have e1 : Ieee.single.binade = 2 ^ 23 := by decide
    have e2 : Ieee.single.infRung = 0x7f800000 := by decide
    simp only [e, e1, e2, hm]
    rw [if_neg (by omega), if_neg (by omega), if_neg (by omega)]; rfl
  · dsimp only
    have h1 : t / 2 % (2 ^ 52 - 1) < 2 ^ 52 - 1 := Nat.mod_lt _ (by decide)
    have hm : ((t % 2) * 2 ^ 63 + 0x7ff0000000000000 + 1 + (t / 2) % (2 ^ 52 - 1)) % 2 ^ 63 = 0x7ff0000000000000 + 1 + (t / 2) % (2 ^ 52 - 1) := by omega
    unfold nanB FloatKind.decode FloatKind.format Ieee.Format.read
    have e : Ieee.double.signWeight = 2 ^ 63 := by decide
    have e1 : Ieee.double.binade = 2 ^ 52 := by decide
    have e2 : Ieee.double.infRung = 0x7ff0000000000000 := by decide
    simp only [e, e1, e2, hm]
    rw [if_neg (by omega), if_neg (by omega), if_neg (by omega)]; rfl

section
variable {P : Program} (w : World)

theorem run_nanBits (k : FloatKind) (x y : Nat) : ∃ r, (choose (.nanBits k x y)).run P w = .ok r { w with drawn := w.drawn + 1 } ∧ nanB k r = true := by
  refine ⟨_, by simp only [run_choose, Question.forced]; rfl, ?_⟩
  have := nan_answer k (w.tape w.drawn (.nanBits k x y))
  cases k <;> exact this
theorem run_nanConv (k : FloatKind) (x : Nat) : ∃ r, (choose (.nanConv k x)).run P w = .ok r { w with drawn := w.drawn + 1 } ∧ nanB k r = true := by
  refine ⟨_, by simp only [run_choose, Question.forced]; rfl, ?_⟩
  have := nan_answer k (w.tape w.drawn (.nanConv k x))
  cases k <;> exact this
theorem run_nanMinMax (k : FloatKind) (m : Bool) (x y : Nat) : ∃ r, (choose (.nanMinMax k m x y)).run P w = .ok r { w with drawn := w.drawn + 1 } ∧ nanB k r = true := by
  refine ⟨_, by simp only [run_choose, Question.forced]; rfl, ?_⟩
  have := nan_answer k (w.tape w.drawn (.nanMinMax k m x y))
  cases k <;> exact this

/-- The float operations in the model: the answer's one word is the abstract operation's. -/
theorem run_fbin (op : BinOp) (t : TypeId) (k : FloatKind) (x y : Nat) (hop : op = .add ∨ op = .sub ∨ op = .mul ∨ op = .quo) :
    ∃ r n, (binOp op t (.float k x) (.float k y)).run P w = .ok (.float k r) { w with drawn := n } ∧ canon k r = fbin op k (canon k x) (canon k y) := by
  unfold fbin
  rw [floatBits_canon]
  cases h : floatBits op k x y with
  | some r =>
    exact ⟨r, w.drawn, by rw [run_float_arith w op t k x y r h], canon_not (floatBits_not_nan h)⟩
  | none =>
    obtain ⟨r, hr, hn⟩ := run_nanBits (P := P) w k x y
    refine ⟨r, w.drawn + 1, ?_, canon_nan hn⟩
    unfold floatBits at h
    rcases hop with rfl | rfl | rfl | rfl <;> simp only at h <;> simp only [binOp, Op.floatArith, ne_eq, not_true, if_false, h, Sem.run_bind, Sem.run_pure, Result.andThen_ok, hr]

theorem run_max2 (k : FloatKind) (x y : Nat) : ∃ r n, (Builtin.max2 (.float k x) (.float k y)).run P w = .ok (.float k r) { w with drawn := n } ∧ canon k r = fmax k (canon k x) (canon k y) := by
  unfold fmax
  rw [order_canon]
  cases h : k.format.order x y with
  | none =>
    obtain ⟨r, hr, hn⟩ := run_nanMinMax (P := P) w k true x y
    exact ⟨r, w.drawn + 1, by simp only [Builtin.max2, h, Sem.run_bind, hr, Result.andThen_ok, Sem.run_pure], canon_nan hn⟩
  | some o =>
    have hn := order_some h
    cases o with
    | lt => exact ⟨y, w.drawn, by simp only [Builtin.max2, h]; rfl, rfl⟩
    | gt => exact ⟨x, w.drawn, by simp only [Builtin.max2, h]; rfl, rfl⟩
    | eq =>
      refine ⟨if (k.decode x).neg then y else x, w.drawn, by simp only [Builtin.max2, h]; rfl, ?_⟩
      rw [canon_not hn.1]
      dsimp only
      split
      · rfl
      · rw [canon_not hn.1]
theorem run_min2 (k : FloatKind) (x y : Nat) : ∃ r n, (Builtin.min2 (.float k x) (.float k y)).run P w = .ok (.float k r) { w with drawn := n } ∧ canon k r = fmin k (canon k x) (canon k y) := by
  unfold fmin
  rw [order_canon]
  cases h : k.format.order x y with
  | none =>
    obtain ⟨r, hr, hn⟩ := run_nanMinMax (P := P) w k false x y
    exact ⟨r, w.drawn + 1, by simp only [Builtin.min2, h, Sem.run_bind, hr, Result.andThen_ok, Sem.run_pure], canon_nan hn⟩
  | some o =>
    have hn := order_some h
    cases o with
    | lt => exact ⟨x, w.drawn, by simp only [Builtin.min2, h]; rfl, rfl⟩
    | gt => exact ⟨y, w.drawn, by simp only [Builtin.min2, h]; rfl, rfl⟩
    | eq =>
      refine ⟨if (k.decode x).neg then x else y, w.drawn, by simp only [Builtin.min2, h]; rfl, ?_⟩
      rw [canon_not hn.1]
      dsimp only
      split
      · rw [canon_not hn.1]
      · rfl

theorem run_fconv {s d : TypeId} {q k : FloatKind} {x r : Nat} (hs : (P.underlying s).isSome = true) (hd : P.underlying d = some (.float k)) (h : fconv q (canon q x) k = some r) :
    ∃ r' n, (convert s d (.float q x)).run P w = .ok (.float k r') { w with drawn := n } ∧ canon k r' = canon k r := by
  obtain ⟨u, hs'⟩ := Option.isSome_iff_exists.1 hs
  unfold fconv at h
  split at h
  · rename_i e; subst e; cases h
    refine ⟨x, w.drawn, ?_, (canon_canon q x).symm⟩
    exact run_convert_float_float (P := P) w s d q q x x hs hd (by simp [floatToFloatBits])
  · rename_i e
    rw [nanB_canon] at h
    split at h
    · rename_i hn; cases h
      obtain ⟨sg, t, hx⟩ := nan_form hn
      obtain ⟨r', hr, hn'⟩ := run_nanConv (P := P) w k x
      refine ⟨r', w.drawn + 1, ?_, by rw [canon_nan hn', canon_nanOf]⟩
      have hc : (convert s d (.float q x)).run P w = (Conv.floatToFloat q x k).run P w := by
        cases u <;> simp only [convert, Sem.run_bind, run_underlying hs', run_underlying hd, Result.andThen_ok]
      rw [hc]; simp only [Conv.floatToFloat, if_neg e, hx, Sem.run_bind, hr, Result.andThen_ok, Sem.run_pure]
    · rename_i hn
      rw [canon_not (by simpa using hn)] at h
      exact ⟨r, w.drawn, run_convert_float_float (P := P) w s d q k x r hs hd h, rfl⟩
end

theorem floatToIntVal_canon {s : FloatKind} {x : Nat} {k : IntKind} {n : Int} (h : floatToIntVal s (canon s x) k = some n) : floatToIntVal s x k = some n := by
  cases e : nanB s x with
  | false => rwa [canon_not e] at h
  | true =>
    obtain ⟨sg, t, hx⟩ := nan_form (by rw [nanB_canon]; exact e : nanB s (canon s x) = true)
    simp [floatToIntVal, hx, Ieee.Datum.toInt, Ieee.Datum.integral] at h

end Go.Proofs.Ytnhhdgopgecggaa.Abs
