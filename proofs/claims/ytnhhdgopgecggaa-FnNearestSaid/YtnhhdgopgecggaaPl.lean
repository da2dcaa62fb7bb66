/- Very long arguments: the law says yes at once. No condition. -/
import Derived.Test.YtnhhdgopgecggaaFl
set_option linter.unusedVariables false
set_option linter.unusedSimpArgs false
set_option maxRecDepth 100000
namespace Go.Proofs.Ytnhhdgopgecggaa.Abs
open Go

def gLongL (args : List Value) (H : AHeap) : Option (Value × AHeap) :=
  match args with
  | [.slice a n c, .slice a' n' c'] => some (.bool (decide (1048576 < n) || decide (1048576 < n')), H)
  | _ => none
theorem gLongL_eq (a a' : Option Addr) (n c n' c' : Nat) (H : AHeap) : gLongL [.slice a n c, .slice a' n' c'] H = some (.bool (decide (1048576 < n) || decide (1048576 < n')), H) := rfl
theorem snd7L {G : Env} (hG : SoundEnv [] Try.prog G) : Sound [] Try.prog 7 gLongL := by
  refine sound_of (rs := [.tmp 4]) (n := 13) hG mix Try.func7 rfl rfl rfl (by kernel_rfl) (by decide +kernel) (by decide +kernel) ?_
  intro args H r H' h
  unfold gLongL at h
  split at h
  case h_2 => cases h
  rename_i a n c a' n' c'
  cases h
  have e1 : decide ((1048576 : Int) < n) = decide (1048576 < n) := by rw [decide_eq_decide]; omega
  have e2 : decide ((1048576 : Int) < n') = decide (1048576 < n') := by rw [decide_eq_decide]; omega
  refine ⟨by simp, ?_⟩
  simp (maxSteps := 10000000) only [↓exA, exB, exC, exN, exD, exR, tys, ↓reduceIte, Nat.reduceLT, Nat.reduceEqDiff, Nat.reduceAdd, Nat.zero_add, Nat.add_zero, List.map_cons, List.map_nil, Option.map_some, Option.map_none, Option.bind_some, List.length_cons, List.length_nil, List.cons_append, List.nil_append, List.append_nil, List.getElem?_cons_zero, List.getElem?_cons_succ, List.set_cons_zero, List.set_cons_succ, Nat.reduceLeDiff, and_self, and_true, true_and, gval, List.take_zero, List.take_succ_cons, List.drop_zero, List.drop_succ_cons, List.all_cons, List.all_nil, Bool.and_self, Bool.not_true, Bool.not_false, beq_true, beq_false, decide_true, decide_false, eq_self, Nat.reducePow]
  refine condW_intro (fun c1 => ?_) (fun c1 => ?_) <;> (try simp only [Bool.not_eq_true', Bool.not_eq_eq_eq_not, Bool.not_true, Bool.not_false, beq_true, beq_false, beq_iff_eq, beq_eq_false_iff_ne, ne_eq, Bool.not_eq_false, Bool.not_eq_true, decide_eq_true_eq, decide_eq_false_iff_not, Bool.not_not] at c1)
  · simp (maxSteps := 10000000) only [↓exA, exB, exC, exN, exD, exR, tys, ↓reduceIte, Nat.reduceLT, Nat.reduceEqDiff, Nat.reduceAdd, Nat.zero_add, Nat.add_zero, List.map_cons, List.map_nil, Option.map_some, Option.map_none, Option.bind_some, List.length_cons, List.length_nil, List.cons_append, List.nil_append, List.append_nil, List.getElem?_cons_zero, List.getElem?_cons_succ, List.set_cons_zero, List.set_cons_succ, Nat.reduceLeDiff, and_self, and_true, true_and, gval, List.take_zero, List.take_succ_cons, List.drop_zero, List.drop_succ_cons, List.all_cons, List.all_nil, Bool.and_self, Bool.not_true, Bool.not_false, beq_true, beq_false, decide_true, decide_false, eq_self, Nat.reducePow, c1]
    rw [← e1, decide_eq_false c1, Bool.false_or, ← e2]
    exact fits_bare rfl
  · simp (maxSteps := 10000000) only [↓exA, exB, exC, exN, exD, exR, tys, ↓reduceIte, Nat.reduceLT, Nat.reduceEqDiff, Nat.reduceAdd, Nat.zero_add, Nat.add_zero, List.map_cons, List.map_nil, Option.map_some, Option.map_none, Option.bind_some, List.length_cons, List.length_nil, List.cons_append, List.nil_append, List.append_nil, List.getElem?_cons_zero, List.getElem?_cons_succ, List.set_cons_zero, List.set_cons_succ, Nat.reduceLeDiff, and_self, and_true, true_and, gval, List.take_zero, List.take_succ_cons, List.drop_zero, List.drop_succ_cons, List.all_cons, List.all_nil, Bool.and_self, Bool.not_true, Bool.not_false, beq_true, beq_false, decide_true, decide_false, eq_self, Nat.reducePow, c1]
    rw [← e1, decide_eq_true c1, Bool.true_or]
    exact fits_bare rfl
/-- A law of two lists of bytes, at lists one of which is too long. -/
def gLawL (args : List Value) (H : AHeap) : Option (Value × AHeap) :=
  match args with
  | [.slice a n c, .slice a' n' c'] => if (decide (1048576 < n) || decide (1048576 < n')) = true then some (.bool true, H) else none
  | _ => none
theorem snd3L {G : Env} (hG : SoundEnv [] Try.prog G) (h7 : G 7 = gLongL) : Sound [] Try.prog 3 gLawL := by
  refine sound_of (rs := [.tmp 4]) (n := 242) hG mix Try.func3 rfl rfl rfl (by kernel_rfl) (by decide +kernel) (by decide +kernel) ?_
  intro args H r H' h
  unfold gLawL at h
  split at h
  case h_2 => cases h
  rename_i a n c a' n' c'
  split at h
  case isFalse => cases h
  rename_i hl
  cases h
  refine ⟨by simp, ?_⟩
  simp (maxSteps := 10000000) only [↓exA, exB, exC, exN, exD, exR, tys, ↓reduceIte, Nat.reduceLT, Nat.reduceEqDiff, Nat.reduceAdd, Nat.zero_add, Nat.add_zero, List.map_cons, List.map_nil, Option.map_some, Option.map_none, Option.bind_some, List.length_cons, List.length_nil, List.cons_append, List.nil_append, List.append_nil, List.getElem?_cons_zero, List.getElem?_cons_succ, List.set_cons_zero, List.set_cons_succ, Nat.reduceLeDiff, and_self, and_true, true_and, gval, List.take_zero, List.take_succ_cons, List.drop_zero, List.drop_succ_cons, List.all_cons, List.all_nil, Bool.and_self, Bool.not_true, Bool.not_false, beq_true, beq_false, decide_true, decide_false, eq_self, Nat.reducePow, h7, gLongL_eq, hl]
  exact fits_bare rfl
theorem trends_long : Sound [] Try.prog 3 gLawL := snd3L (G := E0.put 7 gLongL) (Env.put_sound se0 (snd7L se0)) rfl

end Go.Proofs.Ytnhhdgopgecggaa.Abs
