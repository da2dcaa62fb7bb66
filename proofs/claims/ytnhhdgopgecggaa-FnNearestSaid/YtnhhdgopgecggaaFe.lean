/- What the functions on series, on lists of numbers and on the bytes from which is drawn answer. No condition. -/
import Derived.Test.YtnhhdgopgecggaaFd
set_option linter.unusedVariables false
set_option linter.unusedSimpArgs false
set_option maxRecDepth 100000
set_option maxHeartbeats 4000000
namespace Go.Proofs.Ytnhhdgopgecggaa.Abs
open Go

theorem allFin_cons (x : Nat) (l : List Nat) : allFin (x :: l) = (isFin x && allFin l) := rfl
theorem snd113 {G : Env} (hG : SoundEnv [] Try.prog G) (h68 : G 68 = gFin) : Sound [] Try.prog 113 (gList allFin) := by
  refine sound_of (rs := [.tmp 2]) (n := 16) hG mix Try.func113 rfl rfl rfl (by kernel_rfl) (by decide +kernel) (by decide +kernel) ?_
  intro args H r H' h
  unfold gList at h
  split at h
  case h_2 => cases h
  rename_i s
  simp only [Option.map_eq_some_iff] at h
  obtain ⟨xs, hs, h⟩ := h; cases h
  obtain ⟨a, n, c, row⟩ := rd_row hs
  cases row.eq
  have hl := row.len
  refine ⟨by simp, ?_⟩
  simp (maxSteps := 10000000) only [↓exA, exB, exC, exN, exD, exR, tys, ↓reduceIte, Nat.reduceLT, Nat.reduceEqDiff, Nat.reduceAdd, Nat.zero_add, Nat.add_zero, List.map_cons, List.map_nil, Option.map_some, Option.map_none, Option.bind_some, List.length_cons, List.length_nil, List.cons_append, List.nil_append, List.append_nil, List.getElem?_cons_zero, List.getElem?_cons_succ, List.set_cons_zero, List.set_cons_succ, Nat.reduceLeDiff, and_self, and_true, true_and, gval, List.take_zero, List.take_succ_cons, List.drop_zero, List.drop_succ_cons, List.all_cons, List.all_nil, Bool.and_self, Bool.not_true, Bool.not_false, beq_true, beq_false, decide_true, decide_false, eq_self, Nat.reducePow]
  refine X_loop (I := fun m t K => ∃ f i, t = mk 16 f ∧ K = hp H [] ∧ f 0 = .slice a n c ∧ f 3 = .int .i64 (i : Nat) ∧ i + m = n ∧ allFin xs = allFin (xs.drop i)) (m := n) ?_ ?_
  · rintro m t K ⟨f, i, rfl, rfl, h0, h3, hm, he⟩
    simp (maxSteps := 10000000) only [↓exA, exB, exC, exN, exD, exR, tys, ↓reduceIte, Nat.reduceLT, Nat.reduceEqDiff, Nat.reduceAdd, Nat.zero_add, Nat.add_zero, List.map_cons, List.map_nil, Option.map_some, Option.map_none, Option.bind_some, List.length_cons, List.length_nil, List.cons_append, List.nil_append, List.append_nil, List.getElem?_cons_zero, List.getElem?_cons_succ, List.set_cons_zero, List.set_cons_succ, Nat.reduceLeDiff, and_self, and_true, true_and, gval, List.take_zero, List.take_succ_cons, List.drop_zero, List.drop_succ_cons, List.all_cons, List.all_nil, Bool.and_self, Bool.not_true, Bool.not_false, beq_true, beq_false, decide_true, decide_false, eq_self, Nat.reducePow, h0, h3]
    refine condW_intro (fun c1 => ?_) (fun c1 => ?_) <;> (try simp only [Bool.not_eq_true', Bool.not_eq_eq_eq_not, Bool.not_true, Bool.not_false, beq_true, beq_false, beq_iff_eq, beq_eq_false_iff_ne, ne_eq, Bool.not_eq_false, Bool.not_eq_true, decide_eq_true_eq, decide_eq_false_iff_not, Bool.not_not] at c1)
    · have hi : i < xs.length := by omega
      obtain ⟨b, off, lk, cs, v, ha, hb, hv, hx⟩ := (row.hp []).get i xs[i] (List.getElem?_eq_getElem hi)
      have hv' := isF_eq hx; subst hv'; subst ha
      simp (maxSteps := 10000000) only [↓exA, exB, exC, exN, exD, exR, tys, ↓reduceIte, Nat.reduceLT, Nat.reduceEqDiff, Nat.reduceAdd, Nat.zero_add, Nat.add_zero, List.map_cons, List.map_nil, Option.map_some, Option.map_none, Option.bind_some, List.length_cons, List.length_nil, List.cons_append, List.nil_append, List.append_nil, List.getElem?_cons_zero, List.getElem?_cons_succ, List.set_cons_zero, List.set_cons_succ, Nat.reduceLeDiff, and_self, and_true, true_and, gval, List.take_zero, List.take_succ_cons, List.drop_zero, List.drop_succ_cons, List.all_cons, List.all_nil, Bool.and_self, Bool.not_true, Bool.not_false, beq_true, beq_false, decide_true, decide_false, eq_self, Nat.reducePow, h0, h3, c1, Int.natCast_nonneg, Int.toNat_natCast, hb, hv, h68, gFin_eq]
      rw [List.drop_eq_getElem_cons hi, allFin_cons] at he
      refine condW_intro (fun c2 => ?_) (fun c2 => ?_) <;> (try simp only [Bool.not_eq_true', Bool.not_eq_eq_eq_not, Bool.not_true, Bool.not_false, beq_true, beq_false, beq_iff_eq, beq_eq_false_iff_ne, ne_eq, Bool.not_eq_false, Bool.not_eq_true, decide_eq_true_eq, decide_eq_false_iff_not, Bool.not_not] at c2)
      · simp (maxSteps := 10000000) only [↓exA, exB, exC, exN, exD, exR, tys, ↓reduceIte, Nat.reduceLT, Nat.reduceEqDiff, Nat.reduceAdd, Nat.zero_add, Nat.add_zero, List.map_cons, List.map_nil, Option.map_some, Option.map_none, Option.bind_some, List.length_cons, List.length_nil, List.cons_append, List.nil_append, List.append_nil, List.getElem?_cons_zero, List.getElem?_cons_succ, List.set_cons_zero, List.set_cons_succ, Nat.reduceLeDiff, and_self, and_true, true_and, gval, List.take_zero, List.take_succ_cons, List.drop_zero, List.drop_succ_cons, List.all_cons, List.all_nil, Bool.and_self, Bool.not_true, Bool.not_false, beq_true, beq_false, decide_true, decide_false, eq_self, Nat.reducePow, c2]
        rw [he, c2]
        exact fits_bare rfl
      · simp (maxSteps := 10000000) only [↓exA, exB, exC, exN, exD, exR, tys, ↓reduceIte, Nat.reduceLT, Nat.reduceEqDiff, Nat.reduceAdd, Nat.zero_add, Nat.add_zero, List.map_cons, List.map_nil, Option.map_some, Option.map_none, Option.bind_some, List.length_cons, List.length_nil, List.cons_append, List.nil_append, List.append_nil, List.getElem?_cons_zero, List.getElem?_cons_succ, List.set_cons_zero, List.set_cons_succ, Nat.reduceLeDiff, and_self, and_true, true_and, gval, List.take_zero, List.take_succ_cons, List.drop_zero, List.drop_succ_cons, List.all_cons, List.all_nil, Bool.and_self, Bool.not_true, Bool.not_false, beq_true, beq_false, decide_true, decide_false, eq_self, Nat.reducePow, h3]
        refine ⟨m - 1, by omega, _, i + 1, rfl, rfl, ?_, ?_, by omega, ?_⟩
        · simp (maxSteps := 10000000) only [↓exA, exB, exC, exN, exD, exR, tys, ↓reduceIte, Nat.reduceLT, Nat.reduceEqDiff, Nat.reduceAdd, Nat.zero_add, Nat.add_zero, List.map_cons, List.map_nil, Option.map_some, Option.map_none, Option.bind_some, List.length_cons, List.length_nil, List.cons_append, List.nil_append, List.append_nil, List.getElem?_cons_zero, List.getElem?_cons_succ, List.set_cons_zero, List.set_cons_succ, Nat.reduceLeDiff, and_self, and_true, true_and, gval, List.take_zero, List.take_succ_cons, List.drop_zero, List.drop_succ_cons, List.all_cons, List.all_nil, Bool.and_self, Bool.not_true, Bool.not_false, beq_true, beq_false, decide_true, decide_false, eq_self, Nat.reducePow, h0]
        · simp (maxSteps := 10000000) only [↓exA, exB, exC, exN, exD, exR, tys, ↓reduceIte, Nat.reduceLT, Nat.reduceEqDiff, Nat.reduceAdd, Nat.zero_add, Nat.add_zero, List.map_cons, List.map_nil, Option.map_some, Option.map_none, Option.bind_some, List.length_cons, List.length_nil, List.cons_append, List.nil_append, List.append_nil, List.getElem?_cons_zero, List.getElem?_cons_succ, List.set_cons_zero, List.set_cons_succ, Nat.reduceLeDiff, and_self, and_true, true_and, gval, List.take_zero, List.take_succ_cons, List.drop_zero, List.drop_succ_cons, List.all_cons, List.all_nil, Bool.and_self, Bool.not_true, Bool.not_false, beq_true, beq_false, decide_true, decide_false, eq_self, Nat.reducePow]
          rw [wrap_i64 (by omega) (by have := row.small; omega)]; simp
        · rw [he, c2]; rfl
    · simp (maxSteps := 10000000) only [↓exA, exB, exC, exN, exD, exR, tys, ↓reduceIte, Nat.reduceLT, Nat.reduceEqDiff, Nat.reduceAdd, Nat.zero_add, Nat.add_zero, List.map_cons, List.map_nil, Option.map_some, Option.map_none, Option.bind_some, List.length_cons, List.length_nil, List.cons_append, List.nil_append, List.append_nil, List.getElem?_cons_zero, List.getElem?_cons_succ, List.set_cons_zero, List.set_cons_succ, Nat.reduceLeDiff, and_self, and_true, true_and, gval, List.take_zero, List.take_succ_cons, List.drop_zero, List.drop_succ_cons, List.all_cons, List.all_nil, Bool.and_self, Bool.not_true, Bool.not_false, beq_true, beq_false, decide_true, decide_false, eq_self, Nat.reducePow]
      have hn : xs.drop i = [] := by rw [List.drop_eq_nil_iff]; omega
      rw [he, hn]
      exact fits_bare rfl
  · refine ⟨_, 0, rfl, rfl, ?_, ?_, by omega, rfl⟩
    all_goals simp (maxSteps := 10000000) only [↓exA, exB, exC, exN, exD, exR, tys, ↓reduceIte, Nat.reduceLT, Nat.reduceEqDiff, Nat.reduceAdd, Nat.zero_add, Nat.add_zero, List.map_cons, List.map_nil, Option.map_some, Option.map_none, Option.bind_some, List.length_cons, List.length_nil, List.cons_append, List.nil_append, List.append_nil, List.getElem?_cons_zero, List.getElem?_cons_succ, List.set_cons_zero, List.set_cons_succ, Nat.reduceLeDiff, and_self, and_true, true_and, gval, List.take_zero, List.take_succ_cons, List.drop_zero, List.drop_succ_cons, List.all_cons, List.all_nil, Bool.and_self, Bool.not_true, Bool.not_false, beq_true, beq_false, decide_true, decide_false, eq_self, Nat.reducePow]
    rfl

def series (xs : List Nat) : Bool := decide (1 ≤ xs.length) && (decide (xs.length ≤ 96) && allFin xs)
theorem snd78 {G : Env} (hG : SoundEnv [] Try.prog G) (h113 : G 113 = gList allFin) : Sound [] Try.prog 78 (gList series) := by
  refine sound_of (rs := [.tmp 2]) (n := 15) hG mix Try.func78 rfl rfl rfl (by kernel_rfl) (by decide +kernel) (by decide +kernel) ?_
  intro args H r H' h
  unfold gList at h
  split at h
  case h_2 => cases h
  rename_i s
  simp only [Option.map_eq_some_iff] at h
  obtain ⟨xs, hs, h⟩ := h; cases h
  obtain ⟨a, n, c, row⟩ := rd_row hs
  cases row.eq
  have hl := row.len
  refine ⟨by simp, ?_⟩
  simp (maxSteps := 10000000) only [↓exA, exB, exC, exN, exD, exR, tys, ↓reduceIte, Nat.reduceLT, Nat.reduceEqDiff, Nat.reduceAdd, Nat.zero_add, Nat.add_zero, List.map_cons, List.map_nil, Option.map_some, Option.map_none, Option.bind_some, List.length_cons, List.length_nil, List.cons_append, List.nil_append, List.append_nil, List.getElem?_cons_zero, List.getElem?_cons_succ, List.set_cons_zero, List.set_cons_succ, Nat.reduceLeDiff, and_self, and_true, true_and, gval, List.take_zero, List.take_succ_cons, List.drop_zero, List.drop_succ_cons, List.all_cons, List.all_nil, Bool.and_self, Bool.not_true, Bool.not_false, beq_true, beq_false, decide_true, decide_false, eq_self, Nat.reducePow]
  refine condW_intro (fun c1 => ?_) (fun c1 => ?_) <;> (try simp only [Bool.not_eq_true', Bool.not_eq_eq_eq_not, Bool.not_true, Bool.not_false, beq_true, beq_false, beq_iff_eq, beq_eq_false_iff_ne, ne_eq, Bool.not_eq_false, Bool.not_eq_true, decide_eq_true_eq, decide_eq_false_iff_not, Bool.not_not] at c1)
  · simp (maxSteps := 10000000) only [↓exA, exB, exC, exN, exD, exR, tys, ↓reduceIte, Nat.reduceLT, Nat.reduceEqDiff, Nat.reduceAdd, Nat.zero_add, Nat.add_zero, List.map_cons, List.map_nil, Option.map_some, Option.map_none, Option.bind_some, List.length_cons, List.length_nil, List.cons_append, List.nil_append, List.append_nil, List.getElem?_cons_zero, List.getElem?_cons_succ, List.set_cons_zero, List.set_cons_succ, Nat.reduceLeDiff, and_self, and_true, true_and, gval, List.take_zero, List.take_succ_cons, List.drop_zero, List.drop_succ_cons, List.all_cons, List.all_nil, Bool.and_self, Bool.not_true, Bool.not_false, beq_true, beq_false, decide_true, decide_false, eq_self, Nat.reducePow, c1]
    refine condW_intro (fun c2 => ?_) (fun c2 => ?_) <;> (try simp only [Bool.not_eq_true', Bool.not_eq_eq_eq_not, Bool.not_true, Bool.not_false, beq_true, beq_false, beq_iff_eq, beq_eq_false_iff_ne, ne_eq, Bool.not_eq_false, Bool.not_eq_true, decide_eq_true_eq, decide_eq_false_iff_not, Bool.not_not] at c2)
    · simp (maxSteps := 10000000) only [↓exA, exB, exC, exN, exD, exR, tys, ↓reduceIte, Nat.reduceLT, Nat.reduceEqDiff, Nat.reduceAdd, Nat.zero_add, Nat.add_zero, List.map_cons, List.map_nil, Option.map_some, Option.map_none, Option.bind_some, List.length_cons, List.length_nil, List.cons_append, List.nil_append, List.append_nil, List.getElem?_cons_zero, List.getElem?_cons_succ, List.set_cons_zero, List.set_cons_succ, Nat.reduceLeDiff, and_self, and_true, true_and, gval, List.take_zero, List.take_succ_cons, List.drop_zero, List.drop_succ_cons, List.all_cons, List.all_nil, Bool.and_self, Bool.not_true, Bool.not_false, beq_true, beq_false, decide_true, decide_false, eq_self, Nat.reducePow, c1, c2, h113, gList_eq, rd_hp hs []]
      have : series xs = allFin xs := by
        have h1 : 1 ≤ xs.length := by omega
        have h2 : xs.length ≤ 96 := by omega
        simp [series, h1, h2]
      rw [this]
      exact fits_bare rfl
    · simp (maxSteps := 10000000) only [↓exA, exB, exC, exN, exD, exR, tys, ↓reduceIte, Nat.reduceLT, Nat.reduceEqDiff, Nat.reduceAdd, Nat.zero_add, Nat.add_zero, List.map_cons, List.map_nil, Option.map_some, Option.map_none, Option.bind_some, List.length_cons, List.length_nil, List.cons_append, List.nil_append, List.append_nil, List.getElem?_cons_zero, List.getElem?_cons_succ, List.set_cons_zero, List.set_cons_succ, Nat.reduceLeDiff, and_self, and_true, true_and, gval, List.take_zero, List.take_succ_cons, List.drop_zero, List.drop_succ_cons, List.all_cons, List.all_nil, Bool.and_self, Bool.not_true, Bool.not_false, beq_true, beq_false, decide_true, decide_false, eq_self, Nat.reducePow, c1, c2]
      have : series xs = false := by
        have h2 : ¬ xs.length ≤ 96 := by omega
        simp [series, h2]
      rw [this]
      exact fits_bare rfl
  · simp (maxSteps := 10000000) only [↓exA, exB, exC, exN, exD, exR, tys, ↓reduceIte, Nat.reduceLT, Nat.reduceEqDiff, Nat.reduceAdd, Nat.zero_add, Nat.add_zero, List.map_cons, List.map_nil, Option.map_some, Option.map_none, Option.bind_some, List.length_cons, List.length_nil, List.cons_append, List.nil_append, List.append_nil, List.getElem?_cons_zero, List.getElem?_cons_succ, List.set_cons_zero, List.set_cons_succ, Nat.reduceLeDiff, and_self, and_true, true_and, gval, List.take_zero, List.take_succ_cons, List.drop_zero, List.drop_succ_cons, List.all_cons, List.all_nil, Bool.and_self, Bool.not_true, Bool.not_false, beq_true, beq_false, decide_true, decide_false, eq_self, Nat.reducePow, c1]
    have : series xs = false := by
      have h2 : ¬ 1 ≤ xs.length := by omega
      simp only [series, h2, decide_false, Bool.false_and]
    rw [this]
    exact fits_bare rfl
theorem snd57 {G : Env} (hG : SoundEnv [] Try.prog G) (h60 : G 60 = gList allFin) : Sound [] Try.prog 57 (gList series) := by
  refine sound_of (rs := [.tmp 2]) (n := 15) hG mix Try.func57 rfl rfl rfl (by kernel_rfl) (by decide +kernel) (by decide +kernel) ?_
  intro args H r H' h
  unfold gList at h
  split at h
  case h_2 => cases h
  rename_i s
  simp only [Option.map_eq_some_iff] at h
  obtain ⟨xs, hs, h⟩ := h; cases h
  obtain ⟨a, n, c, row⟩ := rd_row hs
  cases row.eq
  have hl := row.len
  refine ⟨by simp, ?_⟩
  simp (maxSteps := 10000000) only [↓exA, exB, exC, exN, exD, exR, tys, ↓reduceIte, Nat.reduceLT, Nat.reduceEqDiff, Nat.reduceAdd, Nat.zero_add, Nat.add_zero, List.map_cons, List.map_nil, Option.map_some, Option.map_none, Option.bind_some, List.length_cons, List.length_nil, List.cons_append, List.nil_append, List.append_nil, List.getElem?_cons_zero, List.getElem?_cons_succ, List.set_cons_zero, List.set_cons_succ, Nat.reduceLeDiff, and_self, and_true, true_and, gval, List.take_zero, List.take_succ_cons, List.drop_zero, List.drop_succ_cons, List.all_cons, List.all_nil, Bool.and_self, Bool.not_true, Bool.not_false, beq_true, beq_false, decide_true, decide_false, eq_self, Nat.reducePow]
  refine condW_intro (fun c1 => ?_) (fun c1 => ?_) <;> (try simp only [Bool.not_eq_true', Bool.not_eq_eq_eq_not, Bool.not_true, Bool.not_false, beq_true, beq_false, beq_iff_eq, beq_eq_false_iff_ne, ne_eq, Bool.not_eq_false, Bool.not_eq_true, decide_eq_true_eq, decide_eq_false_iff_not, Bool.not_not] at c1)
  · simp (maxSteps := 10000000) only [↓exA, exB, exC, exN, exD, exR, tys, ↓reduceIte, Nat.reduceLT, Nat.reduceEqDiff, Nat.reduceAdd, Nat.zero_add, Nat.add_zero, List.map_cons, List.map_nil, Option.map_some, Option.map_none, Option.bind_some, List.length_cons, List.length_nil, List.cons_append, List.nil_append, List.append_nil, List.getElem?_cons_zero, List.getElem?_cons_succ, List.set_cons_zero, List.set_cons_succ, Nat.reduceLeDiff, and_self, and_true, true_and, gval, List.take_zero, List.take_succ_cons, List.drop_zero, List.drop_succ_cons, List.all_cons, List.all_nil, Bool.and_self, Bool.not_true, Bool.not_false, beq_true, beq_false, decide_true, decide_false, eq_self, Nat.reducePow, c1]
    refine condW_intro (fun c2 => ?_) (fun c2 => ?_) <;> (try simp only [Bool.not_eq_true', Bool.not_eq_eq_eq_not, Bool.not_true, Bool.not_false, beq_true, beq_false, beq_iff_eq, beq_eq_false_iff_ne, ne_eq, Bool.not_eq_false, Bool.not_eq_true, decide_eq_true_eq, decide_eq_false_iff_not, Bool.not_not] at c2)
    · simp (maxSteps := 10000000) only [↓exA, exB, exC, exN, exD, exR, tys, ↓reduceIte, Nat.reduceLT, Nat.reduceEqDiff, Nat.reduceAdd, Nat.zero_add, Nat.add_zero, List.map_cons, List.map_nil, Option.map_some, Option.map_none, Option.bind_some, List.length_cons, List.length_nil, List.cons_append, List.nil_append, List.append_nil, List.getElem?_cons_zero, List.getElem?_cons_succ, List.set_cons_zero, List.set_cons_succ, Nat.reduceLeDiff, and_self, and_true, true_and, gval, List.take_zero, List.take_succ_cons, List.drop_zero, List.drop_succ_cons, List.all_cons, List.all_nil, Bool.and_self, Bool.not_true, Bool.not_false, beq_true, beq_false, decide_true, decide_false, eq_self, Nat.reducePow, c1, c2, h60, gList_eq, rd_hp hs []]
      have : series xs = allFin xs := by
        have h1 : 1 ≤ xs.length := by omega
        have h2 : xs.length ≤ 96 := by omega
        simp [series, h1, h2]
      rw [this]
      exact fits_bare rfl
    · simp (maxSteps := 10000000) only [↓exA, exB, exC, exN, exD, exR, tys, ↓reduceIte, Nat.reduceLT, Nat.reduceEqDiff, Nat.reduceAdd, Nat.zero_add, Nat.add_zero, List.map_cons, List.map_nil, Option.map_some, Option.map_none, Option.bind_some, List.length_cons, List.length_nil, List.cons_append, List.nil_append, List.append_nil, List.getElem?_cons_zero, List.getElem?_cons_succ, List.set_cons_zero, List.set_cons_succ, Nat.reduceLeDiff, and_self, and_true, true_and, gval, List.take_zero, List.take_succ_cons, List.drop_zero, List.drop_succ_cons, List.all_cons, List.all_nil, Bool.and_self, Bool.not_true, Bool.not_false, beq_true, beq_false, decide_true, decide_false, eq_self, Nat.reducePow, c1, c2]
      have : series xs = false := by
        have h2 : ¬ xs.length ≤ 96 := by omega
        simp [series, h2]
      rw [this]
      exact fits_bare rfl
  · simp (maxSteps := 10000000) only [↓exA, exB, exC, exN, exD, exR, tys, ↓reduceIte, Nat.reduceLT, Nat.reduceEqDiff, Nat.reduceAdd, Nat.zero_add, Nat.add_zero, List.map_cons, List.map_nil, Option.map_some, Option.map_none, Option.bind_some, List.length_cons, List.length_nil, List.cons_append, List.nil_append, List.append_nil, List.getElem?_cons_zero, List.getElem?_cons_succ, List.set_cons_zero, List.set_cons_succ, Nat.reduceLeDiff, and_self, and_true, true_and, gval, List.take_zero, List.take_succ_cons, List.drop_zero, List.drop_succ_cons, List.all_cons, List.all_nil, Bool.and_self, Bool.not_true, Bool.not_false, beq_true, beq_false, decide_true, decide_false, eq_self, Nat.reducePow, c1]
    have : series xs = false := by
      have h2 : ¬ 1 ≤ xs.length := by omega
      simp only [series, h2, decide_false, Bool.false_and]
    rw [this]
    exact fits_bare rfl

def gSeen (args : List Value) (H : AHeap) : Option (Value × AHeap) :=
  match args with
  | [s, s'] => match rd isF s H, rd isB s' H with
    | some xs, some ys => some (.bool (series xs && decide (ys.length = xs.length)), H)
    | _, _ => none
  | _ => none
theorem gSeen_eq {s s' : Value} {H : AHeap} {xs : List Nat} {ys : List Bool} (hs : rd isF s H = some xs) (hs' : rd isB s' H = some ys) : gSeen [s, s'] H = some (.bool (series xs && decide (ys.length = xs.length)), H) := by
  show (match rd isF s H, rd isB s' H with
    | some xs, some ys => some (Value.bool (series xs && decide (ys.length = xs.length)), H)
    | _, _ => none) = _
  rw [hs, hs']
theorem snd59 {G : Env} (hG : SoundEnv [] Try.prog G) (h78 : G 78 = gList series) : Sound [] Try.prog 59 gSeen := by
  refine sound_of (rs := [.tmp 4]) (n := 14) hG mix Try.func59 rfl rfl rfl (by kernel_rfl) (by decide +kernel) (by decide +kernel) ?_
  intro args H r H' h
  unfold gSeen at h
  split at h
  case h_2 => cases h
  rename_i s s'
  split at h
  case h_2 => cases h
  rename_i xs ys hs hs'
  cases h
  obtain ⟨a, n, c, row⟩ := rd_row hs
  cases row.eq
  obtain ⟨a', n', c', row'⟩ := rd_row hs'
  cases row'.eq
  have hl := row.len
  have hl' := row'.len
  refine ⟨by simp, ?_⟩
  simp (maxSteps := 10000000) only [↓exA, exB, exC, exN, exD, exR, tys, ↓reduceIte, Nat.reduceLT, Nat.reduceEqDiff, Nat.reduceAdd, Nat.zero_add, Nat.add_zero, List.map_cons, List.map_nil, Option.map_some, Option.map_none, Option.bind_some, List.length_cons, List.length_nil, List.cons_append, List.nil_append, List.append_nil, List.getElem?_cons_zero, List.getElem?_cons_succ, List.set_cons_zero, List.set_cons_succ, Nat.reduceLeDiff, and_self, and_true, true_and, gval, List.take_zero, List.take_succ_cons, List.drop_zero, List.drop_succ_cons, List.all_cons, List.all_nil, Bool.and_self, Bool.not_true, Bool.not_false, beq_true, beq_false, decide_true, decide_false, eq_self, Nat.reducePow, h78, gList_eq, rd_hp hs []]
  refine condW_intro (fun c1 => ?_) (fun c1 => ?_) <;> (try simp only [Bool.not_eq_true', Bool.not_eq_eq_eq_not, Bool.not_true, Bool.not_false, beq_true, beq_false, beq_iff_eq, beq_eq_false_iff_ne, ne_eq, Bool.not_eq_false, Bool.not_eq_true, decide_eq_true_eq, decide_eq_false_iff_not, Bool.not_not] at c1)
  · simp (maxSteps := 10000000) only [↓exA, exB, exC, exN, exD, exR, tys, ↓reduceIte, Nat.reduceLT, Nat.reduceEqDiff, Nat.reduceAdd, Nat.zero_add, Nat.add_zero, List.map_cons, List.map_nil, Option.map_some, Option.map_none, Option.bind_some, List.length_cons, List.length_nil, List.cons_append, List.nil_append, List.append_nil, List.getElem?_cons_zero, List.getElem?_cons_succ, List.set_cons_zero, List.set_cons_succ, Nat.reduceLeDiff, and_self, and_true, true_and, gval, List.take_zero, List.take_succ_cons, List.drop_zero, List.drop_succ_cons, List.all_cons, List.all_nil, Bool.and_self, Bool.not_true, Bool.not_false, beq_true, beq_false, decide_true, decide_false, eq_self, Nat.reducePow, c1]
    rw [Bool.true_and, show decide ((n' : Int) = n) = decide (ys.length = xs.length) by rw [decide_eq_decide]; omega]
    exact fits_bare rfl
  · simp (maxSteps := 10000000) only [↓exA, exB, exC, exN, exD, exR, tys, ↓reduceIte, Nat.reduceLT, Nat.reduceEqDiff, Nat.reduceAdd, Nat.zero_add, Nat.add_zero, List.map_cons, List.map_nil, Option.map_some, Option.map_none, Option.bind_some, List.length_cons, List.length_nil, List.cons_append, List.nil_append, List.append_nil, List.getElem?_cons_zero, List.getElem?_cons_succ, List.set_cons_zero, List.set_cons_succ, Nat.reduceLeDiff, and_self, and_true, true_and, gval, List.take_zero, List.take_succ_cons, List.drop_zero, List.drop_succ_cons, List.all_cons, List.all_nil, Bool.and_self, Bool.not_true, Bool.not_false, beq_true, beq_false, decide_true, decide_false, eq_self, Nat.reducePow, c1]
    exact fits_bare rfl

def okTrS (l s a b c n d u : Nat) : Bool := isFin l && (isFin s && (least a && (isFin b && (least c && (above n && (least d && least u))))))
def validB (b : Option Blk) (H : AHeap) : Option (Value × AHeap) :=
  match b with
  | some (.live _ [.float .f32 l, .float .f32 s, .float .f32 a, .float .f32 b, .float .f32 c, .float .f32 n, .float .f32 d, .float .f32 u]) => some (.bool (okTrS l s a b c n d u), H)
  | _ => none
/-- The reference's test of a trend that lies somewhere. -/
def gValidS (args : List Value) (H : AHeap) : Option (Value × AHeap) :=
  match args with
  | [.pointer (some ⟨p, 0, none⟩)] => validB H[p]? H
  | _ => none
theorem gValidS_def (p : Nat) (H : AHeap) : gValidS [.pointer (some ⟨p, 0, none⟩)] H = validB H[p]? H := rfl
theorem okTrS_eq (l s a b c n d u : Nat) : okTrS l s a b c n d u = okTr l s a b c n d u := by
  simp only [okTrS, okTr, allFin, allGe, allGt, least, above, List.all_cons, List.all_nil, Bool.and_true]
  cases isFin l <;> cases isFin s <;> cases isFin a <;> cases isFin b <;> cases isFin c <;> cases isFin n <;> cases isFin d <;> cases isFin u <;> simp
  cases ge0 a <;> cases ge0 c <;> cases ge0 d <;> cases ge0 u <;> cases gt0 n <;> rfl

theorem validB_eq (lk : Bool) (l s a b c n d u : Nat) (H : AHeap) : validB (some (.live lk [.float .f32 l, .float .f32 s, .float .f32 a, .float .f32 b, .float .f32 c, .float .f32 n, .float .f32 d, .float .f32 u])) H = some (.bool (okTr l s a b c n d u), H) := by
  show some (Value.bool (okTrS l s a b c n d u), H) = _
  rw [okTrS_eq]
theorem snd58 {G : Env} (hG : SoundEnv [] Try.prog G) (h68 : G 68 = gFin) (h118 : G 118 = gOne least) (h119 : G 119 = gOne above) : Sound [] Try.prog 58 gValidS := by
  refine sound_of (rs := [.tmp 2]) (n := 57) hG mix Try.func58 rfl rfl rfl (by kernel_rfl) (by decide +kernel) (by decide +kernel) ?_
  intro args H r H' h
  unfold gValidS at h
  split at h
  case h_2 => cases h
  rename_i p
  unfold validB at h
  split at h
  case h_2 => cases h
  rename_i lk l s a b c n d u hb0
  cases h
  have hb := hp_old hb0 []
  refine ⟨by simp, ?_⟩
  simp (maxSteps := 10000000) only [↓exA, exB, exC, exN, exD, exR, tys, ↓reduceIte, Nat.reduceLT, Nat.reduceEqDiff, Nat.reduceAdd, Nat.zero_add, Nat.add_zero, List.map_cons, List.map_nil, Option.map_some, Option.map_none, Option.bind_some, List.length_cons, List.length_nil, List.cons_append, List.nil_append, List.append_nil, List.getElem?_cons_zero, List.getElem?_cons_succ, List.set_cons_zero, List.set_cons_succ, Nat.reduceLeDiff, and_self, and_true, true_and, gval, List.take_zero, List.take_succ_cons, List.drop_zero, List.drop_succ_cons, List.all_cons, List.all_nil, Bool.and_self, Bool.not_true, Bool.not_false, beq_true, beq_false, decide_true, decide_false, eq_self, Nat.reducePow, h68, h118, h119, gFin_eq, gOne_eq, hb]
  refine condW_intro (fun c1 => ?_) (fun c1 => by
    try simp only [Bool.not_eq_true', Bool.not_eq_eq_eq_not, Bool.not_true, Bool.not_false, beq_true, beq_false, beq_iff_eq, beq_eq_false_iff_ne, ne_eq, Bool.not_eq_false, Bool.not_eq_true, decide_eq_true_eq, decide_eq_false_iff_not, Bool.not_not] at c1
    simp (maxSteps := 10000000) only [↓exA, exB, exC, exN, exD, exR, tys, ↓reduceIte, Nat.reduceLT, Nat.reduceEqDiff, Nat.reduceAdd, Nat.zero_add, Nat.add_zero, List.map_cons, List.map_nil, Option.map_some, Option.map_none, Option.bind_some, List.length_cons, List.length_nil, List.cons_append, List.nil_append, List.append_nil, List.getElem?_cons_zero, List.getElem?_cons_succ, List.set_cons_zero, List.set_cons_succ, Nat.reduceLeDiff, and_self, and_true, true_and, gval, List.take_zero, List.take_succ_cons, List.drop_zero, List.drop_succ_cons, List.all_cons, List.all_nil, Bool.and_self, Bool.not_true, Bool.not_false, beq_true, beq_false, decide_true, decide_false, eq_self, Nat.reducePow, h68, h118, h119, gFin_eq, gOne_eq, hb, c1]
    have : okTrS l s a b c n d u = false := by simp [okTrS, c1]
    rw [this]; exact fits_bare rfl)
  try simp only [Bool.not_eq_true', Bool.not_eq_eq_eq_not, Bool.not_true, Bool.not_false, beq_true, beq_false, beq_iff_eq, beq_eq_false_iff_ne, ne_eq, Bool.not_eq_false, Bool.not_eq_true, decide_eq_true_eq, decide_eq_false_iff_not, Bool.not_not] at c1
  simp (maxSteps := 10000000) only [↓exA, exB, exC, exN, exD, exR, tys, ↓reduceIte, Nat.reduceLT, Nat.reduceEqDiff, Nat.reduceAdd, Nat.zero_add, Nat.add_zero, List.map_cons, List.map_nil, Option.map_some, Option.map_none, Option.bind_some, List.length_cons, List.length_nil, List.cons_append, List.nil_append, List.append_nil, List.getElem?_cons_zero, List.getElem?_cons_succ, List.set_cons_zero, List.set_cons_succ, Nat.reduceLeDiff, and_self, and_true, true_and, gval, List.take_zero, List.take_succ_cons, List.drop_zero, List.drop_succ_cons, List.all_cons, List.all_nil, Bool.and_self, Bool.not_true, Bool.not_false, beq_true, beq_false, decide_true, decide_false, eq_self, Nat.reducePow, h68, h118, h119, gFin_eq, gOne_eq, hb, c1]
  refine condW_intro (fun c2 => ?_) (fun c2 => by
    try simp only [Bool.not_eq_true', Bool.not_eq_eq_eq_not, Bool.not_true, Bool.not_false, beq_true, beq_false, beq_iff_eq, beq_eq_false_iff_ne, ne_eq, Bool.not_eq_false, Bool.not_eq_true, decide_eq_true_eq, decide_eq_false_iff_not, Bool.not_not] at c2
    simp (maxSteps := 10000000) only [↓exA, exB, exC, exN, exD, exR, tys, ↓reduceIte, Nat.reduceLT, Nat.reduceEqDiff, Nat.reduceAdd, Nat.zero_add, Nat.add_zero, List.map_cons, List.map_nil, Option.map_some, Option.map_none, Option.bind_some, List.length_cons, List.length_nil, List.cons_append, List.nil_append, List.append_nil, List.getElem?_cons_zero, List.getElem?_cons_succ, List.set_cons_zero, List.set_cons_succ, Nat.reduceLeDiff, and_self, and_true, true_and, gval, List.take_zero, List.take_succ_cons, List.drop_zero, List.drop_succ_cons, List.all_cons, List.all_nil, Bool.and_self, Bool.not_true, Bool.not_false, beq_true, beq_false, decide_true, decide_false, eq_self, Nat.reducePow, h68, h118, h119, gFin_eq, gOne_eq, hb, c1, c2]
    have : okTrS l s a b c n d u = false := by simp [okTrS, c1, c2]
    rw [this]; exact fits_bare rfl)
  try simp only [Bool.not_eq_true', Bool.not_eq_eq_eq_not, Bool.not_true, Bool.not_false, beq_true, beq_false, beq_iff_eq, beq_eq_false_iff_ne, ne_eq, Bool.not_eq_false, Bool.not_eq_true, decide_eq_true_eq, decide_eq_false_iff_not, Bool.not_not] at c2
  simp (maxSteps := 10000000) only [↓exA, exB, exC, exN, exD, exR, tys, ↓reduceIte, Nat.reduceLT, Nat.reduceEqDiff, Nat.reduceAdd, Nat.zero_add, Nat.add_zero, List.map_cons, List.map_nil, Option.map_some, Option.map_none, Option.bind_some, List.length_cons, List.length_nil, List.cons_append, List.nil_append, List.append_nil, List.getElem?_cons_zero, List.getElem?_cons_succ, List.set_cons_zero, List.set_cons_succ, Nat.reduceLeDiff, and_self, and_true, true_and, gval, List.take_zero, List.take_succ_cons, List.drop_zero, List.drop_succ_cons, List.all_cons, List.all_nil, Bool.and_self, Bool.not_true, Bool.not_false, beq_true, beq_false, decide_true, decide_false, eq_self, Nat.reducePow, h68, h118, h119, gFin_eq, gOne_eq, hb, c1, c2]
  refine condW_intro (fun c3 => ?_) (fun c3 => by
    try simp only [Bool.not_eq_true', Bool.not_eq_eq_eq_not, Bool.not_true, Bool.not_false, beq_true, beq_false, beq_iff_eq, beq_eq_false_iff_ne, ne_eq, Bool.not_eq_false, Bool.not_eq_true, decide_eq_true_eq, decide_eq_false_iff_not, Bool.not_not] at c3
    simp (maxSteps := 10000000) only [↓exA, exB, exC, exN, exD, exR, tys, ↓reduceIte, Nat.reduceLT, Nat.reduceEqDiff, Nat.reduceAdd, Nat.zero_add, Nat.add_zero, List.map_cons, List.map_nil, Option.map_some, Option.map_none, Option.bind_some, List.length_cons, List.length_nil, List.cons_append, List.nil_append, List.append_nil, List.getElem?_cons_zero, List.getElem?_cons_succ, List.set_cons_zero, List.set_cons_succ, Nat.reduceLeDiff, and_self, and_true, true_and, gval, List.take_zero, List.take_succ_cons, List.drop_zero, List.drop_succ_cons, List.all_cons, List.all_nil, Bool.and_self, Bool.not_true, Bool.not_false, beq_true, beq_false, decide_true, decide_false, eq_self, Nat.reducePow, h68, h118, h119, gFin_eq, gOne_eq, hb, c1, c2, c3]
    have : okTrS l s a b c n d u = false := by simp [okTrS, c1, c2, c3]
    rw [this]; exact fits_bare rfl)
  try simp only [Bool.not_eq_true', Bool.not_eq_eq_eq_not, Bool.not_true, Bool.not_false, beq_true, beq_false, beq_iff_eq, beq_eq_false_iff_ne, ne_eq, Bool.not_eq_false, Bool.not_eq_true, decide_eq_true_eq, decide_eq_false_iff_not, Bool.not_not] at c3
  simp (maxSteps := 10000000) only [↓exA, exB, exC, exN, exD, exR, tys, ↓reduceIte, Nat.reduceLT, Nat.reduceEqDiff, Nat.reduceAdd, Nat.zero_add, Nat.add_zero, List.map_cons, List.map_nil, Option.map_some, Option.map_none, Option.bind_some, List.length_cons, List.length_nil, List.cons_append, List.nil_append, List.append_nil, List.getElem?_cons_zero, List.getElem?_cons_succ, List.set_cons_zero, List.set_cons_succ, Nat.reduceLeDiff, and_self, and_true, true_and, gval, List.take_zero, List.take_succ_cons, List.drop_zero, List.drop_succ_cons, List.all_cons, List.all_nil, Bool.and_self, Bool.not_true, Bool.not_false, beq_true, beq_false, decide_true, decide_false, eq_self, Nat.reducePow, h68, h118, h119, gFin_eq, gOne_eq, hb, c1, c2, c3]
  refine condW_intro (fun c4 => ?_) (fun c4 => by
    try simp only [Bool.not_eq_true', Bool.not_eq_eq_eq_not, Bool.not_true, Bool.not_false, beq_true, beq_false, beq_iff_eq, beq_eq_false_iff_ne, ne_eq, Bool.not_eq_false, Bool.not_eq_true, decide_eq_true_eq, decide_eq_false_iff_not, Bool.not_not] at c4
    simp (maxSteps := 10000000) only [↓exA, exB, exC, exN, exD, exR, tys, ↓reduceIte, Nat.reduceLT, Nat.reduceEqDiff, Nat.reduceAdd, Nat.zero_add, Nat.add_zero, List.map_cons, List.map_nil, Option.map_some, Option.map_none, Option.bind_some, List.length_cons, List.length_nil, List.cons_append, List.nil_append, List.append_nil, List.getElem?_cons_zero, List.getElem?_cons_succ, List.set_cons_zero, List.set_cons_succ, Nat.reduceLeDiff, and_self, and_true, true_and, gval, List.take_zero, List.take_succ_cons, List.drop_zero, List.drop_succ_cons, List.all_cons, List.all_nil, Bool.and_self, Bool.not_true, Bool.not_false, beq_true, beq_false, decide_true, decide_false, eq_self, Nat.reducePow, h68, h118, h119, gFin_eq, gOne_eq, hb, c1, c2, c3, c4]
    have : okTrS l s a b c n d u = false := by simp [okTrS, c1, c2, c3, c4]
    rw [this]; exact fits_bare rfl)
  try simp only [Bool.not_eq_true', Bool.not_eq_eq_eq_not, Bool.not_true, Bool.not_false, beq_true, beq_false, beq_iff_eq, beq_eq_false_iff_ne, ne_eq, Bool.not_eq_false, Bool.not_eq_true, decide_eq_true_eq, decide_eq_false_iff_not, Bool.not_not] at c4
  simp (maxSteps := 10000000) only [↓exA, exB, exC, exN, exD, exR, tys, ↓reduceIte, Nat.reduceLT, Nat.reduceEqDiff, Nat.reduceAdd, Nat.zero_add, Nat.add_zero, List.map_cons, List.map_nil, Option.map_some, Option.map_none, Option.bind_some, List.length_cons, List.length_nil, List.cons_append, List.nil_append, List.append_nil, List.getElem?_cons_zero, List.getElem?_cons_succ, List.set_cons_zero, List.set_cons_succ, Nat.reduceLeDiff, and_self, and_true, true_and, gval, List.take_zero, List.take_succ_cons, List.drop_zero, List.drop_succ_cons, List.all_cons, List.all_nil, Bool.and_self, Bool.not_true, Bool.not_false, beq_true, beq_false, decide_true, decide_false, eq_self, Nat.reducePow, h68, h118, h119, gFin_eq, gOne_eq, hb, c1, c2, c3, c4]
  refine condW_intro (fun c5 => ?_) (fun c5 => by
    try simp only [Bool.not_eq_true', Bool.not_eq_eq_eq_not, Bool.not_true, Bool.not_false, beq_true, beq_false, beq_iff_eq, beq_eq_false_iff_ne, ne_eq, Bool.not_eq_false, Bool.not_eq_true, decide_eq_true_eq, decide_eq_false_iff_not, Bool.not_not] at c5
    simp (maxSteps := 10000000) only [↓exA, exB, exC, exN, exD, exR, tys, ↓reduceIte, Nat.reduceLT, Nat.reduceEqDiff, Nat.reduceAdd, Nat.zero_add, Nat.add_zero, List.map_cons, List.map_nil, Option.map_some, Option.map_none, Option.bind_some, List.length_cons, List.length_nil, List.cons_append, List.nil_append, List.append_nil, List.getElem?_cons_zero, List.getElem?_cons_succ, List.set_cons_zero, List.set_cons_succ, Nat.reduceLeDiff, and_self, and_true, true_and, gval, List.take_zero, List.take_succ_cons, List.drop_zero, List.drop_succ_cons, List.all_cons, List.all_nil, Bool.and_self, Bool.not_true, Bool.not_false, beq_true, beq_false, decide_true, decide_false, eq_self, Nat.reducePow, h68, h118, h119, gFin_eq, gOne_eq, hb, c1, c2, c3, c4, c5]
    have : okTrS l s a b c n d u = false := by simp [okTrS, c1, c2, c3, c4, c5]
    rw [this]; exact fits_bare rfl)
  try simp only [Bool.not_eq_true', Bool.not_eq_eq_eq_not, Bool.not_true, Bool.not_false, beq_true, beq_false, beq_iff_eq, beq_eq_false_iff_ne, ne_eq, Bool.not_eq_false, Bool.not_eq_true, decide_eq_true_eq, decide_eq_false_iff_not, Bool.not_not] at c5
  simp (maxSteps := 10000000) only [↓exA, exB, exC, exN, exD, exR, tys, ↓reduceIte, Nat.reduceLT, Nat.reduceEqDiff, Nat.reduceAdd, Nat.zero_add, Nat.add_zero, List.map_cons, List.map_nil, Option.map_some, Option.map_none, Option.bind_some, List.length_cons, List.length_nil, List.cons_append, List.nil_append, List.append_nil, List.getElem?_cons_zero, List.getElem?_cons_succ, List.set_cons_zero, List.set_cons_succ, Nat.reduceLeDiff, and_self, and_true, true_and, gval, List.take_zero, List.take_succ_cons, List.drop_zero, List.drop_succ_cons, List.all_cons, List.all_nil, Bool.and_self, Bool.not_true, Bool.not_false, beq_true, beq_false, decide_true, decide_false, eq_self, Nat.reducePow, h68, h118, h119, gFin_eq, gOne_eq, hb, c1, c2, c3, c4, c5]
  refine condW_intro (fun c6 => ?_) (fun c6 => by
    try simp only [Bool.not_eq_true', Bool.not_eq_eq_eq_not, Bool.not_true, Bool.not_false, beq_true, beq_false, beq_iff_eq, beq_eq_false_iff_ne, ne_eq, Bool.not_eq_false, Bool.not_eq_true, decide_eq_true_eq, decide_eq_false_iff_not, Bool.not_not] at c6
    simp (maxSteps := 10000000) only [↓exA, exB, exC, exN, exD, exR, tys, ↓reduceIte, Nat.reduceLT, Nat.reduceEqDiff, Nat.reduceAdd, Nat.zero_add, Nat.add_zero, List.map_cons, List.map_nil, Option.map_some, Option.map_none, Option.bind_some, List.length_cons, List.length_nil, List.cons_append, List.nil_append, List.append_nil, List.getElem?_cons_zero, List.getElem?_cons_succ, List.set_cons_zero, List.set_cons_succ, Nat.reduceLeDiff, and_self, and_true, true_and, gval, List.take_zero, List.take_succ_cons, List.drop_zero, List.drop_succ_cons, List.all_cons, List.all_nil, Bool.and_self, Bool.not_true, Bool.not_false, beq_true, beq_false, decide_true, decide_false, eq_self, Nat.reducePow, h68, h118, h119, gFin_eq, gOne_eq, hb, c1, c2, c3, c4, c5, c6]
    have : okTrS l s a b c n d u = false := by simp [okTrS, c1, c2, c3, c4, c5, c6]
    rw [this]; exact fits_bare rfl)
  try simp only [Bool.not_eq_true', Bool.not_eq_eq_eq_not, Bool.not_true, Bool.not_false, beq_true, beq_false, beq_iff_eq, beq_eq_false_iff_ne, ne_eq, Bool.not_eq_false, Bool.not_eq_true, decide_eq_true_eq, decide_eq_false_iff_not, Bool.not_not] at c6
  simp (maxSteps := 10000000) only [↓exA, exB, exC, exN, exD, exR, tys, ↓reduceIte, Nat.reduceLT, Nat.reduceEqDiff, Nat.reduceAdd, Nat.zero_add, Nat.add_zero, List.map_cons, List.map_nil, Option.map_some, Option.map_none, Option.bind_some, List.length_cons, List.length_nil, List.cons_append, List.nil_append, List.append_nil, List.getElem?_cons_zero, List.getElem?_cons_succ, List.set_cons_zero, List.set_cons_succ, Nat.reduceLeDiff, and_self, and_true, true_and, gval, List.take_zero, List.take_succ_cons, List.drop_zero, List.drop_succ_cons, List.all_cons, List.all_nil, Bool.and_self, Bool.not_true, Bool.not_false, beq_true, beq_false, decide_true, decide_false, eq_self, Nat.reducePow, h68, h118, h119, gFin_eq, gOne_eq, hb, c1, c2, c3, c4, c5, c6]
  refine condW_intro (fun c7 => ?_) (fun c7 => by
    try simp only [Bool.not_eq_true', Bool.not_eq_eq_eq_not, Bool.not_true, Bool.not_false, beq_true, beq_false, beq_iff_eq, beq_eq_false_iff_ne, ne_eq, Bool.not_eq_false, Bool.not_eq_true, decide_eq_true_eq, decide_eq_false_iff_not, Bool.not_not] at c7
    simp (maxSteps := 10000000) only [↓exA, exB, exC, exN, exD, exR, tys, ↓reduceIte, Nat.reduceLT, Nat.reduceEqDiff, Nat.reduceAdd, Nat.zero_add, Nat.add_zero, List.map_cons, List.map_nil, Option.map_some, Option.map_none, Option.bind_some, List.length_cons, List.length_nil, List.cons_append, List.nil_append, List.append_nil, List.getElem?_cons_zero, List.getElem?_cons_succ, List.set_cons_zero, List.set_cons_succ, Nat.reduceLeDiff, and_self, and_true, true_and, gval, List.take_zero, List.take_succ_cons, List.drop_zero, List.drop_succ_cons, List.all_cons, List.all_nil, Bool.and_self, Bool.not_true, Bool.not_false, beq_true, beq_false, decide_true, decide_false, eq_self, Nat.reducePow, h68, h118, h119, gFin_eq, gOne_eq, hb, c1, c2, c3, c4, c5, c6, c7]
    have : okTrS l s a b c n d u = false := by simp [okTrS, c1, c2, c3, c4, c5, c6, c7]
    rw [this]; exact fits_bare rfl)
  try simp only [Bool.not_eq_true', Bool.not_eq_eq_eq_not, Bool.not_true, Bool.not_false, beq_true, beq_false, beq_iff_eq, beq_eq_false_iff_ne, ne_eq, Bool.not_eq_false, Bool.not_eq_true, decide_eq_true_eq, decide_eq_false_iff_not, Bool.not_not] at c7
  simp (maxSteps := 10000000) only [↓exA, exB, exC, exN, exD, exR, tys, ↓reduceIte, Nat.reduceLT, Nat.reduceEqDiff, Nat.reduceAdd, Nat.zero_add, Nat.add_zero, List.map_cons, List.map_nil, Option.map_some, Option.map_none, Option.bind_some, List.length_cons, List.length_nil, List.cons_append, List.nil_append, List.append_nil, List.getElem?_cons_zero, List.getElem?_cons_succ, List.set_cons_zero, List.set_cons_succ, Nat.reduceLeDiff, and_self, and_true, true_and, gval, List.take_zero, List.take_succ_cons, List.drop_zero, List.drop_succ_cons, List.all_cons, List.all_nil, Bool.and_self, Bool.not_true, Bool.not_false, beq_true, beq_false, decide_true, decide_false, eq_self, Nat.reducePow, h68, h118, h119, gFin_eq, gOne_eq, hb, c1, c2, c3, c4, c5, c6, c7]
  have : okTrS l s a b c n d u = least u := by simp [okTrS, c1, c2, c3, c4, c5, c6, c7]
  rw [this]; exact fits_bare rfl

/-! ### A list, if all its numbers are finite -/
def gIfAll (args : List Value) (H : AHeap) : Option (Value × AHeap) :=
  match args with
  | [.slice (some ⟨b, off, none⟩) n c] => match rd isF (.slice (some ⟨b, off, none⟩) n c) H with
    | some xs => if c = n then some (.tuple ⟨if allFin xs = true then [.slice (some ⟨b, off, none⟩) n c, .bool true] else [.slice none 0 0, .bool false]⟩, H) else none
    | none => none
  | _ => none
theorem gIfAll_eq {b off n : Nat} {H : AHeap} {xs : List Nat} (h : rd isF (.slice (some ⟨b, off, none⟩) n n) H = some xs) (ha : allFin xs = true) : gIfAll [.slice (some ⟨b, off, none⟩) n n] H = some (.tuple ⟨[.slice (some ⟨b, off, none⟩) n n, .bool true]⟩, H) := by
  unfold gIfAll
  simp only [h, ha, if_true]
theorem RV.olds {H : AHeap} {ks : List Nat} {b off n : Nat} {v : Value} (h : b < H.length) (hv : bare v = true) : RV (rho H ks) (.tuple ⟨[.slice (some ⟨b, off, none⟩) n n, v]⟩) (.tuple ⟨[.slice (some ⟨b, off, none⟩) n n, v]⟩) :=
  .tuple (.cons (RV.old_slice h) (.cons (.same hv) .nil))
theorem fits_old {H e : AHeap} {r : Value} (hr : RV (rho H []) r r) : Fits H r H r (hp H e) := by
  have := fits_fresh (H := H) (e := e) (r := r) (r1 := r) (ks := []) (bs := []) List.nodup_nil (by simp) rfl hr
  simpa using this
theorem snd56 {G : Env} (hG : SoundEnv [] Try.prog G) (h60 : G 60 = gList allFin) : Sound [] Try.prog 56 gIfAll := by
  refine sound_of (rs := [.tmp 2, .tmp 3]) (n := 8) hG mix Try.func56 rfl rfl rfl (by kernel_rfl) (by decide +kernel) (by decide +kernel) ?_
  intro args H r H' h
  unfold gIfAll at h
  split at h
  case h_2 => cases h
  rename_i b off n c
  split at h
  case h_2 => cases h
  rename_i xs hs
  split at h
  case isFalse => cases h
  rename_i hc; subst hc
  cases h
  obtain ⟨a, n', c', row⟩ := rd_row hs
  have hbl : b < H.length := by
    cases row.eq
    rcases row.place with ⟨h, _⟩ | ⟨b', off', h, hb⟩
    · cases h
    · cases h; exact hb
  refine ⟨by simp, ?_⟩
  simp (maxSteps := 10000000) only [↓exA, exB, exC, exN, exD, exR, tys, ↓reduceIte, Nat.reduceLT, Nat.reduceEqDiff, Nat.reduceAdd, Nat.zero_add, Nat.add_zero, List.map_cons, List.map_nil, Option.map_some, Option.map_none, Option.bind_some, List.length_cons, List.length_nil, List.cons_append, List.nil_append, List.append_nil, List.getElem?_cons_zero, List.getElem?_cons_succ, List.set_cons_zero, List.set_cons_succ, Nat.reduceLeDiff, and_self, and_true, true_and, gval, List.take_zero, List.take_succ_cons, List.drop_zero, List.drop_succ_cons, List.all_cons, List.all_nil, Bool.and_self, Bool.not_true, Bool.not_false, beq_true, beq_false, decide_true, decide_false, eq_self, Nat.reducePow, h60, gList_eq, rd_hp hs []]
  refine condW_intro (fun c1 => ?_) (fun c1 => ?_) <;> (try simp only [Bool.not_eq_true', Bool.not_eq_eq_eq_not, Bool.not_true, Bool.not_false, beq_true, beq_false, beq_iff_eq, beq_eq_false_iff_ne, ne_eq, Bool.not_eq_false, Bool.not_eq_true, decide_eq_true_eq, decide_eq_false_iff_not, Bool.not_not] at c1)
  · simp (maxSteps := 10000000) only [↓exA, exB, exC, exN, exD, exR, tys, ↓reduceIte, Nat.reduceLT, Nat.reduceEqDiff, Nat.reduceAdd, Nat.zero_add, Nat.add_zero, List.map_cons, List.map_nil, Option.map_some, Option.map_none, Option.bind_some, List.length_cons, List.length_nil, List.cons_append, List.nil_append, List.append_nil, List.getElem?_cons_zero, List.getElem?_cons_succ, List.set_cons_zero, List.set_cons_succ, Nat.reduceLeDiff, and_self, and_true, true_and, gval, List.take_zero, List.take_succ_cons, List.drop_zero, List.drop_succ_cons, List.all_cons, List.all_nil, Bool.and_self, Bool.not_true, Bool.not_false, beq_true, beq_false, decide_true, decide_false, eq_self, Nat.reducePow, c1]
    simp only [Bool.false_eq_true, if_false]
    exact fits_bare rfl
  · simp (maxSteps := 10000000) only [↓exA, exB, exC, exN, exD, exR, tys, ↓reduceIte, Nat.reduceLT, Nat.reduceEqDiff, Nat.reduceAdd, Nat.zero_add, Nat.add_zero, List.map_cons, List.map_nil, Option.map_some, Option.map_none, Option.bind_some, List.length_cons, List.length_nil, List.cons_append, List.nil_append, List.append_nil, List.getElem?_cons_zero, List.getElem?_cons_succ, List.set_cons_zero, List.set_cons_succ, Nat.reduceLeDiff, and_self, and_true, true_and, gval, List.take_zero, List.take_succ_cons, List.drop_zero, List.drop_succ_cons, List.all_cons, List.all_nil, Bool.and_self, Bool.not_true, Bool.not_false, beq_true, beq_false, decide_true, decide_false, eq_self, Nat.reducePow, c1]
    exact fits_old (RV.olds hbl rfl)

end Go.Proofs.Ytnhhdgopgecggaa.Abs
