/- What the functions that draw from bytes answer. No condition. -/
import Derived.Test.YtnhhdgopgecggaaFe
set_option linter.unusedVariables false
set_option linter.unusedSimpArgs false
set_option maxRecDepth 100000
set_option maxHeartbeats 4000000
namespace Go.Proofs.Ytnhhdgopgecggaa.Abs
open Go

theorem snd16 {G : Env} (hG : SoundEnv [] Try.prog G) (h15 : G 15 = gTwo sameS) : Sound [] Try.prog 16 (fun args H => match args with
    | [s, s'] => match rd isF s H, rd isF s' H with
      | some xs, some ys => some (.bool (eqBy sameS xs ys), H)
      | _, _ => none
    | _ => none) := by
  refine sound_of (rs := [.tmp 4]) (n := 27) hG mix Try.func16 rfl rfl rfl (by kernel_rfl) (by decide +kernel) (by decide +kernel) ?_
  intro args H r H' h
  split at h
  case h_2 => cases h
  rename_i s s'
  split at h
  case h_2 => cases h
  rename_i xs ys hs hs'
  cases h
  obtain ⟨a, n, c, row⟩ := rd_row hs
  cases row.eq
  obtain ⟨a', n', c', row'⟩ := rd_row hs'
  cases row'.eq
  have hl := row.len
  have hl' := row'.len
  refine ⟨by simp, ?_⟩
  simp (maxSteps := 10000000) only [↓exA, exB, exC, exN, exD, exR, tys, ↓reduceIte, Nat.reduceLT, Nat.reduceEqDiff, Nat.reduceAdd, Nat.zero_add, Nat.add_zero, List.map_cons, List.map_nil, Option.map_some, Option.map_none, Option.bind_some, List.length_cons, List.length_nil, List.cons_append, List.nil_append, List.append_nil, List.getElem?_cons_zero, List.getElem?_cons_succ, List.set_cons_zero, List.set_cons_succ, Nat.reduceLeDiff, and_self, and_true, true_and, gval, List.take_zero, List.take_succ_cons, List.drop_zero, List.drop_succ_cons, List.all_cons, List.all_nil, Bool.and_self, Bool.not_true, Bool.not_false, beq_true, beq_false, decide_true, decide_false, eq_self, Nat.reducePow]
  refine condW_intro (fun c1 => ?_) (fun c1 => ?_) <;> (try simp only [Bool.not_eq_true', Bool.not_eq_eq_eq_not, Bool.not_true, Bool.not_false, beq_true, beq_false, beq_iff_eq, beq_eq_false_iff_ne, ne_eq, Bool.not_eq_false, Bool.not_eq_true, decide_eq_true_eq, decide_eq_false_iff_not, Bool.not_not] at c1)
  · simp (maxSteps := 10000000) only [↓exA, exB, exC, exN, exD, exR, tys, ↓reduceIte, Nat.reduceLT, Nat.reduceEqDiff, Nat.reduceAdd, Nat.zero_add, Nat.add_zero, List.map_cons, List.map_nil, Option.map_some, Option.map_none, Option.bind_some, List.length_cons, List.length_nil, List.cons_append, List.nil_append, List.append_nil, List.getElem?_cons_zero, List.getElem?_cons_succ, List.set_cons_zero, List.set_cons_succ, Nat.reduceLeDiff, and_self, and_true, true_and, gval, List.take_zero, List.take_succ_cons, List.drop_zero, List.drop_succ_cons, List.all_cons, List.all_nil, Bool.and_self, Bool.not_true, Bool.not_false, beq_true, beq_false, decide_true, decide_false, eq_self, Nat.reducePow]
    have : eqBy sameS xs ys = false := eqBy_len (by omega)
    rw [this]
    exact fits_bare rfl
  · have hnn : n = n' := by omega
    subst hnn
    simp (maxSteps := 10000000) only [↓exA, exB, exC, exN, exD, exR, tys, ↓reduceIte, Nat.reduceLT, Nat.reduceEqDiff, Nat.reduceAdd, Nat.zero_add, Nat.add_zero, List.map_cons, List.map_nil, Option.map_some, Option.map_none, Option.bind_some, List.length_cons, List.length_nil, List.cons_append, List.nil_append, List.append_nil, List.getElem?_cons_zero, List.getElem?_cons_succ, List.set_cons_zero, List.set_cons_succ, Nat.reduceLeDiff, and_self, and_true, true_and, gval, List.take_zero, List.take_succ_cons, List.drop_zero, List.drop_succ_cons, List.all_cons, List.all_nil, Bool.and_self, Bool.not_true, Bool.not_false, beq_true, beq_false, decide_true, decide_false, eq_self, Nat.reducePow]
    refine X_loop (I := fun m t K => ∃ f i, t = mk 27 f ∧ K = hp H [] ∧ f 0 = .slice a n c ∧ f 1 = .slice a' n c' ∧ f 12 = .int .i64 n ∧ f 13 = .int .i64 (i : Nat) ∧ i + m = n ∧ eqBy sameS xs ys = eqBy sameS (xs.drop i) (ys.drop i)) (m := n) ?_ ?_
    · rintro m t K ⟨f, i, rfl, rfl, h0, h1, h12, h13, hm, he⟩
      simp (maxSteps := 10000000) only [↓exA, exB, exC, exN, exD, exR, tys, ↓reduceIte, Nat.reduceLT, Nat.reduceEqDiff, Nat.reduceAdd, Nat.zero_add, Nat.add_zero, List.map_cons, List.map_nil, Option.map_some, Option.map_none, Option.bind_some, List.length_cons, List.length_nil, List.cons_append, List.nil_append, List.append_nil, List.getElem?_cons_zero, List.getElem?_cons_succ, List.set_cons_zero, List.set_cons_succ, Nat.reduceLeDiff, and_self, and_true, true_and, gval, List.take_zero, List.take_succ_cons, List.drop_zero, List.drop_succ_cons, List.all_cons, List.all_nil, Bool.and_self, Bool.not_true, Bool.not_false, beq_true, beq_false, decide_true, decide_false, eq_self, Nat.reducePow, h0, h1, h12, h13]
      refine condW_intro (fun c2 => ?_) (fun c2 => ?_) <;> (try simp only [Bool.not_eq_true', Bool.not_eq_eq_eq_not, Bool.not_true, Bool.not_false, beq_true, beq_false, beq_iff_eq, beq_eq_false_iff_ne, ne_eq, Bool.not_eq_false, Bool.not_eq_true, decide_eq_true_eq, decide_eq_false_iff_not, Bool.not_not] at c2)
      · have hi : i < xs.length := by omega
        have hi' : i < ys.length := by omega
        obtain ⟨b, off, lk, cs, v, ha, hb, hv, hx⟩ := (row.hp []).get i xs[i] (List.getElem?_eq_getElem hi)
        have hv' := isF_eq hx; subst hv'; subst ha
        obtain ⟨b', off', lk', cs', v', ha', hb', hvv, hx'⟩ := (row'.hp []).get i ys[i] (List.getElem?_eq_getElem hi')
        have hv' := isF_eq hx'; subst hv'; subst ha'
        simp (maxSteps := 10000000) only [↓exA, exB, exC, exN, exD, exR, tys, ↓reduceIte, Nat.reduceLT, Nat.reduceEqDiff, Nat.reduceAdd, Nat.zero_add, Nat.add_zero, List.map_cons, List.map_nil, Option.map_some, Option.map_none, Option.bind_some, List.length_cons, List.length_nil, List.cons_append, List.nil_append, List.append_nil, List.getElem?_cons_zero, List.getElem?_cons_succ, List.set_cons_zero, List.set_cons_succ, Nat.reduceLeDiff, and_self, and_true, true_and, gval, List.take_zero, List.take_succ_cons, List.drop_zero, List.drop_succ_cons, List.all_cons, List.all_nil, Bool.and_self, Bool.not_true, Bool.not_false, beq_true, beq_false, decide_true, decide_false, eq_self, Nat.reducePow, h0, h1, h12, h13, c2, Int.natCast_nonneg, Int.toNat_natCast, hb, hv, hb', hvv, h15, gTwo_eq]
        rw [List.drop_eq_getElem_cons hi, List.drop_eq_getElem_cons hi'] at he
        refine condW_intro (fun c3 => ?_) (fun c3 => ?_) <;> (try simp only [Bool.not_eq_true', Bool.not_eq_eq_eq_not, Bool.not_true, Bool.not_false, beq_true, beq_false, beq_iff_eq, beq_eq_false_iff_ne, ne_eq, Bool.not_eq_false, Bool.not_eq_true, decide_eq_true_eq, decide_eq_false_iff_not, Bool.not_not] at c3)
        · simp (maxSteps := 10000000) only [↓exA, exB, exC, exN, exD, exR, tys, ↓reduceIte, Nat.reduceLT, Nat.reduceEqDiff, Nat.reduceAdd, Nat.zero_add, Nat.add_zero, List.map_cons, List.map_nil, Option.map_some, Option.map_none, Option.bind_some, List.length_cons, List.length_nil, List.cons_append, List.nil_append, List.append_nil, List.getElem?_cons_zero, List.getElem?_cons_succ, List.set_cons_zero, List.set_cons_succ, Nat.reduceLeDiff, and_self, and_true, true_and, gval, List.take_zero, List.take_succ_cons, List.drop_zero, List.drop_succ_cons, List.all_cons, List.all_nil, Bool.and_self, Bool.not_true, Bool.not_false, beq_true, beq_false, decide_true, decide_false, eq_self, Nat.reducePow, c3]
          have hr : eqBy sameS xs ys = false := by rw [he, eqBy, c3]; rfl
          rw [hr]
          exact fits_bare rfl
        · simp (maxSteps := 10000000) only [↓exA, exB, exC, exN, exD, exR, tys, ↓reduceIte, Nat.reduceLT, Nat.reduceEqDiff, Nat.reduceAdd, Nat.zero_add, Nat.add_zero, List.map_cons, List.map_nil, Option.map_some, Option.map_none, Option.bind_some, List.length_cons, List.length_nil, List.cons_append, List.nil_append, List.append_nil, List.getElem?_cons_zero, List.getElem?_cons_succ, List.set_cons_zero, List.set_cons_succ, Nat.reduceLeDiff, and_self, and_true, true_and, gval, List.take_zero, List.take_succ_cons, List.drop_zero, List.drop_succ_cons, List.all_cons, List.all_nil, Bool.and_self, Bool.not_true, Bool.not_false, beq_true, beq_false, decide_true, decide_false, eq_self, Nat.reducePow, h13]
          refine ⟨m - 1, by omega, _, i + 1, rfl, rfl, ?_, ?_, ?_, ?_, by omega, ?_⟩
          · simp (maxSteps := 10000000) only [↓exA, exB, exC, exN, exD, exR, tys, ↓reduceIte, Nat.reduceLT, Nat.reduceEqDiff, Nat.reduceAdd, Nat.zero_add, Nat.add_zero, List.map_cons, List.map_nil, Option.map_some, Option.map_none, Option.bind_some, List.length_cons, List.length_nil, List.cons_append, List.nil_append, List.append_nil, List.getElem?_cons_zero, List.getElem?_cons_succ, List.set_cons_zero, List.set_cons_succ, Nat.reduceLeDiff, and_self, and_true, true_and, gval, List.take_zero, List.take_succ_cons, List.drop_zero, List.drop_succ_cons, List.all_cons, List.all_nil, Bool.and_self, Bool.not_true, Bool.not_false, beq_true, beq_false, decide_true, decide_false, eq_self, Nat.reducePow, h0]
          · simp (maxSteps := 10000000) only [↓exA, exB, exC, exN, exD, exR, tys, ↓reduceIte, Nat.reduceLT, Nat.reduceEqDiff, Nat.reduceAdd, Nat.zero_add, Nat.add_zero, List.map_cons, List.map_nil, Option.map_some, Option.map_none, Option.bind_some, List.length_cons, List.length_nil, List.cons_append, List.nil_append, List.append_nil, List.getElem?_cons_zero, List.getElem?_cons_succ, List.set_cons_zero, List.set_cons_succ, Nat.reduceLeDiff, and_self, and_true, true_and, gval, List.take_zero, List.take_succ_cons, List.drop_zero, List.drop_succ_cons, List.all_cons, List.all_nil, Bool.and_self, Bool.not_true, Bool.not_false, beq_true, beq_false, decide_true, decide_false, eq_self, Nat.reducePow, h1]
          · simp (maxSteps := 10000000) only [↓exA, exB, exC, exN, exD, exR, tys, ↓reduceIte, Nat.reduceLT, Nat.reduceEqDiff, Nat.reduceAdd, Nat.zero_add, Nat.add_zero, List.map_cons, List.map_nil, Option.map_some, Option.map_none, Option.bind_some, List.length_cons, List.length_nil, List.cons_append, List.nil_append, List.append_nil, List.getElem?_cons_zero, List.getElem?_cons_succ, List.set_cons_zero, List.set_cons_succ, Nat.reduceLeDiff, and_self, and_true, true_and, gval, List.take_zero, List.take_succ_cons, List.drop_zero, List.drop_succ_cons, List.all_cons, List.all_nil, Bool.and_self, Bool.not_true, Bool.not_false, beq_true, beq_false, decide_true, decide_false, eq_self, Nat.reducePow, h12]
          · simp (maxSteps := 10000000) only [↓exA, exB, exC, exN, exD, exR, tys, ↓reduceIte, Nat.reduceLT, Nat.reduceEqDiff, Nat.reduceAdd, Nat.zero_add, Nat.add_zero, List.map_cons, List.map_nil, Option.map_some, Option.map_none, Option.bind_some, List.length_cons, List.length_nil, List.cons_append, List.nil_append, List.append_nil, List.getElem?_cons_zero, List.getElem?_cons_succ, List.set_cons_zero, List.set_cons_succ, Nat.reduceLeDiff, and_self, and_true, true_and, gval, List.take_zero, List.take_succ_cons, List.drop_zero, List.drop_succ_cons, List.all_cons, List.all_nil, Bool.and_self, Bool.not_true, Bool.not_false, beq_true, beq_false, decide_true, decide_false, eq_self, Nat.reducePow]
            rw [wrap_i64 (by omega) (by have := row.small; omega)]; simp
          · rw [he, eqBy, c3]; simp
      · simp (maxSteps := 10000000) only [↓exA, exB, exC, exN, exD, exR, tys, ↓reduceIte, Nat.reduceLT, Nat.reduceEqDiff, Nat.reduceAdd, Nat.zero_add, Nat.add_zero, List.map_cons, List.map_nil, Option.map_some, Option.map_none, Option.bind_some, List.length_cons, List.length_nil, List.cons_append, List.nil_append, List.append_nil, List.getElem?_cons_zero, List.getElem?_cons_succ, List.set_cons_zero, List.set_cons_succ, Nat.reduceLeDiff, and_self, and_true, true_and, gval, List.take_zero, List.take_succ_cons, List.drop_zero, List.drop_succ_cons, List.all_cons, List.all_nil, Bool.and_self, Bool.not_true, Bool.not_false, beq_true, beq_false, decide_true, decide_false, eq_self, Nat.reducePow]
        have hn : xs.drop i = [] := by rw [List.drop_eq_nil_iff]; omega
        have hn' : ys.drop i = [] := by rw [List.drop_eq_nil_iff]; omega
        have hr : eqBy sameS xs ys = true := by rw [he, hn, hn']; rfl
        rw [hr]
        exact fits_bare rfl
    · refine ⟨_, 0, rfl, rfl, ?_, ?_, ?_, ?_, by omega, rfl⟩
      all_goals simp (maxSteps := 10000000) only [↓exA, exB, exC, exN, exD, exR, tys, ↓reduceIte, Nat.reduceLT, Nat.reduceEqDiff, Nat.reduceAdd, Nat.zero_add, Nat.add_zero, List.map_cons, List.map_nil, Option.map_some, Option.map_none, Option.bind_some, List.length_cons, List.length_nil, List.cons_append, List.nil_append, List.append_nil, List.getElem?_cons_zero, List.getElem?_cons_succ, List.set_cons_zero, List.set_cons_succ, Nat.reduceLeDiff, and_self, and_true, true_and, gval, List.take_zero, List.take_succ_cons, List.drop_zero, List.drop_succ_cons, List.all_cons, List.all_nil, Bool.and_self, Bool.not_true, Bool.not_false, beq_true, beq_false, decide_true, decide_false, eq_self, Nat.reducePow]
      rfl
def gSameL (args : List Value) (H : AHeap) : Option (Value × AHeap) :=
  match args with
    | [s, s'] => match rd isF s H, rd isF s' H with
      | some xs, some ys => some (.bool (eqBy sameS xs ys), H)
      | _, _ => none
    | _ => none
theorem gSameL_eq {s s' : Value} {H : AHeap} {xs ys : List Nat} (hs : rd isF s H = some xs) (hs' : rd isF s' H = some ys) : gSameL [s, s'] H = some (.bool (eqBy sameS xs ys), H) := by
  show (match rd isF s H, rd isF s' H with
    | some xs, some ys => some (Value.bool (eqBy sameS xs ys), H)
    | _, _ => none) = _
  rw [hs, hs']

/-! ### Bytes -/
def gLong (args : List Value) (H : AHeap) : Option (Value × AHeap) :=
  match args with
    | [s, s'] => match rd isU8 s H, rd isU8 s' H with
      | some xs, some ys => some (.bool (decide (1048576 < xs.length) || decide (1048576 < ys.length)), H)
      | _, _ => none
    | _ => none
theorem gLong_eq {s s' : Value} {H : AHeap} {xs ys : List Nat} (hs : rd isU8 s H = some xs) (hs' : rd isU8 s' H = some ys) : gLong [s, s'] H = some (.bool (decide (1048576 < xs.length) || decide (1048576 < ys.length)), H) := by
  unfold gLong
  simp only [hs, hs']
theorem snd7 {G : Env} (hG : SoundEnv [] Try.prog G) : Sound [] Try.prog 7 gLong := by
  refine sound_of (rs := [.tmp 4]) (n := 13) hG mix Try.func7 rfl rfl rfl (by kernel_rfl) (by decide +kernel) (by decide +kernel) ?_
  intro args H r H' h
  unfold gLong at h
  split at h
  case h_2 => cases h
  rename_i s s'
  split at h
  case h_2 => cases h
  rename_i xs ys hs hs'
  cases h
  obtain ⟨a, n, c, row⟩ := rd_row hs
  cases row.eq
  obtain ⟨a', n', c', row'⟩ := rd_row hs'
  cases row'.eq
  have hl := row.len
  have hl' := row'.len
  have e1 : decide ((1048576 : Int) < n) = decide (1048576 < xs.length) := by rw [decide_eq_decide]; omega
  have e2 : decide ((1048576 : Int) < n') = decide (1048576 < ys.length) := by rw [decide_eq_decide]; omega
  refine ⟨by simp, ?_⟩
  simp (maxSteps := 10000000) only [↓exA, exB, exC, exN, exD, exR, tys, ↓reduceIte, Nat.reduceLT, Nat.reduceEqDiff, Nat.reduceAdd, Nat.zero_add, Nat.add_zero, List.map_cons, List.map_nil, Option.map_some, Option.map_none, Option.bind_some, List.length_cons, List.length_nil, List.cons_append, List.nil_append, List.append_nil, List.getElem?_cons_zero, List.getElem?_cons_succ, List.set_cons_zero, List.set_cons_succ, Nat.reduceLeDiff, and_self, and_true, true_and, gval, List.take_zero, List.take_succ_cons, List.drop_zero, List.drop_succ_cons, List.all_cons, List.all_nil, Bool.and_self, Bool.not_true, Bool.not_false, beq_true, beq_false, decide_true, decide_false, eq_self, Nat.reducePow]
  refine condW_intro (fun c1 => ?_) (fun c1 => ?_) <;> (try simp only [Bool.not_eq_true', Bool.not_eq_eq_eq_not, Bool.not_true, Bool.not_false, beq_true, beq_false, beq_iff_eq, beq_eq_false_iff_ne, ne_eq, Bool.not_eq_false, Bool.not_eq_true, decide_eq_true_eq, decide_eq_false_iff_not, Bool.not_not] at c1)
  · simp (maxSteps := 10000000) only [↓exA, exB, exC, exN, exD, exR, tys, ↓reduceIte, Nat.reduceLT, Nat.reduceEqDiff, Nat.reduceAdd, Nat.zero_add, Nat.add_zero, List.map_cons, List.map_nil, Option.map_some, Option.map_none, Option.bind_some, List.length_cons, List.length_nil, List.cons_append, List.nil_append, List.append_nil, List.getElem?_cons_zero, List.getElem?_cons_succ, List.set_cons_zero, List.set_cons_succ, Nat.reduceLeDiff, and_self, and_true, true_and, gval, List.take_zero, List.take_succ_cons, List.drop_zero, List.drop_succ_cons, List.all_cons, List.all_nil, Bool.and_self, Bool.not_true, Bool.not_false, beq_true, beq_false, decide_true, decide_false, eq_self, Nat.reducePow, c1]
    rw [← e1, decide_eq_false c1, Bool.false_or, ← e2]
    exact fits_bare rfl
  · simp (maxSteps := 10000000) only [↓exA, exB, exC, exN, exD, exR, tys, ↓reduceIte, Nat.reduceLT, Nat.reduceEqDiff, Nat.reduceAdd, Nat.zero_add, Nat.add_zero, List.map_cons, List.map_nil, Option.map_some, Option.map_none, Option.bind_some, List.length_cons, List.length_nil, List.cons_append, List.nil_append, List.append_nil, List.getElem?_cons_zero, List.getElem?_cons_succ, List.set_cons_zero, List.set_cons_succ, Nat.reduceLeDiff, and_self, and_true, true_and, gval, List.take_zero, List.take_succ_cons, List.drop_zero, List.drop_succ_cons, List.all_cons, List.all_nil, Bool.and_self, Bool.not_true, Bool.not_false, beq_true, beq_false, decide_true, decide_false, eq_self, Nat.reducePow, c1]
    rw [← e1, decide_eq_true c1, Bool.true_or]
    exact fits_bare rfl

/-- A number below n, drawn from the i-th byte. -/
def at10 (bs : List Nat) (i n : Int) : Int :=
  if n ≤ 1 then 0 else if i < bs.length then ((bs.getD i.toNat 0 : Nat) : Int).tmod n else (i * 37 + 11).tmod n
def gAt (args : List Value) (H : AHeap) : Option (Value × AHeap) :=
  match args with
    | [s, .int .i64 i, .int .i64 n] => match rd isU8 s H with
      | some bs => if 0 ≤ i ∧ i < 1000 then some (.int .i64 (at10 bs i n), H) else none
      | _ => none
    | _ => none
theorem gAt_eq {s : Value} {H : AHeap} {bs : List Nat} {i n : Int} (hs : rd isU8 s H = some bs) (h0 : 0 ≤ i) (h1 : i < 1000) : gAt [s, .int .i64 i, .int .i64 n] H = some (.int .i64 (at10 bs i n), H) := by
  unfold gAt
  simp only [hs, h0, h1, and_self, if_true]
theorem at10_range (bs : List Nat) {i n : Int} (h0 : 0 ≤ i) (hn : 1 ≤ n) : 0 ≤ at10 bs i n ∧ at10 bs i n < n := by
  unfold at10
  have key : ∀ x : Int, 0 ≤ x → 0 ≤ x.tmod n ∧ x.tmod n < n := fun x hx => by
    rw [Int.tmod_eq_emod_of_nonneg hx]
    exact ⟨Int.emod_nonneg _ (by omega), Int.emod_lt_of_pos _ (by omega)⟩
  split
  · omega
  · split
    · exact key _ (Int.natCast_nonneg _)
    · exact key _ (by omega)
theorem snd9 {G : Env} (hG : SoundEnv [] Try.prog G) : Sound [] Try.prog 9 gAt := by
  refine sound_of (rs := [.tmp 6]) (n := 25) hG mix Try.func9 rfl rfl rfl (by kernel_rfl) (by decide +kernel) (by decide +kernel) ?_
  intro args H r H' h
  unfold gAt at h
  split at h
  case h_2 => cases h
  rename_i s i n
  split at h
  case h_2 => cases h
  rename_i bs hs
  split at h
  case isFalse => cases h
  rename_i hi
  cases h
  obtain ⟨a, len, c, row⟩ := rd_row hs
  cases row.eq
  have hl := row.len
  refine ⟨by simp, ?_⟩
  simp (maxSteps := 10000000) only [↓exA, exB, exC, exN, exD, exR, tys, ↓reduceIte, Nat.reduceLT, Nat.reduceEqDiff, Nat.reduceAdd, Nat.zero_add, Nat.add_zero, List.map_cons, List.map_nil, Option.map_some, Option.map_none, Option.bind_some, List.length_cons, List.length_nil, List.cons_append, List.nil_append, List.append_nil, List.getElem?_cons_zero, List.getElem?_cons_succ, List.set_cons_zero, List.set_cons_succ, Nat.reduceLeDiff, and_self, and_true, true_and, gval, List.take_zero, List.take_succ_cons, List.drop_zero, List.drop_succ_cons, List.all_cons, List.all_nil, Bool.and_self, Bool.not_true, Bool.not_false, beq_true, beq_false, decide_true, decide_false, eq_self, Nat.reducePow]
  refine condW_intro (fun c1 => ?_) (fun c1 => ?_) <;> (try simp only [Bool.not_eq_true', Bool.not_eq_eq_eq_not, Bool.not_true, Bool.not_false, beq_true, beq_false, beq_iff_eq, beq_eq_false_iff_ne, ne_eq, Bool.not_eq_false, Bool.not_eq_true, decide_eq_true_eq, decide_eq_false_iff_not, Bool.not_not] at c1)
  · simp (maxSteps := 10000000) only [↓exA, exB, exC, exN, exD, exR, tys, ↓reduceIte, Nat.reduceLT, Nat.reduceEqDiff, Nat.reduceAdd, Nat.zero_add, Nat.add_zero, List.map_cons, List.map_nil, Option.map_some, Option.map_none, Option.bind_some, List.length_cons, List.length_nil, List.cons_append, List.nil_append, List.append_nil, List.getElem?_cons_zero, List.getElem?_cons_succ, List.set_cons_zero, List.set_cons_succ, Nat.reduceLeDiff, and_self, and_true, true_and, gval, List.take_zero, List.take_succ_cons, List.drop_zero, List.drop_succ_cons, List.all_cons, List.all_nil, Bool.and_self, Bool.not_true, Bool.not_false, beq_true, beq_false, decide_true, decide_false, eq_self, Nat.reducePow, c1]
    rw [at10, if_pos c1]
    exact fits_bare rfl
  · simp (maxSteps := 10000000) only [↓exA, exB, exC, exN, exD, exR, tys, ↓reduceIte, Nat.reduceLT, Nat.reduceEqDiff, Nat.reduceAdd, Nat.zero_add, Nat.add_zero, List.map_cons, List.map_nil, Option.map_some, Option.map_none, Option.bind_some, List.length_cons, List.length_nil, List.cons_append, List.nil_append, List.append_nil, List.getElem?_cons_zero, List.getElem?_cons_succ, List.set_cons_zero, List.set_cons_succ, Nat.reduceLeDiff, and_self, and_true, true_and, gval, List.take_zero, List.take_succ_cons, List.drop_zero, List.drop_succ_cons, List.all_cons, List.all_nil, Bool.and_self, Bool.not_true, Bool.not_false, beq_true, beq_false, decide_true, decide_false, eq_self, Nat.reducePow, c1]
    have hn0 : n ≠ 0 := by omega
    refine condW_intro (fun c2 => ?_) (fun c2 => ?_) <;> (try simp only [Bool.not_eq_true', Bool.not_eq_eq_eq_not, Bool.not_true, Bool.not_false, beq_true, beq_false, beq_iff_eq, beq_eq_false_iff_ne, ne_eq, Bool.not_eq_false, Bool.not_eq_true, decide_eq_true_eq, decide_eq_false_iff_not, Bool.not_not] at c2)
    · have hii : i.toNat < bs.length := by omega
      obtain ⟨b, off, lk, cs, v, ha, hb, hv, hx⟩ := (row.hp []).get i.toNat bs[i.toNat] (List.getElem?_eq_getElem hii)
      obtain ⟨hv', hv2⟩ := isU8_eq hx; subst hv'; subst ha
      simp (maxSteps := 10000000) only [↓exA, exB, exC, exN, exD, exR, tys, ↓reduceIte, Nat.reduceLT, Nat.reduceEqDiff, Nat.reduceAdd, Nat.zero_add, Nat.add_zero, List.map_cons, List.map_nil, Option.map_some, Option.map_none, Option.bind_some, List.length_cons, List.length_nil, List.cons_append, List.nil_append, List.append_nil, List.getElem?_cons_zero, List.getElem?_cons_succ, List.set_cons_zero, List.set_cons_succ, Nat.reduceLeDiff, and_self, and_true, true_and, gval, List.take_zero, List.take_succ_cons, List.drop_zero, List.drop_succ_cons, List.all_cons, List.all_nil, Bool.and_self, Bool.not_true, Bool.not_false, beq_true, beq_false, decide_true, decide_false, eq_self, Nat.reducePow, hi.1, c2, hb, hv, conv_5_2, bin_irem _ _ _ _ _ _ _ hn0]
      rw [wrap_i64 (by omega) (by omega)]
      have : at10 bs i n = ((bs[i.toNat] : Nat) : Int).tmod n := by
        rw [at10, if_neg c1, if_pos (by omega), List.getD_eq_getElem?_getD, List.getElem?_eq_getElem hii]; rfl
      rw [this]
      exact fits_bare rfl
    · simp (maxSteps := 10000000) only [↓exA, exB, exC, exN, exD, exR, tys, ↓reduceIte, Nat.reduceLT, Nat.reduceEqDiff, Nat.reduceAdd, Nat.zero_add, Nat.add_zero, List.map_cons, List.map_nil, Option.map_some, Option.map_none, Option.bind_some, List.length_cons, List.length_nil, List.cons_append, List.nil_append, List.append_nil, List.getElem?_cons_zero, List.getElem?_cons_succ, List.set_cons_zero, List.set_cons_succ, Nat.reduceLeDiff, and_self, and_true, true_and, gval, List.take_zero, List.take_succ_cons, List.drop_zero, List.drop_succ_cons, List.all_cons, List.all_nil, Bool.and_self, Bool.not_true, Bool.not_false, beq_true, beq_false, decide_true, decide_false, eq_self, Nat.reducePow, bin_irem _ _ _ _ _ _ _ hn0]
      rw [wrap_i64 (n := i * 37) (by omega) (by omega), wrap_i64 (by omega) (by omega)]
      have : at10 bs i n = (i * 37 + 11).tmod n := by
        rw [at10, if_neg c1, if_neg (by omega)]
      rw [this]
      exact fits_bare rfl

/-! ### The source of draws -/
/-- The source lies at 'p': bytes, how many are read, the seed. -/
structure Src (H : AHeap) (p : Nat) (s : Value) (bs : List Nat) (i sd : Int) : Prop where
  blk : H[p]? = some (.live false [s, .int .i64 i, .int .u64 sd])
  bytes : rd isU8 s H = some bs
  apart : apart s p = true
  i0 : 0 ≤ i
  i1 : i < 2 ^ 41
def seedOf (bs : List Nat) (i sd : Int) : Int :=
  IntKind.u64.wrap (IntKind.u64.wrap (IntKind.u64.wrap (sd * 6364136223846793005) + IntKind.u64.wrap (if i < bs.length then ((bs.getD i.toNat 0 : Nat) : Int) else 0)) + 1442695040888963407)
def drawn (bs : List Nat) (i sd : Int) : Int :=
  if i < bs.length then ((bs.getD i.toNat 0 : Nat) : Int)
  else IntKind.i64.wrap (IntKind.u64.wrap (BitVec.ofInt 64 ((seedOf bs i sd).fdiv (2 ^ 40)) &&& BitVec.ofInt 64 255).toNat)
def srcOf (H : AHeap) (p : Nat) : Option (Value × List Nat × Int × Int) :=
  match H[p]? with
  | some (.live false [s, .int .i64 i, .int .u64 sd]) => match rd isU8 s H with
    | some bs => if apart s p = true ∧ 0 ≤ i ∧ i < 2 ^ 41 then some (s, bs, i, sd) else none
    | none => none
  | _ => none
theorem srcOf_eq {H : AHeap} {p : Nat} {s : Value} {bs : List Nat} {i sd : Int} (h : Src H p s bs i sd) : srcOf H p = some (s, bs, i, sd) := by
  unfold srcOf
  simp only [h.blk, h.bytes, h.apart, h.i0, h.i1, and_self, if_true]
theorem srcOf_src {H : AHeap} {p : Nat} {s : Value} {bs : List Nat} {i sd : Int} (h : srcOf H p = some (s, bs, i, sd)) : Src H p s bs i sd := by
  unfold srcOf at h
  split at h
  case h_2 => cases h
  rename_i s' i' sd' hb
  split at h
  case h_2 => cases h
  rename_i bs' hs
  split at h
  case isFalse => cases h
  rename_i hc; cases h
  exact ⟨hb, hs, hc.1, hc.2.1, hc.2.2⟩
def srcBlk (s : Value) (bs : List Nat) (i sd : Int) : Blk := .live false [s, .int .i64 (i + 1), .int .u64 (seedOf bs i sd)]
def gNext (args : List Value) (H : AHeap) : Option (Value × AHeap) :=
  match args with
  | [.pointer (some ⟨p, 0, none⟩)] => match srcOf H p with
    | some (s, bs, i, sd) => some (.int .i64 (drawn bs i sd), H.set p (.live false [s, .int .i64 (i + 1), .int .u64 (seedOf bs i sd)]))
    | none => none
  | _ => none
theorem gNext_eq {H : AHeap} {p : Nat} {s : Value} {bs : List Nat} {i sd : Int} (h : Src H p s bs i sd) : gNext [.pointer (some ⟨p, 0, none⟩)] H = some (.int .i64 (drawn bs i sd), H.set p (.live false [s, .int .i64 (i + 1), .int .u64 (seedOf bs i sd)])) := by
  unfold gNext
  simp only [srcOf_eq h]
theorem Src.rv {H : AHeap} {p : Nat} {s : Value} {bs : List Nat} {i sd : Int} (h : Src H p s bs i sd) : RV (rho H []) s s := by
  obtain ⟨a, n, c, row⟩ := rd_row h.bytes
  have he := row.eq
  have ha := h.apart
  subst he
  rcases row.place with ⟨rfl, rfl, rfl⟩ | ⟨b, off, rfl, hb⟩
  · exact .same rfl
  · simp only [Abs.apart, Bool.and_eq_true, beq_iff_eq] at ha
    obtain ⟨_, rfl⟩ := ha
    exact RV.old_slice hb
theorem snd139 {G : Env} (hG : SoundEnv [] Try.prog G) : Sound [] Try.prog 139 gNext := by
  refine sound_of (rs := [.tmp 2]) (n := 62) hG mix Try.func139 rfl rfl rfl (by kernel_rfl) (by decide +kernel) (by decide +kernel) ?_
  intro args H r H' h
  unfold gNext at h
  split at h
  case h_2 => cases h
  rename_i p
  split at h
  case h_2 => cases h
  rename_i s bs i sd hsrc
  cases h
  have src := srcOf_src hsrc
  obtain ⟨a, n, c, row⟩ := rd_row src.bytes
  cases row.eq
  have hl := row.len
  have hpl : p < H.length := (List.getElem?_eq_some_iff.1 src.blk).1
  have hb := hp_old src.blk []
  have hsm := row.small
  have h0 := src.i0
  have h1 := src.i1
  refine ⟨by simp, ?_⟩
  have hfit : ∀ e, Fits H (.int .i64 (drawn bs i sd)) (H.set p (.live false [.slice a n c, .int .i64 (i + 1), .int .u64 (seedOf bs i sd)])) (.int .i64 (drawn bs i sd)) (hp (H.set p (.live false [.slice a n c, .int .i64 (i + 1), .int .u64 (seedOf bs i sd)])) e) := by
    intro e
    refine fits_set src.blk ?_ rfl
    intro v hv
    simp only [List.mem_cons, List.not_mem_nil, or_false] at hv
    rcases hv with rfl | rfl | rfl
    · exact src.rv
    · exact .same rfl
    · exact .same rfl
  simp (maxSteps := 10000000) only [↓exA, exB, exC, exN, exD, exR, tys, ↓reduceIte, Nat.reduceLT, Nat.reduceEqDiff, Nat.reduceAdd, Nat.zero_add, Nat.add_zero, List.map_cons, List.map_nil, Option.map_some, Option.map_none, Option.bind_some, List.length_cons, List.length_nil, List.cons_append, List.nil_append, List.append_nil, List.getElem?_cons_zero, List.getElem?_cons_succ, List.set_cons_zero, List.set_cons_succ, Nat.reduceLeDiff, and_self, and_true, true_and, gval, List.take_zero, List.take_succ_cons, List.drop_zero, List.drop_succ_cons, List.all_cons, List.all_nil, Bool.and_self, Bool.not_true, Bool.not_false, beq_true, beq_false, decide_true, decide_false, eq_self, Nat.reducePow, hb]
  refine condW_intro (fun c1 => ?_) (fun c1 => ?_) <;> (try simp only [Bool.not_eq_true', Bool.not_eq_eq_eq_not, Bool.not_true, Bool.not_false, beq_true, beq_false, beq_iff_eq, beq_eq_false_iff_ne, ne_eq, Bool.not_eq_false, Bool.not_eq_true, decide_eq_true_eq, decide_eq_false_iff_not, Bool.not_not] at c1)
  · have hii : i.toNat < bs.length := by omega
    obtain ⟨b, off, lk, cs, v, ha, hbb, hv, hx⟩ := (row.hp []).get i.toNat bs[i.toNat] (List.getElem?_eq_getElem hii)
    obtain ⟨hv', hv2⟩ := isU8_eq hx; subst hv'; subst ha
    have hwb : IntKind.i64.wrap (bs[i.toNat] : Nat) = (bs[i.toNat] : Nat) := wrap_i64 (by omega) (by omega)
    have hg : (bs.getD i.toNat 0 : Nat) = bs[i.toNat] := by rw [List.getD_eq_getElem?_getD, List.getElem?_eq_getElem hii]; rfl
    have hw : IntKind.i64.wrap (i + 1) = i + 1 := wrap_i64 (by omega) (by omega)
    have c2 : i + 1 ≤ n := by omega
    have hsd : IntKind.u64.wrap (IntKind.u64.wrap (IntKind.u64.wrap (sd * 6364136223846793005) + IntKind.u64.wrap ((bs[i.toNat] : Nat) : Int)) + 1442695040888963407) = seedOf bs i sd := by
      rw [seedOf, if_pos (by omega), hg]
    have hdr : drawn bs i sd = ((bs[i.toNat] : Nat) : Int) := by rw [drawn, if_pos (by omega), hg]
    simp (maxSteps := 10000000) only [↓exA, exB, exC, exN, exD, exR, tys, ↓reduceIte, Nat.reduceLT, Nat.reduceEqDiff, Nat.reduceAdd, Nat.zero_add, Nat.add_zero, List.map_cons, List.map_nil, Option.map_some, Option.map_none, Option.bind_some, List.length_cons, List.length_nil, List.cons_append, List.nil_append, List.append_nil, List.getElem?_cons_zero, List.getElem?_cons_succ, List.set_cons_zero, List.set_cons_succ, Nat.reduceLeDiff, and_self, and_true, true_and, gval, List.take_zero, List.take_succ_cons, List.drop_zero, List.drop_succ_cons, List.all_cons, List.all_nil, Bool.and_self, Bool.not_true, Bool.not_false, beq_true, beq_false, decide_true, decide_false, eq_self, Nat.reducePow, hb, h0, c1, hbb, hv, oldset hpl, hw, c2, hwb, hsd]
    rw [← hdr]
    exact hfit _
  · have hw : IntKind.i64.wrap (i + 1) = i + 1 := wrap_i64 (by omega) (by omega)
    have c2 : ¬ i + 1 ≤ n := by omega
    have hw0 : IntKind.u64.wrap 0 = 0 := by decide
    have hsd : IntKind.u64.wrap (IntKind.u64.wrap (IntKind.u64.wrap (sd * 6364136223846793005) + 0) + 1442695040888963407) = seedOf bs i sd := by
      rw [seedOf, if_neg (by omega), hw0]
    simp (maxSteps := 10000000) only [↓exA, exB, exC, exN, exD, exR, tys, ↓reduceIte, Nat.reduceLT, Nat.reduceEqDiff, Nat.reduceAdd, Nat.zero_add, Nat.add_zero, List.map_cons, List.map_nil, Option.map_some, Option.map_none, Option.bind_some, List.length_cons, List.length_nil, List.cons_append, List.nil_append, List.append_nil, List.getElem?_cons_zero, List.getElem?_cons_succ, List.set_cons_zero, List.set_cons_succ, Nat.reduceLeDiff, and_self, and_true, true_and, gval, List.take_zero, List.take_succ_cons, List.drop_zero, List.drop_succ_cons, List.all_cons, List.all_nil, Bool.and_self, Bool.not_true, Bool.not_false, beq_true, beq_false, decide_true, decide_false, eq_self, Nat.reducePow, hb, c1, oldset hpl, hw, c2, hw0, hsd, bin_ishr _ _ _ _ _ _ _ _ (show (0 : Int) ≤ 40 by decide), bin_iand]
    have hdr : drawn bs i sd = IntKind.i64.wrap (IntKind.u64.wrap (BitVec.ofInt 64 ((seedOf bs i sd).fdiv (2 ^ 40)) &&& BitVec.ofInt 64 255).toNat) := by rw [drawn, if_neg (by omega)]
    have := hfit []
    rw [hdr] at this ⊢
    exact this

end Go.Proofs.Ytnhhdgopgecggaa.Abs
