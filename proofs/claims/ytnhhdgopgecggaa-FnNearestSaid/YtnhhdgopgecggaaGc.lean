/- How far two series are apart. No condition. -/
import Derived.Test.YtnhhdgopgecggaaGb
set_option linter.unusedVariables false
set_option linter.unusedSimpArgs false
set_option maxRecDepth 100000
set_option maxHeartbeats 4000000
namespace Go.Proofs.Ytnhhdgopgecggaa.Abs
open Go

def two (xs ys : List Nat) : Bool := series xs && series ys && decide (xs.length = ys.length)
def gPred2 (q : List Nat → List Nat → Bool) (args : List Value) (H : AHeap) : Option (Value × AHeap) :=
  match args with
  | [s, s'] => match rd isF s H, rd isF s' H with
    | some xs, some ys => some (.bool (q xs ys), H)
    | _, _ => none
  | _ => none
theorem gPred2_eq {q : List Nat → List Nat → Bool} {s s' : Value} {H : AHeap} {xs ys : List Nat} (h : rd isF s H = some xs) (h' : rd isF s' H = some ys) : gPred2 q [s, s'] H = some (.bool (q xs ys), H) := by
  unfold gPred2; dsimp only; rw [h, h']
theorem gList_rd {q : List Nat → Bool} {s : Value} {H : AHeap} {xs : List Nat} (h : rd isF s H = some xs) : gList q [s] H = some (.bool (q xs), H) := by
  rw [gList_eq, h]; rfl
theorem snd72 {G : Env} (hG : SoundEnv [] Try.prog G) (h57 : G 57 = gList series) : Sound [] Try.prog 72 (gPred2 two) := by
  refine sound_of (rs := [.tmp 4]) (n := 18) hG mix Try.func72 rfl rfl rfl (by kernel_rfl) (by decide +kernel) (by decide +kernel) ?_
  intro args H r H' h
  unfold gPred2 at h
  split at h
  case h_2 => cases h
  rename_i s s'
  split at h
  case h_2 => cases h
  rename_i xs ys hs hs'
  cases h
  obtain ⟨a, n, c, row⟩ := rd_row hs
  cases row.eq
  obtain ⟨a', n', c', row'⟩ := rd_row hs'
  cases row'.eq
  have hl := row.len
  have hl' := row'.len
  have e1 := fun e => gList_rd (q := series) (rd_hp hs e)
  have e2 := fun e => gList_rd (q := series) (rd_hp hs' e)
  refine ⟨by simp, ?_⟩
  unfold two
  cases c1 : series xs
  · simp (maxSteps := 10000000) only [↓exA, exB, exC, exN, exD, exR, tys, ↓reduceIte, Nat.reduceLT, Nat.reduceEqDiff, Nat.reduceAdd, Nat.zero_add, Nat.add_zero, List.map_cons, List.map_nil, Option.map_some, Option.map_none, Option.bind_some, List.length_cons, List.length_nil, List.cons_append, List.nil_append, List.append_nil, List.getElem?_cons_zero, List.getElem?_cons_succ, List.set_cons_zero, List.set_cons_succ, Nat.reduceLeDiff, and_self, and_true, true_and, gval, List.take_zero, List.take_succ_cons, List.drop_zero, List.drop_succ_cons, List.all_cons, List.all_nil, Bool.and_self, Bool.not_true, Bool.not_false, beq_true, beq_false, decide_true, decide_false, eq_self, Nat.reducePow, h57, e1, e2, c1]
    exact fits_bare rfl
  · cases c2 : series ys
    · simp (maxSteps := 10000000) only [↓exA, exB, exC, exN, exD, exR, tys, ↓reduceIte, Nat.reduceLT, Nat.reduceEqDiff, Nat.reduceAdd, Nat.zero_add, Nat.add_zero, List.map_cons, List.map_nil, Option.map_some, Option.map_none, Option.bind_some, List.length_cons, List.length_nil, List.cons_append, List.nil_append, List.append_nil, List.getElem?_cons_zero, List.getElem?_cons_succ, List.set_cons_zero, List.set_cons_succ, Nat.reduceLeDiff, and_self, and_true, true_and, gval, List.take_zero, List.take_succ_cons, List.drop_zero, List.drop_succ_cons, List.all_cons, List.all_nil, Bool.and_self, Bool.not_true, Bool.not_false, beq_true, beq_false, decide_true, decide_false, eq_self, Nat.reducePow, h57, e1, e2, c1, c2]
      exact fits_bare rfl
    · simp (maxSteps := 10000000) only [↓exA, exB, exC, exN, exD, exR, tys, ↓reduceIte, Nat.reduceLT, Nat.reduceEqDiff, Nat.reduceAdd, Nat.zero_add, Nat.add_zero, List.map_cons, List.map_nil, Option.map_some, Option.map_none, Option.bind_some, List.length_cons, List.length_nil, List.cons_append, List.nil_append, List.append_nil, List.getElem?_cons_zero, List.getElem?_cons_succ, List.set_cons_zero, List.set_cons_succ, Nat.reduceLeDiff, and_self, and_true, true_and, gval, List.take_zero, List.take_succ_cons, List.drop_zero, List.drop_succ_cons, List.all_cons, List.all_nil, Bool.and_self, Bool.not_true, Bool.not_false, beq_true, beq_false, decide_true, decide_false, eq_self, Nat.reducePow, h57, e1, e2, c1, c2]
      have : decide ((n : Int) = (n' : Int)) = decide (xs.length = ys.length) := by rw [decide_eq_decide]; omega
      rw [this]
      exact fits_bare rfl
def gWindow (args : List Value) (H : AHeap) : Option (Value × AHeap) :=
  match args with
  | [s, s', .int .i64 w] => match rd isF s H, rd isF s' H with
    | some xs, some ys => some (.bool (series xs && series ys && decide (0 ≤ w ∧ w ≤ 96)), H)
    | _, _ => none
  | _ => none
theorem gWindow_eq {s s' : Value} {w : Int} {H : AHeap} {xs ys : List Nat} (h : rd isF s H = some xs) (h' : rd isF s' H = some ys) : gWindow [s, s', .int .i64 w] H = some (.bool (series xs && series ys && decide (0 ≤ w ∧ w ≤ 96)), H) := by
  unfold gWindow; dsimp only; rw [h, h']
theorem snd73 {G : Env} (hG : SoundEnv [] Try.prog G) (h57 : G 57 = gList series) (h106 : G 106 = gWithin) : Sound [] Try.prog 73 gWindow := by
  refine sound_of (rs := [.tmp 6]) (n := 17) hG mix Try.func73 rfl rfl rfl (by kernel_rfl) (by decide +kernel) (by decide +kernel) ?_
  intro args H r H' h
  unfold gWindow at h
  split at h
  case h_2 => cases h
  rename_i s s' w
  split at h
  case h_2 => cases h
  rename_i xs ys hs hs'
  cases h
  have e1 := fun e => gList_rd (q := series) (rd_hp hs e)
  have e2 := fun e => gList_rd (q := series) (rd_hp hs' e)
  refine ⟨by simp, ?_⟩
  cases c1 : series xs
  · simp (maxSteps := 10000000) only [↓exA, exB, exC, exN, exD, exR, tys, ↓reduceIte, Nat.reduceLT, Nat.reduceEqDiff, Nat.reduceAdd, Nat.zero_add, Nat.add_zero, List.map_cons, List.map_nil, Option.map_some, Option.map_none, Option.bind_some, List.length_cons, List.length_nil, List.cons_append, List.nil_append, List.append_nil, List.getElem?_cons_zero, List.getElem?_cons_succ, List.set_cons_zero, List.set_cons_succ, Nat.reduceLeDiff, and_self, and_true, true_and, gval, List.take_zero, List.take_succ_cons, List.drop_zero, List.drop_succ_cons, List.all_cons, List.all_nil, Bool.and_self, Bool.not_true, Bool.not_false, beq_true, beq_false, decide_true, decide_false, eq_self, Nat.reducePow, h57, e1, e2, c1]
    exact fits_bare rfl
  · cases c2 : series ys
    · simp (maxSteps := 10000000) only [↓exA, exB, exC, exN, exD, exR, tys, ↓reduceIte, Nat.reduceLT, Nat.reduceEqDiff, Nat.reduceAdd, Nat.zero_add, Nat.add_zero, List.map_cons, List.map_nil, Option.map_some, Option.map_none, Option.bind_some, List.length_cons, List.length_nil, List.cons_append, List.nil_append, List.append_nil, List.getElem?_cons_zero, List.getElem?_cons_succ, List.set_cons_zero, List.set_cons_succ, Nat.reduceLeDiff, and_self, and_true, true_and, gval, List.take_zero, List.take_succ_cons, List.drop_zero, List.drop_succ_cons, List.all_cons, List.all_nil, Bool.and_self, Bool.not_true, Bool.not_false, beq_true, beq_false, decide_true, decide_false, eq_self, Nat.reducePow, h57, e1, e2, c1, c2]
      exact fits_bare rfl
    · simp (maxSteps := 10000000) only [↓exA, exB, exC, exN, exD, exR, tys, ↓reduceIte, Nat.reduceLT, Nat.reduceEqDiff, Nat.reduceAdd, Nat.zero_add, Nat.add_zero, List.map_cons, List.map_nil, Option.map_some, Option.map_none, Option.bind_some, List.length_cons, List.length_nil, List.cons_append, List.nil_append, List.append_nil, List.getElem?_cons_zero, List.getElem?_cons_succ, List.set_cons_zero, List.set_cons_succ, Nat.reduceLeDiff, and_self, and_true, true_and, gval, List.take_zero, List.take_succ_cons, List.drop_zero, List.drop_succ_cons, List.all_cons, List.all_nil, Bool.and_self, Bool.not_true, Bool.not_false, beq_true, beq_false, decide_true, decide_false, eq_self, Nat.reducePow, h57, e1, e2, c1, c2, h106, gWithin_eq]
      exact fits_bare rfl
def gWorkers (args : List Value) (H : AHeap) : Option (Value × AHeap) :=
  match args with
  | [.int .i64 n] => some (.bool (decide (1 ≤ n ∧ n ≤ 8)), H)
  | _ => none
theorem gWorkers_eq (n : Int) (H : AHeap) : gWorkers [.int .i64 n] H = some (.bool (decide (1 ≤ n ∧ n ≤ 8)), H) := rfl
theorem snd74 {G : Env} (hG : SoundEnv [] Try.prog G) (h106 : G 106 = gWithin) : Sound [] Try.prog 74 gWorkers := by
  refine sound_of (rs := [.tmp 2]) (n := 5) hG mix Try.func74 rfl rfl rfl (by kernel_rfl) (by decide +kernel) (by decide +kernel) ?_
  intro args H r H' h
  unfold gWorkers at h
  split at h
  case h_2 => cases h
  rename_i n; cases h
  refine ⟨by simp, ?_⟩
  simp (maxSteps := 10000000) only [↓exA, exB, exC, exN, exD, exR, tys, ↓reduceIte, Nat.reduceLT, Nat.reduceEqDiff, Nat.reduceAdd, Nat.zero_add, Nat.add_zero, List.map_cons, List.map_nil, Option.map_some, Option.map_none, Option.bind_some, List.length_cons, List.length_nil, List.cons_append, List.nil_append, List.append_nil, List.getElem?_cons_zero, List.getElem?_cons_succ, List.set_cons_zero, List.set_cons_succ, Nat.reduceLeDiff, and_self, and_true, true_and, gval, List.take_zero, List.take_succ_cons, List.drop_zero, List.drop_succ_cons, List.all_cons, List.all_nil, Bool.and_self, Bool.not_true, Bool.not_false, beq_true, beq_false, decide_true, decide_false, eq_self, Nat.reducePow, h106, gWithin_eq]
  exact fits_bare rfl
def ifV (x : Nat) : Value := .tuple ⟨if isFin x = true then [.float .f32 x, .bool true] else [.float .f32 0, .bool false]⟩
def gIfFin (args : List Value) (H : AHeap) : Option (Value × AHeap) :=
  match args with
  | [.float .f32 x] => some (ifV x, H)
  | _ => none
theorem gIfFin_eq (x : Nat) (H : AHeap) : gIfFin [.float .f32 x] H = some (ifV x, H) := rfl
theorem ifV_yes {x : Nat} (h : isFin x = true) : ifV x = .tuple ⟨[.float .f32 x, .bool true]⟩ := by unfold ifV; rw [if_pos h]
theorem ifV_no {x : Nat} (h : isFin x = false) : ifV x = .tuple ⟨[.float .f32 0, .bool false]⟩ := by unfold ifV; rw [if_neg (by rw [h]; decide)]
theorem snd76 {G : Env} (hG : SoundEnv [] Try.prog G) (h67 : G 67 = gFin) : Sound [] Try.prog 76 gIfFin := by
  refine sound_of (rs := [.tmp 2, .tmp 3]) (n := 8) hG mix Try.func76 rfl rfl rfl (by kernel_rfl) (by decide +kernel) (by decide +kernel) ?_
  intro args H r H' h
  unfold gIfFin at h
  split at h
  case h_2 => cases h
  rename_i x; cases h
  refine ⟨by simp, ?_⟩
  simp (maxSteps := 10000000) only [↓exA, exB, exC, exN, exD, exR, tys, ↓reduceIte, Nat.reduceLT, Nat.reduceEqDiff, Nat.reduceAdd, Nat.zero_add, Nat.add_zero, List.map_cons, List.map_nil, Option.map_some, Option.map_none, Option.bind_some, List.length_cons, List.length_nil, List.cons_append, List.nil_append, List.append_nil, List.getElem?_cons_zero, List.getElem?_cons_succ, List.set_cons_zero, List.set_cons_succ, Nat.reduceLeDiff, and_self, and_true, true_and, gval, List.take_zero, List.take_succ_cons, List.drop_zero, List.drop_succ_cons, List.all_cons, List.all_nil, Bool.and_self, Bool.not_true, Bool.not_false, beq_true, beq_false, decide_true, decide_false, eq_self, Nat.reducePow, h67, gFin_eq]
  refine condW_intro (fun c1 => ?_) (fun c1 => ?_) <;> (try simp only [Bool.not_eq_true', Bool.not_eq_eq_eq_not, Bool.not_true, Bool.not_false, beq_true, beq_false, beq_iff_eq, beq_eq_false_iff_ne, ne_eq, Bool.not_eq_false, Bool.not_eq_true, decide_eq_true_eq, decide_eq_false_iff_not, Bool.not_not] at c1)
  · simp (maxSteps := 10000000) only [↓exA, exB, exC, exN, exD, exR, tys, ↓reduceIte, Nat.reduceLT, Nat.reduceEqDiff, Nat.reduceAdd, Nat.zero_add, Nat.add_zero, List.map_cons, List.map_nil, Option.map_some, Option.map_none, Option.bind_some, List.length_cons, List.length_nil, List.cons_append, List.nil_append, List.append_nil, List.getElem?_cons_zero, List.getElem?_cons_succ, List.set_cons_zero, List.set_cons_succ, Nat.reduceLeDiff, and_self, and_true, true_and, gval, List.take_zero, List.take_succ_cons, List.drop_zero, List.drop_succ_cons, List.all_cons, List.all_nil, Bool.and_self, Bool.not_true, Bool.not_false, beq_true, beq_false, decide_true, decide_false, eq_self, Nat.reducePow, c1, ifV_no c1]
    exact fits_bare rfl
  · simp (maxSteps := 10000000) only [↓exA, exB, exC, exN, exD, exR, tys, ↓reduceIte, Nat.reduceLT, Nat.reduceEqDiff, Nat.reduceAdd, Nat.zero_add, Nat.add_zero, List.map_cons, List.map_nil, Option.map_some, Option.map_none, Option.bind_some, List.length_cons, List.length_nil, List.cons_append, List.nil_append, List.append_nil, List.getElem?_cons_zero, List.getElem?_cons_succ, List.set_cons_zero, List.set_cons_succ, Nat.reduceLeDiff, and_self, and_true, true_and, gval, List.take_zero, List.take_succ_cons, List.drop_zero, List.drop_succ_cons, List.all_cons, List.all_nil, Bool.and_self, Bool.not_true, Bool.not_false, beq_true, beq_false, decide_true, decide_false, eq_self, Nat.reducePow, c1, ifV_yes c1]
    exact fits_bare rfl
theorem snd79 {G : Env} (hG : SoundEnv [] Try.prog G) (h68 : G 68 = gFin) : Sound [] Try.prog 79 gIfFin := by
  refine sound_of (rs := [.tmp 2, .tmp 3]) (n := 8) hG mix Try.func79 rfl rfl rfl (by kernel_rfl) (by decide +kernel) (by decide +kernel) ?_
  intro args H r H' h
  unfold gIfFin at h
  split at h
  case h_2 => cases h
  rename_i x; cases h
  refine ⟨by simp, ?_⟩
  simp (maxSteps := 10000000) only [↓exA, exB, exC, exN, exD, exR, tys, ↓reduceIte, Nat.reduceLT, Nat.reduceEqDiff, Nat.reduceAdd, Nat.zero_add, Nat.add_zero, List.map_cons, List.map_nil, Option.map_some, Option.map_none, Option.bind_some, List.length_cons, List.length_nil, List.cons_append, List.nil_append, List.append_nil, List.getElem?_cons_zero, List.getElem?_cons_succ, List.set_cons_zero, List.set_cons_succ, Nat.reduceLeDiff, and_self, and_true, true_and, gval, List.take_zero, List.take_succ_cons, List.drop_zero, List.drop_succ_cons, List.all_cons, List.all_nil, Bool.and_self, Bool.not_true, Bool.not_false, beq_true, beq_false, decide_true, decide_false, eq_self, Nat.reducePow, h68, gFin_eq]
  refine condW_intro (fun c1 => ?_) (fun c1 => ?_) <;> (try simp only [Bool.not_eq_true', Bool.not_eq_eq_eq_not, Bool.not_true, Bool.not_false, beq_true, beq_false, beq_iff_eq, beq_eq_false_iff_ne, ne_eq, Bool.not_eq_false, Bool.not_eq_true, decide_eq_true_eq, decide_eq_false_iff_not, Bool.not_not] at c1)
  · simp (maxSteps := 10000000) only [↓exA, exB, exC, exN, exD, exR, tys, ↓reduceIte, Nat.reduceLT, Nat.reduceEqDiff, Nat.reduceAdd, Nat.zero_add, Nat.add_zero, List.map_cons, List.map_nil, Option.map_some, Option.map_none, Option.bind_some, List.length_cons, List.length_nil, List.cons_append, List.nil_append, List.append_nil, List.getElem?_cons_zero, List.getElem?_cons_succ, List.set_cons_zero, List.set_cons_succ, Nat.reduceLeDiff, and_self, and_true, true_and, gval, List.take_zero, List.take_succ_cons, List.drop_zero, List.drop_succ_cons, List.all_cons, List.all_nil, Bool.and_self, Bool.not_true, Bool.not_false, beq_true, beq_false, decide_true, decide_false, eq_self, Nat.reducePow, c1, ifV_no c1]
    exact fits_bare rfl
  · simp (maxSteps := 10000000) only [↓exA, exB, exC, exN, exD, exR, tys, ↓reduceIte, Nat.reduceLT, Nat.reduceEqDiff, Nat.reduceAdd, Nat.zero_add, Nat.add_zero, List.map_cons, List.map_nil, Option.map_some, Option.map_none, Option.bind_some, List.length_cons, List.length_nil, List.cons_append, List.nil_append, List.append_nil, List.getElem?_cons_zero, List.getElem?_cons_succ, List.set_cons_zero, List.set_cons_succ, Nat.reduceLeDiff, and_self, and_true, true_and, gval, List.take_zero, List.take_succ_cons, List.drop_zero, List.drop_succ_cons, List.all_cons, List.all_nil, Bool.and_self, Bool.not_true, Bool.not_false, beq_true, beq_false, decide_true, decide_false, eq_self, Nat.reducePow, c1, ifV_yes c1]
    exact fits_bare rfl

/-- How far two lists of the same length are apart. -/
def farL (xs ys : List Nat) : Nat := root (dotL (lessL xs ys) (lessL xs ys))
def gFar (args : List Value) (H : AHeap) : Option (Value × AHeap) :=
  match args with
  | [s, s'] => match rd isF s H, rd isF s' H with
    | some xs, some ys => if xs.length ≤ ys.length ∧ xs.length ≤ 1048576 then some (.float .f32 (farL xs ys), H) else none
    | _, _ => none
  | _ => none
theorem gFar_eq {s s' : Value} {H : AHeap} {xs ys : List Nat} (h : rd isF s H = some xs) (h' : rd isF s' H = some ys) (hl : xs.length ≤ ys.length) (hm : xs.length ≤ 1048576) : gFar [s, s'] H = some (.float .f32 (farL xs ys), H) := by
  unfold gFar; dsimp only; rw [h, h']; dsimp only; rw [if_pos ⟨hl, hm⟩]
theorem rd_mkF (l : List Nat) (H e : AHeap) (hl : l.length ≤ 2 ^ 40) : rd isF (.slice (some ⟨nb H e.length, 0, none⟩) l.length l.length) (hp H (e ++ [.live false (l.map fun x => .float .f32 x)])) = some l :=
  rd_new _ _ (getElem?_app_len e _) (mapM_isF l) (by simp) hl
theorem snd77 {G : Env} (hG : SoundEnv [] Try.prog G) (h128 : G 128 = gRow2 lessL) (h85 : G 85 = gNum2 dotL) (h84 : G 84 = gRoot) : Sound [] Try.prog 77 gFar := by
  refine sound_of (rs := [.tmp 4]) (n := 13) hG mix Try.func77 rfl rfl rfl (by kernel_rfl) (by decide +kernel) (by decide +kernel) ?_
  intro args H r H' h
  unfold gFar at h
  split at h
  case h_2 => cases h
  rename_i s s'
  split at h
  case h_2 => cases h
  rename_i xs ys hs hs'
  split at h
  case isFalse => cases h
  rename_i hlen
  obtain ⟨hlen, hbig⟩ := hlen
  cases h
  refine ⟨by simp, ?_⟩
  have hll : (lessL xs ys).length = xs.length := by simp [lessL, mapL]
  simp (maxSteps := 10000000) only [↓exA, exB, exC, exN, exD, exR, tys, ↓reduceIte, Nat.reduceLT, Nat.reduceEqDiff, Nat.reduceAdd, Nat.zero_add, Nat.add_zero, List.map_cons, List.map_nil, Option.map_some, Option.map_none, Option.bind_some, List.length_cons, List.length_nil, List.cons_append, List.nil_append, List.append_nil, List.getElem?_cons_zero, List.getElem?_cons_succ, List.set_cons_zero, List.set_cons_succ, Nat.reduceLeDiff, and_self, and_true, true_and, gval, List.take_zero, List.take_succ_cons, List.drop_zero, List.drop_succ_cons, List.all_cons, List.all_nil, Bool.and_self, Bool.not_true, Bool.not_false, beq_true, beq_false, decide_true, decide_false, eq_self, Nat.reducePow, h128, gRow2_eq (rd_hp hs _) (rd_hp hs' _) hlen hbig]
  have hr := rd_mkF (lessL xs ys) H [] (by omega)
  simp only [List.nil_append, List.length_nil] at hr
  simp (maxSteps := 10000000) only [↓exA, exB, exC, exN, exD, exR, tys, ↓reduceIte, Nat.reduceLT, Nat.reduceEqDiff, Nat.reduceAdd, Nat.zero_add, Nat.add_zero, List.map_cons, List.map_nil, Option.map_some, Option.map_none, Option.bind_some, List.length_cons, List.length_nil, List.cons_append, List.nil_append, List.append_nil, List.getElem?_cons_zero, List.getElem?_cons_succ, List.set_cons_zero, List.set_cons_succ, Nat.reduceLeDiff, and_self, and_true, true_and, gval, List.take_zero, List.take_succ_cons, List.drop_zero, List.drop_succ_cons, List.all_cons, List.all_nil, Bool.and_self, Bool.not_true, Bool.not_false, beq_true, beq_false, decide_true, decide_false, eq_self, Nat.reducePow, h85, gNum2_eq hr hr (Nat.le_refl _), h84, gRoot_eq]
  exact fits_bare rfl

def farV (xs ys : List Nat) : Value := if two xs ys = true then ifV (farL xs ys) else .tuple ⟨[.float .f32 0, .bool false]⟩
def gFarS (args : List Value) (H : AHeap) : Option (Value × AHeap) :=
  match args with
  | [s, s'] => match rd isF s H, rd isF s' H with
    | some xs, some ys => some (farV xs ys, H)
    | _, _ => none
  | _ => none
theorem gFarS_eq {s s' : Value} {H : AHeap} {xs ys : List Nat} (h : rd isF s H = some xs) (h' : rd isF s' H = some ys) : gFarS [s, s'] H = some (farV xs ys, H) := by
  unfold gFarS; dsimp only; rw [h, h']
theorem two_inv {xs ys : List Nat} (h : two xs ys = true) : series xs = true ∧ series ys = true ∧ xs.length = ys.length ∧ 1 ≤ xs.length ∧ xs.length ≤ 96 := by
  unfold two at h
  simp only [Bool.and_eq_true, decide_eq_true_eq] at h
  obtain ⟨⟨h1, h2⟩, h3⟩ := h
  have h1' := h1
  unfold series at h1'
  simp only [Bool.and_eq_true, decide_eq_true_eq] at h1'
  exact ⟨h1, h2, h3, h1'.1, h1'.2.1⟩
theorem bare_ifV (x : Nat) : bare (ifV x) = true := by unfold ifV; split <;> rfl
theorem snd23 {G : Env} (hG : SoundEnv [] Try.prog G) (h72 : G 72 = gPred2 two) (h77 : G 77 = gFar) (h76 : G 76 = gIfFin) : Sound [] Try.prog 23 gFarS := by
  refine sound_of (rs := [.tmp 4, .tmp 5]) (n := 16) hG mix Try.func23 rfl rfl rfl (by kernel_rfl) (by decide +kernel) (by decide +kernel) ?_
  intro args H r H' h
  unfold gFarS at h
  split at h
  case h_2 => cases h
  rename_i s s'
  split at h
  case h_2 => cases h
  rename_i xs ys hs hs'
  cases h
  refine ⟨by simp, ?_⟩
  unfold farV
  simp (maxSteps := 10000000) only [↓exA, exB, exC, exN, exD, exR, tys, ↓reduceIte, Nat.reduceLT, Nat.reduceEqDiff, Nat.reduceAdd, Nat.zero_add, Nat.add_zero, List.map_cons, List.map_nil, Option.map_some, Option.map_none, Option.bind_some, List.length_cons, List.length_nil, List.cons_append, List.nil_append, List.append_nil, List.getElem?_cons_zero, List.getElem?_cons_succ, List.set_cons_zero, List.set_cons_succ, Nat.reduceLeDiff, and_self, and_true, true_and, gval, List.take_zero, List.take_succ_cons, List.drop_zero, List.drop_succ_cons, List.all_cons, List.all_nil, Bool.and_self, Bool.not_true, Bool.not_false, beq_true, beq_false, decide_true, decide_false, eq_self, Nat.reducePow, h72, gPred2_eq (rd_hp hs _) (rd_hp hs' _)]
  refine condW_intro (fun c1 => ?_) (fun c1 => ?_) <;> (try simp only [Bool.not_eq_true', Bool.not_eq_eq_eq_not, Bool.not_true, Bool.not_false, beq_true, beq_false, beq_iff_eq, beq_eq_false_iff_ne, ne_eq, Bool.not_eq_false, Bool.not_eq_true, decide_eq_true_eq, decide_eq_false_iff_not, Bool.not_not] at c1)
  · simp (maxSteps := 10000000) only [↓exA, exB, exC, exN, exD, exR, tys, ↓reduceIte, Nat.reduceLT, Nat.reduceEqDiff, Nat.reduceAdd, Nat.zero_add, Nat.add_zero, List.map_cons, List.map_nil, Option.map_some, Option.map_none, Option.bind_some, List.length_cons, List.length_nil, List.cons_append, List.nil_append, List.append_nil, List.getElem?_cons_zero, List.getElem?_cons_succ, List.set_cons_zero, List.set_cons_succ, Nat.reduceLeDiff, and_self, and_true, true_and, gval, List.take_zero, List.take_succ_cons, List.drop_zero, List.drop_succ_cons, List.all_cons, List.all_nil, Bool.and_self, Bool.not_true, Bool.not_false, beq_true, beq_false, decide_true, decide_false, eq_self, Nat.reducePow, c1]
    exact fits_bare rfl
  · obtain ⟨t1, t2, t3, t4, t5⟩ := two_inv c1
    simp (maxSteps := 10000000) only [↓exA, exB, exC, exN, exD, exR, tys, ↓reduceIte, Nat.reduceLT, Nat.reduceEqDiff, Nat.reduceAdd, Nat.zero_add, Nat.add_zero, List.map_cons, List.map_nil, Option.map_some, Option.map_none, Option.bind_some, List.length_cons, List.length_nil, List.cons_append, List.nil_append, List.append_nil, List.getElem?_cons_zero, List.getElem?_cons_succ, List.set_cons_zero, List.set_cons_succ, Nat.reduceLeDiff, and_self, and_true, true_and, gval, List.take_zero, List.take_succ_cons, List.drop_zero, List.drop_succ_cons, List.all_cons, List.all_nil, Bool.and_self, Bool.not_true, Bool.not_false, beq_true, beq_false, decide_true, decide_false, eq_self, Nat.reducePow, c1, h77, gFar_eq (rd_hp hs _) (rd_hp hs' _) (by omega) (by omega), h76, gIfFin_eq]
    cases c2 : isFin (farL xs ys)
    · rw [ifV_no c2]
      simp (maxSteps := 10000000) only [↓exA, exB, exC, exN, exD, exR, tys, ↓reduceIte, Nat.reduceLT, Nat.reduceEqDiff, Nat.reduceAdd, Nat.zero_add, Nat.add_zero, List.map_cons, List.map_nil, Option.map_some, Option.map_none, Option.bind_some, List.length_cons, List.length_nil, List.cons_append, List.nil_append, List.append_nil, List.getElem?_cons_zero, List.getElem?_cons_succ, List.set_cons_zero, List.set_cons_succ, Nat.reduceLeDiff, and_self, and_true, true_and, gval, List.take_zero, List.take_succ_cons, List.drop_zero, List.drop_succ_cons, List.all_cons, List.all_nil, Bool.and_self, Bool.not_true, Bool.not_false, beq_true, beq_false, decide_true, decide_false, eq_self, Nat.reducePow]
      exact fits_bare rfl
    · rw [ifV_yes c2]
      simp (maxSteps := 10000000) only [↓exA, exB, exC, exN, exD, exR, tys, ↓reduceIte, Nat.reduceLT, Nat.reduceEqDiff, Nat.reduceAdd, Nat.zero_add, Nat.add_zero, List.map_cons, List.map_nil, Option.map_some, Option.map_none, Option.bind_some, List.length_cons, List.length_nil, List.cons_append, List.nil_append, List.append_nil, List.getElem?_cons_zero, List.getElem?_cons_succ, List.set_cons_zero, List.set_cons_succ, Nat.reduceLeDiff, and_self, and_true, true_and, gval, List.take_zero, List.take_succ_cons, List.drop_zero, List.drop_succ_cons, List.all_cons, List.all_nil, Bool.and_self, Bool.not_true, Bool.not_false, beq_true, beq_false, decide_true, decide_false, eq_self, Nat.reducePow]
      exact fits_bare rfl
theorem getD_mapL (F : Nat → Nat) {n i : Nat} (h : i < n) : (mapL F n).getD i 0 = F i := by
  unfold mapL
  rw [List.getD_eq_getElem?_getD, List.getElem?_map, List.getElem?_range h]; rfl
theorem accN_congr {f g : Nat → Nat → Nat} (z : Nat) : ∀ (n : Nat), (∀ s i, i < n → f s i = g s i) → accN f z n = accN g z n
  | 0, _ => rfl
  | n + 1, h => by
    show f (accN f z n) n = g (accN g z n) n
    rw [accN_congr z n (fun s i hi => h s i (by omega)), h _ _ (by omega)]
def farN (xs ys : List Nat) : Nat → Nat := accN (fun s i => fbin .add .f32 s (fbin .mul .f32 (fbin .sub .f32 (xs.getD i 0) (ys.getD i 0)) (fbin .sub .f32 (xs.getD i 0) (ys.getD i 0)))) 0
theorem farN_eq (xs ys : List Nat) : farN xs ys xs.length = dotL (lessL xs ys) (lessL xs ys) := by
  have : (lessL xs ys).length = xs.length := by simp [lessL, mapL]
  unfold farN dotL dotN
  rw [this]
  refine accN_congr 0 _ (fun s i hi => ?_)
  unfold lessL
  rw [getD_mapL _ hi]
theorem farN_succ (xs ys : List Nat) (i : Nat) : farN xs ys (i + 1) = fbin .add .f32 (farN xs ys i) (fbin .mul .f32 (fbin .sub .f32 (xs.getD i 0) (ys.getD i 0)) (fbin .sub .f32 (xs.getD i 0) (ys.getD i 0))) := rfl
theorem snd80 {G : Env} (hG : SoundEnv [] Try.prog G) (h129 : G 129 = gRoot) : Sound [] Try.prog 80 gFar := by
  refine sound_of (rs := [.tmp 4]) (n := 30) hG mix Try.func80 rfl rfl rfl (by kernel_rfl) (by decide +kernel) (by decide +kernel) ?_
  intro args H r H' h
  unfold gFar at h
  split at h
  case h_2 => cases h
  rename_i s s'
  split at h
  case h_2 => cases h
  rename_i xs ys hs hs'
  split at h
  case isFalse => cases h
  rename_i hlen
  obtain ⟨hlen, hbig⟩ := hlen
  cases h
  obtain ⟨a, n, c, row⟩ := rd_row hs
  cases row.eq
  obtain ⟨a', n', c', row'⟩ := rd_row hs'
  cases row'.eq
  have hl := row.len
  have hl' := row'.len
  have hsm := row.small
  refine ⟨by simp, ?_⟩
  simp (maxSteps := 10000000) only [↓exA, exB, exC, exN, exD, exR, tys, ↓reduceIte, Nat.reduceLT, Nat.reduceEqDiff, Nat.reduceAdd, Nat.zero_add, Nat.add_zero, List.map_cons, List.map_nil, Option.map_some, Option.map_none, Option.bind_some, List.length_cons, List.length_nil, List.cons_append, List.nil_append, List.append_nil, List.getElem?_cons_zero, List.getElem?_cons_succ, List.set_cons_zero, List.set_cons_succ, Nat.reduceLeDiff, and_self, and_true, true_and, gval, List.take_zero, List.take_succ_cons, List.drop_zero, List.drop_succ_cons, List.all_cons, List.all_nil, Bool.and_self, Bool.not_true, Bool.not_false, beq_true, beq_false, decide_true, decide_false, eq_self, Nat.reducePow]
  refine X_loop (I := fun m t K => ∃ f i, t = mk 30 f ∧ K = hp H [] ∧ f 0 = .slice a n c ∧ f 1 = .slice a' n' c' ∧ f 5 = .float .f32 (farN xs ys i) ∧ f 8 = .slice a n c ∧ f 9 = .int .i64 (n : Nat) ∧ f 10 = .int .i64 (i : Nat) ∧ i + m = n) (m := n) ?_ ?_
  · rintro m t K ⟨f, i, rfl, rfl, h0, h1, h5, h8, h9, h10, hm⟩
    simp (maxSteps := 10000000) only [↓exA, exB, exC, exN, exD, exR, tys, ↓reduceIte, Nat.reduceLT, Nat.reduceEqDiff, Nat.reduceAdd, Nat.zero_add, Nat.add_zero, List.map_cons, List.map_nil, Option.map_some, Option.map_none, Option.bind_some, List.length_cons, List.length_nil, List.cons_append, List.nil_append, List.append_nil, List.getElem?_cons_zero, List.getElem?_cons_succ, List.set_cons_zero, List.set_cons_succ, Nat.reduceLeDiff, and_self, and_true, true_and, gval, List.take_zero, List.take_succ_cons, List.drop_zero, List.drop_succ_cons, List.all_cons, List.all_nil, Bool.and_self, Bool.not_true, Bool.not_false, beq_true, beq_false, decide_true, decide_false, eq_self, Nat.reducePow, h0, h1, h5, h8, h9, h10]
    refine condW_intro (fun c1 => ?_) (fun c1 => ?_) <;> (try simp only [Bool.not_eq_true', Bool.not_eq_eq_eq_not, Bool.not_true, Bool.not_false, beq_true, beq_false, beq_iff_eq, beq_eq_false_iff_ne, ne_eq, Bool.not_eq_false, Bool.not_eq_true, decide_eq_true_eq, decide_eq_false_iff_not, Bool.not_not] at c1)
    · have hi : i < xs.length := by omega
      have hi' : i < ys.length := by omega
      obtain ⟨b, off, lk, cs, ha, hb, hv⟩ := (row.hp []).cellF hi
      obtain ⟨b', off', lk', cs', ha', hb', hv'⟩ := (row'.hp []).cellF hi'
      subst ha; subst ha'
      have c2 : (i : Int) < (n' : Int) := by omega
      simp (maxSteps := 10000000) only [↓exA, exB, exC, exN, exD, exR, tys, ↓reduceIte, Nat.reduceLT, Nat.reduceEqDiff, Nat.reduceAdd, Nat.zero_add, Nat.add_zero, List.map_cons, List.map_nil, Option.map_some, Option.map_none, Option.bind_some, List.length_cons, List.length_nil, List.cons_append, List.nil_append, List.append_nil, List.getElem?_cons_zero, List.getElem?_cons_succ, List.set_cons_zero, List.set_cons_succ, Nat.reduceLeDiff, and_self, and_true, true_and, gval, List.take_zero, List.take_succ_cons, List.drop_zero, List.drop_succ_cons, List.all_cons, List.all_nil, Bool.and_self, Bool.not_true, Bool.not_false, beq_true, beq_false, decide_true, decide_false, eq_self, Nat.reducePow, h0, h1, h5, h8, h9, h10, c1, c2, Int.natCast_nonneg, Int.toNat_natCast, hb, hv, hb', hv', List.prefix_rfl]
      refine ⟨m - 1, by omega, _, i + 1, rfl, rfl, ?_, ?_, ?_, ?_, ?_, ?_, by omega⟩
      · simp (maxSteps := 10000000) only [↓exA, exB, exC, exN, exD, exR, tys, ↓reduceIte, Nat.reduceLT, Nat.reduceEqDiff, Nat.reduceAdd, Nat.zero_add, Nat.add_zero, List.map_cons, List.map_nil, Option.map_some, Option.map_none, Option.bind_some, List.length_cons, List.length_nil, List.cons_append, List.nil_append, List.append_nil, List.getElem?_cons_zero, List.getElem?_cons_succ, List.set_cons_zero, List.set_cons_succ, Nat.reduceLeDiff, and_self, and_true, true_and, gval, List.take_zero, List.take_succ_cons, List.drop_zero, List.drop_succ_cons, List.all_cons, List.all_nil, Bool.and_self, Bool.not_true, Bool.not_false, beq_true, beq_false, decide_true, decide_false, eq_self, Nat.reducePow, h0]
      · simp (maxSteps := 10000000) only [↓exA, exB, exC, exN, exD, exR, tys, ↓reduceIte, Nat.reduceLT, Nat.reduceEqDiff, Nat.reduceAdd, Nat.zero_add, Nat.add_zero, List.map_cons, List.map_nil, Option.map_some, Option.map_none, Option.bind_some, List.length_cons, List.length_nil, List.cons_append, List.nil_append, List.append_nil, List.getElem?_cons_zero, List.getElem?_cons_succ, List.set_cons_zero, List.set_cons_succ, Nat.reduceLeDiff, and_self, and_true, true_and, gval, List.take_zero, List.take_succ_cons, List.drop_zero, List.drop_succ_cons, List.all_cons, List.all_nil, Bool.and_self, Bool.not_true, Bool.not_false, beq_true, beq_false, decide_true, decide_false, eq_self, Nat.reducePow, h1]
      · simp (maxSteps := 10000000) only [↓exA, exB, exC, exN, exD, exR, tys, ↓reduceIte, Nat.reduceLT, Nat.reduceEqDiff, Nat.reduceAdd, Nat.zero_add, Nat.add_zero, List.map_cons, List.map_nil, Option.map_some, Option.map_none, Option.bind_some, List.length_cons, List.length_nil, List.cons_append, List.nil_append, List.append_nil, List.getElem?_cons_zero, List.getElem?_cons_succ, List.set_cons_zero, List.set_cons_succ, Nat.reduceLeDiff, and_self, and_true, true_and, gval, List.take_zero, List.take_succ_cons, List.drop_zero, List.drop_succ_cons, List.all_cons, List.all_nil, Bool.and_self, Bool.not_true, Bool.not_false, beq_true, beq_false, decide_true, decide_false, eq_self, Nat.reducePow, farN_succ]
      · simp (maxSteps := 10000000) only [↓exA, exB, exC, exN, exD, exR, tys, ↓reduceIte, Nat.reduceLT, Nat.reduceEqDiff, Nat.reduceAdd, Nat.zero_add, Nat.add_zero, List.map_cons, List.map_nil, Option.map_some, Option.map_none, Option.bind_some, List.length_cons, List.length_nil, List.cons_append, List.nil_append, List.append_nil, List.getElem?_cons_zero, List.getElem?_cons_succ, List.set_cons_zero, List.set_cons_succ, Nat.reduceLeDiff, and_self, and_true, true_and, gval, List.take_zero, List.take_succ_cons, List.drop_zero, List.drop_succ_cons, List.all_cons, List.all_nil, Bool.and_self, Bool.not_true, Bool.not_false, beq_true, beq_false, decide_true, decide_false, eq_self, Nat.reducePow, h8]
      · simp (maxSteps := 10000000) only [↓exA, exB, exC, exN, exD, exR, tys, ↓reduceIte, Nat.reduceLT, Nat.reduceEqDiff, Nat.reduceAdd, Nat.zero_add, Nat.add_zero, List.map_cons, List.map_nil, Option.map_some, Option.map_none, Option.bind_some, List.length_cons, List.length_nil, List.cons_append, List.nil_append, List.append_nil, List.getElem?_cons_zero, List.getElem?_cons_succ, List.set_cons_zero, List.set_cons_succ, Nat.reduceLeDiff, and_self, and_true, true_and, gval, List.take_zero, List.take_succ_cons, List.drop_zero, List.drop_succ_cons, List.all_cons, List.all_nil, Bool.and_self, Bool.not_true, Bool.not_false, beq_true, beq_false, decide_true, decide_false, eq_self, Nat.reducePow, h9]
      · simp (maxSteps := 10000000) only [↓exA, exB, exC, exN, exD, exR, tys, ↓reduceIte, Nat.reduceLT, Nat.reduceEqDiff, Nat.reduceAdd, Nat.zero_add, Nat.add_zero, List.map_cons, List.map_nil, Option.map_some, Option.map_none, Option.bind_some, List.length_cons, List.length_nil, List.cons_append, List.nil_append, List.append_nil, List.getElem?_cons_zero, List.getElem?_cons_succ, List.set_cons_zero, List.set_cons_succ, Nat.reduceLeDiff, and_self, and_true, true_and, gval, List.take_zero, List.take_succ_cons, List.drop_zero, List.drop_succ_cons, List.all_cons, List.all_nil, Bool.and_self, Bool.not_true, Bool.not_false, beq_true, beq_false, decide_true, decide_false, eq_self, Nat.reducePow]
        rw [wrap_i64 (by omega) (by omega)]; simp
    · simp (maxSteps := 10000000) only [↓exA, exB, exC, exN, exD, exR, tys, ↓reduceIte, Nat.reduceLT, Nat.reduceEqDiff, Nat.reduceAdd, Nat.zero_add, Nat.add_zero, List.map_cons, List.map_nil, Option.map_some, Option.map_none, Option.bind_some, List.length_cons, List.length_nil, List.cons_append, List.nil_append, List.append_nil, List.getElem?_cons_zero, List.getElem?_cons_succ, List.set_cons_zero, List.set_cons_succ, Nat.reduceLeDiff, and_self, and_true, true_and, gval, List.take_zero, List.take_succ_cons, List.drop_zero, List.drop_succ_cons, List.all_cons, List.all_nil, Bool.and_self, Bool.not_true, Bool.not_false, beq_true, beq_false, decide_true, decide_false, eq_self, Nat.reducePow, h5, h129, gRoot_eq]
      have : i = xs.length := by omega
      rw [this, farN_eq]
      exact fits_bare rfl
  · refine ⟨_, 0, rfl, rfl, ?_, ?_, ?_, ?_, ?_, ?_, by omega⟩
    all_goals simp (maxSteps := 10000000) only [↓exA, exB, exC, exN, exD, exR, tys, ↓reduceIte, Nat.reduceLT, Nat.reduceEqDiff, Nat.reduceAdd, Nat.zero_add, Nat.add_zero, List.map_cons, List.map_nil, Option.map_some, Option.map_none, Option.bind_some, List.length_cons, List.length_nil, List.cons_append, List.nil_append, List.append_nil, List.getElem?_cons_zero, List.getElem?_cons_succ, List.set_cons_zero, List.set_cons_succ, Nat.reduceLeDiff, and_self, and_true, true_and, gval, List.take_zero, List.take_succ_cons, List.drop_zero, List.drop_succ_cons, List.all_cons, List.all_nil, Bool.and_self, Bool.not_true, Bool.not_false, beq_true, beq_false, decide_true, decide_false, eq_self, Nat.reducePow]
    all_goals rfl
theorem snd24 {G : Env} (hG : SoundEnv [] Try.prog G) (h78 : G 78 = gList series) (h80 : G 80 = gFar) (h79 : G 79 = gIfFin) : Sound [] Try.prog 24 gFarS := by
  refine sound_of (rs := [.tmp 4, .tmp 5]) (n := 27) hG mix Try.func24 rfl rfl rfl (by kernel_rfl) (by decide +kernel) (by decide +kernel) ?_
  intro args H r H' h
  unfold gFarS at h
  split at h
  case h_2 => cases h
  rename_i s s'
  split at h
  case h_2 => cases h
  rename_i xs ys hs hs'
  cases h
  obtain ⟨a, n, c, row⟩ := rd_row hs
  cases row.eq
  obtain ⟨a', n', c', row'⟩ := rd_row hs'
  cases row'.eq
  have hl := row.len
  have hl' := row'.len
  have e1 := fun e => gList_rd (q := series) (rd_hp hs e)
  have e2 := fun e => gList_rd (q := series) (rd_hp hs' e)
  refine ⟨by simp, ?_⟩
  unfold farV
  cases c1 : series xs
  · have : two xs ys = false := by simp [two, c1]
    simp (maxSteps := 10000000) only [↓exA, exB, exC, exN, exD, exR, tys, ↓reduceIte, Nat.reduceLT, Nat.reduceEqDiff, Nat.reduceAdd, Nat.zero_add, Nat.add_zero, List.map_cons, List.map_nil, Option.map_some, Option.map_none, Option.bind_some, List.length_cons, List.length_nil, List.cons_append, List.nil_append, List.append_nil, List.getElem?_cons_zero, List.getElem?_cons_succ, List.set_cons_zero, List.set_cons_succ, Nat.reduceLeDiff, and_self, and_true, true_and, gval, List.take_zero, List.take_succ_cons, List.drop_zero, List.drop_succ_cons, List.all_cons, List.all_nil, Bool.and_self, Bool.not_true, Bool.not_false, beq_true, beq_false, decide_true, decide_false, eq_self, Nat.reducePow, h78, e1, e2, c1, this]
    exact fits_bare rfl
  · cases c2 : series ys
    · have : two xs ys = false := by simp [two, c2]
      simp (maxSteps := 10000000) only [↓exA, exB, exC, exN, exD, exR, tys, ↓reduceIte, Nat.reduceLT, Nat.reduceEqDiff, Nat.reduceAdd, Nat.zero_add, Nat.add_zero, List.map_cons, List.map_nil, Option.map_some, Option.map_none, Option.bind_some, List.length_cons, List.length_nil, List.cons_append, List.nil_append, List.append_nil, List.getElem?_cons_zero, List.getElem?_cons_succ, List.set_cons_zero, List.set_cons_succ, Nat.reduceLeDiff, and_self, and_true, true_and, gval, List.take_zero, List.take_succ_cons, List.drop_zero, List.drop_succ_cons, List.all_cons, List.all_nil, Bool.and_self, Bool.not_true, Bool.not_false, beq_true, beq_false, decide_true, decide_false, eq_self, Nat.reducePow, h78, e1, e2, c1, c2, this]
      exact fits_bare rfl
    · by_cases c3 : (n : Int) = (n' : Int)
      · have c4 : two xs ys = true := by
          have : xs.length = ys.length := by omega
          simp [two, c1, c2, this]
        have c5 : decide ((n : Int) = (n' : Int)) = true := by simpa using c3
        obtain ⟨t1, t2, t3, t4, t5⟩ := two_inv c4
        simp (maxSteps := 10000000) only [↓exA, exB, exC, exN, exD, exR, tys, ↓reduceIte, Nat.reduceLT, Nat.reduceEqDiff, Nat.reduceAdd, Nat.zero_add, Nat.add_zero, List.map_cons, List.map_nil, Option.map_some, Option.map_none, Option.bind_some, List.length_cons, List.length_nil, List.cons_append, List.nil_append, List.append_nil, List.getElem?_cons_zero, List.getElem?_cons_succ, List.set_cons_zero, List.set_cons_succ, Nat.reduceLeDiff, and_self, and_true, true_and, gval, List.take_zero, List.take_succ_cons, List.drop_zero, List.drop_succ_cons, List.all_cons, List.all_nil, Bool.and_self, Bool.not_true, Bool.not_false, beq_true, beq_false, decide_true, decide_false, eq_self, Nat.reducePow, h78, e1, e2, c1, c2, c3, c4, c5, h80, gFar_eq (rd_hp hs _) (rd_hp hs' _) (Nat.le_of_eq t3) (by omega), h79, gIfFin_eq]
        cases c6 : isFin (farL xs ys)
        · rw [ifV_no c6]
          simp (maxSteps := 10000000) only [↓exA, exB, exC, exN, exD, exR, tys, ↓reduceIte, Nat.reduceLT, Nat.reduceEqDiff, Nat.reduceAdd, Nat.zero_add, Nat.add_zero, List.map_cons, List.map_nil, Option.map_some, Option.map_none, Option.bind_some, List.length_cons, List.length_nil, List.cons_append, List.nil_append, List.append_nil, List.getElem?_cons_zero, List.getElem?_cons_succ, List.set_cons_zero, List.set_cons_succ, Nat.reduceLeDiff, and_self, and_true, true_and, gval, List.take_zero, List.take_succ_cons, List.drop_zero, List.drop_succ_cons, List.all_cons, List.all_nil, Bool.and_self, Bool.not_true, Bool.not_false, beq_true, beq_false, decide_true, decide_false, eq_self, Nat.reducePow]
          exact fits_bare rfl
        · rw [ifV_yes c6]
          simp (maxSteps := 10000000) only [↓exA, exB, exC, exN, exD, exR, tys, ↓reduceIte, Nat.reduceLT, Nat.reduceEqDiff, Nat.reduceAdd, Nat.zero_add, Nat.add_zero, List.map_cons, List.map_nil, Option.map_some, Option.map_none, Option.bind_some, List.length_cons, List.length_nil, List.cons_append, List.nil_append, List.append_nil, List.getElem?_cons_zero, List.getElem?_cons_succ, List.set_cons_zero, List.set_cons_succ, Nat.reduceLeDiff, and_self, and_true, true_and, gval, List.take_zero, List.take_succ_cons, List.drop_zero, List.drop_succ_cons, List.all_cons, List.all_nil, Bool.and_self, Bool.not_true, Bool.not_false, beq_true, beq_false, decide_true, decide_false, eq_self, Nat.reducePow]
          exact fits_bare rfl
      · have c4 : two xs ys = false := by
          have : ¬ xs.length = ys.length := by omega
          simp [two, this]
        simp (maxSteps := 10000000) only [↓exA, exB, exC, exN, exD, exR, tys, ↓reduceIte, Nat.reduceLT, Nat.reduceEqDiff, Nat.reduceAdd, Nat.zero_add, Nat.add_zero, List.map_cons, List.map_nil, Option.map_some, Option.map_none, Option.bind_some, List.length_cons, List.length_nil, List.cons_append, List.nil_append, List.append_nil, List.getElem?_cons_zero, List.getElem?_cons_succ, List.set_cons_zero, List.set_cons_succ, Nat.reduceLeDiff, and_self, and_true, true_and, gval, List.take_zero, List.take_succ_cons, List.drop_zero, List.drop_succ_cons, List.all_cons, List.all_nil, Bool.and_self, Bool.not_true, Bool.not_false, beq_true, beq_false, decide_true, decide_false, eq_self, Nat.reducePow, h78, e1, e2, c1, c2, c3, c4]
        exact fits_bare rfl

end Go.Proofs.Ytnhhdgopgecggaa.Abs
