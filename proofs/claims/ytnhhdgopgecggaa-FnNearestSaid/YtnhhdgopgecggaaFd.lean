/- What the functions on bounds, on series, on drawn numbers and on trends of the reference answer. No condition. -/
import Derived.Test.YtnhhdgopgecggaaFc
set_option linter.unusedVariables false
set_option linter.unusedSimpArgs false
set_option maxRecDepth 100000
set_option maxHeartbeats 4000000
namespace Go.Proofs.Ytnhhdgopgecggaa.Abs
open Go

theorem eqTest_eq : eqTest 65 = some sameI := rfl
def sameTr (l s a b c n d u l' s' a' b' c' n' d' u' : Nat) : Bool := eqBy sameI [l, s, a, b, c, n, d, u] [l', s', a', b', c', n', d', u']
def gSameTr (args : List Value) (H : AHeap) : Option (Value × AHeap) :=
  match args with
  | [.agg ⟨[.float .f32 l, .float .f32 s, .float .f32 a, .float .f32 b, .float .f32 c, .float .f32 n, .float .f32 d, .float .f32 u]⟩, .agg ⟨[.float .f32 l', .float .f32 s', .float .f32 a', .float .f32 b', .float .f32 c', .float .f32 n', .float .f32 d', .float .f32 u']⟩] => some (.bool (sameTr l s a b c n d u l' s' a' b' c' n' d' u'), H)
  | _ => none
theorem gSameTr_eq (l s a b c n d u l' s' a' b' c' n' d' u' : Nat) (H : AHeap) : gSameTr [.agg ⟨[.float .f32 l, .float .f32 s, .float .f32 a, .float .f32 b, .float .f32 c, .float .f32 n, .float .f32 d, .float .f32 u]⟩, .agg ⟨[.float .f32 l', .float .f32 s', .float .f32 a', .float .f32 b', .float .f32 c', .float .f32 n', .float .f32 d', .float .f32 u']⟩] H = some (.bool (sameTr l s a b c n d u l' s' a' b' c' n' d' u'), H) := rfl
theorem snd14 {G : Env} (hG : SoundEnv [] Try.prog G) (h61 : G 61 = gNumbers) (h64 : G 64 = gEqual) : Sound [] Try.prog 14 gSameTr := by
  refine sound_of (rs := [.tmp 4]) (n := 10) hG mix Try.func14 rfl rfl rfl (by kernel_rfl) (by decide +kernel) (by decide +kernel) ?_
  intro args H r H' h
  unfold gSameTr at h
  split at h
  case h_2 => cases h
  rename_i l s a b c n d u l' s' a' b' c' n' d' u'; cases h
  refine ⟨by simp, ?_⟩
  have hq : gEqual [.slice (some ⟨nb H 2, 0, none⟩) 8 8, .slice (some ⟨nb H 3, 0, none⟩) 8 8, .func (.func 65) #[] #[]] (hp H [.live false ([l, s, a, b, c, n, d, u].map fun x => .float .f32 x), .live false ([l', s', a', b', c', n', d', u'].map fun x => .float .f32 x), .live false ([l, s, a, b, c, n, d, u].map fun x => .float .f32 x), .live false ([l', s', a', b', c', n', d', u'].map fun x => .float .f32 x)]) = some (.bool (sameTr l s a b c n d u l' s' a' b' c' n' d' u'), hp H [.live false ([l, s, a, b, c, n, d, u].map fun x => .float .f32 x), .live false ([l', s', a', b', c', n', d', u'].map fun x => .float .f32 x), .live false ([l, s, a, b, c, n, d, u].map fun x => .float .f32 x), .live false ([l', s', a', b', c', n', d', u'].map fun x => .float .f32 x)]) := by
    refine gEqual_eq eqTest_eq ?_ ?_ <;> simp (maxSteps := 10000000) only [↓exA, exB, exC, exN, exD, exR, tys, ↓reduceIte, Nat.reduceLT, Nat.reduceEqDiff, Nat.reduceAdd, Nat.zero_add, Nat.add_zero, List.map_cons, List.map_nil, Option.map_some, Option.map_none, Option.bind_some, List.length_cons, List.length_nil, List.cons_append, List.nil_append, List.append_nil, List.getElem?_cons_zero, List.getElem?_cons_succ, List.set_cons_zero, List.set_cons_succ, Nat.reduceLeDiff, and_self, and_true, true_and, gval, List.take_zero, List.take_succ_cons, List.drop_zero, List.drop_succ_cons, List.all_cons, List.all_nil, Bool.and_self, Bool.not_true, Bool.not_false, beq_true, beq_false, decide_true, decide_false, eq_self, Nat.reducePow]
  simp only [List.map_cons, List.map_nil] at hq
  simp (maxSteps := 10000000) only [↓exA, exB, exC, exN, exD, exR, tys, ↓reduceIte, Nat.reduceLT, Nat.reduceEqDiff, Nat.reduceAdd, Nat.zero_add, Nat.add_zero, List.map_cons, List.map_nil, Option.map_some, Option.map_none, Option.bind_some, List.length_cons, List.length_nil, List.cons_append, List.nil_append, List.append_nil, List.getElem?_cons_zero, List.getElem?_cons_succ, List.set_cons_zero, List.set_cons_succ, Nat.reduceLeDiff, and_self, and_true, true_and, gval, List.take_zero, List.take_succ_cons, List.drop_zero, List.drop_succ_cons, List.all_cons, List.all_nil, Bool.and_self, Bool.not_true, Bool.not_false, beq_true, beq_false, decide_true, decide_false, eq_self, Nat.reducePow, h61, h64, gNumbers_eq, hq]
  exact fits_bare rfl

def gOne (q : Nat → Bool) (args : List Value) (H : AHeap) : Option (Value × AHeap) :=
  match args with
  | [.float .f32 a] => some (.bool (q a), H)
  | _ => none
theorem gOne_eq (q : Nat → Bool) (a : Nat) (H : AHeap) : gOne q [.float .f32 a] H = some (.bool (q a), H) := rfl
def least (x : Nat) : Bool := isFin x && ge0 x
def above (x : Nat) : Bool := isFin x && gt0 x
theorem snd118 {G : Env} (hG : SoundEnv [] Try.prog G) (h68 : G 68 = gFin) : Sound [] Try.prog 118 (gOne least) := by
  refine sound_of (rs := [.tmp 2]) (n := 9) hG mix Try.func118 rfl rfl rfl (by kernel_rfl) (by decide +kernel) (by decide +kernel) ?_
  intro args H r H' h
  unfold gOne at h
  split at h
  case h_2 => cases h
  rename_i a; cases h
  refine ⟨by simp, ?_⟩
  simp (maxSteps := 10000000) only [↓exA, exB, exC, exN, exD, exR, tys, ↓reduceIte, Nat.reduceLT, Nat.reduceEqDiff, Nat.reduceAdd, Nat.zero_add, Nat.add_zero, List.map_cons, List.map_nil, Option.map_some, Option.map_none, Option.bind_some, List.length_cons, List.length_nil, List.cons_append, List.nil_append, List.append_nil, List.getElem?_cons_zero, List.getElem?_cons_succ, List.set_cons_zero, List.set_cons_succ, Nat.reduceLeDiff, and_self, and_true, true_and, gval, List.take_zero, List.take_succ_cons, List.drop_zero, List.drop_succ_cons, List.all_cons, List.all_nil, Bool.and_self, Bool.not_true, Bool.not_false, beq_true, beq_false, decide_true, decide_false, eq_self, Nat.reducePow, h68, gFin_eq]
  refine condW_intro (fun c1 => ?_) (fun c1 => ?_) <;> (try simp only [Bool.not_eq_true', Bool.not_eq_eq_eq_not, Bool.not_true, Bool.not_false, beq_true, beq_false, beq_iff_eq, beq_eq_false_iff_ne, ne_eq, Bool.not_eq_false, Bool.not_eq_true, decide_eq_true_eq, decide_eq_false_iff_not, Bool.not_not] at c1)
  · simp (maxSteps := 10000000) only [↓exA, exB, exC, exN, exD, exR, tys, ↓reduceIte, Nat.reduceLT, Nat.reduceEqDiff, Nat.reduceAdd, Nat.zero_add, Nat.add_zero, List.map_cons, List.map_nil, Option.map_some, Option.map_none, Option.bind_some, List.length_cons, List.length_nil, List.cons_append, List.nil_append, List.append_nil, List.getElem?_cons_zero, List.getElem?_cons_succ, List.set_cons_zero, List.set_cons_succ, Nat.reduceLeDiff, and_self, and_true, true_and, gval, List.take_zero, List.take_succ_cons, List.drop_zero, List.drop_succ_cons, List.all_cons, List.all_nil, Bool.and_self, Bool.not_true, Bool.not_false, beq_true, beq_false, decide_true, decide_false, eq_self, Nat.reducePow, c1]
    have : least a = fcmp .geq .f32 a 0 := by simp [least, c1, ge0]
    rw [this]; exact fits_bare rfl
  · simp (maxSteps := 10000000) only [↓exA, exB, exC, exN, exD, exR, tys, ↓reduceIte, Nat.reduceLT, Nat.reduceEqDiff, Nat.reduceAdd, Nat.zero_add, Nat.add_zero, List.map_cons, List.map_nil, Option.map_some, Option.map_none, Option.bind_some, List.length_cons, List.length_nil, List.cons_append, List.nil_append, List.append_nil, List.getElem?_cons_zero, List.getElem?_cons_succ, List.set_cons_zero, List.set_cons_succ, Nat.reduceLeDiff, and_self, and_true, true_and, gval, List.take_zero, List.take_succ_cons, List.drop_zero, List.drop_succ_cons, List.all_cons, List.all_nil, Bool.and_self, Bool.not_true, Bool.not_false, beq_true, beq_false, decide_true, decide_false, eq_self, Nat.reducePow, c1]
    have : least a = false := by simp [least, c1]
    rw [this]; exact fits_bare rfl
theorem snd119 {G : Env} (hG : SoundEnv [] Try.prog G) (h68 : G 68 = gFin) : Sound [] Try.prog 119 (gOne above) := by
  refine sound_of (rs := [.tmp 2]) (n := 9) hG mix Try.func119 rfl rfl rfl (by kernel_rfl) (by decide +kernel) (by decide +kernel) ?_
  intro args H r H' h
  unfold gOne at h
  split at h
  case h_2 => cases h
  rename_i a; cases h
  refine ⟨by simp, ?_⟩
  simp (maxSteps := 10000000) only [↓exA, exB, exC, exN, exD, exR, tys, ↓reduceIte, Nat.reduceLT, Nat.reduceEqDiff, Nat.reduceAdd, Nat.zero_add, Nat.add_zero, List.map_cons, List.map_nil, Option.map_some, Option.map_none, Option.bind_some, List.length_cons, List.length_nil, List.cons_append, List.nil_append, List.append_nil, List.getElem?_cons_zero, List.getElem?_cons_succ, List.set_cons_zero, List.set_cons_succ, Nat.reduceLeDiff, and_self, and_true, true_and, gval, List.take_zero, List.take_succ_cons, List.drop_zero, List.drop_succ_cons, List.all_cons, List.all_nil, Bool.and_self, Bool.not_true, Bool.not_false, beq_true, beq_false, decide_true, decide_false, eq_self, Nat.reducePow, h68, gFin_eq]
  refine condW_intro (fun c1 => ?_) (fun c1 => ?_) <;> (try simp only [Bool.not_eq_true', Bool.not_eq_eq_eq_not, Bool.not_true, Bool.not_false, beq_true, beq_false, beq_iff_eq, beq_eq_false_iff_ne, ne_eq, Bool.not_eq_false, Bool.not_eq_true, decide_eq_true_eq, decide_eq_false_iff_not, Bool.not_not] at c1)
  · simp (maxSteps := 10000000) only [↓exA, exB, exC, exN, exD, exR, tys, ↓reduceIte, Nat.reduceLT, Nat.reduceEqDiff, Nat.reduceAdd, Nat.zero_add, Nat.add_zero, List.map_cons, List.map_nil, Option.map_some, Option.map_none, Option.bind_some, List.length_cons, List.length_nil, List.cons_append, List.nil_append, List.append_nil, List.getElem?_cons_zero, List.getElem?_cons_succ, List.set_cons_zero, List.set_cons_succ, Nat.reduceLeDiff, and_self, and_true, true_and, gval, List.take_zero, List.take_succ_cons, List.drop_zero, List.drop_succ_cons, List.all_cons, List.all_nil, Bool.and_self, Bool.not_true, Bool.not_false, beq_true, beq_false, decide_true, decide_false, eq_self, Nat.reducePow, c1]
    have : above a = fcmp .gtr .f32 a 0 := by simp [above, c1, gt0]
    rw [this]; exact fits_bare rfl
  · simp (maxSteps := 10000000) only [↓exA, exB, exC, exN, exD, exR, tys, ↓reduceIte, Nat.reduceLT, Nat.reduceEqDiff, Nat.reduceAdd, Nat.zero_add, Nat.add_zero, List.map_cons, List.map_nil, Option.map_some, Option.map_none, Option.bind_some, List.length_cons, List.length_nil, List.cons_append, List.nil_append, List.append_nil, List.getElem?_cons_zero, List.getElem?_cons_succ, List.set_cons_zero, List.set_cons_succ, Nat.reduceLeDiff, and_self, and_true, true_and, gval, List.take_zero, List.take_succ_cons, List.drop_zero, List.drop_succ_cons, List.all_cons, List.all_nil, Bool.and_self, Bool.not_true, Bool.not_false, beq_true, beq_false, decide_true, decide_false, eq_self, Nat.reducePow, c1]
    have : above a = false := by simp [above, c1]
    rw [this]; exact fits_bare rfl
/-- Nothing below zero. -/
def pos (x : Nat) : Nat := if fcmp .lss .f32 x 0 = true then 0 else x
def gPos (args : List Value) (H : AHeap) : Option (Value × AHeap) :=
  match args with
  | [.float .f32 a] => some (.float .f32 (pos a), H)
  | _ => none
theorem gPos_eq (a : Nat) (H : AHeap) : gPos [.float .f32 a] H = some (.float .f32 (pos a), H) := rfl
theorem snd69 {G : Env} (hG : SoundEnv [] Try.prog G) : Sound [] Try.prog 69 gPos := by
  refine sound_of (rs := [.tmp 2]) (n := 6) hG mix Try.func69 rfl rfl rfl (by kernel_rfl) (by decide +kernel) (by decide +kernel) ?_
  intro args H r H' h
  unfold gPos at h
  split at h
  case h_2 => cases h
  rename_i a; cases h
  refine ⟨by simp, ?_⟩
  simp (maxSteps := 10000000) only [↓exA, exB, exC, exN, exD, exR, tys, ↓reduceIte, Nat.reduceLT, Nat.reduceEqDiff, Nat.reduceAdd, Nat.zero_add, Nat.add_zero, List.map_cons, List.map_nil, Option.map_some, Option.map_none, Option.bind_some, List.length_cons, List.length_nil, List.cons_append, List.nil_append, List.append_nil, List.getElem?_cons_zero, List.getElem?_cons_succ, List.set_cons_zero, List.set_cons_succ, Nat.reduceLeDiff, and_self, and_true, true_and, gval, List.take_zero, List.take_succ_cons, List.drop_zero, List.drop_succ_cons, List.all_cons, List.all_nil, Bool.and_self, Bool.not_true, Bool.not_false, beq_true, beq_false, decide_true, decide_false, eq_self, Nat.reducePow]
  refine condW_intro (fun c1 => ?_) (fun c1 => ?_) <;> (try simp only [Bool.not_eq_true', Bool.not_eq_eq_eq_not, Bool.not_true, Bool.not_false, beq_true, beq_false, beq_iff_eq, beq_eq_false_iff_ne, ne_eq, Bool.not_eq_false, Bool.not_eq_true, decide_eq_true_eq, decide_eq_false_iff_not, Bool.not_not] at c1)
  · simp (maxSteps := 10000000) only [↓exA, exB, exC, exN, exD, exR, tys, ↓reduceIte, Nat.reduceLT, Nat.reduceEqDiff, Nat.reduceAdd, Nat.zero_add, Nat.add_zero, List.map_cons, List.map_nil, Option.map_some, Option.map_none, Option.bind_some, List.length_cons, List.length_nil, List.cons_append, List.nil_append, List.append_nil, List.getElem?_cons_zero, List.getElem?_cons_succ, List.set_cons_zero, List.set_cons_succ, Nat.reduceLeDiff, and_self, and_true, true_and, gval, List.take_zero, List.take_succ_cons, List.drop_zero, List.drop_succ_cons, List.all_cons, List.all_nil, Bool.and_self, Bool.not_true, Bool.not_false, beq_true, beq_false, decide_true, decide_false, eq_self, Nat.reducePow, c1]
    rw [pos, if_pos c1]; exact fits_bare rfl
  · simp (maxSteps := 10000000) only [↓exA, exB, exC, exN, exD, exR, tys, ↓reduceIte, Nat.reduceLT, Nat.reduceEqDiff, Nat.reduceAdd, Nat.zero_add, Nat.add_zero, List.map_cons, List.map_nil, Option.map_some, Option.map_none, Option.bind_some, List.length_cons, List.length_nil, List.cons_append, List.nil_append, List.append_nil, List.getElem?_cons_zero, List.getElem?_cons_succ, List.set_cons_zero, List.set_cons_succ, Nat.reduceLeDiff, and_self, and_true, true_and, gval, List.take_zero, List.take_succ_cons, List.drop_zero, List.drop_succ_cons, List.all_cons, List.all_nil, Bool.and_self, Bool.not_true, Bool.not_false, beq_true, beq_false, decide_true, decide_false, eq_self, Nat.reducePow, c1]
    rw [pos, if_neg (by simp [c1])]; exact fits_bare rfl
def gWithin (args : List Value) (H : AHeap) : Option (Value × AHeap) :=
  match args with
  | [.int .i64 n, .int .i64 a, .int .i64 b] => some (.bool (decide (a ≤ n ∧ n ≤ b)), H)
  | _ => none
theorem gWithin_eq (n a b : Int) (H : AHeap) : gWithin [.int .i64 n, .int .i64 a, .int .i64 b] H = some (.bool (decide (a ≤ n ∧ n ≤ b)), H) := rfl
theorem snd106 {G : Env} (hG : SoundEnv [] Try.prog G) : Sound [] Try.prog 106 gWithin := by
  refine sound_of (rs := [.tmp 6]) (n := 15) hG mix Try.func106 rfl rfl rfl (by kernel_rfl) (by decide +kernel) (by decide +kernel) ?_
  intro args H r H' h
  unfold gWithin at h
  split at h
  case h_2 => cases h
  rename_i n a b; cases h
  refine ⟨by simp, ?_⟩
  simp (maxSteps := 10000000) only [↓exA, exB, exC, exN, exD, exR, tys, ↓reduceIte, Nat.reduceLT, Nat.reduceEqDiff, Nat.reduceAdd, Nat.zero_add, Nat.add_zero, List.map_cons, List.map_nil, Option.map_some, Option.map_none, Option.bind_some, List.length_cons, List.length_nil, List.cons_append, List.nil_append, List.append_nil, List.getElem?_cons_zero, List.getElem?_cons_succ, List.set_cons_zero, List.set_cons_succ, Nat.reduceLeDiff, and_self, and_true, true_and, gval, List.take_zero, List.take_succ_cons, List.drop_zero, List.drop_succ_cons, List.all_cons, List.all_nil, Bool.and_self, Bool.not_true, Bool.not_false, beq_true, beq_false, decide_true, decide_false, eq_self, Nat.reducePow]
  refine condW_intro (fun c1 => ?_) (fun c1 => ?_) <;> (try simp only [Bool.not_eq_true', Bool.not_eq_eq_eq_not, Bool.not_true, Bool.not_false, beq_true, beq_false, beq_iff_eq, beq_eq_false_iff_ne, ne_eq, Bool.not_eq_false, Bool.not_eq_true, decide_eq_true_eq, decide_eq_false_iff_not, Bool.not_not] at c1)
  · simp (maxSteps := 10000000) only [↓exA, exB, exC, exN, exD, exR, tys, ↓reduceIte, Nat.reduceLT, Nat.reduceEqDiff, Nat.reduceAdd, Nat.zero_add, Nat.add_zero, List.map_cons, List.map_nil, Option.map_some, Option.map_none, Option.bind_some, List.length_cons, List.length_nil, List.cons_append, List.nil_append, List.append_nil, List.getElem?_cons_zero, List.getElem?_cons_succ, List.set_cons_zero, List.set_cons_succ, Nat.reduceLeDiff, and_self, and_true, true_and, gval, List.take_zero, List.take_succ_cons, List.drop_zero, List.drop_succ_cons, List.all_cons, List.all_nil, Bool.and_self, Bool.not_true, Bool.not_false, beq_true, beq_false, decide_true, decide_false, eq_self, Nat.reducePow, c1]
    exact fits_bare rfl
  · simp (maxSteps := 10000000) only [↓exA, exB, exC, exN, exD, exR, tys, ↓reduceIte, Nat.reduceLT, Nat.reduceEqDiff, Nat.reduceAdd, Nat.zero_add, Nat.add_zero, List.map_cons, List.map_nil, Option.map_some, Option.map_none, Option.bind_some, List.length_cons, List.length_nil, List.cons_append, List.nil_append, List.append_nil, List.getElem?_cons_zero, List.getElem?_cons_succ, List.set_cons_zero, List.set_cons_succ, Nat.reduceLeDiff, and_self, and_true, true_and, gval, List.take_zero, List.take_succ_cons, List.drop_zero, List.drop_succ_cons, List.all_cons, List.all_nil, Bool.and_self, Bool.not_true, Bool.not_false, beq_true, beq_false, decide_true, decide_false, eq_self, Nat.reducePow, c1]
    simp only [false_and, decide_false]
    exact fits_bare rfl
def gForth (args : List Value) (H : AHeap) : Option (Value × AHeap) :=
  match args with
  | [.int .i64 n] => some (.bool (decide (0 ≤ n ∧ n ≤ 32)), H)
  | _ => none
theorem gForth_eq (n : Int) (H : AHeap) : gForth [.int .i64 n] H = some (.bool (decide (0 ≤ n ∧ n ≤ 32)), H) := rfl
theorem snd55 {G : Env} (hG : SoundEnv [] Try.prog G) (h106 : G 106 = gWithin) : Sound [] Try.prog 55 gForth := by
  refine sound_of (rs := [.tmp 2]) (n := 5) hG mix Try.func55 rfl rfl rfl (by kernel_rfl) (by decide +kernel) (by decide +kernel) ?_
  intro args H r H' h
  unfold gForth at h
  split at h
  case h_2 => cases h
  rename_i n; cases h
  refine ⟨by simp, ?_⟩
  simp (maxSteps := 10000000) only [↓exA, exB, exC, exN, exD, exR, tys, ↓reduceIte, Nat.reduceLT, Nat.reduceEqDiff, Nat.reduceAdd, Nat.zero_add, Nat.add_zero, List.map_cons, List.map_nil, Option.map_some, Option.map_none, Option.bind_some, List.length_cons, List.length_nil, List.cons_append, List.nil_append, List.append_nil, List.getElem?_cons_zero, List.getElem?_cons_succ, List.set_cons_zero, List.set_cons_succ, Nat.reduceLeDiff, and_self, and_true, true_and, gval, List.take_zero, List.take_succ_cons, List.drop_zero, List.drop_succ_cons, List.all_cons, List.all_nil, Bool.and_self, Bool.not_true, Bool.not_false, beq_true, beq_false, decide_true, decide_false, eq_self, Nat.reducePow, h106, gWithin_eq]
  exact fits_bare rfl
def gGap (args : List Value) (H : AHeap) : Option (Value × AHeap) :=
  match args with
  | [.float .f64 a, .float .f64 b] => some (.float .f64 (if fcmp .lss .f64 a b = true then fbin .sub .f64 b a else fbin .sub .f64 a b), H)
  | _ => none
theorem gGap_eq (a b : Nat) (H : AHeap) : gGap [.float .f64 a, .float .f64 b] H = some (.float .f64 (if fcmp .lss .f64 a b = true then fbin .sub .f64 b a else fbin .sub .f64 a b), H) := rfl
theorem snd17 {G : Env} (hG : SoundEnv [] Try.prog G) : Sound [] Try.prog 17 gGap := by
  refine sound_of (rs := [.tmp 4]) (n := 14) hG mix Try.func17 rfl rfl rfl (by kernel_rfl) (by decide +kernel) (by decide +kernel) ?_
  intro args H r H' h
  unfold gGap at h
  split at h
  case h_2 => cases h
  rename_i a b; cases h
  refine ⟨by simp, ?_⟩
  simp (maxSteps := 10000000) only [↓exA, exB, exC, exN, exD, exR, tys, ↓reduceIte, Nat.reduceLT, Nat.reduceEqDiff, Nat.reduceAdd, Nat.zero_add, Nat.add_zero, List.map_cons, List.map_nil, Option.map_some, Option.map_none, Option.bind_some, List.length_cons, List.length_nil, List.cons_append, List.nil_append, List.append_nil, List.getElem?_cons_zero, List.getElem?_cons_succ, List.set_cons_zero, List.set_cons_succ, Nat.reduceLeDiff, and_self, and_true, true_and, gval, List.take_zero, List.take_succ_cons, List.drop_zero, List.drop_succ_cons, List.all_cons, List.all_nil, Bool.and_self, Bool.not_true, Bool.not_false, beq_true, beq_false, decide_true, decide_false, eq_self, Nat.reducePow]
  refine condW_intro (fun c1 => ?_) (fun c1 => ?_) <;> (try simp only [Bool.not_eq_true', Bool.not_eq_eq_eq_not, Bool.not_true, Bool.not_false, beq_true, beq_false, beq_iff_eq, beq_eq_false_iff_ne, ne_eq, Bool.not_eq_false, Bool.not_eq_true, decide_eq_true_eq, decide_eq_false_iff_not, Bool.not_not] at c1)
  · simp (maxSteps := 10000000) only [↓exA, exB, exC, exN, exD, exR, tys, ↓reduceIte, Nat.reduceLT, Nat.reduceEqDiff, Nat.reduceAdd, Nat.zero_add, Nat.add_zero, List.map_cons, List.map_nil, Option.map_some, Option.map_none, Option.bind_some, List.length_cons, List.length_nil, List.cons_append, List.nil_append, List.append_nil, List.getElem?_cons_zero, List.getElem?_cons_succ, List.set_cons_zero, List.set_cons_succ, Nat.reduceLeDiff, and_self, and_true, true_and, gval, List.take_zero, List.take_succ_cons, List.drop_zero, List.drop_succ_cons, List.all_cons, List.all_nil, Bool.and_self, Bool.not_true, Bool.not_false, beq_true, beq_false, decide_true, decide_false, eq_self, Nat.reducePow, c1]
    exact fits_bare rfl
  · simp (maxSteps := 10000000) only [↓exA, exB, exC, exN, exD, exR, tys, ↓reduceIte, Nat.reduceLT, Nat.reduceEqDiff, Nat.reduceAdd, Nat.zero_add, Nat.add_zero, List.map_cons, List.map_nil, Option.map_some, Option.map_none, Option.bind_some, List.length_cons, List.length_nil, List.cons_append, List.nil_append, List.append_nil, List.getElem?_cons_zero, List.getElem?_cons_succ, List.set_cons_zero, List.set_cons_succ, Nat.reduceLeDiff, and_self, and_true, true_and, gval, List.take_zero, List.take_succ_cons, List.drop_zero, List.drop_succ_cons, List.all_cons, List.all_nil, Bool.and_self, Bool.not_true, Bool.not_false, beq_true, beq_false, decide_true, decide_false, eq_self, Nat.reducePow, c1]
    exact fits_bare rfl

end Go.Proofs.Ytnhhdgopgecggaa.Abs
