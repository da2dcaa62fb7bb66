/- What the functions on lists of numbers, on trends and on the sameness of numbers answer. No condition. -/
import Derived.Test.YtnhhdgopgecggaaFa
import Derived.Test.YtnhhdgopgecggaaAbsFl
set_option linter.unusedVariables false
set_option linter.unusedSimpArgs false
set_option maxRecDepth 100000
set_option maxHeartbeats 4000000
namespace Go.Proofs.Ytnhhdgopgecggaa.Abs
open Go

theorem firstOf_any {α : Type} (p : α → Bool) : ∀ (l : List α) (i : Nat), decide (0 ≤ firstOf p i l) = l.any p := by
  intro l
  induction l with
  | nil => intro i; rfl
  | cons x l ih =>
    intro i
    unfold firstOf
    by_cases h : p x = true
    · rw [if_pos h]; simp [h]
    · rw [if_neg h, ih]; simp [h]
def gAny (args : List Value) (H : AHeap) : Option (Value × AHeap) :=
  match args with
  | [s, .func (.func k) ⟨[]⟩ ⟨[]⟩] => match test k, rd isF s H with
    | some p, some xs => some (.bool (xs.any p), H)
    | _, _ => none
  | _ => none
theorem gAny_eq {k : Nat} {p : Nat → Bool} {s : Value} {H : AHeap} {xs : List Nat} (h : test k = some p) (hs : rd isF s H = some xs) : gAny [s, .func (.func k) #[] #[]] H = some (.bool (xs.any p), H) := by
  show (match test k, rd isF s H with
    | some p, some xs => some (Value.bool (xs.any p), H)
    | _, _ => none) = _
  rw [h, hs]
theorem snd120 {G : Env} (hG : SoundEnv [] Try.prog G) (h140 : G 140 = gIndex) : Sound [] Try.prog 120 gAny := by
  refine sound_of (rs := [.tmp 4]) (n := 9) hG mix Try.func120 rfl rfl rfl (by kernel_rfl) (by decide +kernel) (by decide +kernel) ?_
  intro args H r H' h
  unfold gAny at h
  split at h
  case h_2 => cases h
  rename_i s k
  split at h
  case h_2 => cases h
  rename_i p xs htest hs
  cases h
  refine ⟨by simp, ?_⟩
  simp (maxSteps := 10000000) only [↓exA, exB, exC, exN, exD, exR, tys, ↓reduceIte, Nat.reduceLT, Nat.reduceEqDiff, Nat.reduceAdd, Nat.zero_add, Nat.add_zero, List.map_cons, List.map_nil, Option.map_some, Option.map_none, Option.bind_some, List.length_cons, List.length_nil, List.cons_append, List.nil_append, List.append_nil, List.getElem?_cons_zero, List.getElem?_cons_succ, List.set_cons_zero, List.set_cons_succ, Nat.reduceLeDiff, and_self, and_true, true_and, gval, List.take_zero, List.take_succ_cons, List.drop_zero, List.drop_succ_cons, List.all_cons, List.all_nil, Bool.and_self, Bool.not_true, Bool.not_false, beq_true, beq_false, decide_true, decide_false, eq_self, Nat.reducePow, h140, gIndex_eq htest (rd_hp hs []), firstOf_any]
  exact fits_bare rfl

def gList (q : List Nat → Bool) (args : List Value) (H : AHeap) : Option (Value × AHeap) :=
  match args with
  | [s] => (rd isF s H).map fun xs => (.bool (q xs), H)
  | _ => none
theorem gList_eq (q : List Nat → Bool) (s : Value) (H : AHeap) : gList q [s] H = (rd isF s H).map fun xs => (.bool (q xs), H) := rfl
theorem all_not {α : Type} (p : α → Bool) (l : List α) : (!l.any fun x => !p x) = l.all p := by
  induction l with
  | nil => rfl
  | cons x l ih => simp only [List.any_cons, List.all_cons, Bool.not_or, Bool.not_not, ih]
def allFin (xs : List Nat) : Bool := xs.all isFin
def allGe (xs : List Nat) : Bool := xs.all fun x => isFin x && ge0 x
def allGt (xs : List Nat) : Bool := xs.all fun x => isFin x && gt0 x
theorem snd60 {G : Env} (hG : SoundEnv [] Try.prog G) (h120 : G 120 = gAny) : Sound [] Try.prog 60 (gList allFin) := by
  refine sound_of (rs := [.tmp 2]) (n := 6) hG mix Try.func60 rfl rfl rfl (by kernel_rfl) (by decide +kernel) (by decide +kernel) ?_
  intro args H r H' h
  unfold gList at h
  split at h
  case h_2 => cases h
  rename_i s
  simp only [Option.map_eq_some_iff] at h
  obtain ⟨xs, hs, h⟩ := h; cases h
  refine ⟨by simp, ?_⟩
  simp (maxSteps := 10000000) only [↓exA, exB, exC, exN, exD, exR, tys, ↓reduceIte, Nat.reduceLT, Nat.reduceEqDiff, Nat.reduceAdd, Nat.zero_add, Nat.add_zero, List.map_cons, List.map_nil, Option.map_some, Option.map_none, Option.bind_some, List.length_cons, List.length_nil, List.cons_append, List.nil_append, List.append_nil, List.getElem?_cons_zero, List.getElem?_cons_succ, List.set_cons_zero, List.set_cons_succ, Nat.reduceLeDiff, and_self, and_true, true_and, gval, List.take_zero, List.take_succ_cons, List.drop_zero, List.drop_succ_cons, List.all_cons, List.all_nil, Bool.and_self, Bool.not_true, Bool.not_false, beq_true, beq_false, decide_true, decide_false, eq_self, Nat.reducePow, h120, gAny_eq (k := 121) rfl (rd_hp hs []), all_not]
  exact fits_bare rfl
theorem snd62 {G : Env} (hG : SoundEnv [] Try.prog G) (h120 : G 120 = gAny) : Sound [] Try.prog 62 (gList allGe) := by
  refine sound_of (rs := [.tmp 2]) (n := 6) hG mix Try.func62 rfl rfl rfl (by kernel_rfl) (by decide +kernel) (by decide +kernel) ?_
  intro args H r H' h
  unfold gList at h
  split at h
  case h_2 => cases h
  rename_i s
  simp only [Option.map_eq_some_iff] at h
  obtain ⟨xs, hs, h⟩ := h; cases h
  refine ⟨by simp, ?_⟩
  simp (maxSteps := 10000000) only [↓exA, exB, exC, exN, exD, exR, tys, ↓reduceIte, Nat.reduceLT, Nat.reduceEqDiff, Nat.reduceAdd, Nat.zero_add, Nat.add_zero, List.map_cons, List.map_nil, Option.map_some, Option.map_none, Option.bind_some, List.length_cons, List.length_nil, List.cons_append, List.nil_append, List.append_nil, List.getElem?_cons_zero, List.getElem?_cons_succ, List.set_cons_zero, List.set_cons_succ, Nat.reduceLeDiff, and_self, and_true, true_and, gval, List.take_zero, List.take_succ_cons, List.drop_zero, List.drop_succ_cons, List.all_cons, List.all_nil, Bool.and_self, Bool.not_true, Bool.not_false, beq_true, beq_false, decide_true, decide_false, eq_self, Nat.reducePow, h120, gAny_eq (k := 122) rfl (rd_hp hs []), all_not]
  exact fits_bare rfl
theorem snd63 {G : Env} (hG : SoundEnv [] Try.prog G) (h120 : G 120 = gAny) : Sound [] Try.prog 63 (gList allGt) := by
  refine sound_of (rs := [.tmp 2]) (n := 6) hG mix Try.func63 rfl rfl rfl (by kernel_rfl) (by decide +kernel) (by decide +kernel) ?_
  intro args H r H' h
  unfold gList at h
  split at h
  case h_2 => cases h
  rename_i s
  simp only [Option.map_eq_some_iff] at h
  obtain ⟨xs, hs, h⟩ := h; cases h
  refine ⟨by simp, ?_⟩
  simp (maxSteps := 10000000) only [↓exA, exB, exC, exN, exD, exR, tys, ↓reduceIte, Nat.reduceLT, Nat.reduceEqDiff, Nat.reduceAdd, Nat.zero_add, Nat.add_zero, List.map_cons, List.map_nil, Option.map_some, Option.map_none, Option.bind_some, List.length_cons, List.length_nil, List.cons_append, List.nil_append, List.append_nil, List.getElem?_cons_zero, List.getElem?_cons_succ, List.set_cons_zero, List.set_cons_succ, Nat.reduceLeDiff, and_self, and_true, true_and, gval, List.take_zero, List.take_succ_cons, List.drop_zero, List.drop_succ_cons, List.all_cons, List.all_nil, Bool.and_self, Bool.not_true, Bool.not_false, beq_true, beq_false, decide_true, decide_false, eq_self, Nat.reducePow, h120, gAny_eq (k := 123) rfl (rd_hp hs []), all_not]
  exact fits_bare rfl

/-! ### Trends -/
def trV (l s a b c n d u : Nat) : Value := .agg ⟨[.float .f32 l, .float .f32 s, .float .f32 a, .float .f32 b, .float .f32 c, .float .f32 n, .float .f32 d, .float .f32 u]⟩
def gNumbers (args : List Value) (H : AHeap) : Option (Value × AHeap) :=
  match args with
  | [.agg ⟨[.float .f32 l, .float .f32 s, .float .f32 a, .float .f32 b, .float .f32 c, .float .f32 n, .float .f32 d, .float .f32 u]⟩] => some (mkF [l, s, a, b, c, n, d, u] H)
  | _ => none
theorem gNumbers_eq (l s a b c n d u : Nat) (H : AHeap) : gNumbers [.agg ⟨[.float .f32 l, .float .f32 s, .float .f32 a, .float .f32 b, .float .f32 c, .float .f32 n, .float .f32 d, .float .f32 u]⟩] H = some (mkF [l, s, a, b, c, n, d, u] H) := rfl
theorem buildF_8 (x0 x1 x2 x3 x4 x5 x6 x7 : Nat) (H : AHeap) : aBuildSlice Try.prog 29 8 [(0, .float .f32 x0), (1, .float .f32 x1), (2, .float .f32 x2), (3, .float .f32 x3), (4, .float .f32 x4), (5, .float .f32 x5), (6, .float .f32 x6), (7, .float .f32 x7)] H =
    some (aRow [.float .f32 x0, .float .f32 x1, .float .f32 x2, .float .f32 x3, .float .f32 x4, .float .f32 x5, .float .f32 x6, .float .f32 x7] 8 H) := row_build row_29 8 _ H (by decide) rfl rfl
theorem snd61 {G : Env} (hG : SoundEnv [] Try.prog G) : Sound [] Try.prog 61 gNumbers := by
  refine sound_of (rs := [.tmp 2]) (n := 20) hG mix Try.func61 rfl rfl rfl (by kernel_rfl) (by decide +kernel) (by decide +kernel) ?_
  intro args H r H' h
  unfold gNumbers at h
  split at h
  case h_2 => cases h
  rename_i l s a b c n d u; cases h
  refine ⟨by simp, ?_⟩
  simp (maxSteps := 10000000) only [↓exA, exB, exC, exN, exD, exR, tys, ↓reduceIte, Nat.reduceLT, Nat.reduceEqDiff, Nat.reduceAdd, Nat.zero_add, Nat.add_zero, List.map_cons, List.map_nil, Option.map_some, Option.map_none, Option.bind_some, List.length_cons, List.length_nil, List.cons_append, List.nil_append, List.append_nil, List.getElem?_cons_zero, List.getElem?_cons_succ, List.set_cons_zero, List.set_cons_succ, Nat.reduceLeDiff, and_self, and_true, true_and, gval, List.take_zero, List.take_succ_cons, List.drop_zero, List.drop_succ_cons, List.all_cons, List.all_nil, Bool.and_self, Bool.not_true, Bool.not_false, beq_true, beq_false, decide_true, decide_false, eq_self, Nat.reducePow, buildF_8]
  exact fits_mkF (xs := [l, s, a, b, c, n, d, u]) rfl rfl
def okTr (l s a b c n d u : Nat) : Bool := allFin [l, s, a, b, c, n, d, u] && (allGe [a, c, d, u] && allGt [n])
def gValid (args : List Value) (H : AHeap) : Option (Value × AHeap) :=
  match args with
  | [.agg ⟨[.float .f32 l, .float .f32 s, .float .f32 a, .float .f32 b, .float .f32 c, .float .f32 n, .float .f32 d, .float .f32 u]⟩] => some (.bool (okTr l s a b c n d u), H)
  | _ => none
theorem gValid_eq (l s a b c n d u : Nat) (H : AHeap) : gValid [.agg ⟨[.float .f32 l, .float .f32 s, .float .f32 a, .float .f32 b, .float .f32 c, .float .f32 n, .float .f32 d, .float .f32 u]⟩] H = some (.bool (okTr l s a b c n d u), H) := rfl
theorem buildF_4 (x0 x1 x2 x3 : Nat) (H : AHeap) : aBuildSlice Try.prog 29 4 [(0, .float .f32 x0), (1, .float .f32 x1), (2, .float .f32 x2), (3, .float .f32 x3)] H = some (aRow [.float .f32 x0, .float .f32 x1, .float .f32 x2, .float .f32 x3] 4 H) := row_build row_29 4 _ H (by decide) rfl rfl
theorem buildF_1 (x0 : Nat) (H : AHeap) : aBuildSlice Try.prog 29 1 [(0, .float .f32 x0)] H = some (aRow [.float .f32 x0] 1 H) := row_build row_29 1 _ H (by decide) rfl rfl
theorem buildF_0 (H : AHeap) : aBuildSlice Try.prog 29 0 [] H = some (aRow [] 0 H) := row_build row_29 0 _ H (by decide) rfl rfl
theorem snd13 {G : Env} (hG : SoundEnv [] Try.prog G) (h60 : G 60 = gList allFin) (h61 : G 61 = gNumbers) (h62 : G 62 = gList allGe) (h63 : G 63 = gList allGt) : Sound [] Try.prog 13 gValid := by
  refine sound_of (rs := [.tmp 2]) (n := 24) hG mix Try.func13 rfl rfl rfl (by kernel_rfl) (by decide +kernel) (by decide +kernel) ?_
  intro args H r H' h
  unfold gValid at h
  split at h
  case h_2 => cases h
  rename_i l s a b c n d u; cases h
  refine ⟨by simp, ?_⟩
  simp (maxSteps := 10000000) only [↓exA, exB, exC, exN, exD, exR, tys, ↓reduceIte, Nat.reduceLT, Nat.reduceEqDiff, Nat.reduceAdd, Nat.zero_add, Nat.add_zero, List.map_cons, List.map_nil, Option.map_some, Option.map_none, Option.bind_some, List.length_cons, List.length_nil, List.cons_append, List.nil_append, List.append_nil, List.getElem?_cons_zero, List.getElem?_cons_succ, List.set_cons_zero, List.set_cons_succ, Nat.reduceLeDiff, and_self, and_true, true_and, gval, List.take_zero, List.take_succ_cons, List.drop_zero, List.drop_succ_cons, List.all_cons, List.all_nil, Bool.and_self, Bool.not_true, Bool.not_false, beq_true, beq_false, decide_true, decide_false, eq_self, Nat.reducePow, h60, h61, h62, h63, gNumbers_eq, gList_eq, buildF_4, buildF_1]
  refine condW_intro (fun c1 => ?_) (fun c1 => ?_) <;> (try simp only [Bool.not_eq_true', Bool.not_eq_eq_eq_not, Bool.not_true, Bool.not_false, beq_true, beq_false, beq_iff_eq, beq_eq_false_iff_ne, ne_eq, Bool.not_eq_false, Bool.not_eq_true, decide_eq_true_eq, decide_eq_false_iff_not, Bool.not_not] at c1)
  · simp (maxSteps := 10000000) only [↓exA, exB, exC, exN, exD, exR, tys, ↓reduceIte, Nat.reduceLT, Nat.reduceEqDiff, Nat.reduceAdd, Nat.zero_add, Nat.add_zero, List.map_cons, List.map_nil, Option.map_some, Option.map_none, Option.bind_some, List.length_cons, List.length_nil, List.cons_append, List.nil_append, List.append_nil, List.getElem?_cons_zero, List.getElem?_cons_succ, List.set_cons_zero, List.set_cons_succ, Nat.reduceLeDiff, and_self, and_true, true_and, gval, List.take_zero, List.take_succ_cons, List.drop_zero, List.drop_succ_cons, List.all_cons, List.all_nil, Bool.and_self, Bool.not_true, Bool.not_false, beq_true, beq_false, decide_true, decide_false, eq_self, Nat.reducePow, h60, h61, h62, h63, gNumbers_eq, gList_eq, buildF_4, buildF_1, c1]
    refine condW_intro (fun c2 => ?_) (fun c2 => ?_) <;> (try simp only [Bool.not_eq_true', Bool.not_eq_eq_eq_not, Bool.not_true, Bool.not_false, beq_true, beq_false, beq_iff_eq, beq_eq_false_iff_ne, ne_eq, Bool.not_eq_false, Bool.not_eq_true, decide_eq_true_eq, decide_eq_false_iff_not, Bool.not_not] at c2)
    · simp (maxSteps := 10000000) only [↓exA, exB, exC, exN, exD, exR, tys, ↓reduceIte, Nat.reduceLT, Nat.reduceEqDiff, Nat.reduceAdd, Nat.zero_add, Nat.add_zero, List.map_cons, List.map_nil, Option.map_some, Option.map_none, Option.bind_some, List.length_cons, List.length_nil, List.cons_append, List.nil_append, List.append_nil, List.getElem?_cons_zero, List.getElem?_cons_succ, List.set_cons_zero, List.set_cons_succ, Nat.reduceLeDiff, and_self, and_true, true_and, gval, List.take_zero, List.take_succ_cons, List.drop_zero, List.drop_succ_cons, List.all_cons, List.all_nil, Bool.and_self, Bool.not_true, Bool.not_false, beq_true, beq_false, decide_true, decide_false, eq_self, Nat.reducePow, h60, h61, h62, h63, gNumbers_eq, gList_eq, buildF_4, buildF_1, c1, c2]
      have : okTr l s a b c n d u = allGt [n] := by simp [okTr, c1, c2]
      rw [this]
      exact fits_bare rfl
    · simp (maxSteps := 10000000) only [↓exA, exB, exC, exN, exD, exR, tys, ↓reduceIte, Nat.reduceLT, Nat.reduceEqDiff, Nat.reduceAdd, Nat.zero_add, Nat.add_zero, List.map_cons, List.map_nil, Option.map_some, Option.map_none, Option.bind_some, List.length_cons, List.length_nil, List.cons_append, List.nil_append, List.append_nil, List.getElem?_cons_zero, List.getElem?_cons_succ, List.set_cons_zero, List.set_cons_succ, Nat.reduceLeDiff, and_self, and_true, true_and, gval, List.take_zero, List.take_succ_cons, List.drop_zero, List.drop_succ_cons, List.all_cons, List.all_nil, Bool.and_self, Bool.not_true, Bool.not_false, beq_true, beq_false, decide_true, decide_false, eq_self, Nat.reducePow, h60, h61, h62, h63, gNumbers_eq, gList_eq, buildF_4, buildF_1, c1, c2]
      have : okTr l s a b c n d u = false := by simp [okTr, c1, c2]
      rw [this]
      exact fits_bare rfl
  · simp (maxSteps := 10000000) only [↓exA, exB, exC, exN, exD, exR, tys, ↓reduceIte, Nat.reduceLT, Nat.reduceEqDiff, Nat.reduceAdd, Nat.zero_add, Nat.add_zero, List.map_cons, List.map_nil, Option.map_some, Option.map_none, Option.bind_some, List.length_cons, List.length_nil, List.cons_append, List.nil_append, List.append_nil, List.getElem?_cons_zero, List.getElem?_cons_succ, List.set_cons_zero, List.set_cons_succ, Nat.reduceLeDiff, and_self, and_true, true_and, gval, List.take_zero, List.take_succ_cons, List.drop_zero, List.drop_succ_cons, List.all_cons, List.all_nil, Bool.and_self, Bool.not_true, Bool.not_false, beq_true, beq_false, decide_true, decide_false, eq_self, Nat.reducePow, h60, h61, h62, h63, gNumbers_eq, gList_eq, buildF_4, buildF_1, c1]
    have : okTr l s a b c n d u = false := by simp [okTr, c1]
    rw [this]
    exact fits_bare rfl

/-! ### The same number -/
theorem snd141 : Sound [] Try.prog 141 gBits64 :=
  ext_sound (e := Extern.MathFloatBits.float64bits) Try.func141 (by kernel_rfl) rfl (by kernel_rfl) (by kernel_rfl) fun args H r H' μ cargs w h rel ha => bits64_sound h rel ha
theorem snd142 : Sound [] Try.prog 142 gBits32 :=
  ext_sound (e := Extern.MathFloatBits.float32bits) Try.func142 (by kernel_rfl) rfl (by kernel_rfl) (by kernel_rfl) fun args H r H' μ cargs w h rel ha => bits32_sound h rel ha
def sgn (x : Nat) : Bool := decide (IntKind.i64.wrap (x : Int) < 0)
def gSign (args : List Value) (H : AHeap) : Option (Value × AHeap) :=
  match args with
  | [.float .f64 x] => if nanB .f64 x = true then none else some (.bool (sgn x), H)
  | _ => none
theorem gBits64_eq {x : Nat} (h : nanB .f64 x = false) (H : AHeap) : gBits64 [.float .f64 x] H = some (.int .u64 x, H) := by
  show (if nanB .f64 x = true then none else some (Value.int .u64 x, H)) = _
  rw [h]; rfl
theorem gBits32_eq {x : Nat} (h : nanB .f32 x = false) (H : AHeap) : gBits32 [.float .f32 x] H = some (.int .u32 x, H) := by
  show (if nanB .f32 x = true then none else some (Value.int .u32 x, H)) = _
  rw [h]; rfl
theorem gSign_eq {x : Nat} (h : nanB .f64 x = false) (H : AHeap) : gSign [.float .f64 x] H = some (.bool (sgn x), H) := by
  show (if nanB .f64 x = true then none else some (Value.bool (sgn x), H)) = _
  rw [h]; rfl
theorem snd124 {G : Env} (hG : SoundEnv [] Try.prog G) (h141 : G 141 = gBits64) : Sound [] Try.prog 124 gSign := by
  refine sound_of (rs := [.tmp 2]) (n := 7) hG mix Try.func124 rfl rfl rfl (by kernel_rfl) (by decide +kernel) (by decide +kernel) ?_
  intro args H r H' h
  unfold gSign at h
  split at h
  case h_2 => cases h
  rename_i x
  split at h
  · cases h
  rename_i hx
  simp only [Bool.not_eq_true] at hx
  cases h
  refine ⟨by simp, ?_⟩
  simp (maxSteps := 10000000) only [↓exA, exB, exC, exN, exD, exR, tys, ↓reduceIte, Nat.reduceLT, Nat.reduceEqDiff, Nat.reduceAdd, Nat.zero_add, Nat.add_zero, List.map_cons, List.map_nil, Option.map_some, Option.map_none, Option.bind_some, List.length_cons, List.length_nil, List.cons_append, List.nil_append, List.append_nil, List.getElem?_cons_zero, List.getElem?_cons_succ, List.set_cons_zero, List.set_cons_succ, Nat.reduceLeDiff, and_self, and_true, true_and, gval, List.take_zero, List.take_succ_cons, List.drop_zero, List.drop_succ_cons, List.all_cons, List.all_nil, Bool.and_self, Bool.not_true, Bool.not_false, beq_true, beq_false, decide_true, decide_false, eq_self, Nat.reducePow, h141, gBits64_eq hx]
  exact fits_bare rfl

end Go.Proofs.Ytnhhdgopgecggaa.Abs
