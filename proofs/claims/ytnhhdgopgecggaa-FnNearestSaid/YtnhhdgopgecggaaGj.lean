/- The nearest series by warped ways. No condition. -/
import Derived.Test.YtnhhdgopgecggaaGi
set_option linter.unusedVariables false
set_option linter.unusedSimpArgs false
set_option maxRecDepth 100000
set_option maxHeartbeats 8000000
namespace Go.Proofs.Ytnhhdgopgecggaa.Abs
open Go

def costsOk (xs ys : List Nat) (win : Int) : Bool := series xs && series ys && decide (0 ≤ win ∧ win ≤ 96) && allFin (costL xs ys win)
def gCosts (args : List Value) (H : AHeap) : Option (Value × AHeap) :=
  match args with
  | [s, s', .int .i64 win] => match rd isF s H, rd isF s' H with
    | some xs, some ys => if costsOk xs ys win = true then some (.tuple ⟨[(mkF (costL xs ys win) H).1, .bool true]⟩, (mkF (costL xs ys win) H).2) else some (.tuple ⟨[.slice none 0 0, .bool false]⟩, H)
    | _, _ => none
  | _ => none
theorem gCosts_yes {s s' : Value} {win : Int} {H : AHeap} {xs ys : List Nat} (h : rd isF s H = some xs) (h' : rd isF s' H = some ys) (hb : costsOk xs ys win = true) : gCosts [s, s', .int .i64 win] H = some (.tuple ⟨[(mkF (costL xs ys win) H).1, .bool true]⟩, (mkF (costL xs ys win) H).2) := by
  unfold gCosts; simp only [h, h']; rw [if_pos hb]
theorem gCosts_no {s s' : Value} {win : Int} {H : AHeap} {xs ys : List Nat} (h : rd isF s H = some xs) (h' : rd isF s' H = some ys) (hb : costsOk xs ys win = false) : gCosts [s, s', .int .i64 win] H = some (.tuple ⟨[.slice none 0 0, .bool false]⟩, H) := by
  unfold gCosts; simp only [h, h']; rw [if_neg (by rw [hb]; decide)]
theorem series_inv {xs : List Nat} (h : series xs = true) : 1 ≤ xs.length ∧ xs.length ≤ 96 ∧ allFin xs = true := by
  unfold series at h
  simp only [Bool.and_eq_true, decide_eq_true_eq] at h
  exact h
theorem costL_length (xs ys : List Nat) (win : Int) : (costL xs ys win).length = xs.length * ys.length := costN_length ..
theorem field_124 (v w : Value) : aField Try.prog 124 (.agg ⟨[v, w]⟩) 0 = some v := by kernel_rfl
theorem snd127 {G : Env} (hG : SoundEnv [] Try.prog G) (h73 : G 73 = gWindow) (h143 : G 143 = gWarped) (h56 : G 56 = gIfAll) : Sound [] Try.prog 127 gCosts := by
  refine sound_of (rs := [.tmp 6, .tmp 7]) (n := 21) hG mix Try.func127 rfl rfl rfl (by kernel_rfl) (by decide +kernel) (by decide +kernel) ?_
  intro args H r H' h
  unfold gCosts at h
  split at h
  case h_2 => cases h
  rename_i s s' win
  split at h
  case h_2 => cases h
  rename_i xs ys hs hs'
  refine ⟨by split at h <;> (cases h; simp), ?_⟩
  cases c1 : (series xs && series ys && decide (0 ≤ win ∧ win ≤ 96))
  · have hb : costsOk xs ys win = false := by unfold costsOk; rw [c1]; rfl
    rw [if_neg (by rw [hb]; decide)] at h
    cases h
    simp (maxSteps := 10000000) only [↓exA, exB, exC, exN, exD, exR, tys, ↓reduceIte, Nat.reduceLT, Nat.reduceEqDiff, Nat.reduceAdd, Nat.zero_add, Nat.add_zero, List.map_cons, List.map_nil, Option.map_some, Option.map_none, Option.bind_some, List.length_cons, List.length_nil, List.cons_append, List.nil_append, List.append_nil, List.getElem?_cons_zero, List.getElem?_cons_succ, List.set_cons_zero, List.set_cons_succ, Nat.reduceLeDiff, and_self, and_true, true_and, gval, List.take_zero, List.take_succ_cons, List.drop_zero, List.drop_succ_cons, List.all_cons, List.all_nil, Bool.and_self, Bool.not_true, Bool.not_false, beq_true, beq_false, decide_true, decide_false, eq_self, Nat.reducePow, h73, gWindow_eq (rd_hp hs _) (rd_hp hs' _), c1]
    exact fits_bare rfl
  · have c1' := c1
    simp only [Bool.and_eq_true] at c1'
    obtain ⟨⟨c2, c3⟩, c4⟩ := c1'
    obtain ⟨l1, l2, _⟩ := series_inv c2
    obtain ⟨l3, l4, _⟩ := series_inv c3
    have hcl := costL_length xs ys win
    have hsm : xs.length * ys.length ≤ 96 * 96 := Nat.mul_le_mul l2 l4
    have hrd := rd_mkF (costL xs ys win) H [] (by omega)
    simp only [List.nil_append, List.length_nil] at hrd
    cases c5 : allFin (costL xs ys win)
    · have hb : costsOk xs ys win = false := by unfold costsOk; rw [c5]; simp
      rw [if_neg (by rw [hb]; decide)] at h
      cases h
      simp (maxSteps := 10000000) only [↓exA, exB, exC, exN, exD, exR, tys, ↓reduceIte, Nat.reduceLT, Nat.reduceEqDiff, Nat.reduceAdd, Nat.zero_add, Nat.add_zero, List.map_cons, List.map_nil, Option.map_some, Option.map_none, Option.bind_some, List.length_cons, List.length_nil, List.cons_append, List.nil_append, List.append_nil, List.getElem?_cons_zero, List.getElem?_cons_succ, List.set_cons_zero, List.set_cons_succ, Nat.reduceLeDiff, and_self, and_true, true_and, gval, List.take_zero, List.take_succ_cons, List.drop_zero, List.drop_succ_cons, List.all_cons, List.all_nil, Bool.and_self, Bool.not_true, Bool.not_false, beq_true, beq_false, decide_true, decide_false, eq_self, Nat.reducePow, h73, gWindow_eq (rd_hp hs _) (rd_hp hs' _), c1, h143, gWarped_eq (rd_hp hs _) (rd_hp hs' _) l1 l2 l3 l4, field_124, h56, gIfAll_no hrd c5]
      exact fits_bare rfl
    · have hb : costsOk xs ys win = true := by unfold costsOk; rw [c1, c5]; rfl
      rw [if_pos hb] at h
      cases h
      simp (maxSteps := 10000000) only [↓exA, exB, exC, exN, exD, exR, tys, ↓reduceIte, Nat.reduceLT, Nat.reduceEqDiff, Nat.reduceAdd, Nat.zero_add, Nat.add_zero, List.map_cons, List.map_nil, Option.map_some, Option.map_none, Option.bind_some, List.length_cons, List.length_nil, List.cons_append, List.nil_append, List.append_nil, List.getElem?_cons_zero, List.getElem?_cons_succ, List.set_cons_zero, List.set_cons_succ, Nat.reduceLeDiff, and_self, and_true, true_and, gval, List.take_zero, List.take_succ_cons, List.drop_zero, List.drop_succ_cons, List.all_cons, List.all_nil, Bool.and_self, Bool.not_true, Bool.not_false, beq_true, beq_false, decide_true, decide_false, eq_self, Nat.reducePow, h73, gWindow_eq (rd_hp hs _) (rd_hp hs' _), c1, h143, gWarped_eq (rd_hp hs _) (rd_hp hs' _) l1 l2 l3 l4, field_124, h56, gIfAll_eq hrd c5]
      exact fits_mkT rfl rfl

def lastC (xs ys : List Nat) (win : Int) : Nat := (costL xs ys win).getD (xs.length * ys.length - 1) 0
/-- A warped way exists. -/
def warpOk (xs ys : List Nat) (win : Int) : Bool := costsOk xs ys win && !fcmp .lss .f32 (lastC xs ys win) 0
def gWarpFar (args : List Value) (H : AHeap) : Option (Value × AHeap) :=
  match args with
  | [s, s', .int .i64 win] => match rd isF s H, rd isF s' H with
    | some xs, some ys => some (.tuple ⟨if warpOk xs ys win = true then [.float .f32 (lastC xs ys win), .bool true] else [.float .f32 0, .bool false]⟩, H)
    | _, _ => none
  | _ => none
theorem gWarpFar_yes {s s' : Value} {win : Int} {H : AHeap} {xs ys : List Nat} (h : rd isF s H = some xs) (h' : rd isF s' H = some ys) (hb : warpOk xs ys win = true) : gWarpFar [s, s', .int .i64 win] H = some (.tuple ⟨[.float .f32 (lastC xs ys win), .bool true]⟩, H) := by
  unfold gWarpFar; simp only [h, h']; rw [if_pos hb]
theorem snd75 {G : Env} (hG : SoundEnv [] Try.prog G) (h127 : G 127 = gCosts) : Sound [] Try.prog 75 gWarpFar := by
  refine sound_of (rs := [.tmp 6, .tmp 7]) (n := 34) hG mix Try.func75 rfl rfl rfl (by kernel_rfl) (by decide +kernel) (by decide +kernel) ?_
  intro args H r H' h
  unfold gWarpFar at h
  split at h
  case h_2 => cases h
  rename_i s s' win
  split at h
  case h_2 => cases h
  rename_i xs ys hs hs'
  cases h
  refine ⟨by simp, ?_⟩
  cases c1 : costsOk xs ys win
  · have hb : warpOk xs ys win = false := by unfold warpOk; rw [c1]; rfl
    rw [if_neg (by rw [hb]; decide)]
    simp (maxSteps := 10000000) only [↓exA, exB, exC, exN, exD, exR, tys, ↓reduceIte, Nat.reduceLT, Nat.reduceEqDiff, Nat.reduceAdd, Nat.zero_add, Nat.add_zero, List.map_cons, List.map_nil, Option.map_some, Option.map_none, Option.bind_some, List.length_cons, List.length_nil, List.cons_append, List.nil_append, List.append_nil, List.getElem?_cons_zero, List.getElem?_cons_succ, List.set_cons_zero, List.set_cons_succ, Nat.reduceLeDiff, and_self, and_true, true_and, gval, List.take_zero, List.take_succ_cons, List.drop_zero, List.drop_succ_cons, List.all_cons, List.all_nil, Bool.and_self, Bool.not_true, Bool.not_false, beq_true, beq_false, decide_true, decide_false, eq_self, Nat.reducePow, h127, gCosts_no (rd_hp hs _) (rd_hp hs' _) c1]
    exact fits_bare rfl
  · have c1' := c1
    unfold costsOk at c1'
    simp only [Bool.and_eq_true] at c1'
    obtain ⟨⟨⟨c2, c3⟩, c4⟩, c5⟩ := c1'
    obtain ⟨l1, l2, _⟩ := series_inv c2
    obtain ⟨l3, l4, _⟩ := series_inv c3
    have hcl := costL_length xs ys win
    have hpos : 1 ≤ xs.length * ys.length := Nat.mul_pos l1 l3
    have hsm : xs.length * ys.length ≤ 96 * 96 := Nat.mul_le_mul l2 l4
    have w1 : IntKind.i64.wrap (((costL xs ys win).length : Int) - 1) = ((xs.length * ys.length - 1 : Nat) : Int) := by
      rw [hcl, wrap_i64 (by omega) (by omega)]; omega
    have hget : ((costL xs ys win).map fun x => Value.float .f32 x)[xs.length * ys.length - 1]? = some (.float .f32 (lastC xs ys win)) := by
      unfold lastC
      rw [List.getElem?_map, List.getD_eq_getElem?_getD, List.getElem?_eq_getElem (by rw [hcl]; omega)]; rfl
    have d1 : (0 : Int) ≤ ((xs.length * ys.length - 1 : Nat) : Int) := Int.natCast_nonneg _
    have d2 : ((xs.length * ys.length - 1 : Nat) : Int) < ((costL xs ys win).length : Int) := by rw [hcl]; omega
    simp (maxSteps := 10000000) only [↓exA, exB, exC, exN, exD, exR, tys, ↓reduceIte, Nat.reduceLT, Nat.reduceEqDiff, Nat.reduceAdd, Nat.zero_add, Nat.add_zero, List.map_cons, List.map_nil, Option.map_some, Option.map_none, Option.bind_some, List.length_cons, List.length_nil, List.cons_append, List.nil_append, List.append_nil, List.getElem?_cons_zero, List.getElem?_cons_succ, List.set_cons_zero, List.set_cons_succ, Nat.reduceLeDiff, and_self, and_true, true_and, gval, List.take_zero, List.take_succ_cons, List.drop_zero, List.drop_succ_cons, List.all_cons, List.all_nil, Bool.and_self, Bool.not_true, Bool.not_false, beq_true, beq_false, decide_true, decide_false, eq_self, Nat.reducePow, h127, gCosts_yes (rd_hp hs _) (rd_hp hs' _) c1, w1, d1, d2, Int.toNat_natCast, hget]
    cases c6 : fcmp .lss .f32 (lastC xs ys win) 0
    · have hb : warpOk xs ys win = true := by unfold warpOk; rw [c1, c6]; rfl
      rw [if_pos hb]
      simp (maxSteps := 10000000) only [↓exA, exB, exC, exN, exD, exR, tys, ↓reduceIte, Nat.reduceLT, Nat.reduceEqDiff, Nat.reduceAdd, Nat.zero_add, Nat.add_zero, List.map_cons, List.map_nil, Option.map_some, Option.map_none, Option.bind_some, List.length_cons, List.length_nil, List.cons_append, List.nil_append, List.append_nil, List.getElem?_cons_zero, List.getElem?_cons_succ, List.set_cons_zero, List.set_cons_succ, Nat.reduceLeDiff, and_self, and_true, true_and, gval, List.take_zero, List.take_succ_cons, List.drop_zero, List.drop_succ_cons, List.all_cons, List.all_nil, Bool.and_self, Bool.not_true, Bool.not_false, beq_true, beq_false, decide_true, decide_false, eq_self, Nat.reducePow, c6, w1, d1, d2, Int.toNat_natCast, hget]
      exact fits_bare rfl
    · have hb : warpOk xs ys win = false := by unfold warpOk; rw [c1, c6]; rfl
      rw [if_neg (by rw [hb]; decide)]
      simp (maxSteps := 10000000) only [↓exA, exB, exC, exN, exD, exR, tys, ↓reduceIte, Nat.reduceLT, Nat.reduceEqDiff, Nat.reduceAdd, Nat.zero_add, Nat.add_zero, List.map_cons, List.map_nil, Option.map_some, Option.map_none, Option.bind_some, List.length_cons, List.length_nil, List.cons_append, List.nil_append, List.append_nil, List.getElem?_cons_zero, List.getElem?_cons_succ, List.set_cons_zero, List.set_cons_succ, Nat.reduceLeDiff, and_self, and_true, true_and, gval, List.take_zero, List.take_succ_cons, List.drop_zero, List.drop_succ_cons, List.all_cons, List.all_nil, Bool.and_self, Bool.not_true, Bool.not_false, beq_true, beq_false, decide_true, decide_false, eq_self, Nat.reducePow, c6]
      exact fits_bare rfl

def warpAt (xss : List (List Nat)) (xs : List Nat) (win : Int) (i : Nat) : Nat := lastC (xss.getD i []) xs win
/-- Where all ways exist. -/
def gNearWarp (args : List Value) (H : AHeap) : Option (Value × AHeap) :=
  match args with
  | [s, s', .int .i64 win, .int .i64 wk] => match rd2 s H, rd isF s' H with
    | some xss, some xs => if shapes xss = true ∧ series xs = true ∧ (0 ≤ win ∧ win ≤ 96) ∧ (1 ≤ wk ∧ wk ≤ 8) ∧ (∀ i, i < xss.length → warpOk (xss.getD i []) xs win = true) then
        some (.tuple ⟨[.int .i64 ((bestN (warpAt xss xs win) xss.length).1 : Nat), .float .f32 (bestN (warpAt xss xs win) xss.length).2, .bool true]⟩, H) else none
    | _, _ => none
  | _ => none
theorem gNearWarp_eq {s s' : Value} {win wk : Int} {H : AHeap} {xss : List (List Nat)} {xs : List Nat} (h : rd2 s H = some xss) (h' : rd isF s' H = some xs) (h1 : shapes xss = true) (h2 : series xs = true) (h3 : 0 ≤ win ∧ win ≤ 96) (h4 : 1 ≤ wk ∧ wk ≤ 8) (h5 : ∀ i, i < xss.length → warpOk (xss.getD i []) xs win = true) :
    gNearWarp [s, s', .int .i64 win, .int .i64 wk] H = some (.tuple ⟨[.int .i64 ((bestN (warpAt xss xs win) xss.length).1 : Nat), .float .f32 (bestN (warpAt xss xs win) xss.length).2, .bool true]⟩, H) := by
  unfold gNearWarp; simp only [h, h']
  rw [if_pos ⟨h1, h2, h3, h4, h5⟩]
/-- As the program has it: -1 as long as there is none. -/
def bestI (F : Nat → Nat) (i : Nat) : Int := if i = 0 then -1 else ((bestN F i).1 : Nat)
theorem bestI_succ (F : Nat → Nat) (i : Nat) : bestI F (i + 1) = ((bestN F (i + 1)).1 : Nat) := by unfold bestI; rw [if_neg (by omega)]
theorem snd22 {G : Env} (hG : SoundEnv [] Try.prog G) (h71 : G 71 = gShapes) (h73 : G 73 = gWindow) (h74 : G 74 = gWorkers) (h75 : G 75 = gWarpFar) : Sound [] Try.prog 22 gNearWarp := by
  refine sound_of (rs := [.tmp 8, .tmp 9, .tmp 10]) (n := 65) hG mix Try.func22 rfl rfl rfl (by kernel_rfl) (by decide +kernel) (by decide +kernel) ?_
  intro args H r H' h
  unfold gNearWarp at h
  split at h
  case h_2 => cases h
  rename_i s s' win wk
  split at h
  case h_2 => cases h
  rename_i xss xs hs hs'
  split at h
  case isFalse => cases h
  rename_i hok
  cases h
  obtain ⟨ok1, ok2, ok3, ok4, ok5⟩ := hok
  obtain ⟨a, n, c, rows⟩ := rd2_rows hs
  cases rows.eq
  have hl := rows.len
  have hn1 : 1 ≤ xss.length ∧ xss.length ≤ 16 := by
    cases xss with
    | nil => simp [shapes] at ok1
    | cons ys rest => exact ⟨by simp, (shapes_two ok1 (i := 0) (by simp)).2.1⟩
  obtain ⟨b0, off0, lk0, cs0, v0, ha0, hb0, hv0, hr0, ho0⟩ := rows.cell (i := 0) (by omega)
  rw [Nat.add_zero] at hv0
  have hb0' := fun e => hp_old hb0 e
  have hn : (0 : Int) < (n : Int) := by omega
  have z0 : (0 : Int) ≤ 0 := Int.le_refl _
  have z1 : Int.toNat 0 = 0 := rfl
  have s0 : series (xss.getD 0 []) = true := (two_inv (shapes_two ok1 (i := 0) (by omega)).2.2).1
  have hwin : (series (xss.getD 0 []) && series xs && decide (0 ≤ win ∧ win ≤ 96)) = true := by rw [s0, ok2]; simpa using ok3
  have hwk : decide (1 ≤ wk ∧ wk ≤ 8) = true := by simpa using ok4
  subst ha0
  refine ⟨by simp, ?_⟩
  simp (maxSteps := 10000000) only [↓exA, exB, exC, exN, exD, exR, tys, ↓reduceIte, Nat.reduceLT, Nat.reduceEqDiff, Nat.reduceAdd, Nat.zero_add, Nat.add_zero, List.map_cons, List.map_nil, Option.map_some, Option.map_none, Option.bind_some, List.length_cons, List.length_nil, List.cons_append, List.nil_append, List.append_nil, List.getElem?_cons_zero, List.getElem?_cons_succ, List.set_cons_zero, List.set_cons_succ, Nat.reduceLeDiff, and_self, and_true, true_and, gval, List.take_zero, List.take_succ_cons, List.drop_zero, List.drop_succ_cons, List.all_cons, List.all_nil, Bool.and_self, Bool.not_true, Bool.not_false, beq_true, beq_false, decide_true, decide_false, eq_self, Nat.reducePow, h71, gShapes_eq (rd2_hp hs _), ok1, hb0', hn, z0, z1, hv0, ho0, h73, gWindow_eq (rd_hp hr0 _) (rd_hp hs' _), hwin, h74, gWorkers_eq, hwk]
  refine X_loop (I := fun m t K => ∃ f i, t = mk 65 f ∧ K = hp H [] ∧ f 1 = s' ∧ f 2 = .int .i64 win ∧ f 11 = .int .i64 (bestI (warpAt xss xs win) i) ∧ f 12 = .float .f32 (bestN (warpAt xss xs win) i).2 ∧ f 34 = .slice (some ⟨b0, off0, none⟩) n c ∧ f 35 = .int .i64 (n : Nat) ∧ f 36 = .int .i64 (i : Nat) ∧ i + m = n) (m := n) ?_ ?_
  · rintro m t K ⟨f, i, rfl, rfl, f1, f2, f11, f12, f34, f35, f36, hm⟩
    simp (maxSteps := 10000000) only [↓exA, exB, exC, exN, exD, exR, tys, ↓reduceIte, Nat.reduceLT, Nat.reduceEqDiff, Nat.reduceAdd, Nat.zero_add, Nat.add_zero, List.map_cons, List.map_nil, Option.map_some, Option.map_none, Option.bind_some, List.length_cons, List.length_nil, List.cons_append, List.nil_append, List.append_nil, List.getElem?_cons_zero, List.getElem?_cons_succ, List.set_cons_zero, List.set_cons_succ, Nat.reduceLeDiff, and_self, and_true, true_and, gval, List.take_zero, List.take_succ_cons, List.drop_zero, List.drop_succ_cons, List.all_cons, List.all_nil, Bool.and_self, Bool.not_true, Bool.not_false, beq_true, beq_false, decide_true, decide_false, eq_self, Nat.reducePow, f1, f2, f11, f12, f34, f35, f36]
    refine condW_intro (fun c1 => ?_) (fun c1 => ?_) <;> (try simp only [Bool.not_eq_true', Bool.not_eq_eq_eq_not, Bool.not_true, Bool.not_false, beq_true, beq_false, beq_iff_eq, beq_eq_false_iff_ne, ne_eq, Bool.not_eq_false, Bool.not_eq_true, decide_eq_true_eq, decide_eq_false_iff_not, Bool.not_not] at c1)
    · have hi : i < xss.length := by omega
      obtain ⟨b, off, lk, cs, v, ha, hb, hv, hr, ho⟩ := (rows.hp []).cell hi
      cases ha
      have hr1 : rd isF v H = some (xss.getD i []) := by rw [hp_nil] at hr; exact hr
      have hfar : gWarpFar [v, s', .int .i64 win] (hp H []) = some (.tuple ⟨[.float .f32 (warpAt xss xs win i), .bool true]⟩, hp H []) := gWarpFar_yes (rd_hp hr1 _) (rd_hp hs' _) (ok5 i hi)
      have hst : ∀ (g : Nat → Value), g 1 = s' → g 2 = .int .i64 win → g 11 = .int .i64 ((bestN (warpAt xss xs win) (i + 1)).1 : Nat) → g 12 = .float .f32 (bestN (warpAt xss xs win) (i + 1)).2 → g 34 = .slice (some ⟨b0, off0, none⟩) n c → g 35 = .int .i64 (n : Nat) → g 36 = .int .i64 ((i + 1 : Nat) : Int) →
          ∃ m', m' < m ∧ ∃ f i, mk 65 g = mk 65 f ∧ hp H [] = hp H [] ∧ f 1 = s' ∧ f 2 = .int .i64 win ∧ f 11 = .int .i64 (bestI (warpAt xss xs win) i) ∧ f 12 = .float .f32 (bestN (warpAt xss xs win) i).2 ∧ f 34 = .slice (some ⟨b0, off0, none⟩) n c ∧ f 35 = .int .i64 (n : Nat) ∧ f 36 = .int .i64 (i : Nat) ∧ i + m' = n :=
        fun g g1 g2 g11 g12 g34 g35 g36 => ⟨m - 1, by omega, g, i + 1, rfl, rfl, g1, g2, by rw [bestI_succ]; exact g11, g12, g34, g35, g36, by omega⟩
      have hw : IntKind.i64.wrap ((i : Int) + 1) = ((i + 1 : Nat) : Int) := by rw [wrap_i64 (by omega) (by omega)]; simp
      have hb1 := bestN_succ (warpAt xss xs win) i
      by_cases h00 : i = 0
      · rw [if_pos (Or.inl h00)] at hb1
        rw [hb1] at hst
        have hd0 : decide (bestI (warpAt xss xs win) i < 0) = true := by
          unfold bestI; rw [if_pos h00]; decide
        simp (maxSteps := 10000000) only [↓exA, exB, exC, exN, exD, exR, tys, ↓reduceIte, Nat.reduceLT, Nat.reduceEqDiff, Nat.reduceAdd, Nat.zero_add, Nat.add_zero, List.map_cons, List.map_nil, Option.map_some, Option.map_none, Option.bind_some, List.length_cons, List.length_nil, List.cons_append, List.nil_append, List.append_nil, List.getElem?_cons_zero, List.getElem?_cons_succ, List.set_cons_zero, List.set_cons_succ, Nat.reduceLeDiff, and_self, and_true, true_and, gval, List.take_zero, List.take_succ_cons, List.drop_zero, List.drop_succ_cons, List.all_cons, List.all_nil, Bool.and_self, Bool.not_true, Bool.not_false, beq_true, beq_false, decide_true, decide_false, eq_self, Nat.reducePow, f1, f2, f11, f12, f34, f35, f36, c1, Int.natCast_nonneg, Int.toNat_natCast, hb, hv, ho, h75, hfar, hd0]
        refine hst _ ?_ ?_ ?_ ?_ ?_ ?_ ?_
        all_goals (try simp (maxSteps := 10000000) only [↓exA, exB, exC, exN, exD, exR, tys, ↓reduceIte, Nat.reduceLT, Nat.reduceEqDiff, Nat.reduceAdd, Nat.zero_add, Nat.add_zero, List.map_cons, List.map_nil, Option.map_some, Option.map_none, Option.bind_some, List.length_cons, List.length_nil, List.cons_append, List.nil_append, List.append_nil, List.getElem?_cons_zero, List.getElem?_cons_succ, List.set_cons_zero, List.set_cons_succ, Nat.reduceLeDiff, and_self, and_true, true_and, gval, List.take_zero, List.take_succ_cons, List.drop_zero, List.drop_succ_cons, List.all_cons, List.all_nil, Bool.and_self, Bool.not_true, Bool.not_false, beq_true, beq_false, decide_true, decide_false, eq_self, Nat.reducePow, f1, f2, f11, f12, f34, f35, f36, hw])
        all_goals (try rfl)
      · have hd0 : decide (bestI (warpAt xss xs win) i < 0) = false := by
          unfold bestI; rw [if_neg h00]; simp
        have hbi : bestI (warpAt xss xs win) i = ((bestN (warpAt xss xs win) i).1 : Nat) := by unfold bestI; rw [if_neg h00]
        simp (maxSteps := 10000000) only [↓exA, exB, exC, exN, exD, exR, tys, ↓reduceIte, Nat.reduceLT, Nat.reduceEqDiff, Nat.reduceAdd, Nat.zero_add, Nat.add_zero, List.map_cons, List.map_nil, Option.map_some, Option.map_none, Option.bind_some, List.length_cons, List.length_nil, List.cons_append, List.nil_append, List.append_nil, List.getElem?_cons_zero, List.getElem?_cons_succ, List.set_cons_zero, List.set_cons_succ, Nat.reduceLeDiff, and_self, and_true, true_and, gval, List.take_zero, List.take_succ_cons, List.drop_zero, List.drop_succ_cons, List.all_cons, List.all_nil, Bool.and_self, Bool.not_true, Bool.not_false, beq_true, beq_false, decide_true, decide_false, eq_self, Nat.reducePow, f1, f2, f11, f12, f34, f35, f36, c1, Int.natCast_nonneg, Int.toNat_natCast, hb, hv, ho, h75, hfar, hd0]
        refine condW_intro (fun c2 => ?_) (fun c2 => ?_) <;> (try simp only [Bool.not_eq_true', Bool.not_eq_eq_eq_not, Bool.not_true, Bool.not_false, beq_true, beq_false, beq_iff_eq, beq_eq_false_iff_ne, ne_eq, Bool.not_eq_false, Bool.not_eq_true, decide_eq_true_eq, decide_eq_false_iff_not, Bool.not_not] at c2)
        · rw [if_pos (Or.inr c2)] at hb1
          rw [hb1] at hst
          simp (maxSteps := 10000000) only [↓exA, exB, exC, exN, exD, exR, tys, ↓reduceIte, Nat.reduceLT, Nat.reduceEqDiff, Nat.reduceAdd, Nat.zero_add, Nat.add_zero, List.map_cons, List.map_nil, Option.map_some, Option.map_none, Option.bind_some, List.length_cons, List.length_nil, List.cons_append, List.nil_append, List.append_nil, List.getElem?_cons_zero, List.getElem?_cons_succ, List.set_cons_zero, List.set_cons_succ, Nat.reduceLeDiff, and_self, and_true, true_and, gval, List.take_zero, List.take_succ_cons, List.drop_zero, List.drop_succ_cons, List.all_cons, List.all_nil, Bool.and_self, Bool.not_true, Bool.not_false, beq_true, beq_false, decide_true, decide_false, eq_self, Nat.reducePow, f1, f2, f11, f12, f34, f35, f36]
          refine hst _ ?_ ?_ ?_ ?_ ?_ ?_ ?_
          all_goals (try simp (maxSteps := 10000000) only [↓exA, exB, exC, exN, exD, exR, tys, ↓reduceIte, Nat.reduceLT, Nat.reduceEqDiff, Nat.reduceAdd, Nat.zero_add, Nat.add_zero, List.map_cons, List.map_nil, Option.map_some, Option.map_none, Option.bind_some, List.length_cons, List.length_nil, List.cons_append, List.nil_append, List.append_nil, List.getElem?_cons_zero, List.getElem?_cons_succ, List.set_cons_zero, List.set_cons_succ, Nat.reduceLeDiff, and_self, and_true, true_and, gval, List.take_zero, List.take_succ_cons, List.drop_zero, List.drop_succ_cons, List.all_cons, List.all_nil, Bool.and_self, Bool.not_true, Bool.not_false, beq_true, beq_false, decide_true, decide_false, eq_self, Nat.reducePow, f1, f2, f11, f12, f34, f35, f36, hw])
          all_goals (try rfl)
        · rw [if_neg (by rintro (h | h); exact h00 h; rw [c2] at h; cases h)] at hb1
          rw [hb1] at hst
          simp (maxSteps := 10000000) only [↓exA, exB, exC, exN, exD, exR, tys, ↓reduceIte, Nat.reduceLT, Nat.reduceEqDiff, Nat.reduceAdd, Nat.zero_add, Nat.add_zero, List.map_cons, List.map_nil, Option.map_some, Option.map_none, Option.bind_some, List.length_cons, List.length_nil, List.cons_append, List.nil_append, List.append_nil, List.getElem?_cons_zero, List.getElem?_cons_succ, List.set_cons_zero, List.set_cons_succ, Nat.reduceLeDiff, and_self, and_true, true_and, gval, List.take_zero, List.take_succ_cons, List.drop_zero, List.drop_succ_cons, List.all_cons, List.all_nil, Bool.and_self, Bool.not_true, Bool.not_false, beq_true, beq_false, decide_true, decide_false, eq_self, Nat.reducePow, f1, f2, f11, f12, f34, f35, f36]
          refine hst _ ?_ ?_ ?_ ?_ ?_ ?_ ?_
          all_goals (try simp (maxSteps := 10000000) only [↓exA, exB, exC, exN, exD, exR, tys, ↓reduceIte, Nat.reduceLT, Nat.reduceEqDiff, Nat.reduceAdd, Nat.zero_add, Nat.add_zero, List.map_cons, List.map_nil, Option.map_some, Option.map_none, Option.bind_some, List.length_cons, List.length_nil, List.cons_append, List.nil_append, List.append_nil, List.getElem?_cons_zero, List.getElem?_cons_succ, List.set_cons_zero, List.set_cons_succ, Nat.reduceLeDiff, and_self, and_true, true_and, gval, List.take_zero, List.take_succ_cons, List.drop_zero, List.drop_succ_cons, List.all_cons, List.all_nil, Bool.and_self, Bool.not_true, Bool.not_false, beq_true, beq_false, decide_true, decide_false, eq_self, Nat.reducePow, f1, f2, f11, f12, f34, f35, f36, hw, hbi])
          all_goals (try rfl)
    · have hi : i = xss.length := by omega
      have hbi : bestI (warpAt xss xs win) i = ((bestN (warpAt xss xs win) i).1 : Nat) := by unfold bestI; rw [if_neg (by omega)]
      have hd0 : decide ((((bestN (warpAt xss xs win) i).1 : Nat) : Int) < 0) = false := by simp
      simp (maxSteps := 10000000) only [↓exA, exB, exC, exN, exD, exR, tys, ↓reduceIte, Nat.reduceLT, Nat.reduceEqDiff, Nat.reduceAdd, Nat.zero_add, Nat.add_zero, List.map_cons, List.map_nil, Option.map_some, Option.map_none, Option.bind_some, List.length_cons, List.length_nil, List.cons_append, List.nil_append, List.append_nil, List.getElem?_cons_zero, List.getElem?_cons_succ, List.set_cons_zero, List.set_cons_succ, Nat.reduceLeDiff, and_self, and_true, true_and, gval, List.take_zero, List.take_succ_cons, List.drop_zero, List.drop_succ_cons, List.all_cons, List.all_nil, Bool.and_self, Bool.not_true, Bool.not_false, beq_true, beq_false, decide_true, decide_false, eq_self, Nat.reducePow, f11, f12, hbi, hd0]
      rw [hi]
      exact fits_bare rfl
  · refine ⟨_, 0, rfl, rfl, ?_, ?_, ?_, ?_, ?_, ?_, ?_, by omega⟩
    all_goals simp (maxSteps := 10000000) only [↓exA, exB, exC, exN, exD, exR, tys, ↓reduceIte, Nat.reduceLT, Nat.reduceEqDiff, Nat.reduceAdd, Nat.zero_add, Nat.add_zero, List.map_cons, List.map_nil, Option.map_some, Option.map_none, Option.bind_some, List.length_cons, List.length_nil, List.cons_append, List.nil_append, List.append_nil, List.getElem?_cons_zero, List.getElem?_cons_succ, List.set_cons_zero, List.set_cons_succ, Nat.reduceLeDiff, and_self, and_true, true_and, gval, List.take_zero, List.take_succ_cons, List.drop_zero, List.drop_succ_cons, List.all_cons, List.all_nil, Bool.and_self, Bool.not_true, Bool.not_false, beq_true, beq_false, decide_true, decide_false, eq_self, Nat.reducePow]
    all_goals rfl

end Go.Proofs.Ytnhhdgopgecggaa.Abs
