/- The costs of warped ways: their parts. No condition. -/
import Derived.Test.YtnhhdgopgecggaaGg
set_option linter.unusedVariables false
set_option linter.unusedSimpArgs false
set_option maxRecDepth 100000
set_option maxHeartbeats 4000000
namespace Go.Proofs.Ytnhhdgopgecggaa.Abs
open Go

theorem agg_101 : aggT Try.prog 101 = some true := by kernel_rfl
theorem sz_101 : szT Try.prog 101 = some 2 := by kernel_rfl
theorem zero_101 : zeroT Try.prog 101 = some (.agg ⟨[.int .i64 0, .int .i64 0]⟩) := by kernel_rfl
theorem alloc_101 : ∀ H, aAlloc Try.prog 101 H = some (aNew [.int .i64 0, .int .i64 0] H) := fun H => aAlloc_of Try.prog zero_101 (by rfl) H
theorem ixa_101 (b off : Nat) (k : IntKind) (i : Int) : aIndexAddr Try.prog 101 (.pointer (some ⟨b, off, none⟩)) (.int k i) = if 0 ≤ i ∧ i < 2 then some (.pointer (some ⟨b, off + i.toNat * 1, none⟩)) else none := by
  unfold aIndexAddr
  dsimp only
  rw [show arrT Try.prog 101 = some (2, 3) by kernel_rfl]
  dsimp only
  rw [show szT Try.prog 3 = some 1 by kernel_rfl]
  rfl
theorem build_101_0 : aBuild Try.prog 101 [] = some (.agg ⟨[.int .i64 0, .int .i64 0]⟩) := by kernel_rfl
theorem build_101_2 (a b : Int) : aBuild Try.prog 101 [(0, .int .i64 a), (1, .int .i64 b)] = some (.agg ⟨[.int .i64 a, .int .i64 b]⟩) := by kernel_rfl
theorem build_139 (a b c d e f : Int) : aBuild Try.prog 139 [(0, .agg ⟨[.int .i64 a, .int .i64 b]⟩), (1, .agg ⟨[.int .i64 c, .int .i64 d]⟩), (2, .agg ⟨[.int .i64 e, .int .i64 f]⟩)] = some (.agg ⟨[.int .i64 a, .int .i64 b, .int .i64 c, .int .i64 d, .int .i64 e, .int .i64 f]⟩) := by kernel_rfl
theorem ix_139 (cs : List Value) (k : IntKind) (i : Int) : aIndex Try.prog 139 (.agg ⟨cs⟩) (.int k i) = if 0 ≤ i ∧ i < 3 then aPart Try.prog 101 cs (i.toNat * 2) else none := by
  unfold aIndex
  dsimp only
  rw [show arrT Try.prog 139 = some (3, 101) by kernel_rfl]
  dsimp only
  rw [sz_101]
  rfl
theorem part_101 (cs : List Value) (o : Nat) : aPart Try.prog 101 cs o = some (.agg ⟨(cs.drop o).take 2⟩) := by
  unfold aPart
  rw [agg_101, sz_101]

def absF (x : Nat) : Nat := fmax .f32 x (fneg .f32 x)
theorem snd90 {G : Env} (hG : SoundEnv [] Try.prog G) : Sound [] Try.prog 90 (fun args H => match args with | [.float .f32 x] => some (.float .f32 (absF x), H) | _ => none) := by
  refine sound_of (rs := [.tmp 2]) (n := 7) hG mix Try.func90 rfl rfl rfl (by kernel_rfl) (by decide +kernel) (by decide +kernel) ?_
  intro args H r H' h
  split at h
  case h_2 => cases h
  rename_i x
  cases h
  refine ⟨by simp, ?_⟩
  simp (maxSteps := 10000000) only [↓exA, exB, exC, exN, exD, exR, tys, ↓reduceIte, Nat.reduceLT, Nat.reduceEqDiff, Nat.reduceAdd, Nat.zero_add, Nat.add_zero, List.map_cons, List.map_nil, Option.map_some, Option.map_none, Option.bind_some, List.length_cons, List.length_nil, List.cons_append, List.nil_append, List.append_nil, List.getElem?_cons_zero, List.getElem?_cons_succ, List.set_cons_zero, List.set_cons_succ, Nat.reduceLeDiff, and_self, and_true, true_and, gval, List.take_zero, List.take_succ_cons, List.drop_zero, List.drop_succ_cons, List.all_cons, List.all_nil, Bool.and_self, Bool.not_true, Bool.not_false, beq_true, beq_false, decide_true, decide_false, eq_self, Nat.reducePow]
  exact fits_bare rfl

/-- The cost at two places. -/
def atV (cs : List Nat) (w : Nat) (i k : Int) : Nat := if i < 0 ∨ k < 0 then 3212836864 else cs.getD (i * w + k).toNat 0
structure OkAt (cs : List Nat) (w : Nat) (i k : Int) : Prop where
  i0 : -1 ≤ i
  i1 : i ≤ 96
  k0 : -1 ≤ k
  k1 : k ≤ 96
  lt : 0 ≤ i → 0 ≤ k → i * w + k < cs.length
  w1 : w ≤ 96
open Classical in
noncomputable def gAt2 (args : List Value) (H : AHeap) : Option (Value × AHeap) :=
  match args with
  | [.agg ⟨[s, .int .i64 w]⟩, .int .i64 i, .int .i64 k] => match rd isF s H with
    | some cs => if 0 ≤ w ∧ OkAt cs w.toNat i k then some (.float .f32 (atV cs w.toNat i k), H) else none
    | none => none
  | _ => none
theorem gAt2_eq {s : Value} {w : Nat} {i k : Int} {H : AHeap} {cs : List Nat} (h : rd isF s H = some cs) (ok : OkAt cs w i k) : gAt2 [.agg ⟨[s, .int .i64 w]⟩, .int .i64 i, .int .i64 k] H = some (.float .f32 (atV cs w i k), H) := by
  unfold gAt2
  simp only [h]
  rw [if_pos ⟨by omega, by simpa using ok⟩]
  simp
theorem snd155 {G : Env} (hG : SoundEnv [] Try.prog G) : Sound [] Try.prog 155 gAt2 := by
  refine sound_of (rs := [.tmp 6]) (n := 23) hG mix Try.func155 rfl rfl rfl (by kernel_rfl) (by decide +kernel) (by decide +kernel) ?_
  intro args H r H' h
  unfold gAt2 at h
  split at h
  case h_2 => cases h
  rename_i s w i k
  split at h
  case h_2 => cases h
  rename_i cs hs
  split at h
  case isFalse => cases h
  rename_i hok
  cases h
  obtain ⟨hw, ok⟩ := hok
  obtain ⟨w', rfl⟩ := Int.eq_ofNat_of_zero_le hw
  rw [Int.toNat_natCast] at ok ⊢
  obtain ⟨a, n, c, row⟩ := rd_row hs
  cases row.eq
  have hl := row.len
  obtain ⟨q1, q2, q3, q4, q5, q6⟩ := ok
  refine ⟨by simp, ?_⟩
  by_cases hi : i < 0
  · have hd : decide (i < 0) = true := by simpa using hi
    have hv : atV cs w' i k = 3212836864 := if_pos (.inl hi)
    simp (maxSteps := 10000000) only [↓exA, exB, exC, exN, exD, exR, tys, ↓reduceIte, Nat.reduceLT, Nat.reduceEqDiff, Nat.reduceAdd, Nat.zero_add, Nat.add_zero, List.map_cons, List.map_nil, Option.map_some, Option.map_none, Option.bind_some, List.length_cons, List.length_nil, List.cons_append, List.nil_append, List.append_nil, List.getElem?_cons_zero, List.getElem?_cons_succ, List.set_cons_zero, List.set_cons_succ, Nat.reduceLeDiff, and_self, and_true, true_and, gval, List.take_zero, List.take_succ_cons, List.drop_zero, List.drop_succ_cons, List.all_cons, List.all_nil, Bool.and_self, Bool.not_true, Bool.not_false, beq_true, beq_false, decide_true, decide_false, eq_self, Nat.reducePow, hd]
    rw [hv]
    exact fits_bare rfl
  · have hd : decide (i < 0) = false := by simpa using hi
    by_cases hk : k < 0
    · have hd2 : decide (k < 0) = true := by simpa using hk
      have hv : atV cs w' i k = 3212836864 := if_pos (.inr hk)
      simp (maxSteps := 10000000) only [↓exA, exB, exC, exN, exD, exR, tys, ↓reduceIte, Nat.reduceLT, Nat.reduceEqDiff, Nat.reduceAdd, Nat.zero_add, Nat.add_zero, List.map_cons, List.map_nil, Option.map_some, Option.map_none, Option.bind_some, List.length_cons, List.length_nil, List.cons_append, List.nil_append, List.append_nil, List.getElem?_cons_zero, List.getElem?_cons_succ, List.set_cons_zero, List.set_cons_succ, Nat.reduceLeDiff, and_self, and_true, true_and, gval, List.take_zero, List.take_succ_cons, List.drop_zero, List.drop_succ_cons, List.all_cons, List.all_nil, Bool.and_self, Bool.not_true, Bool.not_false, beq_true, beq_false, decide_true, decide_false, eq_self, Nat.reducePow, hd, hd2]
      rw [hv]
      exact fits_bare rfl
    · have hd2 : decide (k < 0) = false := by simpa using hk
      have hlt := q5 (by omega) (by omega)
      have hm0 : 0 ≤ i * (w' : Int) := Int.mul_nonneg (by omega) (by omega)
      have hm1 : i * (w' : Int) ≤ 96 * 96 := Int.mul_le_mul (by omega) (by omega) (by omega) (by omega)
      have w1 : IntKind.i64.wrap (i * (w' : Int)) = i * (w' : Int) := wrap_i64 (by omega) (by omega)
      have w2 : IntKind.i64.wrap (i * (w' : Int) + k) = i * (w' : Int) + k := wrap_i64 (by omega) (by omega)
      have hv : atV cs w' i k = cs.getD (i * (w' : Int) + k).toNat 0 := if_neg (by omega)
      obtain ⟨b, off, lk, ds, ha, hb, hc⟩ := row.cellF (i := (i * (w' : Int) + k).toNat) (by omega)
      subst ha
      have hb' := fun e => hp_old hb e
      have c1 : (0 : Int) ≤ i * (w' : Int) + k := by omega
      have c2 : i * (w' : Int) + k < (n : Int) := by omega
      simp (maxSteps := 10000000) only [↓exA, exB, exC, exN, exD, exR, tys, ↓reduceIte, Nat.reduceLT, Nat.reduceEqDiff, Nat.reduceAdd, Nat.zero_add, Nat.add_zero, List.map_cons, List.map_nil, Option.map_some, Option.map_none, Option.bind_some, List.length_cons, List.length_nil, List.cons_append, List.nil_append, List.append_nil, List.getElem?_cons_zero, List.getElem?_cons_succ, List.set_cons_zero, List.set_cons_succ, Nat.reduceLeDiff, and_self, and_true, true_and, gval, List.take_zero, List.take_succ_cons, List.drop_zero, List.drop_succ_cons, List.all_cons, List.all_nil, Bool.and_self, Bool.not_true, Bool.not_false, beq_true, beq_false, decide_true, decide_false, eq_self, Nat.reducePow, hd, hd2, w1, w2, c1, c2, hb', hc]
      rw [hv]
      exact fits_bare rfl

/-- The places before two places. -/
def cand (i k : Int) (j : Nat) : Int × Int := if j = 0 then (i - 1, k) else if j = 1 then (i, k - 1) else (i - 1, k - 1)
def befStep (A : Int → Int → Nat) (p : Int × Int) (st : (Int × Int) × Bool) : (Int × Int) × Bool :=
  if fcmp .geq .f32 (A p.1 p.2) 0 && (!st.2 || fcmp .lss .f32 (A p.1 p.2) (A st.1.1 st.1.2)) then (p, true) else st
def befN (A : Int → Int → Nat) (i k : Int) : Nat → (Int × Int) × Bool
  | 0 => ((0, 0), false)
  | j + 1 => befStep A (cand i k j) (befN A i k j)
theorem befN_succ (A : Int → Int → Nat) (i k : Int) (j : Nat) : befN A i k (j + 1) = befStep A (cand i k j) (befN A i k j) := rfl
def befV (cs : List Nat) (w : Nat) (i k : Int) : (Int × Int) × Bool := befN (atV cs w) i k 3
open Classical in
noncomputable def gBefore (args : List Value) (H : AHeap) : Option (Value × AHeap) :=
  match args with
  | [.agg ⟨[s, .int .i64 w]⟩, .int .i64 i, .int .i64 k] => match rd isF s H with
    | some cs => if 0 ≤ w ∧ 0 ≤ i ∧ 0 ≤ k ∧ (∀ j, OkAt cs w.toNat (cand i k j).1 (cand i k j).2) then
        some (.tuple ⟨[.int .i64 (befV cs w.toNat i k).1.1, .int .i64 (befV cs w.toNat i k).1.2, .bool (befV cs w.toNat i k).2]⟩, H) else none
    | none => none
  | _ => none
theorem gBefore_eq {s : Value} {w : Nat} {i k : Int} {H : AHeap} {cs : List Nat} (h : rd isF s H = some cs) (hi : 0 ≤ i) (hk : 0 ≤ k) (ok : ∀ j, OkAt cs w (cand i k j).1 (cand i k j).2) : gBefore [.agg ⟨[s, .int .i64 w]⟩, .int .i64 i, .int .i64 k] H = some (.tuple ⟨[.int .i64 (befV cs w i k).1.1, .int .i64 (befV cs w i k).1.2, .bool (befV cs w i k).2]⟩, H) := by
  unfold gBefore
  simp only [h]
  rw [if_pos ⟨by omega, hi, hk, by simpa using ok⟩]
  simp
theorem snd154 {G : Env} (hG : SoundEnv [] Try.prog G) (h155 : G 155 = gAt2) : Sound [] Try.prog 154 gBefore := by
  refine sound_of (rs := [.tmp 6, .tmp 7, .tmp 8]) (n := 61) hG mix Try.func154 rfl rfl rfl (by kernel_rfl) (by decide +kernel) (by decide +kernel) ?_
  intro args H r H' h
  unfold gBefore at h
  split at h
  case h_2 => cases h
  rename_i s w i k
  split at h
  case h_2 => cases h
  rename_i cs hs
  split at h
  case isFalse => cases h
  rename_i hok
  cases h
  obtain ⟨hw, hi, hk, ok⟩ := hok
  obtain ⟨w', rfl⟩ := Int.eq_ofNat_of_zero_le hw
  rw [Int.toNat_natCast] at ok ⊢
  have o0 := ok 0
  have o2 := ok 2
  have hib : i ≤ 97 := by have := o0.i1; simp [cand] at this; omega
  have hkb : k ≤ 96 := by have := o0.k1; simp [cand] at this; omega
  have w1 : IntKind.i64.wrap (i - 1) = i - 1 := wrap_i64 (by omega) (by omega)
  have w2 : IntKind.i64.wrap (k - 1) = k - 1 := wrap_i64 (by omega) (by omega)
  have hos : oneB s = true := by
    obtain ⟨a, n, c, row⟩ := rd_row hs
    cases row.eq; rfl
  refine ⟨by simp, ?_⟩
  have inv : ∀ j, (befN (atV cs w') i k j).2 = true → OkAt cs w' (befN (atV cs w') i k j).1.1 (befN (atV cs w') i k j).1.2 := by
    intro j
    induction j with
    | zero => intro h; cases h
    | succ j ih =>
      rw [befN_succ]
      unfold befStep
      split
      · intro _; exact ok j
      · exact ih
  simp (maxSteps := 10000000) only [↓exA, exB, exC, exN, exD, exR, tys, ↓reduceIte, Nat.reduceLT, Nat.reduceEqDiff, Nat.reduceAdd, Nat.zero_add, Nat.add_zero, List.map_cons, List.map_nil, Option.map_some, Option.map_none, Option.bind_some, List.length_cons, List.length_nil, List.cons_append, List.nil_append, List.append_nil, List.getElem?_cons_zero, List.getElem?_cons_succ, List.set_cons_zero, List.set_cons_succ, Nat.reduceLeDiff, and_self, and_true, true_and, gval, List.take_zero, List.take_succ_cons, List.drop_zero, List.drop_succ_cons, List.all_cons, List.all_nil, Bool.and_self, Bool.not_true, Bool.not_false, beq_true, beq_false, decide_true, decide_false, eq_self, Nat.reducePow, build_101_0, alloc_101, sz_101, w1, w2, build_101_2, build_139, hos]
  refine X_loop (I := fun m t K => ∃ (f : Nat → Value) (j : Nat) (ext : AHeap), t = mk 61 f ∧ K = hp H ext ∧ f 3 = .pointer (some ⟨nb H 0, 0, none⟩) ∧ f 9 = .pointer (some ⟨nb H 1, 0, none⟩) ∧ f 10 = .bool (befN (atV cs w') i k j).2
    ∧ f 28 = .agg ⟨[.int .i64 (i - 1), .int .i64 k, .int .i64 i, .int .i64 (k - 1), .int .i64 (i - 1), .int .i64 (k - 1)]⟩ ∧ f 29 = .int .i64 (j : Nat)
    ∧ ext[0]? = some (.live false [s, .int .i64 w']) ∧ ext[1]? = some (.live false [.int .i64 (befN (atV cs w') i k j).1.1, .int .i64 (befN (atV cs w') i k j).1.2]) ∧ j + m = 3) (m := 3) ?_ ?_
  · rintro m t K ⟨f, j, ext, rfl, rfl, f3, f9, f10, f28, f29, e0, e1, hm⟩
    simp (maxSteps := 10000000) only [↓exA, exB, exC, exN, exD, exR, tys, ↓reduceIte, Nat.reduceLT, Nat.reduceEqDiff, Nat.reduceAdd, Nat.zero_add, Nat.add_zero, List.map_cons, List.map_nil, Option.map_some, Option.map_none, Option.bind_some, List.length_cons, List.length_nil, List.cons_append, List.nil_append, List.append_nil, List.getElem?_cons_zero, List.getElem?_cons_succ, List.set_cons_zero, List.set_cons_succ, Nat.reduceLeDiff, and_self, and_true, true_and, gval, List.take_zero, List.take_succ_cons, List.drop_zero, List.drop_succ_cons, List.all_cons, List.all_nil, Bool.and_self, Bool.not_true, Bool.not_false, beq_true, beq_false, decide_true, decide_false, eq_self, Nat.reducePow, f3, f9, f10, f28, f29]
    refine condW_intro (fun c1 => ?_) (fun c1 => ?_) <;> (try simp only [Bool.not_eq_true', Bool.not_eq_eq_eq_not, Bool.not_true, Bool.not_false, beq_true, beq_false, beq_iff_eq, beq_eq_false_iff_ne, ne_eq, Bool.not_eq_false, Bool.not_eq_true, decide_eq_true_eq, decide_eq_false_iff_not, Bool.not_not] at c1)
    · have hl1 : 1 < ext.length := (List.getElem?_eq_some_iff.1 e1).1
      have hl0 : 0 < ext.length := by omega
      have hcd : ((([.int .i64 (i - 1), .int .i64 k, .int .i64 i, .int .i64 (k - 1), .int .i64 (i - 1), .int .i64 (k - 1)] : List Value).drop (j * 2)).take 2) = [.int .i64 (cand i k j).1, .int .i64 (cand i k j).2] := by
        have : j = 0 ∨ j = 1 ∨ j = 2 := by omega
        rcases this with h | h | h <;> subst h <;> rfl
      have okj := ok j
      have hA := fun e => gAt2_eq (rd_hp hs e) okj
      have g0 : ∀ B, (ext ++ [B])[0]? = some (.live false [s, .int .i64 w']) := fun B => by rw [List.getElem?_append_left hl0]; exact e0
      have g1 : ∀ B, (ext ++ [B])[1]? = some (.live false [.int .i64 (befN (atV cs w') i k j).1.1, .int .i64 (befN (atV cs w') i k j).1.2]) := fun B => by rw [List.getElem?_append_left hl1]; exact e1
      have hj0 : (0 : Int) ≤ (j : Int) := by omega
      have z0 : (0 : Int) ≤ 0 := Int.le_refl _
      have z1 : (0 : Int) < 2 := by decide
      have z2 : (0 : Int) ≤ 1 := by decide
      have z3 : (1 : Int) < 2 := by decide
      have z4 : Int.toNat 0 = 0 := rfl
      have z5 : Int.toNat 1 = 1 := rfl
      simp (maxSteps := 10000000) only [↓exA, exB, exC, exN, exD, exR, tys, ↓reduceIte, Nat.reduceLT, Nat.reduceEqDiff, Nat.reduceAdd, Nat.zero_add, Nat.add_zero, List.map_cons, List.map_nil, Option.map_some, Option.map_none, Option.bind_some, List.length_cons, List.length_nil, List.cons_append, List.nil_append, List.append_nil, List.getElem?_cons_zero, List.getElem?_cons_succ, List.set_cons_zero, List.set_cons_succ, Nat.reduceLeDiff, and_self, and_true, true_and, gval, List.take_zero, List.take_succ_cons, List.drop_zero, List.drop_succ_cons, List.all_cons, List.all_nil, Bool.and_self, Bool.not_true, Bool.not_false, beq_true, beq_false, decide_true, decide_false, eq_self, Nat.reducePow, f3, f9, f10, f28, f29, c1, hj0, ix_139, part_101, Int.toNat_natCast, hcd, alloc_101, sz_101, agg_101, getElem?_app_len, set_app_len, g0, g1, ixa_101, z0, z1, z2, z3, z4, z5, Nat.zero_mul, Nat.one_mul, h155, hA]
      have hst : ∀ (g : Nat → Value) (ext' : AHeap), g 3 = .pointer (some ⟨nb H 0, 0, none⟩) → g 9 = .pointer (some ⟨nb H 1, 0, none⟩) → g 10 = .bool (befN (atV cs w') i k (j + 1)).2 → g 28 = .agg ⟨[.int .i64 (i - 1), .int .i64 k, .int .i64 i, .int .i64 (k - 1), .int .i64 (i - 1), .int .i64 (k - 1)]⟩ → g 29 = .int .i64 ((j + 1 : Nat) : Int) →
          ext'[0]? = some (.live false [s, .int .i64 w']) → ext'[1]? = some (.live false [.int .i64 (befN (atV cs w') i k (j + 1)).1.1, .int .i64 (befN (atV cs w') i k (j + 1)).1.2]) →
          ∃ m', m' < m ∧ ∃ (f : Nat → Value) (j : Nat) (ext : AHeap), mk 61 g = mk 61 f ∧ hp H ext' = hp H ext ∧ f 3 = .pointer (some ⟨nb H 0, 0, none⟩) ∧ f 9 = .pointer (some ⟨nb H 1, 0, none⟩) ∧ f 10 = .bool (befN (atV cs w') i k j).2 ∧ f 28 = .agg ⟨[.int .i64 (i - 1), .int .i64 k, .int .i64 i, .int .i64 (k - 1), .int .i64 (i - 1), .int .i64 (k - 1)]⟩ ∧ f 29 = .int .i64 (j : Nat) ∧ ext[0]? = some (.live false [s, .int .i64 w']) ∧ ext[1]? = some (.live false [.int .i64 (befN (atV cs w') i k j).1.1, .int .i64 (befN (atV cs w') i k j).1.2]) ∧ j + m' = 3 :=
        fun g ext' a1 a2 a3 a4 a5 a6 a7 => ⟨m - 1, by omega, g, j + 1, ext', rfl, rfl, a1, a2, a3, a4, a5, a6, a7, by omega⟩
      have hw : IntKind.i64.wrap ((j : Int) + 1) = ((j + 1 : Nat) : Int) := by rw [wrap_i64 (by omega) (by omega)]; simp
      have hb1 := befN_succ (atV cs w') i k j
      unfold befStep at hb1
      cases hq : fcmp .geq .f32 (atV cs w' (cand i k j).1 (cand i k j).2) 0
      · rw [hq, Bool.false_and, if_neg (by decide)] at hb1
        rw [hb1] at hst
        simp (maxSteps := 10000000) only [↓exA, exB, exC, exN, exD, exR, tys, ↓reduceIte, Nat.reduceLT, Nat.reduceEqDiff, Nat.reduceAdd, Nat.zero_add, Nat.add_zero, List.map_cons, List.map_nil, Option.map_some, Option.map_none, Option.bind_some, List.length_cons, List.length_nil, List.cons_append, List.nil_append, List.append_nil, List.getElem?_cons_zero, List.getElem?_cons_succ, List.set_cons_zero, List.set_cons_succ, Nat.reduceLeDiff, and_self, and_true, true_and, gval, List.take_zero, List.take_succ_cons, List.drop_zero, List.drop_succ_cons, List.all_cons, List.all_nil, Bool.and_self, Bool.not_true, Bool.not_false, beq_true, beq_false, decide_true, decide_false, eq_self, Nat.reducePow, f3, f9, f10, f28, f29, hq]
        refine hst _ _ ?_ ?_ ?_ ?_ ?_ (g0 _) (g1 _)
        all_goals (try simp (maxSteps := 10000000) only [↓exA, exB, exC, exN, exD, exR, tys, ↓reduceIte, Nat.reduceLT, Nat.reduceEqDiff, Nat.reduceAdd, Nat.zero_add, Nat.add_zero, List.map_cons, List.map_nil, Option.map_some, Option.map_none, Option.bind_some, List.length_cons, List.length_nil, List.cons_append, List.nil_append, List.append_nil, List.getElem?_cons_zero, List.getElem?_cons_succ, List.set_cons_zero, List.set_cons_succ, Nat.reduceLeDiff, and_self, and_true, true_and, gval, List.take_zero, List.take_succ_cons, List.drop_zero, List.drop_succ_cons, List.all_cons, List.all_nil, Bool.and_self, Bool.not_true, Bool.not_false, beq_true, beq_false, decide_true, decide_false, eq_self, Nat.reducePow, f3, f9, f10, f28, f29, hw])
      · cases hf : (befN (atV cs w') i k j).2
        · rw [hq, hf, Bool.not_false, Bool.true_or, Bool.true_and, if_pos rfl] at hb1
          rw [hb1] at hst
          simp (maxSteps := 10000000) only [↓exA, exB, exC, exN, exD, exR, tys, ↓reduceIte, Nat.reduceLT, Nat.reduceEqDiff, Nat.reduceAdd, Nat.zero_add, Nat.add_zero, List.map_cons, List.map_nil, Option.map_some, Option.map_none, Option.bind_some, List.length_cons, List.length_nil, List.cons_append, List.nil_append, List.append_nil, List.getElem?_cons_zero, List.getElem?_cons_succ, List.set_cons_zero, List.set_cons_succ, Nat.reduceLeDiff, and_self, and_true, true_and, gval, List.take_zero, List.take_succ_cons, List.drop_zero, List.drop_succ_cons, List.all_cons, List.all_nil, Bool.and_self, Bool.not_true, Bool.not_false, beq_true, beq_false, decide_true, decide_false, eq_self, Nat.reducePow, f3, f9, f10, f28, f29, hq, hf, getElem?_app_len, g1, agg_101, sz_101]
          refine hst _ _ ?_ ?_ ?_ ?_ ?_ ?_ ?_
          all_goals (try simp (maxSteps := 10000000) only [↓exA, exB, exC, exN, exD, exR, tys, ↓reduceIte, Nat.reduceLT, Nat.reduceEqDiff, Nat.reduceAdd, Nat.zero_add, Nat.add_zero, List.map_cons, List.map_nil, Option.map_some, Option.map_none, Option.bind_some, List.length_cons, List.length_nil, List.cons_append, List.nil_append, List.append_nil, List.getElem?_cons_zero, List.getElem?_cons_succ, List.set_cons_zero, List.set_cons_succ, Nat.reduceLeDiff, and_self, and_true, true_and, gval, List.take_zero, List.take_succ_cons, List.drop_zero, List.drop_succ_cons, List.all_cons, List.all_nil, Bool.and_self, Bool.not_true, Bool.not_false, beq_true, beq_false, decide_true, decide_false, eq_self, Nat.reducePow, f3, f9, f10, f28, f29, hw])
          · rw [List.getElem?_set, if_neg (by decide)]; exact g0 _
          · rw [List.getElem?_set, if_pos rfl, if_pos (by simp; omega)]
        · have hB := fun e => gAt2_eq (rd_hp hs e) (inv j hf)
          rw [hq, hf, Bool.not_true, Bool.false_or, Bool.true_and] at hb1
          simp (maxSteps := 10000000) only [↓exA, exB, exC, exN, exD, exR, tys, ↓reduceIte, Nat.reduceLT, Nat.reduceEqDiff, Nat.reduceAdd, Nat.zero_add, Nat.add_zero, List.map_cons, List.map_nil, Option.map_some, Option.map_none, Option.bind_some, List.length_cons, List.length_nil, List.cons_append, List.nil_append, List.append_nil, List.getElem?_cons_zero, List.getElem?_cons_succ, List.set_cons_zero, List.set_cons_succ, Nat.reduceLeDiff, and_self, and_true, true_and, gval, List.take_zero, List.take_succ_cons, List.drop_zero, List.drop_succ_cons, List.all_cons, List.all_nil, Bool.and_self, Bool.not_true, Bool.not_false, beq_true, beq_false, decide_true, decide_false, eq_self, Nat.reducePow, f3, f9, f10, f28, f29, hq, hf, g0, g1, ixa_101, z0, z1, z2, z3, z4, z5, Nat.zero_mul, Nat.one_mul, h155, hB]
          cases hl : fcmp .lss .f32 (atV cs w' (cand i k j).1 (cand i k j).2) (atV cs w' (befN (atV cs w') i k j).1.1 (befN (atV cs w') i k j).1.2)
          · rw [hl, if_neg (by decide)] at hb1
            rw [hb1] at hst
            simp (maxSteps := 10000000) only [↓exA, exB, exC, exN, exD, exR, tys, ↓reduceIte, Nat.reduceLT, Nat.reduceEqDiff, Nat.reduceAdd, Nat.zero_add, Nat.add_zero, List.map_cons, List.map_nil, Option.map_some, Option.map_none, Option.bind_some, List.length_cons, List.length_nil, List.cons_append, List.nil_append, List.append_nil, List.getElem?_cons_zero, List.getElem?_cons_succ, List.set_cons_zero, List.set_cons_succ, Nat.reduceLeDiff, and_self, and_true, true_and, gval, List.take_zero, List.take_succ_cons, List.drop_zero, List.drop_succ_cons, List.all_cons, List.all_nil, Bool.and_self, Bool.not_true, Bool.not_false, beq_true, beq_false, decide_true, decide_false, eq_self, Nat.reducePow, f3, f9, f10, f28, f29, hl]
            refine hst _ _ ?_ ?_ ?_ ?_ ?_ (g0 _) (g1 _)
            all_goals (try simp (maxSteps := 10000000) only [↓exA, exB, exC, exN, exD, exR, tys, ↓reduceIte, Nat.reduceLT, Nat.reduceEqDiff, Nat.reduceAdd, Nat.zero_add, Nat.add_zero, List.map_cons, List.map_nil, Option.map_some, Option.map_none, Option.bind_some, List.length_cons, List.length_nil, List.cons_append, List.nil_append, List.append_nil, List.getElem?_cons_zero, List.getElem?_cons_succ, List.set_cons_zero, List.set_cons_succ, Nat.reduceLeDiff, and_self, and_true, true_and, gval, List.take_zero, List.take_succ_cons, List.drop_zero, List.drop_succ_cons, List.all_cons, List.all_nil, Bool.and_self, Bool.not_true, Bool.not_false, beq_true, beq_false, decide_true, decide_false, eq_self, Nat.reducePow, f3, f9, f10, f28, f29, hw, hf])
          · rw [hl, if_pos rfl] at hb1
            rw [hb1] at hst
            simp (maxSteps := 10000000) only [↓exA, exB, exC, exN, exD, exR, tys, ↓reduceIte, Nat.reduceLT, Nat.reduceEqDiff, Nat.reduceAdd, Nat.zero_add, Nat.add_zero, List.map_cons, List.map_nil, Option.map_some, Option.map_none, Option.bind_some, List.length_cons, List.length_nil, List.cons_append, List.nil_append, List.append_nil, List.getElem?_cons_zero, List.getElem?_cons_succ, List.set_cons_zero, List.set_cons_succ, Nat.reduceLeDiff, and_self, and_true, true_and, gval, List.take_zero, List.take_succ_cons, List.drop_zero, List.drop_succ_cons, List.all_cons, List.all_nil, Bool.and_self, Bool.not_true, Bool.not_false, beq_true, beq_false, decide_true, decide_false, eq_self, Nat.reducePow, f3, f9, f10, f28, f29, hl, getElem?_app_len, g1, agg_101, sz_101]
            refine hst _ _ ?_ ?_ ?_ ?_ ?_ ?_ ?_
            all_goals (try simp (maxSteps := 10000000) only [↓exA, exB, exC, exN, exD, exR, tys, ↓reduceIte, Nat.reduceLT, Nat.reduceEqDiff, Nat.reduceAdd, Nat.zero_add, Nat.add_zero, List.map_cons, List.map_nil, Option.map_some, Option.map_none, Option.bind_some, List.length_cons, List.length_nil, List.cons_append, List.nil_append, List.append_nil, List.getElem?_cons_zero, List.getElem?_cons_succ, List.set_cons_zero, List.set_cons_succ, Nat.reduceLeDiff, and_self, and_true, true_and, gval, List.take_zero, List.take_succ_cons, List.drop_zero, List.drop_succ_cons, List.all_cons, List.all_nil, Bool.and_self, Bool.not_true, Bool.not_false, beq_true, beq_false, decide_true, decide_false, eq_self, Nat.reducePow, f3, f9, f10, f28, f29, hw])
            · rw [List.getElem?_set, if_neg (by decide)]; exact g0 _
            · rw [List.getElem?_set, if_pos rfl, if_pos (by simp; omega)]
    · have hj : j = 3 := by omega
      subst hj
      have z0 : (0 : Int) ≤ 0 := Int.le_refl _
      have z1 : (0 : Int) < 2 := by decide
      have z2 : (0 : Int) ≤ 1 := by decide
      have z3 : (1 : Int) < 2 := by decide
      have z4 : Int.toNat 0 = 0 := rfl
      have z5 : Int.toNat 1 = 1 := rfl
      simp (maxSteps := 10000000) only [↓exA, exB, exC, exN, exD, exR, tys, ↓reduceIte, Nat.reduceLT, Nat.reduceEqDiff, Nat.reduceAdd, Nat.zero_add, Nat.add_zero, List.map_cons, List.map_nil, Option.map_some, Option.map_none, Option.bind_some, List.length_cons, List.length_nil, List.cons_append, List.nil_append, List.append_nil, List.getElem?_cons_zero, List.getElem?_cons_succ, List.set_cons_zero, List.set_cons_succ, Nat.reduceLeDiff, and_self, and_true, true_and, gval, List.take_zero, List.take_succ_cons, List.drop_zero, List.drop_succ_cons, List.all_cons, List.all_nil, Bool.and_self, Bool.not_true, Bool.not_false, beq_true, beq_false, decide_true, decide_false, eq_self, Nat.reducePow, f9, f10, e1, ixa_101, z0, z1, z2, z3, z4, z5, Nat.zero_mul, Nat.one_mul]
      exact fits_bare rfl
  · refine ⟨_, 0, _, rfl, rfl, ?_, ?_, ?_, ?_, ?_, rfl, rfl, by omega⟩
    all_goals simp (maxSteps := 10000000) only [↓exA, exB, exC, exN, exD, exR, tys, ↓reduceIte, Nat.reduceLT, Nat.reduceEqDiff, Nat.reduceAdd, Nat.zero_add, Nat.add_zero, List.map_cons, List.map_nil, Option.map_some, Option.map_none, Option.bind_some, List.length_cons, List.length_nil, List.cons_append, List.nil_append, List.append_nil, List.getElem?_cons_zero, List.getElem?_cons_succ, List.set_cons_zero, List.set_cons_succ, Nat.reduceLeDiff, and_self, and_true, true_and, gval, List.take_zero, List.take_succ_cons, List.drop_zero, List.drop_succ_cons, List.all_cons, List.all_nil, Bool.and_self, Bool.not_true, Bool.not_false, beq_true, beq_false, decide_true, decide_false, eq_self, Nat.reducePow]
    all_goals rfl

end Go.Proofs.Ytnhhdgopgecggaa.Abs
