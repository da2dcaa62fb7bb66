/- Tests of lists of series; the nearest series. No condition. -/
import Derived.Test.YtnhhdgopgecggaaGf
set_option linter.unusedVariables false
set_option linter.unusedSimpArgs false
set_option maxRecDepth 100000
set_option maxHeartbeats 4000000
namespace Go.Proofs.Ytnhhdgopgecggaa.Abs
open Go

theorem snd132 {G : Env} (hG : SoundEnv [] Try.prog G) (h72 : G 72 = gPred2 two) : Sound [] Try.prog 132 gShape1 := by
  refine sound_of (rs := [.tmp 3]) (n := 10) hG mix Try.func132 rfl rfl rfl (by kernel_rfl) (by decide +kernel) (by decide +kernel) ?_
  intro args H r H' h
  unfold gShape1 at h
  split at h
  case h_2 => cases h
  rename_i s p
  split at h
  case h_2 => cases h
  rename_i lk l hb
  split at h
  case h_2 => cases h
  rename_i xs ys rest hs h2
  cases h
  obtain ⟨a, n, c, rows⟩ := rd2_rows h2
  cases rows.eq
  obtain ⟨b, off, lk', cs, v, ha, hb', hv, hr, _⟩ := rows.get 0 ys rfl
  subst ha
  have hb0 := fun e => hp_old hb e
  have hb1 := fun e => hp_old hb' e
  have hn : (0 : Int) < (n : Int) := by have := rows.len; simp at this; omega
  have z0 : (0 : Int) ≤ 0 := Int.le_refl _
  have z1 : Int.toNat 0 = 0 := rfl
  rw [Nat.add_zero] at hv
  refine ⟨by simp, ?_⟩
  simp (maxSteps := 10000000) only [↓exA, exB, exC, exN, exD, exR, tys, ↓reduceIte, Nat.reduceLT, Nat.reduceEqDiff, Nat.reduceAdd, Nat.zero_add, Nat.add_zero, List.map_cons, List.map_nil, Option.map_some, Option.map_none, Option.bind_some, List.length_cons, List.length_nil, List.cons_append, List.nil_append, List.append_nil, List.getElem?_cons_zero, List.getElem?_cons_succ, List.set_cons_zero, List.set_cons_succ, Nat.reduceLeDiff, and_self, and_true, true_and, gval, List.take_zero, List.take_succ_cons, List.drop_zero, List.drop_succ_cons, List.all_cons, List.all_nil, Bool.and_self, Bool.not_true, Bool.not_false, beq_true, beq_false, decide_true, decide_false, eq_self, Nat.reducePow, hb0, hb1, hn, z0, z1, hv, h72, gPred2_eq (rd_hp hs _) (rd_hp hr _)]
  exact fits_bare rfl
def gNoSer (args : List Value) (H : AHeap) : Option (Value × AHeap) :=
  match args with
  | [s] => (rd isF s H).map fun xs => (.bool (!series xs), H)
  | _ => none
theorem snd109 {G : Env} (hG : SoundEnv [] Try.prog G) (h57 : G 57 = gList series) : Sound [] Try.prog 109 gNoSer := by
  refine sound_of (rs := [.tmp 2]) (n := 6) hG mix Try.func109 rfl rfl rfl (by kernel_rfl) (by decide +kernel) (by decide +kernel) ?_
  intro args H r H' h
  unfold gNoSer at h
  split at h
  case h_2 => cases h
  rename_i s
  simp only [Option.map_eq_some_iff] at h
  obtain ⟨xs, hs, h⟩ := h
  cases h
  refine ⟨by simp, ?_⟩
  simp (maxSteps := 10000000) only [↓exA, exB, exC, exN, exD, exR, tys, ↓reduceIte, Nat.reduceLT, Nat.reduceEqDiff, Nat.reduceAdd, Nat.zero_add, Nat.add_zero, List.map_cons, List.map_nil, Option.map_some, Option.map_none, Option.bind_some, List.length_cons, List.length_nil, List.cons_append, List.nil_append, List.append_nil, List.getElem?_cons_zero, List.getElem?_cons_succ, List.set_cons_zero, List.set_cons_succ, Nat.reduceLeDiff, and_self, and_true, true_and, gval, List.take_zero, List.take_succ_cons, List.drop_zero, List.drop_succ_cons, List.all_cons, List.all_nil, Bool.and_self, Bool.not_true, Bool.not_false, beq_true, beq_false, decide_true, decide_false, eq_self, Nat.reducePow, h57, gList_rd (rd_hp hs _)]
  exact fits_bare rfl
/-- The tests of series that are handed over. -/
def pred2 (k : Nat) (ca : List Value) (H : AHeap) : Option (List Nat → Bool) :=
  if k = 109 then (if ca = [] then some fun xs => !series xs else none)
  else if k = 126 ∨ k = 132 then
    match ca with
    | [.pointer (some ⟨p, 0, none⟩)] => match H[p]? with
      | some (.live _ [l]) => match rd2 l H with
        | some (ys :: _) => some fun xs => !two xs ys
        | _ => none
      | _ => none
    | _ => none
  else none
theorem pred2_shape {k p : Nat} (hk : k = 126 ∨ k = 132) {l : Value} {lk : Bool} {H : AHeap} {ys : List Nat} {r : List (List Nat)} (hp' : H[p]? = some (.live lk [l])) (h' : rd2 l H = some (ys :: r)) : pred2 k [.pointer (some ⟨p, 0, none⟩)] H = some fun xs => !two xs ys := by
  unfold pred2
  rw [if_neg (by omega), if_pos hk]
  simp only [hp', h']
theorem pred2_call {G : Env} (h126 : G 126 = gShape1) (h132 : G 132 = gShape1) (h109 : G 109 = gNoSer) {k : Nat} {ca : List Value} {H : AHeap} {p : List Nat → Bool} (hp0 : pred2 k ca H = some p) {v : Value} {xs : List Nat} (hv : rd isF v H = some xs) (e : AHeap) :
    G k ([] ++ [v] ++ ca) (hp H e) = some (.bool (p xs), hp H e) := by
  unfold pred2 at hp0
  split at hp0
  · rename_i hk
    subst hk
    split at hp0
    · rename_i hc
      subst hc
      cases hp0
      rw [h109]
      show ((rd isF v (hp H e)).map fun xs => (Value.bool (!series xs), hp H e)) = _
      rw [rd_hp hv e]; rfl
    · cases hp0
  · split at hp0
    · rename_i hk
      have hG : G k = gShape1 := by rcases hk with rfl | rfl; exact h126; exact h132
      rw [hG]
      split at hp0
      · split at hp0
        · rename_i hb
          split at hp0
          · rename_i h2
            cases hp0
            exact gShape1_eq (hp_old hb e) (rd_hp hv e) (rd2_hp h2 e)
          · cases hp0
        · cases hp0
      · cases hp0
    · cases hp0
def firstL (p : List Nat → Bool) : Nat → List (List Nat) → Int
  | _, [] => -1
  | i, x :: l => if p x = true then (i : Int) else firstL p (i + 1) l
def gIndex2 (args : List Value) (H : AHeap) : Option (Value × AHeap) :=
  match args with
  | [s, .func (.func k) ⟨[]⟩ ⟨ca⟩] => match pred2 k ca H, rd2 s H with
    | some p, some xss => some (.int .i64 (firstL p 0 xss), H)
    | _, _ => none
  | _ => none
theorem gIndex2_eq {k : Nat} {ca : List Value} {p : List Nat → Bool} {s : Value} {H : AHeap} {xss : List (List Nat)} (h : pred2 k ca H = some p) (hs : rd2 s H = some xss) : gIndex2 [s, .func (.func k) #[] ca.toArray] H = some (.int .i64 (firstL p 0 xss), H) := by
  show (match pred2 k ca H, rd2 s H with
    | some p, some xss => some (Value.int .i64 (firstL p 0 xss), H)
    | _, _ => none) = _
  rw [h, hs]
/-- A cell of a list of series. -/
theorem Rows2.cell {s : Value} {H : AHeap} {xss : List (List Nat)} {a : Option Addr} {n c : Nat} (r : Rows2 s H xss a n c) {i : Nat} (hi : i < xss.length) :
    ∃ b off lk cs v, a = some ⟨b, off, none⟩ ∧ H[b]? = some (.live lk cs) ∧ cs[off + i]? = some v ∧ rd isF v H = some (xss.getD i []) ∧ oneB v = true := by
  obtain ⟨b, off, lk, cs, v, h1, h2, h3, h4, a', n', c', h5⟩ := r.get i xss[i] (List.getElem?_eq_getElem hi)
  refine ⟨b, off, lk, cs, v, h1, h2, h3, ?_, by rw [h5]; rfl⟩
  rw [h4, List.getD_eq_getElem?_getD, List.getElem?_eq_getElem hi]; rfl
theorem snd136 {G : Env} (hG : SoundEnv [] Try.prog G) (h126 : G 126 = gShape1) (h132 : G 132 = gShape1) (h109 : G 109 = gNoSer) : Sound [] Try.prog 136 gIndex2 := by
  refine sound_of (rs := [.tmp 4]) (n := 19) hG mix Try.func136 rfl rfl rfl (by kernel_rfl) (by decide +kernel) (by decide +kernel) ?_
  intro args H r H' h
  unfold gIndex2 at h
  split at h
  case h_2 => cases h
  rename_i s k ca
  split at h
  case h_2 => cases h
  rename_i p xss htest hs
  cases h
  obtain ⟨a, n, c, rows⟩ := rd2_rows hs
  cases rows.eq
  have hl := rows.len
  have hsm := rows.small
  refine ⟨by simp, ?_⟩
  simp (maxSteps := 10000000) only [↓exA, exB, exC, exN, exD, exR, tys, ↓reduceIte, Nat.reduceLT, Nat.reduceEqDiff, Nat.reduceAdd, Nat.zero_add, Nat.add_zero, List.map_cons, List.map_nil, Option.map_some, Option.map_none, Option.bind_some, List.length_cons, List.length_nil, List.cons_append, List.nil_append, List.append_nil, List.getElem?_cons_zero, List.getElem?_cons_succ, List.set_cons_zero, List.set_cons_succ, Nat.reduceLeDiff, and_self, and_true, true_and, gval, List.take_zero, List.take_succ_cons, List.drop_zero, List.drop_succ_cons, List.all_cons, List.all_nil, Bool.and_self, Bool.not_true, Bool.not_false, beq_true, beq_false, decide_true, decide_false, eq_self, Nat.reducePow]
  refine X_loop (I := fun m t K => ∃ f i, t = mk 19 f ∧ K = hp H [] ∧ f 0 = .slice a n c ∧ f 1 = .func (.func k) #[] ca.toArray ∧ f 7 = .int .i64 n ∧ f 8 = .int .i64 (i : Nat) ∧ i + m = n ∧ firstL p 0 xss = firstL p i (xss.drop i)) (m := n) ?_ ?_
  · rintro m t K ⟨f, i, rfl, rfl, h0, h1, h7, h8, hm, he⟩
    simp (maxSteps := 10000000) only [↓exA, exB, exC, exN, exD, exR, tys, ↓reduceIte, Nat.reduceLT, Nat.reduceEqDiff, Nat.reduceAdd, Nat.zero_add, Nat.add_zero, List.map_cons, List.map_nil, Option.map_some, Option.map_none, Option.bind_some, List.length_cons, List.length_nil, List.cons_append, List.nil_append, List.append_nil, List.getElem?_cons_zero, List.getElem?_cons_succ, List.set_cons_zero, List.set_cons_succ, Nat.reduceLeDiff, and_self, and_true, true_and, gval, List.take_zero, List.take_succ_cons, List.drop_zero, List.drop_succ_cons, List.all_cons, List.all_nil, Bool.and_self, Bool.not_true, Bool.not_false, beq_true, beq_false, decide_true, decide_false, eq_self, Nat.reducePow, h0, h1, h7, h8]
    refine condW_intro (fun c1 => ?_) (fun c1 => ?_) <;> (try simp only [Bool.not_eq_true', Bool.not_eq_eq_eq_not, Bool.not_true, Bool.not_false, beq_true, beq_false, beq_iff_eq, beq_eq_false_iff_ne, ne_eq, Bool.not_eq_false, Bool.not_eq_true, decide_eq_true_eq, decide_eq_false_iff_not, Bool.not_not] at c1)
    · have hi : i < xss.length := by omega
      obtain ⟨b, off, lk, cs, v, ha, hb, hv, hr, ho⟩ := (rows.hp []).cell hi
      subst ha
      have hr0 : rd isF v H = some (xss.getD i []) := by rw [hp_nil] at hr; exact hr
      have hcall := pred2_call h126 h132 h109 htest hr0 []
      simp only [List.nil_append, List.cons_append] at hcall
      simp (maxSteps := 10000000) only [↓exA, exB, exC, exN, exD, exR, tys, ↓reduceIte, Nat.reduceLT, Nat.reduceEqDiff, Nat.reduceAdd, Nat.zero_add, Nat.add_zero, List.map_cons, List.map_nil, Option.map_some, Option.map_none, Option.bind_some, List.length_cons, List.length_nil, List.cons_append, List.nil_append, List.append_nil, List.getElem?_cons_zero, List.getElem?_cons_succ, List.set_cons_zero, List.set_cons_succ, Nat.reduceLeDiff, and_self, and_true, true_and, gval, List.take_zero, List.take_succ_cons, List.drop_zero, List.drop_succ_cons, List.all_cons, List.all_nil, Bool.and_self, Bool.not_true, Bool.not_false, beq_true, beq_false, decide_true, decide_false, eq_self, Nat.reducePow, h0, h1, h7, h8, c1, Int.natCast_nonneg, Int.toNat_natCast, hb, hv, ho, hcall]
      have hd : xss.drop i = xss.getD i [] :: xss.drop (i + 1) := by
        rw [List.drop_eq_getElem_cons hi, List.getD_eq_getElem?_getD, List.getElem?_eq_getElem hi]; rfl
      rw [hd] at he
      refine condW_intro (fun c2 => ?_) (fun c2 => ?_) <;> (try simp only [Bool.not_eq_true', Bool.not_eq_eq_eq_not, Bool.not_true, Bool.not_false, beq_true, beq_false, beq_iff_eq, beq_eq_false_iff_ne, ne_eq, Bool.not_eq_false, Bool.not_eq_true, decide_eq_true_eq, decide_eq_false_iff_not, Bool.not_not] at c2)
      · simp (maxSteps := 10000000) only [↓exA, exB, exC, exN, exD, exR, tys, ↓reduceIte, Nat.reduceLT, Nat.reduceEqDiff, Nat.reduceAdd, Nat.zero_add, Nat.add_zero, List.map_cons, List.map_nil, Option.map_some, Option.map_none, Option.bind_some, List.length_cons, List.length_nil, List.cons_append, List.nil_append, List.append_nil, List.getElem?_cons_zero, List.getElem?_cons_succ, List.set_cons_zero, List.set_cons_succ, Nat.reduceLeDiff, and_self, and_true, true_and, gval, List.take_zero, List.take_succ_cons, List.drop_zero, List.drop_succ_cons, List.all_cons, List.all_nil, Bool.and_self, Bool.not_true, Bool.not_false, beq_true, beq_false, decide_true, decide_false, eq_self, Nat.reducePow, c2]
        rw [he]
        unfold firstL
        rw [if_pos c2]
        exact fits_bare rfl
      · simp (maxSteps := 10000000) only [↓exA, exB, exC, exN, exD, exR, tys, ↓reduceIte, Nat.reduceLT, Nat.reduceEqDiff, Nat.reduceAdd, Nat.zero_add, Nat.add_zero, List.map_cons, List.map_nil, Option.map_some, Option.map_none, Option.bind_some, List.length_cons, List.length_nil, List.cons_append, List.nil_append, List.append_nil, List.getElem?_cons_zero, List.getElem?_cons_succ, List.set_cons_zero, List.set_cons_succ, Nat.reduceLeDiff, and_self, and_true, true_and, gval, List.take_zero, List.take_succ_cons, List.drop_zero, List.drop_succ_cons, List.all_cons, List.all_nil, Bool.and_self, Bool.not_true, Bool.not_false, beq_true, beq_false, decide_true, decide_false, eq_self, Nat.reducePow, h8]
        refine ⟨m - 1, by omega, _, i + 1, rfl, rfl, ?_, ?_, ?_, ?_, by omega, ?_⟩
        · simp (maxSteps := 10000000) only [↓exA, exB, exC, exN, exD, exR, tys, ↓reduceIte, Nat.reduceLT, Nat.reduceEqDiff, Nat.reduceAdd, Nat.zero_add, Nat.add_zero, List.map_cons, List.map_nil, Option.map_some, Option.map_none, Option.bind_some, List.length_cons, List.length_nil, List.cons_append, List.nil_append, List.append_nil, List.getElem?_cons_zero, List.getElem?_cons_succ, List.set_cons_zero, List.set_cons_succ, Nat.reduceLeDiff, and_self, and_true, true_and, gval, List.take_zero, List.take_succ_cons, List.drop_zero, List.drop_succ_cons, List.all_cons, List.all_nil, Bool.and_self, Bool.not_true, Bool.not_false, beq_true, beq_false, decide_true, decide_false, eq_self, Nat.reducePow, h0]
        · simp (maxSteps := 10000000) only [↓exA, exB, exC, exN, exD, exR, tys, ↓reduceIte, Nat.reduceLT, Nat.reduceEqDiff, Nat.reduceAdd, Nat.zero_add, Nat.add_zero, List.map_cons, List.map_nil, Option.map_some, Option.map_none, Option.bind_some, List.length_cons, List.length_nil, List.cons_append, List.nil_append, List.append_nil, List.getElem?_cons_zero, List.getElem?_cons_succ, List.set_cons_zero, List.set_cons_succ, Nat.reduceLeDiff, and_self, and_true, true_and, gval, List.take_zero, List.take_succ_cons, List.drop_zero, List.drop_succ_cons, List.all_cons, List.all_nil, Bool.and_self, Bool.not_true, Bool.not_false, beq_true, beq_false, decide_true, decide_false, eq_self, Nat.reducePow, h1]
        · simp (maxSteps := 10000000) only [↓exA, exB, exC, exN, exD, exR, tys, ↓reduceIte, Nat.reduceLT, Nat.reduceEqDiff, Nat.reduceAdd, Nat.zero_add, Nat.add_zero, List.map_cons, List.map_nil, Option.map_some, Option.map_none, Option.bind_some, List.length_cons, List.length_nil, List.cons_append, List.nil_append, List.append_nil, List.getElem?_cons_zero, List.getElem?_cons_succ, List.set_cons_zero, List.set_cons_succ, Nat.reduceLeDiff, and_self, and_true, true_and, gval, List.take_zero, List.take_succ_cons, List.drop_zero, List.drop_succ_cons, List.all_cons, List.all_nil, Bool.and_self, Bool.not_true, Bool.not_false, beq_true, beq_false, decide_true, decide_false, eq_self, Nat.reducePow, h7]
        · simp (maxSteps := 10000000) only [↓exA, exB, exC, exN, exD, exR, tys, ↓reduceIte, Nat.reduceLT, Nat.reduceEqDiff, Nat.reduceAdd, Nat.zero_add, Nat.add_zero, List.map_cons, List.map_nil, Option.map_some, Option.map_none, Option.bind_some, List.length_cons, List.length_nil, List.cons_append, List.nil_append, List.append_nil, List.getElem?_cons_zero, List.getElem?_cons_succ, List.set_cons_zero, List.set_cons_succ, Nat.reduceLeDiff, and_self, and_true, true_and, gval, List.take_zero, List.take_succ_cons, List.drop_zero, List.drop_succ_cons, List.all_cons, List.all_nil, Bool.and_self, Bool.not_true, Bool.not_false, beq_true, beq_false, decide_true, decide_false, eq_self, Nat.reducePow]
          rw [wrap_i64 (by omega) (by omega)]; simp
        · rw [he]
          conv => lhs; unfold firstL
          rw [if_neg (by rw [c2]; decide)]
    · simp (maxSteps := 10000000) only [↓exA, exB, exC, exN, exD, exR, tys, ↓reduceIte, Nat.reduceLT, Nat.reduceEqDiff, Nat.reduceAdd, Nat.zero_add, Nat.add_zero, List.map_cons, List.map_nil, Option.map_some, Option.map_none, Option.bind_some, List.length_cons, List.length_nil, List.cons_append, List.nil_append, List.append_nil, List.getElem?_cons_zero, List.getElem?_cons_succ, List.set_cons_zero, List.set_cons_succ, Nat.reduceLeDiff, and_self, and_true, true_and, gval, List.take_zero, List.take_succ_cons, List.drop_zero, List.drop_succ_cons, List.all_cons, List.all_nil, Bool.and_self, Bool.not_true, Bool.not_false, beq_true, beq_false, decide_true, decide_false, eq_self, Nat.reducePow]
      have hn : xss.drop i = [] := by rw [List.drop_eq_nil_iff]; omega
      rw [he, hn]
      exact fits_bare rfl
  · refine ⟨_, 0, rfl, rfl, ?_, ?_, ?_, ?_, by omega, rfl⟩
    all_goals simp (maxSteps := 10000000) only [↓exA, exB, exC, exN, exD, exR, tys, ↓reduceIte, Nat.reduceLT, Nat.reduceEqDiff, Nat.reduceAdd, Nat.zero_add, Nat.add_zero, List.map_cons, List.map_nil, Option.map_some, Option.map_none, Option.bind_some, List.length_cons, List.length_nil, List.cons_append, List.nil_append, List.append_nil, List.getElem?_cons_zero, List.getElem?_cons_succ, List.set_cons_zero, List.set_cons_succ, Nat.reduceLeDiff, and_self, and_true, true_and, gval, List.take_zero, List.take_succ_cons, List.drop_zero, List.drop_succ_cons, List.all_cons, List.all_nil, Bool.and_self, Bool.not_true, Bool.not_false, beq_true, beq_false, decide_true, decide_false, eq_self, Nat.reducePow]
    all_goals rfl
theorem firstL_ge (p : List Nat → Bool) : ∀ (l : List (List Nat)) (i : Nat), decide (0 ≤ firstL p i l) = l.any p
  | [], i => by simp [firstL]
  | x :: l, i => by
    unfold firstL
    cases h : p x
    · simp only [Bool.false_eq_true, if_false, List.any_cons, h, Bool.false_or]
      exact firstL_ge p l (i + 1)
    · simp [h]
def gAny2 (args : List Value) (H : AHeap) : Option (Value × AHeap) :=
  match args with
  | [s, .func (.func k) ⟨[]⟩ ⟨ca⟩] => match pred2 k ca H, rd2 s H with
    | some p, some xss => some (.bool (xss.any p), H)
    | _, _ => none
  | _ => none
theorem gAny2_eq {k : Nat} {ca : List Value} {p : List Nat → Bool} {s : Value} {H : AHeap} {xss : List (List Nat)} (h : pred2 k ca H = some p) (hs : rd2 s H = some xss) : gAny2 [s, .func (.func k) #[] ca.toArray] H = some (.bool (xss.any p), H) := by
  show (match pred2 k ca H, rd2 s H with
    | some p, some xss => some (Value.bool (xss.any p), H)
    | _, _ => none) = _
  rw [h, hs]
theorem pred2_hp {k : Nat} {ca : List Value} {H : AHeap} {p : List Nat → Bool} (h : pred2 k ca H = some p) (e : AHeap) : pred2 k ca (hp H e) = some p := by
  unfold pred2 at h ⊢
  split at h
  · rename_i hk
    rw [if_pos hk]; exact h
  · rename_i hk
    rw [if_neg hk]
    split at h
    · rename_i hk2
      rw [if_pos hk2]
      split at h
      · split at h
        · rename_i hb
          split at h
          · rename_i h2
            simp only [hp_old hb e, rd2_hp h2 e]; exact h
          · cases h
        · cases h
      · cases h
    · cases h
theorem snd108 {G : Env} (hG : SoundEnv [] Try.prog G) (h136 : G 136 = gIndex2) : Sound [] Try.prog 108 gAny2 := by
  refine sound_of (rs := [.tmp 4]) (n := 9) hG mix Try.func108 rfl rfl rfl (by kernel_rfl) (by decide +kernel) (by decide +kernel) ?_
  intro args H r H' h
  unfold gAny2 at h
  split at h
  case h_2 => cases h
  rename_i s k ca
  split at h
  case h_2 => cases h
  rename_i p xss htest hs
  cases h
  refine ⟨by simp, ?_⟩
  have hx : ∀ e, gIndex2 [s, .func (.func k) ⟨[]⟩ ⟨ca⟩] (hp H e) = some (.int .i64 (firstL p 0 xss), hp H e) := fun e => gIndex2_eq (pred2_hp htest e) (rd2_hp hs e)
  simp (maxSteps := 10000000) only [↓exA, exB, exC, exN, exD, exR, tys, ↓reduceIte, Nat.reduceLT, Nat.reduceEqDiff, Nat.reduceAdd, Nat.zero_add, Nat.add_zero, List.map_cons, List.map_nil, Option.map_some, Option.map_none, Option.bind_some, List.length_cons, List.length_nil, List.cons_append, List.nil_append, List.append_nil, List.getElem?_cons_zero, List.getElem?_cons_succ, List.set_cons_zero, List.set_cons_succ, Nat.reduceLeDiff, and_self, and_true, true_and, gval, List.take_zero, List.take_succ_cons, List.drop_zero, List.drop_succ_cons, List.all_cons, List.all_nil, Bool.and_self, Bool.not_true, Bool.not_false, beq_true, beq_false, decide_true, decide_false, eq_self, Nat.reducePow, h136, hx]
  rw [show decide (firstL p 0 xss ≥ 0) = xss.any p from firstL_ge p xss 0]
  exact fits_bare rfl

def shapes (xss : List (List Nat)) : Bool :=
  match xss with
  | [] => false
  | ys :: _ => decide (xss.length ≤ 16) && xss.all fun xs => two xs ys
def gShapes (args : List Value) (H : AHeap) : Option (Value × AHeap) :=
  match args with
  | [s] => (rd2 s H).map fun xss => (.bool (shapes xss), H)
  | _ => none
theorem gShapes_eq {s : Value} {H : AHeap} {xss : List (List Nat)} (h : rd2 s H = some xss) : gShapes [s] H = some (.bool (shapes xss), H) := by
  unfold gShapes; simp only [h, Option.map_some]
theorem snd71 {G : Env} (hG : SoundEnv [] Try.prog G) (h108 : G 108 = gAny2) : Sound [] Try.prog 71 gShapes := by
  refine sound_of (rs := [.tmp 2]) (n := 17) hG mix Try.func71 rfl rfl rfl (by kernel_rfl) (by decide +kernel) (by decide +kernel) ?_
  intro args H r H' h
  unfold gShapes at h
  split at h
  case h_2 => cases h
  rename_i s
  simp only [Option.map_eq_some_iff] at h
  obtain ⟨xss, hs, h⟩ := h
  cases h
  obtain ⟨a, n, c, rows⟩ := rd2_rows hs
  cases rows.eq
  have hl := rows.len
  refine ⟨by simp, ?_⟩
  cases xss with
  | nil =>
    simp only [List.length_nil] at hl
    subst hl
    simp (maxSteps := 10000000) only [↓exA, exB, exC, exN, exD, exR, tys, ↓reduceIte, Nat.reduceLT, Nat.reduceEqDiff, Nat.reduceAdd, Nat.zero_add, Nat.add_zero, List.map_cons, List.map_nil, Option.map_some, Option.map_none, Option.bind_some, List.length_cons, List.length_nil, List.cons_append, List.nil_append, List.append_nil, List.getElem?_cons_zero, List.getElem?_cons_succ, List.set_cons_zero, List.set_cons_succ, Nat.reduceLeDiff, and_self, and_true, true_and, gval, List.take_zero, List.take_succ_cons, List.drop_zero, List.drop_succ_cons, List.all_cons, List.all_nil, Bool.and_self, Bool.not_true, Bool.not_false, beq_true, beq_false, decide_true, decide_false, eq_self, Nat.reducePow]
    refine condW_intro (fun c1 => ?_) (fun c1 => ?_) <;> (try simp only [Bool.not_eq_true', Bool.not_eq_eq_eq_not, Bool.not_true, Bool.not_false, beq_true, beq_false, beq_iff_eq, beq_eq_false_iff_ne, ne_eq, Bool.not_eq_false, Bool.not_eq_true, decide_eq_true_eq, decide_eq_false_iff_not, Bool.not_not] at c1)
    · omega
    · simp (maxSteps := 10000000) only [↓exA, exB, exC, exN, exD, exR, tys, ↓reduceIte, Nat.reduceLT, Nat.reduceEqDiff, Nat.reduceAdd, Nat.zero_add, Nat.add_zero, List.map_cons, List.map_nil, Option.map_some, Option.map_none, Option.bind_some, List.length_cons, List.length_nil, List.cons_append, List.nil_append, List.append_nil, List.getElem?_cons_zero, List.getElem?_cons_succ, List.set_cons_zero, List.set_cons_succ, Nat.reduceLeDiff, and_self, and_true, true_and, gval, List.take_zero, List.take_succ_cons, List.drop_zero, List.drop_succ_cons, List.all_cons, List.all_nil, Bool.and_self, Bool.not_true, Bool.not_false, beq_true, beq_false, decide_true, decide_false, eq_self, Nat.reducePow]
      exact fits_bare rfl
  | cons ys rest =>
    have hl' : n = rest.length + 1 := by simpa using hl
    have hb : (hp H [.live false [.slice a n c]])[nb H 0]? = some (.live false [.slice a n c]) := by rw [hp_new]; rfl
    have hpr := pred2_shape (k := 126) (.inl rfl) hb (rd2_hp hs _)
    have hx := gAny2_eq hpr (rd2_hp hs _)
    simp (maxSteps := 10000000) only [↓exA, exB, exC, exN, exD, exR, tys, ↓reduceIte, Nat.reduceLT, Nat.reduceEqDiff, Nat.reduceAdd, Nat.zero_add, Nat.add_zero, List.map_cons, List.map_nil, Option.map_some, Option.map_none, Option.bind_some, List.length_cons, List.length_nil, List.cons_append, List.nil_append, List.append_nil, List.getElem?_cons_zero, List.getElem?_cons_succ, List.set_cons_zero, List.set_cons_succ, Nat.reduceLeDiff, and_self, and_true, true_and, gval, List.take_zero, List.take_succ_cons, List.drop_zero, List.drop_succ_cons, List.all_cons, List.all_nil, Bool.and_self, Bool.not_true, Bool.not_false, beq_true, beq_false, decide_true, decide_false, eq_self, Nat.reducePow]
    refine condW_intro (fun c1 => ?_) (fun c1 => ?_) <;> (try simp only [Bool.not_eq_true', Bool.not_eq_eq_eq_not, Bool.not_true, Bool.not_false, beq_true, beq_false, beq_iff_eq, beq_eq_false_iff_ne, ne_eq, Bool.not_eq_false, Bool.not_eq_true, decide_eq_true_eq, decide_eq_false_iff_not, Bool.not_not] at c1)
    · simp (maxSteps := 10000000) only [↓exA, exB, exC, exN, exD, exR, tys, ↓reduceIte, Nat.reduceLT, Nat.reduceEqDiff, Nat.reduceAdd, Nat.zero_add, Nat.add_zero, List.map_cons, List.map_nil, Option.map_some, Option.map_none, Option.bind_some, List.length_cons, List.length_nil, List.cons_append, List.nil_append, List.append_nil, List.getElem?_cons_zero, List.getElem?_cons_succ, List.set_cons_zero, List.set_cons_succ, Nat.reduceLeDiff, and_self, and_true, true_and, gval, List.take_zero, List.take_succ_cons, List.drop_zero, List.drop_succ_cons, List.all_cons, List.all_nil, Bool.and_self, Bool.not_true, Bool.not_false, beq_true, beq_false, decide_true, decide_false, eq_self, Nat.reducePow, c1]
      refine condW_intro (fun c2 => ?_) (fun c2 => ?_) <;> (try simp only [Bool.not_eq_true', Bool.not_eq_eq_eq_not, Bool.not_true, Bool.not_false, beq_true, beq_false, beq_iff_eq, beq_eq_false_iff_ne, ne_eq, Bool.not_eq_false, Bool.not_eq_true, decide_eq_true_eq, decide_eq_false_iff_not, Bool.not_not] at c2)
      · simp (maxSteps := 10000000) only [↓exA, exB, exC, exN, exD, exR, tys, ↓reduceIte, Nat.reduceLT, Nat.reduceEqDiff, Nat.reduceAdd, Nat.zero_add, Nat.add_zero, List.map_cons, List.map_nil, Option.map_some, Option.map_none, Option.bind_some, List.length_cons, List.length_nil, List.cons_append, List.nil_append, List.append_nil, List.getElem?_cons_zero, List.getElem?_cons_succ, List.set_cons_zero, List.set_cons_succ, Nat.reduceLeDiff, and_self, and_true, true_and, gval, List.take_zero, List.take_succ_cons, List.drop_zero, List.drop_succ_cons, List.all_cons, List.all_nil, Bool.and_self, Bool.not_true, Bool.not_false, beq_true, beq_false, decide_true, decide_false, eq_self, Nat.reducePow, c1, c2, h108, hx]
        have e1 : shapes (ys :: rest) = (!(ys :: rest).any fun xs => !two xs ys) := by
          unfold shapes
          have : (ys :: rest).length ≤ 16 := by simp; omega
          simp only [this, decide_true, Bool.true_and]
          rw [all_not]
        rw [e1]
        exact fits_bare rfl
      · simp (maxSteps := 10000000) only [↓exA, exB, exC, exN, exD, exR, tys, ↓reduceIte, Nat.reduceLT, Nat.reduceEqDiff, Nat.reduceAdd, Nat.zero_add, Nat.add_zero, List.map_cons, List.map_nil, Option.map_some, Option.map_none, Option.bind_some, List.length_cons, List.length_nil, List.cons_append, List.nil_append, List.append_nil, List.getElem?_cons_zero, List.getElem?_cons_succ, List.set_cons_zero, List.set_cons_succ, Nat.reduceLeDiff, and_self, and_true, true_and, gval, List.take_zero, List.take_succ_cons, List.drop_zero, List.drop_succ_cons, List.all_cons, List.all_nil, Bool.and_self, Bool.not_true, Bool.not_false, beq_true, beq_false, decide_true, decide_false, eq_self, Nat.reducePow, c1, c2]
        have e1 : shapes (ys :: rest) = false := by
          unfold shapes
          have : ¬ (ys :: rest).length ≤ 16 := by simp; omega
          simp only [this, decide_false, Bool.false_and]
        rw [e1]
        exact fits_bare rfl
    · exfalso; omega

/-! ### The nearest series -/
/-- The least of distances so far: its index, and the distance. -/
def bestN (F : Nat → Nat) : Nat → Nat × Nat
  | 0 => (0, 0)
  | i + 1 => if i = 0 ∨ fcmp .lss .f32 (F i) (bestN F i).2 = true then (i, F i) else bestN F i
theorem bestN_succ (F : Nat → Nat) (i : Nat) : bestN F (i + 1) = if i = 0 ∨ fcmp .lss .f32 (F i) (bestN F i).2 = true then (i, F i) else bestN F i := rfl
def farAt (xss : List (List Nat)) (xs : List Nat) (i : Nat) : Nat := farL (xss.getD i []) xs
/-- Where all is well. -/
def gNearest (args : List Value) (H : AHeap) : Option (Value × AHeap) :=
  match args with
  | [s, s'] => match rd2 s H, rd isF s' H with
    | some xss, some xs => if shapes xss = true ∧ two xs (xss.getD 0 []) = true ∧ (∀ i, i < xss.length → isFin (farAt xss xs i) = true) then
        some (.tuple ⟨[.int .i64 ((bestN (farAt xss xs) xss.length).1 : Nat), .float .f32 (bestN (farAt xss xs) xss.length).2, .bool true]⟩, H) else none
    | _, _ => none
  | _ => none
theorem gNearest_eq {s s' : Value} {H : AHeap} {xss : List (List Nat)} {xs : List Nat} (h : rd2 s H = some xss) (h' : rd isF s' H = some xs) (h1 : shapes xss = true) (h2 : two xs (xss.getD 0 []) = true) (h3 : ∀ i, i < xss.length → isFin (farAt xss xs i) = true) :
    gNearest [s, s'] H = some (.tuple ⟨[.int .i64 ((bestN (farAt xss xs) xss.length).1 : Nat), .float .f32 (bestN (farAt xss xs) xss.length).2, .bool true]⟩, H) := by
  unfold gNearest; simp only [h, h']
  rw [if_pos ⟨h1, h2, h3⟩]
theorem shapes_two {xss : List (List Nat)} (h : shapes xss = true) {i : Nat} (hi : i < xss.length) : 1 ≤ xss.length ∧ xss.length ≤ 16 ∧ two (xss.getD i []) (xss.getD 0 []) = true := by
  cases xss with
  | nil => simp at hi
  | cons ys rest =>
    unfold shapes at h
    simp only [Bool.and_eq_true, decide_eq_true_eq, List.all_eq_true] at h
    refine ⟨by simp, h.1, ?_⟩
    have : (ys :: rest).getD i [] ∈ ys :: rest := by
      rw [List.getD_eq_getElem?_getD, List.getElem?_eq_getElem hi]
      exact List.getElem_mem hi
    exact h.2 _ this
theorem snd21 {G : Env} (hG : SoundEnv [] Try.prog G) (h71 : G 71 = gShapes) (h72 : G 72 = gPred2 two) (h23 : G 23 = gFarS) : Sound [] Try.prog 21 gNearest := by
  refine sound_of (rs := [.tmp 4, .tmp 5, .tmp 6]) (n := 51) hG mix Try.func21 rfl rfl rfl (by kernel_rfl) (by decide +kernel) (by decide +kernel) ?_
  intro args H r H' h
  unfold gNearest at h
  split at h
  case h_2 => cases h
  rename_i s s'
  split at h
  case h_2 => cases h
  rename_i xss xs hs hs'
  split at h
  case isFalse => cases h
  rename_i hok
  cases h
  obtain ⟨ok1, ok2, ok3⟩ := hok
  obtain ⟨a, n, c, rows⟩ := rd2_rows hs
  cases rows.eq
  have hl := rows.len
  have hn1 : 1 ≤ xss.length ∧ xss.length ≤ 16 := by
    cases xss with
    | nil => simp [shapes] at ok1
    | cons ys rest => exact ⟨by simp, (shapes_two ok1 (i := 0) (by simp)).2.1⟩
  obtain ⟨b0, off0, lk0, cs0, v0, ha0, hb0, hv0, hr0, ho0⟩ := rows.cell (i := 0) (by omega)
  rw [Nat.add_zero] at hv0
  have hb0' := fun e => hp_old hb0 e
  have hn : (0 : Int) < (n : Int) := by omega
  have z0 : (0 : Int) ≤ 0 := Int.le_refl _
  have z1 : Int.toNat 0 = 0 := rfl
  have t0 : ∀ i, i < xss.length → two (xss.getD i []) xs = true := by
    intro i hi
    have h1 := (shapes_two ok1 hi).2.2
    obtain ⟨p1, p2, p3, _⟩ := two_inv h1
    obtain ⟨q1, q2, q3, _⟩ := two_inv ok2
    unfold two
    rw [p1, q1, p3, q3]
    simp
  subst ha0
  refine ⟨by simp, ?_⟩
  simp (maxSteps := 10000000) only [↓exA, exB, exC, exN, exD, exR, tys, ↓reduceIte, Nat.reduceLT, Nat.reduceEqDiff, Nat.reduceAdd, Nat.zero_add, Nat.add_zero, List.map_cons, List.map_nil, Option.map_some, Option.map_none, Option.bind_some, List.length_cons, List.length_nil, List.cons_append, List.nil_append, List.append_nil, List.getElem?_cons_zero, List.getElem?_cons_succ, List.set_cons_zero, List.set_cons_succ, Nat.reduceLeDiff, and_self, and_true, true_and, gval, List.take_zero, List.take_succ_cons, List.drop_zero, List.drop_succ_cons, List.all_cons, List.all_nil, Bool.and_self, Bool.not_true, Bool.not_false, beq_true, beq_false, decide_true, decide_false, eq_self, Nat.reducePow, h71, gShapes_eq (rd2_hp hs _), ok1, hb0', hn, z0, z1, hv0, ho0, h72, gPred2_eq (rd_hp hs' _) (rd_hp hr0 _), ok2]
  refine X_loop (I := fun m t K => ∃ f i, t = mk 51 f ∧ K = hp H [] ∧ f 1 = s' ∧ f 7 = .int .i64 ((bestN (farAt xss xs) i).1 : Nat) ∧ f 8 = .float .f32 (bestN (farAt xss xs) i).2 ∧ f 24 = .slice (some ⟨b0, off0, none⟩) n c ∧ f 25 = .int .i64 (n : Nat) ∧ f 26 = .int .i64 (i : Nat) ∧ i + m = n) (m := n) ?_ ?_
  · rintro m t K ⟨f, i, rfl, rfl, f1, f7, f8, f24, f25, f26, hm⟩
    simp (maxSteps := 10000000) only [↓exA, exB, exC, exN, exD, exR, tys, ↓reduceIte, Nat.reduceLT, Nat.reduceEqDiff, Nat.reduceAdd, Nat.zero_add, Nat.add_zero, List.map_cons, List.map_nil, Option.map_some, Option.map_none, Option.bind_some, List.length_cons, List.length_nil, List.cons_append, List.nil_append, List.append_nil, List.getElem?_cons_zero, List.getElem?_cons_succ, List.set_cons_zero, List.set_cons_succ, Nat.reduceLeDiff, and_self, and_true, true_and, gval, List.take_zero, List.take_succ_cons, List.drop_zero, List.drop_succ_cons, List.all_cons, List.all_nil, Bool.and_self, Bool.not_true, Bool.not_false, beq_true, beq_false, decide_true, decide_false, eq_self, Nat.reducePow, f1, f7, f8, f24, f25, f26]
    refine condW_intro (fun c1 => ?_) (fun c1 => ?_) <;> (try simp only [Bool.not_eq_true', Bool.not_eq_eq_eq_not, Bool.not_true, Bool.not_false, beq_true, beq_false, beq_iff_eq, beq_eq_false_iff_ne, ne_eq, Bool.not_eq_false, Bool.not_eq_true, decide_eq_true_eq, decide_eq_false_iff_not, Bool.not_not] at c1)
    · have hi : i < xss.length := by omega
      obtain ⟨b, off, lk, cs, v, ha, hb, hv, hr, ho⟩ := (rows.hp []).cell hi
      cases ha
      have hr1 : rd isF v H = some (xss.getD i []) := by rw [hp_nil] at hr; exact hr
      have hfar : gFarS [v, s'] (hp H []) = some (.tuple ⟨[.float .f32 (farAt xss xs i), .bool true]⟩, hp H []) := by
        rw [gFarS_eq (rd_hp hr1 _) (rd_hp hs' _)]
        have := ifV_yes (ok3 i hi)
        unfold farAt at this
        unfold farV farAt
        rw [if_pos (t0 i hi), this]
      have hst : ∀ (g : Nat → Value), g 1 = s' → g 7 = .int .i64 ((bestN (farAt xss xs) (i + 1)).1 : Nat) → g 8 = .float .f32 (bestN (farAt xss xs) (i + 1)).2 → g 24 = .slice (some ⟨b0, off0, none⟩) n c → g 25 = .int .i64 (n : Nat) → g 26 = .int .i64 ((i + 1 : Nat) : Int) →
          ∃ m', m' < m ∧ ∃ f i, mk 51 g = mk 51 f ∧ hp H [] = hp H [] ∧ f 1 = s' ∧ f 7 = .int .i64 ((bestN (farAt xss xs) i).1 : Nat) ∧ f 8 = .float .f32 (bestN (farAt xss xs) i).2 ∧ f 24 = .slice (some ⟨b0, off0, none⟩) n c ∧ f 25 = .int .i64 (n : Nat) ∧ f 26 = .int .i64 (i : Nat) ∧ i + m' = n :=
        fun g g1 g7 g8 g24 g25 g26 => ⟨m - 1, by omega, g, i + 1, rfl, rfl, g1, g7, g8, g24, g25, g26, by omega⟩
      have hw : IntKind.i64.wrap ((i : Int) + 1) = ((i + 1 : Nat) : Int) := by rw [wrap_i64 (by omega) (by omega)]; simp
      have hb1 := bestN_succ (farAt xss xs) i
      by_cases h00 : (i : Int) = 0
      · rw [if_pos (Or.inl (by omega))] at hb1
        rw [hb1] at hst
        have hd0 : decide ((i : Int) = 0) = true := by simpa using h00
        simp (maxSteps := 10000000) only [↓exA, exB, exC, exN, exD, exR, tys, ↓reduceIte, Nat.reduceLT, Nat.reduceEqDiff, Nat.reduceAdd, Nat.zero_add, Nat.add_zero, List.map_cons, List.map_nil, Option.map_some, Option.map_none, Option.bind_some, List.length_cons, List.length_nil, List.cons_append, List.nil_append, List.append_nil, List.getElem?_cons_zero, List.getElem?_cons_succ, List.set_cons_zero, List.set_cons_succ, Nat.reduceLeDiff, and_self, and_true, true_and, gval, List.take_zero, List.take_succ_cons, List.drop_zero, List.drop_succ_cons, List.all_cons, List.all_nil, Bool.and_self, Bool.not_true, Bool.not_false, beq_true, beq_false, decide_true, decide_false, eq_self, Nat.reducePow, f1, f7, f8, f24, f25, f26, c1, Int.natCast_nonneg, Int.toNat_natCast, hb, hv, ho, h23, hfar, hd0]
        refine hst _ ?_ ?_ ?_ ?_ ?_ ?_
        all_goals (try simp (maxSteps := 10000000) only [↓exA, exB, exC, exN, exD, exR, tys, ↓reduceIte, Nat.reduceLT, Nat.reduceEqDiff, Nat.reduceAdd, Nat.zero_add, Nat.add_zero, List.map_cons, List.map_nil, Option.map_some, Option.map_none, Option.bind_some, List.length_cons, List.length_nil, List.cons_append, List.nil_append, List.append_nil, List.getElem?_cons_zero, List.getElem?_cons_succ, List.set_cons_zero, List.set_cons_succ, Nat.reduceLeDiff, and_self, and_true, true_and, gval, List.take_zero, List.take_succ_cons, List.drop_zero, List.drop_succ_cons, List.all_cons, List.all_nil, Bool.and_self, Bool.not_true, Bool.not_false, beq_true, beq_false, decide_true, decide_false, eq_self, Nat.reducePow, f1, f7, f8, f24, f25, f26, hw])
        all_goals (try rfl)
      · simp (maxSteps := 10000000) only [↓exA, exB, exC, exN, exD, exR, tys, ↓reduceIte, Nat.reduceLT, Nat.reduceEqDiff, Nat.reduceAdd, Nat.zero_add, Nat.add_zero, List.map_cons, List.map_nil, Option.map_some, Option.map_none, Option.bind_some, List.length_cons, List.length_nil, List.cons_append, List.nil_append, List.append_nil, List.getElem?_cons_zero, List.getElem?_cons_succ, List.set_cons_zero, List.set_cons_succ, Nat.reduceLeDiff, and_self, and_true, true_and, gval, List.take_zero, List.take_succ_cons, List.drop_zero, List.drop_succ_cons, List.all_cons, List.all_nil, Bool.and_self, Bool.not_true, Bool.not_false, beq_true, beq_false, decide_true, decide_false, eq_self, Nat.reducePow, f1, f7, f8, f24, f25, f26, c1, Int.natCast_nonneg, Int.toNat_natCast, hb, hv, ho, h23, hfar, h00]
        refine condW_intro (fun c2 => ?_) (fun c2 => ?_) <;> (try simp only [Bool.not_eq_true', Bool.not_eq_eq_eq_not, Bool.not_true, Bool.not_false, beq_true, beq_false, beq_iff_eq, beq_eq_false_iff_ne, ne_eq, Bool.not_eq_false, Bool.not_eq_true, decide_eq_true_eq, decide_eq_false_iff_not, Bool.not_not] at c2)
        · rw [if_pos (Or.inr c2)] at hb1
          rw [hb1] at hst
          simp (maxSteps := 10000000) only [↓exA, exB, exC, exN, exD, exR, tys, ↓reduceIte, Nat.reduceLT, Nat.reduceEqDiff, Nat.reduceAdd, Nat.zero_add, Nat.add_zero, List.map_cons, List.map_nil, Option.map_some, Option.map_none, Option.bind_some, List.length_cons, List.length_nil, List.cons_append, List.nil_append, List.append_nil, List.getElem?_cons_zero, List.getElem?_cons_succ, List.set_cons_zero, List.set_cons_succ, Nat.reduceLeDiff, and_self, and_true, true_and, gval, List.take_zero, List.take_succ_cons, List.drop_zero, List.drop_succ_cons, List.all_cons, List.all_nil, Bool.and_self, Bool.not_true, Bool.not_false, beq_true, beq_false, decide_true, decide_false, eq_self, Nat.reducePow, f1, f7, f8, f24, f25, f26]
          refine hst _ ?_ ?_ ?_ ?_ ?_ ?_
          all_goals (try simp (maxSteps := 10000000) only [↓exA, exB, exC, exN, exD, exR, tys, ↓reduceIte, Nat.reduceLT, Nat.reduceEqDiff, Nat.reduceAdd, Nat.zero_add, Nat.add_zero, List.map_cons, List.map_nil, Option.map_some, Option.map_none, Option.bind_some, List.length_cons, List.length_nil, List.cons_append, List.nil_append, List.append_nil, List.getElem?_cons_zero, List.getElem?_cons_succ, List.set_cons_zero, List.set_cons_succ, Nat.reduceLeDiff, and_self, and_true, true_and, gval, List.take_zero, List.take_succ_cons, List.drop_zero, List.drop_succ_cons, List.all_cons, List.all_nil, Bool.and_self, Bool.not_true, Bool.not_false, beq_true, beq_false, decide_true, decide_false, eq_self, Nat.reducePow, f1, f7, f8, f24, f25, f26, hw])
          all_goals (try rfl)
        · rw [if_neg (by rintro (h | h); omega; rw [c2] at h; cases h)] at hb1
          rw [hb1] at hst
          simp (maxSteps := 10000000) only [↓exA, exB, exC, exN, exD, exR, tys, ↓reduceIte, Nat.reduceLT, Nat.reduceEqDiff, Nat.reduceAdd, Nat.zero_add, Nat.add_zero, List.map_cons, List.map_nil, Option.map_some, Option.map_none, Option.bind_some, List.length_cons, List.length_nil, List.cons_append, List.nil_append, List.append_nil, List.getElem?_cons_zero, List.getElem?_cons_succ, List.set_cons_zero, List.set_cons_succ, Nat.reduceLeDiff, and_self, and_true, true_and, gval, List.take_zero, List.take_succ_cons, List.drop_zero, List.drop_succ_cons, List.all_cons, List.all_nil, Bool.and_self, Bool.not_true, Bool.not_false, beq_true, beq_false, decide_true, decide_false, eq_self, Nat.reducePow, f1, f7, f8, f24, f25, f26]
          refine hst _ ?_ ?_ ?_ ?_ ?_ ?_
          all_goals (try simp (maxSteps := 10000000) only [↓exA, exB, exC, exN, exD, exR, tys, ↓reduceIte, Nat.reduceLT, Nat.reduceEqDiff, Nat.reduceAdd, Nat.zero_add, Nat.add_zero, List.map_cons, List.map_nil, Option.map_some, Option.map_none, Option.bind_some, List.length_cons, List.length_nil, List.cons_append, List.nil_append, List.append_nil, List.getElem?_cons_zero, List.getElem?_cons_succ, List.set_cons_zero, List.set_cons_succ, Nat.reduceLeDiff, and_self, and_true, true_and, gval, List.take_zero, List.take_succ_cons, List.drop_zero, List.drop_succ_cons, List.all_cons, List.all_nil, Bool.and_self, Bool.not_true, Bool.not_false, beq_true, beq_false, decide_true, decide_false, eq_self, Nat.reducePow, f1, f7, f8, f24, f25, f26, hw])
          all_goals (try rfl)
    · simp (maxSteps := 10000000) only [↓exA, exB, exC, exN, exD, exR, tys, ↓reduceIte, Nat.reduceLT, Nat.reduceEqDiff, Nat.reduceAdd, Nat.zero_add, Nat.add_zero, List.map_cons, List.map_nil, Option.map_some, Option.map_none, Option.bind_some, List.length_cons, List.length_nil, List.cons_append, List.nil_append, List.append_nil, List.getElem?_cons_zero, List.getElem?_cons_succ, List.set_cons_zero, List.set_cons_succ, Nat.reduceLeDiff, and_self, and_true, true_and, gval, List.take_zero, List.take_succ_cons, List.drop_zero, List.drop_succ_cons, List.all_cons, List.all_nil, Bool.and_self, Bool.not_true, Bool.not_false, beq_true, beq_false, decide_true, decide_false, eq_self, Nat.reducePow, f7, f8]
      have : i = xss.length := by omega
      rw [this]
      exact fits_bare rfl
  · refine ⟨_, 0, rfl, rfl, ?_, ?_, ?_, ?_, ?_, ?_, by omega⟩
    all_goals simp (maxSteps := 10000000) only [↓exA, exB, exC, exN, exD, exR, tys, ↓reduceIte, Nat.reduceLT, Nat.reduceEqDiff, Nat.reduceAdd, Nat.zero_add, Nat.add_zero, List.map_cons, List.map_nil, Option.map_some, Option.map_none, Option.bind_some, List.length_cons, List.length_nil, List.cons_append, List.nil_append, List.append_nil, List.getElem?_cons_zero, List.getElem?_cons_succ, List.set_cons_zero, List.set_cons_succ, Nat.reduceLeDiff, and_self, and_true, true_and, gval, List.take_zero, List.take_succ_cons, List.drop_zero, List.drop_succ_cons, List.all_cons, List.all_nil, Bool.and_self, Bool.not_true, Bool.not_false, beq_true, beq_false, decide_true, decide_false, eq_self, Nat.reducePow]
    all_goals rfl

end Go.Proofs.Ytnhhdgopgecggaa.Abs
