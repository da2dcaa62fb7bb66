/- Lists of series. No condition. -/
import Derived.Test.YtnhhdgopgecggaaGe
set_option linter.unusedVariables false
set_option linter.unusedSimpArgs false
set_option maxRecDepth 100000
set_option maxHeartbeats 4000000
namespace Go.Proofs.Ytnhhdgopgecggaa.Abs
open Go

def gList10 (args : List Value) (H : AHeap) : Option (Value × AHeap) :=
  match args with
  | [.slice a n c, .int .i64 k] => match rd isU8 (.slice a n c) H with
    | some bs => if apart (.slice a n c) H.length = true ∧ k ≤ 1000 then some (mkF (drawL bs k.toNat) H) else none
    | none => none
  | _ => none
theorem gList10_eq {a : Option Addr} {n c : Nat} {k : Int} {H : AHeap} {bs : List Nat} (hs : rd isU8 (.slice a n c) H = some bs) (ha : apart (.slice a n c) H.length = true) (hk : k ≤ 1000) : gList10 [.slice a n c, .int .i64 k] H = some (mkF (drawL bs k.toNat) H) := by
  unfold gList10
  simp only [hs]
  rw [if_pos ⟨ha, hk⟩]
theorem snd20 {G : Env} (hG : SoundEnv [] Try.prog G) (h53 : G 53 = gFrom) (h70 : G 70 = gDraw3) : Sound [] Try.prog 20 gList10 := by
  refine sound_of (rs := [.tmp 4]) (n := 11) hG mix Try.func20 rfl rfl rfl (by kernel_rfl) (by decide +kernel) (by decide +kernel) ?_
  intro args H r H' h
  unfold gList10 at h
  split at h
  case h_2 => cases h
  rename_i a n c k
  split at h
  case h_2 => cases h
  rename_i bs hs
  split at h
  case isFalse => cases h
  rename_i ha
  obtain ⟨ha, hk⟩ := ha
  cases h
  have hf : ∀ e, gFrom [.slice a n c] (hp H e) = some (aNew [.slice a n c, .int .i64 0, .int .u64 0] (hp H e)) := by
    intro e
    refine gFrom_eq ?_ (rd_hp hs e)
    rw [hp_length]
    exact apart_new hs ha _
  have hsrc : Src (hp H [.live false [.slice a n c, .int .i64 0, .int .u64 0]]) (nb H 0) (.slice a n c) bs 0 0 := by
    refine ⟨by rw [hp_new]; rfl, rd_hp hs _, ?_, by decide, by decide⟩
    exact apart_new hs ha _
  refine ⟨by simp, ?_⟩
  simp (maxSteps := 10000000) only [↓exA, exB, exC, exN, exD, exR, tys, ↓reduceIte, Nat.reduceLT, Nat.reduceEqDiff, Nat.reduceAdd, Nat.zero_add, Nat.add_zero, List.map_cons, List.map_nil, Option.map_some, Option.map_none, Option.bind_some, List.length_cons, List.length_nil, List.cons_append, List.nil_append, List.append_nil, List.getElem?_cons_zero, List.getElem?_cons_succ, List.set_cons_zero, List.set_cons_succ, Nat.reduceLeDiff, and_self, and_true, true_and, gval, List.take_zero, List.take_succ_cons, List.drop_zero, List.drop_succ_cons, List.all_cons, List.all_nil, Bool.and_self, Bool.not_true, Bool.not_false, beq_true, beq_false, decide_true, decide_false, eq_self, Nat.reducePow, h53, hf, h70, gDraw3_eq hsrc hk (show (0 : Int) + 1001 < 2 ^ 41 by decide)]
  exact fits_mkF (k := 1) rfl (by simp [drawL])

/-! ### Rows of rows -/
def isRow (H : AHeap) (v : Value) : Option (Value × List Nat) := (rd isF v H).map fun xs => (v, xs)
/-- A list of series that reads 'xss'. -/
structure Rows2 (s : Value) (H : AHeap) (xss : List (List Nat)) (a : Option Addr) (n c : Nat) : Prop where
  eq : s = .slice a n c
  len : n = xss.length
  small : n ≤ 2 ^ 40
  get : ∀ (i : Nat) xs, xss[i]? = some xs → ∃ b off lk cs v, a = some ⟨b, off, none⟩ ∧ H[b]? = some (.live lk cs) ∧ cs[off + i]? = some v ∧ rd isF v H = some xs ∧ ∃ a' n' c', v = .slice a' n' c'
def rd2 (s : Value) (H : AHeap) : Option (List (List Nat)) :=
  match s with
  | .slice _ _ _ => (aCells s H).bind fun cs => if cs.length ≤ 2 ^ 40 then cs.mapM fun v => rd isF v H else none
  | _ => none
theorem rd2_rows {s : Value} {H : AHeap} {xss : List (List Nat)} (h : rd2 s H = some xss) : ∃ a n c, Rows2 s H xss a n c := by
  unfold rd2 at h
  split at h
  case h_2 => cases h
  rename_i a n c
  simp only [Option.bind_eq_some_iff] at h
  obtain ⟨cs, h1, h2⟩ := h
  split at h2
  case isFalse => cases h2
  rename_i hsm
  obtain ⟨hl, hg⟩ := mapM_get h2
  unfold aCells at h1
  split at h1
  · rename_i e; cases e
    cases h1
    exact ⟨_, _, _, rfl, by simpa using hl, by omega, fun i xs hi => by
      have : xss = [] := List.eq_nil_of_length_eq_zero (by simpa using hl.symm)
      subst this; simp at hi⟩
  · rename_i b off len cp e; cases e
    split at h1
    · rename_i lk ds hb
      split at h1
      case isFalse => cases h1
      rename_i hfit
      cases h1
      have hn : n = xss.length := by
        rw [← hl]; simp; omega
      refine ⟨_, _, _, rfl, hn, ?_, fun i xs hi => ?_⟩
      · simp at hsm; omega
      · obtain ⟨v, hv, hx⟩ := hg i xs hi
        have hi' : i < n := by
          have := (List.getElem?_eq_some_iff.1 hi).1; omega
        rw [List.getElem?_take, if_pos hi', List.getElem?_drop] at hv
        have hsl : ∃ a' n' c', v = .slice a' n' c' := by
          obtain ⟨a', n', c', r⟩ := rd_row hx
          exact ⟨a', n', c', r.eq⟩
        exact ⟨b, off, lk, ds, v, rfl, hb, hv, hx, hsl⟩
    · cases h1
  · rename_i e; cases e
  · cases h1
theorem Rows2.hp {s : Value} {H : AHeap} {xss : List (List Nat)} {a : Option Addr} {n c : Nat} (r : Rows2 s H xss a n c) (e : AHeap) : Rows2 s (hp H e) xss a n c :=
  ⟨r.eq, r.len, r.small, fun i xs hi => by
    obtain ⟨b, off, lk, cs, v, h1, h2, h3, h4, h5⟩ := r.get i xs hi
    exact ⟨b, off, lk, cs, v, h1, hp_old h2 e, h3, rd_hp h4 e, h5⟩⟩
theorem rd2_hp {s : Value} {H : AHeap} {xss : List (List Nat)} (h : rd2 s H = some xss) (e : AHeap) : rd2 s (hp H e) = some xss := by
  unfold rd2 at h ⊢
  split at h
  case h_2 => cases h
  rename_i a n c
  simp only [Option.bind_eq_some_iff] at h ⊢
  obtain ⟨cs, h1, h2⟩ := h
  refine ⟨cs, ?_, ?_⟩
  · unfold aCells at h1 ⊢
    split at h1
    · rename_i e'; cases e'; exact h1
    · rename_i b off len cp e'; cases e'
      split at h1
      · rename_i lk ds hb
        simp only [hp_old hb e]; exact h1
      · cases h1
    · rename_i e'; cases e'
    · cases h1
  · split at h2
    case isFalse => cases h2
    rename_i hsm
    rw [if_pos hsm]
    clear h1 hsm
    induction cs generalizing xss with
    | nil => exact h2
    | cons v cs ih =>
      simp only [List.mapM_cons, Option.bind_eq_bind, Option.bind_eq_some_iff, Option.pure_def, Option.some.injEq] at h2 ⊢
      obtain ⟨x, h3, ys, h4, h5⟩ := h2
      exact ⟨x, rd_hp h3 e, ys, ih h4, h5⟩

/-- The function that 'areShapes' hands over: is a series of another length than the first one, or none? -/
def gShape1 (args : List Value) (H : AHeap) : Option (Value × AHeap) :=
  match args with
  | [s, .pointer (some ⟨p, 0, none⟩)] => match H[p]? with
    | some (.live _ [l]) => match rd isF s H, rd2 l H with
      | some xs, some (ys :: _) => some (.bool (!two xs ys), H)
      | _, _ => none
    | _ => none
  | _ => none
theorem gShape1_eq {s l : Value} {p : Nat} {lk : Bool} {H : AHeap} {xs ys : List Nat} {r : List (List Nat)} (hp' : H[p]? = some (.live lk [l])) (h : rd isF s H = some xs) (h' : rd2 l H = some (ys :: r)) : gShape1 [s, .pointer (some ⟨p, 0, none⟩)] H = some (.bool (!two xs ys), H) := by
  unfold gShape1; simp only [hp', h, h']
theorem snd126 {G : Env} (hG : SoundEnv [] Try.prog G) (h72 : G 72 = gPred2 two) : Sound [] Try.prog 126 gShape1 := by
  refine sound_of (rs := [.tmp 3]) (n := 10) hG mix Try.func126 rfl rfl rfl (by kernel_rfl) (by decide +kernel) (by decide +kernel) ?_
  intro args H r H' h
  unfold gShape1 at h
  split at h
  case h_2 => cases h
  rename_i s p
  split at h
  case h_2 => cases h
  rename_i lk l hb
  split at h
  case h_2 => cases h
  rename_i xs ys rest hs h2
  cases h
  obtain ⟨a, n, c, rows⟩ := rd2_rows h2
  cases rows.eq
  obtain ⟨b, off, lk', cs, v, ha, hb', hv, hr, _⟩ := rows.get 0 ys rfl
  subst ha
  have hb0 := fun e => hp_old hb e
  have hb1 := fun e => hp_old hb' e
  have hn : (0 : Int) < (n : Int) := by have := rows.len; simp at this; omega
  have z0 : (0 : Int) ≤ 0 := Int.le_refl _
  have z1 : Int.toNat 0 = 0 := rfl
  rw [Nat.add_zero] at hv
  refine ⟨by simp, ?_⟩
  simp (maxSteps := 10000000) only [↓exA, exB, exC, exN, exD, exR, tys, ↓reduceIte, Nat.reduceLT, Nat.reduceEqDiff, Nat.reduceAdd, Nat.zero_add, Nat.add_zero, List.map_cons, List.map_nil, Option.map_some, Option.map_none, Option.bind_some, List.length_cons, List.length_nil, List.cons_append, List.nil_append, List.append_nil, List.getElem?_cons_zero, List.getElem?_cons_succ, List.set_cons_zero, List.set_cons_succ, Nat.reduceLeDiff, and_self, and_true, true_and, gval, List.take_zero, List.take_succ_cons, List.drop_zero, List.drop_succ_cons, List.all_cons, List.all_nil, Bool.and_self, Bool.not_true, Bool.not_false, beq_true, beq_false, decide_true, decide_false, eq_self, Nat.reducePow, hb0, hb1, hn, z0, z1, hv, h72, gPred2_eq (rd_hp hs _) (rd_hp hr _)]
  exact fits_bare rfl

end Go.Proofs.Ytnhhdgopgecggaa.Abs
