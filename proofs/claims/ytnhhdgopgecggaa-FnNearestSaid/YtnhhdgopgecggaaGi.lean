/- The costs of warped ways. No condition. -/
import Derived.Test.YtnhhdgopgecggaaGh
set_option linter.unusedVariables false
set_option linter.unusedSimpArgs false
set_option maxRecDepth 100000
set_option maxHeartbeats 8000000
namespace Go.Proofs.Ytnhhdgopgecggaa.Abs
open Go

def gAbs (args : List Value) (H : AHeap) : Option (Value × AHeap) := match args with | [.float .f32 x] => some (.float .f32 (absF x), H) | _ => none
theorem gAbs_eq (x : Nat) (H : AHeap) : gAbs [.float .f32 x] H = some (.float .f32 (absF x), H) := rfl
theorem snd90' {G : Env} (hG : SoundEnv [] Try.prog G) : Sound [] Try.prog 90 gAbs := snd90 hG
theorem bef_ok {cs : List Nat} {w : Nat} {i k : Int} (ok : ∀ j, OkAt cs w (cand i k j).1 (cand i k j).2) : ∀ j, (befN (atV cs w) i k j).2 = true → OkAt cs w (befN (atV cs w) i k j).1.1 (befN (atV cs w) i k j).1.2 := by
  intro j
  induction j with
  | zero => intro h; cases h
  | succ j ih =>
    rw [befN_succ]
    unfold befStep
    split
    · intro _; exact ok j
    · exact ih
theorem bef_okV {cs : List Nat} {w : Nat} {i k : Int} (ok : ∀ j, OkAt cs w (cand i k j).1 (cand i k j).2) (h : (befV cs w i k).2 = true) : OkAt cs w (befV cs w i k).1.1 (befV cs w i k).1.2 := bef_ok ok 3 h
def entryW (L : List Nat) (w : Nat) (win : Int) (xs ys : List Nat) (i k : Nat) : Nat :=
  if 0 < i + k then (if (!(befV L w i k).2 || decide (win < (if ((k : Int) - i) > ((i : Int) - k) then ((k : Int) - i) else ((i : Int) - k)))) = true then 3212836864 else fbin .add .f32 (atV L w (befV L w i k).1.1 (befV L w i k).1.2) (absF (fbin .sub .f32 (xs.getD i 0) (ys.getD k 0))))
  else absF (fbin .sub .f32 (xs.getD i 0) (ys.getD k 0))
def costN (xs ys : List Nat) (win : Int) : Nat → List Nat
  | 0 => []
  | t + 1 => costN xs ys win t ++ [entryW (costN xs ys win t) ys.length win xs ys (t / ys.length) (t % ys.length)]
theorem costN_length (xs ys : List Nat) (win : Int) : ∀ t, (costN xs ys win t).length = t
  | 0 => rfl
  | t + 1 => by simp [costN, costN_length xs ys win t]
def costL (xs ys : List Nat) (win : Int) : List Nat := costN xs ys win (xs.length * ys.length)
theorem costN_step (xs ys : List Nat) (win : Int) {i k : Nat} (hk : k < ys.length) : costN xs ys win (i * ys.length + k + 1) = costN xs ys win (i * ys.length + k) ++ [entryW (costN xs ys win (i * ys.length + k)) ys.length win xs ys i k] := by
  have h1 : (i * ys.length + k) / ys.length = i := by
    rw [Nat.mul_comm, Nat.mul_add_div (by omega), Nat.div_eq_of_lt hk]; rfl
  have h2 : (i * ys.length + k) % ys.length = k := by
    rw [Nat.mul_comm, Nat.mul_add_mod, Nat.mod_eq_of_lt hk]
  show _ ++ [entryW _ _ _ _ _ ((i * ys.length + k) / ys.length) ((i * ys.length + k) % ys.length)] = _
  rw [h1, h2]
theorem ok_cand {L : List Nat} {w i k : Nat} (hL : L.length = i * w + k) (hi : i ≤ 95) (hk : k < w) (hw : w ≤ 96) (h0 : 0 < i + k) : ∀ j, OkAt L w (cand i k j).1 (cand i k j).2 := by
  intro j
  have hLi : (L.length : Int) = (i : Int) * w + k := by rw [hL]; simp
  have e1 : ((i : Int) - 1) * (w : Int) = (i : Int) * w - w := by rw [Int.sub_mul, Int.one_mul]
  unfold cand
  split
  · refine ⟨by dsimp only; omega, by dsimp only; omega, by dsimp only; omega, by dsimp only; omega, ?_, hw⟩
    intro _ _
    dsimp only
    rw [e1, hLi]; omega
  · split
    · refine ⟨by dsimp only; omega, by dsimp only; omega, by dsimp only; omega, by dsimp only; omega, ?_, hw⟩
      intro _ _
      dsimp only
      rw [hLi]; omega
    · refine ⟨by dsimp only; omega, by dsimp only; omega, by dsimp only; omega, by dsimp only; omega, ?_, hw⟩
      intro _ _
      dsimp only
      rw [e1, hLi]; omega

/-- A list that is made: nil at first, a row of our own then. -/
def Own (v : Value) (ext : AHeap) (H : AHeap) (lo : Nat) (l : List Nat) : Prop :=
  (v = .slice none 0 0 ∧ l = []) ∨ ∃ k, v = .slice (some ⟨nb H k, 0, none⟩) l.length l.length ∧ ext[k]? = some (.live false (l.map fun x => .float .f32 x)) ∧ lo ≤ k
theorem Own.rd {v : Value} {ext H : AHeap} {lo : Nat} {l : List Nat} (h : Own v ext H lo l) (hl : l.length ≤ 2 ^ 40) : Abs.rd isF v (hp H ext) = some l := by
  rcases h with ⟨rfl, rfl⟩ | ⟨k, rfl, hk, _⟩
  · exact rd_nil _ _
  · exact rd_new _ _ hk (mapM_isF _) (by simp) hl
theorem Own.oneB {v : Value} {ext H : AHeap} {lo : Nat} {l : List Nat} (h : Own v ext H lo l) : Abs.oneB v = true := by
  rcases h with ⟨rfl, rfl⟩ | ⟨k, rfl, hk, _⟩ <;> rfl
theorem Own.more {v : Value} {ext H : AHeap} {lo : Nat} {l : List Nat} (h : Own v ext H lo l) (e : AHeap) : Own v (ext ++ e) H lo l := by
  rcases h with ⟨rfl, rfl⟩ | ⟨k, rfl, hk, h2⟩
  · exact .inl ⟨rfl, rfl⟩
  · exact .inr ⟨k, rfl, by rw [List.getElem?_append_left (List.getElem?_eq_some_iff.1 hk).1]; exact hk, h2⟩
theorem Own.set {v : Value} {ext H : AHeap} {lo : Nat} {l : List Nat} (h : Own v ext H lo l) {q : Nat} (hq : q < lo) (b : Blk) : Own v (ext.set q b) H lo l := by
  rcases h with ⟨rfl, rfl⟩ | ⟨k, rfl, hk, h2⟩
  · exact .inl ⟨rfl, rfl⟩
  · exact .inr ⟨k, rfl, by rw [List.getElem?_set, if_neg (by omega)]; exact hk, h2⟩
/-- One more number. -/
theorem Own.append {v : Value} {ext H : AHeap} {lo : Nat} {l : List Nat} (h : Own v ext H lo l) {j x : Nat} (hlo : lo ≤ ext.length) (hj : ext[j]? = some (.live false [.float .f32 x])) (hs : l.length + 1 ≤ 2 ^ 38) (c : Nat) :
    ∃ ext2, aAppend Try.prog [29, 29] v (.slice (some ⟨nb H j, 0, none⟩) 1 c) (hp H ext) = some (.slice (some ⟨nb H ext.length, 0, none⟩) (l.length + 1) (l.length + 1), hp H ext2) ∧ (∀ q, q < lo → ext2[q]? = ext[q]?) ∧ ext2.length = ext.length + 1 ∧ Own (.slice (some ⟨nb H ext.length, 0, none⟩) (l.length + 1) (l.length + 1)) ext2 H lo (l ++ [x]) := by
  rcases h with ⟨rfl, rfl⟩ | ⟨k, rfl, hk, hk2⟩
  · refine ⟨ext ++ [.live false [.float .f32 x]], ?_, ?_, by simp, ?_⟩
    · have hx : aCells (.slice (some ⟨nb H j, 0, none⟩) 1 c) (hp H ext) = some [.float .f32 x] := by
        unfold aCells; dsimp only; rw [hp_new, hj]; rfl
      rw [row_append row_29 29 _ _ _ hx (by rfl) (srcT_row row_29 _ _ _)]
      show (if [Value.float .f32 x] = [] then some (Value.slice none 0 0, hp H ext) else if [Value.float .f32 x].length ≤ 2 ^ 38 then some (aRow [.float .f32 x] 1 (hp H ext)) else none) = _
      rw [if_neg (by simp), if_pos (by simp)]
      show some (Value.slice (some ⟨(hp H ext).length, 0, none⟩) 1 1, hp H ext ++ [.live false [.float .f32 x]]) = _
      rw [hp_length, hp_add]
      rfl
    · intro q hq
      rw [List.getElem?_append_left (by omega)]
    · exact .inr ⟨ext.length, rfl, by simp, hlo⟩
  · have hkl : k < ext.length := (List.getElem?_eq_some_iff.1 hk).1
    refine ⟨ext.set k .dead ++ [.live false ((l.map fun x => .float .f32 x) ++ [.float .f32 x])], ?_, ?_, by simp, ?_⟩
    · exact append_one row_29 row_29 hk (by simp) hj rfl hs _ _
    · intro q hq
      rw [List.getElem?_append_left (by simp; omega), List.getElem?_set, if_neg (by omega)]
    · refine .inr ⟨ext.length, by simp, ?_, hlo⟩
      have := getElem?_app_len (ext.set k .dead) (Blk.live false ((l.map fun x => Value.float .f32 x) ++ [.float .f32 x]))
      rw [List.length_set] at this
      rw [this]; simp

def gWarped (args : List Value) (H : AHeap) : Option (Value × AHeap) :=
  match args with
  | [s, s', .int .i64 win] => match rd isF s H, rd isF s' H with
    | some xs, some ys => if 1 ≤ xs.length ∧ xs.length ≤ 96 ∧ 1 ≤ ys.length ∧ ys.length ≤ 96 then
        some (.agg ⟨[(mkF (costL xs ys win) H).1, .int .i64 (ys.length : Nat)]⟩, (mkF (costL xs ys win) H).2) else none
    | _, _ => none
  | _ => none
theorem gWarped_eq {s s' : Value} {win : Int} {H : AHeap} {xs ys : List Nat} (h : rd isF s H = some xs) (h' : rd isF s' H = some ys) (h1 : 1 ≤ xs.length) (h2 : xs.length ≤ 96) (h3 : 1 ≤ ys.length) (h4 : ys.length ≤ 96) :
    gWarped [s, s', .int .i64 win] H = some (.agg ⟨[(mkF (costL xs ys win) H).1, .int .i64 (ys.length : Nat)]⟩, (mkF (costL xs ys win) H).2) := by
  unfold gWarped; simp only [h, h']
  rw [if_pos ⟨h1, h2, h3, h4⟩]
theorem build_124 (n : Int) : aBuild Try.prog 124 [(1, .int .i64 n)] = some (.agg ⟨[.slice none 0 0, .int .i64 n]⟩) := by kernel_rfl
theorem snd143 {G : Env} (hG : SoundEnv [] Try.prog G) (h90 : G 90 = gAbs) (h154 : G 154 = gBefore) (h155 : G 155 = gAt2) : Sound [] Try.prog 143 gWarped := by
  refine sound_of (rs := [.cell 6 124]) (n := 77) hG mix Try.func143 rfl rfl rfl (by kernel_rfl) (by decide +kernel) (by decide +kernel) ?_
  intro args H r H' h
  unfold gWarped at h
  split at h
  case h_2 => cases h
  rename_i s s' win
  split at h
  case h_2 => cases h
  rename_i xs ys hs hs'
  split at h
  case isFalse => cases h
  rename_i hok
  cases h
  obtain ⟨q1, q2, q3, q4⟩ := hok
  obtain ⟨a, n, c, row⟩ := rd_row hs
  cases row.eq
  obtain ⟨a', n', c', row'⟩ := rd_row hs'
  cases row'.eq
  have hl := row.len
  have hl' := row'.len
  subst hl; subst hl'
  refine ⟨by simp, ?_⟩
  simp (maxSteps := 10000000) only [↓exA, exB, exC, exN, exD, exR, tys, ↓reduceIte, Nat.reduceLT, Nat.reduceEqDiff, Nat.reduceAdd, Nat.zero_add, Nat.add_zero, List.map_cons, List.map_nil, Option.map_some, Option.map_none, Option.bind_some, List.length_cons, List.length_nil, List.cons_append, List.nil_append, List.append_nil, List.getElem?_cons_zero, List.getElem?_cons_succ, List.set_cons_zero, List.set_cons_succ, Nat.reduceLeDiff, and_self, and_true, true_and, gval, List.take_zero, List.take_succ_cons, List.drop_zero, List.drop_succ_cons, List.all_cons, List.all_nil, Bool.and_self, Bool.not_true, Bool.not_false, beq_true, beq_false, decide_true, decide_false, eq_self, Nat.reducePow, build_124]
  refine X_loop (I := fun m t K => ∃ (f : Nat → Value) (i : Nat) (v : Value) (ext : AHeap), t = mk 77 f ∧ K = hp H ext ∧ f 1 = .slice a' ys.length c' ∧ f 2 = .int .i64 win ∧ f 6 = .pointer (some ⟨nb H 0, 0, none⟩) ∧ f 7 = .pointer (some ⟨nb H 1, 0, none⟩) ∧ f 19 = .slice a xs.length c ∧ f 20 = .int .i64 (xs.length : Nat) ∧ f 21 = .int .i64 (i : Nat)
    ∧ ext[0]? = some (.live false [.slice none 0 0, .int .i64 0]) ∧ ext[1]? = some (.live false [v, .int .i64 (ys.length : Nat)]) ∧ Own v ext H 2 (costN xs ys win (i * ys.length)) ∧ i + m = xs.length) (m := xs.length) ?_ ?_
  · rintro m t K ⟨f, i, v, ext, rfl, rfl, f1, f2, f6, f7, f19, f20, f21, e0, e1, ho, hm⟩
    simp (maxSteps := 10000000) only [↓exA, exB, exC, exN, exD, exR, tys, ↓reduceIte, Nat.reduceLT, Nat.reduceEqDiff, Nat.reduceAdd, Nat.zero_add, Nat.add_zero, List.map_cons, List.map_nil, Option.map_some, Option.map_none, Option.bind_some, List.length_cons, List.length_nil, List.cons_append, List.nil_append, List.append_nil, List.getElem?_cons_zero, List.getElem?_cons_succ, List.set_cons_zero, List.set_cons_succ, Nat.reduceLeDiff, and_self, and_true, true_and, gval, List.take_zero, List.take_succ_cons, List.drop_zero, List.drop_succ_cons, List.all_cons, List.all_nil, Bool.and_self, Bool.not_true, Bool.not_false, beq_true, beq_false, decide_true, decide_false, eq_self, Nat.reducePow, f1, f2, f6, f7, f19, f20, f21]
    refine condW_intro (fun c1 => ?_) (fun c1 => ?_) <;> (try simp only [Bool.not_eq_true', Bool.not_eq_eq_eq_not, Bool.not_true, Bool.not_false, beq_true, beq_false, beq_iff_eq, beq_eq_false_iff_ne, ne_eq, Bool.not_eq_false, Bool.not_eq_true, decide_eq_true_eq, decide_eq_false_iff_not, Bool.not_not] at c1)
    · have hi : i < xs.length := by omega
      obtain ⟨b, off, lk, cs, ha, hb, hv⟩ := (row.hp ext).cellF hi
      subst ha
      simp (maxSteps := 10000000) only [↓exA, exB, exC, exN, exD, exR, tys, ↓reduceIte, Nat.reduceLT, Nat.reduceEqDiff, Nat.reduceAdd, Nat.zero_add, Nat.add_zero, List.map_cons, List.map_nil, Option.map_some, Option.map_none, Option.bind_some, List.length_cons, List.length_nil, List.cons_append, List.nil_append, List.append_nil, List.getElem?_cons_zero, List.getElem?_cons_succ, List.set_cons_zero, List.set_cons_succ, Nat.reduceLeDiff, and_self, and_true, true_and, gval, List.take_zero, List.take_succ_cons, List.drop_zero, List.drop_succ_cons, List.all_cons, List.all_nil, Bool.and_self, Bool.not_true, Bool.not_false, beq_true, beq_false, decide_true, decide_false, eq_self, Nat.reducePow, f1, f2, f6, f7, f19, f20, f21, c1, Int.natCast_nonneg, Int.toNat_natCast, hb, hv]
      refine X_loop (I := fun m2 t K => ∃ (g : Nat → Value) (k : Nat) (v : Value) (ext : AHeap), t = mk 77 g ∧ K = hp H ext ∧ g 1 = .slice a' ys.length c' ∧ g 2 = .int .i64 win ∧ g 6 = .pointer (some ⟨nb H 0, 0, none⟩) ∧ g 7 = .pointer (some ⟨nb H 1, 0, none⟩) ∧ g 8 = .int .i64 (i : Nat) ∧ g 9 = .float .f32 (xs.getD i 0) ∧ g 19 = .slice (some ⟨b, off, none⟩) xs.length c ∧ g 20 = .int .i64 (xs.length : Nat) ∧ g 21 = .int .i64 (i : Nat)
        ∧ g 26 = .slice a' ys.length c' ∧ g 27 = .int .i64 (ys.length : Nat) ∧ g 28 = .int .i64 (k : Nat)
        ∧ ext[0]? = some (.live false [.slice none 0 0, .int .i64 0]) ∧ ext[1]? = some (.live false [v, .int .i64 (ys.length : Nat)]) ∧ Own v ext H 2 (costN xs ys win (i * ys.length + k)) ∧ k + m2 = ys.length) (m := ys.length) ?_ ?_
      · rintro m2 t K ⟨g, k, v', ext', rfl, rfl, g1, g2, g6, g7, g8, g9, g19, g20, g21, g26, g27, g28, e0', e1', ho', hm2⟩
        simp (maxSteps := 10000000) only [↓exA, exB, exC, exN, exD, exR, tys, ↓reduceIte, Nat.reduceLT, Nat.reduceEqDiff, Nat.reduceAdd, Nat.zero_add, Nat.add_zero, List.map_cons, List.map_nil, Option.map_some, Option.map_none, Option.bind_some, List.length_cons, List.length_nil, List.cons_append, List.nil_append, List.append_nil, List.getElem?_cons_zero, List.getElem?_cons_succ, List.set_cons_zero, List.set_cons_succ, Nat.reduceLeDiff, and_self, and_true, true_and, gval, List.take_zero, List.take_succ_cons, List.drop_zero, List.drop_succ_cons, List.all_cons, List.all_nil, Bool.and_self, Bool.not_true, Bool.not_false, beq_true, beq_false, decide_true, decide_false, eq_self, Nat.reducePow, g1, g2, g6, g7, g8, g9, g19, g20, g21, g26, g27, g28]
        refine condW_intro (fun c2 => ?_) (fun c2 => ?_) <;> (try simp only [Bool.not_eq_true', Bool.not_eq_eq_eq_not, Bool.not_true, Bool.not_false, beq_true, beq_false, beq_iff_eq, beq_eq_false_iff_ne, ne_eq, Bool.not_eq_false, Bool.not_eq_true, decide_eq_true_eq, decide_eq_false_iff_not, Bool.not_not] at c2)
        · have hk : k < ys.length := by omega
          have hl1 : 1 < ext'.length := (List.getElem?_eq_some_iff.1 e1').1
          have hik : i * ys.length ≤ 95 * 96 := Nat.mul_le_mul (by omega) q4
          obtain ⟨b', off', lk', cs', ha', hb', hv'⟩ := (row'.hp ext').cellF hk
          subst ha'
          have hw : IntKind.i64.wrap ((i : Int) + k) = (i : Int) + k := wrap_i64 (by omega) (by omega)
          have hov := ho'.oneB
          simp (maxSteps := 10000000) only [↓exA, exB, exC, exN, exD, exR, tys, ↓reduceIte, Nat.reduceLT, Nat.reduceEqDiff, Nat.reduceAdd, Nat.zero_add, Nat.add_zero, List.map_cons, List.map_nil, Option.map_some, Option.map_none, Option.bind_some, List.length_cons, List.length_nil, List.cons_append, List.nil_append, List.append_nil, List.getElem?_cons_zero, List.getElem?_cons_succ, List.set_cons_zero, List.set_cons_succ, Nat.reduceLeDiff, and_self, and_true, true_and, gval, List.take_zero, List.take_succ_cons, List.drop_zero, List.drop_succ_cons, List.all_cons, List.all_nil, Bool.and_self, Bool.not_true, Bool.not_false, beq_true, beq_false, decide_true, decide_false, eq_self, Nat.reducePow, g1, g2, g6, g7, g8, g9, g19, g20, g21, g26, g27, g28, c2, Int.natCast_nonneg, Int.toNat_natCast, hb', hv', h90, gAbs_eq, hw]
          by_cases h0 : (0 : Int) < (i : Int) + k
          · have hd0 : decide ((0 : Int) < (i : Int) + k) = true := by simpa using h0
            have hrd := ho'.rd (by rw [costN_length]; omega)
            have hok := ok_cand (L := costN xs ys win (i * ys.length + k)) (w := ys.length) (i := i) (k := k) (costN_length ..) (by omega) hk q4 (by omega)
            have hbef := gBefore_eq hrd (by omega) (by omega) hok
            simp (maxSteps := 10000000) only [↓exA, exB, exC, exN, exD, exR, tys, ↓reduceIte, Nat.reduceLT, Nat.reduceEqDiff, Nat.reduceAdd, Nat.zero_add, Nat.add_zero, List.map_cons, List.map_nil, Option.map_some, Option.map_none, Option.bind_some, List.length_cons, List.length_nil, List.cons_append, List.nil_append, List.append_nil, List.getElem?_cons_zero, List.getElem?_cons_succ, List.set_cons_zero, List.set_cons_succ, Nat.reduceLeDiff, and_self, and_true, true_and, gval, List.take_zero, List.take_succ_cons, List.drop_zero, List.drop_succ_cons, List.all_cons, List.all_nil, Bool.and_self, Bool.not_true, Bool.not_false, beq_true, beq_false, decide_true, decide_false, eq_self, Nat.reducePow, hd0, g1, g2, g6, g7, g8, g9, g19, g20, g21, g26, g27, g28, e1', h154, hbef]
            cases hf : (befV (costN xs ys win (i * ys.length + k)) ys.length i k).2
            · simp (maxSteps := 10000000) only [↓exA, exB, exC, exN, exD, exR, tys, ↓reduceIte, Nat.reduceLT, Nat.reduceEqDiff, Nat.reduceAdd, Nat.zero_add, Nat.add_zero, List.map_cons, List.map_nil, Option.map_some, Option.map_none, Option.bind_some, List.length_cons, List.length_nil, List.cons_append, List.nil_append, List.append_nil, List.getElem?_cons_zero, List.getElem?_cons_succ, List.set_cons_zero, List.set_cons_succ, Nat.reduceLeDiff, and_self, and_true, true_and, gval, List.take_zero, List.take_succ_cons, List.drop_zero, List.drop_succ_cons, List.all_cons, List.all_nil, Bool.and_self, Bool.not_true, Bool.not_false, beq_true, beq_false, decide_true, decide_false, eq_self, Nat.reducePow, hf]
              -- the end of a round
              simp (maxSteps := 10000000) only [↓exA, exB, exC, exN, exD, exR, tys, ↓reduceIte, Nat.reduceLT, Nat.reduceEqDiff, Nat.reduceAdd, Nat.zero_add, Nat.add_zero, List.map_cons, List.map_nil, Option.map_some, Option.map_none, Option.bind_some, List.length_cons, List.length_nil, List.cons_append, List.nil_append, List.append_nil, List.getElem?_cons_zero, List.getElem?_cons_succ, List.set_cons_zero, List.set_cons_succ, Nat.reduceLeDiff, and_self, and_true, true_and, gval, List.take_zero, List.take_succ_cons, List.drop_zero, List.drop_succ_cons, List.all_cons, List.all_nil, Bool.and_self, Bool.not_true, Bool.not_false, beq_true, beq_false, decide_true, decide_false, eq_self, Nat.reducePow, g1, g2, g6, g7, g8, g9, g19, g20, g21, g26, g27, g28, e1', buildF_1]
              obtain ⟨ext2, p1, p2, p3, p4⟩ := (ho'.more [.live false [.float .f32 (entryW (costN xs ys win (i * ys.length + k)) ys.length win xs ys i k)]]).append (j := ext'.length) (by simp; omega) (getElem?_app_len ext' _) (by rw [costN_length]; omega) 1
              rw [costN_length] at p1 p4
              have hv12 : 3212836864 = entryW (costN xs ys win (i * ys.length + k)) ys.length win xs ys i k := by unfold entryW; rw [if_pos (by omega), hf]; rfl
              rw [hv12]
              refine andR_of p1 ?_
              have h21 : ext2[1]? = some (.live false [v', .int .i64 (ys.length : Nat)]) := by
                rw [p2 1 (by decide), List.getElem?_append_left (List.getElem?_eq_some_iff.1 e1').1]; exact e1'
              have h20 : ext2[0]? = some (.live false [.slice none 0 0, .int .i64 0]) := by
                rw [p2 0 (by decide), List.getElem?_append_left (List.getElem?_eq_some_iff.1 e0').1]; exact e0'
              simp (maxSteps := 10000000) only [↓exA, exB, exC, exN, exD, exR, tys, ↓reduceIte, Nat.reduceLT, Nat.reduceEqDiff, Nat.reduceAdd, Nat.zero_add, Nat.add_zero, List.map_cons, List.map_nil, Option.map_some, Option.map_none, Option.bind_some, List.length_cons, List.length_nil, List.cons_append, List.nil_append, List.append_nil, List.getElem?_cons_zero, List.getElem?_cons_succ, List.set_cons_zero, List.set_cons_succ, Nat.reduceLeDiff, and_self, and_true, true_and, gval, List.take_zero, List.take_succ_cons, List.drop_zero, List.drop_succ_cons, List.all_cons, List.all_nil, Bool.and_self, Bool.not_true, Bool.not_false, beq_true, beq_false, decide_true, decide_false, eq_self, Nat.reducePow, g7, g28, h21]
              refine ⟨m2 - 1, by omega, _, k + 1, .slice (some ⟨nb H (ext' ++ [Blk.live false [.float .f32 (entryW (costN xs ys win (i * ys.length + k)) ys.length win xs ys i k)]]).length, 0, none⟩) (i * ys.length + k + 1) (i * ys.length + k + 1), _, rfl, rfl, ?_, ?_, ?_, ?_, ?_, ?_, ?_, ?_, ?_, ?_, ?_, ?_, ?_, ?_, ?_, by omega⟩
              all_goals (try simp (maxSteps := 10000000) only [↓exA, exB, exC, exN, exD, exR, tys, ↓reduceIte, Nat.reduceLT, Nat.reduceEqDiff, Nat.reduceAdd, Nat.zero_add, Nat.add_zero, List.map_cons, List.map_nil, Option.map_some, Option.map_none, Option.bind_some, List.length_cons, List.length_nil, List.cons_append, List.nil_append, List.append_nil, List.getElem?_cons_zero, List.getElem?_cons_succ, List.set_cons_zero, List.set_cons_succ, Nat.reduceLeDiff, and_self, and_true, true_and, gval, List.take_zero, List.take_succ_cons, List.drop_zero, List.drop_succ_cons, List.all_cons, List.all_nil, Bool.and_self, Bool.not_true, Bool.not_false, beq_true, beq_false, decide_true, decide_false, eq_self, Nat.reducePow, g1, g2, g6, g7, g8, g9, g19, g20, g21, g26, g27, g28])
              · rw [wrap_i64 (by omega) (by omega)]; simp
              · rw [List.getElem?_set, if_neg (by decide)]; exact h20
              · rw [List.getElem?_set, if_pos rfl, if_pos (List.getElem?_eq_some_iff.1 h21).1]
              · have := p4.set (q := 1) (by decide) (.live false [.slice (some ⟨nb H (ext' ++ [Blk.live false [.float .f32 (entryW (costN xs ys win (i * ys.length + k)) ys.length win xs ys i k)]]).length, 0, none⟩) (i * ys.length + k + 1) (i * ys.length + k + 1), .int .i64 (ys.length : Nat)])
                rw [← costN_step xs ys win hk] at this
                exact this
            · have w1 : IntKind.i64.wrap ((i : Int) - k) = (i : Int) - k := wrap_i64 (by omega) (by omega)
              have w2 : IntKind.i64.wrap ((k : Int) - i) = (k : Int) - i := wrap_i64 (by omega) (by omega)
              simp (maxSteps := 10000000) only [↓exA, exB, exC, exN, exD, exR, tys, ↓reduceIte, Nat.reduceLT, Nat.reduceEqDiff, Nat.reduceAdd, Nat.zero_add, Nat.add_zero, List.map_cons, List.map_nil, Option.map_some, Option.map_none, Option.bind_some, List.length_cons, List.length_nil, List.cons_append, List.nil_append, List.append_nil, List.getElem?_cons_zero, List.getElem?_cons_succ, List.set_cons_zero, List.set_cons_succ, Nat.reduceLeDiff, and_self, and_true, true_and, gval, List.take_zero, List.take_succ_cons, List.drop_zero, List.drop_succ_cons, List.all_cons, List.all_nil, Bool.and_self, Bool.not_true, Bool.not_false, beq_true, beq_false, decide_true, decide_false, eq_self, Nat.reducePow, hf, g2, g8, w1, w2]
              by_cases hx : win < (if ((k : Int) - i) > ((i : Int) - k) then ((k : Int) - i) else ((i : Int) - k))
              · have hdx : decide (win < (if ((k : Int) - i) > ((i : Int) - k) then ((k : Int) - i) else ((i : Int) - k))) = true := by simpa using hx
                simp (maxSteps := 10000000) only [↓exA, exB, exC, exN, exD, exR, tys, ↓reduceIte, Nat.reduceLT, Nat.reduceEqDiff, Nat.reduceAdd, Nat.zero_add, Nat.add_zero, List.map_cons, List.map_nil, Option.map_some, Option.map_none, Option.bind_some, List.length_cons, List.length_nil, List.cons_append, List.nil_append, List.append_nil, List.getElem?_cons_zero, List.getElem?_cons_succ, List.set_cons_zero, List.set_cons_succ, Nat.reduceLeDiff, and_self, and_true, true_and, gval, List.take_zero, List.take_succ_cons, List.drop_zero, List.drop_succ_cons, List.all_cons, List.all_nil, Bool.and_self, Bool.not_true, Bool.not_false, beq_true, beq_false, decide_true, decide_false, eq_self, Nat.reducePow, hdx]
                -- the end of a round
                simp (maxSteps := 10000000) only [↓exA, exB, exC, exN, exD, exR, tys, ↓reduceIte, Nat.reduceLT, Nat.reduceEqDiff, Nat.reduceAdd, Nat.zero_add, Nat.add_zero, List.map_cons, List.map_nil, Option.map_some, Option.map_none, Option.bind_some, List.length_cons, List.length_nil, List.cons_append, List.nil_append, List.append_nil, List.getElem?_cons_zero, List.getElem?_cons_succ, List.set_cons_zero, List.set_cons_succ, Nat.reduceLeDiff, and_self, and_true, true_and, gval, List.take_zero, List.take_succ_cons, List.drop_zero, List.drop_succ_cons, List.all_cons, List.all_nil, Bool.and_self, Bool.not_true, Bool.not_false, beq_true, beq_false, decide_true, decide_false, eq_self, Nat.reducePow, g1, g2, g6, g7, g8, g9, g19, g20, g21, g26, g27, g28, e1', buildF_1]
                obtain ⟨ext2, p1, p2, p3, p4⟩ := (ho'.more [.live false [.float .f32 (entryW (costN xs ys win (i * ys.length + k)) ys.length win xs ys i k)]]).append (j := ext'.length) (by simp; omega) (getElem?_app_len ext' _) (by rw [costN_length]; omega) 1
                rw [costN_length] at p1 p4
                have hv12 : 3212836864 = entryW (costN xs ys win (i * ys.length + k)) ys.length win xs ys i k := by unfold entryW; rw [if_pos (by omega), hf, hdx]; rfl
                rw [hv12]
                refine andR_of p1 ?_
                have h21 : ext2[1]? = some (.live false [v', .int .i64 (ys.length : Nat)]) := by
                  rw [p2 1 (by decide), List.getElem?_append_left (List.getElem?_eq_some_iff.1 e1').1]; exact e1'
                have h20 : ext2[0]? = some (.live false [.slice none 0 0, .int .i64 0]) := by
                  rw [p2 0 (by decide), List.getElem?_append_left (List.getElem?_eq_some_iff.1 e0').1]; exact e0'
                simp (maxSteps := 10000000) only [↓exA, exB, exC, exN, exD, exR, tys, ↓reduceIte, Nat.reduceLT, Nat.reduceEqDiff, Nat.reduceAdd, Nat.zero_add, Nat.add_zero, List.map_cons, List.map_nil, Option.map_some, Option.map_none, Option.bind_some, List.length_cons, List.length_nil, List.cons_append, List.nil_append, List.append_nil, List.getElem?_cons_zero, List.getElem?_cons_succ, List.set_cons_zero, List.set_cons_succ, Nat.reduceLeDiff, and_self, and_true, true_and, gval, List.take_zero, List.take_succ_cons, List.drop_zero, List.drop_succ_cons, List.all_cons, List.all_nil, Bool.and_self, Bool.not_true, Bool.not_false, beq_true, beq_false, decide_true, decide_false, eq_self, Nat.reducePow, g7, g28, h21]
                refine ⟨m2 - 1, by omega, _, k + 1, .slice (some ⟨nb H (ext' ++ [Blk.live false [.float .f32 (entryW (costN xs ys win (i * ys.length + k)) ys.length win xs ys i k)]]).length, 0, none⟩) (i * ys.length + k + 1) (i * ys.length + k + 1), _, rfl, rfl, ?_, ?_, ?_, ?_, ?_, ?_, ?_, ?_, ?_, ?_, ?_, ?_, ?_, ?_, ?_, by omega⟩
                all_goals (try simp (maxSteps := 10000000) only [↓exA, exB, exC, exN, exD, exR, tys, ↓reduceIte, Nat.reduceLT, Nat.reduceEqDiff, Nat.reduceAdd, Nat.zero_add, Nat.add_zero, List.map_cons, List.map_nil, Option.map_some, Option.map_none, Option.bind_some, List.length_cons, List.length_nil, List.cons_append, List.nil_append, List.append_nil, List.getElem?_cons_zero, List.getElem?_cons_succ, List.set_cons_zero, List.set_cons_succ, Nat.reduceLeDiff, and_self, and_true, true_and, gval, List.take_zero, List.take_succ_cons, List.drop_zero, List.drop_succ_cons, List.all_cons, List.all_nil, Bool.and_self, Bool.not_true, Bool.not_false, beq_true, beq_false, decide_true, decide_false, eq_self, Nat.reducePow, g1, g2, g6, g7, g8, g9, g19, g20, g21, g26, g27, g28])
                · rw [wrap_i64 (by omega) (by omega)]; simp
                · rw [List.getElem?_set, if_neg (by decide)]; exact h20
                · rw [List.getElem?_set, if_pos rfl, if_pos (List.getElem?_eq_some_iff.1 h21).1]
                · have := p4.set (q := 1) (by decide) (.live false [.slice (some ⟨nb H (ext' ++ [Blk.live false [.float .f32 (entryW (costN xs ys win (i * ys.length + k)) ys.length win xs ys i k)]]).length, 0, none⟩) (i * ys.length + k + 1) (i * ys.length + k + 1), .int .i64 (ys.length : Nat)])
                  rw [← costN_step xs ys win hk] at this
                  exact this
              · have hdx : decide (win < (if ((k : Int) - i) > ((i : Int) - k) then ((k : Int) - i) else ((i : Int) - k))) = false := by simpa using hx
                have hat := gAt2_eq hrd (bef_okV hok hf)
                simp (maxSteps := 10000000) only [↓exA, exB, exC, exN, exD, exR, tys, ↓reduceIte, Nat.reduceLT, Nat.reduceEqDiff, Nat.reduceAdd, Nat.zero_add, Nat.add_zero, List.map_cons, List.map_nil, Option.map_some, Option.map_none, Option.bind_some, List.length_cons, List.length_nil, List.cons_append, List.nil_append, List.append_nil, List.getElem?_cons_zero, List.getElem?_cons_succ, List.set_cons_zero, List.set_cons_succ, Nat.reduceLeDiff, and_self, and_true, true_and, gval, List.take_zero, List.take_succ_cons, List.drop_zero, List.drop_succ_cons, List.all_cons, List.all_nil, Bool.and_self, Bool.not_true, Bool.not_false, beq_true, beq_false, decide_true, decide_false, eq_self, Nat.reducePow, hdx, g7, e1', h155, hat]
                -- the end of a round
                simp (maxSteps := 10000000) only [↓exA, exB, exC, exN, exD, exR, tys, ↓reduceIte, Nat.reduceLT, Nat.reduceEqDiff, Nat.reduceAdd, Nat.zero_add, Nat.add_zero, List.map_cons, List.map_nil, Option.map_some, Option.map_none, Option.bind_some, List.length_cons, List.length_nil, List.cons_append, List.nil_append, List.append_nil, List.getElem?_cons_zero, List.getElem?_cons_succ, List.set_cons_zero, List.set_cons_succ, Nat.reduceLeDiff, and_self, and_true, true_and, gval, List.take_zero, List.take_succ_cons, List.drop_zero, List.drop_succ_cons, List.all_cons, List.all_nil, Bool.and_self, Bool.not_true, Bool.not_false, beq_true, beq_false, decide_true, decide_false, eq_self, Nat.reducePow, g1, g2, g6, g7, g8, g9, g19, g20, g21, g26, g27, g28, e1', buildF_1]
                obtain ⟨ext2, p1, p2, p3, p4⟩ := (ho'.more [.live false [.float .f32 (entryW (costN xs ys win (i * ys.length + k)) ys.length win xs ys i k)]]).append (j := ext'.length) (by simp; omega) (getElem?_app_len ext' _) (by rw [costN_length]; omega) 1
                rw [costN_length] at p1 p4
                have hv12 : fbin .add .f32 (atV (costN xs ys win (i * ys.length + k)) ys.length (befV (costN xs ys win (i * ys.length + k)) ys.length i k).1.1 (befV (costN xs ys win (i * ys.length + k)) ys.length i k).1.2) (absF (fbin .sub .f32 (xs.getD i 0) (ys.getD k 0))) = entryW (costN xs ys win (i * ys.length + k)) ys.length win xs ys i k := by unfold entryW; rw [if_pos (by omega), hf, hdx]; rfl
                rw [hv12]
                refine andR_of p1 ?_
                have h21 : ext2[1]? = some (.live false [v', .int .i64 (ys.length : Nat)]) := by
                  rw [p2 1 (by decide), List.getElem?_append_left (List.getElem?_eq_some_iff.1 e1').1]; exact e1'
                have h20 : ext2[0]? = some (.live false [.slice none 0 0, .int .i64 0]) := by
                  rw [p2 0 (by decide), List.getElem?_append_left (List.getElem?_eq_some_iff.1 e0').1]; exact e0'
                simp (maxSteps := 10000000) only [↓exA, exB, exC, exN, exD, exR, tys, ↓reduceIte, Nat.reduceLT, Nat.reduceEqDiff, Nat.reduceAdd, Nat.zero_add, Nat.add_zero, List.map_cons, List.map_nil, Option.map_some, Option.map_none, Option.bind_some, List.length_cons, List.length_nil, List.cons_append, List.nil_append, List.append_nil, List.getElem?_cons_zero, List.getElem?_cons_succ, List.set_cons_zero, List.set_cons_succ, Nat.reduceLeDiff, and_self, and_true, true_and, gval, List.take_zero, List.take_succ_cons, List.drop_zero, List.drop_succ_cons, List.all_cons, List.all_nil, Bool.and_self, Bool.not_true, Bool.not_false, beq_true, beq_false, decide_true, decide_false, eq_self, Nat.reducePow, g7, g28, h21]
                refine ⟨m2 - 1, by omega, _, k + 1, .slice (some ⟨nb H (ext' ++ [Blk.live false [.float .f32 (entryW (costN xs ys win (i * ys.length + k)) ys.length win xs ys i k)]]).length, 0, none⟩) (i * ys.length + k + 1) (i * ys.length + k + 1), _, rfl, rfl, ?_, ?_, ?_, ?_, ?_, ?_, ?_, ?_, ?_, ?_, ?_, ?_, ?_, ?_, ?_, by omega⟩
                all_goals (try simp (maxSteps := 10000000) only [↓exA, exB, exC, exN, exD, exR, tys, ↓reduceIte, Nat.reduceLT, Nat.reduceEqDiff, Nat.reduceAdd, Nat.zero_add, Nat.add_zero, List.map_cons, List.map_nil, Option.map_some, Option.map_none, Option.bind_some, List.length_cons, List.length_nil, List.cons_append, List.nil_append, List.append_nil, List.getElem?_cons_zero, List.getElem?_cons_succ, List.set_cons_zero, List.set_cons_succ, Nat.reduceLeDiff, and_self, and_true, true_and, gval, List.take_zero, List.take_succ_cons, List.drop_zero, List.drop_succ_cons, List.all_cons, List.all_nil, Bool.and_self, Bool.not_true, Bool.not_false, beq_true, beq_false, decide_true, decide_false, eq_self, Nat.reducePow, g1, g2, g6, g7, g8, g9, g19, g20, g21, g26, g27, g28])
                · rw [wrap_i64 (by omega) (by omega)]; simp
                · rw [List.getElem?_set, if_neg (by decide)]; exact h20
                · rw [List.getElem?_set, if_pos rfl, if_pos (List.getElem?_eq_some_iff.1 h21).1]
                · have := p4.set (q := 1) (by decide) (.live false [.slice (some ⟨nb H (ext' ++ [Blk.live false [.float .f32 (entryW (costN xs ys win (i * ys.length + k)) ys.length win xs ys i k)]]).length, 0, none⟩) (i * ys.length + k + 1) (i * ys.length + k + 1), .int .i64 (ys.length : Nat)])
                  rw [← costN_step xs ys win hk] at this
                  exact this
          · have hd0 : decide ((0 : Int) < (i : Int) + k) = false := by simpa using h0
            simp (maxSteps := 10000000) only [↓exA, exB, exC, exN, exD, exR, tys, ↓reduceIte, Nat.reduceLT, Nat.reduceEqDiff, Nat.reduceAdd, Nat.zero_add, Nat.add_zero, List.map_cons, List.map_nil, Option.map_some, Option.map_none, Option.bind_some, List.length_cons, List.length_nil, List.cons_append, List.nil_append, List.append_nil, List.getElem?_cons_zero, List.getElem?_cons_succ, List.set_cons_zero, List.set_cons_succ, Nat.reduceLeDiff, and_self, and_true, true_and, gval, List.take_zero, List.take_succ_cons, List.drop_zero, List.drop_succ_cons, List.all_cons, List.all_nil, Bool.and_self, Bool.not_true, Bool.not_false, beq_true, beq_false, decide_true, decide_false, eq_self, Nat.reducePow, hd0]
            -- the end of a round
            simp (maxSteps := 10000000) only [↓exA, exB, exC, exN, exD, exR, tys, ↓reduceIte, Nat.reduceLT, Nat.reduceEqDiff, Nat.reduceAdd, Nat.zero_add, Nat.add_zero, List.map_cons, List.map_nil, Option.map_some, Option.map_none, Option.bind_some, List.length_cons, List.length_nil, List.cons_append, List.nil_append, List.append_nil, List.getElem?_cons_zero, List.getElem?_cons_succ, List.set_cons_zero, List.set_cons_succ, Nat.reduceLeDiff, and_self, and_true, true_and, gval, List.take_zero, List.take_succ_cons, List.drop_zero, List.drop_succ_cons, List.all_cons, List.all_nil, Bool.and_self, Bool.not_true, Bool.not_false, beq_true, beq_false, decide_true, decide_false, eq_self, Nat.reducePow, g1, g2, g6, g7, g8, g9, g19, g20, g21, g26, g27, g28, e1', buildF_1]
            obtain ⟨ext2, p1, p2, p3, p4⟩ := (ho'.more [.live false [.float .f32 (entryW (costN xs ys win (i * ys.length + k)) ys.length win xs ys i k)]]).append (j := ext'.length) (by simp; omega) (getElem?_app_len ext' _) (by rw [costN_length]; omega) 1
            rw [costN_length] at p1 p4
            have hv12 : absF (fbin .sub .f32 (xs.getD i 0) (ys.getD k 0)) = entryW (costN xs ys win (i * ys.length + k)) ys.length win xs ys i k := by unfold entryW; rw [if_neg (by omega)]
            rw [hv12]
            refine andR_of p1 ?_
            have h21 : ext2[1]? = some (.live false [v', .int .i64 (ys.length : Nat)]) := by
              rw [p2 1 (by decide), List.getElem?_append_left (List.getElem?_eq_some_iff.1 e1').1]; exact e1'
            have h20 : ext2[0]? = some (.live false [.slice none 0 0, .int .i64 0]) := by
              rw [p2 0 (by decide), List.getElem?_append_left (List.getElem?_eq_some_iff.1 e0').1]; exact e0'
            simp (maxSteps := 10000000) only [↓exA, exB, exC, exN, exD, exR, tys, ↓reduceIte, Nat.reduceLT, Nat.reduceEqDiff, Nat.reduceAdd, Nat.zero_add, Nat.add_zero, List.map_cons, List.map_nil, Option.map_some, Option.map_none, Option.bind_some, List.length_cons, List.length_nil, List.cons_append, List.nil_append, List.append_nil, List.getElem?_cons_zero, List.getElem?_cons_succ, List.set_cons_zero, List.set_cons_succ, Nat.reduceLeDiff, and_self, and_true, true_and, gval, List.take_zero, List.take_succ_cons, List.drop_zero, List.drop_succ_cons, List.all_cons, List.all_nil, Bool.and_self, Bool.not_true, Bool.not_false, beq_true, beq_false, decide_true, decide_false, eq_self, Nat.reducePow, g7, g28, h21]
            refine ⟨m2 - 1, by omega, _, k + 1, .slice (some ⟨nb H (ext' ++ [Blk.live false [.float .f32 (entryW (costN xs ys win (i * ys.length + k)) ys.length win xs ys i k)]]).length, 0, none⟩) (i * ys.length + k + 1) (i * ys.length + k + 1), _, rfl, rfl, ?_, ?_, ?_, ?_, ?_, ?_, ?_, ?_, ?_, ?_, ?_, ?_, ?_, ?_, ?_, by omega⟩
            all_goals (try simp (maxSteps := 10000000) only [↓exA, exB, exC, exN, exD, exR, tys, ↓reduceIte, Nat.reduceLT, Nat.reduceEqDiff, Nat.reduceAdd, Nat.zero_add, Nat.add_zero, List.map_cons, List.map_nil, Option.map_some, Option.map_none, Option.bind_some, List.length_cons, List.length_nil, List.cons_append, List.nil_append, List.append_nil, List.getElem?_cons_zero, List.getElem?_cons_succ, List.set_cons_zero, List.set_cons_succ, Nat.reduceLeDiff, and_self, and_true, true_and, gval, List.take_zero, List.take_succ_cons, List.drop_zero, List.drop_succ_cons, List.all_cons, List.all_nil, Bool.and_self, Bool.not_true, Bool.not_false, beq_true, beq_false, decide_true, decide_false, eq_self, Nat.reducePow, g1, g2, g6, g7, g8, g9, g19, g20, g21, g26, g27, g28])
            · rw [wrap_i64 (by omega) (by omega)]; simp
            · rw [List.getElem?_set, if_neg (by decide)]; exact h20
            · rw [List.getElem?_set, if_pos rfl, if_pos (List.getElem?_eq_some_iff.1 h21).1]
            · have := p4.set (q := 1) (by decide) (.live false [.slice (some ⟨nb H (ext' ++ [Blk.live false [.float .f32 (entryW (costN xs ys win (i * ys.length + k)) ys.length win xs ys i k)]]).length, 0, none⟩) (i * ys.length + k + 1) (i * ys.length + k + 1), .int .i64 (ys.length : Nat)])
              rw [← costN_step xs ys win hk] at this
              exact this
        · simp (maxSteps := 10000000) only [↓exA, exB, exC, exN, exD, exR, tys, ↓reduceIte, Nat.reduceLT, Nat.reduceEqDiff, Nat.reduceAdd, Nat.zero_add, Nat.add_zero, List.map_cons, List.map_nil, Option.map_some, Option.map_none, Option.bind_some, List.length_cons, List.length_nil, List.cons_append, List.nil_append, List.append_nil, List.getElem?_cons_zero, List.getElem?_cons_succ, List.set_cons_zero, List.set_cons_succ, Nat.reduceLeDiff, and_self, and_true, true_and, gval, List.take_zero, List.take_succ_cons, List.drop_zero, List.drop_succ_cons, List.all_cons, List.all_nil, Bool.and_self, Bool.not_true, Bool.not_false, beq_true, beq_false, decide_true, decide_false, eq_self, Nat.reducePow, g21]
          have hk : k = ys.length := by omega
          rw [hk, show i * ys.length + ys.length = (i + 1) * ys.length by rw [Nat.add_mul, Nat.one_mul]] at ho'
          refine ⟨m - 1, by omega, _, i + 1, v', ext', rfl, rfl, ?_, ?_, ?_, ?_, ?_, ?_, ?_, e0', e1', ho', by omega⟩
          all_goals (try simp (maxSteps := 10000000) only [↓exA, exB, exC, exN, exD, exR, tys, ↓reduceIte, Nat.reduceLT, Nat.reduceEqDiff, Nat.reduceAdd, Nat.zero_add, Nat.add_zero, List.map_cons, List.map_nil, Option.map_some, Option.map_none, Option.bind_some, List.length_cons, List.length_nil, List.cons_append, List.nil_append, List.append_nil, List.getElem?_cons_zero, List.getElem?_cons_succ, List.set_cons_zero, List.set_cons_succ, Nat.reduceLeDiff, and_self, and_true, true_and, gval, List.take_zero, List.take_succ_cons, List.drop_zero, List.drop_succ_cons, List.all_cons, List.all_nil, Bool.and_self, Bool.not_true, Bool.not_false, beq_true, beq_false, decide_true, decide_false, eq_self, Nat.reducePow, g1, g2, g6, g7, g19, g20, g21])
          rw [wrap_i64 (by omega) (by omega)]; simp
      · refine ⟨_, 0, v, ext, rfl, rfl, ?_, ?_, ?_, ?_, ?_, ?_, ?_, ?_, ?_, ?_, ?_, ?_, e0, e1, ho, by omega⟩
        all_goals (try simp (maxSteps := 10000000) only [↓exA, exB, exC, exN, exD, exR, tys, ↓reduceIte, Nat.reduceLT, Nat.reduceEqDiff, Nat.reduceAdd, Nat.zero_add, Nat.add_zero, List.map_cons, List.map_nil, Option.map_some, Option.map_none, Option.bind_some, List.length_cons, List.length_nil, List.cons_append, List.nil_append, List.append_nil, List.getElem?_cons_zero, List.getElem?_cons_succ, List.set_cons_zero, List.set_cons_succ, Nat.reduceLeDiff, and_self, and_true, true_and, gval, List.take_zero, List.take_succ_cons, List.drop_zero, List.drop_succ_cons, List.all_cons, List.all_nil, Bool.and_self, Bool.not_true, Bool.not_false, beq_true, beq_false, decide_true, decide_false, eq_self, Nat.reducePow, f1, f2, f6, f7, f19, f20, f21])
        all_goals (try rfl)
    · have hi : i = xs.length := by omega
      rw [hi] at ho
      have hov := ho.oneB
      simp (maxSteps := 10000000) only [↓exA, exB, exC, exN, exD, exR, tys, ↓reduceIte, Nat.reduceLT, Nat.reduceEqDiff, Nat.reduceAdd, Nat.zero_add, Nat.add_zero, List.map_cons, List.map_nil, Option.map_some, Option.map_none, Option.bind_some, List.length_cons, List.length_nil, List.cons_append, List.nil_append, List.append_nil, List.getElem?_cons_zero, List.getElem?_cons_succ, List.set_cons_zero, List.set_cons_succ, Nat.reduceLeDiff, and_self, and_true, true_and, gval, List.take_zero, List.take_succ_cons, List.drop_zero, List.drop_succ_cons, List.all_cons, List.all_nil, Bool.and_self, Bool.not_true, Bool.not_false, beq_true, beq_false, decide_true, decide_false, eq_self, Nat.reducePow, f6, f7, e1, e0, hov]
      rcases ho with ⟨hv, hc⟩ | ⟨k, hv, hk, hk2⟩
      · exfalso
        have := costN_length xs ys win (xs.length * ys.length)
        rw [hc] at this
        have : 1 ≤ xs.length * ys.length := Nat.mul_pos q1 q3
        simp at *
        omega
      · subst hv
        have h0l : 0 < ext.length := (List.getElem?_eq_some_iff.1 e0).1
        have hks : (ext.set 0 (.live false [.slice (some ⟨nb H k, 0, none⟩) (costN xs ys win (xs.length * ys.length)).length (costN xs ys win (xs.length * ys.length)).length, .int .i64 (ys.length : Nat)]))[k]? = some (.live false ((costL xs ys win).map fun x => .float .f32 x)) := by
          rw [List.getElem?_set, if_neg (by omega)]; exact hk
        have hk0 : (ext.set 0 (.live false [.slice (some ⟨nb H k, 0, none⟩) (costN xs ys win (xs.length * ys.length)).length (costN xs ys win (xs.length * ys.length)).length, .int .i64 (ys.length : Nat)]))[0]? = some (.live false [.slice (some ⟨nb H k, 0, none⟩) (costN xs ys win (xs.length * ys.length)).length (costN xs ys win (xs.length * ys.length)).length, .int .i64 (ys.length : Nat)]) := by
          rw [List.getElem?_set, if_pos rfl, if_pos h0l]
        simp (maxSteps := 10000000) only [↓exA, exB, exC, exN, exD, exR, tys, ↓reduceIte, Nat.reduceLT, Nat.reduceEqDiff, Nat.reduceAdd, Nat.zero_add, Nat.add_zero, List.map_cons, List.map_nil, Option.map_some, Option.map_none, Option.bind_some, List.length_cons, List.length_nil, List.cons_append, List.nil_append, List.append_nil, List.getElem?_cons_zero, List.getElem?_cons_succ, List.set_cons_zero, List.set_cons_succ, Nat.reduceLeDiff, and_self, and_true, true_and, gval, List.take_zero, List.take_succ_cons, List.drop_zero, List.drop_succ_cons, List.all_cons, List.all_nil, Bool.and_self, Bool.not_true, Bool.not_false, beq_true, beq_false, decide_true, decide_false, eq_self, Nat.reducePow, hk0]
        refine fits_row hks (bareL_F _) ?_
        exact .agg (.cons (RV.new_slice (i := 0) rfl) (.cons (.same rfl) .nil))
  · refine ⟨_, 0, .slice none 0 0, _, rfl, rfl, ?_, ?_, ?_, ?_, ?_, ?_, ?_, rfl, rfl, ?_, by omega⟩
    all_goals (try simp (maxSteps := 10000000) only [↓exA, exB, exC, exN, exD, exR, tys, ↓reduceIte, Nat.reduceLT, Nat.reduceEqDiff, Nat.reduceAdd, Nat.zero_add, Nat.add_zero, List.map_cons, List.map_nil, Option.map_some, Option.map_none, Option.bind_some, List.length_cons, List.length_nil, List.cons_append, List.nil_append, List.append_nil, List.getElem?_cons_zero, List.getElem?_cons_succ, List.set_cons_zero, List.set_cons_succ, Nat.reduceLeDiff, and_self, and_true, true_and, gval, List.take_zero, List.take_succ_cons, List.drop_zero, List.drop_succ_cons, List.all_cons, List.all_nil, Bool.and_self, Bool.not_true, Bool.not_false, beq_true, beq_false, decide_true, decide_false, eq_self, Nat.reducePow])
    all_goals (try rfl)
    exact .inl ⟨rfl, by rw [Nat.zero_mul]; rfl⟩

end Go.Proofs.Ytnhhdgopgecggaa.Abs
