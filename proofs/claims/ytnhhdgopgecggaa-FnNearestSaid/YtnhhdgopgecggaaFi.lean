/- What a trend's run answers. No condition. -/
import Derived.Test.YtnhhdgopgecggaaFh
set_option linter.unusedVariables false
set_option linter.unusedSimpArgs false
set_option maxRecDepth 100000
set_option maxHeartbeats 4000000
namespace Go.Proofs.Ytnhhdgopgecggaa.Abs
open Go

def runT : Tr → List Nat → List Bool → Option (Tr × List Nat)
  | t, [], [] => some (t, [])
  | t, x :: xs, b :: bs => if okStep t x b = true then (runT (t.nx x b) xs bs).map fun r => (r.1, t.ex :: r.2) else none
  | _, _, _ => none
theorem runT_len : ∀ {xs : List Nat} {bs : List Bool} {t t' : Tr} {out : List Nat}, runT t xs bs = some (t', out) → xs.length = bs.length ∧ out.length = xs.length
  | [], [], t, t', out, h => by cases h; exact ⟨rfl, rfl⟩
  | [], _ :: _, t, t', out, h => by cases h
  | _ :: _, [], t, t', out, h => by cases h
  | x :: xs, b :: bs, t, t', out, h => by
    unfold runT at h
    split at h
    · simp only [Option.map_eq_some_iff] at h
      obtain ⟨r, hr, h⟩ := h
      obtain ⟨h1, h2⟩ := runT_len hr
      cases h
      simp [h1, h2]
    · cases h
/-- Where all goes well. -/
def gRun (args : List Value) (H : AHeap) : Option (Value × AHeap) :=
  match args with
  | [.agg ⟨[.float .f32 l, .float .f32 s, .float .f32 a, .float .f32 b, .float .f32 c, .float .f32 n, .float .f32 d, .float .f32 u]⟩, x, y] => match rd isF x H, rd isB y H with
    | some xs, some bs => if okTr l s a b c n d u = true ∧ series xs = true then match runT ⟨l, s, a, b, c, n, d, u⟩ xs bs with
        | some (t', out) => some (.tuple ⟨[t'.val, (mkF out H).1, .bool true]⟩, (mkF out H).2)
        | none => none
      else none
    | _, _ => none
  | _ => none
theorem gRun_eq {t t' : Tr} {x y : Value} {H : AHeap} {xs out : List Nat} {bs : List Bool} (hx : rd isF x H = some xs) (hy : rd isB y H = some bs) (h1 : t.ok = true) (h2 : series xs = true) (h3 : runT t xs bs = some (t', out)) :
    gRun [t.val, x, y] H = some (.tuple ⟨[t'.val, (mkF out H).1, .bool true]⟩, (mkF out H).2) := by
  unfold gRun Tr.val
  simp only [hx, hy, h2, and_true]
  have h1' : okTr t.l t.s t.a t.b t.c t.n t.d t.u = true := h1
  rw [if_pos h1']
  have h3' : runT { l := t.l, s := t.s, a := t.a, b := t.b, c := t.c, n := t.n, d := t.d, u := t.u } xs bs = some (t', out) := h3
  rw [h3']
theorem stepB_yes {l s a b c n d u x : Nat} {seen : Bool} (h : okStep ⟨l, s, a, b, c, n, d, u⟩ x seen = true) (H : AHeap) :
    gStep [.agg ⟨[.float .f32 l, .float .f32 s, .float .f32 a, .float .f32 b, .float .f32 c, .float .f32 n, .float .f32 d, .float .f32 u]⟩, .float .f32 x, .bool seen] H =
      some (.tuple ⟨[(Tr.nx ⟨l, s, a, b, c, n, d, u⟩ x seen).val, .float .f32 (Tr.ex ⟨l, s, a, b, c, n, d, u⟩), .bool true]⟩, H) := by
  have := stepV_yes h
  show some (stepV ⟨l, s, a, b, c, n, d, u⟩ x seen, H) = _
  rw [this]
theorem loopHeap {ext : AHeap} {X A B C : Blk} {k : Nat} (h1 : 1 < ext.length) (hk2 : 2 ≤ k) (hkl : k < ext.length) :
    ((ext.set 0 X ++ [A] ++ [B]).set k .dead ++ [C])[0]? = some X ∧ ((ext.set 0 X ++ [A] ++ [B]).set k .dead ++ [C])[1]? = ext[1]? ∧ ((ext.set 0 X ++ [A] ++ [B]).set k .dead ++ [C])[ext.length + 2]? = some C := by
  refine ⟨?_, ?_, ?_⟩
  · rw [List.getElem?_append_left (by simp <;> omega), List.getElem?_set, if_neg (by omega), List.append_assoc, List.getElem?_append_left (by simp <;> omega), List.getElem?_set, if_pos rfl, if_pos (by omega)]
  · rw [List.getElem?_append_left (by simp <;> omega), List.getElem?_set, if_neg (by omega), List.append_assoc, List.getElem?_append_left (by simp <;> omega), List.getElem?_set, if_neg (by omega)]
  · have := getElem?_app_len ((ext.set 0 X ++ [A] ++ [B]).set k .dead) C
    simp
theorem snd11 {G : Env} (hG : SoundEnv [] Try.prog G) (h13 : G 13 = gValid) (h57 : G 57 = gList series) (h18 : G 18 = gStep) : Sound [] Try.prog 11 gRun := by
  refine sound_of (rs := [.cell 6 26, .tmp 7, .tmp 8]) (n := 61) hG mix Try.func11 rfl rfl rfl (by kernel_rfl) (by decide +kernel) (by decide +kernel) ?_
  intro args H r H' h
  unfold gRun at h
  split at h
  case h_2 => cases h
  rename_i l s a b c n d u x y
  split at h
  case h_2 => cases h
  rename_i xs bs hs hs'
  split at h
  case isFalse => cases h
  rename_i hok
  split at h
  case h_2 => cases h
  rename_i t' out hrun
  cases h
  obtain ⟨hlen, hout⟩ := runT_len hrun
  obtain ⟨ad, len, cp, row⟩ := rd_row hs
  cases row.eq
  obtain ⟨ad', len', cp', row'⟩ := rd_row hs'
  cases row'.eq
  have hl := row.len
  have hl' := row'.len
  have hsm : xs.length ≤ 96 := by
    have := hok.2
    simp only [series, Bool.and_eq_true, decide_eq_true_eq] at this
    exact this.2.1
  have hnn : len' = len := by omega
  subst hnn
  have hs0 : ∀ e, rd isF (.slice ad len' cp) (hp H e) = some xs := rd_hp hs
  refine ⟨by simp, ?_⟩
  simp (maxSteps := 10000000) only [↓exA, exB, exC, exN, exD, exR, tys, ↓reduceIte, Nat.reduceLT, Nat.reduceEqDiff, Nat.reduceAdd, Nat.zero_add, Nat.add_zero, List.map_cons, List.map_nil, Option.map_some, Option.map_none, Option.bind_some, List.length_cons, List.length_nil, List.cons_append, List.nil_append, List.append_nil, List.getElem?_cons_zero, List.getElem?_cons_succ, List.set_cons_zero, List.set_cons_succ, Nat.reduceLeDiff, and_self, and_true, true_and, gval, List.take_zero, List.take_succ_cons, List.drop_zero, List.drop_succ_cons, List.all_cons, List.all_nil, Bool.and_self, Bool.not_true, Bool.not_false, beq_true, beq_false, decide_true, decide_false, eq_self, Nat.reducePow, h13, gValid_eq, hok.1, hok.2, h57, gList_eq, hs0, buildF_0, build26_e]
  refine X_loop (I := fun m t K => ∃ (f : Nat → Value) (i k : Nat) (ext : AHeap) (tc : Tr) (done : List Nat), t = mk 61 f ∧ K = hp H ext ∧ f 2 = .slice ad' len' cp' ∧ f 3 = .pointer (some ⟨nb H 0, 0, none⟩) ∧ f 6 = .pointer (some ⟨nb H 1, 0, none⟩) ∧ f 9 = .slice (some ⟨nb H k, 0, none⟩) i i ∧ f 32 = .slice ad len' cp ∧ f 33 = .int .i64 len' ∧ f 34 = .int .i64 (i : Nat)
    ∧ ext[0]? = some (.live false [.float .f32 tc.l, .float .f32 tc.s, .float .f32 tc.a, .float .f32 tc.b, .float .f32 tc.c, .float .f32 tc.n, .float .f32 tc.d, .float .f32 tc.u])
    ∧ ext[1]? = some (.live false [.float .f32 0, .float .f32 0, .float .f32 0, .float .f32 0, .float .f32 0, .float .f32 0, .float .f32 0, .float .f32 0]) ∧ 2 ≤ k ∧ ext[k]? = some (.live false (done.map fun x => .float .f32 x)) ∧ done.length = i ∧ i + m = len'
    ∧ some (t', out) = (runT tc (xs.drop i) (bs.drop i)).map fun r => (r.1, done ++ r.2)) (m := len') ?_ ?_
  · rintro m t K ⟨f, i, k, ext, tc, done, rfl, rfl, f2, f3, f6, f9, f32, f33, f34, e0, e1, hk2, ek, hdone, hm, he⟩
    simp (maxSteps := 10000000) only [↓exA, exB, exC, exN, exD, exR, tys, ↓reduceIte, Nat.reduceLT, Nat.reduceEqDiff, Nat.reduceAdd, Nat.zero_add, Nat.add_zero, List.map_cons, List.map_nil, Option.map_some, Option.map_none, Option.bind_some, List.length_cons, List.length_nil, List.cons_append, List.nil_append, List.append_nil, List.getElem?_cons_zero, List.getElem?_cons_succ, List.set_cons_zero, List.set_cons_succ, Nat.reduceLeDiff, and_self, and_true, true_and, gval, List.take_zero, List.take_succ_cons, List.drop_zero, List.drop_succ_cons, List.all_cons, List.all_nil, Bool.and_self, Bool.not_true, Bool.not_false, beq_true, beq_false, decide_true, decide_false, eq_self, Nat.reducePow, f2, f3, f6, f9, f32, f33, f34]
    refine condW_intro (fun c1 => ?_) (fun c1 => ?_) <;> (try simp only [Bool.not_eq_true', Bool.not_eq_eq_eq_not, Bool.not_true, Bool.not_false, beq_true, beq_false, beq_iff_eq, beq_eq_false_iff_ne, ne_eq, Bool.not_eq_false, Bool.not_eq_true, decide_eq_true_eq, decide_eq_false_iff_not, Bool.not_not] at c1)
    · have hi : i < xs.length := by omega
      have hi' : i < bs.length := by omega
      obtain ⟨b, off, lk, cs, v, ha, hb, hv, hx⟩ := (row.hp ext).get i xs[i] (List.getElem?_eq_getElem hi)
      have hv' := isF_eq hx; subst hv'; subst ha
      obtain ⟨b', off', lk', cs', v', ha', hb', hvv, hx'⟩ := (row'.hp ext).get i bs[i] (List.getElem?_eq_getElem hi')
      have hv' := isB_eq hx'; subst hv'; subst ha'
      rw [List.drop_eq_getElem_cons hi, List.drop_eq_getElem_cons hi', runT] at he
      split at he
      case isFalse => cases he
      rename_i hstep
      have hst : ∀ H, gStep [.agg ⟨[.float .f32 tc.l, .float .f32 tc.s, .float .f32 tc.a, .float .f32 tc.b, .float .f32 tc.c, .float .f32 tc.n, .float .f32 tc.d, .float .f32 tc.u]⟩, .float .f32 xs[i], .bool bs[i]] H = some (.tuple ⟨[(tc.nx xs[i] bs[i]).val, .float .f32 tc.ex, .bool true]⟩, H) := fun H => stepB_yes (l := tc.l) (s := tc.s) (a := tc.a) (b := tc.b) (c := tc.c) (n := tc.n) (d := tc.d) (u := tc.u) hstep H
      generalize tc.nx xs[i] bs[i] = tn at hst he
      have hl0 : 0 < ext.length := (List.getElem?_eq_some_iff.1 e0).1
      have g0 : ∀ l, (ext ++ l)[0]? = some (.live false [.float .f32 tc.l, .float .f32 tc.s, .float .f32 tc.a, .float .f32 tc.b, .float .f32 tc.c, .float .f32 tc.n, .float .f32 tc.d, .float .f32 tc.u]) := fun l => by rw [List.getElem?_append_left hl0]; exact e0
      have g1 : ∀ l y, (ext ++ l).set 0 y = ext.set 0 y ++ l := fun l y => List.set_append_left _ _ hl0
      have g2 : ∀ y z, (ext.set 0 y ++ [z])[ext.length]? = some z := fun y z => by simp
      simp (maxSteps := 10000000) only [↓exA, exB, exC, exN, exD, exR, tys, ↓reduceIte, Nat.reduceLT, Nat.reduceEqDiff, Nat.reduceAdd, Nat.zero_add, Nat.add_zero, List.map_cons, List.map_nil, Option.map_some, Option.map_none, Option.bind_some, List.length_cons, List.length_nil, List.cons_append, List.nil_append, List.append_nil, List.getElem?_cons_zero, List.getElem?_cons_succ, List.set_cons_zero, List.set_cons_succ, Nat.reduceLeDiff, and_self, and_true, true_and, gval, List.take_zero, List.take_succ_cons, List.drop_zero, List.drop_succ_cons, List.all_cons, List.all_nil, Bool.and_self, Bool.not_true, Bool.not_false, beq_true, beq_false, decide_true, decide_false, eq_self, Nat.reducePow, f2, f3, f6, f9, f32, f33, f34, c1, Int.natCast_nonneg, Int.toNat_natCast, hb, hv, hb', hvv, h18, hst, Tr.val, e0, getElem?_app_len, set_app_len, g0, g1, g2, buildF_1, List.length_set, List.length_append]
      have hkl : k < ext.length := (List.getElem?_eq_some_iff.1 ek).1
      have h1l : 1 < ext.length := (List.getElem?_eq_some_iff.1 e1).1
      refine andR_of (append_one row_29 row_29 (cs := done.map fun x => .float .f32 x) (v := .float .f32 tc.ex) ?_ ?_ ?_ rfl ?_ _ _) ?_
      · rw [List.append_assoc, List.getElem?_append_left (by simpa using hkl), List.getElem?_set, if_neg (by omega)]; exact ek
      · simp [hdone]
      · have := getElem?_app_len (ext.set 0 (.live false [.float .f32 tn.l, .float .f32 tn.s, .float .f32 tn.a, .float .f32 tn.b, .float .f32 tn.c, .float .f32 tn.n, .float .f32 tn.d, .float .f32 tn.u]) ++ [.live false [.float .f32 tn.l, .float .f32 tn.s, .float .f32 tn.a, .float .f32 tn.b, .float .f32 tn.c, .float .f32 tn.n, .float .f32 tn.d, .float .f32 tn.u]]) (.live false [.float .f32 tc.ex])
        simp
      · omega
      simp (maxSteps := 10000000) only [↓exA, exB, exC, exN, exD, exR, tys, ↓reduceIte, Nat.reduceLT, Nat.reduceEqDiff, Nat.reduceAdd, Nat.zero_add, Nat.add_zero, List.map_cons, List.map_nil, Option.map_some, Option.map_none, Option.bind_some, List.length_cons, List.length_nil, List.cons_append, List.nil_append, List.append_nil, List.getElem?_cons_zero, List.getElem?_cons_succ, List.set_cons_zero, List.set_cons_succ, Nat.reduceLeDiff, and_self, and_true, true_and, gval, List.take_zero, List.take_succ_cons, List.drop_zero, List.drop_succ_cons, List.all_cons, List.all_nil, Bool.and_self, Bool.not_true, Bool.not_false, beq_true, beq_false, decide_true, decide_false, eq_self, Nat.reducePow, f34]
      refine ⟨m - 1, by omega, _, i + 1, ext.length + 2, _, tn, done ++ [tc.ex], rfl, rfl, ?_, ?_, ?_, ?_, ?_, ?_, ?_, ?_, ?_, by omega, ?_, by simp [hdone], by omega, ?_⟩
      · simp (maxSteps := 10000000) only [↓exA, exB, exC, exN, exD, exR, tys, ↓reduceIte, Nat.reduceLT, Nat.reduceEqDiff, Nat.reduceAdd, Nat.zero_add, Nat.add_zero, List.map_cons, List.map_nil, Option.map_some, Option.map_none, Option.bind_some, List.length_cons, List.length_nil, List.cons_append, List.nil_append, List.append_nil, List.getElem?_cons_zero, List.getElem?_cons_succ, List.set_cons_zero, List.set_cons_succ, Nat.reduceLeDiff, and_self, and_true, true_and, gval, List.take_zero, List.take_succ_cons, List.drop_zero, List.drop_succ_cons, List.all_cons, List.all_nil, Bool.and_self, Bool.not_true, Bool.not_false, beq_true, beq_false, decide_true, decide_false, eq_self, Nat.reducePow, f2]
      · simp (maxSteps := 10000000) only [↓exA, exB, exC, exN, exD, exR, tys, ↓reduceIte, Nat.reduceLT, Nat.reduceEqDiff, Nat.reduceAdd, Nat.zero_add, Nat.add_zero, List.map_cons, List.map_nil, Option.map_some, Option.map_none, Option.bind_some, List.length_cons, List.length_nil, List.cons_append, List.nil_append, List.append_nil, List.getElem?_cons_zero, List.getElem?_cons_succ, List.set_cons_zero, List.set_cons_succ, Nat.reduceLeDiff, and_self, and_true, true_and, gval, List.take_zero, List.take_succ_cons, List.drop_zero, List.drop_succ_cons, List.all_cons, List.all_nil, Bool.and_self, Bool.not_true, Bool.not_false, beq_true, beq_false, decide_true, decide_false, eq_self, Nat.reducePow, f3]
      · simp (maxSteps := 10000000) only [↓exA, exB, exC, exN, exD, exR, tys, ↓reduceIte, Nat.reduceLT, Nat.reduceEqDiff, Nat.reduceAdd, Nat.zero_add, Nat.add_zero, List.map_cons, List.map_nil, Option.map_some, Option.map_none, Option.bind_some, List.length_cons, List.length_nil, List.cons_append, List.nil_append, List.append_nil, List.getElem?_cons_zero, List.getElem?_cons_succ, List.set_cons_zero, List.set_cons_succ, Nat.reduceLeDiff, and_self, and_true, true_and, gval, List.take_zero, List.take_succ_cons, List.drop_zero, List.drop_succ_cons, List.all_cons, List.all_nil, Bool.and_self, Bool.not_true, Bool.not_false, beq_true, beq_false, decide_true, decide_false, eq_self, Nat.reducePow, f6]
      · simp (maxSteps := 10000000) only [↓exA, exB, exC, exN, exD, exR, tys, ↓reduceIte, Nat.reduceLT, Nat.reduceEqDiff, Nat.reduceAdd, Nat.zero_add, Nat.add_zero, List.map_cons, List.map_nil, Option.map_some, Option.map_none, Option.bind_some, List.length_cons, List.length_nil, List.cons_append, List.nil_append, List.append_nil, List.getElem?_cons_zero, List.getElem?_cons_succ, List.set_cons_zero, List.set_cons_succ, Nat.reduceLeDiff, and_self, and_true, true_and, gval, List.take_zero, List.take_succ_cons, List.drop_zero, List.drop_succ_cons, List.all_cons, List.all_nil, Bool.and_self, Bool.not_true, Bool.not_false, beq_true, beq_false, decide_true, decide_false, eq_self, Nat.reducePow]
        simp
      · simp (maxSteps := 10000000) only [↓exA, exB, exC, exN, exD, exR, tys, ↓reduceIte, Nat.reduceLT, Nat.reduceEqDiff, Nat.reduceAdd, Nat.zero_add, Nat.add_zero, List.map_cons, List.map_nil, Option.map_some, Option.map_none, Option.bind_some, List.length_cons, List.length_nil, List.cons_append, List.nil_append, List.append_nil, List.getElem?_cons_zero, List.getElem?_cons_succ, List.set_cons_zero, List.set_cons_succ, Nat.reduceLeDiff, and_self, and_true, true_and, gval, List.take_zero, List.take_succ_cons, List.drop_zero, List.drop_succ_cons, List.all_cons, List.all_nil, Bool.and_self, Bool.not_true, Bool.not_false, beq_true, beq_false, decide_true, decide_false, eq_self, Nat.reducePow, f32]
      · simp (maxSteps := 10000000) only [↓exA, exB, exC, exN, exD, exR, tys, ↓reduceIte, Nat.reduceLT, Nat.reduceEqDiff, Nat.reduceAdd, Nat.zero_add, Nat.add_zero, List.map_cons, List.map_nil, Option.map_some, Option.map_none, Option.bind_some, List.length_cons, List.length_nil, List.cons_append, List.nil_append, List.append_nil, List.getElem?_cons_zero, List.getElem?_cons_succ, List.set_cons_zero, List.set_cons_succ, Nat.reduceLeDiff, and_self, and_true, true_and, gval, List.take_zero, List.take_succ_cons, List.drop_zero, List.drop_succ_cons, List.all_cons, List.all_nil, Bool.and_self, Bool.not_true, Bool.not_false, beq_true, beq_false, decide_true, decide_false, eq_self, Nat.reducePow, f33]
      · simp (maxSteps := 10000000) only [↓exA, exB, exC, exN, exD, exR, tys, ↓reduceIte, Nat.reduceLT, Nat.reduceEqDiff, Nat.reduceAdd, Nat.zero_add, Nat.add_zero, List.map_cons, List.map_nil, Option.map_some, Option.map_none, Option.bind_some, List.length_cons, List.length_nil, List.cons_append, List.nil_append, List.append_nil, List.getElem?_cons_zero, List.getElem?_cons_succ, List.set_cons_zero, List.set_cons_succ, Nat.reduceLeDiff, and_self, and_true, true_and, gval, List.take_zero, List.take_succ_cons, List.drop_zero, List.drop_succ_cons, List.all_cons, List.all_nil, Bool.and_self, Bool.not_true, Bool.not_false, beq_true, beq_false, decide_true, decide_false, eq_self, Nat.reducePow]
        rw [wrap_i64 (by omega) (by omega)]; simp
      · exact (loopHeap h1l hk2 hkl).1
      · rw [(loopHeap h1l hk2 hkl).2.1]; exact e1
      · rw [(loopHeap h1l hk2 hkl).2.2]; simp
      · rw [he, Option.map_map]; simp [Function.comp_def]
    · simp (maxSteps := 10000000) only [↓exA, exB, exC, exN, exD, exR, tys, ↓reduceIte, Nat.reduceLT, Nat.reduceEqDiff, Nat.reduceAdd, Nat.zero_add, Nat.add_zero, List.map_cons, List.map_nil, Option.map_some, Option.map_none, Option.bind_some, List.length_cons, List.length_nil, List.cons_append, List.nil_append, List.append_nil, List.getElem?_cons_zero, List.getElem?_cons_succ, List.set_cons_zero, List.set_cons_succ, Nat.reduceLeDiff, and_self, and_true, true_and, gval, List.take_zero, List.take_succ_cons, List.drop_zero, List.drop_succ_cons, List.all_cons, List.all_nil, Bool.and_self, Bool.not_true, Bool.not_false, beq_true, beq_false, decide_true, decide_false, eq_self, Nat.reducePow, f2, f3, f6, f9, f32, f33, f34, e0, e1]
      have h1l : 1 < ext.length := (List.getElem?_eq_some_iff.1 e1).1
      have g : ∀ y, (ext.set 1 y)[1]? = some y := fun y => by rw [List.getElem?_set]; simp [h1l]
      simp (maxSteps := 10000000) only [↓exA, exB, exC, exN, exD, exR, tys, ↓reduceIte, Nat.reduceLT, Nat.reduceEqDiff, Nat.reduceAdd, Nat.zero_add, Nat.add_zero, List.map_cons, List.map_nil, Option.map_some, Option.map_none, Option.bind_some, List.length_cons, List.length_nil, List.cons_append, List.nil_append, List.append_nil, List.getElem?_cons_zero, List.getElem?_cons_succ, List.set_cons_zero, List.set_cons_succ, Nat.reduceLeDiff, and_self, and_true, true_and, gval, List.take_zero, List.take_succ_cons, List.drop_zero, List.drop_succ_cons, List.all_cons, List.all_nil, Bool.and_self, Bool.not_true, Bool.not_false, beq_true, beq_false, decide_true, decide_false, eq_self, Nat.reducePow, g]
      have hd : xs.drop i = [] := by rw [List.drop_eq_nil_iff]; omega
      have hd' : bs.drop i = [] := by rw [List.drop_eq_nil_iff]; omega
      rw [hd, hd', runT] at he
      simp only [Option.map_some, Option.some.injEq, Prod.mk.injEq, List.append_nil] at he
      obtain ⟨rfl, rfl⟩ := he
      have ek' : (ext.set 1 (.live false [.float .f32 t'.l, .float .f32 t'.s, .float .f32 t'.a, .float .f32 t'.b, .float .f32 t'.c, .float .f32 t'.n, .float .f32 t'.d, .float .f32 t'.u]))[k]? = some (.live false (out.map fun x => .float .f32 x)) := by
        rw [List.getElem?_set, if_neg (by omega)]; exact ek
      rw [hdone.symm]
      exact fits_row ek' (bareL_F out) (.tuple (.cons (.same rfl) (.cons (RV.new_slice (i := 0) rfl) (.cons (.same rfl) .nil))))
  · refine ⟨_, 0, 2, _, ⟨l, s, a, b, c, n, d, u⟩, [], rfl, rfl, ?_, ?_, ?_, ?_, ?_, ?_, ?_, rfl, rfl, by omega, rfl, rfl, by omega, ?_⟩
    all_goals (try simp (maxSteps := 10000000) only [↓exA, exB, exC, exN, exD, exR, tys, ↓reduceIte, Nat.reduceLT, Nat.reduceEqDiff, Nat.reduceAdd, Nat.zero_add, Nat.add_zero, List.map_cons, List.map_nil, Option.map_some, Option.map_none, Option.bind_some, List.length_cons, List.length_nil, List.cons_append, List.nil_append, List.append_nil, List.getElem?_cons_zero, List.getElem?_cons_succ, List.set_cons_zero, List.set_cons_succ, Nat.reduceLeDiff, and_self, and_true, true_and, gval, List.take_zero, List.take_succ_cons, List.drop_zero, List.drop_succ_cons, List.all_cons, List.all_nil, Bool.and_self, Bool.not_true, Bool.not_false, beq_true, beq_false, decide_true, decide_false, eq_self, Nat.reducePow])
    · rfl
    · rw [hrun]; simp
theorem snd12 {G : Env} (hG : SoundEnv [] Try.prog G) (h58 : G 58 = gValidS) (h59 : G 59 = gSeen) (h19 : G 19 = gStep) : Sound [] Try.prog 12 gRun := by
  refine sound_of (rs := [.cell 6 26, .tmp 7, .tmp 8]) (n := 54) hG mix Try.func12 rfl rfl rfl (by kernel_rfl) (by decide +kernel) (by decide +kernel) ?_
  intro args H r H' h
  unfold gRun at h
  split at h
  case h_2 => cases h
  rename_i l s a b c n d u x y
  split at h
  case h_2 => cases h
  rename_i xs bs hs hs'
  split at h
  case isFalse => cases h
  rename_i hok
  split at h
  case h_2 => cases h
  rename_i t' out hrun
  cases h
  obtain ⟨hlen, hout⟩ := runT_len hrun
  obtain ⟨ad, len, cp, row⟩ := rd_row hs
  cases row.eq
  obtain ⟨ad', len', cp', row'⟩ := rd_row hs'
  cases row'.eq
  have hl := row.len
  have hl' := row'.len
  have hsm : xs.length ≤ 96 := by
    have := hok.2
    simp only [series, Bool.and_eq_true, decide_eq_true_eq] at this
    exact this.2.1
  have hnn : len' = len := by omega
  subst hnn
  have hs0 : ∀ e, rd isF (.slice ad len' cp) (hp H e) = some xs := rd_hp hs
  refine ⟨by simp, ?_⟩
  have hseen : ∀ e, gSeen [.slice ad len' cp, .slice ad' len' cp'] (hp H e) = some (.bool true, hp H e) := by
    intro e
    rw [gSeen_eq (rd_hp hs e) (rd_hp hs' e), hok.2, hlen]
    simp
  simp (maxSteps := 10000000) only [↓exA, exB, exC, exN, exD, exR, tys, ↓reduceIte, Nat.reduceLT, Nat.reduceEqDiff, Nat.reduceAdd, Nat.zero_add, Nat.add_zero, List.map_cons, List.map_nil, Option.map_some, Option.map_none, Option.bind_some, List.length_cons, List.length_nil, List.cons_append, List.nil_append, List.append_nil, List.getElem?_cons_zero, List.getElem?_cons_succ, List.set_cons_zero, List.set_cons_succ, Nat.reduceLeDiff, and_self, and_true, true_and, gval, List.take_zero, List.take_succ_cons, List.drop_zero, List.drop_succ_cons, List.all_cons, List.all_nil, Bool.and_self, Bool.not_true, Bool.not_false, beq_true, beq_false, decide_true, decide_false, eq_self, Nat.reducePow, h58, gValidS_def, validB_eq, hok.1, hok.2, h59, hseen, buildF_0, build26_e]
  refine X_loop (I := fun m t K => ∃ (f : Nat → Value) (i k : Nat) (ext : AHeap) (tc : Tr) (done : List Nat), t = mk 54 f ∧ K = hp H ext ∧ f 2 = .slice ad' len' cp' ∧ f 3 = .pointer (some ⟨nb H 0, 0, none⟩) ∧ f 6 = .pointer (some ⟨nb H 1, 0, none⟩) ∧ f 9 = .slice (some ⟨nb H k, 0, none⟩) i i ∧ f 1 = .slice ad len' cp ∧ f 25 = .int .i64 len' ∧ f 26 = .int .i64 (i : Nat)
    ∧ ext[0]? = some (.live false [.float .f32 tc.l, .float .f32 tc.s, .float .f32 tc.a, .float .f32 tc.b, .float .f32 tc.c, .float .f32 tc.n, .float .f32 tc.d, .float .f32 tc.u])
    ∧ ext[1]? = some (.live false [.float .f32 0, .float .f32 0, .float .f32 0, .float .f32 0, .float .f32 0, .float .f32 0, .float .f32 0, .float .f32 0]) ∧ 2 ≤ k ∧ ext[k]? = some (.live false (done.map fun x => .float .f32 x)) ∧ done.length = i ∧ i + m = len'
    ∧ some (t', out) = (runT tc (xs.drop i) (bs.drop i)).map fun r => (r.1, done ++ r.2)) (m := len') ?_ ?_
  · rintro m t K ⟨f, i, k, ext, tc, done, rfl, rfl, f2, f3, f6, f9, f32, f33, f34, e0, e1, hk2, ek, hdone, hm, he⟩
    simp (maxSteps := 10000000) only [↓exA, exB, exC, exN, exD, exR, tys, ↓reduceIte, Nat.reduceLT, Nat.reduceEqDiff, Nat.reduceAdd, Nat.zero_add, Nat.add_zero, List.map_cons, List.map_nil, Option.map_some, Option.map_none, Option.bind_some, List.length_cons, List.length_nil, List.cons_append, List.nil_append, List.append_nil, List.getElem?_cons_zero, List.getElem?_cons_succ, List.set_cons_zero, List.set_cons_succ, Nat.reduceLeDiff, and_self, and_true, true_and, gval, List.take_zero, List.take_succ_cons, List.drop_zero, List.drop_succ_cons, List.all_cons, List.all_nil, Bool.and_self, Bool.not_true, Bool.not_false, beq_true, beq_false, decide_true, decide_false, eq_self, Nat.reducePow, f2, f3, f6, f9, f32, f33, f34]
    refine condW_intro (fun c1 => ?_) (fun c1 => ?_) <;> (try simp only [Bool.not_eq_true', Bool.not_eq_eq_eq_not, Bool.not_true, Bool.not_false, beq_true, beq_false, beq_iff_eq, beq_eq_false_iff_ne, ne_eq, Bool.not_eq_false, Bool.not_eq_true, decide_eq_true_eq, decide_eq_false_iff_not, Bool.not_not] at c1)
    · have hi : i < xs.length := by omega
      have hi' : i < bs.length := by omega
      obtain ⟨b, off, lk, cs, v, ha, hb, hv, hx⟩ := (row.hp ext).get i xs[i] (List.getElem?_eq_getElem hi)
      have hv' := isF_eq hx; subst hv'; subst ha
      obtain ⟨b', off', lk', cs', v', ha', hb', hvv, hx'⟩ := (row'.hp ext).get i bs[i] (List.getElem?_eq_getElem hi')
      have hv' := isB_eq hx'; subst hv'; subst ha'
      rw [List.drop_eq_getElem_cons hi, List.drop_eq_getElem_cons hi', runT] at he
      split at he
      case isFalse => cases he
      rename_i hstep
      have hst : ∀ H, gStep [.agg ⟨[.float .f32 tc.l, .float .f32 tc.s, .float .f32 tc.a, .float .f32 tc.b, .float .f32 tc.c, .float .f32 tc.n, .float .f32 tc.d, .float .f32 tc.u]⟩, .float .f32 xs[i], .bool bs[i]] H = some (.tuple ⟨[(tc.nx xs[i] bs[i]).val, .float .f32 tc.ex, .bool true]⟩, H) := fun H => stepB_yes (l := tc.l) (s := tc.s) (a := tc.a) (b := tc.b) (c := tc.c) (n := tc.n) (d := tc.d) (u := tc.u) hstep H
      generalize tc.nx xs[i] bs[i] = tn at hst he
      have hl0 : 0 < ext.length := (List.getElem?_eq_some_iff.1 e0).1
      have g0 : ∀ l, (ext ++ l)[0]? = some (.live false [.float .f32 tc.l, .float .f32 tc.s, .float .f32 tc.a, .float .f32 tc.b, .float .f32 tc.c, .float .f32 tc.n, .float .f32 tc.d, .float .f32 tc.u]) := fun l => by rw [List.getElem?_append_left hl0]; exact e0
      have g1 : ∀ l y, (ext ++ l).set 0 y = ext.set 0 y ++ l := fun l y => List.set_append_left _ _ hl0
      have g2 : ∀ y z, (ext.set 0 y ++ [z])[ext.length]? = some z := fun y z => by simp
      simp (maxSteps := 10000000) only [↓exA, exB, exC, exN, exD, exR, tys, ↓reduceIte, Nat.reduceLT, Nat.reduceEqDiff, Nat.reduceAdd, Nat.zero_add, Nat.add_zero, List.map_cons, List.map_nil, Option.map_some, Option.map_none, Option.bind_some, List.length_cons, List.length_nil, List.cons_append, List.nil_append, List.append_nil, List.getElem?_cons_zero, List.getElem?_cons_succ, List.set_cons_zero, List.set_cons_succ, Nat.reduceLeDiff, and_self, and_true, true_and, gval, List.take_zero, List.take_succ_cons, List.drop_zero, List.drop_succ_cons, List.all_cons, List.all_nil, Bool.and_self, Bool.not_true, Bool.not_false, beq_true, beq_false, decide_true, decide_false, eq_self, Nat.reducePow, f2, f3, f6, f9, f32, f33, f34, c1, Int.natCast_nonneg, Int.toNat_natCast, hb, hv, hb', hvv, h19, hst, Tr.val, e0, getElem?_app_len, set_app_len, g0, g1, g2, buildF_1, List.length_set, List.length_append]
      have hkl : k < ext.length := (List.getElem?_eq_some_iff.1 ek).1
      have h1l : 1 < ext.length := (List.getElem?_eq_some_iff.1 e1).1
      refine andR_of (append_one row_29 row_29 (cs := done.map fun x => .float .f32 x) (v := .float .f32 tc.ex) ?_ ?_ ?_ rfl ?_ _ _) ?_
      · rw [List.append_assoc, List.getElem?_append_left (by simpa using hkl), List.getElem?_set, if_neg (by omega)]; exact ek
      · simp [hdone]
      · have := getElem?_app_len (ext.set 0 (.live false [.float .f32 tn.l, .float .f32 tn.s, .float .f32 tn.a, .float .f32 tn.b, .float .f32 tn.c, .float .f32 tn.n, .float .f32 tn.d, .float .f32 tn.u]) ++ [.live false [.float .f32 tn.l, .float .f32 tn.s, .float .f32 tn.a, .float .f32 tn.b, .float .f32 tn.c, .float .f32 tn.n, .float .f32 tn.d, .float .f32 tn.u]]) (.live false [.float .f32 tc.ex])
        simp
      · omega
      simp (maxSteps := 10000000) only [↓exA, exB, exC, exN, exD, exR, tys, ↓reduceIte, Nat.reduceLT, Nat.reduceEqDiff, Nat.reduceAdd, Nat.zero_add, Nat.add_zero, List.map_cons, List.map_nil, Option.map_some, Option.map_none, Option.bind_some, List.length_cons, List.length_nil, List.cons_append, List.nil_append, List.append_nil, List.getElem?_cons_zero, List.getElem?_cons_succ, List.set_cons_zero, List.set_cons_succ, Nat.reduceLeDiff, and_self, and_true, true_and, gval, List.take_zero, List.take_succ_cons, List.drop_zero, List.drop_succ_cons, List.all_cons, List.all_nil, Bool.and_self, Bool.not_true, Bool.not_false, beq_true, beq_false, decide_true, decide_false, eq_self, Nat.reducePow, f34]
      refine ⟨m - 1, by omega, _, i + 1, ext.length + 2, _, tn, done ++ [tc.ex], rfl, rfl, ?_, ?_, ?_, ?_, ?_, ?_, ?_, ?_, ?_, by omega, ?_, by simp [hdone], by omega, ?_⟩
      · simp (maxSteps := 10000000) only [↓exA, exB, exC, exN, exD, exR, tys, ↓reduceIte, Nat.reduceLT, Nat.reduceEqDiff, Nat.reduceAdd, Nat.zero_add, Nat.add_zero, List.map_cons, List.map_nil, Option.map_some, Option.map_none, Option.bind_some, List.length_cons, List.length_nil, List.cons_append, List.nil_append, List.append_nil, List.getElem?_cons_zero, List.getElem?_cons_succ, List.set_cons_zero, List.set_cons_succ, Nat.reduceLeDiff, and_self, and_true, true_and, gval, List.take_zero, List.take_succ_cons, List.drop_zero, List.drop_succ_cons, List.all_cons, List.all_nil, Bool.and_self, Bool.not_true, Bool.not_false, beq_true, beq_false, decide_true, decide_false, eq_self, Nat.reducePow, f2]
      · simp (maxSteps := 10000000) only [↓exA, exB, exC, exN, exD, exR, tys, ↓reduceIte, Nat.reduceLT, Nat.reduceEqDiff, Nat.reduceAdd, Nat.zero_add, Nat.add_zero, List.map_cons, List.map_nil, Option.map_some, Option.map_none, Option.bind_some, List.length_cons, List.length_nil, List.cons_append, List.nil_append, List.append_nil, List.getElem?_cons_zero, List.getElem?_cons_succ, List.set_cons_zero, List.set_cons_succ, Nat.reduceLeDiff, and_self, and_true, true_and, gval, List.take_zero, List.take_succ_cons, List.drop_zero, List.drop_succ_cons, List.all_cons, List.all_nil, Bool.and_self, Bool.not_true, Bool.not_false, beq_true, beq_false, decide_true, decide_false, eq_self, Nat.reducePow, f3]
      · simp (maxSteps := 10000000) only [↓exA, exB, exC, exN, exD, exR, tys, ↓reduceIte, Nat.reduceLT, Nat.reduceEqDiff, Nat.reduceAdd, Nat.zero_add, Nat.add_zero, List.map_cons, List.map_nil, Option.map_some, Option.map_none, Option.bind_some, List.length_cons, List.length_nil, List.cons_append, List.nil_append, List.append_nil, List.getElem?_cons_zero, List.getElem?_cons_succ, List.set_cons_zero, List.set_cons_succ, Nat.reduceLeDiff, and_self, and_true, true_and, gval, List.take_zero, List.take_succ_cons, List.drop_zero, List.drop_succ_cons, List.all_cons, List.all_nil, Bool.and_self, Bool.not_true, Bool.not_false, beq_true, beq_false, decide_true, decide_false, eq_self, Nat.reducePow, f6]
      · simp (maxSteps := 10000000) only [↓exA, exB, exC, exN, exD, exR, tys, ↓reduceIte, Nat.reduceLT, Nat.reduceEqDiff, Nat.reduceAdd, Nat.zero_add, Nat.add_zero, List.map_cons, List.map_nil, Option.map_some, Option.map_none, Option.bind_some, List.length_cons, List.length_nil, List.cons_append, List.nil_append, List.append_nil, List.getElem?_cons_zero, List.getElem?_cons_succ, List.set_cons_zero, List.set_cons_succ, Nat.reduceLeDiff, and_self, and_true, true_and, gval, List.take_zero, List.take_succ_cons, List.drop_zero, List.drop_succ_cons, List.all_cons, List.all_nil, Bool.and_self, Bool.not_true, Bool.not_false, beq_true, beq_false, decide_true, decide_false, eq_self, Nat.reducePow]
        simp
      · simp (maxSteps := 10000000) only [↓exA, exB, exC, exN, exD, exR, tys, ↓reduceIte, Nat.reduceLT, Nat.reduceEqDiff, Nat.reduceAdd, Nat.zero_add, Nat.add_zero, List.map_cons, List.map_nil, Option.map_some, Option.map_none, Option.bind_some, List.length_cons, List.length_nil, List.cons_append, List.nil_append, List.append_nil, List.getElem?_cons_zero, List.getElem?_cons_succ, List.set_cons_zero, List.set_cons_succ, Nat.reduceLeDiff, and_self, and_true, true_and, gval, List.take_zero, List.take_succ_cons, List.drop_zero, List.drop_succ_cons, List.all_cons, List.all_nil, Bool.and_self, Bool.not_true, Bool.not_false, beq_true, beq_false, decide_true, decide_false, eq_self, Nat.reducePow, f32]
      · simp (maxSteps := 10000000) only [↓exA, exB, exC, exN, exD, exR, tys, ↓reduceIte, Nat.reduceLT, Nat.reduceEqDiff, Nat.reduceAdd, Nat.zero_add, Nat.add_zero, List.map_cons, List.map_nil, Option.map_some, Option.map_none, Option.bind_some, List.length_cons, List.length_nil, List.cons_append, List.nil_append, List.append_nil, List.getElem?_cons_zero, List.getElem?_cons_succ, List.set_cons_zero, List.set_cons_succ, Nat.reduceLeDiff, and_self, and_true, true_and, gval, List.take_zero, List.take_succ_cons, List.drop_zero, List.drop_succ_cons, List.all_cons, List.all_nil, Bool.and_self, Bool.not_true, Bool.not_false, beq_true, beq_false, decide_true, decide_false, eq_self, Nat.reducePow, f33]
      · simp (maxSteps := 10000000) only [↓exA, exB, exC, exN, exD, exR, tys, ↓reduceIte, Nat.reduceLT, Nat.reduceEqDiff, Nat.reduceAdd, Nat.zero_add, Nat.add_zero, List.map_cons, List.map_nil, Option.map_some, Option.map_none, Option.bind_some, List.length_cons, List.length_nil, List.cons_append, List.nil_append, List.append_nil, List.getElem?_cons_zero, List.getElem?_cons_succ, List.set_cons_zero, List.set_cons_succ, Nat.reduceLeDiff, and_self, and_true, true_and, gval, List.take_zero, List.take_succ_cons, List.drop_zero, List.drop_succ_cons, List.all_cons, List.all_nil, Bool.and_self, Bool.not_true, Bool.not_false, beq_true, beq_false, decide_true, decide_false, eq_self, Nat.reducePow]
        rw [wrap_i64 (by omega) (by omega)]; simp
      · exact (loopHeap h1l hk2 hkl).1
      · rw [(loopHeap h1l hk2 hkl).2.1]; exact e1
      · rw [(loopHeap h1l hk2 hkl).2.2]; simp
      · rw [he, Option.map_map]; simp [Function.comp_def]
    · simp (maxSteps := 10000000) only [↓exA, exB, exC, exN, exD, exR, tys, ↓reduceIte, Nat.reduceLT, Nat.reduceEqDiff, Nat.reduceAdd, Nat.zero_add, Nat.add_zero, List.map_cons, List.map_nil, Option.map_some, Option.map_none, Option.bind_some, List.length_cons, List.length_nil, List.cons_append, List.nil_append, List.append_nil, List.getElem?_cons_zero, List.getElem?_cons_succ, List.set_cons_zero, List.set_cons_succ, Nat.reduceLeDiff, and_self, and_true, true_and, gval, List.take_zero, List.take_succ_cons, List.drop_zero, List.drop_succ_cons, List.all_cons, List.all_nil, Bool.and_self, Bool.not_true, Bool.not_false, beq_true, beq_false, decide_true, decide_false, eq_self, Nat.reducePow, f2, f3, f6, f9, f32, f33, f34, e0, e1]
      have h1l : 1 < ext.length := (List.getElem?_eq_some_iff.1 e1).1
      have g : ∀ y, (ext.set 1 y)[1]? = some y := fun y => by rw [List.getElem?_set]; simp [h1l]
      simp (maxSteps := 10000000) only [↓exA, exB, exC, exN, exD, exR, tys, ↓reduceIte, Nat.reduceLT, Nat.reduceEqDiff, Nat.reduceAdd, Nat.zero_add, Nat.add_zero, List.map_cons, List.map_nil, Option.map_some, Option.map_none, Option.bind_some, List.length_cons, List.length_nil, List.cons_append, List.nil_append, List.append_nil, List.getElem?_cons_zero, List.getElem?_cons_succ, List.set_cons_zero, List.set_cons_succ, Nat.reduceLeDiff, and_self, and_true, true_and, gval, List.take_zero, List.take_succ_cons, List.drop_zero, List.drop_succ_cons, List.all_cons, List.all_nil, Bool.and_self, Bool.not_true, Bool.not_false, beq_true, beq_false, decide_true, decide_false, eq_self, Nat.reducePow, g]
      have hd : xs.drop i = [] := by rw [List.drop_eq_nil_iff]; omega
      have hd' : bs.drop i = [] := by rw [List.drop_eq_nil_iff]; omega
      rw [hd, hd', runT] at he
      simp only [Option.map_some, Option.some.injEq, Prod.mk.injEq, List.append_nil] at he
      obtain ⟨rfl, rfl⟩ := he
      have ek' : (ext.set 1 (.live false [.float .f32 t'.l, .float .f32 t'.s, .float .f32 t'.a, .float .f32 t'.b, .float .f32 t'.c, .float .f32 t'.n, .float .f32 t'.d, .float .f32 t'.u]))[k]? = some (.live false (out.map fun x => .float .f32 x)) := by
        rw [List.getElem?_set, if_neg (by omega)]; exact ek
      rw [hdone.symm]
      exact fits_row ek' (bareL_F out) (.tuple (.cons (.same rfl) (.cons (RV.new_slice (i := 0) rfl) (.cons (.same rfl) .nil))))
  · refine ⟨_, 0, 2, _, ⟨l, s, a, b, c, n, d, u⟩, [], rfl, rfl, ?_, ?_, ?_, ?_, ?_, ?_, ?_, rfl, rfl, by omega, rfl, rfl, by omega, ?_⟩
    all_goals (try simp (maxSteps := 10000000) only [↓exA, exB, exC, exN, exD, exR, tys, ↓reduceIte, Nat.reduceLT, Nat.reduceEqDiff, Nat.reduceAdd, Nat.zero_add, Nat.add_zero, List.map_cons, List.map_nil, Option.map_some, Option.map_none, Option.bind_some, List.length_cons, List.length_nil, List.cons_append, List.nil_append, List.append_nil, List.getElem?_cons_zero, List.getElem?_cons_succ, List.set_cons_zero, List.set_cons_succ, Nat.reduceLeDiff, and_self, and_true, true_and, gval, List.take_zero, List.take_succ_cons, List.drop_zero, List.drop_succ_cons, List.all_cons, List.all_nil, Bool.and_self, Bool.not_true, Bool.not_false, beq_true, beq_false, decide_true, decide_false, eq_self, Nat.reducePow])
    · rfl
    · rw [hrun]; simp

end Go.Proofs.Ytnhhdgopgecggaa.Abs
