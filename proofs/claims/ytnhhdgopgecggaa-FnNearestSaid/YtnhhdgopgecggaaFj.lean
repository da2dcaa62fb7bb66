/- What the numbers that come, of a trend, are. No condition. -/
import Derived.Test.YtnhhdgopgecggaaFi
set_option linter.unusedVariables false
set_option linter.unusedSimpArgs false
set_option maxRecDepth 100000
set_option maxHeartbeats 4000000
namespace Go.Proofs.Ytnhhdgopgecggaa.Abs
open Go

def aheadX (t : Tr) (k : Nat) : Nat := fbin .add .f32 t.l (fbin .mul .f32 (i32f ((k : Int) + 1)) t.s)
def aheadL (t : Tr) (n : Nat) : List Nat := (List.range n).map (aheadX t)
/-- Where all goes well. -/
def gAhead (args : List Value) (H : AHeap) : Option (Value × AHeap) :=
  match args with
  | [.agg ⟨[.float .f32 l, .float .f32 s, .float .f32 a, .float .f32 b, .float .f32 c, .float .f32 n, .float .f32 d, .float .f32 u]⟩, .int .i64 k] =>
    if okTr l s a b c n d u = true ∧ 0 ≤ k ∧ k ≤ 32 ∧ allFin (aheadL ⟨l, s, a, b, c, n, d, u⟩ k.toNat) = true then
      some (.tuple ⟨[(mkF (aheadL ⟨l, s, a, b, c, n, d, u⟩ k.toNat) H).1, .bool true]⟩, (mkF (aheadL ⟨l, s, a, b, c, n, d, u⟩ k.toNat) H).2)
    else none
  | _ => none
theorem gAhead_eq {t : Tr} {k : Int} (h1 : t.ok = true) (h2 : 0 ≤ k) (h3 : k ≤ 32) (h4 : allFin (aheadL t k.toNat) = true) (H : AHeap) :
    gAhead [t.val, .int .i64 k] H = some (.tuple ⟨[(mkF (aheadL t k.toNat) H).1, .bool true]⟩, (mkF (aheadL t k.toNat) H).2) := by
  have h1' : okTr t.l t.s t.a t.b t.c t.n t.d t.u = true := h1
  unfold gAhead Tr.val
  dsimp only
  rw [if_pos ⟨h1', h2, h3, h4⟩]
theorem heapA {ext : AHeap} {B C : Blk} {k : Nat} (h1 : 0 < ext.length) (hk2 : 1 ≤ k) (hkl : k < ext.length) :
    ((ext ++ [B]).set k .dead ++ [C])[0]? = ext[0]? ∧ ((ext ++ [B]).set k .dead ++ [C])[ext.length + 1]? = some C := by
  refine ⟨?_, ?_⟩
  · rw [List.getElem?_append_left (by simp <;> omega), List.getElem?_set, if_neg (by omega), List.getElem?_append_left h1]
  · have := getElem?_app_len ((ext ++ [B]).set k .dead) C
    simp
theorem aheadL_succ (t : Tr) (i : Nat) : aheadL t (i + 1) = aheadL t i ++ [aheadX t i] := by
  simp [aheadL, List.range_succ]
theorem snd10 {G : Env} (hG : SoundEnv [] Try.prog G) (h13 : G 13 = gValid) (h55 : G 55 = gForth) (h56 : G 56 = gIfAll) : Sound [] Try.prog 10 gAhead := by
  refine sound_of (rs := [.tmp 4, .tmp 5]) (n := 38) hG mix Try.func10 rfl rfl rfl (by kernel_rfl) (by decide +kernel) (by decide +kernel) ?_
  intro args H r H' h
  unfold gAhead at h
  split at h
  case h_2 => cases h
  rename_i l s a b c n d u cnt
  split at h
  case isFalse => cases h
  rename_i hok
  cases h
  obtain ⟨ho, hc0, hc1, hfin⟩ := hok
  have hc : (decide (0 ≤ cnt ∧ cnt ≤ 32)) = true := by simp [hc0, hc1]
  refine ⟨by simp, ?_⟩
  simp (maxSteps := 10000000) only [↓exA, exB, exC, exN, exD, exR, tys, ↓reduceIte, Nat.reduceLT, Nat.reduceEqDiff, Nat.reduceAdd, Nat.zero_add, Nat.add_zero, List.map_cons, List.map_nil, Option.map_some, Option.map_none, Option.bind_some, List.length_cons, List.length_nil, List.cons_append, List.nil_append, List.append_nil, List.getElem?_cons_zero, List.getElem?_cons_succ, List.set_cons_zero, List.set_cons_succ, Nat.reduceLeDiff, and_self, and_true, true_and, gval, List.take_zero, List.take_succ_cons, List.drop_zero, List.drop_succ_cons, List.all_cons, List.all_nil, Bool.and_self, Bool.not_true, Bool.not_false, beq_true, beq_false, decide_true, decide_false, eq_self, Nat.reducePow, h13, gValid_eq, ho, h55, gForth_eq, hc, buildF_0]
  refine X_loop (I := fun m t K => ∃ (f : Nat → Value) (i k : Nat) (ext : AHeap), t = mk 38 f ∧ K = hp H ext ∧ f 2 = .pointer (some ⟨nb H 0, 0, none⟩) ∧ f 6 = .slice (some ⟨nb H k, 0, none⟩) i i ∧ f 17 = .int .i64 cnt ∧ f 18 = .int .i64 (i : Nat)
    ∧ ext[0]? = some (.live false [.float .f32 l, .float .f32 s, .float .f32 a, .float .f32 b, .float .f32 c, .float .f32 n, .float .f32 d, .float .f32 u])
    ∧ 1 ≤ k ∧ ext[k]? = some (.live false ((aheadL ⟨l, s, a, b, c, n, d, u⟩ i).map fun x => .float .f32 x)) ∧ i + m = cnt.toNat) (m := cnt.toNat) ?_ ?_
  · rintro m t K ⟨f, i, k, ext, rfl, rfl, f2, f6, f17, f18, e0, hk1, ek, hm⟩
    simp (maxSteps := 10000000) only [↓exA, exB, exC, exN, exD, exR, tys, ↓reduceIte, Nat.reduceLT, Nat.reduceEqDiff, Nat.reduceAdd, Nat.zero_add, Nat.add_zero, List.map_cons, List.map_nil, Option.map_some, Option.map_none, Option.bind_some, List.length_cons, List.length_nil, List.cons_append, List.nil_append, List.append_nil, List.getElem?_cons_zero, List.getElem?_cons_succ, List.set_cons_zero, List.set_cons_succ, Nat.reduceLeDiff, and_self, and_true, true_and, gval, List.take_zero, List.take_succ_cons, List.drop_zero, List.drop_succ_cons, List.all_cons, List.all_nil, Bool.and_self, Bool.not_true, Bool.not_false, beq_true, beq_false, decide_true, decide_false, eq_self, Nat.reducePow, f2, f6, f17, f18]
    refine condW_intro (fun c1 => ?_) (fun c1 => ?_) <;> (try simp only [Bool.not_eq_true', Bool.not_eq_eq_eq_not, Bool.not_true, Bool.not_false, beq_true, beq_false, beq_iff_eq, beq_eq_false_iff_ne, ne_eq, Bool.not_eq_false, Bool.not_eq_true, decide_eq_true_eq, decide_eq_false_iff_not, Bool.not_not] at c1)
    · have hw : IntKind.i64.wrap ((i : Int) + 1) = (i : Int) + 1 := wrap_i64 (by omega) (by omega)
      simp (maxSteps := 10000000) only [↓exA, exB, exC, exN, exD, exR, tys, ↓reduceIte, Nat.reduceLT, Nat.reduceEqDiff, Nat.reduceAdd, Nat.zero_add, Nat.add_zero, List.map_cons, List.map_nil, Option.map_some, Option.map_none, Option.bind_some, List.length_cons, List.length_nil, List.cons_append, List.nil_append, List.append_nil, List.getElem?_cons_zero, List.getElem?_cons_succ, List.set_cons_zero, List.set_cons_succ, Nat.reduceLeDiff, and_self, and_true, true_and, gval, List.take_zero, List.take_succ_cons, List.drop_zero, List.drop_succ_cons, List.all_cons, List.all_nil, Bool.and_self, Bool.not_true, Bool.not_false, beq_true, beq_false, decide_true, decide_false, eq_self, Nat.reducePow, f2, f6, f17, f18, e0, buildF_1, conv_2_24, hw]
      have hkl : k < ext.length := (List.getElem?_eq_some_iff.1 ek).1
      have h0l : 0 < ext.length := (List.getElem?_eq_some_iff.1 e0).1
      refine andR_of (append_one row_29 row_29 (cs := (aheadL ⟨l, s, a, b, c, n, d, u⟩ i).map fun x => .float .f32 x) (v := .float .f32 (aheadX ⟨l, s, a, b, c, n, d, u⟩ i)) ?_ ?_ ?_ rfl ?_ _ _) ?_
      · rw [List.getElem?_append_left hkl]; exact ek
      · simp [aheadL]
      · exact getElem?_app_len ext _
      · omega
      simp (maxSteps := 10000000) only [↓exA, exB, exC, exN, exD, exR, tys, ↓reduceIte, Nat.reduceLT, Nat.reduceEqDiff, Nat.reduceAdd, Nat.zero_add, Nat.add_zero, List.map_cons, List.map_nil, Option.map_some, Option.map_none, Option.bind_some, List.length_cons, List.length_nil, List.cons_append, List.nil_append, List.append_nil, List.getElem?_cons_zero, List.getElem?_cons_succ, List.set_cons_zero, List.set_cons_succ, Nat.reduceLeDiff, and_self, and_true, true_and, gval, List.take_zero, List.take_succ_cons, List.drop_zero, List.drop_succ_cons, List.all_cons, List.all_nil, Bool.and_self, Bool.not_true, Bool.not_false, beq_true, beq_false, decide_true, decide_false, eq_self, Nat.reducePow, f18]
      refine ⟨m - 1, by omega, _, i + 1, ext.length + 1, _, rfl, rfl, ?_, ?_, ?_, ?_, ?_, by omega, ?_, by omega⟩
      · simp (maxSteps := 10000000) only [↓exA, exB, exC, exN, exD, exR, tys, ↓reduceIte, Nat.reduceLT, Nat.reduceEqDiff, Nat.reduceAdd, Nat.zero_add, Nat.add_zero, List.map_cons, List.map_nil, Option.map_some, Option.map_none, Option.bind_some, List.length_cons, List.length_nil, List.cons_append, List.nil_append, List.append_nil, List.getElem?_cons_zero, List.getElem?_cons_succ, List.set_cons_zero, List.set_cons_succ, Nat.reduceLeDiff, and_self, and_true, true_and, gval, List.take_zero, List.take_succ_cons, List.drop_zero, List.drop_succ_cons, List.all_cons, List.all_nil, Bool.and_self, Bool.not_true, Bool.not_false, beq_true, beq_false, decide_true, decide_false, eq_self, Nat.reducePow, f2]
      · simp (maxSteps := 10000000) only [↓exA, exB, exC, exN, exD, exR, tys, ↓reduceIte, Nat.reduceLT, Nat.reduceEqDiff, Nat.reduceAdd, Nat.zero_add, Nat.add_zero, List.map_cons, List.map_nil, Option.map_some, Option.map_none, Option.bind_some, List.length_cons, List.length_nil, List.cons_append, List.nil_append, List.append_nil, List.getElem?_cons_zero, List.getElem?_cons_succ, List.set_cons_zero, List.set_cons_succ, Nat.reduceLeDiff, and_self, and_true, true_and, gval, List.take_zero, List.take_succ_cons, List.drop_zero, List.drop_succ_cons, List.all_cons, List.all_nil, Bool.and_self, Bool.not_true, Bool.not_false, beq_true, beq_false, decide_true, decide_false, eq_self, Nat.reducePow]
        simp
      · simp (maxSteps := 10000000) only [↓exA, exB, exC, exN, exD, exR, tys, ↓reduceIte, Nat.reduceLT, Nat.reduceEqDiff, Nat.reduceAdd, Nat.zero_add, Nat.add_zero, List.map_cons, List.map_nil, Option.map_some, Option.map_none, Option.bind_some, List.length_cons, List.length_nil, List.cons_append, List.nil_append, List.append_nil, List.getElem?_cons_zero, List.getElem?_cons_succ, List.set_cons_zero, List.set_cons_succ, Nat.reduceLeDiff, and_self, and_true, true_and, gval, List.take_zero, List.take_succ_cons, List.drop_zero, List.drop_succ_cons, List.all_cons, List.all_nil, Bool.and_self, Bool.not_true, Bool.not_false, beq_true, beq_false, decide_true, decide_false, eq_self, Nat.reducePow, f17]
      · simp (maxSteps := 10000000) only [↓exA, exB, exC, exN, exD, exR, tys, ↓reduceIte, Nat.reduceLT, Nat.reduceEqDiff, Nat.reduceAdd, Nat.zero_add, Nat.add_zero, List.map_cons, List.map_nil, Option.map_some, Option.map_none, Option.bind_some, List.length_cons, List.length_nil, List.cons_append, List.nil_append, List.append_nil, List.getElem?_cons_zero, List.getElem?_cons_succ, List.set_cons_zero, List.set_cons_succ, Nat.reduceLeDiff, and_self, and_true, true_and, gval, List.take_zero, List.take_succ_cons, List.drop_zero, List.drop_succ_cons, List.all_cons, List.all_nil, Bool.and_self, Bool.not_true, Bool.not_false, beq_true, beq_false, decide_true, decide_false, eq_self, Nat.reducePow, hw]
        simp
      · rw [(heapA h0l hk1 hkl).1]; exact e0
      · rw [(heapA h0l hk1 hkl).2, aheadL_succ, List.map_append]; rfl
    · have hi : i = cnt.toNat := by omega
      have hrd : rd isF (.slice (some ⟨nb H k, 0, none⟩) i i) (hp H ext) = some (aheadL ⟨l, s, a, b, c, n, d, u⟩ i) :=
        rd_new i i ek (mapM_isF _) (by simp [aheadL]) (by omega)
      have hfin' : allFin (aheadL ⟨l, s, a, b, c, n, d, u⟩ i) = true := by rw [hi]; exact hfin
      simp (maxSteps := 10000000) only [↓exA, exB, exC, exN, exD, exR, tys, ↓reduceIte, Nat.reduceLT, Nat.reduceEqDiff, Nat.reduceAdd, Nat.zero_add, Nat.add_zero, List.map_cons, List.map_nil, Option.map_some, Option.map_none, Option.bind_some, List.length_cons, List.length_nil, List.cons_append, List.nil_append, List.append_nil, List.getElem?_cons_zero, List.getElem?_cons_succ, List.set_cons_zero, List.set_cons_succ, Nat.reduceLeDiff, and_self, and_true, true_and, gval, List.take_zero, List.take_succ_cons, List.drop_zero, List.drop_succ_cons, List.all_cons, List.all_nil, Bool.and_self, Bool.not_true, Bool.not_false, beq_true, beq_false, decide_true, decide_false, eq_self, Nat.reducePow, f2, f6, f17, f18, e0, h56, gIfAll_eq hrd hfin']
      rw [← hi]
      have hlen : i = (aheadL ⟨l, s, a, b, c, n, d, u⟩ i).length := by simp [aheadL]
      have hv : RV (rho H [k]) (.tuple ⟨[(mkF (aheadL ⟨l, s, a, b, c, n, d, u⟩ i) H).1, .bool true]⟩) (.tuple ⟨[.slice (some ⟨nb H k, 0, none⟩) i i, .bool true]⟩) := by
        unfold mkF
        rw [← hlen]
        exact .tuple (.cons (RV.new_slice (i := 0) rfl) (.cons (.same rfl) .nil))
      exact fits_row ek (bareL_F _) hv
  · refine ⟨_, 0, 1, _, rfl, rfl, ?_, ?_, ?_, ?_, rfl, by omega, rfl, by omega⟩
    all_goals (try simp (maxSteps := 10000000) only [↓exA, exB, exC, exN, exD, exR, tys, ↓reduceIte, Nat.reduceLT, Nat.reduceEqDiff, Nat.reduceAdd, Nat.zero_add, Nat.add_zero, List.map_cons, List.map_nil, Option.map_some, Option.map_none, Option.bind_some, List.length_cons, List.length_nil, List.cons_append, List.nil_append, List.append_nil, List.getElem?_cons_zero, List.getElem?_cons_succ, List.set_cons_zero, List.set_cons_succ, Nat.reduceLeDiff, and_self, and_true, true_and, gval, List.take_zero, List.take_succ_cons, List.drop_zero, List.drop_succ_cons, List.all_cons, List.all_nil, Bool.and_self, Bool.not_true, Bool.not_false, beq_true, beq_false, decide_true, decide_false, eq_self, Nat.reducePow])
    rfl

end Go.Proofs.Ytnhhdgopgecggaa.Abs
