/- Small numbers that are drawn. No condition. -/
import Derived.Test.YtnhhdgopgecggaaGd
set_option linter.unusedVariables false
set_option linter.unusedSimpArgs false
set_option maxRecDepth 100000
set_option maxHeartbeats 4000000
namespace Go.Proofs.Ytnhhdgopgecggaa.Abs
open Go

/-- A block that was there is written, and new rows are made. -/
theorem fits_setfresh {H e : AHeap} {p : Nat} {cs cs' : List Value} {r r1 : Value} {ks : List Nat} {bs : List (List Value)} (hp0 : H[p]? = some (.live false cs)) (hc : ∀ v ∈ cs', RV (rho H ks) v v) (hn : ks.Nodup)
    (hb : ∀ (i k : Nat), ks[i]? = some k → ∃ cs cs1, bs[i]? = some cs ∧ e[k]? = some (.live false cs1) ∧ cs.length ≤ cs1.length ∧ ∀ (j : Nat) v, cs[j]? = some v → ∃ v1, cs1[j]? = some v1 ∧ RV (rho H ks) v v1)
    (hl : ks.length = bs.length) (hv : RV (rho H ks) r r1) : Fits H r (H.set p (.live false cs') ++ bs.map (.live false)) r1 (hp (H.set p (.live false cs')) e) := by
  have hpl : p < H.length := (List.getElem?_eq_some_iff.1 hp0).1
  have hlen : (H.set p (.live false cs')).length = H.length := by simp
  have hnb : ∀ k, nb (H.set p (.live false cs')) k = nb H k := fun k => by simp [nb]
  refine ⟨rho H ks, ?_, ?_, ?_, ?_, ?_, ?_, ?_, ?_, ?_, hv⟩
  · intro b hb; exact rho_old hb ks
  · intro b x h
    unfold rho at h
    split at h
    · simp; omega
    · simp only [Option.map_eq_some_iff] at h
      obtain ⟨k, hk, _⟩ := h
      have := (List.getElem?_eq_some_iff.1 hk).1
      simp; omega
  · intro b b1 o h hle
    unfold rho at h
    rw [if_neg (by omega)] at h
    simp only [Option.map_eq_some_iff, Prod.mk.injEq] at h
    obtain ⟨k, hk, rfl, _⟩ := h
    unfold nb; omega
  · intro b b1 o lk ds h hH
    unfold rho at h
    split at h
    · rename_i hlt
      simp only [Option.some.injEq, Prod.mk.injEq] at h
      obtain ⟨rfl, rfl⟩ := h
      rw [List.getElem?_append_left (by omega)] at hH ⊢
      rw [hp_get_old _ _ (by omega)]
      by_cases hbp : p = b
      · subst hbp
        right
        rw [List.getElem?_set] at hH ⊢
        simp only [if_true, hpl] at hH ⊢
        simp only [Option.some.injEq, Blk.live.injEq] at hH
        obtain ⟨rfl, rfl⟩ := hH
        exact ⟨cs', rfl, by omega, fun i v hv => ⟨v, by rw [Nat.zero_add]; exact hv, hc v (List.mem_of_getElem? hv)⟩⟩
      · left
        rw [List.getElem?_set, if_neg hbp]
        exact ⟨hlt, rfl, rfl⟩
    · rename_i hge
      simp only [Option.map_eq_some_iff, Prod.mk.injEq] at h
      obtain ⟨k, hk, rfl, rfl⟩ := h
      obtain ⟨cs0, cs1, g1, g2, g3, g4⟩ := hb _ _ hk
      rw [List.getElem?_append_right (by omega), List.getElem?_map, hlen, g1] at hH
      simp only [Option.map_some, Option.some.injEq, Blk.live.injEq] at hH
      obtain ⟨rfl, rfl⟩ := hH
      right
      exact ⟨cs1, by rw [← hnb k, hp_new]; exact g2, by omega, fun i v hi => by rw [Nat.zero_add]; exact g4 i v hi⟩
  · intro b b' b1 o o' h h' _ _
    unfold rho at h h'
    split at h <;> split at h'
    · simp only [Option.some.injEq, Prod.mk.injEq] at h h'; omega
    · rename_i g1 g2
      simp only [Option.map_eq_some_iff, Option.some.injEq, Prod.mk.injEq] at h h'
      obtain ⟨k, hk, h1, _⟩ := h'
      obtain ⟨h2, _⟩ := h
      unfold nb at h1; omega
    · rename_i g1 g2
      simp only [Option.map_eq_some_iff, Option.some.injEq, Prod.mk.injEq] at h h'
      obtain ⟨k, hk, h1, _⟩ := h
      obtain ⟨h2, _⟩ := h'
      unfold nb at h1; omega
    · simp only [Option.map_eq_some_iff, Prod.mk.injEq] at h h'
      obtain ⟨k, hk, h1, _⟩ := h
      obtain ⟨k', hk', h1', _⟩ := h'
      have hkk : k = k' := by unfold nb at h1 h1'; omega
      subst hkk
      have := (List.getElem?_inj (List.getElem?_eq_some_iff.1 hk).1 hn).1 (hk.trans hk'.symm)
      omega
  · simp
  · intro b ds h
    have hbl := (List.getElem?_eq_some_iff.1 h).1
    rw [List.getElem?_append_left (by omega)]
    by_cases hbp : p = b
    · subst hbp; rw [hp0] at h; cases h
    · rw [List.getElem?_set, if_neg hbp]; exact h
  · intro b h
    have hbl := (List.getElem?_eq_some_iff.1 h).1
    rw [List.getElem?_append_left (by omega)]
    by_cases hbp : p = b
    · subst hbp; rw [hp0] at h; cases h
    · rw [List.getElem?_set, if_neg hbp]; exact h
  · intro b ds hlt h
    rw [List.getElem?_append_left (by omega)] at h
    by_cases hbp : p = b
    · subst hbp; rw [List.getElem?_set] at h; simp [hpl] at h
    · rw [List.getElem?_set, if_neg hbp] at h; exact h
theorem Src.rvk {H : AHeap} {p : Nat} {s : Value} {bs : List Nat} {i sd : Int} (h : Src H p s bs i sd) (ks : List Nat) : RV (rho H ks) s s := by
  obtain ⟨a, n, c, row⟩ := rd_row h.bytes
  cases row.eq
  have hap := h.apart
  rcases row.place with ⟨rfl, rfl, rfl⟩ | ⟨b, off, rfl, hb⟩
  · exact .same rfl
  · have hnc : n = c := by
      simp only [Abs.apart, Bool.and_eq_true, bne_iff_ne, beq_iff_eq] at hap
      exact hap.2
    subst hnc
    exact RV.old_slice hb

def drawX (bs : List Nat) (i sd : Int) (k : Nat) : Nat := fbin .quo .f32 (i32f (pk bs i sd k 33 - 16)) 1082130432
def drawL (bs : List Nat) (n : Nat) : List Nat := mapL (drawX bs 0 0) n
def gDraw3 (args : List Value) (H : AHeap) : Option (Value × AHeap) :=
  match args with
  | [.pointer (some ⟨p, 0, none⟩), .int .i64 n] => match srcOf H p with
    | some (s, bs, i, sd) => if n ≤ 1000 ∧ i + 1001 < 2 ^ 41 then some (mkF (mapL (drawX bs i sd) n.toNat) (H.set p (.live false [s, .int .i64 (i + n.toNat), .int .u64 (sdN bs i sd n.toNat)]))) else none
    | none => none
  | _ => none
theorem gDraw3_eq {H : AHeap} {p : Nat} {s : Value} {bs : List Nat} {i sd n : Int} (h : Src H p s bs i sd) (hn : n ≤ 1000) (h3 : i + 1001 < 2 ^ 41) :
    gDraw3 [.pointer (some ⟨p, 0, none⟩), .int .i64 n] H = some (mkF (mapL (drawX bs i sd) n.toNat) (H.set p (.live false [s, .int .i64 (i + n.toNat), .int .u64 (sdN bs i sd n.toNat)]))) := by
  unfold gDraw3
  simp only [srcOf_eq h]
  rw [if_pos ⟨hn, h3⟩]
theorem set_same {H : AHeap} {p : Nat} {b : Blk} (h : H[p]? = some b) : H.set p b = H := by
  apply List.ext_getElem?
  intro j
  rw [List.getElem?_set]
  split
  · rename_i e; subst e
    have := (List.getElem?_eq_some_iff.1 h).1
    rw [if_pos this, h]
  · rfl
theorem snd70 {G : Env} (hG : SoundEnv [] Try.prog G) (h117 : G 117 = gPick) : Sound [] Try.prog 70 gDraw3 := by
  refine sound_of (rs := [.tmp 4]) (n := 20) hG mix Try.func70 rfl rfl rfl (by kernel_rfl) (by decide +kernel) (by decide +kernel) ?_
  intro args H r H' h
  unfold gDraw3 at h
  split at h
  case h_2 => cases h
  rename_i p n
  split at h
  case h_2 => cases h
  rename_i s bs i sd hsrc
  split at h
  case isFalse => cases h
  rename_i hi
  cases h
  have src := srcOf_src hsrc
  have hpl : p < H.length := (List.getElem?_eq_some_iff.1 src.blk).1
  have h0 := src.i0
  have qs : ∀ (k : Nat) e, (k : Int) ≤ 1000 → gPick [.pointer (some ⟨p, 0, none⟩), .int .i64 33] (hp (H.set p (.live false [s, .int .i64 (i + k), .int .u64 (sdN bs i sd k)])) e) = some (.int .i64 (pk bs i sd k 33), hp (H.set p (.live false [s, .int .i64 (i + (k + 1 : Nat)), .int .u64 (sdN bs i sd (k + 1))])) e) := by
    intro k e hk
    rw [gPick_eq ((src.next (i' := i + k) (by omega) (by omega)).hp e) (by decide) (by decide) (by omega), (oldset hpl).2.2.1]
    simp only [pk, sdN]
    rw [show i + k + 1 = i + (k + 1 : Nat) by omega]
  have r := fun k => pk_range bs i sd k (n := 33) (by decide)
  have w0 : ∀ k, IntKind.i64.wrap (pk bs i sd k 33 - 16) = pk bs i sd k 33 - 16 := fun k => by have := r k; exact wrap_i64 (by omega) (by omega)
  refine ⟨by simp, ?_⟩
  simp (maxSteps := 10000000) only [↓exA, exB, exC, exN, exD, exR, tys, ↓reduceIte, Nat.reduceLT, Nat.reduceEqDiff, Nat.reduceAdd, Nat.zero_add, Nat.add_zero, List.map_cons, List.map_nil, Option.map_some, Option.map_none, Option.bind_some, List.length_cons, List.length_nil, List.cons_append, List.nil_append, List.append_nil, List.getElem?_cons_zero, List.getElem?_cons_succ, List.set_cons_zero, List.set_cons_succ, Nat.reduceLeDiff, and_self, and_true, true_and, gval, List.take_zero, List.take_succ_cons, List.drop_zero, List.drop_succ_cons, List.all_cons, List.all_nil, Bool.and_self, Bool.not_true, Bool.not_false, beq_true, beq_false, decide_true, decide_false, eq_self, Nat.reducePow, buildF_0]
  have hset0 : H.set p (.live false [s, .int .i64 (i + (0 : Nat)), .int .u64 (sdN bs i sd 0)]) = H := set_same (by rw [src.blk]; simp [sdN])
  refine X_loop (I := fun m t K => ∃ (f : Nat → Value) (j k : Nat) (ext : AHeap), t = mk 20 f ∧ K = hp (H.set p (.live false [s, .int .i64 (i + j), .int .u64 (sdN bs i sd j)])) ext ∧ f 0 = .pointer (some ⟨p, 0, none⟩) ∧ f 1 = .int .i64 (n - j) ∧ f 5 = .slice (some ⟨nb H k, 0, none⟩) j j
    ∧ ext[k]? = some (.live false ((mapL (drawX bs i sd) j).map fun x => .float .f32 x)) ∧ j + m = n.toNat) (m := n.toNat) ?_ ?_
  · rintro m t K ⟨f, j, k, ext, rfl, rfl, f0, f1, f5, ek, hm⟩
    simp (maxSteps := 10000000) only [↓exA, exB, exC, exN, exD, exR, tys, ↓reduceIte, Nat.reduceLT, Nat.reduceEqDiff, Nat.reduceAdd, Nat.zero_add, Nat.add_zero, List.map_cons, List.map_nil, Option.map_some, Option.map_none, Option.bind_some, List.length_cons, List.length_nil, List.cons_append, List.nil_append, List.append_nil, List.getElem?_cons_zero, List.getElem?_cons_succ, List.set_cons_zero, List.set_cons_succ, Nat.reduceLeDiff, and_self, and_true, true_and, gval, List.take_zero, List.take_succ_cons, List.drop_zero, List.drop_succ_cons, List.all_cons, List.all_nil, Bool.and_self, Bool.not_true, Bool.not_false, beq_true, beq_false, decide_true, decide_false, eq_self, Nat.reducePow, f0, f1, f5]
    refine condW_intro (fun c1 => ?_) (fun c1 => ?_) <;> (try simp only [Bool.not_eq_true', Bool.not_eq_eq_eq_not, Bool.not_true, Bool.not_false, beq_true, beq_false, beq_iff_eq, beq_eq_false_iff_ne, ne_eq, Bool.not_eq_false, Bool.not_eq_true, decide_eq_true_eq, decide_eq_false_iff_not, Bool.not_not] at c1)
    · have hj : (j : Int) ≤ 1000 := by omega
      simp (maxSteps := 10000000) only [↓exA, exB, exC, exN, exD, exR, tys, ↓reduceIte, Nat.reduceLT, Nat.reduceEqDiff, Nat.reduceAdd, Nat.zero_add, Nat.add_zero, List.map_cons, List.map_nil, Option.map_some, Option.map_none, Option.bind_some, List.length_cons, List.length_nil, List.cons_append, List.nil_append, List.append_nil, List.getElem?_cons_zero, List.getElem?_cons_succ, List.set_cons_zero, List.set_cons_succ, Nat.reduceLeDiff, and_self, and_true, true_and, gval, List.take_zero, List.take_succ_cons, List.drop_zero, List.drop_succ_cons, List.all_cons, List.all_nil, Bool.and_self, Bool.not_true, Bool.not_false, beq_true, beq_false, decide_true, decide_false, eq_self, Nat.reducePow, f0, f1, f5, h117, qs j _ hj, w0, buildF_1]
      have hkl : k < ext.length := (List.getElem?_eq_some_iff.1 ek).1
      have hnb : ∀ b q, nb (H.set p b) q = nb H q := fun b q => by simp [nb]
      rw [← hnb (.live false [s, .int .i64 (i + (j + 1 : Nat)), .int .u64 (sdN bs i sd (j + 1))]) k]
      refine andR_of (append_one row_29 row_29 (v := .float .f32 (drawX bs i sd j)) (by rw [List.getElem?_append_left hkl]; exact ek) (by simp [mapL]) (getElem?_app_len ext _) rfl (by omega) _ _) ?_
      simp (maxSteps := 10000000) only [↓exA, exB, exC, exN, exD, exR, tys, ↓reduceIte, Nat.reduceLT, Nat.reduceEqDiff, Nat.reduceAdd, Nat.zero_add, Nat.add_zero, List.map_cons, List.map_nil, Option.map_some, Option.map_none, Option.bind_some, List.length_cons, List.length_nil, List.cons_append, List.nil_append, List.append_nil, List.getElem?_cons_zero, List.getElem?_cons_succ, List.set_cons_zero, List.set_cons_succ, Nat.reduceLeDiff, and_self, and_true, true_and, gval, List.take_zero, List.take_succ_cons, List.drop_zero, List.drop_succ_cons, List.all_cons, List.all_nil, Bool.and_self, Bool.not_true, Bool.not_false, beq_true, beq_false, decide_true, decide_false, eq_self, Nat.reducePow, f1]
      refine ⟨m - 1, by omega, _, j + 1, ext.length + 1, _, rfl, rfl, ?_, ?_, ?_, ?_, by omega⟩
      · simp (maxSteps := 10000000) only [↓exA, exB, exC, exN, exD, exR, tys, ↓reduceIte, Nat.reduceLT, Nat.reduceEqDiff, Nat.reduceAdd, Nat.zero_add, Nat.add_zero, List.map_cons, List.map_nil, Option.map_some, Option.map_none, Option.bind_some, List.length_cons, List.length_nil, List.cons_append, List.nil_append, List.append_nil, List.getElem?_cons_zero, List.getElem?_cons_succ, List.set_cons_zero, List.set_cons_succ, Nat.reduceLeDiff, and_self, and_true, true_and, gval, List.take_zero, List.take_succ_cons, List.drop_zero, List.drop_succ_cons, List.all_cons, List.all_nil, Bool.and_self, Bool.not_true, Bool.not_false, beq_true, beq_false, decide_true, decide_false, eq_self, Nat.reducePow, f0]
      · simp (maxSteps := 10000000) only [↓exA, exB, exC, exN, exD, exR, tys, ↓reduceIte, Nat.reduceLT, Nat.reduceEqDiff, Nat.reduceAdd, Nat.zero_add, Nat.add_zero, List.map_cons, List.map_nil, Option.map_some, Option.map_none, Option.bind_some, List.length_cons, List.length_nil, List.cons_append, List.nil_append, List.append_nil, List.getElem?_cons_zero, List.getElem?_cons_succ, List.set_cons_zero, List.set_cons_succ, Nat.reduceLeDiff, and_self, and_true, true_and, gval, List.take_zero, List.take_succ_cons, List.drop_zero, List.drop_succ_cons, List.all_cons, List.all_nil, Bool.and_self, Bool.not_true, Bool.not_false, beq_true, beq_false, decide_true, decide_false, eq_self, Nat.reducePow]
        rw [wrap_i64 (by omega) (by omega)]
        congr 1; omega
      · simp (maxSteps := 10000000) only [↓exA, exB, exC, exN, exD, exR, tys, ↓reduceIte, Nat.reduceLT, Nat.reduceEqDiff, Nat.reduceAdd, Nat.zero_add, Nat.add_zero, List.map_cons, List.map_nil, Option.map_some, Option.map_none, Option.bind_some, List.length_cons, List.length_nil, List.cons_append, List.nil_append, List.append_nil, List.getElem?_cons_zero, List.getElem?_cons_succ, List.set_cons_zero, List.set_cons_succ, Nat.reduceLeDiff, and_self, and_true, true_and, gval, List.take_zero, List.take_succ_cons, List.drop_zero, List.drop_succ_cons, List.all_cons, List.all_nil, Bool.and_self, Bool.not_true, Bool.not_false, beq_true, beq_false, decide_true, decide_false, eq_self, Nat.reducePow]
        simp [nb]
      · rw [heapB, mapL_succ, List.map_append]; rfl
    · simp (maxSteps := 10000000) only [↓exA, exB, exC, exN, exD, exR, tys, ↓reduceIte, Nat.reduceLT, Nat.reduceEqDiff, Nat.reduceAdd, Nat.zero_add, Nat.add_zero, List.map_cons, List.map_nil, Option.map_some, Option.map_none, Option.bind_some, List.length_cons, List.length_nil, List.cons_append, List.nil_append, List.append_nil, List.getElem?_cons_zero, List.getElem?_cons_succ, List.set_cons_zero, List.set_cons_succ, Nat.reduceLeDiff, and_self, and_true, true_and, gval, List.take_zero, List.take_succ_cons, List.drop_zero, List.drop_succ_cons, List.all_cons, List.all_nil, Bool.and_self, Bool.not_true, Bool.not_false, beq_true, beq_false, decide_true, decide_false, eq_self, Nat.reducePow, f5]
      have hj : j = n.toNat := by omega
      subst hj
      have hv : RV (rho H [k]) (mkF (mapL (drawX bs i sd) n.toNat) (H.set p (.live false [s, .int .i64 (i + n.toNat), .int .u64 (sdN bs i sd n.toNat)]))).1 (.slice (some ⟨nb H k, 0, none⟩) n.toNat n.toNat) := by
        have := RV.new_slice (H := H) (ks := [k]) (i := 0) (off := 0) (n := n.toNat) rfl
        unfold mkF
        simpa [mapL, nb] using this
      refine fits_setfresh (ks := [k]) (bs := [(mapL (drawX bs i sd) n.toNat).map fun x => .float .f32 x]) src.blk ?_ (by simp) ?_ rfl hv
      · intro v hv
        simp only [List.mem_cons, List.not_mem_nil, or_false] at hv
        rcases hv with rfl | rfl | rfl
        · exact src.rvk _
        · exact .same rfl
        · exact .same rfl
      · intro i' k' hk
        cases i' with
        | zero =>
          simp only [List.getElem?_cons_zero, Option.some.injEq] at hk; subst hk
          exact ⟨_, _, rfl, ek, Nat.le_refl _, fun j v hj => ⟨v, hj, .same (bareL_get (bareL_F _) j v hj)⟩⟩
        | succ i' => simp at hk
  · refine ⟨_, 0, 0, [.live false []], rfl, ?_, ?_, ?_, ?_, rfl, by omega⟩
    · rw [hset0]
    all_goals (try simp (maxSteps := 10000000) only [↓exA, exB, exC, exN, exD, exR, tys, ↓reduceIte, Nat.reduceLT, Nat.reduceEqDiff, Nat.reduceAdd, Nat.zero_add, Nat.add_zero, List.map_cons, List.map_nil, Option.map_some, Option.map_none, Option.bind_some, List.length_cons, List.length_nil, List.cons_append, List.nil_append, List.append_nil, List.getElem?_cons_zero, List.getElem?_cons_succ, List.set_cons_zero, List.set_cons_succ, Nat.reduceLeDiff, and_self, and_true, true_and, gval, List.take_zero, List.take_succ_cons, List.drop_zero, List.drop_succ_cons, List.all_cons, List.all_nil, Bool.and_self, Bool.not_true, Bool.not_false, beq_true, beq_false, decide_true, decide_false, eq_self, Nat.reducePow])
    all_goals (try rfl)
    all_goals (try simp)

end Go.Proofs.Ytnhhdgopgecggaa.Abs
