/- The law FnNearest, walked: it says yes where the numbers are good. No condition. -/
import Derived.Test.YtnhhdgopgecggaaGj
set_option linter.unusedVariables false
set_option linter.unusedSimpArgs false
set_option maxRecDepth 100000
set_option maxHeartbeats 8000000
namespace Go.Proofs.Ytnhhdgopgecggaa.Abs
open Go

def u8s (bs : List Nat) : List Value := bs.map fun (x : Nat) => Value.int .u8 (x : Int)
def sum64 (xs : List Nat) : Nat → Nat := accN (fun s i => fbin .add .f64 s (w64 (xs.getD i 0))) 0
def sq64 (xs : List Nat) : Nat → Nat := accN (fun s i => fbin .add .f64 s (fbin .mul .f64 (w64 (xs.getD i 0)) (w64 (xs.getD i 0)))) 0
theorem sum64_succ (xs : List Nat) (i : Nat) : sum64 xs (i + 1) = fbin .add .f64 (sum64 xs i) (w64 (xs.getD i 0)) := rfl
theorem sq64_succ (xs : List Nat) (i : Nat) : sq64 xs (i + 1) = fbin .add .f64 (sq64 xs i) (fbin .mul .f64 (w64 (xs.getD i 0)) (w64 (xs.getD i 0))) := rfl
/-- The numbers with which the law says yes. -/
structure GoodN (A B C : List Nat) (p n : Nat) : Prop where
  pl : p < 3
  la : ∀ i, i < 3 → ([A, B, C].getD i []).length = n
  shp : shapes [A, B, C] = true
  twoX : two ([A, B, C].getD p []) A = true
  finF : ∀ i, i < 3 → isFin (farAt [A, B, C] ([A, B, C].getD p []) i) = true
  far0 : fcmp .neq .f32 (bestN (farAt [A, B, C] ([A, B, C].getD p [])) 3).2 0 = false
  farI : (bestN (farAt [A, B, C] ([A, B, C].getD p [])) 3).1 ≤ p
  wOk : ∀ i, i < 3 → warpOk ([A, B, C].getD i []) ([A, B, C].getD p []) 4 = true
  w0 : fcmp .neq .f32 (bestN (warpAt [A, B, C] ([A, B, C].getD p []) 4) 3).2 0 = false
  wI : (bestN (warpAt [A, B, C] ([A, B, C].getD p []) 4) 3).1 ≤ p
  t01 : two A B = true
  t10 : two B A = true
  f01 : isFin (farL A B) = true
  f10 : isFin (farL B A) = true
  same : sameS (farL A B) (farL B A) = true
  idx0 : fcmp .neq .f32 (farL ([A, B, C].getD (bestN (farAt [A, B, C] ([A, B, C].getD p [])) 3).1 []) ([A, B, C].getD p [])) 0 = false
  sum : normB ([A, B, C].getD p []) = true → fcmp .lss .f64 (gapF (sum64 (normL ([A, B, C].getD p [])) n) 0) (fbin .mul .f64 4576918229304087675 (FloatKind.f64.nearest (n : Int))) = true
  sq : normB ([A, B, C].getD p []) = true → fcmp .lss .f64 (gapF (sq64 (normL ([A, B, C].getD p [])) n) (FloatKind.f64.nearest (n : Int))) (fbin .mul .f64 4576918229304087675 (FloatKind.f64.nearest (n : Int))) = true
def nearN (ms : List Nat) : Nat := (2 + at10 ms 0 8).toNat
def GoodNear (bs ms : List Nat) : Prop := GoodN (drawL bs (nearN ms)) (drawL ms (nearN ms)) (drawL (bs ++ [7]) (nearN ms)) (at10 ms 1 3).toNat (nearN ms)
open Classical in
noncomputable def gNearLaw (args : List Value) (H : AHeap) : Option (Value × AHeap) :=
  match args with
  | [.slice a n c, .slice a' n' c'] => match rd isU8 (.slice a n c) H, rd isU8 (.slice a' n' c') H with
    | some bs, some ms => if apart (.slice a n c) H.length = true ∧ apart (.slice a' n' c') H.length = true ∧ aCells (.slice a n c) H = some (u8s bs) ∧ bs.length ≤ 1048576 ∧ ms.length ≤ 1048576 ∧ GoodNear bs ms then some (.bool true, H) else none
    | _, _ => none
  | _ => none

theorem mapM_isU8 (bs : List Nat) (h : ∀ b ∈ bs, b < 256) : (u8s bs).mapM isU8 = some bs := by
  induction bs with
  | nil => rfl
  | cons b l ih =>
    have hb := h b (by simp)
    simp only [u8s, List.map_cons, List.mapM_cons, isU8, Option.bind_eq_bind, Option.pure_def]
    rw [if_pos ⟨by omega, by omega⟩]
    have := ih (fun x hx => h x (by simp [hx]))
    unfold u8s at this
    rw [this]; simp
theorem rd_lt {s : Value} {H : AHeap} {bs : List Nat} (h : rd isU8 s H = some bs) : ∀ b ∈ bs, b < 256 := by
  obtain ⟨a, n, c, row⟩ := rd_row h
  intro b hb
  obtain ⟨i, hi, rfl⟩ := List.getElem_of_mem hb
  obtain ⟨_, _, _, _, v, _, _, _, hx⟩ := row.get i bs[i] (List.getElem?_eq_getElem hi)
  exact (isU8_eq hx).2
theorem oneB_u8s (bs : List Nat) : (u8s bs).all oneB = true := by
  unfold u8s; rw [List.all_map, List.all_eq_true]; intro x _; rfl
theorem rd2_three {H e : AHeap} {q k0 k1 k2 : Nat} {A B C : List Nat} {lk : Bool} (hq : e[q]? = some (.live lk [.slice (some ⟨nb H k0, 0, none⟩) A.length A.length, .slice (some ⟨nb H k1, 0, none⟩) B.length B.length, .slice (some ⟨nb H k2, 0, none⟩) C.length C.length]))
    (h0 : e[k0]? = some (.live false (A.map fun x => .float .f32 x))) (h1 : e[k1]? = some (.live false (B.map fun x => .float .f32 x))) (h2 : e[k2]? = some (.live false (C.map fun x => .float .f32 x))) (l0 : A.length ≤ 2 ^ 40) (l1 : B.length ≤ 2 ^ 40) (l2 : C.length ≤ 2 ^ 40) :
    rd2 (.slice (some ⟨nb H q, 0, none⟩) 3 3) (hp H e) = some [A, B, C] := by
  unfold rd2 aCells
  simp only [hp_new, hq]
  have r0 := rd_new (H := H) _ A.length h0 (mapM_isF A) (by simp) l0
  have r1 := rd_new (H := H) _ B.length h1 (mapM_isF B) (by simp) l1
  have r2 := rd_new (H := H) _ C.length h2 (mapM_isF C) (by simp) l2
  simp [r0, r1, r2]
theorem app_bytes {H ext : AHeap} {a : Option Addr} {n c : Nat} {bs : List Nat} (h2 : ext[2]? = some (.live false [])) (hc : ∀ e, aCells (.slice a n c) (hp H e) = some (u8s bs)) (hbl : bs.length ≤ 1048576) :
    ∃ k ext2, aAppend Try.prog [22, 22] (.slice (some ⟨nb H 2, 0, none⟩) 0 0) (.slice a n c) (hp H ext) = some (.slice (some ⟨nb H k, 0, none⟩) bs.length bs.length, hp H ext2) ∧ ext2[k]? = some (.live false (u8s bs)) ∧ 2 ≤ k ∧ (∀ q, q < 2 → ext2[q]? = ext[q]?) := by
  have hl := (List.getElem?_eq_some_iff.1 h2).1
  have ha := row_append row_22 22 (.slice (some ⟨nb H 2, 0, none⟩) 0 0) (.slice a n c) (hp H ext) (hc ext) (oneB_u8s bs) (srcT_row row_22 _ _ _)
  rw [ha]
  unfold appA
  simp only [hp_new, h2]
  rw [if_pos ⟨rfl, by simp [u8s]; omega⟩]
  by_cases hb : bs = []
  · subst hb
    refine ⟨2, ext, ?_, h2, by omega, fun _ _ => rfl⟩
    simp [u8s]
  · rw [if_neg (by unfold u8s; simpa using hb)]
    refine ⟨ext.length, ext.set 2 .dead ++ [.live false (u8s bs)], ?_, ?_, by omega, ?_⟩
    · rw [hp_length, hp_set, hp_add]
      simp [u8s]
    · have := getElem?_app_len (ext.set 2 .dead) (Blk.live false (u8s bs))
      rwa [List.length_set] at this
    · intro q hq
      rw [List.getElem?_append_left (by simp; omega), List.getElem?_set, if_neg (by omega)]
theorem aCells_hp {s : Value} {H : AHeap} {cs : List Value} (h : aCells s H = some cs) (e : AHeap) : aCells s (hp H e) = some cs := by
  unfold aCells at h ⊢
  split at h
  · rename_i e'; exact h
  · rename_i b off len cp e'
    split at h
    · rename_i lk ds hb
      simp only [hp_old hb e]; exact h
    · cases h
  · rename_i e'; exact h
  · cases h
theorem snd4 {G : Env} (hG : SoundEnv [] Try.prog G) (h7 : G 7 = gLong) (h9 : G 9 = gAt) (h15 : G 15 = gTwo sameS) (h17 : G 17 = gGap) (h20 : G 20 = gList10) (h21 : G 21 = gNearest) (h22 : G 22 = gNearWarp) (h23 : G 23 = gFarS) (h24 : G 24 = gFarS) (h25 : G 25 = gNorm) (h26 : G 26 = gNorm) :
    Sound [] Try.prog 4 gNearLaw := by
  refine sound_of (rs := [.tmp 4]) (n := 227) hG mix Try.func4 rfl rfl rfl (by kernel_rfl) (by decide +kernel) (by decide +kernel) ?_
  intro args H r H' h
  unfold gNearLaw at h
  split at h
  case h_2 => cases h
  rename_i a n c a' n' c'
  split at h
  case h_2 => cases h
  rename_i bs ms hs hs'
  split at h
  case isFalse => cases h
  rename_i hok
  cases h
  obtain ⟨hap, hap', hcells, hbl, hml, good⟩ := hok
  obtain ⟨hr0, hr1⟩ := at10_range ms (i := 0) (n := 8) (by decide) (by decide)
  obtain ⟨hr2, hr3⟩ := at10_range ms (i := 1) (n := 3) (by decide) (by decide)
  obtain ⟨hr4, hr5⟩ := at10_range ms (i := 2) (n := 8) (by decide) (by decide)
  unfold GoodNear nearN at good
  have hl : ∀ e, gLong [.slice a n c, .slice a' n' c'] (hp H e) = some (.bool false, hp H e) := fun e => by
    rw [gLong_eq (rd_hp hs e) (rd_hp hs' e)]
    have e1 : ¬ 1048576 < bs.length := by omega
    have e2 : ¬ 1048576 < ms.length := by omega
    simp [e1, e2]
  have hat0 : ∀ e, gAt [.slice a' n' c', .int .i64 0, .int .i64 8] (hp H e) = some (.int .i64 (at10 ms 0 8), hp H e) := fun e => gAt_eq (rd_hp hs' e) (by decide) (by decide)
  have w0 : IntKind.i64.wrap (2 + at10 ms 0 8) = 2 + at10 ms 0 8 := wrap_i64 (by omega) (by omega)
  have hL0 : ∀ e, gList10 [.slice a n c, .int .i64 (2 + at10 ms 0 8)] (hp H e) = some (mkF (drawL bs (2 + at10 ms 0 8).toNat) (hp H e)) := fun e => gList10_eq (rd_hp hs e) (by rw [hp_length]; exact apart_new hs hap _) (by omega)
  have hL1 : ∀ e, gList10 [.slice a' n' c', .int .i64 (2 + at10 ms 0 8)] (hp H e) = some (mkF (drawL ms (2 + at10 ms 0 8).toNat) (hp H e)) := fun e => gList10_eq (rd_hp hs' e) (by rw [hp_length]; exact apart_new hs' hap' _) (by omega)
  refine ⟨by simp, ?_⟩
  simp (maxSteps := 10000000) only [↓exA, exB, exC, exN, exD, exR, tys, ↓reduceIte, Nat.reduceLT, Nat.reduceEqDiff, Nat.reduceAdd, Nat.zero_add, Nat.add_zero, List.map_cons, List.map_nil, Option.map_some, Option.map_none, Option.bind_some, List.length_cons, List.length_nil, List.cons_append, List.nil_append, List.append_nil, List.getElem?_cons_zero, List.getElem?_cons_succ, List.set_cons_zero, List.set_cons_succ, Nat.reduceLeDiff, and_self, and_true, true_and, gval, List.take_zero, List.take_succ_cons, List.drop_zero, List.drop_succ_cons, List.all_cons, List.all_nil, Bool.and_self, Bool.not_true, Bool.not_false, beq_true, beq_false, decide_true, decide_false, eq_self, Nat.reducePow, h7, hl, h9, hat0, w0, h20, hL0, hL1]
  generalize hnn : (2 + at10 ms 0 8).toNat = nn at *
  have hbB0 : ∀ H, aBuildSlice Try.prog 22 0 [] H = some (aRow [] 0 H) := fun H => row_build row_22 0 _ H (by decide) rfl rfl
  have hbB1 : ∀ H, aBuildSlice Try.prog 22 1 [(0, .int .u8 7)] H = some (aRow [.int .u8 7] 1 H) := fun H => row_build row_22 1 _ H (by decide) rfl rfl
  simp (maxSteps := 10000000) only [↓exA, exB, exC, exN, exD, exR, tys, ↓reduceIte, Nat.reduceLT, Nat.reduceEqDiff, Nat.reduceAdd, Nat.zero_add, Nat.add_zero, List.map_cons, List.map_nil, Option.map_some, Option.map_none, Option.bind_some, List.length_cons, List.length_nil, List.cons_append, List.nil_append, List.append_nil, List.getElem?_cons_zero, List.getElem?_cons_succ, List.set_cons_zero, List.set_cons_succ, Nat.reduceLeDiff, and_self, and_true, true_and, gval, List.take_zero, List.take_succ_cons, List.drop_zero, List.drop_succ_cons, List.all_cons, List.all_nil, Bool.and_self, Bool.not_true, Bool.not_false, beq_true, beq_false, decide_true, decide_false, eq_self, Nat.reducePow, hbB0]
  obtain ⟨k, ext2, p1, p2, p3, p4⟩ := app_bytes (H := H) (ext := [.live false ((drawL bs nn).map fun x => .float .f32 x), .live false ((drawL ms nn).map fun x => .float .f32 x), .live false []]) rfl (aCells_hp hcells) hbl
  refine andR_of p1 ?_
  simp (maxSteps := 10000000) only [↓exA, exB, exC, exN, exD, exR, tys, ↓reduceIte, Nat.reduceLT, Nat.reduceEqDiff, Nat.reduceAdd, Nat.zero_add, Nat.add_zero, List.map_cons, List.map_nil, Option.map_some, Option.map_none, Option.bind_some, List.length_cons, List.length_nil, List.cons_append, List.nil_append, List.append_nil, List.getElem?_cons_zero, List.getElem?_cons_succ, List.set_cons_zero, List.set_cons_succ, Nat.reduceLeDiff, and_self, and_true, true_and, gval, List.take_zero, List.take_succ_cons, List.drop_zero, List.drop_succ_cons, List.all_cons, List.all_nil, Bool.and_self, Bool.not_true, Bool.not_false, beq_true, beq_false, decide_true, decide_false, eq_self, Nat.reducePow, hbB1]
  have hkl : k < ext2.length := (List.getElem?_eq_some_iff.1 p2).1
  refine andR_of (append_one row_22 row_22 (by rw [List.getElem?_append_left hkl]; exact p2) (by simp [u8s]) (getElem?_app_len ext2 _) rfl (by omega) _ _) ?_
  have b7 : u8s bs ++ [.int .u8 7] = u8s (bs ++ [7]) := by simp [u8s]
  rw [b7]
  have x0 : ((ext2 ++ [Blk.live false [.int .u8 7]]).set k .dead ++ [Blk.live false (u8s (bs ++ [7]))])[0]? = some (.live false ((drawL bs nn).map fun x => .float .f32 x)) := by
    rw [List.getElem?_append_left (by simp), List.getElem?_set, if_neg (by omega), List.getElem?_append_left (by omega), p4 0 (by decide)]; rfl
  have x1 : ((ext2 ++ [Blk.live false [.int .u8 7]]).set k .dead ++ [Blk.live false (u8s (bs ++ [7]))])[1]? = some (.live false ((drawL ms nn).map fun x => .float .f32 x)) := by
    rw [List.getElem?_append_left (by simp; omega), List.getElem?_set, if_neg (by omega), List.getElem?_append_left (by omega), p4 1 (by decide)]; rfl
  have x2 : ((ext2 ++ [Blk.live false [.int .u8 7]]).set k .dead ++ [Blk.live false (u8s (bs ++ [7]))])[(ext2 ++ [Blk.live false [.int .u8 7]]).length]? = some (.live false (u8s (bs ++ [7]))) := by
    have := getElem?_app_len ((ext2 ++ [Blk.live false [.int .u8 7]]).set k .dead) (Blk.live false (u8s (bs ++ [7])))
    rwa [List.length_set] at this
  generalize ((ext2 ++ [Blk.live false [.int .u8 7]]).set k .dead ++ [Blk.live false (u8s (bs ++ [7]))]) = ext3 at *
  generalize (ext2 ++ [Blk.live false [.int .u8 7]]).length = k3 at *
  have hk3 : k3 < ext3.length := (List.getElem?_eq_some_iff.1 x2).1
  have hrd7 : rd isU8 (.slice (some ⟨nb H k3, 0, none⟩) (bs.length + 1) (bs.length + 1)) (hp H ext3) = some (bs ++ [7]) := rd_new _ _ x2 (mapM_isU8 _ (by
    intro b hb
    simp only [List.mem_append, List.mem_cons, List.not_mem_nil, or_false] at hb
    rcases hb with hb | rfl
    · exact rd_lt hs b hb
    · decide)) (by simp [u8s]) (by omega)
  have hap7 : apart (.slice (some ⟨nb H k3, 0, none⟩) (bs.length + 1) (bs.length + 1)) (hp H ext3).length = true := by
    rw [hp_length]
    have : nb H k3 ≠ nb H ext3.length := by unfold nb; omega
    simp [apart, this]
  have hL2 := gList10_eq (k := 2 + at10 ms 0 8) hrd7 hap7 (by omega)
  rw [hnn] at hL2
  have hb44 : ∀ a0 n0 c0 a1 n1 c1 a2 n2 c2 H, aBuildSlice Try.prog 44 3 [(0, .slice a0 n0 c0), (1, .slice a1 n1 c1), (2, .slice a2 n2 c2)] H = some (aRow [.slice a0 n0 c0, .slice a1 n1 c1, .slice a2 n2 c2] 3 H) := fun a0 n0 c0 a1 n1 c1 a2 n2 c2 H => row_build row_44 3 _ H (by decide) rfl rfl
  simp (maxSteps := 10000000) only [↓exA, exB, exC, exN, exD, exR, tys, ↓reduceIte, Nat.reduceLT, Nat.reduceEqDiff, Nat.reduceAdd, Nat.zero_add, Nat.add_zero, List.map_cons, List.map_nil, Option.map_some, Option.map_none, Option.bind_some, List.length_cons, List.length_nil, List.cons_append, List.nil_append, List.append_nil, List.getElem?_cons_zero, List.getElem?_cons_succ, List.set_cons_zero, List.set_cons_succ, Nat.reduceLeDiff, and_self, and_true, true_and, gval, List.take_zero, List.take_succ_cons, List.drop_zero, List.drop_succ_cons, List.all_cons, List.all_nil, Bool.and_self, Bool.not_true, Bool.not_false, beq_true, beq_false, decide_true, decide_false, eq_self, Nat.reducePow, hL2, hb44]
  obtain ⟨p, hp⟩ := Int.eq_ofNat_of_zero_le hr2
  rw [hp] at good hr3
  rw [Int.toNat_natCast] at good
  have hp3 : p < 3 := by omega
  have x3 : (ext3 ++ [Blk.live false ((drawL (bs ++ [7]) nn).map fun x => Value.float .f32 x)])[ext3.length]? = some (.live false ((drawL (bs ++ [7]) nn).map fun x => .float .f32 x)) := getElem?_app_len ext3 _
  have x0' : (ext3 ++ [Blk.live false ((drawL (bs ++ [7]) nn).map fun x => Value.float .f32 x)])[0]? = some (.live false ((drawL bs nn).map fun x => .float .f32 x)) := by rw [List.getElem?_append_left (by omega)]; exact x0
  have x1' : (ext3 ++ [Blk.live false ((drawL (bs ++ [7]) nn).map fun x => Value.float .f32 x)])[1]? = some (.live false ((drawL ms nn).map fun x => .float .f32 x)) := by
    rw [List.getElem?_append_left (by have := (List.getElem?_eq_some_iff.1 x1).1; omega)]; exact x1
  generalize hext4 : ext3 ++ [Blk.live false ((drawL (bs ++ [7]) nn).map fun x => Value.float .f32 x)] = ext4 at *
  have hq4 : ext3.length < ext4.length := (List.getElem?_eq_some_iff.1 x3).1
  have lA : (drawL bs nn).length = nn := by simp [drawL, mapL]
  have lB : (drawL ms nn).length = nn := by simp [drawL, mapL]
  have lC : (drawL (bs ++ [7]) nn).length = nn := by simp [drawL, mapL]
  have hnn9 : nn ≤ 9 := by omega
  generalize drawL bs nn = A at *
  generalize drawL ms nn = B at *
  generalize drawL (bs ++ [7]) nn = C at *
  have y0 := getElem?_app_len ext4 (Blk.live false [.slice (some ⟨nb H 0, 0, none⟩) A.length A.length, .slice (some ⟨nb H 1, 0, none⟩) B.length B.length, .slice (some ⟨nb H ext3.length, 0, none⟩) C.length C.length])
  have hrd2 : rd2 (.slice (some ⟨nb H ext4.length, 0, none⟩) 3 3) (Abs.hp H (ext4 ++ [.live false [.slice (some ⟨nb H 0, 0, none⟩) A.length A.length, .slice (some ⟨nb H 1, 0, none⟩) B.length B.length, .slice (some ⟨nb H ext3.length, 0, none⟩) C.length C.length]])) = some [A, B, C] :=
    rd2_three y0 (by rw [List.getElem?_append_left (by omega)]; exact x0') (by rw [List.getElem?_append_left (by omega)]; exact x1') (by rw [List.getElem?_append_left (by omega)]; exact x3) (by omega) (by omega) (by omega)
  have hbq : (Abs.hp H (ext4 ++ [.live false [.slice (some ⟨nb H 0, 0, none⟩) A.length A.length, .slice (some ⟨nb H 1, 0, none⟩) B.length B.length, .slice (some ⟨nb H ext3.length, 0, none⟩) C.length C.length]]))[nb H ext4.length]? = some (.live false [.slice (some ⟨nb H 0, 0, none⟩) A.length A.length, .slice (some ⟨nb H 1, 0, none⟩) B.length B.length, .slice (some ⟨nb H ext3.length, 0, none⟩) C.length C.length]) := (hp_new _ _ _).trans y0
  have hrA : rd isF (.slice (some ⟨nb H 0, 0, none⟩) A.length A.length) (Abs.hp H (ext4 ++ [.live false [.slice (some ⟨nb H 0, 0, none⟩) A.length A.length, .slice (some ⟨nb H 1, 0, none⟩) B.length B.length, .slice (some ⟨nb H ext3.length, 0, none⟩) C.length C.length]])) = some A := rd_new _ _ (by rw [List.getElem?_append_left (by omega)]; exact x0') (mapM_isF A) (by simp) (by omega)
  have hrB : rd isF (.slice (some ⟨nb H 1, 0, none⟩) B.length B.length) (Abs.hp H (ext4 ++ [.live false [.slice (some ⟨nb H 0, 0, none⟩) A.length A.length, .slice (some ⟨nb H 1, 0, none⟩) B.length B.length, .slice (some ⟨nb H ext3.length, 0, none⟩) C.length C.length]])) = some B := rd_new _ _ (by rw [List.getElem?_append_left (by omega)]; exact x1') (mapM_isF B) (by simp) (by omega)
  have hrC : rd isF (.slice (some ⟨nb H ext3.length, 0, none⟩) C.length C.length) (Abs.hp H (ext4 ++ [.live false [.slice (some ⟨nb H 0, 0, none⟩) A.length A.length, .slice (some ⟨nb H 1, 0, none⟩) B.length B.length, .slice (some ⟨nb H ext3.length, 0, none⟩) C.length C.length]])) = some C := rd_new _ _ (by rw [List.getElem?_append_left (by omega)]; exact x3) (mapM_isF C) (by simp) (by omega)
  have hms := rd_hp hs' (ext4 ++ [.live false [.slice (some ⟨nb H 0, 0, none⟩) A.length A.length, .slice (some ⟨nb H 1, 0, none⟩) B.length B.length, .slice (some ⟨nb H ext3.length, 0, none⟩) C.length C.length]])
  have hpre : H <+: Abs.hp H (ext4 ++ [.live false [.slice (some ⟨nb H 0, 0, none⟩) A.length A.length, .slice (some ⟨nb H 1, 0, none⟩) B.length B.length, .slice (some ⟨nb H ext3.length, 0, none⟩) C.length C.length]]) := ⟨_, rfl⟩
  obtain ⟨H1, hH1⟩ : ∃ H1, Abs.hp H (ext4 ++ [.live false [.slice (some ⟨nb H 0, 0, none⟩) A.length A.length, .slice (some ⟨nb H 1, 0, none⟩) B.length B.length, .slice (some ⟨nb H ext3.length, 0, none⟩) C.length C.length]]) = Abs.hp H1 [] := ⟨_, (hp_nil _).symm⟩
  rw [hH1] at hrd2 hbq hrA hrB hrC hms hpre ⊢
  rw [hp_nil] at hrd2 hbq hrA hrB hrC hms hpre
  have o0 : oneB (Value.slice (some ⟨nb H 0, 0, none⟩) A.length A.length) = true := rfl
  have o1 : oneB (Value.slice (some ⟨nb H 1, 0, none⟩) B.length B.length) = true := rfl
  have o2 : oneB (Value.slice (some ⟨nb H ext3.length, 0, none⟩) C.length C.length) = true := rfl
  generalize (Value.slice (some ⟨nb H 0, 0, none⟩) A.length A.length) = s0 at *
  generalize (Value.slice (some ⟨nb H 1, 0, none⟩) B.length B.length) = s1 at *
  generalize (Value.slice (some ⟨nb H ext3.length, 0, none⟩) C.length C.length) = s2 at *
  generalize nb H ext4.length = bq at *
  clear x0 x1 x2 x3 x0' x1' hL2 hrd7 hap7 y0 p1 p2 p4 hext4
  have hcell : ∀ i, i < 3 → ∃ v, ([s0, s1, s2] : List Value)[i]? = some v ∧ oneB v = true ∧ rd isF v H1 = some ([A, B, C].getD i []) := by
    intro i hi
    have : i = 0 ∨ i = 1 ∨ i = 2 := by omega
    rcases this with h | h | h <;> subst h
    · exact ⟨s0, rfl, o0, hrA⟩
    · exact ⟨s1, rfl, o1, hrB⟩
    · exact ⟨s2, rfl, o2, hrC⟩
  obtain ⟨v, hv, ov, hrv⟩ := hcell p hp3
  have hidx : (bestN (farAt [A, B, C] ([A, B, C].getD p [])) 3).1 < 3 := by have := good.farI; omega
  obtain ⟨vi, hvi, ovi, hrvi⟩ := hcell _ hidx
  have hbq' := fun e => hp_old hbq e
  have hat1 : ∀ e, gAt [.slice a' n' c', .int .i64 1, .int .i64 3] (Abs.hp H1 e) = some (.int .i64 (p : Nat), Abs.hp H1 e) := fun e => by rw [gAt_eq (rd_hp hms e) (by decide) (by decide), hp]
  have hat2 : ∀ e, gAt [.slice a' n' c', .int .i64 2, .int .i64 8] (Abs.hp H1 e) = some (.int .i64 (at10 ms 2 8), Abs.hp H1 e) := fun e => gAt_eq (rd_hp hms e) (by decide) (by decide)
  have w1 : IntKind.i64.wrap (1 + at10 ms 2 8) = 1 + at10 ms 2 8 := wrap_i64 (by omega) (by omega)
  have hN : ∀ e, gNearest [.slice (some ⟨bq, 0, none⟩) 3 3, v] (Abs.hp H1 e) = _ := fun e => gNearest_eq (rd2_hp hrd2 e) (rd_hp hrv e) good.shp good.twoX good.finF
  have hserv : series ([A, B, C].getD p []) = true := (two_inv good.twoX).1
  have hW : ∀ e, gNearWarp [.slice (some ⟨bq, 0, none⟩) 3 3, v, .int .i64 4, .int .i64 (1 + at10 ms 2 8)] (Abs.hp H1 e) = _ := fun e => gNearWarp_eq (rd2_hp hrd2 e) (rd_hp hrv e) good.shp hserv (by decide) (by omega) good.wOk
  have hF01 : ∀ e, gFarS [s0, s1] (Abs.hp H1 e) = some (.tuple ⟨[.float .f32 (farL A B), .bool true]⟩, Abs.hp H1 e) := fun e => by
    rw [gFarS_eq (rd_hp hrA e) (rd_hp hrB e)]; unfold farV; rw [if_pos good.t01, ifV_yes good.f01]
  have hF10 : ∀ e, gFarS [s1, s0] (Abs.hp H1 e) = some (.tuple ⟨[.float .f32 (farL B A), .bool true]⟩, Abs.hp H1 e) := fun e => by
    rw [gFarS_eq (rd_hp hrB e) (rd_hp hrA e)]; unfold farV; rw [if_pos good.t10, ifV_yes good.f10]
  have htwi : two ([A, B, C].getD (bestN (farAt [A, B, C] ([A, B, C].getD p [])) 3).1 []) ([A, B, C].getD p []) = true := by
    obtain ⟨_, _, q3⟩ := shapes_two good.shp (i := (bestN (farAt [A, B, C] ([A, B, C].getD p [])) 3).1) hidx
    obtain ⟨r1, r2, r3, _⟩ := two_inv q3
    obtain ⟨t1, t2, t3, _⟩ := two_inv good.twoX
    have ha : [A, B, C].getD 0 [] = A := rfl
    rw [ha] at r3
    unfold two
    rw [r1, t1, r3, t3]; simp
  have hFi : ∀ e, gFarS [vi, v] (Abs.hp H1 e) = some (.tuple ⟨[.float .f32 (farL ([A, B, C].getD (bestN (farAt [A, B, C] ([A, B, C].getD p [])) 3).1 []) ([A, B, C].getD p [])), .bool true]⟩, Abs.hp H1 e) := fun e => by
    have hf : isFin (farL ([A, B, C].getD (bestN (farAt [A, B, C] ([A, B, C].getD p [])) 3).1 []) ([A, B, C].getD p [])) = true := good.finF _ hidx
    rw [gFarS_eq (rd_hp hrvi e) (rd_hp hrv e)]; unfold farV; rw [if_pos htwi, ifV_yes hf]
  have z0 : (0 : Int) ≤ 0 := Int.le_refl _
  have z1 : (0 : Int) ≤ 1 := by decide
  have z2 : (0 : Int) < ((3 : Nat) : Int) := by decide
  have z3 : (1 : Int) < ((3 : Nat) : Int) := by decide
  have z4 : Int.toNat 0 = 0 := rfl
  have z5 : Int.toNat 1 = 1 := rfl
  have hd1 : decide ((p : Int) < ((bestN (farAt [A, B, C] ([A, B, C].getD p [])) 3).1 : Nat)) = false := decide_eq_false (by have := good.farI; omega)
  have hd2 : decide ((((bestN (farAt [A, B, C] ([A, B, C].getD p [])) 3).1 : Nat) : Int) < 0) = false := by simp
  have hd3 : decide ((p : Int) < ((bestN (warpAt [A, B, C] ([A, B, C].getD p []) 4) 3).1 : Nat)) = false := decide_eq_false (by have := good.wI; omega)
  have hd4 : decide ((((bestN (warpAt [A, B, C] ([A, B, C].getD p []) 4) 3).1 : Nat) : Int) < 0) = false := by simp
  have hi3 : (((bestN (farAt [A, B, C] ([A, B, C].getD p [])) 3).1 : Nat) : Int) < ((3 : Nat) : Int) := by omega
  have hp3' : (p : Int) < ((3 : Nat) : Int) := by omega
  simp (maxSteps := 10000000) only [↓exA, exB, exC, exN, exD, exR, tys, ↓reduceIte, Nat.reduceLT, Nat.reduceEqDiff, Nat.reduceAdd, Nat.zero_add, Nat.add_zero, List.map_cons, List.map_nil, Option.map_some, Option.map_none, Option.bind_some, List.length_cons, List.length_nil, List.cons_append, List.nil_append, List.append_nil, List.getElem?_cons_zero, List.getElem?_cons_succ, List.set_cons_zero, List.set_cons_succ, Nat.reduceLeDiff, and_self, and_true, true_and, gval, List.take_zero, List.take_succ_cons, List.drop_zero, List.drop_succ_cons, List.all_cons, List.all_nil, Bool.and_self, Bool.not_true, Bool.not_false, beq_true, beq_false, decide_true, decide_false, eq_self, Nat.reducePow, hat1, hbq', Int.natCast_nonneg, hp3', Int.toNat_natCast, hv, ov, h21, hN, hat2, w1, h22, hW, z0, z1, z2, z3, z4, z5, o0, o1, h23, hF01, hF10, good.far0, good.w0, hd1, hd2, hd3, hd4, h15, gTwo_eq, good.same, h24, hi3, hvi, ovi, hFi]
  have hnI : 2 + at10 ms 0 8 = (nn : Int) := by omega
  have hxl : ([A, B, C].getD p []).length = nn := good.la p hp3
  cases hnb : normB ([A, B, C].getD p [])
  · simp (maxSteps := 10000000) only [↓exA, exB, exC, exN, exD, exR, tys, ↓reduceIte, Nat.reduceLT, Nat.reduceEqDiff, Nat.reduceAdd, Nat.zero_add, Nat.add_zero, List.map_cons, List.map_nil, Option.map_some, Option.map_none, Option.bind_some, List.length_cons, List.length_nil, List.cons_append, List.nil_append, List.append_nil, List.getElem?_cons_zero, List.getElem?_cons_succ, List.set_cons_zero, List.set_cons_succ, Nat.reduceLeDiff, and_self, and_true, true_and, gval, List.take_zero, List.take_succ_cons, List.drop_zero, List.drop_succ_cons, List.all_cons, List.all_nil, Bool.and_self, Bool.not_true, Bool.not_false, beq_true, beq_false, decide_true, decide_false, eq_self, Nat.reducePow, h25, gNorm_no (rd_hp hrv _) hnb, hbq', hv, h26, good.idx0]
    exact fits_pre rfl (hpre.trans ⟨_, rfl⟩)
  · have hnl : (normL ([A, B, C].getD p [])).length = nn := by unfold normL; rw [mapL_length, hxl]
    simp (maxSteps := 10000000) only [↓exA, exB, exC, exN, exD, exR, tys, ↓reduceIte, Nat.reduceLT, Nat.reduceEqDiff, Nat.reduceAdd, Nat.zero_add, Nat.add_zero, List.map_cons, List.map_nil, Option.map_some, Option.map_none, Option.bind_some, List.length_cons, List.length_nil, List.cons_append, List.nil_append, List.append_nil, List.getElem?_cons_zero, List.getElem?_cons_succ, List.set_cons_zero, List.set_cons_succ, Nat.reduceLeDiff, and_self, and_true, true_and, gval, List.take_zero, List.take_succ_cons, List.drop_zero, List.drop_succ_cons, List.all_cons, List.all_nil, Bool.and_self, Bool.not_true, Bool.not_false, beq_true, beq_false, decide_true, decide_false, eq_self, Nat.reducePow, h25, gNorm_yes (rd_hp hrv _) hnb, hbq', hv, h26, good.idx0]
    have hgt : ∀ i, i < nn → ((normL ([A, B, C].getD p [])).map fun x => Value.float .f32 x)[i]? = some (.float .f32 ((normL ([A, B, C].getD p [])).getD i 0)) := by
      intro i hi
      have hi' : i < (normL ([A, B, C].getD p [])).length := by rw [hnl]; exact hi
      rw [List.getElem?_map, getD_of hi', List.getElem?_eq_getElem hi']; rfl
    rw [hnl]
    have hsum := good.sum hnb
    have hsq := good.sq hnb
    unfold gapF at hsum hsq
    generalize hN0 : normL ([A, B, C].getD p []) = N at *
    refine X_loop (I := fun m t K => ∃ (g : Nat → Value) (i : Nat), t = mk 227 g ∧ K = Abs.hp H1 [.live false (N.map fun x => .float .f32 x), .live false (N.map fun x => .float .f32 x)] ∧ g 5 = .int .i64 (nn : Nat) ∧ g 22 = .slice (some ⟨nb H1 1, 0, none⟩) nn nn ∧ g 24 = .float .f64 (sum64 N i) ∧ g 25 = .float .f64 (sq64 N i)
      ∧ g 179 = .slice (some ⟨nb H1 1, 0, none⟩) nn nn ∧ g 180 = .int .i64 (nn : Nat) ∧ g 181 = .int .i64 (i : Nat) ∧ i + m = nn) (m := nn) ?_ ?_
    · rintro m t K ⟨g, i, rfl, rfl, g5, g22, g24, g25, g179, g180, g181, hm⟩
      simp (maxSteps := 10000000) only [↓exA, exB, exC, exN, exD, exR, tys, ↓reduceIte, Nat.reduceLT, Nat.reduceEqDiff, Nat.reduceAdd, Nat.zero_add, Nat.add_zero, List.map_cons, List.map_nil, Option.map_some, Option.map_none, Option.bind_some, List.length_cons, List.length_nil, List.cons_append, List.nil_append, List.append_nil, List.getElem?_cons_zero, List.getElem?_cons_succ, List.set_cons_zero, List.set_cons_succ, Nat.reduceLeDiff, and_self, and_true, true_and, gval, List.take_zero, List.take_succ_cons, List.drop_zero, List.drop_succ_cons, List.all_cons, List.all_nil, Bool.and_self, Bool.not_true, Bool.not_false, beq_true, beq_false, decide_true, decide_false, eq_self, Nat.reducePow, g5, g22, g24, g25, g179, g180, g181]
      refine condW_intro (fun c1 => ?_) (fun c1 => ?_) <;> (try simp only [Bool.not_eq_true', Bool.not_eq_eq_eq_not, Bool.not_true, Bool.not_false, beq_true, beq_false, beq_iff_eq, beq_eq_false_iff_ne, ne_eq, Bool.not_eq_false, Bool.not_eq_true, decide_eq_true_eq, decide_eq_false_iff_not, Bool.not_not] at c1)
      · have hi : i < nn := by omega
        have hg := hgt i hi
        simp (maxSteps := 10000000) only [↓exA, exB, exC, exN, exD, exR, tys, ↓reduceIte, Nat.reduceLT, Nat.reduceEqDiff, Nat.reduceAdd, Nat.zero_add, Nat.add_zero, List.map_cons, List.map_nil, Option.map_some, Option.map_none, Option.bind_some, List.length_cons, List.length_nil, List.cons_append, List.nil_append, List.append_nil, List.getElem?_cons_zero, List.getElem?_cons_succ, List.set_cons_zero, List.set_cons_succ, Nat.reduceLeDiff, and_self, and_true, true_and, gval, List.take_zero, List.take_succ_cons, List.drop_zero, List.drop_succ_cons, List.all_cons, List.all_nil, Bool.and_self, Bool.not_true, Bool.not_false, beq_true, beq_false, decide_true, decide_false, eq_self, Nat.reducePow, g5, g22, g24, g25, g179, g180, g181, c1, Int.natCast_nonneg, Int.toNat_natCast, hg, fconv_w64]
        refine ⟨m - 1, by omega, _, i + 1, rfl, rfl, ?_, ?_, ?_, ?_, ?_, ?_, ?_, by omega⟩
        · simp (maxSteps := 10000000) only [↓exA, exB, exC, exN, exD, exR, tys, ↓reduceIte, Nat.reduceLT, Nat.reduceEqDiff, Nat.reduceAdd, Nat.zero_add, Nat.add_zero, List.map_cons, List.map_nil, Option.map_some, Option.map_none, Option.bind_some, List.length_cons, List.length_nil, List.cons_append, List.nil_append, List.append_nil, List.getElem?_cons_zero, List.getElem?_cons_succ, List.set_cons_zero, List.set_cons_succ, Nat.reduceLeDiff, and_self, and_true, true_and, gval, List.take_zero, List.take_succ_cons, List.drop_zero, List.drop_succ_cons, List.all_cons, List.all_nil, Bool.and_self, Bool.not_true, Bool.not_false, beq_true, beq_false, decide_true, decide_false, eq_self, Nat.reducePow, g5]
        · simp (maxSteps := 10000000) only [↓exA, exB, exC, exN, exD, exR, tys, ↓reduceIte, Nat.reduceLT, Nat.reduceEqDiff, Nat.reduceAdd, Nat.zero_add, Nat.add_zero, List.map_cons, List.map_nil, Option.map_some, Option.map_none, Option.bind_some, List.length_cons, List.length_nil, List.cons_append, List.nil_append, List.append_nil, List.getElem?_cons_zero, List.getElem?_cons_succ, List.set_cons_zero, List.set_cons_succ, Nat.reduceLeDiff, and_self, and_true, true_and, gval, List.take_zero, List.take_succ_cons, List.drop_zero, List.drop_succ_cons, List.all_cons, List.all_nil, Bool.and_self, Bool.not_true, Bool.not_false, beq_true, beq_false, decide_true, decide_false, eq_self, Nat.reducePow, g22]
        · simp (maxSteps := 10000000) only [↓exA, exB, exC, exN, exD, exR, tys, ↓reduceIte, Nat.reduceLT, Nat.reduceEqDiff, Nat.reduceAdd, Nat.zero_add, Nat.add_zero, List.map_cons, List.map_nil, Option.map_some, Option.map_none, Option.bind_some, List.length_cons, List.length_nil, List.cons_append, List.nil_append, List.append_nil, List.getElem?_cons_zero, List.getElem?_cons_succ, List.set_cons_zero, List.set_cons_succ, Nat.reduceLeDiff, and_self, and_true, true_and, gval, List.take_zero, List.take_succ_cons, List.drop_zero, List.drop_succ_cons, List.all_cons, List.all_nil, Bool.and_self, Bool.not_true, Bool.not_false, beq_true, beq_false, decide_true, decide_false, eq_self, Nat.reducePow, sum64_succ]
        · simp (maxSteps := 10000000) only [↓exA, exB, exC, exN, exD, exR, tys, ↓reduceIte, Nat.reduceLT, Nat.reduceEqDiff, Nat.reduceAdd, Nat.zero_add, Nat.add_zero, List.map_cons, List.map_nil, Option.map_some, Option.map_none, Option.bind_some, List.length_cons, List.length_nil, List.cons_append, List.nil_append, List.append_nil, List.getElem?_cons_zero, List.getElem?_cons_succ, List.set_cons_zero, List.set_cons_succ, Nat.reduceLeDiff, and_self, and_true, true_and, gval, List.take_zero, List.take_succ_cons, List.drop_zero, List.drop_succ_cons, List.all_cons, List.all_nil, Bool.and_self, Bool.not_true, Bool.not_false, beq_true, beq_false, decide_true, decide_false, eq_self, Nat.reducePow, sq64_succ]
        · simp (maxSteps := 10000000) only [↓exA, exB, exC, exN, exD, exR, tys, ↓reduceIte, Nat.reduceLT, Nat.reduceEqDiff, Nat.reduceAdd, Nat.zero_add, Nat.add_zero, List.map_cons, List.map_nil, Option.map_some, Option.map_none, Option.bind_some, List.length_cons, List.length_nil, List.cons_append, List.nil_append, List.append_nil, List.getElem?_cons_zero, List.getElem?_cons_succ, List.set_cons_zero, List.set_cons_succ, Nat.reduceLeDiff, and_self, and_true, true_and, gval, List.take_zero, List.take_succ_cons, List.drop_zero, List.drop_succ_cons, List.all_cons, List.all_nil, Bool.and_self, Bool.not_true, Bool.not_false, beq_true, beq_false, decide_true, decide_false, eq_self, Nat.reducePow, g179]
        · simp (maxSteps := 10000000) only [↓exA, exB, exC, exN, exD, exR, tys, ↓reduceIte, Nat.reduceLT, Nat.reduceEqDiff, Nat.reduceAdd, Nat.zero_add, Nat.add_zero, List.map_cons, List.map_nil, Option.map_some, Option.map_none, Option.bind_some, List.length_cons, List.length_nil, List.cons_append, List.nil_append, List.append_nil, List.getElem?_cons_zero, List.getElem?_cons_succ, List.set_cons_zero, List.set_cons_succ, Nat.reduceLeDiff, and_self, and_true, true_and, gval, List.take_zero, List.take_succ_cons, List.drop_zero, List.drop_succ_cons, List.all_cons, List.all_nil, Bool.and_self, Bool.not_true, Bool.not_false, beq_true, beq_false, decide_true, decide_false, eq_self, Nat.reducePow, g180]
        · simp (maxSteps := 10000000) only [↓exA, exB, exC, exN, exD, exR, tys, ↓reduceIte, Nat.reduceLT, Nat.reduceEqDiff, Nat.reduceAdd, Nat.zero_add, Nat.add_zero, List.map_cons, List.map_nil, Option.map_some, Option.map_none, Option.bind_some, List.length_cons, List.length_nil, List.cons_append, List.nil_append, List.append_nil, List.getElem?_cons_zero, List.getElem?_cons_succ, List.set_cons_zero, List.set_cons_succ, Nat.reduceLeDiff, and_self, and_true, true_and, gval, List.take_zero, List.take_succ_cons, List.drop_zero, List.drop_succ_cons, List.all_cons, List.all_nil, Bool.and_self, Bool.not_true, Bool.not_false, beq_true, beq_false, decide_true, decide_false, eq_self, Nat.reducePow]
          rw [wrap_i64 (by omega) (by omega)]; simp
      · have hi : i = nn := by omega
        subst hi
        have hconv : ∀ q m, aConv Try.prog 2 39 (.int q m) = some (.float .f64 (FloatKind.f64.nearest m)) := conv_2_39
        simp (maxSteps := 10000000) only [↓exA, exB, exC, exN, exD, exR, tys, ↓reduceIte, Nat.reduceLT, Nat.reduceEqDiff, Nat.reduceAdd, Nat.zero_add, Nat.add_zero, List.map_cons, List.map_nil, Option.map_some, Option.map_none, Option.bind_some, List.length_cons, List.length_nil, List.cons_append, List.nil_append, List.append_nil, List.getElem?_cons_zero, List.getElem?_cons_succ, List.set_cons_zero, List.set_cons_succ, Nat.reduceLeDiff, and_self, and_true, true_and, gval, List.take_zero, List.take_succ_cons, List.drop_zero, List.drop_succ_cons, List.all_cons, List.all_nil, Bool.and_self, Bool.not_true, Bool.not_false, beq_true, beq_false, decide_true, decide_false, eq_self, Nat.reducePow, g5, g22, g24, g25, hconv, h17, gGap_eq, hsum, hsq]
        exact fits_pre rfl (hpre.trans ⟨_, rfl⟩)
    · refine ⟨_, 0, rfl, rfl, ?_, ?_, ?_, ?_, ?_, ?_, ?_, by omega⟩
      all_goals (try simp (maxSteps := 10000000) only [↓exA, exB, exC, exN, exD, exR, tys, ↓reduceIte, Nat.reduceLT, Nat.reduceEqDiff, Nat.reduceAdd, Nat.zero_add, Nat.add_zero, List.map_cons, List.map_nil, Option.map_some, Option.map_none, Option.bind_some, List.length_cons, List.length_nil, List.cons_append, List.nil_append, List.append_nil, List.getElem?_cons_zero, List.getElem?_cons_succ, List.set_cons_zero, List.set_cons_succ, Nat.reduceLeDiff, and_self, and_true, true_and, gval, List.take_zero, List.take_succ_cons, List.drop_zero, List.drop_succ_cons, List.all_cons, List.all_nil, Bool.and_self, Bool.not_true, Bool.not_false, beq_true, beq_false, decide_true, decide_false, eq_self, Nat.reducePow, hnI])
      all_goals (try rfl)

end Go.Proofs.Ytnhhdgopgecggaa.Abs
