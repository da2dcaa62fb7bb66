/- What the functions that draw a trend answer. No condition. -/
import Derived.Test.YtnhhdgopgecggaaFf
set_option linter.unusedVariables false
set_option linter.unusedSimpArgs false
set_option maxRecDepth 100000
set_option maxHeartbeats 4000000
namespace Go.Proofs.Ytnhhdgopgecggaa.Abs
open Go

theorem drawn_nonneg (bs : List Nat) (i sd : Int) : 0 ≤ drawn bs i sd := by
  unfold drawn
  split
  · exact Int.natCast_nonneg _
  · have h : (BitVec.ofInt 64 ((seedOf bs i sd).fdiv (2 ^ 40)) &&& BitVec.ofInt 64 255).toNat ≤ 255 := by
      rw [BitVec.toNat_and]
      exact Nat.le_trans Nat.and_le_right (by decide)
    generalize (BitVec.ofInt 64 ((seedOf bs i sd).fdiv (2 ^ 40)) &&& BitVec.ofInt 64 255).toNat = z at h
    have e1 : IntKind.u64.wrap (z : Int) = z := by
      simp only [IntKind.wrap, IntKind.bits, IntKind.signed, Bool.false_and, Bool.false_eq_true, if_false]
      omega
    rw [e1, wrap_i64 (by omega) (by omega)]
    exact Int.natCast_nonneg _

/-- The seed, and the place of the next byte, behind k draws. -/
def sdN (bs : List Nat) (i sd : Int) : Nat → Int
  | 0 => sd
  | k + 1 => seedOf bs (i + k) (sdN bs i sd k)
def pk (bs : List Nat) (i sd : Int) (k : Nat) (n : Int) : Int := (drawn bs (i + k) (sdN bs i sd k)).tmod n
theorem pk_range (bs : List Nat) (i sd : Int) (k : Nat) {n : Int} (hn : 1 ≤ n) : 0 ≤ pk bs i sd k n ∧ pk bs i sd k n < n := by
  unfold pk
  have := drawn_nonneg bs (i + k) (sdN bs i sd k)
  rw [Int.tmod_eq_emod_of_nonneg this]
  exact ⟨Int.emod_nonneg _ (by omega), Int.emod_lt_of_pos _ (by omega)⟩

def gPick (args : List Value) (H : AHeap) : Option (Value × AHeap) :=
  match args with
  | [.pointer (some ⟨p, 0, none⟩), .int .i64 n] => match srcOf H p with
    | some (s, bs, i, sd) => if n ≤ 1 then some (.int .i64 0, H) else if n ≤ 200 ∧ i + 1 < 2 ^ 41 then some (.int .i64 ((drawn bs i sd).tmod n), H.set p (.live false [s, .int .i64 (i + 1), .int .u64 (seedOf bs i sd)])) else none
    | none => none
  | _ => none
theorem gPick_eq {H : AHeap} {p : Nat} {s : Value} {bs : List Nat} {i sd n : Int} (h : Src H p s bs i sd) (h1 : 1 < n) (h2 : n ≤ 200) (h3 : i + 1 < 2 ^ 41) :
    gPick [.pointer (some ⟨p, 0, none⟩), .int .i64 n] H = some (.int .i64 ((drawn bs i sd).tmod n), H.set p (.live false [s, .int .i64 (i + 1), .int .u64 (seedOf bs i sd)])) := by
  unfold gPick
  simp only [srcOf_eq h]
  rw [if_neg (by omega), if_pos ⟨h2, h3⟩]
theorem Src.hp {H : AHeap} {p : Nat} {s : Value} {bs : List Nat} {i sd : Int} (h : Src H p s bs i sd) (e : AHeap) : Src (hp H e) p s bs i sd :=
  ⟨hp_old h.blk e, rd_hp h.bytes e, h.apart, h.i0, h.i1⟩
theorem Src.next {H : AHeap} {p : Nat} {s : Value} {bs : List Nat} {i sd : Int} (h : Src H p s bs i sd) {i' sd' : Int} (h0 : 0 ≤ i') (h1 : i' < 2 ^ 41) : Src (H.set p (.live false [s, .int .i64 i', .int .u64 sd'])) p s bs i' sd' := by
  have hpl : p < H.length := (List.getElem?_eq_some_iff.1 h.blk).1
  exact ⟨by rw [List.getElem?_set]; simp [hpl], by rw [rd_set h.apart]; exact h.bytes, h.apart, h0, h1⟩
theorem src_fits {H : AHeap} {p : Nat} {s : Value} {bs : List Nat} {i sd : Int} (h : Src H p s bs i sd) {r : Value} (hr : bare r = true) (i' sd' : Int) (e : AHeap) :
    Fits H r (H.set p (.live false [s, .int .i64 i', .int .u64 sd'])) r (Abs.hp (H.set p (.live false [s, .int .i64 i', .int .u64 sd'])) e) := by
  refine fits_set h.blk ?_ hr
  intro v hv
  simp only [List.mem_cons, List.not_mem_nil, or_false] at hv
  rcases hv with rfl | rfl | rfl
  · exact h.rv
  · exact .same rfl
  · exact .same rfl
theorem snd117 {G : Env} (hG : SoundEnv [] Try.prog G) (h139 : G 139 = gNext) : Sound [] Try.prog 117 gPick := by
  refine sound_of (rs := [.tmp 4]) (n := 20) hG mix Try.func117 rfl rfl rfl (by kernel_rfl) (by decide +kernel) (by decide +kernel) ?_
  intro args H r H' h
  unfold gPick at h
  split at h
  case h_2 => cases h
  rename_i p n
  split at h
  case h_2 => cases h
  rename_i s bs i sd hsrc
  have src := srcOf_src hsrc
  have hpl : p < H.length := (List.getElem?_eq_some_iff.1 src.blk).1
  split at h
  · rename_i c1; cases h
    refine ⟨by simp, ?_⟩
    simp (maxSteps := 10000000) only [↓exA, exB, exC, exN, exD, exR, tys, ↓reduceIte, Nat.reduceLT, Nat.reduceEqDiff, Nat.reduceAdd, Nat.zero_add, Nat.add_zero, List.map_cons, List.map_nil, Option.map_some, Option.map_none, Option.bind_some, List.length_cons, List.length_nil, List.cons_append, List.nil_append, List.append_nil, List.getElem?_cons_zero, List.getElem?_cons_succ, List.set_cons_zero, List.set_cons_succ, Nat.reduceLeDiff, and_self, and_true, true_and, gval, List.take_zero, List.take_succ_cons, List.drop_zero, List.drop_succ_cons, List.all_cons, List.all_nil, Bool.and_self, Bool.not_true, Bool.not_false, beq_true, beq_false, decide_true, decide_false, eq_self, Nat.reducePow, c1]
    exact fits_bare rfl
  · rename_i c1
    split at h
    case isFalse => cases h
    rename_i c2; cases h
    have c3 : ¬ 200 < n := by omega
    have hn0 : n ≠ 0 := by omega
    refine ⟨by simp, ?_⟩
    simp (maxSteps := 10000000) only [↓exA, exB, exC, exN, exD, exR, tys, ↓reduceIte, Nat.reduceLT, Nat.reduceEqDiff, Nat.reduceAdd, Nat.zero_add, Nat.add_zero, List.map_cons, List.map_nil, Option.map_some, Option.map_none, Option.bind_some, List.length_cons, List.length_nil, List.cons_append, List.nil_append, List.append_nil, List.getElem?_cons_zero, List.getElem?_cons_succ, List.set_cons_zero, List.set_cons_succ, Nat.reduceLeDiff, and_self, and_true, true_and, gval, List.take_zero, List.take_succ_cons, List.drop_zero, List.drop_succ_cons, List.all_cons, List.all_nil, Bool.and_self, Bool.not_true, Bool.not_false, beq_true, beq_false, decide_true, decide_false, eq_self, Nat.reducePow, c1, c3, h139, gNext_eq (src.hp []), oldset hpl, bin_irem _ _ _ _ _ _ _ hn0]
    exact src_fits src rfl _ _ _

def gFrom (args : List Value) (H : AHeap) : Option (Value × AHeap) :=
  match args with
  | [.slice a n c] => if apart (.slice a n c) H.length = true ∧ (rd isU8 (.slice a n c) H).isSome = true then some (aNew [.slice a n c, .int .i64 0, .int .u64 0] H) else none
  | _ => none
theorem gFrom_eq {a : Option Addr} {n c : Nat} {H : AHeap} {bs : List Nat} (ha : apart (.slice a n c) H.length = true) (hs : rd isU8 (.slice a n c) H = some bs) : gFrom [.slice a n c] H = some (aNew [.slice a n c, .int .i64 0, .int .u64 0] H) := by
  unfold gFrom
  dsimp only
  rw [if_pos ⟨ha, by rw [hs]; rfl⟩]
theorem build106 (a : Option Addr) (n c : Nat) : aBuild Try.prog 106 [(0, .slice a n c)] = some (.agg ⟨[.slice a n c, .int .i64 0, .int .u64 0]⟩) := build_of struct_106 _ rfl
theorem snd53 {G : Env} (hG : SoundEnv [] Try.prog G) : Sound [] Try.prog 53 gFrom := by
  refine sound_of (rs := [.tmp 2]) (n := 6) hG mix Try.func53 rfl rfl rfl (by kernel_rfl) (by decide +kernel) (by decide +kernel) ?_
  intro args H r H' h
  unfold gFrom at h
  split at h
  case h_2 => cases h
  rename_i a n c
  split at h
  case isFalse => cases h
  rename_i hc; cases h
  obtain ⟨bs, hbs⟩ := Option.isSome_iff_exists.1 hc.2
  obtain ⟨a', n', c', row⟩ := rd_row hbs
  refine ⟨by simp, ?_⟩
  simp (maxSteps := 10000000) only [↓exA, exB, exC, exN, exD, exR, tys, ↓reduceIte, Nat.reduceLT, Nat.reduceEqDiff, Nat.reduceAdd, Nat.zero_add, Nat.add_zero, List.map_cons, List.map_nil, Option.map_some, Option.map_none, Option.bind_some, List.length_cons, List.length_nil, List.cons_append, List.nil_append, List.append_nil, List.getElem?_cons_zero, List.getElem?_cons_succ, List.set_cons_zero, List.set_cons_succ, Nat.reduceLeDiff, and_self, and_true, true_and, gval, List.take_zero, List.take_succ_cons, List.drop_zero, List.drop_succ_cons, List.all_cons, List.all_nil, Bool.and_self, Bool.not_true, Bool.not_false, beq_true, beq_false, decide_true, decide_false, eq_self, Nat.reducePow, build106]
  have hrv : RV (rho H [0]) (.slice a n c) (.slice a n c) := by
    have he := row.eq
    cases he
    have ha := hc.1
    rcases row.place with ⟨rfl, rfl, rfl⟩ | ⟨b, off, rfl, hb⟩
    · exact .same rfl
    · simp only [apart, Bool.and_eq_true, beq_iff_eq] at ha
      obtain ⟨_, rfl⟩ := ha
      exact RV.old_slice hb
  have hptr : RV (rho H [0]) (.pointer (some ⟨H.length, 0, none⟩)) (.pointer (some ⟨nb H 0, 0, none⟩)) := by
    have := RV.ptr (ρ := rho H [0]) (b := H.length) (off := 0) (b1 := nb H 0) (o := 0) (by
      have := rho_new H [0] 0
      simpa [nb] using this)
    simpa using this
  refine fits_fresh (ks := [0]) (bs := [[.slice a n c, .int .i64 0, .int .u64 0]]) (by simp) ?_ rfl hptr
  intro i k hk
  cases i with
  | zero =>
    simp only [List.getElem?_cons_zero, Option.some.injEq] at hk; subst hk
    refine ⟨_, _, rfl, rfl, Nat.le_refl _, fun j v hj => ⟨v, hj, ?_⟩⟩
    match j, hj with
    | 0, hj => simp at hj; subst hj; exact hrv
    | 1, hj => simp at hj; subst hj; exact .same rfl
    | 2, hj => simp at hj; subst hj; exact .same rfl
    | j + 3, hj => simp at hj
  | succ i => simp at hk

/-! ### A drawn trend -/
def i32f (n : Int) : Nat := FloatKind.f32.nearest n
def trD (bs : List Nat) (i sd : Int) : List Value :=
  [.float .f32 (fbin .quo .f32 (i32f (pk bs i sd 0 17 - 8)) 1082130432), .float .f32 (fbin .quo .f32 (i32f (pk bs i sd 1 9 - 4)) 1082130432),
   .float .f32 (fbin .quo .f32 (i32f (pk bs i sd 2 9)) 1073741824), .float .f32 (fbin .quo .f32 (i32f (pk bs i sd 4 3 - 1)) 1090519040),
   .float .f32 (fbin .quo .f32 (i32f (pk bs i sd 3 5)) 1082130432), .float .f32 (fbin .quo .f32 (i32f (1 + pk bs i sd 5 8)) 1082130432),
   .float .f32 (fbin .quo .f32 (i32f (pk bs i sd 6 5)) 1090519040), .float .f32 (fbin .quo .f32 (i32f (pk bs i sd 7 5)) 1098907648)]
def gDrawT (args : List Value) (H : AHeap) : Option (Value × AHeap) :=
  match args with
  | [.pointer (some ⟨p, 0, none⟩)] => match srcOf H p with
    | some (s, bs, i, sd) => if i + 9 < 2 ^ 41 then some (.agg ⟨trD bs i sd⟩, H.set p (.live false [s, .int .i64 (i + 8), .int .u64 (sdN bs i sd 8)])) else none
    | none => none
  | _ => none
theorem gDrawT_eq {H : AHeap} {p : Nat} {s : Value} {bs : List Nat} {i sd : Int} (h : Src H p s bs i sd) (h3 : i + 9 < 2 ^ 41) :
    gDrawT [.pointer (some ⟨p, 0, none⟩)] H = some (.agg ⟨trD bs i sd⟩, H.set p (.live false [s, .int .i64 (i + 8), .int .u64 (sdN bs i sd 8)])) := by
  unfold gDrawT
  simp only [srcOf_eq h]
  rw [if_pos h3]
theorem build26_0 (x : Nat) : aBuild Try.prog 26 [(0, .float .f32 x)] = some (.agg ⟨[.float .f32 x, .float .f32 0, .float .f32 0, .float .f32 0, .float .f32 0, .float .f32 0, .float .f32 0, .float .f32 0]⟩) := build_of struct_26 _ rfl
theorem snd54 {G : Env} (hG : SoundEnv [] Try.prog G) (h117 : G 117 = gPick) : Sound [] Try.prog 54 gDrawT := by
  refine sound_of (rs := [.cell 2 26]) (n := 49) hG mix Try.func54 rfl rfl rfl (by kernel_rfl) (by decide +kernel) (by decide +kernel) ?_
  intro args H r H' h
  unfold gDrawT at h
  split at h
  case h_2 => cases h
  rename_i p
  split at h
  case h_2 => cases h
  rename_i s bs i sd hsrc
  split at h
  case isFalse => cases h
  rename_i hi; cases h
  have src := srcOf_src hsrc
  have hpl : p < H.length := (List.getElem?_eq_some_iff.1 src.blk).1
  have h0 := src.i0
  have q0 : ∀ e (n : Int), 1 < n → n ≤ 200 → gPick [.pointer (some ⟨p, 0, none⟩), .int .i64 n] (hp H e) = some (.int .i64 (pk bs i sd 0 n), hp (H.set p (.live false [s, .int .i64 (i + 1), .int .u64 (sdN bs i sd 1)])) e) := by
    intro e n h1 h2
    rw [gPick_eq (src.hp e) h1 h2 (by omega), (oldset hpl).1]
    simp [pk, sdN]
  have qs : ∀ (k : Nat) e (n : Int), k ≤ 7 → 1 < n → n ≤ 200 → gPick [.pointer (some ⟨p, 0, none⟩), .int .i64 n] (hp (H.set p (.live false [s, .int .i64 (i + k), .int .u64 (sdN bs i sd k)])) e) = some (.int .i64 (pk bs i sd k n), hp (H.set p (.live false [s, .int .i64 (i + (k + 1 : Nat)), .int .u64 (sdN bs i sd (k + 1))])) e) := by
    intro k e n hk h1 h2
    rw [gPick_eq ((src.next (i' := i + k) (by omega) (by omega)).hp e) h1 h2 (by omega), (oldset hpl).2.2.1]
    simp only [pk, sdN]
    rw [show i + k + 1 = i + (k + 1 : Nat) by omega]
  have r := fun k n (hn : (1 : Int) ≤ n) => pk_range bs i sd k hn
  have w0 : IntKind.i64.wrap (pk bs i sd 0 17 - 8) = pk bs i sd 0 17 - 8 := by have := r 0 17 (by decide); exact wrap_i64 (by omega) (by omega)
  have w1 : IntKind.i64.wrap (pk bs i sd 1 9 - 4) = pk bs i sd 1 9 - 4 := by have := r 1 9 (by decide); exact wrap_i64 (by omega) (by omega)
  have w4 : IntKind.i64.wrap (pk bs i sd 4 3 - 1) = pk bs i sd 4 3 - 1 := by have := r 4 3 (by decide); exact wrap_i64 (by omega) (by omega)
  have w5 : IntKind.i64.wrap (1 + pk bs i sd 5 8) = 1 + pk bs i sd 5 8 := by have := r 5 8 (by decide); exact wrap_i64 (by omega) (by omega)
  have q0' : ∀ e, gPick [.pointer (some ⟨p, 0, none⟩), .int .i64 17] (hp H e) = some (.int .i64 (pk bs i sd 0 17), hp (H.set p (.live false [s, .int .i64 (i + 1), .int .u64 (sdN bs i sd 1)])) e) := fun e => q0 e 17 (by decide) (by decide)
  have q1' : ∀ e, gPick [.pointer (some ⟨p, 0, none⟩), .int .i64 9] (hp (H.set p (.live false [s, .int .i64 (i + 1), .int .u64 (sdN bs i sd 1)])) e) = some (.int .i64 (pk bs i sd 1 9), hp (H.set p (.live false [s, .int .i64 (i + 2), .int .u64 (sdN bs i sd 2)])) e) := fun e => by simpa using qs 1 e 9 (by decide) (by decide) (by decide)
  have q2' : ∀ e, gPick [.pointer (some ⟨p, 0, none⟩), .int .i64 9] (hp (H.set p (.live false [s, .int .i64 (i + 2), .int .u64 (sdN bs i sd 2)])) e) = some (.int .i64 (pk bs i sd 2 9), hp (H.set p (.live false [s, .int .i64 (i + 3), .int .u64 (sdN bs i sd 3)])) e) := fun e => by simpa using qs 2 e 9 (by decide) (by decide) (by decide)
  have q3' : ∀ e, gPick [.pointer (some ⟨p, 0, none⟩), .int .i64 5] (hp (H.set p (.live false [s, .int .i64 (i + 3), .int .u64 (sdN bs i sd 3)])) e) = some (.int .i64 (pk bs i sd 3 5), hp (H.set p (.live false [s, .int .i64 (i + 4), .int .u64 (sdN bs i sd 4)])) e) := fun e => by simpa using qs 3 e 5 (by decide) (by decide) (by decide)
  have q4' : ∀ e, gPick [.pointer (some ⟨p, 0, none⟩), .int .i64 3] (hp (H.set p (.live false [s, .int .i64 (i + 4), .int .u64 (sdN bs i sd 4)])) e) = some (.int .i64 (pk bs i sd 4 3), hp (H.set p (.live false [s, .int .i64 (i + 5), .int .u64 (sdN bs i sd 5)])) e) := fun e => by simpa using qs 4 e 3 (by decide) (by decide) (by decide)
  have q5' : ∀ e, gPick [.pointer (some ⟨p, 0, none⟩), .int .i64 8] (hp (H.set p (.live false [s, .int .i64 (i + 5), .int .u64 (sdN bs i sd 5)])) e) = some (.int .i64 (pk bs i sd 5 8), hp (H.set p (.live false [s, .int .i64 (i + 6), .int .u64 (sdN bs i sd 6)])) e) := fun e => by simpa using qs 5 e 8 (by decide) (by decide) (by decide)
  have q6' : ∀ e, gPick [.pointer (some ⟨p, 0, none⟩), .int .i64 5] (hp (H.set p (.live false [s, .int .i64 (i + 6), .int .u64 (sdN bs i sd 6)])) e) = some (.int .i64 (pk bs i sd 6 5), hp (H.set p (.live false [s, .int .i64 (i + 7), .int .u64 (sdN bs i sd 7)])) e) := fun e => by simpa using qs 6 e 5 (by decide) (by decide) (by decide)
  have q7' : ∀ e, gPick [.pointer (some ⟨p, 0, none⟩), .int .i64 5] (hp (H.set p (.live false [s, .int .i64 (i + 7), .int .u64 (sdN bs i sd 7)])) e) = some (.int .i64 (pk bs i sd 7 5), hp (H.set p (.live false [s, .int .i64 (i + 8), .int .u64 (sdN bs i sd 8)])) e) := fun e => by simpa using qs 7 e 5 (by decide) (by decide) (by decide)
  refine ⟨by simp, ?_⟩
  simp (maxSteps := 10000000) only [↓exA, exB, exC, exN, exD, exR, tys, ↓reduceIte, Nat.reduceLT, Nat.reduceEqDiff, Nat.reduceAdd, Nat.zero_add, Nat.add_zero, List.map_cons, List.map_nil, Option.map_some, Option.map_none, Option.bind_some, List.length_cons, List.length_nil, List.cons_append, List.nil_append, List.append_nil, List.getElem?_cons_zero, List.getElem?_cons_succ, List.set_cons_zero, List.set_cons_succ, Nat.reduceLeDiff, and_self, and_true, true_and, gval, List.take_zero, List.take_succ_cons, List.drop_zero, List.drop_succ_cons, List.all_cons, List.all_nil, Bool.and_self, Bool.not_true, Bool.not_false, beq_true, beq_false, decide_true, decide_false, eq_self, Nat.reducePow, h117, q0', q1', q2', q3', q4', q5', q6', q7', w0, w1, w4, w5, build26_0, oldset hpl]
  refine src_fits src ?_ _ _ _
  rfl

/-- The trend from which the law starts. -/
def trB (bs : List Nat) : List Value :=
  [.float .f32 (fbin .quo .f32 (i32f (pk bs 0 0 0 17 - 8)) 1082130432), .float .f32 (fbin .quo .f32 (i32f (pk bs 0 0 1 9 - 4)) 1082130432),
   .float .f32 (fbin .add .f32 (fbin .quo .f32 (i32f (pk bs 0 0 2 9)) 1073741824) 1056964608), .float .f32 (fbin .quo .f32 (i32f (pk bs 0 0 4 3 - 1)) 1090519040),
   .float .f32 (fbin .add .f32 (fbin .quo .f32 (i32f (pk bs 0 0 3 5)) 1082130432) 1048576000), .float .f32 (fbin .quo .f32 (i32f (1 + pk bs 0 0 5 8)) 1082130432),
   .float .f32 (fbin .quo .f32 (i32f (pk bs 0 0 6 5)) 1090519040), .float .f32 (fbin .quo .f32 (i32f (pk bs 0 0 7 5)) 1098907648)]
def gTrendB (args : List Value) (H : AHeap) : Option (Value × AHeap) :=
  match args with
  | [.slice a n c] => match rd isU8 (.slice a n c) H with
    | some bs => if apart (.slice a n c) H.length = true then some (.agg ⟨trB bs⟩, H) else none
    | none => none
  | _ => none
theorem gTrendB_eq {a : Option Addr} {n c : Nat} {H : AHeap} {bs : List Nat} (ha : apart (.slice a n c) H.length = true) (hs : rd isU8 (.slice a n c) H = some bs) : gTrendB [.slice a n c] H = some (.agg ⟨trB bs⟩, H) := by
  unfold gTrendB
  simp only [hs, ha, if_true]
theorem apart_new {α : Type} {is : Value → Option α} {s : Value} {H : AHeap} {xs : List α} (hs : rd is s H = some xs) (ha : apart s H.length = true) (k : Nat) : apart s (nb H k) = true := by
  obtain ⟨a, n, c, row⟩ := rd_row hs
  cases row.eq
  rcases row.place with ⟨rfl, rfl, rfl⟩ | ⟨b, off, rfl, hbl⟩
  · rfl
  · skip
    simp only [apart, Bool.and_eq_true, bne_iff_ne, beq_iff_eq] at ha ⊢
    refine ⟨?_, ha.2⟩
    unfold nb
    intro e
    have : b = H.length + k := e
    omega
theorem snd8 {G : Env} (hG : SoundEnv [] Try.prog G) (h53 : G 53 = gFrom) (h54 : G 54 = gDrawT) : Sound [] Try.prog 8 gTrendB := by
  refine sound_of (rs := [.cell 2 26]) (n := 18) hG mix Try.func8 rfl rfl rfl (by kernel_rfl) (by decide +kernel) (by decide +kernel) ?_
  intro args H r H' h
  unfold gTrendB at h
  split at h
  case h_2 => cases h
  rename_i a n c
  split at h
  case h_2 => cases h
  rename_i bs hs
  split at h
  case isFalse => cases h
  rename_i ha; cases h
  have hf : ∀ e, gFrom [.slice a n c] (hp H e) = some (aNew [.slice a n c, .int .i64 0, .int .u64 0] (hp H e)) := by
    intro e
    refine gFrom_eq ?_ (rd_hp hs e)
    rw [hp_length]
    exact apart_new hs ha _
  have hsrc : ∀ z, Src (hp H [z, .live false [.slice a n c, .int .i64 0, .int .u64 0]]) (nb H 1) (.slice a n c) bs 0 0 := by
    intro z
    refine ⟨by rw [hp_new]; rfl, rd_hp hs _, ?_, by decide, by decide⟩
    exact apart_new hs ha _
  refine ⟨by simp, ?_⟩
  simp (maxSteps := 10000000) only [↓exA, exB, exC, exN, exD, exR, tys, ↓reduceIte, Nat.reduceLT, Nat.reduceEqDiff, Nat.reduceAdd, Nat.zero_add, Nat.add_zero, List.map_cons, List.map_nil, Option.map_some, Option.map_none, Option.bind_some, List.length_cons, List.length_nil, List.cons_append, List.nil_append, List.append_nil, List.getElem?_cons_zero, List.getElem?_cons_succ, List.set_cons_zero, List.set_cons_succ, Nat.reduceLeDiff, and_self, and_true, true_and, gval, List.take_zero, List.take_succ_cons, List.drop_zero, List.drop_succ_cons, List.all_cons, List.all_nil, Bool.and_self, Bool.not_true, Bool.not_false, beq_true, beq_false, decide_true, decide_false, eq_self, Nat.reducePow, h53, h54, hf, gDrawT_eq (hsrc _) (show (0 : Int) + 9 < 2 ^ 41 by decide), trD]
  exact fits_bare rfl

end Go.Proofs.Ytnhhdgopgecggaa.Abs
