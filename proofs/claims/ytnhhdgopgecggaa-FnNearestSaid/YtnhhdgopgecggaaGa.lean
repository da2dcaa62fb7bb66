/- The square root's functions. No condition. -/
import Derived.Test.YtnhhdgopgecggaaAbsSq
import Derived.Test.YtnhhdgopgecggaaFl
set_option linter.unusedVariables false
set_option linter.unusedSimpArgs false
set_option maxRecDepth 100000
set_option maxHeartbeats 4000000
namespace Go.Proofs.Ytnhhdgopgecggaa.Abs
open Go Ieee

theorem fconv_nan {s k : FloatKind} {x : Nat} (hne : s ≠ k) (h : nanB s x = true) : fconv s x k = some (nanOf k) := by
  unfold fconv; rw [if_neg hne, if_pos h]
theorem fconv_inf {s k : FloatKind} {x : Nat} {b : Bool} (hne : s ≠ k) (h : s.decode x = .infinity b) : fconv s x k = some (k.encode (.infinity b)) := by
  unfold fconv
  have hn : nanB s x = false := by unfold nanB; rw [h]; rfl
  rw [if_neg hne, hn]
  unfold floatToFloatBits
  rw [if_neg hne, h]; rfl
theorem isNum_inf {k : FloatKind} {w : Nat} (h : isNum k w = true) : (k.decode w).isInfinity = false := by
  obtain ⟨s, m, p, hd, _⟩ := isNum_iff h
  rw [hd]; rfl
/-- A number of 64 bits that is not too great, with 32 bits. -/
theorem fconv_num {x : Nat} (h : isNum .f64 x = true) (h1 : fv .f64 x < p2 (top .f32)) (h2 : -(fv .f64 x) < p2 (top .f32)) : ∃ y, fconv .f64 x .f32 = some y ∧ Rnd .f32 (fv .f64 x) y := by
  obtain ⟨s, m, p, hd, hv⟩ := isNum_iff h
  have r : Rnd .f32 (fv .f64 x) (FloatKind.f32.encode (.number s m p)) := enc_sgn hv.symm h1 h2
  refine ⟨_, ?_, r⟩
  unfold fconv
  rw [if_neg (by decide), isNum_nan h]
  unfold floatToFloatBits
  rw [if_neg (by decide), hd]
  have := isNum_inf r.num
  rw [if_neg (by decide)]
  dsimp only
  rw [if_neg (by rw [this]; decide)]
theorem fv_bound {k : FloatKind} {x : Nat} (h : isNum k x = true) : fv k x < p2 (top k + 1) ∧ -(fv k x) < p2 (top k + 1) := by
  obtain ⟨s, m, p, hd, hv, h1, h2, h3⟩ := isNum_lt h
  have e1 : (m : Rat) * p2 p < p2 (((fb k + 1 : Nat) : Int)) * p2 p := Rat.mul_lt_mul_of_pos_right (by
    rw [p2_nat]; exact Rat.natCast_lt_natCast.2 h1) (p2_pos p)
  rw [← p2_add] at e1
  have e2 := p2_mono (show ((fb k + 1 : Nat) : Int) + p ≤ top k + 1 by omega)
  have e3 := natmul_nonneg m p
  have e4 := p2_pos (top k + 1)
  rw [hv]
  rcases sg_cases s with e | e <;> rw [e] <;> constructor <;> grind
theorem root_ex (x : Nat) : ∃ y, fconv .f64 (fsqrt (w64 x)) .f32 = some y := by
  by_cases hn : isNum .f32 x = true
  · obtain ⟨v1, v2⟩ := w64_val hn
    by_cases h0 : 0 ≤ fv .f64 (w64 x)
    · have hb := (fv_bound hn).1
      have h300 : fv .f64 (w64 x) ≤ p2 300 := by
        have := p2_mono (show top .f32 + 1 ≤ 300 by decide)
        rw [v2]; grind
      obtain ⟨n1, n2, _, V, u, u0, V0, uV, s1, s2, r⟩ := rnd_sqrt v1 h0 h300
      have hVu : V - u ≤ p2 65 := by
        by_cases hh : V - u ≤ p2 65
        · exact hh
        · exfalso
          have h5 : p2 65 ≤ V - u := by grind
          have a1 := Rat.mul_le_mul_of_nonneg_right h5 (Rat.le_of_lt (p2_pos 65))
          have a2 := Rat.mul_le_mul_of_nonneg_left h5 (show 0 ≤ V - u by have := p2_pos 65; grind)
          have a3 : p2 65 * p2 65 = p2 130 := by rw [← p2_add]; rfl
          have a4 := p2_mono (show top .f32 + 1 ≤ 130 by decide)
          rw [v2] at s1
          grind
      have hu : u ≤ 1 / 1024 * V := by
        have q : (1024 : Rat) ≤ p2 50 := by decide +kernel
        have := Rat.mul_le_mul_of_nonneg_left q u0
        grind
      have hV : V ≤ p2 66 := by
        have := p2_succ 65
        rw [show (65 : Int) + 1 = 66 by decide] at this
        have := p2_pos 65
        grind
      have hrel := r.rel V (by grind) (by grind)
      have q1 : p2 (-(fb .f64 : Int)) ≤ 1 / 1024 := by decide +kernel
      have q2 := Rat.mul_le_mul_of_nonneg_left q1 V0
      have q3 : p2 (lp .f64) ≤ 1 := by
        rw [← p2_zero]; exact p2_mono (by decide)
      have q4 : p2 67 ≤ p2 (top .f32) := p2_mono (by decide)
      have q5 := p2_succ 66
      rw [show (66 : Int) + 1 = 67 by decide] at q5
      have q6 : (4 : Rat) ≤ p2 66 := by decide +kernel
      obtain ⟨y, hy, _⟩ := fconv_num n1 (by grind) (by grind)
      exact ⟨y, hy⟩
    · have hno : FloatKind.f64.format.sqrt (w64 x) = none := by
        obtain ⟨s, m, p, hd, hv⟩ := isNum_iff v1
        have hd' : FloatKind.f64.format.read (w64 x) = .number s m p := hd
        have hmp := natmul_nonneg m p
        have hs : s = true := by
          cases s
          · exfalso; rw [hv] at h0; simp only [sg, Bool.false_eq_true, if_false] at h0; grind
          · rfl
        have hm : m ≠ 0 := by
          intro e; subst e; rw [hv] at h0; exact h0 (by simp)
        unfold Format.sqrt
        rw [hd', hs]
        unfold Datum.root
        dsimp only
        rw [if_neg hm, if_pos rfl]; rfl
      have : fsqrt (w64 x) = nanOf .f64 := by unfold fsqrt; rw [hno]; rfl
      rw [this]
      exact ⟨_, fconv_nan (by decide) (nanB_nanOf _)⟩
  · cases hd : FloatKind.f32.decode x with
    | number s m p => exact absurd (by unfold isNum; rw [hd]; rfl) hn
    | infinity s =>
      have hw : w64 x = FloatKind.f64.encode (.infinity s) := by
        have := fconv_w64 x
        rw [fconv_inf (by decide) hd] at this
        exact (Option.some.inj this).symm
      cases s
      · have e : fsqrt (w64 x) = FloatKind.f64.encode (.infinity false) := by rw [hw]; decide +kernel
        rw [e]
        exact ⟨_, fconv_inf (b := false) (by decide) (by decide +kernel)⟩
      · have e : fsqrt (w64 x) = nanOf .f64 := by rw [hw]; decide +kernel
        rw [e]
        exact ⟨_, fconv_nan (by decide) (nanB_nanOf _)⟩
    | nan s t =>
      have hnn : nanB .f32 x = true := by unfold nanB; rw [hd]; rfl
      have hw : w64 x = nanOf .f64 := by
        have := fconv_w64 x
        rw [fconv_nan (by decide) hnn] at this
        exact (Option.some.inj this).symm
      have e : fsqrt (w64 x) = nanOf .f64 := by rw [hw]; decide +kernel
      rw [e]
      exact ⟨_, fconv_nan (by decide) (nanB_nanOf _)⟩
/-- The square root of a 32-bit number. -/
def root (x : Nat) : Nat := (fconv .f64 (fsqrt (w64 x)) .f32).getD 0
theorem fconv_root (x : Nat) : fconv .f64 (fsqrt (w64 x)) .f32 = some (root x) := by
  obtain ⟨y, h⟩ := root_ex x
  unfold root; rw [h]; rfl

theorem snd145 : Sound [] Try.prog 145 gSqrt :=
  ext_sound (e := Extern.MathSqrt.sqrt) Try.func145 (by kernel_rfl) rfl (by kernel_rfl) (by kernel_rfl) fun args H r H' μ cargs w h rel ha => sqrt_sound h rel ha
theorem snd131 {G : Env} (hG : SoundEnv [] Try.prog G) (h145 : G 145 = gSqrt) : Sound [] Try.prog 131 gSqrt := by
  refine sound_of (rs := [.tmp 2]) (n := 5) hG mix Try.func131 rfl rfl rfl (by kernel_rfl) (by decide +kernel) (by decide +kernel) ?_
  intro args H r H' h
  unfold gSqrt at h
  split at h
  case h_2 => cases h
  rename_i x
  cases h
  refine ⟨by simp, ?_⟩
  simp (maxSteps := 10000000) only [↓exA, exB, exC, exN, exD, exR, tys, ↓reduceIte, Nat.reduceLT, Nat.reduceEqDiff, Nat.reduceAdd, Nat.zero_add, Nat.add_zero, List.map_cons, List.map_nil, Option.map_some, Option.map_none, Option.bind_some, List.length_cons, List.length_nil, List.cons_append, List.nil_append, List.append_nil, List.getElem?_cons_zero, List.getElem?_cons_succ, List.set_cons_zero, List.set_cons_succ, Nat.reduceLeDiff, and_self, and_true, true_and, gval, List.take_zero, List.take_succ_cons, List.drop_zero, List.drop_succ_cons, List.all_cons, List.all_nil, Bool.and_self, Bool.not_true, Bool.not_false, beq_true, beq_false, decide_true, decide_false, eq_self, Nat.reducePow, h145, gSqrt_eq]
  exact fits_bare rfl
def gRoot (args : List Value) (H : AHeap) : Option (Value × AHeap) :=
  match args with
  | [.float .f32 x] => some (.float .f32 (root x), H)
  | _ => none
theorem gRoot_eq (x : Nat) (H : AHeap) : gRoot [.float .f32 x] H = some (.float .f32 (root x), H) := rfl
theorem snd84 {G : Env} (hG : SoundEnv [] Try.prog G) (h131 : G 131 = gSqrt) : Sound [] Try.prog 84 gRoot := by
  refine sound_of (rs := [.tmp 2]) (n := 7) hG mix Try.func84 rfl rfl rfl (by kernel_rfl) (by decide +kernel) (by decide +kernel) ?_
  intro args H r H' h
  unfold gRoot at h
  split at h
  case h_2 => cases h
  rename_i x
  cases h
  refine ⟨by simp, ?_⟩
  simp (maxSteps := 10000000) only [↓exA, exB, exC, exN, exD, exR, tys, ↓reduceIte, Nat.reduceLT, Nat.reduceEqDiff, Nat.reduceAdd, Nat.zero_add, Nat.add_zero, List.map_cons, List.map_nil, Option.map_some, Option.map_none, Option.bind_some, List.length_cons, List.length_nil, List.cons_append, List.nil_append, List.append_nil, List.getElem?_cons_zero, List.getElem?_cons_succ, List.set_cons_zero, List.set_cons_succ, Nat.reduceLeDiff, and_self, and_true, true_and, gval, List.take_zero, List.take_succ_cons, List.drop_zero, List.drop_succ_cons, List.all_cons, List.all_nil, Bool.and_self, Bool.not_true, Bool.not_false, beq_true, beq_false, decide_true, decide_false, eq_self, Nat.reducePow, h131, gSqrt_eq, fconv_w64, fconv_root]
  exact fits_bare rfl
def gNarrow (args : List Value) (H : AHeap) : Option (Value × AHeap) :=
  match args with
  | [.float .f64 x] => (fconv .f64 x .f32).map fun y => (.float .f32 y, H)
  | _ => none
theorem snd144 {G : Env} (hG : SoundEnv [] Try.prog G) : Sound [] Try.prog 144 gNarrow := by
  refine sound_of (rs := [.tmp 2]) (n := 5) hG mix Try.func144 rfl rfl rfl (by kernel_rfl) (by decide +kernel) (by decide +kernel) ?_
  intro args H r H' h
  unfold gNarrow at h
  split at h
  case h_2 => cases h
  rename_i x
  simp only [Option.map_eq_some_iff] at h
  obtain ⟨y, hy, h⟩ := h
  cases h
  refine ⟨by simp, ?_⟩
  simp (maxSteps := 10000000) only [↓exA, exB, exC, exN, exD, exR, tys, ↓reduceIte, Nat.reduceLT, Nat.reduceEqDiff, Nat.reduceAdd, Nat.zero_add, Nat.add_zero, List.map_cons, List.map_nil, Option.map_some, Option.map_none, Option.bind_some, List.length_cons, List.length_nil, List.cons_append, List.nil_append, List.append_nil, List.getElem?_cons_zero, List.getElem?_cons_succ, List.set_cons_zero, List.set_cons_succ, Nat.reduceLeDiff, and_self, and_true, true_and, gval, List.take_zero, List.take_succ_cons, List.drop_zero, List.drop_succ_cons, List.all_cons, List.all_nil, Bool.and_self, Bool.not_true, Bool.not_false, beq_true, beq_false, decide_true, decide_false, eq_self, Nat.reducePow, hy]
  exact fits_bare rfl
theorem gNarrow_root (x : Nat) (H : AHeap) : gNarrow [.float .f64 (fsqrt (w64 x))] H = some (.float .f32 (root x), H) := by
  unfold gNarrow
  dsimp only
  rw [fconv_root]; rfl
theorem snd129 {G : Env} (hG : SoundEnv [] Try.prog G) (h131 : G 131 = gSqrt) (h144 : G 144 = gNarrow) : Sound [] Try.prog 129 gRoot := by
  refine sound_of (rs := [.tmp 2]) (n := 7) hG mix Try.func129 rfl rfl rfl (by kernel_rfl) (by decide +kernel) (by decide +kernel) ?_
  intro args H r H' h
  unfold gRoot at h
  split at h
  case h_2 => cases h
  rename_i x
  cases h
  refine ⟨by simp, ?_⟩
  simp (maxSteps := 10000000) only [↓exA, exB, exC, exN, exD, exR, tys, ↓reduceIte, Nat.reduceLT, Nat.reduceEqDiff, Nat.reduceAdd, Nat.zero_add, Nat.add_zero, List.map_cons, List.map_nil, Option.map_some, Option.map_none, Option.bind_some, List.length_cons, List.length_nil, List.cons_append, List.nil_append, List.append_nil, List.getElem?_cons_zero, List.getElem?_cons_succ, List.set_cons_zero, List.set_cons_succ, Nat.reduceLeDiff, and_self, and_true, true_and, gval, List.take_zero, List.take_succ_cons, List.drop_zero, List.drop_succ_cons, List.all_cons, List.all_nil, Bool.and_self, Bool.not_true, Bool.not_false, beq_true, beq_false, decide_true, decide_false, eq_self, Nat.reducePow, h131, gSqrt_eq, fconv_w64, h144, gNarrow_root]
  exact fits_bare rfl

end Go.Proofs.Ytnhhdgopgecggaa.Abs
