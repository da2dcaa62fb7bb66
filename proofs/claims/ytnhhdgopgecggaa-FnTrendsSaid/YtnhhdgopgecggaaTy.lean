/- A trend that sees a line follows it: how far it is away after sixty steps. No condition. -/
import Derived.Test.YtnhhdgopgecggaaTx
import Derived.Test.YtnhhdgopgecggaaFi
set_option linter.unusedVariables false
set_option linter.unusedSimpArgs false
namespace Go.Proofs.Ytnhhdgopgecggaa.Abs
open Go Ieee

/-! ### The order of words -/
theorem fv_norm {w : Nat} (h : Nrm w) : fv .f32 w = ((8388608 + w % 8388608 : Nat) : Rat) * p2 ((w / 8388608 : Nat) - 150 : Int) := by
  unfold fv; rw [dec_norm h]
  unfold dv sg
  simp only [Bool.false_eq_true, if_false, Rat.one_mul]
theorem fv_norm_mono {w w' : Nat} (h : Nrm w) (h' : Nrm w') (hle : w ≤ w') : fv .f32 w ≤ fv .f32 w' := by
  rw [fv_norm h, fv_norm h']
  by_cases he : w / 8388608 = w' / 8388608
  · rw [he]
    have : 8388608 + w % 8388608 ≤ 8388608 + w' % 8388608 := by omega
    exact Rat.mul_le_mul_of_nonneg_right (Rat.natCast_le_natCast.2 this) (Rat.le_of_lt (p2_pos _))
  · have hlt : w / 8388608 + 1 ≤ w' / 8388608 := by omega
    have hp := p2_pos ((w / 8388608 : Nat) - 150 : Int)
    have h1 : ((8388608 + w % 8388608 : Nat) : Rat) ≤ ((2 * 8388608 : Nat) : Rat) := Rat.natCast_le_natCast.2 (by omega)
    have h2 : ((8388608 : Nat) : Rat) ≤ ((8388608 + w' % 8388608 : Nat) : Rat) := Rat.natCast_le_natCast.2 (by omega)
    have h3 : p2 ((w / 8388608 : Nat) - 150 + 1 : Int) ≤ p2 ((w' / 8388608 : Nat) - 150 : Int) := p2_mono (by omega)
    rw [p2_succ] at h3
    have e1 := Rat.mul_le_mul_of_nonneg_right h1 (Rat.le_of_lt hp)
    have e2 := Rat.mul_le_mul_of_nonneg_right h2 (Rat.le_of_lt (p2_pos ((w' / 8388608 : Nat) - 150 : Int)))
    have e3 := Rat.mul_le_mul_of_nonneg_left h3 (show (0 : Rat) ≤ ((8388608 : Nat) : Rat) by decide)
    have e4 : ((2 * 8388608 : Nat) : Rat) = ((8388608 : Nat) : Rat) * 2 := by rw [Rat.natCast_mul, Rat.mul_comm]; rfl
    rw [e4] at e1
    generalize ((8388608 : Nat) : Rat) = c at *
    grind
theorem fv_norm_pos {w : Nat} (h : Nrm w) : 0 < fv .f32 w := by
  rw [fv_norm h]
  exact Rat.mul_pos (by
    have : (0 : Rat) < ((8388608 + w % 8388608 : Nat) : Rat) := by exact_mod_cast (show 0 < 8388608 + w % 8388608 by omega)
    exact this) (p2_pos _)
theorem pos_norm {w : Nat} (h : Nrm w) : pos w = w := by
  unfold pos
  have h0 : isNum .f32 0 = true := by decide +kernel
  have v0 : fv .f32 0 = 0 := by decide +kernel
  rw [lss_val (isNum_norm h) h0, v0]
  have := fv_norm_pos h
  have hn : ¬ fv .f32 w < 0 := by grind
  simp [hn]

/-! ### One step -/
def nu : Rat := 1 / 8192
theorem e15 : p2 (8 - (fb .f32 : Int)) = 1 / 32768 := by decide +kernel
theorem p28 : p2 8 = 256 := by decide +kernel
theorem mul01 {K y Y : Rat} (h0 : 0 ≤ K) (h1 : K ≤ 1) (hy1 : -Y ≤ y) (hy2 : y ≤ Y) : -Y ≤ K * y ∧ K * y ≤ Y := by
  have a := Rat.mul_le_mul_of_nonneg_left hy1 h0
  have b := Rat.mul_le_mul_of_nonneg_left hy2 h0
  have hY : 0 ≤ Y := by grind
  have c := Rat.mul_le_mul_of_nonneg_right h1 hY
  constructor <;> grind
theorem small {k : FloatKind} {r : Rat} {w : Nat} (h : Rnd k r w) (hk : k = .f32) (h1 : r ≤ 256) (h2 : -r ≤ 256) : fv .f32 w - r ≤ 1 / 32768 ∧ r - fv .f32 w ≤ 1 / 32768 := by
  subst hk
  have := h.err 8 (by decide) (by rw [p28]; exact h1) (by rw [p28]; exact h2)
  rw [e15] at this; exact this
theorem lt127 {r : Rat} (h : r ≤ 256) : r < p2 (top .f32) := lt_top r 8 (by rw [p28]; exact h) (by decide)
theorem one_step {t : Tr} {w : Nat} {x sl Z : Rat} (hl : isNum .f32 t.l = true) (hs : isNum .f32 t.s = true) (hw : isNum .f32 w = true) (hx : fv .f32 w = x + sl)
    (u1 : -Z ≤ fv .f32 t.l - x) (u2 : fv .f32 t.l - x ≤ Z) (v1 : -Z ≤ fv .f32 t.s - sl) (v2 : fv .f32 t.s - sl ≤ Z) (hZ : Z ≤ 21) (x1 : -64 ≤ x + sl) (x2 : x + sl ≤ 64) (s1 : -1 ≤ sl) (s2 : sl ≤ 1)
    (hk : isNum .f32 t.k = true) (hh : isNum .f32 t.h = true) (K0 : 0 ≤ fv .f32 t.k) (K1 : fv .f32 t.k ≤ 1) (H0 : 0 ≤ fv .f32 t.h) (H1 : fv .f32 t.h ≤ 1) :
    isNum .f32 t.ex = true ∧ isNum .f32 (t.nx w true).l = true ∧ isNum .f32 (t.nx w true).s = true ∧ ∃ α β : Rat, -nu ≤ α ∧ α ≤ nu ∧ -nu ≤ β ∧ β ≤ nu ∧
      fv .f32 (t.nx w true).l - (x + sl) = (1 - fv .f32 t.k) * ((fv .f32 t.l - x) + (fv .f32 t.s - sl)) + α ∧
      fv .f32 (t.nx w true).s - sl = (fv .f32 t.s - sl) - fv .f32 t.h * ((fv .f32 t.l - x) + (fv .f32 t.s - sl)) + β := by
  have r1 := rnd_add hl hs (lt127 (by grind)) (lt127 (by grind))
  obtain ⟨a1, a2⟩ := small r1 rfl (by grind) (by grind)
  have n1 : isNum .f32 t.ex = true := r1.num
  change fv .f32 t.ex - (fv .f32 t.l + fv .f32 t.s) ≤ 1 / 32768 at a1
  change (fv .f32 t.l + fv .f32 t.s) - fv .f32 t.ex ≤ 1 / 32768 at a2
  have r2 := rnd_sub hw n1 (lt127 (by grind)) (lt127 (by grind))
  obtain ⟨b1, b2⟩ := small r2 rfl (by grind) (by grind)
  have n2 := r2.num
  show isNum .f32 t.ex = true ∧ isNum .f32 (fbin .add .f32 t.ex (fbin .mul .f32 t.k (fbin .sub .f32 w t.ex))) = true ∧ isNum .f32 (fbin .add .f32 t.s (fbin .mul .f32 t.h (fbin .sub .f32 w t.ex))) = true ∧ ∃ α β : Rat, -nu ≤ α ∧ α ≤ nu ∧ -nu ≤ β ∧ β ≤ nu ∧
      fv .f32 (fbin .add .f32 t.ex (fbin .mul .f32 t.k (fbin .sub .f32 w t.ex))) - (x + sl) = (1 - fv .f32 t.k) * ((fv .f32 t.l - x) + (fv .f32 t.s - sl)) + α ∧
      fv .f32 (fbin .add .f32 t.s (fbin .mul .f32 t.h (fbin .sub .f32 w t.ex))) - sl = (fv .f32 t.s - sl) - fv .f32 t.h * ((fv .f32 t.l - x) + (fv .f32 t.s - sl)) + β
  generalize fbin .sub .f32 w t.ex = D at *
  generalize t.ex = P at *
  have mk := mul01 K0 K1 (show -(43 : Rat) ≤ fv .f32 D by grind) (show fv .f32 D ≤ 43 by grind)
  have mh := mul01 H0 H1 (show -(43 : Rat) ≤ fv .f32 D by grind) (show fv .f32 D ≤ 43 by grind)
  have r3 := rnd_mul hk n2 (lt127 (by grind)) (lt127 (by grind))
  have r4 := rnd_mul hh n2 (lt127 (by grind)) (lt127 (by grind))
  obtain ⟨c1, c2⟩ := small r3 rfl (by grind) (by grind)
  obtain ⟨d1, d2⟩ := small r4 rfl (by grind) (by grind)
  have n3 := r3.num
  have n4 := r4.num
  generalize fbin .mul .f32 t.k D = KD at *
  generalize fbin .mul .f32 t.h D = HD at *
  have r5 := rnd_add n1 n3 (lt127 (by grind)) (lt127 (by grind))
  have r6 := rnd_add hs n4 (lt127 (by grind)) (lt127 (by grind))
  obtain ⟨f1, f2⟩ := small r5 rfl (by grind) (by grind)
  obtain ⟨g1, g2⟩ := small r6 rfl (by grind) (by grind)
  have n5 := r5.num
  have n6 := r6.num
  clear r1 r2 r3 r4 r5 r6
  generalize fbin .add .f32 P KD = L' at *
  generalize fbin .add .f32 t.s HD = S' at *
  have q1 := mul01 (K := 1 - fv .f32 t.k) (y := fv .f32 P - (fv .f32 t.l + fv .f32 t.s)) (Y := 1 / 32768) (by grind) (by grind) (by grind) (by grind)
  have q2 := mul01 (K := fv .f32 t.k) (y := fv .f32 D - (fv .f32 w - fv .f32 P)) (Y := 1 / 32768) (by grind) (by grind) (by grind) (by grind)
  have q3 := mul01 (K := fv .f32 t.h) (y := fv .f32 P - (fv .f32 t.l + fv .f32 t.s)) (Y := 1 / 32768) (by grind) (by grind) (by grind) (by grind)
  have q4 := mul01 (K := fv .f32 t.h) (y := fv .f32 D - (fv .f32 w - fv .f32 P)) (Y := 1 / 32768) (by grind) (by grind) (by grind) (by grind)
  unfold nu
  refine ⟨n1, n5, n6, fv .f32 L' - (x + sl) - (1 - fv .f32 t.k) * ((fv .f32 t.l - x) + (fv .f32 t.s - sl)), fv .f32 S' - sl - ((fv .f32 t.s - sl) - fv .f32 t.h * ((fv .f32 t.l - x) + (fv .f32 t.s - sl))), ?_, ?_, ?_, ?_, ?_, ?_⟩
  all_goals (rw [hx] at q2 q4 b1 b2; clear mk mh n1 n2 n3 n4 n5 n6 hl hs hw hk hh hx)
  all_goals (generalize fv .f32 t.k = K at *; generalize fv .f32 t.h = Hh at *; generalize fv .f32 t.l = L at *; generalize fv .f32 t.s = S at *; generalize fv .f32 P = p at *; generalize fv .f32 D = d at *; generalize fv .f32 KD = kd at *; generalize fv .f32 HD = hd at *; generalize fv .f32 L' = l' at *; generalize fv .f32 S' = s' at *)
  · grind
  · grind
  · grind
  · grind
  · grind
  · grind

theorem mulab {c C y Y : Rat} (c1 : -C ≤ c) (c2 : c ≤ C) (y1 : -Y ≤ y) (y2 : y ≤ Y) : -(C * Y) ≤ c * y ∧ c * y ≤ C * Y := by
  have a := Rat.mul_nonneg (show 0 ≤ C - c by grind) (show 0 ≤ Y - y by grind)
  have b := Rat.mul_nonneg (show 0 ≤ C - c by grind) (show 0 ≤ Y + y by grind)
  have d := Rat.mul_nonneg (show 0 ≤ C + c by grind) (show 0 ≤ Y - y by grind)
  have e := Rat.mul_nonneg (show 0 ≤ C + c by grind) (show 0 ≤ Y + y by grind)
  constructor <;> grind
/-- Two steps, as numbers. -/
theorem two_steps {K1 H1 K2 H2 u v u1 v1 u2 v2 a1 b1 a2 b2 Z : Rat} (k1 : 37 / 64 ≤ K1) (k1' : K1 ≤ 27 / 32) (h1 : 27 / 128 ≤ H1) (h1' : H1 ≤ 7 / 16) (k2 : 37 / 64 ≤ K2) (k2' : K2 ≤ 27 / 32) (h2 : 27 / 128 ≤ H2) (h2' : H2 ≤ 7 / 16)
    (hu : -Z ≤ u) (hu' : u ≤ Z) (hv : -Z ≤ v) (hv' : v ≤ Z) (hZ : 1 / 25 ≤ Z) (e1 : u1 = (1 - K1) * (u + v) + a1) (e2 : v1 = v - H1 * (u + v) + b1) (e3 : u2 = (1 - K2) * (u1 + v1) + a2) (e4 : v2 = v1 - H2 * (u1 + v1) + b2)
    (r1 : -nu ≤ a1) (r1' : a1 ≤ nu) (r2 : -nu ≤ b1) (r2' : b1 ≤ nu) (r3 : -nu ≤ a2) (r3' : a2 ≤ nu) (r4 : -nu ≤ b2) (r4' : b2 ≤ nu) :
    (-(4 / 5 * Z) ≤ u2 ∧ u2 ≤ 4 / 5 * Z) ∧ (-(4 / 5 * Z) ≤ v2 ∧ v2 ≤ 4 / 5 * Z) := by
  unfold nu at *
  constructor
  · have m1 := mulab (c := 1 - K1 - H1) (C := 9 / 32) (y := u + v) (Y := 2 * Z) (by grind) (by grind) (by grind) (by grind)
    have e5 : u2 = (1 - K2) * (v + (1 - K1 - H1) * (u + v) + a1 + b1) + a2 := by rw [e3, e1, e2]; grind
    clear e1 e2 e3 e4
    generalize (1 - K1 - H1) * (u + v) = x at *
    have m2 := mulab (c := 1 - K2) (C := 27 / 64) (y := v + x + a1 + b1) (Y := 25 / 16 * Z + 1 / 4096) (by grind) (by grind) (by grind) (by grind)
    generalize v + x + a1 + b1 = y at *
    constructor <;> grind
  · have p1 := Rat.mul_nonneg (show 0 ≤ 1 - H2 by grind) (show 0 ≤ H1 by grind)
    have p2 := Rat.mul_nonneg (show 0 ≤ H2 by grind) (show 0 ≤ 1 - K1 by grind)
    have p3 := Rat.mul_nonneg (show 0 ≤ (1 - H2) - 9 / 16 by grind) (show 0 ≤ (1 - H1) - 9 / 16 by grind)
    have p4 := Rat.mul_nonneg (show 0 ≤ 7 / 16 - H2 by grind) (show 0 ≤ 1 - K1 by grind)
    have p5 := Rat.mul_nonneg (show 0 ≤ H2 - 27 / 128 by grind) (show 0 ≤ Z by grind)
    have n1 := mul01 (K := 1 - H2) (y := b1) (Y := 1 / 8192) (by grind) (by grind) (by grind) (by grind)
    have n2 := mul01 (K := H2) (y := a1) (Y := 1 / 8192) (by grind) (by grind) (by grind) (by grind)
    have e5 : v2 = (1 - H2 - ((1 - H2) * H1 + H2 * (1 - K1))) * v - ((1 - H2) * H1 + H2 * (1 - K1)) * u + ((1 - H2) * b1 - H2 * a1 + b2) := by rw [e4, e1, e2]; grind
    have g0 : 0 ≤ (1 - H2) * H1 + H2 * (1 - K1) := by grind
    have g1 : (1 - H2) * H1 + H2 * (1 - K1) ≤ 1 - H2 := by grind
    clear e1 e2 e3 e4 p1 p2 p3 p4
    generalize (1 - H2) * H1 + H2 * (1 - K1) = G at *
    generalize (1 - H2) * b1 = x at *
    generalize H2 * a1 = y at *
    have q1 := mulab (c := 1 - H2 - G) (C := 1 - H2 - G) (y := v) (Y := Z) (by grind) (by grind) (by grind) (by grind)
    have q2 := mulab (c := G) (C := G) (y := u) (Y := Z) (by grind) (by grind) (by grind) (by grind)
    constructor <;> grind

/-- A step that shrinks nothing. -/
theorem wide_step {K H u v u1 v1 a b Z c : Rat} (hc : 1 - K ≤ c) (hK : K ≤ 1) (h0 : 0 ≤ H) (h1 : H ≤ 1) (hu : -Z ≤ u) (hu' : u ≤ Z) (hv : -Z ≤ v) (hv' : v ≤ Z) (e1 : u1 = (1 - K) * (u + v) + a) (e2 : v1 = v - H * (u + v) + b)
    (r1 : -nu ≤ a) (r1' : a ≤ nu) (r2 : -nu ≤ b) (r2' : b ≤ nu) : (-(c * (2 * Z) + nu) ≤ u1 ∧ u1 ≤ c * (2 * Z) + nu) ∧ (-(Z + nu) ≤ v1 ∧ v1 ≤ Z + nu) := by
  have m1 := mulab (c := 1 - K) (C := c) (y := u + v) (Y := 2 * Z) (by grind) (by grind) (by grind) (by grind)
  have m2 := mulab (c := H) (C := H) (y := u) (Y := Z) (by grind) (by grind) (by grind) (by grind)
  have m3 := mulab (c := 1 - H) (C := 1 - H) (y := v) (Y := Z) (by grind) (by grind) (by grind) (by grind)
  constructor <;> constructor <;> grind

end Go.Proofs.Ytnhhdgopgecggaa.Abs
