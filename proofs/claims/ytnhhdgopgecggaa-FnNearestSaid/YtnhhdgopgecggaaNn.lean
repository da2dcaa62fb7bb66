/- The plain law of FnNearest: normed series, and all its numbers are good. No condition. -/
import Derived.Test.YtnhhdgopgecggaaNm
import Derived.Test.YtnhhdgopgecggaaGk
set_option linter.unusedVariables false
set_option linter.unusedSimpArgs false
namespace Go.Proofs.Ytnhhdgopgecggaa.Abs
open Go Ieee

def sumQ (f : Nat → Rat) : Nat → Rat
  | 0 => 0
  | i + 1 => sumQ f i + f i
theorem cast_succ (i : Nat) : ((i + 1 : Nat) : Rat) = (i : Rat) + 1 := by rw [Rat.natCast_add]; rfl
theorem sumQ_near {f g : Nat → Rat} {c : Rat} {n : Nat} (h : ∀ i, i < n → f i - g i ≤ c ∧ g i - f i ≤ c) : ∀ i, i ≤ n → sumQ f i - sumQ g i ≤ (i : Rat) * c ∧ sumQ g i - sumQ f i ≤ (i : Rat) * c
  | 0, _ => by simp [sumQ]; decide +kernel
  | i + 1, hi => by
    have a := sumQ_near h i (by omega)
    have b := h i (by omega)
    unfold sumQ
    rw [cast_succ]
    constructor <;> grind
theorem sumQ_mul (f : Nat → Rat) (r : Rat) : ∀ n, sumQ (fun i => f i * r) n = sumQ f n * r
  | 0 => by simp [sumQ]
  | n + 1 => by unfold sumQ; rw [sumQ_mul f r n]; grind
theorem sumQ_congr {f g : Nat → Rat} {n : Nat} (h : ∀ i, i < n → f i = g i) : ∀ i, i ≤ n → sumQ f i = sumQ g i
  | 0, _ => rfl
  | i + 1, hi => by unfold sumQ; rw [sumQ_congr h i (by omega), h i (by omega)]
theorem sumQ_nonneg {f : Nat → Rat} (h : ∀ i, 0 ≤ f i) : ∀ n, 0 ≤ sumQ f n
  | 0 => Rat.le_refl
  | n + 1 => by have := sumQ_nonneg h n; have := h n; unfold sumQ; grind
theorem sumQ_term {f : Nat → Rat} (h : ∀ i, 0 ≤ f i) {a : Nat} : ∀ n, a < n → f a ≤ sumQ f n
  | 0, ha => by omega
  | n + 1, ha => by
    have h1 := sumQ_nonneg h n
    have h2 := h n
    unfold sumQ
    by_cases e : a = n
    · subst e; grind
    · have := sumQ_term (a := a) h n (by omega); grind
theorem sumQ_bd {f : Nat → Rat} {c : Rat} {n : Nat} (h : ∀ i, i < n → f i ≤ c) : ∀ i, i ≤ n → sumQ f i ≤ (i : Rat) * c
  | 0, _ => by simp [sumQ]
  | i + 1, hi => by
    have a := sumQ_bd h i (by omega)
    have b := h i (by omega)
    unfold sumQ
    rw [cast_succ]; grind
theorem sumZ_bd2 {f : Nat → Int} {c : Int} (h : ∀ i, -c ≤ f i ∧ f i ≤ c) : ∀ n : Nat, -(c * n) ≤ sumZ f n ∧ sumZ f n ≤ c * n
  | 0 => by simp [sumZ]
  | n + 1 => by
    have := sumZ_bd2 h n
    have := h n
    have e : c * ((n + 1 : Nat) : Int) = c * n + c := by rw [show ((n + 1 : Nat) : Int) = (n : Int) + 1 by omega, Int.mul_add, Int.mul_one]
    unfold sumZ
    omega
theorem sumZ_cast (f : Nat → Int) (q : Rat) : ∀ n, sumQ (fun i => (f i : Rat) * q) n = (sumZ f n : Rat) * q
  | 0 => by simp [sumQ, sumZ]
  | n + 1 => by unfold sumQ sumZ; rw [sumZ_cast f q n, Rat.intCast_add]; grind
theorem sum_gr {xs : List Nat} {n : Nat} {z : Nat → Int} (h : Q4 xs n z) (hn : n ≤ 16) : ∀ i, i ≤ n → Gr (-2) (sumZ z i) (sumN xs i)
  | 0, _ => ⟨num0, by rw [show sumN xs 0 = 0 from rfl, fv0]; simp [sumZ]⟩
  | i + 1, hi => by
    have ih := sum_gr h hn i (by omega)
    have hs := sumZ_bd2 (c := 16) (fun i => h.bd i) i
    have a := h.bd i
    have hc : (16 : Int) * (i : Int) ≤ 256 := by omega
    rw [sumN_succ]
    exact ih.add (h.gr i (by omega)) (by omega) (by decide) (by decide)
theorem mul_le_abs {a r b : Rat} (hr : 0 < r) (h : a * r ≤ b * r) : a ≤ b := Rat.le_of_mul_le_mul_right h hr

/-- The value of each number less the mean. -/
theorem rest_val {xs : List Nat} {n : Nat} {z : Nat → Int} (h : Q4 xs n z) (h1 : 2 ≤ n) (hn : n ≤ 9) :
    ∃ μ : Rat, (n : Rat) * μ = sumQ (fun i => (z i : Rat) * (1 / 4)) n ∧
      ∀ i, i < n → isNum .f32 ((restL xs).getD i 0) = true ∧ fv .f32 ((restL xs).getD i 0) - ((z i : Rat) * (1 / 4) - μ) ≤ 1 / 400000 ∧ ((z i : Rat) * (1 / 4) - μ) - fv .f32 ((restL xs).getD i 0) ≤ 1 / 400000 ∧ fv .f32 ((restL xs).getD i 0) ≤ 9 ∧ -9 ≤ fv .f32 ((restL xs).getD i 0) := by
  have gS := sum_gr h (by omega) n (Nat.le_refl _)
  have gn : Gr 0 (n : Int) (i32f (n : Int)) := gr_int (by omega)
  have hnR : (2 : Rat) ≤ (n : Rat) := Rat.natCast_le_natCast.2 h1
  have hn9 : (n : Rat) ≤ 9 := Rat.natCast_le_natCast.2 hn
  have vn : fv .f32 (i32f (n : Int)) = (n : Rat) := by rw [gn.val, p2_zero, Rat.mul_one, Rat.intCast_natCast]
  have vS : fv .f32 (sumL xs) = (sumZ z n : Rat) * (1 / 4) := by unfold sumL; rw [h.len, gS.val, p2m2]
  have hS := sumZ_bd2 (c := 16) (fun i => h.bd i) n
  have hS1 : (sumZ z n : Rat) ≤ 16 * (n : Rat) := by
    have := (Rat.intCast_le_intCast (a := sumZ z n) (b := 16 * (n : Int))).2 hS.2
    rw [Rat.intCast_mul, Rat.intCast_natCast] at this; exact this
  have hS2 : -(16 * (n : Rat)) ≤ (sumZ z n : Rat) := by
    have := (Rat.intCast_le_intCast (b := sumZ z n) (a := -(16 * (n : Int)))).2 hS.1
    rw [Rat.intCast_neg, Rat.intCast_mul, Rat.intCast_natCast] at this; exact this
  have hn0 : (n : Rat) ≠ 0 := by grind
  have hmu : fv .f32 (sumL xs) / fv .f32 (i32f (n : Int)) * (n : Rat) = (sumZ z n : Rat) * (1 / 4) := by
    rw [vn, Rat.div_mul_cancel hn0, vS]
  generalize hmue : fv .f32 (sumL xs) / fv .f32 (i32f (n : Int)) = μ at *
  have m4 : μ ≤ 4 := mul_le_abs (show 0 < (n : Rat) by grind) (by grind)
  have m4' : -4 ≤ μ := mul_le_abs (show 0 < (n : Rat) by grind) (by grind)
  have nS : isNum .f32 (sumL xs) = true := by unfold sumL; rw [h.len]; exact gS.num
  have t32 : (1024 : Rat) < p2 (top .f32) := by
    have h1 : (1024 : Rat) < p2 11 := by decide +kernel
    have h2 := p2_mono (show (11 : Int) ≤ top .f32 by decide)
    grind
  have rm := rnd_quo nS gn.num (by rw [vn]; exact hn0) (by rw [hmue]; grind) (by rw [hmue]; grind)
  rw [hmue] at rm
  have e2 : p2 2 = 4 := by decide +kernel
  have e21 : p2 (2 - (fb .f32 : Int)) ≤ 1 / 2000000 := by decide +kernel
  have em := rm.err 2 (by decide) (by rw [e2]; exact m4) (by rw [e2]; grind)
  refine ⟨μ, by rw [sumZ_cast]; grind, fun i hi => ?_⟩
  have hget : (restL xs).getD i 0 = fbin .sub .f32 (xs.getD i 0) (meanL xs) := by
    unfold restL lessOneL
    rw [h.len]
    exact getD_mapL _ hi
  have hmean : meanL xs = fbin .quo .f32 (sumL xs) (i32f (n : Int)) := by unfold meanL; rw [h.len]
  rw [hget, hmean]
  generalize fbin .quo .f32 (sumL xs) (i32f (n : Int)) = m at *
  have gx := h.gr i hi
  have b := h.bd i
  have b1 : (z i : Rat) ≤ 16 := Rat.intCast_le_intCast.2 b.2
  have b2 : (-16 : Rat) ≤ (z i : Rat) := Rat.intCast_le_intCast.2 b.1
  have vx : fv .f32 (xs.getD i 0) = (z i : Rat) * (1 / 4) := by rw [gx.val, p2m2]
  have r := rnd_sub gx.num rm.num (by rw [vx]; grind) (by rw [vx]; grind)
  rw [vx] at r
  have e4 : p2 4 = 16 := by decide +kernel
  have e19 : p2 (4 - (fb .f32 : Int)) ≤ 1 / 524288 := by decide +kernel
  have er := r.err 4 (by decide) (by rw [e4]; grind) (by rw [e4]; grind)
  refine ⟨r.num, ?_, ?_, ?_, ?_⟩ <;> grind

/-- The sum of the squares, with its error. -/
theorem dot_val {ys : List Nat} {n : Nat} (hn : n ≤ 9) (hy : ∀ i, i < n → isNum .f32 (ys.getD i 0) = true ∧ fv .f32 (ys.getD i 0) ≤ 9 ∧ -9 ≤ fv .f32 (ys.getD i 0)) :
    ∀ i, i ≤ n → isNum .f32 (dotN ys ys i) = true ∧
      fv .f32 (dotN ys ys i) - sumQ (fun i => fv .f32 (ys.getD i 0) * fv .f32 (ys.getD i 0)) i ≤ (i : Rat) * (1 / 4000000 * sumQ (fun i => fv .f32 (ys.getD i 0) * fv .f32 (ys.getD i 0)) i + 1 / 1000000000000) ∧
      sumQ (fun i => fv .f32 (ys.getD i 0) * fv .f32 (ys.getD i 0)) i - fv .f32 (dotN ys ys i) ≤ (i : Rat) * (1 / 4000000 * sumQ (fun i => fv .f32 (ys.getD i 0) * fv .f32 (ys.getD i 0)) i + 1 / 1000000000000)
  | 0, _ => ⟨num0, by rw [show dotN ys ys 0 = 0 from rfl, fv0]; simp [sumQ]; decide +kernel, by rw [show dotN ys ys 0 = 0 from rfl, fv0]; simp [sumQ]; decide +kernel⟩
  | i + 1, hi => by
    obtain ⟨n0, u1, u2⟩ := dot_val hn hy i (by omega)
    obtain ⟨ny, y1, y2⟩ := hy i (by omega)
    have sqn : ∀ q : Rat, 0 ≤ q * q := fun q => by
      by_cases hq : 0 ≤ q
      · exact Rat.mul_nonneg hq hq
      · have := Rat.mul_nonneg (show 0 ≤ -q by grind) (show 0 ≤ -q by grind); grind
    have hD0 := sumQ_nonneg (f := fun i => fv .f32 (ys.getD i 0) * fv .f32 (ys.getD i 0)) (fun i => sqn _) i
    have hD1 := sumQ_bd (f := fun i => fv .f32 (ys.getD i 0) * fv .f32 (ys.getD i 0)) (c := 81) (n := n) (fun j hj => by
      obtain ⟨_, a, b⟩ := hy j hj
      have := Rat.mul_nonneg (show 0 ≤ 9 - fv .f32 (ys.getD j 0) by grind) (show 0 ≤ 9 + fv .f32 (ys.getD j 0) by grind)
      grind) i (by omega)
    have hi9 : (i : Rat) ≤ 8 := Rat.natCast_le_natCast.2 (show i ≤ 8 by omega)
    have hi0 : (0 : Rat) ≤ (i : Rat) := Rat.natCast_le_natCast.2 (Nat.zero_le _)
    have e : sumQ (fun i => fv .f32 (ys.getD i 0) * fv .f32 (ys.getD i 0)) (i + 1) = sumQ (fun i => fv .f32 (ys.getD i 0) * fv .f32 (ys.getD i 0)) i + fv .f32 (ys.getD i 0) * fv .f32 (ys.getD i 0) := rfl
    have e' : dotN ys ys (i + 1) = fbin .add .f32 (dotN ys ys i) (fbin .mul .f32 (ys.getD i 0) (ys.getD i 0)) := rfl
    rw [e, e', cast_succ]
    generalize sumQ (fun i => fv .f32 (ys.getD i 0) * fv .f32 (ys.getD i 0)) i = D at *
    have hY0 := sqn (fv .f32 (ys.getD i 0))
    have hY1 : fv .f32 (ys.getD i 0) * fv .f32 (ys.getD i 0) ≤ 81 := by
      have := Rat.mul_nonneg (show 0 ≤ 9 - fv .f32 (ys.getD i 0) by grind) (show 0 ≤ 9 + fv .f32 (ys.getD i 0) by grind)
      grind
    have t32 : (65536 : Rat) < p2 (top .f32) := by
      have h1 : (65536 : Rat) < p2 17 := by decide +kernel
      have h2 := p2_mono (show (17 : Int) ≤ top .f32 by decide)
      grind
    have rp := rnd_mul ny ny (by grind) (by grind)
    generalize hYe : fv .f32 (ys.getD i 0) * fv .f32 (ys.getD i 0) = Y at *
    have q1 : p2 (-(fb .f32 : Int)) = 1 / 8388608 := by decide +kernel
    have q2 : p2 (lp .f32) ≤ 1 / 1000000000000000000000000000000 := by decide +kernel
    have q3 := p2_pos (lp .f32)
    have hp := rp.rel Y (by grind) (by grind)
    rw [q1] at hp
    generalize fbin .mul .f32 (ys.getD i 0) (ys.getD i 0) = p at *
    have k1 : 0 ≤ (i : Rat) * D := Rat.mul_nonneg hi0 hD0
    have k2 : (i : Rat) * D ≤ 8 * D := Rat.mul_le_mul_of_nonneg_right hi9 hD0
    have k3 : 0 ≤ (i : Rat) * Y := Rat.mul_nonneg hi0 hY0
    have rs := rnd_add n0 rp.num (by grind) (by grind)
    have hs := rs.rel (D + D * (1 / 500000) + 8 / 1000000000000 + Y + Y * (1 / 8388608) + 1 / 1000000000000000000000000000000) (by grind) (by grind)
    rw [q1] at hs
    refine ⟨rs.num, ?_, ?_⟩ <;> grind

theorem sq_nonneg (q : Rat) : 0 ≤ q * q := by
  by_cases hq : 0 ≤ q
  · exact Rat.mul_nonneg hq hq
  · have := Rat.mul_nonneg (show 0 ≤ -q by grind) (show 0 ≤ -q by grind); grind
theorem sumZ_const {f : Nat → Int} {c : Int} {n : Nat} (h : ∀ i, i < n → f i = c) : ∀ i, i ≤ n → sumZ f i = c * i
  | 0, _ => by simp [sumZ]
  | i + 1, hi => by
    unfold sumZ
    rw [sumZ_const h i (by omega), h i (by omega), show ((i + 1 : Nat) : Int) = (i : Int) + 1 by omega, Int.mul_add, Int.mul_one]
/-- A series of one number alone has no width. -/
theorem flat_wide {xs : List Nat} {n : Nat} {z : Nat → Int} (h : Q4 xs n z) (h1 : 2 ≤ n) (hn : n ≤ 9) (hz : ∀ i, i < n → z i = z 0) : normB xs = false := by
  have gS := sum_gr h (by omega) n (Nat.le_refl _)
  have gn : Gr 0 (n : Int) (i32f (n : Int)) := gr_int (by omega)
  rw [sumZ_const hz n (Nat.le_refl _)] at gS
  have b0 := h.bd 0
  have gm : Gr (-2) (z 0) (meanL xs) := by
    unfold meanL sumL
    rw [h.len]
    refine gS.quo gn (by omega) ?_ (by omega) (by decide) (by decide)
    rw [p2_zero, Rat.intCast_mul]; grind
  have gr : ∀ i, i < n → Gr (-2) 0 ((restL xs).getD i 0) := fun i hi => by
    have hget : (restL xs).getD i 0 = fbin .sub .f32 (xs.getD i 0) (meanL xs) := by
      unfold restL lessOneL
      rw [h.len]
      exact getD_mapL _ hi
    rw [hget]
    have g := h.gr i hi
    rw [hz i hi] at g
    have := g.sub gm (by omega) (by decide) (by decide)
    rwa [Int.sub_self] at this
  have gd : ∀ i, i ≤ n → Gr (-4) 0 (dotN (restL xs) (restL xs) i) := fun i => by
    induction i with
    | zero => exact fun _ => ⟨num0, by rw [show dotN (restL xs) (restL xs) 0 = 0 from rfl, fv0]; simp⟩
    | succ i ih =>
      intro hi
      have g := (gr i (by omega)).mul (gr i (by omega)) (by decide) (by decide) (by decide)
      exact (ih (by omega)).add g (by decide) (by decide) (by decide)
  have hl : (restL xs).length = n := by unfold restL lessOneL mapL; simp [h.len]
  have gq : Gr (-4) 0 (fbin .quo .f32 (dotL (restL xs) (restL xs)) (i32f (n : Int))) := by
    unfold dotL
    rw [hl]
    refine (gd n (Nat.le_refl _)).quo gn (by omega) ?_ (by decide) (by decide) (by decide)
    simp
  have hq0 : fv .f32 (fbin .quo .f32 (dotL (restL xs) (restL xs)) (i32f (n : Int))) = 0 := by rw [gq.val]; simp
  have r := root_val gq.num (by rw [hq0]; exact Rat.le_refl) (by rw [hq0]; decide)
  have ha : above (wideL xs) = false := by
    unfold above wideL gt0
    rw [h.len, gtr_val r.1 num0, fv0, r.2.2.1 hq0]
    simp
  unfold normB
  rw [ha]; simp

theorem abs_mul {a b A B : Rat} (h1 : -A ≤ a) (h2 : a ≤ A) (h3 : -B ≤ b) (h4 : b ≤ B) : a * b ≤ A * B ∧ -(A * B) ≤ a * b := by
  have p1 := Rat.mul_nonneg (show 0 ≤ A - a by grind) (show 0 ≤ B + b by grind)
  have p2 := Rat.mul_nonneg (show 0 ≤ A + a by grind) (show 0 ≤ B - b by grind)
  have p3 := Rat.mul_nonneg (show 0 ≤ A - a by grind) (show 0 ≤ B - b by grind)
  have p4 := Rat.mul_nonneg (show 0 ≤ A + a by grind) (show 0 ≤ B + b by grind)
  constructor <;> grind
/-- What the width says of the quotients by it. -/
theorem width_laws {n D d Q r : Rat} (hn : 2 ≤ n) (hn9 : n ≤ 9) (hD : 1 / 100 ≤ D) (hD2 : D ≤ 729)
    (d1 : d - D ≤ n * (1 / 4000000 * D + 1 / 1000000000000)) (d2 : D - d ≤ n * (1 / 4000000 * D + 1 / 1000000000000))
    (q1 : Q * n - d ≤ 1 / 8388608 * d + 1 / 1000000000000) (q2 : d - Q * n ≤ 1 / 8388608 * d + 1 / 1000000000000)
    (r1 : Q * (1 - 1 / 1000000) ≤ r * r) (r2 : r * r ≤ Q * (1 + 1 / 1000000)) (hr : 1 / 2048 ≤ r) :
    r * r * n - D ≤ 1 / 100000 * D ∧ D - r * r * n ≤ 1 / 100000 * D ∧ 3 / 100 ≤ r := by
  have hnD : n * D ≤ 9 * D := Rat.mul_le_mul_of_nonneg_right hn9 (by grind)
  have e1 := Rat.mul_le_mul_of_nonneg_right r1 (show 0 ≤ n by grind)
  have e2 := Rat.mul_le_mul_of_nonneg_right r2 (show 0 ≤ n by grind)
  have f1 : r * r * n - D ≤ 1 / 100000 * D := by grind
  have f2 : D - r * r * n ≤ 1 / 100000 * D := by grind
  refine ⟨f1, f2, ?_⟩
  have e3 : r * r * n ≤ r * r * 9 := Rat.mul_le_mul_of_nonneg_left hn9 (sq_nonneg r)
  refine le_of_sq ?_ (by grind)
  have e4 : (3 / 100 : Rat) * (3 / 100) = 9 / 10000 := by decide +kernel
  rw [e4]; grind
/-- The numbers of a normed series: their sum is near 0, and the sum of their squares is near their number. -/
theorem norm_val {xs : List Nat} {n : Nat} {z : Nat → Int} (h : Q4 xs n z) (h1 : 2 ≤ n) (hn : n ≤ 9) (hb : normB xs = true) :
    (∀ i, i < n → isNum .f32 ((normL xs).getD i 0) = true ∧ fv .f32 ((normL xs).getD i 0) ≤ 5 ∧ -5 ≤ fv .f32 ((normL xs).getD i 0)) ∧
    sumQ (fun i => fv .f32 ((normL xs).getD i 0)) n ≤ (n : Rat) * (1 / 1000) ∧ -((n : Rat) * (1 / 1000)) ≤ sumQ (fun i => fv .f32 ((normL xs).getD i 0)) n ∧
    sumQ (fun i => fv .f32 ((normL xs).getD i 0) * fv .f32 ((normL xs).getD i 0)) n - (n : Rat) ≤ (n : Rat) * (1 / 1000) ∧ (n : Rat) - sumQ (fun i => fv .f32 ((normL xs).getD i 0) * fv .f32 ((normL xs).getD i 0)) n ≤ (n : Rat) * (1 / 1000) := by
  have hnR : (2 : Rat) ≤ (n : Rat) := Rat.natCast_le_natCast.2 h1
  have hn9 : (n : Rat) ≤ 9 := Rat.natCast_le_natCast.2 hn
  have hn0 : (n : Rat) ≠ 0 := by grind
  obtain ⟨μ, hμ, hr⟩ := rest_val h h1 hn
  have hl : (restL xs).length = n := by unfold restL lessOneL mapL; simp [h.len]
  have hd := dot_val (ys := restL xs) hn (fun i hi => by obtain ⟨a, _, _, b, c⟩ := hr i hi; exact ⟨a, b, c⟩) n (Nat.le_refl _)
  -- one number is far from the mean
  have hfar : ∃ a, a < n ∧ 1 / 100 ≤ fv .f32 ((restL xs).getD a 0) * fv .f32 ((restL xs).getD a 0) := by
    apply Classical.byContradiction
    intro hno
    have hsm : ∀ i, i < n → fv .f32 ((restL xs).getD i 0) * fv .f32 ((restL xs).getD i 0) < 1 / 100 := fun i hi => by
      apply Classical.byContradiction
      intro hh
      exact hno ⟨i, hi, by grind⟩
    have hab : ∀ i, i < n → fv .f32 ((restL xs).getD i 0) ≤ 1 / 10 ∧ -(1 / 10) ≤ fv .f32 ((restL xs).getD i 0) := fun i hi => by
      have e : (1 / 10 : Rat) * (1 / 10) = 1 / 100 := by decide +kernel
      have := hsm i hi
      constructor
      · exact le_of_sq (by rw [e]; grind) (by decide +kernel)
      · have := le_of_sq (a := -fv .f32 ((restL xs).getD i 0)) (b := 1 / 10) (by rw [e]; grind) (by decide +kernel)
        grind
    have hz : ∀ i, i < n → z i = z 0 := fun i hi => by
      obtain ⟨_, a1, a2, _⟩ := hr i hi
      obtain ⟨_, b1, b2, _⟩ := hr 0 (by omega)
      have c1 := hab i hi
      have c2 := hab 0 (by omega)
      have d1 : (z i : Rat) < (z 0 : Rat) + 1 := by grind
      have d2 : (z 0 : Rat) < (z i : Rat) + 1 := by grind
      have d3 : z i < z 0 + 1 := by
        apply Rat.intCast_lt_intCast.1
        rw [Rat.intCast_add]; exact d1
      have d4 : z 0 < z i + 1 := by
        apply Rat.intCast_lt_intCast.1
        rw [Rat.intCast_add]; exact d2
      omega
    rw [flat_wide h h1 hn hz] at hb
    cases hb
  obtain ⟨a, ha, hfa⟩ := hfar
  have hD1 := sumQ_term (f := fun i => fv .f32 ((restL xs).getD i 0) * fv .f32 ((restL xs).getD i 0)) (a := a) (fun i => sq_nonneg _) n ha
  have hterm : ∀ i, i < n → fv .f32 ((restL xs).getD i 0) * fv .f32 ((restL xs).getD i 0) ≤ sumQ (fun i => fv .f32 ((restL xs).getD i 0) * fv .f32 ((restL xs).getD i 0)) n := fun i hi =>
    sumQ_term (f := fun i => fv .f32 ((restL xs).getD i 0) * fv .f32 ((restL xs).getD i 0)) (a := i) (fun i => sq_nonneg _) n hi
  have hD2 := sumQ_bd (f := fun i => fv .f32 ((restL xs).getD i 0) * fv .f32 ((restL xs).getD i 0)) (c := 81) (n := n) (fun j hj => by
      obtain ⟨_, _, _, a, b⟩ := hr j hj
      have := Rat.mul_nonneg (show 0 ≤ 9 - fv .f32 ((restL xs).getD j 0) by grind) (show 0 ≤ 9 + fv .f32 ((restL xs).getD j 0) by grind)
      grind) n (Nat.le_refl _)
  have hfa' := Rat.le_trans hfa hD1
  have hsr : sumQ (fun i => fv .f32 ((restL xs).getD i 0)) n ≤ (n : Rat) * (1 / 400000) ∧ -((n : Rat) * (1 / 400000)) ≤ sumQ (fun i => fv .f32 ((restL xs).getD i 0)) n := by
    have a := sumQ_near (f := fun i => fv .f32 ((restL xs).getD i 0)) (g := fun i => (z i : Rat) * (1 / 4) - μ) (n := n) (c := 1 / 400000) (fun i hi => by obtain ⟨_, a, b, _⟩ := hr i hi; exact ⟨a, b⟩) n (Nat.le_refl _)
    have b : ∀ n : Nat, sumQ (fun i => (z i : Rat) * (1 / 4) - μ) n = sumQ (fun i => (z i : Rat) * (1 / 4)) n - (n : Rat) * μ := fun n => by
      induction n with
      | zero => simp [sumQ]; decide +kernel
      | succ n ih => unfold sumQ; rw [ih, cast_succ]; grind
    rw [b n, hμ] at a
    constructor <;> grind
  have hdot : dotN (restL xs) (restL xs) n = dotL (restL xs) (restL xs) := by unfold dotL; rw [hl]
  rw [hdot] at hd
  obtain ⟨d0, d1, d2⟩ := hd
  -- the width
  have gn : Gr 0 (n : Int) (i32f (n : Int)) := gr_int (by omega)
  have vn : fv .f32 (i32f (n : Int)) = (n : Rat) := by rw [gn.val, p2_zero, Rat.mul_one, Rat.intCast_natCast]
  have t32 : (65536 : Rat) < p2 (top .f32) := by
    have h1 : (65536 : Rat) < p2 17 := by decide +kernel
    have h2 := p2_mono (show (17 : Int) ≤ top .f32 by decide)
    grind
  have hwe : wideL xs = root (fbin .quo .f32 (dotL (restL xs) (restL xs)) (i32f (n : Int))) := by unfold wideL; rw [h.len]
  have hne : ∀ i, i < n → (normL xs).getD i 0 = fbin .quo .f32 ((restL xs).getD i 0) (wideL xs) := fun i hi => by
    unfold normL
    rw [h.len]
    exact getD_mapL _ hi
  have hdu : fv .f32 (dotL (restL xs) (restL xs)) ≤ 1000 := by
    have : (n : Rat) * sumQ (fun i => fv .f32 ((restL xs).getD i 0) * fv .f32 ((restL xs).getD i 0)) n ≤ 9 * sumQ (fun i => fv .f32 ((restL xs).getD i 0) * fv .f32 ((restL xs).getD i 0)) n := Rat.mul_le_mul_of_nonneg_right hn9 (by grind)
    grind
  have hdl : 99 / 10000 ≤ fv .f32 (dotL (restL xs) (restL xs)) := by
    have : (n : Rat) * sumQ (fun i => fv .f32 ((restL xs).getD i 0) * fv .f32 ((restL xs).getD i 0)) n ≤ 9 * sumQ (fun i => fv .f32 ((restL xs).getD i 0) * fv .f32 ((restL xs).getD i 0)) n := Rat.mul_le_mul_of_nonneg_right hn9 (by grind)
    grind
  have hqn : fv .f32 (dotL (restL xs) (restL xs)) / fv .f32 (i32f (n : Int)) * (n : Rat) = fv .f32 (dotL (restL xs) (restL xs)) := by
    rw [vn, Rat.div_mul_cancel hn0]
  have hq1 : fv .f32 (dotL (restL xs) (restL xs)) / fv .f32 (i32f (n : Int)) ≤ 1000 := mul_le_abs (show 0 < (n : Rat) by grind) (by grind)
  have hq2 : 1 / 1000 ≤ fv .f32 (dotL (restL xs) (restL xs)) / fv .f32 (i32f (n : Int)) := mul_le_abs (show 0 < (n : Rat) by grind) (by grind)
  have rq := rnd_quo d0 gn.num (by rw [vn]; exact hn0) (by grind) (by grind)
  have c1 : p2 (-(fb .f32 : Int)) = 1 / 8388608 := by decide +kernel
  have c2 : p2 (lp .f32) ≤ 1 / 1000000000000000000000000000000 := by decide +kernel
  have c3 := p2_pos (lp .f32)
  have hq := rq.rel _ Rat.le_refl (by grind)
  rw [c1] at hq
  generalize fv .f32 (dotL (restL xs) (restL xs)) / fv .f32 (i32f (n : Int)) = q at *
  have hqa := Rat.mul_le_mul_of_nonneg_right hq.1 (show 0 ≤ (n : Rat) by grind)
  have hqb := Rat.mul_le_mul_of_nonneg_right hq.2 (show 0 ≤ (n : Rat) by grind)
  have c4 : p2 (lp .f32) * (n : Rat) ≤ 1 / 1000000000000 := by
    have := Rat.mul_le_mul_of_nonneg_left hn9 (Rat.le_of_lt c3)
    grind
  rw [hwe] at hne
  obtain ⟨g1, g2, g3, g4, g5⟩ := root_val rq.num (by grind) (by grind)
  obtain ⟨g6, g7, g8⟩ := g5 (by grind)
  obtain ⟨k1, k2, k3⟩ := width_laws hnR hn9 hfa' (by grind) d1 d2 (by grind) (by grind) g6 g7 g8
  generalize root (fbin .quo .f32 (dotL (restL xs) (restL xs)) (i32f (n : Int))) = W at *
  generalize fbin .quo .f32 (dotL (restL xs) (restL xs)) (i32f (n : Int)) = Qw at *
  generalize hre : fv .f32 W = r at *
  have hr0 : r ≠ 0 := by grind
  have hrr : 0 < r * r := Rat.mul_pos (by grind) (by grind)
  have hw : ∀ i, fv .f32 ((restL xs).getD i 0) / r * r = fv .f32 ((restL xs).getD i 0) := fun i => Rat.div_mul_cancel hr0
  -- the exact quotients
  have s1 : sumQ (fun i => fv .f32 ((restL xs).getD i 0) / r) n * r = sumQ (fun i => fv .f32 ((restL xs).getD i 0)) n := by
    rw [← sumQ_mul]
    exact sumQ_congr (n := n) (fun i _ => hw i) n (Nat.le_refl _)
  have s2 : sumQ (fun i => fv .f32 ((restL xs).getD i 0) / r * (fv .f32 ((restL xs).getD i 0) / r)) n * (r * r) = sumQ (fun i => fv .f32 ((restL xs).getD i 0) * fv .f32 ((restL xs).getD i 0)) n := by
    rw [← sumQ_mul]
    refine sumQ_congr (n := n) (fun i _ => ?_) n (Nat.le_refl _)
    have := hw i
    generalize fv .f32 ((restL xs).getD i 0) / r = w at *
    rw [← this]; grind
  have hw4 : ∀ i, i < n → fv .f32 ((restL xs).getD i 0) / r ≤ 4 ∧ -4 ≤ fv .f32 ((restL xs).getD i 0) / r := fun i hi => by
    have a := hterm i hi
    have b := hw i
    generalize fv .f32 ((restL xs).getD i 0) / r = w at *
    have e : w * w * (r * r) ≤ 16 * (r * r) := by
      have e3 : r * r * (n : Rat) ≤ r * r * 9 := Rat.mul_le_mul_of_nonneg_left hn9 (sq_nonneg r)
      have e4 : w * w * (r * r) = fv .f32 ((restL xs).getD i 0) * fv .f32 ((restL xs).getD i 0) := by rw [← b]; grind
      rw [e4]; grind
    have e5 := mul_le_abs hrr e
    have e6 : (4 : Rat) * 4 = 16 := by decide +kernel
    constructor
    · exact le_of_sq (by rw [e6]; exact e5) (by decide)
    · have := le_of_sq (a := -w) (b := 4) (by rw [e6]; grind) (by decide)
      grind
  have hv : ∀ i, i < n → isNum .f32 ((normL xs).getD i 0) = true ∧ fv .f32 ((normL xs).getD i 0) - fv .f32 ((restL xs).getD i 0) / r ≤ 1 / 2000000 ∧ fv .f32 ((restL xs).getD i 0) / r - fv .f32 ((normL xs).getD i 0) ≤ 1 / 2000000 := fun i hi => by
    rw [hne i hi]
    have a := hw4 i hi
    have rr := rnd_quo (hr i hi).1 g1 (by rw [hre]; exact hr0) (by rw [hre]; grind) (by rw [hre]; grind)
    rw [hre] at rr
    have e2 : p2 2 = 4 := by decide +kernel
    have e21 : p2 (2 - (fb .f32 : Int)) ≤ 1 / 2000000 := by decide +kernel
    have em := rr.err 2 (by decide) (by rw [e2]; grind) (by rw [e2]; grind)
    exact ⟨rr.num, by grind, by grind⟩
  have hv2 : ∀ i, i < n → fv .f32 ((normL xs).getD i 0) * fv .f32 ((normL xs).getD i 0) - fv .f32 ((restL xs).getD i 0) / r * (fv .f32 ((restL xs).getD i 0) / r) ≤ 1 / 200000 ∧ fv .f32 ((restL xs).getD i 0) / r * (fv .f32 ((restL xs).getD i 0) / r) - fv .f32 ((normL xs).getD i 0) * fv .f32 ((normL xs).getD i 0) ≤ 1 / 200000 := fun i hi => by
    obtain ⟨_, a, b⟩ := hv i hi
    obtain ⟨c, d⟩ := hw4 i hi
    generalize fv .f32 ((restL xs).getD i 0) / r = w at *
    generalize fv .f32 ((normL xs).getD i 0) = v at *
    have := abs_mul (a := v - w) (b := v + w) (A := 1 / 2000000) (B := 9) (by grind) (by grind) (by grind) (by grind)
    have e : (1 / 2000000 : Rat) * 9 ≤ 1 / 200000 := by decide +kernel
    constructor <;> grind
  have n1 := sumQ_near (n := n) (fun i hi => (hv i hi).2) n (Nat.le_refl _)
  have n2 := sumQ_near (n := n) hv2 n (Nat.le_refl _)
  have m1 : sumQ (fun i => fv .f32 ((restL xs).getD i 0) / r) n ≤ (n : Rat) * (1 / 2000) ∧ -((n : Rat) * (1 / 2000)) ≤ sumQ (fun i => fv .f32 ((restL xs).getD i 0) / r) n := by
    have e := Rat.mul_le_mul_of_nonneg_left k3 (show 0 ≤ (n : Rat) by grind)
    generalize sumQ (fun i => fv .f32 ((restL xs).getD i 0) / r) n = Sw at *
    generalize sumQ (fun i => fv .f32 ((restL xs).getD i 0)) n = Sy at *
    constructor
    · exact mul_le_abs (show 0 < r by grind) (by grind)
    · exact mul_le_abs (show 0 < r by grind) (by grind)
  have m2 : sumQ (fun i => fv .f32 ((restL xs).getD i 0) / r * (fv .f32 ((restL xs).getD i 0) / r)) n - (n : Rat) ≤ (n : Rat) * (1 / 5000) ∧ (n : Rat) - sumQ (fun i => fv .f32 ((restL xs).getD i 0) / r * (fv .f32 ((restL xs).getD i 0) / r)) n ≤ (n : Rat) * (1 / 5000) := by
    generalize sumQ (fun i => fv .f32 ((restL xs).getD i 0) / r * (fv .f32 ((restL xs).getD i 0) / r)) n = W2 at *
    generalize sumQ (fun i => fv .f32 ((restL xs).getD i 0) * fv .f32 ((restL xs).getD i 0)) n = D at *
    constructor
    · exact mul_le_abs hrr (by grind)
    · exact mul_le_abs hrr (by grind)
  clear hterm
  refine ⟨fun i hi => ?_, ?_, ?_, ?_, ?_⟩
  · obtain ⟨a, b, c⟩ := hv i hi
    obtain ⟨d, e⟩ := hw4 i hi
    exact ⟨a, by grind, by grind⟩
  all_goals grind

theorem sumQ_bd2 {f : Nat → Rat} {c : Rat} {n : Nat} (h : ∀ i, i < n → f i ≤ c ∧ -c ≤ f i) : ∀ i, i ≤ n → sumQ f i ≤ (i : Rat) * c ∧ -((i : Rat) * c) ≤ sumQ f i
  | 0, _ => by simp [sumQ]
  | i + 1, hi => by
    have a := sumQ_bd2 h i (by omega)
    have b := h i (by omega)
    unfold sumQ
    rw [cast_succ]
    constructor <;> grind
theorem num064 : isNum .f64 0 = true := by decide +kernel
theorem fv064 : fv .f64 0 = 0 := by decide +kernel
theorem top64 : (1048576 : Rat) < p2 (top .f64) := by decide +kernel
theorem sum64_val {vs : List Nat} {n : Nat} (hn : n ≤ 9) (hv : ∀ i, i < n → isNum .f32 (vs.getD i 0) = true ∧ fv .f32 (vs.getD i 0) ≤ 5 ∧ -5 ≤ fv .f32 (vs.getD i 0)) :
    ∀ i, i ≤ n → isNum .f64 (sum64 vs i) = true ∧ fv .f64 (sum64 vs i) - sumQ (fun i => fv .f32 (vs.getD i 0)) i ≤ (i : Rat) * (1 / 1000000) ∧ sumQ (fun i => fv .f32 (vs.getD i 0)) i - fv .f64 (sum64 vs i) ≤ (i : Rat) * (1 / 1000000)
  | 0, _ => ⟨num064, by rw [show sum64 vs 0 = 0 from rfl, fv064]; simp [sumQ]; decide +kernel, by rw [show sum64 vs 0 = 0 from rfl, fv064]; simp [sumQ]; decide +kernel⟩
  | i + 1, hi => by
    obtain ⟨a, b, c⟩ := sum64_val hn hv i (by omega)
    obtain ⟨x, y, y'⟩ := hv i (by omega)
    have hb := sumQ_bd2 (f := fun i => fv .f32 (vs.getD i 0)) (n := n) (fun i hi => (hv i hi).2) i (by omega)
    obtain ⟨w1, w2⟩ := w64_val x
    have hi9 : (i : Rat) ≤ 9 := Rat.natCast_le_natCast.2 (show i ≤ 9 by omega)
    have hi0 : (0 : Rat) ≤ (i : Rat) := Rat.natCast_le_natCast.2 (Nat.zero_le _)
    have e : sumQ (fun i => fv .f32 (vs.getD i 0)) (i + 1) = sumQ (fun i => fv .f32 (vs.getD i 0)) i + fv .f32 (vs.getD i 0) := rfl
    rw [e, sum64_succ, cast_succ]
    have t := top64
    have r := rnd_add a w1 (by rw [w2]; grind) (by rw [w2]; grind)
    rw [w2] at r
    have e2 : p2 8 = 256 := by decide +kernel
    have e21 : p2 (8 - (fb .f64 : Int)) ≤ 1 / 2000000 := by decide +kernel
    have em := r.err 8 (by decide) (by rw [e2]; grind) (by rw [e2]; grind)
    exact ⟨r.num, by grind, by grind⟩
theorem sq64_val {vs : List Nat} {n : Nat} (hn : n ≤ 9) (hv : ∀ i, i < n → isNum .f32 (vs.getD i 0) = true ∧ fv .f32 (vs.getD i 0) ≤ 5 ∧ -5 ≤ fv .f32 (vs.getD i 0)) :
    ∀ i, i ≤ n → isNum .f64 (sq64 vs i) = true ∧ fv .f64 (sq64 vs i) - sumQ (fun i => fv .f32 (vs.getD i 0) * fv .f32 (vs.getD i 0)) i ≤ (i : Rat) * (1 / 1000000) ∧ sumQ (fun i => fv .f32 (vs.getD i 0) * fv .f32 (vs.getD i 0)) i - fv .f64 (sq64 vs i) ≤ (i : Rat) * (1 / 1000000)
  | 0, _ => ⟨num064, by rw [show sq64 vs 0 = 0 from rfl, fv064]; simp [sumQ]; decide +kernel, by rw [show sq64 vs 0 = 0 from rfl, fv064]; simp [sumQ]; decide +kernel⟩
  | i + 1, hi => by
    obtain ⟨a, b, c⟩ := sq64_val hn hv i (by omega)
    obtain ⟨x, y, y'⟩ := hv i (by omega)
    have hsq : ∀ i, i < n → fv .f32 (vs.getD i 0) * fv .f32 (vs.getD i 0) ≤ 25 ∧ -25 ≤ fv .f32 (vs.getD i 0) * fv .f32 (vs.getD i 0) := fun i hi => by
      obtain ⟨_, u, u'⟩ := hv i hi
      have := abs_mul u' u u' u
      have e : (5 : Rat) * 5 = 25 := by decide +kernel
      rw [e] at this; exact this
    have hb := sumQ_bd2 (f := fun i => fv .f32 (vs.getD i 0) * fv .f32 (vs.getD i 0)) (n := n) hsq i (by omega)
    have hs := hsq i (by omega)
    obtain ⟨w1, w2⟩ := w64_val x
    have hi9 : (i : Rat) ≤ 9 := Rat.natCast_le_natCast.2 (show i ≤ 9 by omega)
    have hi0 : (0 : Rat) ≤ (i : Rat) := Rat.natCast_le_natCast.2 (Nat.zero_le _)
    have e : sumQ (fun i => fv .f32 (vs.getD i 0) * fv .f32 (vs.getD i 0)) (i + 1) = sumQ (fun i => fv .f32 (vs.getD i 0) * fv .f32 (vs.getD i 0)) i + fv .f32 (vs.getD i 0) * fv .f32 (vs.getD i 0) := rfl
    rw [e, sq64_succ, cast_succ]
    have t := top64
    have r0 := rnd_mul w1 w1 (by rw [w2]; grind) (by rw [w2]; grind)
    rw [w2] at r0
    have e2 : p2 8 = 256 := by decide +kernel
    have e21 : p2 (8 - (fb .f64 : Int)) ≤ 1 / 4000000 := by decide +kernel
    have em0 := r0.err 8 (by decide) (by rw [e2]; grind) (by rw [e2]; grind)
    have r := rnd_add a r0.num (by grind) (by grind)
    have e3 : p2 9 = 512 := by decide +kernel
    have e31 : p2 (9 - (fb .f64 : Int)) ≤ 1 / 4000000 := by decide +kernel
    have em := r.err 9 (by decide) (by rw [e3]; grind) (by rw [e3]; grind)
    exact ⟨r.num, by grind, by grind⟩
theorem near_int {n : Nat} (hn : n ≤ 9) : isNum .f64 (FloatKind.f64.nearest (n : Int)) = true ∧ fv .f64 (FloatKind.f64.nearest (n : Int)) = (n : Rat) := by
  have hn9 : (n : Rat) ≤ 9 := Rat.natCast_le_natCast.2 hn
  have hi0 : (0 : Rat) ≤ (n : Rat) := Rat.natCast_le_natCast.2 (Nat.zero_le _)
  have t := top64
  have e : ((n : Int) : Rat) = (n : Rat) := Rat.intCast_natCast n
  have hp : n < 2 ^ (fb .f64 + 1) := by
    have : (2 : Nat) ^ (fb .f64 + 1) = 9007199254740992 := by decide
    omega
  have r := rnd_int (k := .f64) (n : Int) (by rw [e]; grind) (by rw [e]; grind)
  refine ⟨r.num, ?_⟩
  rw [r.exact n 0 (.inl (by rw [p2_zero, Rat.mul_one, e])) hp (by decide), e]
theorem within_cent {n s t : Nat} (h1 : 1 ≤ n) (hn : n ≤ 9) (hs : isNum .f64 s = true) (ht : isNum .f64 t = true) (a : fv .f64 s - fv .f64 t ≤ (n : Rat) * (1 / 500)) (b : fv .f64 t - fv .f64 s ≤ (n : Rat) * (1 / 500)) :
    fcmp .lss .f64 (gapF s t) (fbin .mul .f64 4576918229304087675 (FloatKind.f64.nearest (n : Int))) = true := by
  have hn9 : (n : Rat) ≤ 9 := Rat.natCast_le_natCast.2 hn
  have hn1 : (1 : Rat) ≤ (n : Rat) := Rat.natCast_le_natCast.2 h1
  obtain ⟨g, e, g1, g2, _⟩ := gap_val hs ht a b (by grind)
  obtain ⟨m1, m2⟩ := near_int hn
  have c0 : isNum .f64 4576918229304087675 = true := by decide +kernel
  have c1 : (99 / 10000 : Rat) ≤ fv .f64 4576918229304087675 := by decide +kernel
  have c2 : fv .f64 4576918229304087675 ≤ (101 / 10000 : Rat) := by decide +kernel
  have t := top64
  have p1 := Rat.mul_le_mul_of_nonneg_right c1 (show 0 ≤ (n : Rat) by grind)
  have p2' := Rat.mul_le_mul_of_nonneg_right c2 (show 0 ≤ (n : Rat) by grind)
  have r := rnd_mul c0 m1 (by rw [m2]; grind) (by rw [m2]; grind)
  rw [m2] at r
  have e2 : p2 0 = 1 := by decide +kernel
  have e21 : p2 (0 - (fb .f64 : Int)) ≤ 1 / 1000000 := by decide +kernel
  have em := r.err 0 (by decide) (by rw [e2]; grind) (by rw [e2]; grind)
  unfold gapF
  rw [e, lss_val g1 r.num]
  exact decide_eq_true (by grind)
theorem norm_sum {xs : List Nat} {n : Nat} {z : Nat → Int} (h : Q4 xs n z) (h1 : 2 ≤ n) (hn : n ≤ 9) (hb : normB xs = true) :
    fcmp .lss .f64 (gapF (sum64 (normL xs) n) 0) (fbin .mul .f64 4576918229304087675 (FloatKind.f64.nearest (n : Int))) = true ∧
    fcmp .lss .f64 (gapF (sq64 (normL xs) n) (FloatKind.f64.nearest (n : Int))) (fbin .mul .f64 4576918229304087675 (FloatKind.f64.nearest (n : Int))) = true := by
  obtain ⟨v, a1, a2, a3, a4⟩ := norm_val h h1 hn hb
  obtain ⟨b1, b2, b3⟩ := sum64_val hn v n (Nat.le_refl _)
  obtain ⟨c1, c2, c3⟩ := sq64_val hn v n (Nat.le_refl _)
  obtain ⟨m1, m2⟩ := near_int hn
  have hn1 : (0 : Rat) ≤ (n : Rat) := Rat.natCast_le_natCast.2 (Nat.zero_le _)
  exact ⟨within_cent (by omega) hn b1 num064 (by rw [fv064]; grind) (by rw [fv064]; grind), within_cent (by omega) hn c1 m1 (by rw [m2]; grind) (by rw [m2]; grind)⟩

theorem three {P : Nat → Prop} (h0 : P 0) (h1 : P 1) (h2 : P 2) : ∀ i, i < 3 → P i := by
  intro i hi
  match i with
  | 0 => exact h0
  | 1 => exact h1
  | 2 => exact h2
theorem goodn_of {A B C : List Nat} {n p : Nat} {x y z : Nat → Int} (hA : Q4 A n x) (hB : Q4 B n y) (hC : Q4 C n z) (h1 : 2 ≤ n) (hn : n ≤ 9) (hp : p < 3) : GoodN A B C p n := by
  have hall : ∀ i, i < 3 → ∃ w, Q4 ([A, B, C].getD i []) n w := three ⟨x, hA⟩ ⟨y, hB⟩ ⟨z, hC⟩
  obtain ⟨w, hP⟩ := hall p hp
  have hF : ∀ i, i < 3 → isNum .f32 (farAt [A, B, C] ([A, B, C].getD p []) i) = true ∧ 0 ≤ fv .f32 (farAt [A, B, C] ([A, B, C].getD p []) i) := fun i hi => by
    obtain ⟨u, hu⟩ := hall i hi
    exact far_val hu hP (by omega)
  have hF0 : fv .f32 (farAt [A, B, C] ([A, B, C].getD p []) p) = 0 := far_self hP (by omega)
  obtain ⟨f1, f2, f3⟩ := best_zero hF hp hF0 3 (by decide) (Nat.le_refl _)
  obtain ⟨f4, f5⟩ := f3 hp
  have hW : ∀ i, i < 3 → warpOk ([A, B, C].getD i []) ([A, B, C].getD p []) 4 = true ∧ isNum .f32 (warpAt [A, B, C] ([A, B, C].getD p []) 4 i) = true ∧ 0 ≤ fv .f32 (warpAt [A, B, C] ([A, B, C].getD p []) 4 i) := fun i hi => by
    obtain ⟨u, hu⟩ := hall i hi
    obtain ⟨a, b, c, _⟩ := warp_val hu hP (by omega) (by omega)
    exact ⟨a, b, c⟩
  have hW0 : fv .f32 (warpAt [A, B, C] ([A, B, C].getD p []) 4 p) = 0 := (warp_val hP hP (by omega) (by omega)).2.2.2 fun _ => rfl
  obtain ⟨w1, w2, w3⟩ := best_zero (fun i hi => (hW i hi).2) hp hW0 3 (by decide) (Nat.le_refl _)
  obtain ⟨w4, w5⟩ := w3 hp
  have nf : isNum .f32 (bestN (farAt [A, B, C] ([A, B, C].getD p [])) 3).2 = true := by rw [f2]; exact (hF _ f1).1
  have nw : isNum .f32 (bestN (warpAt [A, B, C] ([A, B, C].getD p []) 4) 3).2 = true := by rw [w2]; exact (hW _ w1).2.1
  exact {
    pl := hp
    la := fun i hi => by obtain ⟨u, hu⟩ := hall i hi; exact hu.len
    shp := by
      have e1 := hA.two hA (by omega) (by omega)
      have e2 := hB.two hA (by omega) (by omega)
      have e3 := hC.two hA (by omega) (by omega)
      unfold shapes
      simp [e1, e2, e3, hA.series (by omega) (by omega)]
    twoX := hP.two hA (by omega) (by omega)
    finF := fun i hi => isFin_num (hF i hi).1
    far0 := by rw [neq_val nf num0, fv0, f5]; simp
    farI := f4
    wOk := fun i hi => (hW i hi).1
    w0 := by rw [neq_val nw num0, fv0, w5]; simp
    wI := w4
    t01 := hA.two hB (by omega) (by omega)
    t10 := hB.two hA (by omega) (by omega)
    f01 := isFin_num (far_val hA hB (by omega)).1
    f10 := isFin_num (far_val hB hA (by omega)).1
    same := by rw [far_sym hA hB]; exact sameS_refl _
    idx0 := by
      have e : farL ([A, B, C].getD (bestN (farAt [A, B, C] ([A, B, C].getD p [])) 3).1 []) ([A, B, C].getD p []) = (bestN (farAt [A, B, C] ([A, B, C].getD p [])) 3).2 := f2.symm
      rw [e, neq_val nf num0, fv0, f5]; simp
    sum := fun hb => (norm_sum hP h1 hn hb).1
    sq := fun hb => (norm_sum hP h1 hn hb).2 }
theorem goodNear (bs ms : List Nat) : GoodNear bs ms := by
  obtain ⟨a, b⟩ := at10_range ms (i := 0) (n := 8) (by decide) (by decide)
  obtain ⟨c, d⟩ := at10_range ms (i := 1) (n := 3) (by decide) (by decide)
  unfold GoodNear nearN
  exact goodn_of (draw_q4 _ _) (draw_q4 _ _) (draw_q4 _ _) (by omega) (by omega) (by omega)

end Go.Proofs.Ytnhhdgopgecggaa.Abs
