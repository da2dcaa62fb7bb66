/- Floats of 32 bits that are whole numbers of a power of two, with few digits: their sums, differences, products and some quotients are exact. No condition. -/
import Derived.Test.YtnhhdgopgecggaaAbsFw
set_option linter.unusedVariables false
set_option linter.unusedSimpArgs false
namespace Go.Proofs.Ytnhhdgopgecggaa.Abs
open Go Ieee

structure Gr (q : Int) (n : Int) (w : Nat) : Prop where
  num : isNum .f32 w = true
  val : fv .f32 w = (n : Rat) * p2 q
theorem natAbs_cast (n : Int) : (n : Rat) = (n.natAbs : Rat) ∨ -(n : Rat) = (n.natAbs : Rat) := by
  by_cases h : 0 ≤ n
  · left; rw [← Rat.intCast_natCast, Int.natAbs_of_nonneg h]
  · right
    rw [← Rat.intCast_neg, ← Rat.intCast_natCast]
    congr 1; omega
theorem gr_top {n q : Int} (h : n.natAbs < 2 ^ 24) (hq : q ≤ 100) : (n : Rat) * p2 q < p2 (top .f32) ∧ -((n : Rat) * p2 q) < p2 (top .f32) := by
  have h1 : (n.natAbs : Rat) * p2 q < p2 124 := by
    have e1 : (n.natAbs : Rat) * p2 q < p2 (24 : Int) * p2 q := Rat.mul_lt_mul_of_pos_right (by
      have : p2 (24 : Int) = ((2 ^ 24 : Nat) : Rat) := p2_nat 24
      rw [this]; exact Rat.natCast_lt_natCast.2 h) (p2_pos q)
    rw [← p2_add] at e1
    have e2 := p2_mono (show 24 + q ≤ 124 by omega)
    grind
  have h2 := natmul_nonneg n.natAbs q
  have h3 := p2_mono (show (124 : Int) ≤ top .f32 by decide)
  rcases natAbs_cast n with e | e
  · rw [e]; constructor <;> grind
  · have e' : (n : Rat) = -(n.natAbs : Rat) := by grind
    rw [e']; constructor <;> grind
theorem gr_of {q n : Int} {w : Nat} {r : Rat} (h : Rnd .f32 r w) (hr : r = (n : Rat) * p2 q) (hn : n.natAbs < 2 ^ 24) (hq : -149 ≤ q) : Gr q n w := by
  refine ⟨h.num, ?_⟩
  rw [← hr]
  refine h.exact n.natAbs q ?_ hn hq
  rw [hr]
  rcases natAbs_cast n with e | e
  · left; rw [← e]
  · right; rw [← e]; grind
theorem Gr.add {q n m : Int} {x y : Nat} (hx : Gr q n x) (hy : Gr q m y) (hn : (n + m).natAbs < 2 ^ 24) (h1 : -149 ≤ q) (h2 : q ≤ 100) : Gr q (n + m) (fbin .add .f32 x y) := by
  have e : fv .f32 x + fv .f32 y = ((n + m : Int) : Rat) * p2 q := by rw [hx.val, hy.val, Rat.intCast_add]; grind
  have t := gr_top hn h2
  exact gr_of (rnd_add hx.num hy.num (by rw [e]; exact t.1) (by rw [e]; exact t.2)) e hn h1
theorem Gr.sub {q n m : Int} {x y : Nat} (hx : Gr q n x) (hy : Gr q m y) (hn : (n - m).natAbs < 2 ^ 24) (h1 : -149 ≤ q) (h2 : q ≤ 100) : Gr q (n - m) (fbin .sub .f32 x y) := by
  have e : fv .f32 x - fv .f32 y = ((n - m : Int) : Rat) * p2 q := by rw [hx.val, hy.val, Rat.intCast_sub]; grind
  have t := gr_top hn h2
  exact gr_of (rnd_sub hx.num hy.num (by rw [e]; exact t.1) (by rw [e]; exact t.2)) e hn h1
theorem Gr.mul {q q' n m : Int} {x y : Nat} (hx : Gr q n x) (hy : Gr q' m y) (hn : (n * m).natAbs < 2 ^ 24) (h1 : -149 ≤ q + q') (h2 : q + q' ≤ 100) : Gr (q + q') (n * m) (fbin .mul .f32 x y) := by
  have e : fv .f32 x * fv .f32 y = ((n * m : Int) : Rat) * p2 (q + q') := by rw [hx.val, hy.val, Rat.intCast_mul, p2_add]; grind
  have t := gr_top hn h2
  exact gr_of (rnd_mul hx.num hy.num (by rw [e]; exact t.1) (by rw [e]; exact t.2)) e hn h1
/-- A quotient that is told ahead. -/
theorem Gr.quo {q q' q'' n m r : Int} {x y : Nat} (hx : Gr q n x) (hy : Gr q' m y) (hm : m ≠ 0) (hr : (n : Rat) * p2 q = (r : Rat) * p2 q'' * ((m : Rat) * p2 q')) (hn : (2 * r).natAbs < 2 ^ 24) (h1 : -149 ≤ q'') (h2 : q'' ≤ 100) : Gr q'' r (fbin .quo .f32 x y) := by
  have hmR : (m : Rat) ≠ 0 := by
    intro h; exact hm (by exact_mod_cast h)
  have hpp := p2_pos q'
  have hy0 : (m : Rat) * p2 q' ≠ 0 := by
    intro h
    rcases Rat.mul_eq_zero.1 h with h | h
    · exact hmR h
    · rw [h] at hpp; exact absurd hpp (by decide)
  have e : fv .f32 x / fv .f32 y = (r : Rat) * p2 q'' := by
    rw [hx.val, hy.val, hr]
    exact Rat.mul_div_cancel hy0
  have e2 : 2 * (fv .f32 x / fv .f32 y) = ((2 * r : Int) : Rat) * p2 q'' := by
    rw [e, Rat.intCast_mul]; rw [← Rat.mul_assoc]; rfl
  have t := gr_top hn h2
  exact gr_of (rnd_quo hx.num hy.num (by rw [hy.val]; exact hy0) (by rw [e2]; exact t.1) (by rw [e2]; exact t.2)) e (by omega) h1
theorem gr_int {n : Int} (hn : n.natAbs < 2 ^ 24) : Gr 0 n (FloatKind.f32.nearest n) := by
  have t := gr_top hn (show (0 : Int) ≤ 100 by decide)
  rw [p2_zero, Rat.mul_one] at t
  exact gr_of (rnd_int n t.1 t.2) (by rw [p2_zero, Rat.mul_one]) hn (by decide)
theorem Gr.fine {q n : Int} {w : Nat} (h : Gr q n w) (k : Nat) : Gr (q - k) (2 ^ k * n) w := by
  refine ⟨h.num, ?_⟩
  rw [h.val, Rat.intCast_mul]
  have : p2 q = p2 (k : Int) * p2 (q - k) := by rw [← p2_add]; congr 1; omega
  rw [this, p2_nat]
  have e : ((2 ^ k : Int) : Rat) = ((2 ^ k : Nat) : Rat) := by
    rw [← Rat.intCast_natCast, Int.natCast_pow]; rfl
  rw [e]; grind

/-! ### Gaps, as 64-bit numbers -/
theorem gap_val {a b : Nat} {d : Rat} (ha : isNum .f64 a = true) (hb : isNum .f64 b = true) (h1 : fv .f64 a - fv .f64 b ≤ d) (h2 : fv .f64 b - fv .f64 a ≤ d) (hd : d ≤ 2) :
    ∃ g, (if fcmp .lss .f64 a b = true then fbin .sub .f64 b a else fbin .sub .f64 a b) = g ∧ isNum .f64 g = true ∧ fv .f64 g ≤ d + 1 / 1000000 ∧ -(1 / 1000000) ≤ fv .f64 g := by
  have big : (2 : Rat) < p2 (top .f64) := by decide +kernel
  have e2 : p2 1 = 2 := by decide +kernel
  have e3 : p2 (1 - (fb .f64 : Int)) ≤ 1 / 1000000 := by decide +kernel
  rw [lss_val ha hb]
  by_cases h : fv .f64 a < fv .f64 b
  · rw [decide_eq_true h, if_pos rfl]
    have r := rnd_sub hb ha (by grind) (by grind)
    have e := r.err 1 (by decide) (by rw [e2]; grind) (by rw [e2]; grind)
    exact ⟨_, rfl, r.num, by grind, by grind⟩
  · rw [decide_eq_false h, if_neg (by decide)]
    have r := rnd_sub ha hb (by grind) (by grind)
    have e := r.err 1 (by decide) (by rw [e2]; grind) (by rw [e2]; grind)
    exact ⟨_, rfl, r.num, by grind, by grind⟩

end Go.Proofs.Ytnhhdgopgecggaa.Abs
