/- What floats stand for, as rational numbers, and how far a rounded result is from the exact one. No condition. -/
import Derived.Test.YtnhhdgopgecggaaAbsFl
set_option linter.unusedVariables false
set_option linter.unusedSimpArgs false
namespace Go.Proofs.Ytnhhdgopgecggaa.Abs
open Go Ieee

/-! ### Powers of two -/
def p2 (e : Int) : Rat := (2 : Rat) ^ e
theorem p2_pos (e : Int) : 0 < p2 e := Rat.zpow_pos (by decide)
theorem p2_add (a b : Int) : p2 (a + b) = p2 a * p2 b := Rat.zpow_add (by decide) a b
theorem p2_succ (e : Int) : p2 (e + 1) = 2 * p2 e := by
  rw [p2, Rat.zpow_add_one (by decide), Rat.mul_comm]; rfl
theorem p2_zero : p2 0 = 1 := by decide +kernel
theorem p2_nat (n : Nat) : p2 (n : Int) = ((2 ^ n : Nat) : Rat) := by
  rw [p2, Rat.zpow_natCast, Rat.natCast_pow]; rfl
theorem p2_sub (a b : Int) : p2 (a - b) * p2 b = p2 a := by
  rw [← p2_add]; congr 1; omega
theorem p2_mono {a b : Int} (h : a ≤ b) : p2 a ≤ p2 b := by
  obtain ⟨n, hn⟩ := Int.eq_ofNat_of_zero_le (show 0 ≤ b - a by omega)
  have : b = (n : Int) + a := by omega
  rw [this, p2_add, p2_nat]
  have h1 : (1 : Rat) ≤ ((2 ^ n : Nat) : Rat) := Rat.natCast_le_natCast.2 Nat.one_le_two_pow
  have := Rat.mul_le_mul_of_nonneg_right h1 (Rat.le_of_lt (p2_pos a))
  grind
theorem p2_lt {a b : Int} (h : p2 a < p2 b) : a < b := by
  by_cases hh : b ≤ a
  · have := p2_mono hh; grind
  · omega

/-! ### What a datum stands for -/
def sg (s : Bool) : Rat := if s = true then -1 else 1
def dv : Datum → Rat
  | .number s m p => sg s * ((m : Rat) * p2 p)
  | _ => 0
def isNumD : Datum → Bool
  | .number .. => true
  | _ => false
/-- The word stands for a number. -/
def isNum (k : FloatKind) (w : Nat) : Bool := isNumD (k.decode w)
/-- The number for which a word stands. -/
def fv (k : FloatKind) (w : Nat) : Rat := dv (k.decode w)

/-- The magnitude of a rung. -/
def rv (f : Format) (r : Nat) : Rat :=
  if r < f.binade then (r : Rat) * p2 f.leastPlace else ((f.binade + r % f.binade : Nat) : Rat) * p2 (f.leastPlace + (r / f.binade - 1 : Nat))
theorem read_word_eq (f : Format) (neg : Bool) {r : Nat} (hr : r < f.infRung) :
    f.read (f.word neg r) = if r < f.binade then .number neg r f.leastPlace else .number neg (f.binade + r % f.binade) (f.leastPlace + (r / f.binade - 1 : Nat)) := by
  have hs : r < f.signWeight := Nat.lt_trans hr (Format.infRung_lt f)
  have hp : 0 < f.signWeight := by omega
  have h1 : f.word neg r / f.signWeight % 2 = if neg then 1 else 0 := by
    unfold Format.word
    cases neg
    · simp [Nat.div_eq_of_lt hs]
    · simp only [if_true]
      rw [Nat.add_div_left _ hp, Nat.div_eq_of_lt hs]
  have h2 : f.word neg r % f.signWeight = r := by
    unfold Format.word
    cases neg
    · simp [Nat.mod_eq_of_lt hs]
    · simp only [if_true]
      rw [Nat.add_mod_left, Nat.mod_eq_of_lt hs]
  unfold Format.read
  simp only [h1, h2, hr, if_true]
  have h3 : ((if neg = true then 1 else 0) == 1) = neg := by cases neg <;> rfl
  rw [h3]
theorem dv_word (f : Format) (neg : Bool) {r : Nat} (hr : r < f.infRung) : isNumD (f.read (f.word neg r)) = true ∧ dv (f.read (f.word neg r)) = sg neg * rv f r := by
  rw [read_word_eq f neg hr]
  unfold rv
  split <;> exact ⟨rfl, rfl⟩
theorem rv_rung (f : Format) {j kept : Nat} (hk : kept ≤ 2 * f.binade) (hj : j = 0 ∨ f.binade ≤ kept) : rv f (j * f.binade + kept) = (kept : Rat) * p2 (f.leastPlace + j) := by
  have hb : 0 < f.binade := Nat.two_pow_pos _
  unfold rv
  by_cases h1 : kept < f.binade
  · have hj0 : j = 0 := by omega
    subst hj0
    rw [Nat.zero_mul, Nat.zero_add, if_pos h1]
    simp
  · have hge : ¬ (j * f.binade + kept < f.binade) := by
      have := Nat.zero_le (j * f.binade); omega
    rw [if_neg hge]
    by_cases h2 : kept = 2 * f.binade
    · subst h2
      have hr : j * f.binade + 2 * f.binade = (j + 2) * f.binade := by rw [Nat.add_mul]
      rw [hr, Nat.mul_mod_left, Nat.mul_div_cancel _ hb]
      have : ((j + 2 - 1 : Nat) : Int) = (j : Int) + 1 := by omega
      rw [this, ← Int.add_assoc, p2_succ]
      simp only [Nat.add_zero, Rat.natCast_mul]
      grind
    · obtain ⟨d, hd⟩ : ∃ d, kept = f.binade + d := ⟨kept - f.binade, by omega⟩
      have hdl : d < f.binade := by omega
      subst hd
      have hr : j * f.binade + (f.binade + d) = d + (j + 1) * f.binade := by rw [Nat.add_mul]; omega
      rw [hr, Nat.add_mul_mod_self_right, Nat.mod_eq_of_lt hdl, Nat.add_mul_div_right _ _ hb, Nat.div_eq_of_lt hdl]
      congr 3
      omega

/-! ### Rounding -/
theorem cut_err (neg : Bool) (n drop : Nat) : 2 * (Toward.even.cut neg n drop * 2 ^ drop) ≤ 2 * n + 2 ^ drop ∧ 2 * n ≤ 2 * (Toward.even.cut neg n drop * 2 ^ drop) + 2 ^ drop := by
  have hlt : n < 2 ^ (n.log2 + 1) := Nat.lt_log2_self
  unfold Toward.cut
  simp only [Nat.one_shiftLeft]
  by_cases hd : drop ≤ n.log2 + 2
  · rw [Nat.min_eq_left hd]
    generalize hg : 2 ^ drop = g
    have hgp : 0 < g := by rw [← hg]; exact Nat.two_pow_pos _
    have hn := Nat.div_add_mod n g
    have hr := Nat.mod_lt n hgp
    generalize hq : n / g = q at *
    generalize hs : n % g = s at *
    rw [Nat.mul_comm g q] at hn
    by_cases h1 : g < 2 * s
    · simp only [h1, decide_true, Bool.true_or, Bool.toNat_true, Nat.add_mul, Nat.one_mul]
      generalize q * g = z at *
      omega
    · simp only [h1, decide_false, Bool.false_or]
      cases hb : (g == 2 * s && q % 2 == 1)
      · simp only [Bool.toNat_false, Nat.add_zero]
        generalize q * g = z at *
        omega
      · simp only [Bool.and_eq_true, beq_iff_eq] at hb
        simp only [Bool.toNat_true, Nat.add_mul, Nat.one_mul]
        generalize q * g = z at *
        omega
  · rw [Nat.min_eq_right (by omega)]
    have h1 : 2 ^ (n.log2 + 2) = 2 * 2 ^ (n.log2 + 1) := by rw [Nat.pow_succ]; omega
    have h0 : n / 2 ^ (n.log2 + 2) = 0 := Nat.div_eq_of_lt (by omega)
    have h2 : n % 2 ^ (n.log2 + 2) = n := Nat.mod_eq_of_lt (by omega)
    have h3 : ¬ (2 ^ (n.log2 + 2) < 2 * n) := by omega
    have h4 : (2 ^ (n.log2 + 2) == 2 * n) = false := by
      rw [beq_eq_false_iff_ne]; omega
    rw [h0, h2, h4]
    simp only [h3, decide_false, Bool.false_or, Bool.false_and, Bool.toNat_false, Nat.add_zero, Nat.zero_mul, Nat.mul_zero]
    have h5 : 2 ^ (n.log2 + 2) ≤ 2 ^ drop := Nat.pow_le_pow_right (by omega) (by omega)
    omega
theorem cut_ge (neg : Bool) {n drop b : Nat} (h : b + drop ≤ n.log2) (hn : n ≠ 0) : 2 ^ b ≤ Toward.even.cut neg n drop := by
  have hle : 2 ^ n.log2 ≤ n := Nat.log2_self_le hn
  unfold Toward.cut
  simp only [Nat.one_shiftLeft]
  rw [Nat.min_eq_left (by omega)]
  refine Nat.le_trans ?_ (Nat.le_add_right _ _)
  rw [Nat.le_div_iff_mul_le (Nat.two_pow_pos _), ← Nat.pow_add]
  exact Nat.le_trans (Nat.pow_le_pow_right (by omega) h) hle

/-- Twice the error of a rounded number, and that it is made of whole units. -/
theorem nearest_val (f : Format) (neg : Bool) {mag : Nat} {place : Int} (hm : mag ≠ 0) (hfin : rung f neg mag place < f.infRung) :
    ∃ kept : Nat, isNumD (f.read (f.nearest neg mag place)) = true ∧ dv (f.read (f.nearest neg mag place)) = sg neg * ((kept : Rat) * p2 (max (place + mag.log2 - f.fractionBits) f.leastPlace)) ∧
      2 * ((kept : Rat) * p2 (max (place + mag.log2 - f.fractionBits) f.leastPlace)) ≤ 2 * ((mag : Rat) * p2 place) + p2 (max (place + mag.log2 - f.fractionBits) f.leastPlace) ∧
      2 * ((mag : Rat) * p2 place) ≤ 2 * ((kept : Rat) * p2 (max (place + mag.log2 - f.fractionBits) f.leastPlace)) + p2 (max (place + mag.log2 - f.fractionBits) f.leastPlace) := by
  have hk := kept_le f neg (last := max (place + mag.log2 - f.fractionBits) f.leastPlace) hm (Int.le_max_left _ _)
  rw [nearest_rung f neg place hm, Nat.min_eq_left (Nat.le_of_lt hfin)]
  obtain ⟨d1, d2⟩ := dv_word f neg hfin
  rw [d2]
  refine ⟨Toward.even.cut neg (mag <<< (place - max (place + mag.log2 - f.fractionBits) f.leastPlace).toNat) (max (place + mag.log2 - f.fractionBits) f.leastPlace - place).toNat, d1, ?_⟩
  clear d1 d2 hfin
  unfold rung
  have hll : f.leastPlace ≤ max (place + mag.log2 - f.fractionBits) f.leastPlace := Int.le_max_right _ _
  have hcase : max (place + mag.log2 - f.fractionBits) f.leastPlace = f.leastPlace ∨ max (place + mag.log2 - f.fractionBits) f.leastPlace = place + mag.log2 - f.fractionBits := by omega
  generalize max (place + mag.log2 - f.fractionBits) f.leastPlace = last at *
  refine ⟨?_, ?_⟩
  · rw [rv_rung f hk]
    · congr 3; omega
    · rcases hcase with h | h
      · left; omega
      · right
        by_cases hp : last ≤ place
        · have h0 : (last - place).toNat = 0 := by omega
          rw [h0, cut_zero, Nat.shiftLeft_eq]
          have hle : 2 ^ mag.log2 ≤ mag := Nat.log2_self_le hm
          calc f.binade = 2 ^ (mag.log2 + (place - last).toNat) := by
                unfold Format.binade; congr 1; omega
            _ = 2 ^ mag.log2 * 2 ^ (place - last).toNat := Nat.pow_add ..
            _ ≤ _ := Nat.mul_le_mul_right _ hle
        · have h0 : (place - last).toNat = 0 := by omega
          rw [h0, Nat.shiftLeft_zero]
          exact cut_ge neg (by omega) hm
  · obtain ⟨c1, c2⟩ := cut_err neg (mag <<< (place - last).toNat) (last - place).toNat
    generalize Toward.even.cut neg (mag <<< (place - last).toNat) (last - place).toNat = kept at *
    rw [Nat.shiftLeft_eq] at c1 c2
    by_cases hp : last ≤ place
    · have h0 : (last - place).toNat = 0 := by omega
      rw [h0] at c1 c2
      obtain ⟨a, ha⟩ := Int.eq_ofNat_of_zero_le (show 0 ≤ place - last by omega)
      have ha' : place = (a : Int) + last := by omega
      have ha2 : (place - last).toNat = a := by omega
      rw [ha2] at c1 c2
      rw [ha', p2_add, p2_nat]
      have c1' := Rat.natCast_le_natCast.2 c1
      have c2' := Rat.natCast_le_natCast.2 c2
      simp only [Rat.natCast_add, Rat.natCast_mul, Nat.pow_zero, Rat.natCast_ofNat] at c1' c2'
      have hp2 := p2_pos last
      generalize p2 last = u at *
      generalize ((2 ^ a : Nat) : Rat) = v at *
      have e1 := Rat.mul_le_mul_of_nonneg_right c1' (Rat.le_of_lt hp2)
      have e2 := Rat.mul_le_mul_of_nonneg_right c2' (Rat.le_of_lt hp2)
      constructor <;> grind
    · have h0 : (place - last).toNat = 0 := by omega
      rw [h0, Nat.pow_zero, Nat.mul_one] at c1 c2
      obtain ⟨a, ha⟩ := Int.eq_ofNat_of_zero_le (show 0 ≤ last - place by omega)
      have ha' : last = (a : Int) + place := by omega
      have ha2 : (last - place).toNat = a := by omega
      rw [ha2] at c1 c2
      rw [ha', p2_add, p2_nat]
      have c1' := Rat.natCast_le_natCast.2 c1
      have c2' := Rat.natCast_le_natCast.2 c2
      simp only [Rat.natCast_add, Rat.natCast_mul, Rat.natCast_ofNat] at c1' c2'
      have hp2 := p2_pos place
      generalize p2 place = u at *
      generalize ((2 ^ a : Nat) : Rat) = v at *
      have e1 := Rat.mul_le_mul_of_nonneg_right c1' (Rat.le_of_lt hp2)
      have e2 := Rat.mul_le_mul_of_nonneg_right c2' (Rat.le_of_lt hp2)
      constructor <;> grind

/-! ### The two kinds -/
def fb : FloatKind → Nat
  | .f32 => 23
  | .f64 => 52
def lp : FloatKind → Int
  | .f32 => -149
  | .f64 => -1074
def top : FloatKind → Int
  | .f32 => 127
  | .f64 => 1023
theorem fb_eq (k : FloatKind) : k.format.fractionBits = fb k := by cases k <;> rfl
theorem lp_eq (k : FloatKind) : k.format.leastPlace = lp k := by cases k <;> decide

theorem log2_val {m : Nat} (hm : m ≠ 0) (p : Int) : p2 (p + m.log2) ≤ (m : Rat) * p2 p ∧ (m : Rat) * p2 p < p2 (p + m.log2 + 1) := by
  have h1 : 2 ^ m.log2 ≤ m := Nat.log2_self_le hm
  have h2 : m < 2 ^ (m.log2 + 1) := Nat.lt_log2_self
  have h1' := Rat.natCast_le_natCast.2 h1
  have h2' := Rat.natCast_lt_natCast.2 h2
  have hp := p2_pos p
  have e1 : p2 (p + m.log2) = ((2 ^ m.log2 : Nat) : Rat) * p2 p := by rw [Int.add_comm, p2_add, p2_nat]
  have e2 : p2 (p + m.log2 + 1) = ((2 ^ (m.log2 + 1) : Nat) : Rat) * p2 p := by
    have : p + m.log2 + 1 = ((m.log2 + 1 : Nat) : Int) + p := by omega
    rw [this, p2_add, p2_nat]
  rw [e1, e2]
  exact ⟨Rat.mul_le_mul_of_nonneg_right h1' (Rat.le_of_lt hp), Rat.mul_lt_mul_of_pos_right h2' hp⟩

/-- A number as it is written: half a unit of the last place off. -/
theorem enc_core (k : FloatKind) (s : Bool) (m : Nat) (p : Int) (h : (m : Rat) * p2 p < p2 (top k)) :
    isNum k (k.encode (.number s m p)) = true ∧ ∃ (kept : Nat) (last : Int), fv k (k.encode (.number s m p)) = sg s * ((kept : Rat) * p2 last) ∧ lp k ≤ last ∧
      (last = lp k ∨ p2 (last + fb k) ≤ (m : Rat) * p2 p) ∧
      2 * ((kept : Rat) * p2 last) ≤ 2 * ((m : Rat) * p2 p) + p2 last ∧ 2 * ((m : Rat) * p2 p) ≤ 2 * ((kept : Rat) * p2 last) + p2 last := by
  by_cases hm : m = 0
  · subst hm
    have hw : k.encode (.number s 0 p) = k.format.word s 0 := by
      show k.format.nearest s 0 p = _
      unfold Format.nearest; rw [if_pos rfl]
    have h0 : 0 < k.format.infRung := by cases k <;> decide
    obtain ⟨d1, d2⟩ := dv_word k.format s h0
    refine ⟨by unfold isNum FloatKind.decode; rw [hw]; exact d1, 0, lp k, ?_, by omega, .inl rfl, ?_, ?_⟩
    · unfold fv FloatKind.decode; rw [hw, d2]
      have : rv k.format 0 = ((0 : Nat) : Rat) * p2 k.format.leastPlace := by
        unfold rv; rw [if_pos (show 0 < k.format.binade from Nat.two_pow_pos _)]
      rw [this, lp_eq]
    · have := p2_pos (lp k); simp only [Rat.natCast_ofNat, Rat.zero_mul]; grind
    · have := p2_pos (lp k); simp only [Rat.natCast_ofNat, Rat.zero_mul]; grind
  · have hv := log2_val hm p
    have hlt : p + m.log2 < top k := p2_lt (by have := hv.1; grind)
    have hr : rung k.format s m p < k.format.infRung := by
      refine rung_lt _ _ hm ?_ ?_
      · rw [fb_eq, lp_eq]
        cases k
        · have : (2 : Int) ^ FloatKind.f32.format.exponentBits - 1 = 255 := by decide
          rw [this]; simp only [fb, lp, top] at *; omega
        · have : (2 : Int) ^ FloatKind.f64.format.exponentBits - 1 = 2047 := by decide
          rw [this]; simp only [fb, lp, top] at *; omega
      · cases k <;> decide
    obtain ⟨kept, n1, n2, n3, n4⟩ := nearest_val k.format s (place := p) hm hr
    rw [fb_eq, lp_eq] at n2 n3 n4
    refine ⟨n1, kept, _, n2, Int.le_max_right _ _, ?_, n3, n4⟩
    by_cases hc : p + m.log2 - fb k ≤ lp k
    · left; omega
    · right
      have : max (p + m.log2 - (fb k : Int)) (lp k) + fb k = p + m.log2 := by omega
      rw [this]; exact hv.1

/-- The word w is a rounding of r. -/
structure Rnd (k : FloatKind) (r : Rat) (w : Nat) : Prop where
  num : isNum k w = true
  err : ∀ j : Int, lp k + fb k ≤ j → r ≤ p2 j → -r ≤ p2 j → fv k w - r ≤ p2 (j - fb k) ∧ r - fv k w ≤ p2 (j - fb k)
  rel : ∀ a : Rat, r ≤ a → -r ≤ a → fv k w - r ≤ a * p2 (-(fb k : Int)) + p2 (lp k) ∧ r - fv k w ≤ a * p2 (-(fb k : Int)) + p2 (lp k)
  exact : ∀ (M : Nat) (e : Int), (r = (M : Rat) * p2 e ∨ -r = (M : Rat) * p2 e) → M < 2 ^ (fb k + 1) → lp k ≤ e → fv k w = r

theorem sg_cases (s : Bool) : sg s = 1 ∨ sg s = -1 := by cases s <;> simp [sg]
theorem natmul_nonneg (m : Nat) (p : Int) : 0 ≤ (m : Rat) * p2 p := Rat.mul_nonneg (by exact_mod_cast Nat.zero_le m) (Rat.le_of_lt (p2_pos p))

/-- Two whole numbers of units that are no unit apart are the same. -/
theorem units_eq {a b : Nat} {u : Rat} (hu : 0 < u) (h1 : 2 * ((a : Rat) * u) ≤ 2 * ((b : Rat) * u) + u) (h2 : 2 * ((b : Rat) * u) ≤ 2 * ((a : Rat) * u) + u) : a = b := by
  have key : ∀ x y : Nat, 2 * ((x : Rat) * u) ≤ 2 * ((y : Rat) * u) + u → x ≤ y := by
    intro x y h
    have e1 : ((2 * x : Nat) : Rat) * u ≤ ((2 * y + 1 : Nat) : Rat) * u := by
      simp only [Rat.natCast_add, Rat.natCast_mul, Rat.natCast_ofNat]
      grind
    have e2 : ((2 * x : Nat) : Rat) ≤ ((2 * y + 1 : Nat) : Rat) := Rat.le_of_mul_le_mul_right e1 hu
    have := Rat.natCast_le_natCast.1 e2
    omega
  exact Nat.le_antisymm (key _ _ h1) (key _ _ h2)

/-- A number that is near to an exact one, written. -/
theorem enc_near (k : FloatKind) (s : Bool) (m : Nat) (p : Int) (R d : Rat) (h : (m : Rat) * p2 p < p2 (top k)) (hd0 : 0 ≤ d) (hd : 4 * d * p2 (fb k) ≤ R)
    (hR : 0 ≤ R) (h1 : (m : Rat) * p2 p - R ≤ d) (h2 : R - (m : Rat) * p2 p ≤ d) (hx : ∀ (M : Nat) (e : Int), R = (M : Rat) * p2 e → M < 2 ^ (fb k + 1) → lp k ≤ e → (m : Rat) * p2 p = R) :
    Rnd k (sg s * R) (k.encode (.number s m p)) := by
  obtain ⟨c1, kept, last, c2, c3, c4, c5, c6⟩ := enc_core k s m p h
  have hmp := natmul_nonneg m p
  have hkp := natmul_nonneg kept last
  have hlast := p2_pos last
  have hfb1 : p2 (fb k) * p2 (-(fb k : Int)) = 1 := by rw [← p2_add, Int.add_right_neg, p2_zero]
  have hfbp := p2_pos (fb k)
  have hfbn := p2_pos (-(fb k : Int))
  have hlpp := p2_pos (lp k)
  have hd' : 4 * d ≤ R * p2 (-(fb k : Int)) := by
    have := Rat.mul_le_mul_of_nonneg_right hd (Rat.le_of_lt hfbn)
    rw [Rat.mul_assoc, hfb1, Rat.mul_one] at this
    exact this
  have hbig : (8 : Rat) ≤ p2 (fb k) := by cases k <;> decide +kernel
  have hd8 : 32 * d ≤ R := by
    have := Rat.mul_le_mul_of_nonneg_left hbig hd0
    clear hx
    grind
  generalize hE : (m : Rat) * p2 p = E at *
  generalize hK : (kept : Rat) * p2 last = K at *
  refine ⟨c1, ?_, ?_, ?_⟩
  · intro j hj r1 r2
    clear hx
    rw [c2]
    have hRj : R ≤ p2 j := by rcases sg_cases s with e | e <;> rw [e] at r1 r2 <;> grind
    have hlj : p2 last ≤ p2 (j - fb k) := by
      rcases c4 with e | e
      · subst e; exact p2_mono (by omega)
      · have h3 : p2 (last + fb k) < p2 (j + 1) := by rw [p2_succ]; have := p2_pos j; grind
        have := p2_lt h3
        exact p2_mono (by omega)
    have hdj : 4 * d ≤ p2 (j - fb k) := by
      have e : p2 (j - fb k) = p2 j * p2 (-(fb k : Int)) := by rw [← p2_add]; rfl
      have := Rat.mul_le_mul_of_nonneg_right hRj (Rat.le_of_lt hfbn)
      grind
    rcases sg_cases s with e | e <;> rw [e] <;> constructor <;> grind
  · intro a r1 r2
    clear hx
    rw [c2]
    have hRa : R ≤ a := by rcases sg_cases s with e | e <;> rw [e] at r1 r2 <;> grind
    have ha := Rat.mul_le_mul_of_nonneg_right hRa (Rat.le_of_lt hfbn)
    have hlj : p2 last ≤ (R + d) * p2 (-(fb k : Int)) + p2 (lp k) := by
      rcases c4 with e | e
      · subst e
        have : 0 ≤ (R + d) * p2 (-(fb k : Int)) := Rat.mul_nonneg (by grind) (Rat.le_of_lt hfbn)
        grind
      · rw [p2_add] at e
        have := Rat.mul_le_mul_of_nonneg_right e (Rat.le_of_lt hfbn)
        rw [Rat.mul_assoc, hfb1, Rat.mul_one] at this
        have h5 : E * p2 (-(fb k : Int)) ≤ (R + d) * p2 (-(fb k : Int)) := Rat.mul_le_mul_of_nonneg_right (by grind) (Rat.le_of_lt hfbn)
        grind
    have hdd : d * p2 (-(fb k : Int)) ≤ d := by
      have h1 : p2 (-(fb k : Int)) ≤ 1 := by rw [← p2_zero]; exact p2_mono (by omega)
      have := Rat.mul_le_mul_of_nonneg_left h1 hd0
      grind
    have : 0 ≤ R * p2 (-(fb k : Int)) := Rat.mul_nonneg hR (Rat.le_of_lt hfbn)
    have hdd2 : 32 * (d * p2 (-(fb k : Int))) ≤ R * p2 (-(fb k : Int)) := by
      have := Rat.mul_le_mul_of_nonneg_right hd8 (Rat.le_of_lt hfbn)
      grind
    rcases sg_cases s with e | e <;> rw [e] <;> constructor <;> grind
  · intro M e hM hlt hle
    have hMn := natmul_nonneg M e
    have hRM : R = (M : Rat) * p2 e := by
      rcases sg_cases s with e' | e' <;> rw [e'] at hM <;> rcases hM with hM | hM <;> grind
    have hER := hx M e hRM hlt hle
    clear hx
    rw [c2]
    congr 1
    have hme : last ≤ e := by
      rcases c4 with e' | e'
      · omega
      · have h3 : (M : Rat) * p2 e < p2 (e + (fb k + 1 : Nat)) := by
          rw [Int.add_comm, p2_add, p2_nat]
          exact Rat.mul_lt_mul_of_pos_right (Rat.natCast_lt_natCast.2 hlt) (p2_pos e)
        have h4 : p2 (last + fb k) < p2 (e + (fb k + 1 : Nat)) := by grind
        have := p2_lt h4
        omega
    obtain ⟨t, ht⟩ := Int.eq_ofNat_of_zero_le (show 0 ≤ e - last by omega)
    have he : e = (t : Int) + last := by omega
    have hR2 : R = ((M * 2 ^ t : Nat) : Rat) * p2 last := by
      rw [hRM, he, p2_add, p2_nat, Rat.natCast_mul, Rat.mul_assoc]
    have : kept = M * 2 ^ t := units_eq hlast (by rw [hK, ← hR2]; grind) (by rw [hK, ← hR2]; grind)
    rw [hR2, ← hK, this]

theorem enc_rnd (k : FloatKind) (s : Bool) (m : Nat) (p : Int) (h : (m : Rat) * p2 p < p2 (top k)) : Rnd k (sg s * ((m : Rat) * p2 p)) (k.encode (.number s m p)) :=
  enc_near k s m p _ 0 h (by decide) (by have := natmul_nonneg m p; grind) (natmul_nonneg m p) (by grind) (by grind) (fun _ _ _ _ _ => rfl)

end Go.Proofs.Ytnhhdgopgecggaa.Abs
