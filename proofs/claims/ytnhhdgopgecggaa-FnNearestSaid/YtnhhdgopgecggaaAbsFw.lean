/- The operations on floats, told by rational numbers. No condition. -/
import Derived.Test.YtnhhdgopgecggaaAbsFv
import Derived.Test.YtnhhdgopgecggaaFa
set_option linter.unusedVariables false
set_option linter.unusedSimpArgs false
namespace Go.Proofs.Ytnhhdgopgecggaa.Abs
open Go Ieee

theorem isNum_iff {k : FloatKind} {w : Nat} (h : isNum k w = true) : ∃ s m p, k.decode w = .number s m p ∧ fv k w = sg s * ((m : Rat) * p2 p) := by
  unfold isNum at h
  unfold fv
  cases hd : k.decode w with
  | number s m p => exact ⟨s, m, p, rfl, rfl⟩
  | infinity s => rw [hd] at h; cases h
  | nan s t => rw [hd] at h; cases h
theorem isNum_nan {k : FloatKind} {w : Nat} (h : isNum k w = true) : nanB k w = false := by
  obtain ⟨s, m, p, hd, _⟩ := isNum_iff h
  unfold nanB; rw [hd]; rfl

theorem signed_val (s : Bool) (m : Nat) (i base : Int) (h : base ≤ i) : ((signed s m (i - base).toNat : Int) : Rat) * p2 base = sg s * ((m : Rat) * p2 i) := by
  obtain ⟨a, ha⟩ := Int.eq_ofNat_of_zero_le (show 0 ≤ i - base by omega)
  have ha' : i = (a : Int) + base := by omega
  have ha2 : (i - base).toNat = a := by omega
  rw [ha2, ha', p2_add, p2_nat]
  unfold signed sg
  rw [Nat.shiftLeft_eq]
  cases s
  · simp only [Bool.false_eq_true, if_false, Rat.intCast_natCast, Rat.natCast_mul]; grind
  · simp only [if_true, Rat.intCast_neg, Rat.intCast_natCast, Rat.natCast_mul]; grind
theorem natAbs_val (t : Int) (u : Rat) (b : Bool) : sg (if t = 0 then b else decide (t < 0)) * ((t.natAbs : Rat) * u) = (t : Rat) * u := by
  by_cases h0 : t = 0
  · subst h0; simp
  · rw [if_neg h0]
    by_cases h1 : t < 0
    · obtain ⟨n, hn⟩ := Int.eq_ofNat_of_zero_le (show 0 ≤ -t by omega)
      have : t = -(n : Int) := by omega
      subst this
      simp only [h1, decide_true, sg, if_true, Int.natAbs_neg, Int.natAbs_natCast, Rat.intCast_neg, Rat.intCast_natCast]
      grind
    · obtain ⟨n, hn⟩ := Int.eq_ofNat_of_zero_le (show 0 ≤ t by omega)
      subst hn
      simp only [h1, decide_false, sg, Bool.false_eq_true, if_false, Int.natAbs_natCast, Rat.intCast_natCast]
      grind
theorem dv_sum (s t : Bool) (m n : Nat) (i j : Int) : ∃ b q l, (Datum.number s m i).sum (.number t n j) = some (.number b q l) ∧ sg b * ((q : Rat) * p2 l) = sg s * ((m : Rat) * p2 i) + sg t * ((n : Rat) * p2 j) := by
  refine ⟨_, _, _, rfl, ?_⟩
  rw [natAbs_val, Rat.intCast_add, Rat.add_mul, signed_val _ _ _ _ (by omega), signed_val _ _ _ _ (by omega)]

theorem enc_sgn {k : FloatKind} {b : Bool} {q : Nat} {l : Int} {r : Rat} (hr : sg b * ((q : Rat) * p2 l) = r) (h1 : r < p2 (top k)) (h2 : -r < p2 (top k)) : Rnd k r (k.encode (.number b q l)) := by
  subst hr
  refine enc_rnd k b q l ?_
  rcases sg_cases b with e | e <;> rw [e] at h1 h2 <;> grind

theorem rnd_add {k : FloatKind} {x y : Nat} (hx : isNum k x = true) (hy : isNum k y = true) (h1 : fv k x + fv k y < p2 (top k)) (h2 : -(fv k x + fv k y) < p2 (top k)) : Rnd k (fv k x + fv k y) (fbin .add k x y) := by
  obtain ⟨s, m, i, dx, vx⟩ := isNum_iff hx
  obtain ⟨t, n, j, dy, vy⟩ := isNum_iff hy
  obtain ⟨b, q, l, hs, hv⟩ := dv_sum s t m n i j
  have e : fbin .add k x y = k.encode (.number b q l) := by
    unfold fbin floatBits
    show (Option.map k.format.write ((k.decode x).sum (k.decode y))).getD _ = _
    rw [dx, dy, hs]; rfl
  rw [e]
  exact enc_sgn (by rw [hv, vx, vy]) h1 h2
theorem sg_not (s : Bool) : sg (!s) = - sg s := by cases s <;> rfl
theorem rnd_sub {k : FloatKind} {x y : Nat} (hx : isNum k x = true) (hy : isNum k y = true) (h1 : fv k x - fv k y < p2 (top k)) (h2 : -(fv k x - fv k y) < p2 (top k)) : Rnd k (fv k x - fv k y) (fbin .sub k x y) := by
  obtain ⟨s, m, i, dx, vx⟩ := isNum_iff hx
  obtain ⟨t, n, j, dy, vy⟩ := isNum_iff hy
  obtain ⟨b, q, l, hs, hv⟩ := dv_sum s (!t) m n i j
  have e : fbin .sub k x y = k.encode (.number b q l) := by
    unfold fbin floatBits
    show (Option.map k.format.write ((k.decode x).sum (k.decode y).opposite)).getD _ = _
    rw [dx, dy]
    show (Option.map k.format.write ((Datum.number s m i).sum (.number (!t) n j))).getD _ = _
    rw [hs]; rfl
  rw [e]
  exact enc_sgn (by rw [hv, vx, vy, sg_not]; grind) h1 h2
theorem sg_xor (s t : Bool) : sg (s ^^ t) = sg s * sg t := by cases s <;> cases t <;> decide +kernel
theorem rnd_mul {k : FloatKind} {x y : Nat} (hx : isNum k x = true) (hy : isNum k y = true) (h1 : fv k x * fv k y < p2 (top k)) (h2 : -(fv k x * fv k y) < p2 (top k)) : Rnd k (fv k x * fv k y) (fbin .mul k x y) := by
  obtain ⟨s, m, i, dx, vx⟩ := isNum_iff hx
  obtain ⟨t, n, j, dy, vy⟩ := isNum_iff hy
  have e : fbin .mul k x y = k.encode (.number (s ^^ t) (m * n) (i + j)) := by
    unfold fbin floatBits
    show (Option.map k.format.write ((k.decode x).product (k.decode y))).getD _ = _
    rw [dx, dy]; rfl
  rw [e]
  exact enc_sgn (by rw [vx, vy, sg_xor, p2_add, Rat.natCast_mul]; grind) h1 h2

/-! ### Division -/
theorem log2_pow_le {m n d : Nat} (hm : m ≠ 0) : n * 2 ^ d < 2 * (m <<< (d + n.log2 - m.log2)) ∨ n = 0 := by
  by_cases hn : n = 0
  · exact .inr hn
  left
  have h1 : n < 2 ^ (n.log2 + 1) := Nat.lt_log2_self
  have h2 : 2 ^ m.log2 ≤ m := Nat.log2_self_le hm
  rw [Nat.shiftLeft_eq]
  calc n * 2 ^ d < 2 ^ (n.log2 + 1) * 2 ^ d := Nat.mul_lt_mul_of_pos_right h1 (Nat.two_pow_pos _)
    _ = 2 * 2 ^ (n.log2 + d) := by rw [← Nat.pow_add, show n.log2 + 1 + d = n.log2 + d + 1 by omega, Nat.pow_succ]; omega
    _ ≤ 2 * 2 ^ (m.log2 + (d + n.log2 - m.log2)) := Nat.mul_le_mul_left _ (Nat.pow_le_pow_right (by omega) (by omega))
    _ = 2 * (2 ^ m.log2 * 2 ^ (d + n.log2 - m.log2)) := by rw [Nat.pow_add]
    _ ≤ _ := Nat.mul_le_mul_left _ (Nat.mul_le_mul_right _ h2)

theorem rnd_quo {k : FloatKind} {x y : Nat} (hx : isNum k x = true) (hy : isNum k y = true) (h0 : fv k y ≠ 0) (h1 : 2 * (fv k x / fv k y) < p2 (top k)) (h2 : -(2 * (fv k x / fv k y)) < p2 (top k)) : Rnd k (fv k x / fv k y) (fbin .quo k x y) := by
  obtain ⟨s, m, i, dx, vx⟩ := isNum_iff hx
  obtain ⟨t, n, j, dy, vy⟩ := isNum_iff hy
  have hn : n ≠ 0 := by
    intro e; subst e; rw [vy] at h0; simp at h0
  have e : fbin .quo k x y = k.encode (.number (s ^^ t) (2 * ((m <<< (fb k + 2 + n.log2 - m.log2)) / n) + ((m <<< (fb k + 2 + n.log2 - m.log2)) % n != 0).toNat) (i - j - (fb k + 2 + n.log2 - m.log2 : Nat) - 1)) := by
    unfold fbin floatBits
    show (Option.map k.format.write ((k.decode x).quotient (k.format.fractionBits + 2) (k.decode y))).getD _ = _
    rw [dx, dy, fb_eq]
    unfold Datum.quotient
    dsimp only
    rw [if_neg hn]; rfl
  rw [e]
  have hnR : (0 : Rat) < (n : Rat) := by exact_mod_cast Nat.pos_of_ne_zero hn
  have hr : fv k x / fv k y = sg (s ^^ t) * (((m : Rat) / n) * p2 (i - j)) := by
    have hj := p2_pos j
    have hj0 : p2 j ≠ 0 := by grind
    have hn0 : (n : Rat) ≠ 0 := by grind
    have hs := p2_sub i j
    rw [vx, vy, sg_xor]
    rcases sg_cases s with e | e <;> rcases sg_cases t with e' | e' <;> rw [e, e'] <;> grind
  rw [hr] at h1 h2 ⊢
  generalize hmore : fb k + 2 + n.log2 - m.log2 = more at *
  have hDn : (m : Rat) / n * p2 (i - j) = ((m <<< more : Nat) : Rat) / n * p2 (i - j - (more : Int)) := by
    have : i - j = (more : Int) + (i - j - (more : Int)) := by omega
    rw [Nat.shiftLeft_eq, this, p2_add, p2_nat, Rat.natCast_mul, show (more : Int) + (i - j - (more : Int)) - (more : Int) = i - j - (more : Int) by omega]
    grind
  rw [hDn] at h1 h2 ⊢
  have hlow : m ≠ 0 → n * 2 ^ (fb k + 2) < 2 * (m <<< more) := by
    intro hm
    rcases log2_pow_le (n := n) (d := fb k + 2) hm with h | h
    · rw [hmore] at h; exact h
    · exact absurd h hn
  generalize hD : m <<< more = D at *
  generalize hP : i - j - (more : Int) - 1 = P at *
  have hP' : i - j - (more : Int) = P + 1 := by omega
  rw [hP', p2_succ] at h1 h2 ⊢
  have hu := p2_pos P
  have hdm := Nat.div_add_mod D n
  have hml := Nat.mod_lt D (Nat.pos_of_ne_zero hn)
  generalize hq : D / n = q at *
  generalize hrem : D % n = rem at *
  have hDq : (D : Rat) / n = q + (rem : Rat) / n := by
    rw [← hdm, Rat.natCast_add, Rat.natCast_mul]; grind
  have hrem0 : 0 ≤ (rem : Rat) / n := by
    rw [Rat.div_def]
    exact Rat.mul_nonneg (by exact_mod_cast Nat.zero_le _) (Rat.le_of_lt (Rat.inv_pos.2 hnR))
  have hrem1 : (rem : Rat) / n < 1 := by
    rw [Rat.div_lt_iff hnR, Rat.one_mul]; exact Rat.natCast_lt_natCast.2 hml
  have hq0 : (0 : Rat) ≤ (q : Rat) := by exact_mod_cast Nat.zero_le q
  generalize hz : (rem : Rat) / n = z at *
  rw [hDq] at h1 h2 ⊢
  by_cases hm : m = 0
  · have hD0 : D = 0 := by rw [← hD, hm]; simp
    have hq1 : q = 0 := by rw [← hq, hD0]; simp
    have hr1 : rem = 0 := by rw [← hrem, hD0]; simp
    subst hq1; subst hr1
    have hz0 : z = 0 := by rw [← hz, Rat.div_def]; simp
    subst hz0
    have hv : sg (s ^^ t) * ((((0 : Nat) : Rat) + 0) * (2 * p2 P)) = 0 := by simp only [Rat.natCast_ofNat]; grind
    rw [hv]
    refine enc_sgn ?_ ?_ ?_
    · simp
    · exact p2_pos _
    · rw [show -(0 : Rat) = 0 by decide]; exact p2_pos _
  have hlow' := hlow hm
  have hqb : 2 ^ (fb k + 2) ≤ 2 * q + 1 := by
    by_cases hlt : 2 ^ (fb k + 2) ≤ 2 * q + 1
    · exact hlt
    · exfalso
      have h3 : 2 * q + 2 ≤ 2 ^ (fb k + 2) := by omega
      have h4 : n * (2 * q + 2) ≤ n * 2 ^ (fb k + 2) := Nat.mul_le_mul_left _ h3
      have h5 : n * (2 * q + 2) = 2 * (n * q) + 2 * n := by rw [Nat.mul_add, Nat.mul_left_comm]; omega
      omega
  have hqb2 : 2 ^ (fb k + 1) ≤ q := by
    rw [show fb k + 2 = fb k + 1 + 1 by omega, Nat.pow_succ] at hqb; omega
  have hqb3 : 2 * p2 (fb k) ≤ (q : Rat) := by
    have := Rat.natCast_le_natCast.2 hqb2
    rw [← p2_nat] at this
    have e : ((fb k + 1 : Nat) : Int) = (fb k : Int) + 1 := by omega
    rw [e, p2_succ] at this
    exact this
  have hbit : ((rem != 0).toNat = 0 ∧ rem = 0) ∨ (rem != 0).toNat = 1 := by
    by_cases h : rem = 0
    · left; simp [h]
    · right; simp [h]
  have hqu : (q : Rat) * p2 P ≥ 2 * (p2 (fb k) * p2 P) := by
    have := Rat.mul_le_mul_of_nonneg_right hqb3 (Rat.le_of_lt hu)
    grind
  have hzu0 : 0 ≤ z * p2 P := Rat.mul_nonneg hrem0 (Rat.le_of_lt hu)
  have hzu1 : z * p2 P ≤ p2 P := by
    have := Rat.mul_le_mul_of_nonneg_right (Rat.le_of_lt hrem1) (Rat.le_of_lt hu)
    grind
  have hbig : (8 : Rat) ≤ p2 (fb k) := by cases k <;> decide +kernel
  have hbu : 8 * p2 P ≤ p2 (fb k) * p2 P := Rat.mul_le_mul_of_nonneg_right hbig (Rat.le_of_lt hu)
  have hmag : ((2 * q + (rem != 0).toNat : Nat) : Rat) * p2 P = 2 * ((q : Rat) * p2 P) + ((rem != 0).toNat : Rat) * p2 P := by
    rw [Rat.natCast_add, Rat.natCast_mul, Rat.natCast_ofNat]; grind
  have hR : ((q : Rat) + z) * (2 * p2 P) = 2 * ((q : Rat) * p2 P) + 2 * (z * p2 P) := by grind
  have hst : ((rem != 0).toNat : Rat) * p2 P - 2 * (z * p2 P) ≤ p2 P ∧ 2 * (z * p2 P) - ((rem != 0).toNat : Rat) * p2 P ≤ p2 P := by
    rcases hbit with ⟨h, hr0⟩ | h
    · rw [h]
      have : z = 0 := by rw [← hz, hr0, Rat.div_def]; simp
      subst this
      simp; grind
    · rw [h]
      simp only [Rat.natCast_ofNat]
      constructor <;> grind
  have hst2 : ((rem != 0).toNat : Rat) * p2 P ≤ p2 P := by
    rcases hbit with ⟨h, hr0⟩ | h
    · rw [h]; simp; grind
    · rw [h]; simp
  rw [hR] at h1 h2 ⊢
  generalize hA : (q : Rat) * p2 P = A at *
  generalize hB : ((rem != 0).toNat : Rat) * p2 P = B at *
  generalize hC : z * p2 P = C at *
  generalize hF : p2 (fb k) * p2 P = F at *
  refine enc_near k (s ^^ t) _ P _ (p2 P) ?_ (Rat.le_of_lt hu) ?_ ?_ ?_ ?_ ?_
  · rw [hmag]
    rcases sg_cases (s ^^ t) with e | e <;> rw [e] at h1 h2 <;> grind
  · grind
  · grind
  · rw [hmag]; grind
  · rw [hmag]; grind
  · intro M e hM hlt hle
    rw [hmag]
    suffices hr0 : rem = 0 by
      have hz0 : z = 0 := by rw [← hz, hr0, Rat.div_def]; simp
      have hB0 : B = 0 := by rw [← hB, hr0]; simp
      have hC0 : C = 0 := by rw [← hC, hz0]; simp
      rw [hB0, hC0]; simp
    have hM2 : p2 (P + (fb k + 2 : Nat)) < p2 (e + (fb k + 1 : Nat)) := by
      have h3 : (M : Rat) * p2 e < p2 (e + (fb k + 1 : Nat)) := by
        rw [Int.add_comm, p2_add, p2_nat]
        exact Rat.mul_lt_mul_of_pos_right (Rat.natCast_lt_natCast.2 hlt) (p2_pos e)
      have h4 : p2 (P + (fb k + 2 : Nat)) = 4 * F := by
        have : P + ((fb k + 2 : Nat) : Int) = (fb k : Int) + P + 1 + 1 := by omega
        rw [this, p2_succ, p2_succ, p2_add, hF]; grind
      rw [h4]
      grind
    have hPe := p2_lt hM2
    obtain ⟨a, ha⟩ := Int.eq_ofNat_of_zero_le (show 0 ≤ e - (P + 1) by omega)
    have he : e = (a : Int) + (P + 1) := by omega
    have h5 : ((q : Rat) + z) = ((M * 2 ^ a : Nat) : Rat) := by
      have h6 : ((q : Rat) + z) * p2 (P + 1) = ((M * 2 ^ a : Nat) : Rat) * p2 (P + 1) := by
        rw [Rat.natCast_mul, Rat.mul_assoc, ← p2_nat, ← p2_add, ← he, ← hM, p2_succ, ← hR]
      have hpp := p2_pos (P + 1)
      exact Rat.le_antisymm (Rat.le_of_mul_le_mul_right (by rw [h6]; exact Rat.le_refl) hpp) (Rat.le_of_mul_le_mul_right (by rw [h6]; exact Rat.le_refl) hpp)
    have h7 : (D : Rat) = ((n * (M * 2 ^ a) : Nat) : Rat) := by
      have : (D : Rat) / n * n = D := Rat.div_mul_cancel (by grind)
      rw [← this, hDq, h5, Rat.natCast_mul n]; grind
    have h8 : D = n * (M * 2 ^ a) := by exact_mod_cast h7
    rw [← hrem, h8, Nat.mul_mod_right]

/-! ### Order -/
theorem order_val {k : FloatKind} {x y : Nat} (hx : isNum k x = true) (hy : isNum k y = true) :
    k.format.order x y = some (if fv k x < fv k y then .lt else if fv k x = fv k y then .eq else .gt) := by
  obtain ⟨s, m, i, dx, vx⟩ := isNum_iff hx
  obtain ⟨t, n, j, dy, vy⟩ := isNum_iff hy
  have e : k.format.order x y = some (compare (signed s m (i - min i j).toNat) (signed t n (j - min i j).toNat)) := by
    show (k.decode x).order (k.decode y) = _
    rw [dx, dy]; rfl
  rw [e, vx, vy, ← signed_val s m i (min i j) (by omega), ← signed_val t n j (min i j) (by omega)]
  generalize signed s m (i - min i j).toNat = A
  generalize signed t n (j - min i j).toNat = B
  have hp := p2_pos (min i j)
  generalize p2 (min i j) = u at *
  have hlt : ((A : Rat) * u < (B : Rat) * u) ↔ A < B := by
    rw [← Rat.intCast_lt_intCast]
    exact ⟨fun h => Rat.lt_of_mul_lt_mul_right h (Rat.le_of_lt hp), fun h => Rat.mul_lt_mul_of_pos_right h hp⟩
  have heq : ((A : Rat) * u = (B : Rat) * u) ↔ A = B := by
    constructor
    · intro h
      have h1 : (A : Rat) = (B : Rat) := Rat.le_antisymm (Rat.le_of_mul_le_mul_right (by rw [h]; exact Rat.le_refl) hp) (Rat.le_of_mul_le_mul_right (by rw [h]; exact Rat.le_refl) hp)
      exact_mod_cast h1
    · rintro rfl; rfl
  simp only [hlt, heq]
  rfl
theorem lss_val {k : FloatKind} {x y : Nat} (hx : isNum k x = true) (hy : isNum k y = true) : fcmp .lss k x y = decide (fv k x < fv k y) := by
  unfold fcmp; rw [order_val hx hy]
  by_cases h : fv k x < fv k y
  · simp [h]
  · by_cases h2 : fv k x = fv k y <;> simp [h, h2]
theorem gtr_val {k : FloatKind} {x y : Nat} (hx : isNum k x = true) (hy : isNum k y = true) : fcmp .gtr k x y = decide (fv k y < fv k x) := by
  unfold fcmp; rw [order_val hx hy]
  by_cases h : fv k x < fv k y
  · have : ¬ fv k y < fv k x := by grind
    simp [h, this]
  · by_cases h2 : fv k x = fv k y
    · have : ¬ fv k y < fv k x := by grind
      simp [h2, this]
    · have : fv k y < fv k x := by grind
      simp [h, h2, this]
theorem leq_val {k : FloatKind} {x y : Nat} (hx : isNum k x = true) (hy : isNum k y = true) : fcmp .leq k x y = decide (fv k x ≤ fv k y) := by
  unfold fcmp; rw [order_val hx hy]
  by_cases h : fv k x < fv k y
  · have : fv k x ≤ fv k y := by grind
    simp [h, this]
  · by_cases h2 : fv k x = fv k y
    · have : fv k x ≤ fv k y := by grind
      simp [h2, this]
    · have : ¬ fv k x ≤ fv k y := by grind
      simp [h, h2, this]
theorem geq_val {k : FloatKind} {x y : Nat} (hx : isNum k x = true) (hy : isNum k y = true) : fcmp .geq k x y = decide (fv k y ≤ fv k x) := by
  unfold fcmp; rw [order_val hx hy]
  by_cases h : fv k x < fv k y
  · have : ¬ fv k y ≤ fv k x := by grind
    simp [h, this]
  · by_cases h2 : fv k x = fv k y
    · have : fv k y ≤ fv k x := by grind
      simp [h2, this]
    · have : fv k y ≤ fv k x := by grind
      simp [h, h2, this]
theorem eql_val {k : FloatKind} {x y : Nat} (hx : isNum k x = true) (hy : isNum k y = true) : fcmp .eql k x y = decide (fv k x = fv k y) := by
  unfold fcmp; rw [order_val hx hy]
  by_cases h : fv k x < fv k y
  · have : ¬ fv k x = fv k y := by grind
    simp [h, this]
  · by_cases h2 : fv k x = fv k y <;> simp [h, h2]
theorem neq_val {k : FloatKind} {x y : Nat} (hx : isNum k x = true) (hy : isNum k y = true) : fcmp .neq k x y = decide (fv k x ≠ fv k y) := by
  unfold fcmp; rw [order_val hx hy]
  by_cases h : fv k x < fv k y
  · have : ¬ fv k x = fv k y := by grind
    simp [h, this]
  · by_cases h2 : fv k x = fv k y <;> simp [h, h2]

/-! ### Conversions, numbers that are given -/
theorem rnd_int {k : FloatKind} (n : Int) (h1 : (n : Rat) < p2 (top k)) (h2 : -(n : Rat) < p2 (top k)) : Rnd k (n : Rat) (k.nearest n) := by
  unfold FloatKind.nearest
  refine enc_sgn ?_ h1 h2
  have := natAbs_val n (p2 0) false
  have e : (if n = 0 then false else decide (n < 0)) = decide (n < 0) := by
    by_cases h : n = 0
    · subst h; rfl
    · rw [if_neg h]
  rw [e, p2_zero] at this
  rw [p2_zero, this, Rat.mul_one]
theorem isNum_lt {k : FloatKind} {w : Nat} (h : isNum k w = true) : ∃ s m p, k.decode w = .number s m p ∧ fv k w = sg s * ((m : Rat) * p2 p) ∧ m < 2 ^ (fb k + 1) ∧ lp k ≤ p ∧ p ≤ top k - fb k := by
  obtain ⟨s, m, p, hd, hv⟩ := isNum_iff h
  have hr := read_number (f := k.format) hd
  refine ⟨s, m, p, hd, hv, ?_⟩
  rw [lp_eq] at hr
  unfold Format.binade at hr
  rw [fb_eq, show 2 * 2 ^ fb k = 2 ^ (fb k + 1) by rw [Nat.pow_succ]; omega] at hr
  cases k
  · have h3 : ((2 ^ FloatKind.f32.format.exponentBits - 3 : Nat) : Int) = 253 := by decide
    rw [h3] at hr; simp only [lp, top, fb] at *; omega
  · have h3 : ((2 ^ FloatKind.f64.format.exponentBits - 3 : Nat) : Int) = 2045 := by decide
    rw [h3] at hr; simp only [lp, top, fb] at *; omega
theorem w64_val {x : Nat} (h : isNum .f32 x = true) : isNum .f64 (w64 x) = true ∧ fv .f64 (w64 x) = fv .f32 x := by
  obtain ⟨s, m, p, hd, hv, h1, h2, h3⟩ := isNum_lt h
  simp only [fb, lp, top] at h1 h2 h3
  have hmag : (m : Rat) * p2 p < p2 (128 : Int) := by
    have e1 : (m : Rat) * p2 p < p2 (24 : Int) * p2 p := Rat.mul_lt_mul_of_pos_right (by
      have : p2 (24 : Int) = ((2 ^ 24 : Nat) : Rat) := p2_nat 24
      rw [this]; exact Rat.natCast_lt_natCast.2 h1) (p2_pos p)
    rw [← p2_add] at e1
    have e2 := p2_mono (show 24 + p ≤ 128 by omega)
    grind
  have hr : Rnd .f64 (sg s * ((m : Rat) * p2 p)) (FloatKind.f64.encode (.number s m p)) := enc_rnd .f64 s m p (by
    have := p2_mono (show (128 : Int) ≤ top .f64 by decide)
    grind)
  have hw : w64 x = FloatKind.f64.encode (.number s m p) := by
    have := fconv_w64 x
    unfold fconv at this
    rw [if_neg (by decide), isNum_nan h] at this
    rw [if_neg (by decide)] at this
    unfold floatToFloatBits at this
    rw [if_neg (by decide), hd] at this
    dsimp only at this
    by_cases hi : (FloatKind.f64.decode (FloatKind.f64.encode (.number s m p))).isInfinity = true
    · rw [if_pos hi] at this; cases this
    · rw [if_neg hi] at this; exact (Option.some.inj this).symm
  rw [hw, hv]
  refine ⟨hr.num, hr.exact m p ?_ ?_ ?_⟩
  · rcases sg_cases s with e | e <;> rw [e]
    · left; grind
    · right; grind
  · exact Nat.lt_trans h1 (by decide)
  · simp only [lp]; omega
theorem lt_top (r : Rat) (j : Int) (h : r ≤ p2 j) {k : FloatKind} (hj : j < top k) : r < p2 (top k) := by
  have h1 := p2_mono (show j + 1 ≤ top k by omega)
  rw [p2_succ] at h1
  have := p2_pos j
  grind
theorem isFin_num {x : Nat} (h : isNum .f32 x = true) : isFin x = true := by
  have hz : fv .f32 x - fv .f32 x = 0 := by grind
  have hp := p2_pos (top .f32)
  have hr := rnd_sub h h (by rw [hz]; exact hp) (by rw [hz]; grind)
  have hv : fv .f32 (fbin .sub .f32 x x) = 0 := by
    rw [hr.exact 0 0 (.inl (by rw [hz]; simp)) (by decide) (by decide), hz]
  unfold isFin
  have h0 : isNum .f32 0 = true := by decide +kernel
  have v0 : fv .f32 0 = 0 := by decide +kernel
  rw [eql_val hr.num h0, hv, v0]; rfl

end Go.Proofs.Ytnhhdgopgecggaa.Abs
