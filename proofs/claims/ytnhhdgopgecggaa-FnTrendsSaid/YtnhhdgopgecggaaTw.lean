/- Positive normal floats of 32 bits, worked with as natural numbers, each result made before it is used: for long runs in the kernel. No condition. -/
import Derived.Test.YtnhhdgopgecggaaAbsFw
set_option linter.unusedVariables false
set_option linter.unusedSimpArgs false
namespace Go.Proofs.Ytnhhdgopgecggaa.Abs
open Go Ieee

/-- Makes x, then goes on. -/
def frc (x : Nat) (k : Nat → Bool) : Bool :=
  match x with
  | 0 => k 0
  | n + 1 => k (Nat.succ n)
theorem frc_eq (x : Nat) (k : Nat → Bool) : frc x k = k x := by cases x <;> rfl
/-- mag times two to the power of pl - 400, rounded. -/
def rndW (mag pl : Nat) (k : Nat → Bool) : Bool :=
  frc (Nat.log2 mag) fun l =>
  frc (Nat.add pl l) fun e =>
  cond (Nat.ble 274 e)
    (cond (Nat.ble l 23)
      (frc (Nat.add (Nat.mul (Nat.sub e 274) 8388608) (Nat.shiftLeft mag (Nat.sub 23 l))) fun w => cond (Nat.ble (Nat.div w 8388608) 254) (k w) false)
      (frc (Nat.shiftLeft 1 (Nat.sub l 23)) fun gap =>
       frc (Nat.div mag gap) fun low =>
       frc (Nat.mul 2 (Nat.mod mag gap)) fun rest =>
       frc (Nat.add (Nat.mul (Nat.sub e 274) 8388608) low) fun w =>
       cond (Nat.ble rest gap)
         (cond (Nat.ble gap rest)
           (frc (Nat.add w (Nat.mod low 2)) fun w => cond (Nat.ble (Nat.div w 8388608) 254) (k w) false)
           (cond (Nat.ble (Nat.div w 8388608) 254) (k w) false))
         (frc (Nat.add w 1) fun w => cond (Nat.ble (Nat.div w 8388608) 254) (k w) false)))
    false
def Nrm (w : Nat) : Prop := 8388608 ≤ w ∧ w ≤ 2139095039
theorem n_add (a b : Nat) : Nat.add a b = a + b := Eq.trans rfl rfl
theorem n_sub (a b : Nat) : Nat.sub a b = a - b := Eq.trans rfl rfl
theorem n_mul (a b : Nat) : Nat.mul a b = a * b := Eq.trans rfl rfl
theorem n_div (a b : Nat) : Nat.div a b = a / b := Eq.trans rfl rfl
theorem n_mod (a b : Nat) : Nat.mod a b = a % b := Eq.trans rfl rfl
theorem n_shl (a b : Nat) : Nat.shiftLeft a b = a <<< b := Eq.trans rfl rfl
theorem cnd_t (a b : Bool) : cond true a b = a := Eq.trans rfl rfl
theorem cnd_f (a b : Bool) : cond false a b = b := Eq.trans rfl rfl
theorem ble_iff (a b : Nat) : Nat.ble a b = decide (a ≤ b) := by
  by_cases h : a ≤ b
  · rw [Nat.ble_eq_true_of_le h]; simp [h]
  · cases e : Nat.ble a b
    · simp [h]
    · exact absurd (Nat.le_of_ble_eq_true e) h
theorem cond_and {b : Bool} {x : Bool} (h : cond b x false = true) : b = true ∧ x = true := by cases b <;> simp_all

theorem nearest_norm {mag : Nat} {place : Int} (hm : mag ≠ 0) (h : -149 ≤ place + mag.log2 - 23) :
    Ieee.single.nearest false mag place = min ((place + mag.log2 - 23 + 149).toNat * 8388608 + Toward.even.cut false (mag <<< (place - (place + mag.log2 - 23)).toNat) (place + mag.log2 - 23 - place).toNat) 2139095040 := by
  unfold Format.nearest
  rw [if_neg hm]
  have e1 : Ieee.single.leastPlace = -149 := by decide
  have e2 : (Ieee.single.fractionBits : Int) = 23 := by decide
  have e3 : Ieee.single.binade = 8388608 := by decide
  have e4 : Ieee.single.infRung = 2139095040 := by decide
  rw [e1, e2, e3, e4]
  have : max (place + (mag.log2 : Int) - 23) (-149) = place + mag.log2 - 23 := by omega
  rw [this]
  unfold Format.word
  simp only [Bool.false_eq_true, if_false, Int.sub_neg]
theorem rndW_sound {mag pl : Nat} {k : Nat → Bool} (hm : mag ≠ 0) (h : rndW mag pl k = true) : Nrm (Ieee.single.nearest false mag ((pl : Int) - 400)) ∧ k (Ieee.single.nearest false mag ((pl : Int) - 400)) = true := by
  unfold rndW at h
  simp only [frc_eq, n_add, n_sub, n_mul, n_div, n_mod, n_shl, ble_iff] at h
  obtain ⟨h1, h⟩ := cond_and h
  have h1 : 274 ≤ pl + mag.log2 := of_decide_eq_true h1
  have hn := nearest_norm (place := (pl : Int) - 400) hm (by omega)
  have ee : ((pl : Int) - 400 + mag.log2 - 23 + 149).toNat = pl + mag.log2 - 274 := by omega
  rw [ee] at hn
  have fin : ∀ w : Nat, 8388608 ≤ w → (pl + mag.log2 - 274) * 8388608 + Toward.even.cut false (mag <<< ((pl : Int) - 400 - ((pl : Int) - 400 + mag.log2 - 23)).toNat) ((pl : Int) - 400 + mag.log2 - 23 - ((pl : Int) - 400)).toNat = w → w / 8388608 ≤ 254 → k w = true →
      Nrm (Ieee.single.nearest false mag ((pl : Int) - 400)) ∧ k (Ieee.single.nearest false mag ((pl : Int) - 400)) = true := by
    intro w hw he k1 k2
    rw [he, Nat.min_eq_left (by omega)] at hn
    rw [hn]
    exact ⟨⟨hw, by omega⟩, k2⟩
  clear hn
  generalize Ieee.single.nearest false mag ((pl : Int) - 400) = W at *
  have hle : 2 ^ mag.log2 ≤ mag := Nat.log2_self_le hm
  by_cases h2 : mag.log2 ≤ 23
  · rw [decide_eq_true h2] at h
    rw [cnd_t] at h
    have a0 : ((pl : Int) - 400 - ((pl : Int) - 400 + mag.log2 - 23)).toNat = 23 - mag.log2 := by omega
    have a1 : ((pl : Int) - 400 + mag.log2 - 23 - ((pl : Int) - 400)).toNat = 0 := by omega
    rw [a0, a1, cut_zero] at fin
    obtain ⟨k1, k2⟩ := cond_and h
    refine fin _ ?_ rfl (of_decide_eq_true k1) k2
    rw [Nat.shiftLeft_eq]
    have h5 : 2 ^ mag.log2 * 2 ^ (23 - mag.log2) ≤ mag * 2 ^ (23 - mag.log2) := Nat.mul_le_mul_right _ hle
    rw [← Nat.pow_add, show mag.log2 + (23 - mag.log2) = 23 by omega] at h5
    have e23 : (2 : Nat) ^ 23 = 8388608 := by decide
    rw [e23] at h5
    have h6 : 8388608 ≤ mag * 2 ^ (23 - mag.log2) := h5
    exact Nat.le_trans h6 (Nat.le_add_left ..)
  · rw [decide_eq_false h2] at h
    have a0 : ((pl : Int) - 400 - ((pl : Int) - 400 + mag.log2 - 23)).toNat = 0 := by omega
    have a1 : ((pl : Int) - 400 + mag.log2 - 23 - ((pl : Int) - 400)).toNat = mag.log2 - 23 := by omega
    rw [a0, a1, Nat.shiftLeft_zero] at fin
    have hcut := cut_ge false (n := mag) (drop := mag.log2 - 23) (b := 23) (by omega) hm
    have e23 : (2 : Nat) ^ 23 = 8388608 := by decide
    rw [e23] at hcut
    have hc : Toward.even.cut false mag (mag.log2 - 23) = mag / (1 <<< (mag.log2 - 23)) + (decide ((1 <<< (mag.log2 - 23)) < 2 * (mag % (1 <<< (mag.log2 - 23)))) || ((1 <<< (mag.log2 - 23)) == 2 * (mag % (1 <<< (mag.log2 - 23))) && mag / (1 <<< (mag.log2 - 23)) % 2 == 1)).toNat := by
      unfold Toward.cut
      rw [Nat.min_eq_left (by omega)]
    rw [cnd_f] at h
    generalize (1 <<< (mag.log2 - 23)) = gap at *
    generalize mag / gap = low at *
    generalize 2 * (mag % gap) = rest at *
    generalize (pl + mag.log2 - 274) * 8388608 = z at *
    generalize Toward.even.cut false mag (mag.log2 - 23) = c at *
    by_cases h3 : rest ≤ gap
    · rw [decide_eq_true h3] at h
      rw [cnd_t] at h
      have h3n : ¬ gap < rest := by omega
      simp only [h3n, decide_false, Bool.false_or] at hc
      by_cases h4 : gap ≤ rest
      · rw [decide_eq_true h4] at h
        rw [cnd_t] at h
        have h5 : (gap == rest) = true := by rw [beq_iff_eq]; omega
        rw [h5] at hc
        have h6 : (low % 2 == 1).toNat = low % 2 := by
          rcases Nat.mod_two_eq_zero_or_one low with e | e <;> rw [e] <;> rfl
        simp only [Bool.true_and, h6] at hc
        exact fin _ (by omega) (by omega) (of_decide_eq_true (cond_and h).1) (cond_and h).2
      · rw [decide_eq_false h4] at h
        rw [cnd_f] at h
        have h5 : (gap == rest) = false := by rw [beq_eq_false_iff_ne]; omega
        rw [h5] at hc
        simp only [Bool.false_and, Bool.toNat_false, Nat.add_zero] at hc
        exact fin _ (by omega) (by omega) (of_decide_eq_true (cond_and h).1) (cond_and h).2
    · rw [decide_eq_false h3] at h
      rw [cnd_f] at h
      have h3' : gap < rest := by omega
      simp only [h3', decide_true, Bool.true_or, Bool.toNat_true] at hc
      exact fin _ (by omega) (by omega) (of_decide_eq_true (cond_and h).1) (cond_and h).2

/-! ### The operations -/
theorem read_norm {w : Nat} (h : Nrm w) : Ieee.single.read w = .number false (8388608 + w % 8388608) ((w / 8388608 : Nat) - 150 : Int) := by
  obtain ⟨h1, h2⟩ := h
  have e : w = Ieee.single.word false w := by unfold Format.word; simp
  have hr := read_word_eq Ieee.single false (r := w) (by have : Ieee.single.infRung = 2139095040 := by decide
                                                         omega)
  rw [← e] at hr
  rw [hr]
  have e3 : Ieee.single.binade = 8388608 := by decide
  have e1 : Ieee.single.leastPlace = -149 := by decide
  rw [e3, e1, if_neg (by omega)]
  congr 1
  omega
theorem dec_norm {w : Nat} (h : Nrm w) : FloatKind.f32.decode w = .number false (8388608 + w % 8388608) ((w / 8388608 : Nat) - 150 : Int) := read_norm h
theorem isNum_norm {w : Nat} (h : Nrm w) : isNum .f32 w = true := by unfold isNum; rw [dec_norm h]; rfl

def addW (x y : Nat) (k : Nat → Bool) : Bool :=
  frc (Nat.div x 8388608) fun ex =>
  frc (Nat.div y 8388608) fun ey =>
  frc (Nat.add 8388608 (Nat.mod x 8388608)) fun mx =>
  frc (Nat.add 8388608 (Nat.mod y 8388608)) fun my =>
  cond (Nat.ble ey ex)
    (frc (Nat.add (Nat.shiftLeft mx (Nat.sub ex ey)) my) fun mag => rndW mag (Nat.add ey 250) k)
    (frc (Nat.add mx (Nat.shiftLeft my (Nat.sub ey ex))) fun mag => rndW mag (Nat.add ex 250) k)
def subW (x y : Nat) (k : Nat → Bool) : Bool :=
  frc (Nat.div x 8388608) fun ex =>
  frc (Nat.div y 8388608) fun ey =>
  frc (Nat.add 8388608 (Nat.mod x 8388608)) fun mx =>
  frc (Nat.add 8388608 (Nat.mod y 8388608)) fun my =>
  cond (Nat.ble ey ex)
    (frc (Nat.shiftLeft mx (Nat.sub ex ey)) fun big => cond (Nat.ble big my) false (frc (Nat.sub big my) fun mag => rndW mag (Nat.add ey 250) k))
    false
def mulW (x y : Nat) (k : Nat → Bool) : Bool :=
  frc (Nat.mul (Nat.add 8388608 (Nat.mod x 8388608)) (Nat.add 8388608 (Nat.mod y 8388608))) fun mag =>
  frc (Nat.add (Nat.add (Nat.div x 8388608) (Nat.div y 8388608)) 100) fun pl => rndW mag pl k
def divW (x y : Nat) (k : Nat → Bool) : Bool :=
  frc (Nat.div x 8388608) fun ex =>
  frc (Nat.div y 8388608) fun ey =>
  frc (Nat.shiftLeft (Nat.add 8388608 (Nat.mod x 8388608)) 25) fun big =>
  frc (Nat.add 8388608 (Nat.mod y 8388608)) fun my =>
  frc (Nat.mul 2 (Nat.div big my)) fun q =>
  frc (Nat.mod big my) fun r =>
  cond (Nat.ble r 0) (rndW q (Nat.sub (Nat.add ex 374) ey) k) (frc (Nat.add q 1) fun q => rndW q (Nat.sub (Nat.add ex 374) ey) k)

theorem sgnz (a : Nat) : signed false a 0 = (a : Int) := by simp [signed]
theorem sgn_sh (a n : Nat) : signed false a n = ((a <<< n : Nat) : Int) := by simp [signed]
theorem sgn_sht (a n : Nat) : signed true a n = -((a <<< n : Nat) : Int) := by simp [signed]

theorem sum_pos {m n : Nat} {i j : Int} (hm : m ≠ 0) : (Datum.number false m i).sum (.number false n j) = some (.number false (m <<< (i - min i j).toNat + n <<< (j - min i j).toNat) (min i j)) := by
  have hp : 0 < m <<< (i - min i j).toNat := by
    rw [Nat.shiftLeft_eq]; exact Nat.mul_pos (Nat.pos_of_ne_zero hm) (Nat.two_pow_pos _)
  unfold Datum.sum
  dsimp only
  rw [sgn_sh, sgn_sh]
  generalize m <<< (i - min i j).toNat = a at *
  generalize n <<< (j - min i j).toNat = b at *
  have e1 : ((a : Int) + (b : Int)).natAbs = a + b := by omega
  rw [if_neg (by omega), e1, show decide ((a : Int) + (b : Int) < 0) = false by simp; omega]
theorem sum_neg {m n : Nat} {i j : Int} (h : n <<< (j - min i j).toNat < m <<< (i - min i j).toNat) : (Datum.number false m i).sum (.number true n j) = some (.number false (m <<< (i - min i j).toNat - n <<< (j - min i j).toNat) (min i j)) := by
  unfold Datum.sum
  dsimp only
  rw [sgn_sh, sgn_sht]
  generalize m <<< (i - min i j).toNat = a at *
  generalize n <<< (j - min i j).toNat = b at *
  have e1 : ((a : Int) + -(b : Int)).natAbs = a - b := by omega
  rw [if_neg (by omega), e1, show decide ((a : Int) + -(b : Int) < 0) = false by simp; omega]
theorem add_form {x y mag : Nat} {pl : Int} (he : (FloatKind.f32.decode x).sum (FloatKind.f32.decode y) = some (.number false mag pl)) : fbin .add .f32 x y = Ieee.single.nearest false mag pl := by
  unfold fbin floatBits
  show (Option.map Ieee.single.write ((FloatKind.f32.decode x).sum (FloatKind.f32.decode y))).getD _ = _
  rw [he]; rfl
theorem sub_form {x y mag : Nat} {pl : Int} (he : (FloatKind.f32.decode x).sum (FloatKind.f32.decode y).opposite = some (.number false mag pl)) : fbin .sub .f32 x y = Ieee.single.nearest false mag pl := by
  unfold fbin floatBits
  show (Option.map Ieee.single.write ((FloatKind.f32.decode x).sum (FloatKind.f32.decode y).opposite)).getD _ = _
  rw [he]; rfl
theorem addW_sound {x y : Nat} {k : Nat → Bool} (hx : Nrm x) (hy : Nrm y) (h : addW x y k = true) : Nrm (fbin .add .f32 x y) ∧ k (fbin .add .f32 x y) = true := by
  unfold addW at h
  simp only [frc_eq, n_add, n_sub, n_mul, n_div, n_mod, n_shl, ble_iff] at h
  have hf := add_form (x := x) (y := y) (by rw [dec_norm hx, dec_norm hy]; exact sum_pos (by omega))
  rw [hf]
  have hm0 : 8388608 + x % 8388608 ≠ 0 := by omega
  have hm1 : 8388608 + y % 8388608 ≠ 0 := by omega
  generalize 8388608 + x % 8388608 = mx at *
  generalize 8388608 + y % 8388608 = my at *
  generalize x / 8388608 = ex at *
  generalize y / 8388608 = ey at *
  by_cases hle : ey ≤ ex
  · rw [decide_eq_true hle, cnd_t] at h
    have e1 : ((ex : Int) - 150 - min ((ex : Int) - 150) ((ey : Int) - 150)).toNat = ex - ey := by omega
    have e2 : ((ey : Int) - 150 - min ((ex : Int) - 150) ((ey : Int) - 150)).toNat = 0 := by omega
    have e3 : min ((ex : Int) - 150) ((ey : Int) - 150) = ((ey + 250 : Nat) : Int) - 400 := by omega
    rw [e1, e2, e3, Nat.shiftLeft_zero]
    exact rndW_sound (fun e => hm1 (Nat.add_eq_zero_iff.1 e).2) h
  · rw [decide_eq_false hle, cnd_f] at h
    have e1 : ((ex : Int) - 150 - min ((ex : Int) - 150) ((ey : Int) - 150)).toNat = 0 := by omega
    have e2 : ((ey : Int) - 150 - min ((ex : Int) - 150) ((ey : Int) - 150)).toNat = ey - ex := by omega
    have e3 : min ((ex : Int) - 150) ((ey : Int) - 150) = ((ex + 250 : Nat) : Int) - 400 := by omega
    rw [e1, e2, e3, Nat.shiftLeft_zero]
    exact rndW_sound (fun e => hm0 (Nat.add_eq_zero_iff.1 e).1) h
theorem cnd_ff {b x : Bool} (h : cond b false x = true) : b = false ∧ x = true := by cases b <;> simp_all
theorem subW_sound {x y : Nat} {k : Nat → Bool} (hx : Nrm x) (hy : Nrm y) (h : subW x y k = true) : Nrm (fbin .sub .f32 x y) ∧ k (fbin .sub .f32 x y) = true := by
  unfold subW at h
  simp only [frc_eq, n_add, n_sub, n_mul, n_div, n_mod, n_shl, ble_iff] at h
  obtain ⟨hle, h⟩ := cond_and h
  have hle := of_decide_eq_true hle
  obtain ⟨hb, h⟩ := cnd_ff h
  have hb := of_decide_eq_false hb
  have e1 : (((x / 8388608 : Nat) : Int) - 150 - min (((x / 8388608 : Nat) : Int) - 150) (((y / 8388608 : Nat) : Int) - 150)).toNat = x / 8388608 - y / 8388608 := by omega
  have e2 : (((y / 8388608 : Nat) : Int) - 150 - min (((x / 8388608 : Nat) : Int) - 150) (((y / 8388608 : Nat) : Int) - 150)).toNat = 0 := by omega
  have e3 : min (((x / 8388608 : Nat) : Int) - 150) (((y / 8388608 : Nat) : Int) - 150) = ((y / 8388608 + 250 : Nat) : Int) - 400 := by omega
  have hf := sub_form (x := x) (y := y) (by
    rw [dec_norm hx, dec_norm hy]
    exact sum_neg (by rw [e1, e2, Nat.shiftLeft_zero]; omega))
  rw [hf, e1, e2, e3, Nat.shiftLeft_zero]
  exact rndW_sound (by omega) h
theorem mulW_sound {x y : Nat} {k : Nat → Bool} (hx : Nrm x) (hy : Nrm y) (h : mulW x y k = true) : Nrm (fbin .mul .f32 x y) ∧ k (fbin .mul .f32 x y) = true := by
  unfold mulW at h
  simp only [frc_eq, n_add, n_sub, n_mul, n_div, n_mod, n_shl, ble_iff] at h
  have hf : fbin .mul .f32 x y = Ieee.single.nearest false ((8388608 + x % 8388608) * (8388608 + y % 8388608)) ((((x / 8388608 : Nat) : Int) - 150) + (((y / 8388608 : Nat) : Int) - 150)) := by
    unfold fbin floatBits
    show (Option.map Ieee.single.write ((FloatKind.f32.decode x).product (FloatKind.f32.decode y))).getD _ = _
    rw [dec_norm hx, dec_norm hy]; rfl
  have e3 : (((x / 8388608 : Nat) : Int) - 150) + (((y / 8388608 : Nat) : Int) - 150) = ((x / 8388608 + y / 8388608 + 100 : Nat) : Int) - 400 := by omega
  rw [hf, e3]
  have hm0 : 8388608 + x % 8388608 ≠ 0 := by omega
  have hm1 : 8388608 + y % 8388608 ≠ 0 := by omega
  exact rndW_sound (Nat.mul_ne_zero hm0 hm1) h
theorem log2_norm (w : Nat) : (8388608 + w % 8388608).log2 = 23 := by
  have h1 : 8388608 + w % 8388608 ≠ 0 := by omega
  have e1 : (2 : Nat) ^ 23 = 8388608 := by decide
  have e2 : (2 : Nat) ^ 24 = 16777216 := by decide
  have h2 : 23 ≤ (8388608 + w % 8388608).log2 := (Nat.le_log2 h1).2 (by rw [e1]; omega)
  have h3 : (8388608 + w % 8388608).log2 < 24 := (Nat.log2_lt h1).2 (by rw [e2]; omega)
  omega
theorem divW_sound {x y : Nat} {k : Nat → Bool} (hx : Nrm x) (hy : Nrm y) (h : divW x y k = true) : Nrm (fbin .quo .f32 x y) ∧ k (fbin .quo .f32 x y) = true := by
  unfold divW at h
  simp only [frc_eq, n_add, n_sub, n_mul, n_div, n_mod, n_shl, ble_iff] at h
  have hf : fbin .quo .f32 x y = Ieee.single.nearest false (2 * ((8388608 + x % 8388608) <<< 25 / (8388608 + y % 8388608)) + ((8388608 + x % 8388608) <<< 25 % (8388608 + y % 8388608) != 0).toNat) (((x / 8388608 : Nat) : Int) - 150 - (((y / 8388608 : Nat) : Int) - 150) - ((25 : Nat) : Int) - 1) := by
    unfold fbin floatBits
    show (Option.map Ieee.single.write ((FloatKind.f32.decode x).quotient 25 (FloatKind.f32.decode y))).getD _ = _
    rw [dec_norm hx, dec_norm hy]
    unfold Datum.quotient
    dsimp only
    rw [if_neg (by omega), log2_norm, log2_norm, show 25 + 23 - 23 = 25 from rfl, Option.map_some, Option.getD_some]
    unfold Format.write
    rw [show (false ^^ false) = false from rfl]
  have hex : x / 8388608 ≤ 254 ∧ y / 8388608 ≤ 254 := by
    obtain ⟨_, h1⟩ := hx; obtain ⟨_, h2⟩ := hy; omega
  have e3 : ((x / 8388608 : Nat) : Int) - 150 - (((y / 8388608 : Nat) : Int) - 150) - ((25 : Nat) : Int) - 1 = ((x / 8388608 + 374 - y / 8388608 : Nat) : Int) - 400 := by omega
  rw [hf, e3]
  have hq0 : (8388608 + x % 8388608) <<< 25 / (8388608 + y % 8388608) ≠ 0 := by
    rw [Nat.shiftLeft_eq]
    have : 8388608 + y % 8388608 ≤ (8388608 + x % 8388608) * 2 ^ 25 := by
      have e1 : (2 : Nat) ^ 25 = 33554432 := by decide
      rw [e1]; omega
    have := Nat.div_pos this (by omega)
    omega
  generalize (8388608 + x % 8388608) <<< 25 / (8388608 + y % 8388608) = q at *
  generalize (8388608 + x % 8388608) <<< 25 % (8388608 + y % 8388608) = r at *
  by_cases hr : r ≤ 0
  · rw [decide_eq_true hr, cnd_t] at h
    have : r = 0 := by omega
    subst this
    exact rndW_sound (by omega) h
  · rw [decide_eq_false hr, cnd_f] at h
    have : (r != 0) = true := by simp; omega
    rw [this]
    exact rndW_sound (by omega) h

end Go.Proofs.Ytnhhdgopgecggaa.Abs
