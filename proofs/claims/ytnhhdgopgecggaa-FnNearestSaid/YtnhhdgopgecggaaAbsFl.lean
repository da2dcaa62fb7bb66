/- Floats: when a number that is written is finite, and what is read back. No condition. -/
import Derived.Test.YtnhhdgopgecggaaAbsRd
set_option linter.unusedVariables false
set_option linter.unusedSimpArgs false
namespace Go.Proofs.Ytnhhdgopgecggaa.Abs
open Go Ieee

theorem cut_zero (neg : Bool) (n : Nat) : Toward.even.cut neg n 0 = n := by
  simp [Toward.cut, Nat.mod_one]
theorem cut_le (neg : Bool) (n drop : Nat) : Toward.even.cut neg n drop ≤ n / 2 ^ min drop (n.log2 + 2) + 1 := by
  simp only [Toward.cut, Nat.one_shiftLeft]
  have : ∀ b : Bool, b.toNat ≤ 1 := fun b => by cases b <;> simp
  exact Nat.add_le_add_left (this _) _
/-- What 'nearest' keeps of the digits: at most two binades of them. -/
theorem kept_le (f : Format) (neg : Bool) {mag : Nat} {place last : Int} (hm : mag ≠ 0) (hl : place + mag.log2 - f.fractionBits ≤ last) :
    Toward.even.cut neg (mag <<< (place - last).toNat) (last - place).toNat ≤ 2 * f.binade := by
  have hlt : mag < 2 ^ (mag.log2 + 1) := Nat.lt_log2_self
  have hb : 2 * f.binade = 2 ^ (f.fractionBits + 1) := by unfold Format.binade; rw [Nat.pow_succ]; omega
  rw [hb]
  by_cases h : last ≤ place
  · have h0 : (last - place).toNat = 0 := by omega
    rw [h0, cut_zero, Nat.shiftLeft_eq]
    calc mag * 2 ^ (place - last).toNat ≤ 2 ^ (mag.log2 + 1) * 2 ^ (place - last).toNat := Nat.mul_le_mul_right _ (Nat.le_of_lt hlt)
      _ = 2 ^ (mag.log2 + 1 + (place - last).toNat) := (Nat.pow_add ..).symm
      _ ≤ _ := Nat.pow_le_pow_right (by omega) (by omega)
  · have h0 : (place - last).toNat = 0 := by omega
    rw [h0, Nat.shiftLeft_zero]
    refine Nat.le_trans (cut_le _ _ _) ?_
    have h1 : 1 ≤ 2 ^ (f.fractionBits + 1) := Nat.one_le_two_pow
    by_cases hd : (last - place).toNat ≤ mag.log2 + 1
    · rw [Nat.min_eq_left (by omega)]
      have : mag / 2 ^ (last - place).toNat < 2 ^ (mag.log2 + 1 - (last - place).toNat) := by
        rw [Nat.div_lt_iff_lt_mul (Nat.two_pow_pos _), ← Nat.pow_add]
        rwa [show mag.log2 + 1 - (last - place).toNat + (last - place).toNat = mag.log2 + 1 by omega]
      have h2 : 2 ^ (mag.log2 + 1 - (last - place).toNat) ≤ 2 ^ (f.fractionBits + 1) := Nat.pow_le_pow_right (by omega) (by omega)
      omega
    · have : mag / 2 ^ min (last - place).toNat (mag.log2 + 2) = 0 := by
        refine Nat.div_eq_of_lt (Nat.lt_of_lt_of_le hlt (Nat.pow_le_pow_right (by omega) (by omega)))
      omega

/-- The rung of a number. -/
def rung (f : Format) (neg : Bool) (mag : Nat) (place : Int) : Nat :=
  (max (place + mag.log2 - f.fractionBits) f.leastPlace - f.leastPlace).toNat * f.binade + Toward.even.cut neg (mag <<< (place - max (place + mag.log2 - f.fractionBits) f.leastPlace).toNat) (max (place + mag.log2 - f.fractionBits) f.leastPlace - place).toNat
theorem nearest_rung (f : Format) (neg : Bool) {mag : Nat} (place : Int) (hm : mag ≠ 0) : f.nearest neg mag place = f.word neg (min (rung f neg mag place) f.infRung) := by
  unfold Format.nearest
  rw [if_neg hm]; rfl
theorem rung_lt (f : Format) (neg : Bool) {mag : Nat} {place : Int} (hm : mag ≠ 0) (h : place + mag.log2 - f.fractionBits - f.leastPlace + 2 < 2 ^ f.exponentBits - 1) (h2 : 2 < 2 ^ f.exponentBits - 1) : rung f neg mag place < f.infRung := by
  unfold rung Format.infRung
  have hk := kept_le f neg (last := max (place + mag.log2 - f.fractionBits) f.leastPlace) hm (Int.le_max_left _ _)
  have hp : 0 < f.binade := Nat.two_pow_pos _
  have : ((max (place + ↑mag.log2 - ↑f.fractionBits) f.leastPlace - f.leastPlace).toNat + 2) * f.binade < (2 ^ f.exponentBits - 1) * f.binade := by
    refine Nat.mul_lt_mul_of_pos_right ?_ hp
    have hz : ((2 ^ f.exponentBits : Nat) : Int) = 2 ^ f.exponentBits := by simp
    omega
  rw [Nat.add_mul] at this
  omega

theorem read_word (f : Format) (neg : Bool) {r : Nat} (hr : r < f.infRung) : ∃ m p, f.read (f.word neg r) = .number neg m p := by
  have hs : r < f.signWeight := Nat.lt_trans hr (Format.infRung_lt f)
  have hp : 0 < f.signWeight := by omega
  have h1 : f.word neg r / f.signWeight % 2 = if neg then 1 else 0 := by
    unfold Format.word
    cases neg
    · simp [Nat.div_eq_of_lt hs]
    · simp only [if_true]
      rw [Nat.add_div_left _ hp, Nat.div_eq_of_lt hs]
  have h2 : f.word neg r % f.signWeight = r := by
    unfold Format.word
    cases neg
    · simp [Nat.mod_eq_of_lt hs]
    · simp only [if_true]
      rw [Nat.add_mod_left, Nat.mod_eq_of_lt hs]
  unfold Format.read
  simp only [h1, h2]
  have h3 : ((if neg = true then 1 else 0) == 1) = neg := by cases neg <;> rfl
  split
  · exact ⟨_, _, by rw [h3]⟩
  · exact ⟨_, _, by rw [h3]⟩

theorem read_number {f : Format} {w : Nat} {s : Bool} {m : Nat} {p : Int} (h : f.read w = .number s m p) : m < 2 * f.binade ∧ f.leastPlace ≤ p ∧ p ≤ f.leastPlace + (2 ^ f.exponentBits - 3 : Nat) ∨ m < 2 * f.binade ∧ p = f.leastPlace := by
  unfold Format.read at h
  simp only at h
  have hb : 0 < f.binade := Nat.two_pow_pos _
  split at h
  · rename_i hlt
    cases h
    right; exact ⟨by omega, rfl⟩
  · split at h
    · rename_i h1 h2
      cases h
      left
      have := Nat.mod_lt (w % f.signWeight) hb
      refine ⟨by omega, by omega, ?_⟩
      have h3 : w % f.signWeight / f.binade < 2 ^ f.exponentBits - 1 := by
        rw [Nat.div_lt_iff_lt_mul hb]; exact h2
      have : (↑(w % f.signWeight / f.binade - 1) : Int) ≤ ((2 ^ f.exponentBits - 3 : Nat) : Int) := by
        have : w % f.signWeight / f.binade - 1 ≤ 2 ^ f.exponentBits - 3 := by omega
        exact Int.ofNat_le.2 this
      omega
    · split at h <;> cases h

/-- A float32 as a float64: always there. -/
theorem conv64_some (x : Nat) : ∃ y, fconv .f32 x .f64 = some y := by
  unfold fconv
  rw [if_neg (by decide)]
  by_cases hn : nanB .f32 x = true
  · rw [if_pos hn]; exact ⟨_, rfl⟩
  · rw [if_neg hn]
    unfold floatToFloatBits
    rw [if_neg (by decide)]
    cases hd : FloatKind.f32.decode x with
    | nan s t => exact absurd (by simp [nanB, hd, Datum.isNaN]) hn
    | infinity s => exact ⟨_, rfl⟩
    | number s m e =>
      dsimp only
      have hfin : (FloatKind.f64.decode (FloatKind.f64.encode (.number s m e))).isInfinity = false := by
        show (Ieee.double.read (Ieee.double.nearest s m e)).isInfinity = false
        by_cases hm : m = 0
        · subst hm
          unfold Format.nearest
          rw [if_pos rfl]
          obtain ⟨m', p', h⟩ := read_word Ieee.double s (r := 0) (by decide)
          rw [h]; rfl
        · have hr := read_number (f := Ieee.single) hd
          have hlog : m.log2 < 24 := by
            have : m < 2 ^ 24 := by
              rcases hr with ⟨h, _⟩ | ⟨h, _⟩ <;> exact h
            exact (Nat.log2_lt hm).2 this
          have hlt : rung Ieee.double s m e < Ieee.double.infRung := by
            refine rung_lt _ _ hm ?_ (by decide)
            have h1 : Ieee.double.leastPlace = -1074 := by decide
            have h2 : Ieee.single.leastPlace = -149 := by decide
            have h3 : ((2 ^ Ieee.single.exponentBits - 3 : Nat) : Int) = 253 := by decide
            have h4 : (2 : Int) ^ Ieee.double.exponentBits - 1 = 2047 := by decide
            have h5 : (Ieee.double.fractionBits : Int) = 52 := by decide
            rw [h2, h3] at hr
            rw [h1, h4, h5]
            omega
          rw [nearest_rung _ _ _ hm, Nat.min_eq_left (Nat.le_of_lt hlt)]
          obtain ⟨m', p', h⟩ := read_word Ieee.double s hlt
          rw [h]; rfl
      rw [hfin]
      exact ⟨_, rfl⟩
def w64 (x : Nat) : Nat := (fconv .f32 x .f64).getD 0
theorem fconv_w64 (x : Nat) : fconv .f32 x .f64 = some (w64 x) := by
  obtain ⟨y, h⟩ := conv64_some x
  unfold w64; rw [h]; rfl

end Go.Proofs.Ytnhhdgopgecggaa.Abs
