/- The plain law of FnNearest: distances of lists of quarters, and warped ones. No condition. -/
import Derived.Test.YtnhhdgopgecggaaGj
import Derived.Test.YtnhhdgopgecggaaAbsFg
set_option linter.unusedVariables false
set_option linter.unusedSimpArgs false
namespace Go.Proofs.Ytnhhdgopgecggaa.Abs
open Go Ieee

theorem sameS_refl (a : Nat) : sameS a a = true := by unfold sameS; simp
theorem num0 : isNum .f32 0 = true := by decide +kernel
theorem fv0 : fv .f32 0 = 0 := by decide +kernel
theorem gr_nonneg {q n : Int} {w : Nat} (h : Gr q n w) (hn : 0 ≤ n) : 0 ≤ fv .f32 w := by
  rw [h.val]
  exact Rat.mul_nonneg (by exact_mod_cast hn) (Rat.le_of_lt (p2_pos q))
theorem p2m2 : p2 (-2) = 1 / 4 := by decide +kernel
theorem p2m4 : p2 (-4) = 1 / 16 := by decide +kernel
theorem gr4 : Gr 2 1 1082130432 := ⟨by decide +kernel, by decide +kernel⟩
theorem quo_gr {z : Int} (hz : z.natAbs < 1000) {k : Nat} {w : Nat} (hw : Gr k 1 w) (hk : k ≤ 4) : Gr (-(k : Int)) z (fbin .quo .f32 (i32f z) w) := by
  have hi : Gr 0 z (i32f z) := gr_int (by omega)
  refine hi.quo hw (by decide) ?_ (by omega) (by omega) (by omega)
  have : p2 (-(k : Int)) * p2 k = 1 := by rw [← p2_add, Int.add_left_neg, p2_zero]
  rw [p2_zero, Rat.mul_one, show ((1 : Int) : Rat) = 1 from rfl, Rat.one_mul, Rat.mul_assoc, this, Rat.mul_one]

/-! ### The square of a difference is that of the opposite one -/
theorem dec_enc (k : FloatKind) (M : Nat) (e : Int) (h : (M : Rat) * p2 e < p2 (top k)) : ∃ m' p', ∀ b : Bool, k.decode (k.encode (.number b M e)) = .number b m' p' := by
  by_cases hm : M = 0
  · subst hm
    have h0 : 0 < k.format.infRung := by cases k <;> decide
    refine ⟨0, k.format.leastPlace, fun b => ?_⟩
    have hw : k.encode (.number b 0 e) = k.format.word b 0 := by
      show k.format.nearest b 0 e = _
      unfold Format.nearest; rw [if_pos rfl]
    rw [hw]
    show k.format.read _ = _
    rw [read_word_eq k.format b h0, if_pos (show 0 < k.format.binade from Nat.two_pow_pos _)]
  · have hv := log2_val hm e
    have hlt : e + M.log2 < top k := p2_lt (by have := hv.1; grind)
    have hr : ∀ b, rung k.format b M e < k.format.infRung := fun b => by
      refine rung_lt _ _ hm ?_ ?_
      · rw [fb_eq, lp_eq]
        cases k
        · have : (2 : Int) ^ FloatKind.f32.format.exponentBits - 1 = 255 := by decide
          rw [this]; simp only [fb, lp, top] at *; omega
        · have : (2 : Int) ^ FloatKind.f64.format.exponentBits - 1 = 2047 := by decide
          rw [this]; simp only [fb, lp, top] at *; omega
      · cases k <;> decide
    have hrb : ∀ b, rung k.format b M e = rung k.format false M e := fun b => by
      unfold rung Toward.cut; rfl
    have key : ∀ b, k.decode (k.encode (.number b M e)) = if rung k.format false M e < k.format.binade then .number b (rung k.format false M e) k.format.leastPlace else .number b (k.format.binade + rung k.format false M e % k.format.binade) (k.format.leastPlace + (rung k.format false M e / k.format.binade - 1 : Nat)) := by
      intro b
      show k.format.read (k.format.nearest b M e) = _
      rw [nearest_rung k.format b e hm, hrb b, Nat.min_eq_left (Nat.le_of_lt (hr false)), read_word_eq k.format b (hr false)]
    by_cases hc : rung k.format false M e < k.format.binade
    · exact ⟨_, _, fun b => by rw [key b, if_pos hc]⟩
    · exact ⟨_, _, fun b => by rw [key b, if_neg hc]⟩
theorem sub_enc {k : FloatKind} {x y : Nat} (hx : isNum k x = true) (hy : isNum k y = true) : ∃ b b' M e, fbin .sub k x y = k.encode (.number b M e) ∧ fbin .sub k y x = k.encode (.number b' M e) ∧ sg b * ((M : Rat) * p2 e) = fv k x - fv k y := by
  obtain ⟨s, m, i, dx, vx⟩ := isNum_iff hx
  obtain ⟨t, n, j, dy, vy⟩ := isNum_iff hy
  have hm : min i j = min j i := by omega
  have hT : signed t n (j - min i j).toNat + signed (!s) m (i - min i j).toNat = -(signed s m (i - min i j).toNat + signed (!t) n (j - min i j).toNat) := by
    unfold signed; cases s <;> cases t <;> simp <;> omega
  refine ⟨(if signed s m (i - min i j).toNat + signed (!t) n (j - min i j).toNat = 0 then s && !t else decide (signed s m (i - min i j).toNat + signed (!t) n (j - min i j).toNat < 0)), (if signed t n (j - min i j).toNat + signed (!s) m (i - min i j).toNat = 0 then t && !s else decide (signed t n (j - min i j).toNat + signed (!s) m (i - min i j).toNat < 0)), (signed s m (i - min i j).toNat + signed (!t) n (j - min i j).toNat).natAbs, min i j, ?_, ?_, ?_⟩
  · unfold fbin floatBits
    show (Option.map k.format.write ((k.decode x).sum (k.decode y).opposite)).getD _ = _
    rw [dx, dy]; rfl
  · unfold fbin floatBits
    show (Option.map k.format.write ((k.decode y).sum (k.decode x).opposite)).getD _ = _
    rw [dx, dy]
    show (Option.map k.format.write ((Datum.number t n j).sum (.number (!s) m i))).getD _ = _
    unfold Datum.sum
    dsimp only
    rw [Option.map_some, Option.getD_some, ← hm]
    show k.format.write _ = k.format.write _
    congr 2
    rw [hT, Int.natAbs_neg]
  · rw [natAbs_val, Rat.intCast_add, Rat.add_mul, signed_val _ _ _ _ (by omega), signed_val _ _ _ _ (by omega), vx, vy, sg_not]
    grind
theorem sq_sym {x y : Nat} (hx : isNum .f32 x = true) (hy : isNum .f32 y = true) (h1 : fv .f32 x - fv .f32 y < p2 (top .f32)) (h2 : -(fv .f32 x - fv .f32 y) < p2 (top .f32)) : fbin .mul .f32 (fbin .sub .f32 x y) (fbin .sub .f32 x y) = fbin .mul .f32 (fbin .sub .f32 y x) (fbin .sub .f32 y x) := by
  obtain ⟨b, b', M, e, e1, e2, hv⟩ := sub_enc hx hy
  have hM : (M : Rat) * p2 e < p2 (top .f32) := by
    rcases sg_cases b with h | h <;> rw [h] at hv <;> grind
  obtain ⟨m', p', hd⟩ := dec_enc .f32 M e hM
  have key : ∀ b, fbin .mul .f32 (FloatKind.f32.encode (.number b M e)) (FloatKind.f32.encode (.number b M e)) = FloatKind.f32.encode (.number false (m' * m') (p' + p')) := by
    intro b
    unfold fbin floatBits
    show (Option.map Ieee.single.write ((FloatKind.f32.decode _).product (FloatKind.f32.decode _))).getD _ = _
    rw [hd b]
    unfold Datum.product
    dsimp only
    rw [Option.map_some, Option.getD_some, Bool.xor_self]; rfl
  rw [e1, e2, key, key]

/-! ### Roots -/
theorem sq_le {a b : Rat} (h : a ≤ b) (h0 : 0 ≤ a) : a * a ≤ b * b := by
  have h1 := Rat.mul_le_mul_of_nonneg_right h h0
  have h2 := Rat.mul_le_mul_of_nonneg_left h (show 0 ≤ b by grind)
  grind
theorem le_of_sq {a b : Rat} (h : a * a ≤ b * b) (hb : 0 ≤ b) : a ≤ b := by
  by_cases hh : a ≤ b
  · exact hh
  · exfalso
    have h1 := Rat.mul_lt_mul_of_pos_right (show b < a by grind) (show 0 < a by grind)
    have h2 := Rat.mul_le_mul_of_nonneg_left (show b ≤ a by grind) hb
    grind
theorem fv_least {k : FloatKind} {x : Nat} (h : isNum k x = true) (h0 : 0 < fv k x) : p2 (lp k) ≤ fv k x := by
  obtain ⟨s, m, p, hd, hv, h1, h2, h3⟩ := isNum_lt h
  have hm : m ≠ 0 := by
    intro e; subst e; rw [hv] at h0; simp at h0
  have hmp : p2 (lp k) ≤ (m : Rat) * p2 p := by
    have e1 := p2_mono h2
    have e2 : ((1 : Nat) : Rat) ≤ (m : Rat) := Rat.natCast_le_natCast.2 (by omega)
    have e3 := Rat.mul_le_mul_of_nonneg_right e2 (Rat.le_of_lt (p2_pos p))
    have e4 : ((1 : Nat) : Rat) = 1 := rfl
    rw [e4] at e3
    grind
  have hpp := p2_pos (lp k)
  rw [hv] at h0 ⊢
  rcases sg_cases s with e | e <;> rw [e] at h0 ⊢ <;> grind
theorem root_val {x : Nat} (hx : isNum .f32 x = true) (h0 : 0 ≤ fv .f32 x) (h1 : fv .f32 x ≤ 1048576) :
    isNum .f32 (root x) = true ∧ 0 ≤ fv .f32 (root x) ∧ (fv .f32 x = 0 → fv .f32 (root x) = 0) ∧ fv .f32 (root x) ≤ 2048 ∧
    (1 / 1048576 ≤ fv .f32 x → fv .f32 x * (1 - 1 / 1000000) ≤ fv .f32 (root x) * fv .f32 (root x) ∧ fv .f32 (root x) * fv .f32 (root x) ≤ fv .f32 x * (1 + 1 / 1000000) ∧ 1 / 2048 ≤ fv .f32 (root x)) := by
  obtain ⟨v1, v2⟩ := w64_val hx
  have big : (1048576 : Rat) ≤ p2 300 := by
    have : (1048576 : Rat) = p2 20 := by decide +kernel
    rw [this]; exact p2_mono (by decide)
  obtain ⟨n1, n2, n3, V, u, u0, V0, uV, s1, s2, r⟩ := rnd_sqrt v1 (by rw [v2]; exact h0) (by rw [v2]; grind)
  rw [v2] at n3 s1 s2
  have hu : u ≤ 1 / 1125899906842624 * V := by
    have q : p2 50 = 1125899906842624 := by decide +kernel
    rw [q] at uV; grind
  have hVu : V - u ≤ 1024 := le_of_sq (by grind) (by decide +kernel)
  have hrel := r.rel V (by grind) (by grind)
  have q1 : p2 (-(fb .f64 : Int)) = 1 / 4503599627370496 := by decide +kernel
  have q3 : p2 (lp .f64) ≤ p2 (-200) := p2_mono (by decide)
  rw [q1] at hrel
  have hs200 : p2 (-200) ≤ 1 / 1000000000000000000000000000000 := by decide +kernel
  have ht : (4096 : Rat) ≤ p2 (top .f32) := by
    have : (4096 : Rat) = p2 12 := by decide +kernel
    rw [this]; exact p2_mono (by decide)
  obtain ⟨w, hw, rw32⟩ := fconv_num n1 (by grind) (by grind)
  have hwr : root x = w := by
    have := fconv_root x
    rw [hw] at this
    exact (Option.some.inj this).symm
  rw [hwr]
  have hrel2 := rw32.rel (fv .f64 (fsqrt (w64 x))) (by grind) (by grind)
  have q4 : p2 (-(fb .f32 : Int)) = 1 / 8388608 := by decide +kernel
  have q5 : p2 (lp .f32) = p2 (-149) := rfl
  rw [q4, q5] at hrel2
  have hs149 : p2 (-149) ≤ 1 / 1000000000000000000000000000000000000000 := by decide +kernel
  have hzero : fv .f32 x = 0 → fv .f32 w = 0 := by
    intro h
    have e := n3 h
    have := rw32.exact 0 0 (.inl (by rw [e]; simp)) (by decide) (by decide)
    rw [this, e]
  refine ⟨rw32.num, ?_, hzero, by grind, ?_⟩
  · by_cases hz : fv .f32 x = 0
    · rw [hzero hz]; exact Rat.le_refl
    · have hl := fv_least hx (by grind)
      have e1 : p2 (-75) * p2 (-75) ≤ p2 (lp .f32) := by rw [← p2_add]; exact p2_mono (by decide)
      have e2 : p2 (-75) ≤ V + u := le_of_sq (by grind) (by grind)
      have e3 : p2 (-149) ≤ 1 / 1024 * p2 (-75) := by decide +kernel
      have e4 : p2 (-200) ≤ 1 / 1024 * p2 (-75) := by decide +kernel
      have e5 := p2_pos (-75)
      generalize p2 (-75) = t at *
      generalize p2 (-149) = t2 at *
      generalize p2 (-200) = t3 at *
      grind
  · intro hX
    have e0 : (1 / 1024 : Rat) * (1 / 1024) ≤ (V + u) * (V + u) := by
      have : (1 / 1024 : Rat) * (1 / 1024) = 1 / 1048576 := by decide +kernel
      rw [this]; grind
    have e1 : 1 / 1024 ≤ V + u := le_of_sq e0 (by grind)
    have e2 : 1 / 1025 ≤ V := by grind
    have w1 : fv .f32 w ≤ V * (1 + 1 / 4194304) := by grind
    have w2 : V * (1 - 1 / 4194304) ≤ fv .f32 w := by grind
    have m1 := sq_le w2 (by grind)
    have m2 := sq_le w1 (by grind)
    have m3 := sq_le (show V * (1 - 1 / 1125899906842624) ≤ V - u by grind) (by grind)
    have m4 := sq_le (show V + u ≤ V * (1 + 1 / 1125899906842624) by grind) (by grind)
    have hQ : 0 ≤ V * V := Rat.mul_nonneg V0 V0
    have r1 : V * (1 - 1 / 4194304) * (V * (1 - 1 / 4194304)) = V * V * ((1 - 1 / 4194304) * (1 - 1 / 4194304)) := by grind
    have r2 : V * (1 + 1 / 4194304) * (V * (1 + 1 / 4194304)) = V * V * ((1 + 1 / 4194304) * (1 + 1 / 4194304)) := by grind
    have r3 : V * (1 - 1 / 1125899906842624) * (V * (1 - 1 / 1125899906842624)) = V * V * ((1 - 1 / 1125899906842624) * (1 - 1 / 1125899906842624)) := by grind
    have r4 : V * (1 + 1 / 1125899906842624) * (V * (1 + 1 / 1125899906842624)) = V * V * ((1 + 1 / 1125899906842624) * (1 + 1 / 1125899906842624)) := by grind
    rw [r1] at m1
    rw [r2] at m2
    rw [r3] at m3
    rw [r4] at m4
    generalize V * V = Q at *
    clear r1 r2 r3 r4 hrel hrel2 n1 n2 n3 v1 v2
    refine ⟨?_, ?_, by grind⟩
    · grind
    · grind

/-- Lists whose numbers are quarters, from -4 to 4. -/
structure Q4 (xs : List Nat) (n : Nat) (z : Nat → Int) : Prop where
  len : xs.length = n
  gr : ∀ i, i < n → Gr (-2) (z i) (xs.getD i 0)
  bd : ∀ i, -16 ≤ z i ∧ z i ≤ 16
theorem draw_q4 (bs : List Nat) (n : Nat) : Q4 (drawL bs n) n (fun i => pk bs 0 0 i 33 - 16) where
  len := by simp [drawL, mapL]
  gr := fun i hi => by
    unfold drawL
    rw [getD_mapL _ hi]
    have := pk_range bs 0 0 i (n := 33) (by decide)
    exact quo_gr (k := 2) (by omega) gr4 (by decide)
  bd := fun i => by
    have := pk_range bs 0 0 i (n := 33) (by decide)
    omega
theorem Q4.series {xs : List Nat} {n : Nat} {z : Nat → Int} (h : Q4 xs n z) (h1 : 1 ≤ n) (h2 : n ≤ 96) : Abs.series xs = true := by
  unfold Abs.series
  have h3 : 1 ≤ xs.length := by rw [h.len]; exact h1
  have h4 : xs.length ≤ 96 := by rw [h.len]; exact h2
  have h5 : allFin xs = true := by
    unfold allFin
    rw [List.all_eq_true]
    intro x hx
    obtain ⟨i, hi, rfl⟩ := List.getElem_of_mem hx
    have := h.gr i (by rw [← h.len]; exact hi)
    rw [getD_of hi] at this
    exact isFin_num this.num
  rw [h5]; simp [h3, h4]
theorem Q4.two {xs ys : List Nat} {n : Nat} {z y : Nat → Int} (h : Q4 xs n z) (h' : Q4 ys n y) (h1 : 1 ≤ n) (h2 : n ≤ 96) : Abs.two xs ys = true := by
  unfold Abs.two
  rw [h.series h1 h2, h'.series h1 h2, h.len, h'.len]; simp

/-- Sums of whole numbers. -/
def sumZ (f : Nat → Int) : Nat → Int
  | 0 => 0
  | i + 1 => sumZ f i + f i
theorem sumZ_bd {f : Nat → Int} {c : Int} (h : ∀ i, 0 ≤ f i ∧ f i ≤ c) : ∀ n : Nat, 0 ≤ sumZ f n ∧ sumZ f n ≤ c * n
  | 0 => by simp [sumZ]
  | n + 1 => by
    have := sumZ_bd h n
    have := h n
    have e : c * ((n + 1 : Nat) : Int) = c * n + c := by rw [show ((n + 1 : Nat) : Int) = (n : Int) + 1 by omega, Int.mul_add, Int.mul_one]
    unfold sumZ
    omega
theorem sq_bd {a : Int} (h1 : -32 ≤ a) (h2 : a ≤ 32) : 0 ≤ a * a ∧ a * a ≤ 1024 := by
  have e : (a.natAbs : Int) * a.natAbs = a * a := Int.natAbs_mul_self' a
  have h3 : a.natAbs ≤ 32 := by omega
  have h4 : a.natAbs * a.natAbs ≤ 32 * 32 := Nat.mul_le_mul h3 h3
  have h5 : ((a.natAbs * a.natAbs : Nat) : Int) = a * a := by rw [Int.natCast_mul]; exact e
  omega
theorem dist_gr {xs ys : List Nat} {n : Nat} {z y : Nat → Int} (h : Q4 xs n z) (h' : Q4 ys n y) (hn : n ≤ 16) : ∀ i, i ≤ n → Gr (-4) (sumZ (fun i => (z i - y i) * (z i - y i)) i) (farN xs ys i)
  | 0, _ => ⟨num0, by rw [show farN xs ys 0 = 0 from rfl, fv0]; simp [sumZ]⟩
  | i + 1, hi => by
    have ih := dist_gr h h' hn i (by omega)
    have hb : ∀ i, 0 ≤ (z i - y i) * (z i - y i) ∧ (z i - y i) * (z i - y i) ≤ 1024 := fun i => by
      have a := h.bd i; have b := h'.bd i
      exact sq_bd (by omega) (by omega)
    have hs := sumZ_bd hb i
    have hbi := hb i
    have a := h.bd i; have b := h'.bd i
    have hd := (h.gr i (by omega)).sub (h'.gr i (by omega)) (by omega) (by decide) (by decide)
    have hm := hd.mul hd (by omega) (by decide) (by decide)
    rw [farN_succ]
    have e : sumZ (fun i => (z i - y i) * (z i - y i)) (i + 1) = sumZ (fun i => (z i - y i) * (z i - y i)) i + (z i - y i) * (z i - y i) := rfl
    rw [e]
    have hc : (1024 : Int) * (i : Int) ≤ 1024 * 16 := by omega
    exact ih.add hm (by omega) (by decide) (by decide)
theorem sumZ_zero {f : Nat → Int} (h : ∀ i, f i = 0) : ∀ n, sumZ f n = 0
  | 0 => rfl
  | n + 1 => by unfold sumZ; rw [sumZ_zero h n, h n]; rfl
theorem far_val {xs ys : List Nat} {n : Nat} {z y : Nat → Int} (h : Q4 xs n z) (h' : Q4 ys n y) (hn : n ≤ 16) : isNum .f32 (farL xs ys) = true ∧ 0 ≤ fv .f32 (farL xs ys) := by
  have g := dist_gr h h' hn n (Nat.le_refl _)
  rw [← h.len, farN_eq] at g
  have hb : ∀ i, 0 ≤ (z i - y i) * (z i - y i) ∧ (z i - y i) * (z i - y i) ≤ 1024 := fun i => by
    have a := h.bd i; have b := h'.bd i
    exact sq_bd (by omega) (by omega)
  have hs := sumZ_bd hb xs.length
  have hl := h.len
  have h0 := gr_nonneg g hs.1
  have hc : (sumZ (fun i => (z i - y i) * (z i - y i)) xs.length : Rat) ≤ ((16384 : Int) : Rat) := Rat.intCast_le_intCast.2 (by omega)
  have h1 : fv .f32 (dotL (lessL xs ys) (lessL xs ys)) ≤ 1048576 := by
    rw [g.val, p2m4]
    have e : ((16384 : Int) : Rat) = 16384 := by decide +kernel
    rw [e] at hc
    grind
  have r := root_val g.num h0 h1
  exact ⟨r.1, r.2.1⟩
theorem far_self {xs : List Nat} {n : Nat} {z : Nat → Int} (h : Q4 xs n z) (hn : n ≤ 16) : fv .f32 (farL xs xs) = 0 := by
  have g := dist_gr h h hn n (Nat.le_refl _)
  rw [← h.len, farN_eq, sumZ_zero (fun i => by rw [Int.sub_self]; rfl)] at g
  have h0 : fv .f32 (dotL (lessL xs xs) (lessL xs xs)) = 0 := by rw [g.val]; simp
  have r := root_val g.num (by rw [h0]; exact Rat.le_refl) (by rw [h0]; decide)
  exact r.2.2.1 h0
theorem far_sym {xs ys : List Nat} {n : Nat} {z y : Nat → Int} (h : Q4 xs n z) (h' : Q4 ys n y) : farL xs ys = farL ys xs := by
  unfold farL
  rw [← farN_eq, ← farN_eq, h.len, h'.len]
  congr 1
  unfold farN
  refine accN_congr 0 n (fun s i hi => ?_)
  congr 1
  have g := h.gr i hi
  have g' := h'.gr i hi
  have a := h.bd i; have b := h'.bd i
  have e : fv .f32 (xs.getD i 0) - fv .f32 (ys.getD i 0) = ((z i - y i : Int) : Rat) * p2 (-2) := by rw [g.val, g'.val, Rat.intCast_sub]; grind
  have t := gr_top (n := z i - y i) (q := -2) (by omega) (by decide)
  exact sq_sym g.num g'.num (by rw [e]; exact t.1) (by rw [e]; exact t.2)

/-! ### The nearest one -/
theorem best_zero {F : Nat → Nat} {n p : Nat} (hF : ∀ i, i < n → isNum .f32 (F i) = true ∧ 0 ≤ fv .f32 (F i)) (hp : p < n) (h0 : fv .f32 (F p) = 0) :
    ∀ i, 1 ≤ i → i ≤ n → (bestN F i).1 < i ∧ (bestN F i).2 = F (bestN F i).1 ∧ (p < i → (bestN F i).1 ≤ p ∧ fv .f32 (bestN F i).2 = 0)
  | 0, h, _ => by omega
  | i + 1, _, hi => by
    rw [bestN_succ]
    by_cases hi0 : i = 0
    · subst hi0
      rw [if_pos (.inl rfl)]
      refine ⟨by simp, rfl, fun hpi => ?_⟩
      have : p = 0 := by omega
      subst this
      exact ⟨Nat.le_refl _, h0⟩
    · obtain ⟨q1, q2, q3⟩ := best_zero hF hp h0 i (by omega) (by omega)
      have hb := hF (bestN F i).1 (by omega)
      rw [← q2] at hb
      have hFi := hF i (by omega)
      by_cases hc : fcmp .lss .f32 (F i) (bestN F i).2 = true
      · rw [if_pos (.inr hc)]
        rw [lss_val hFi.1 hb.1] at hc
        have hc := of_decide_eq_true hc
        refine ⟨by simp, rfl, fun hpi => ?_⟩
        by_cases hpi' : p < i
        · have := (q3 hpi').2; grind
        · have : p = i := by omega
          subst this
          exact ⟨Nat.le_refl _, h0⟩
      · rw [if_neg (by rintro (h | h); exact hi0 h; exact hc h)]
        rw [lss_val hFi.1 hb.1] at hc
        have hc : ¬ fv .f32 (F i) < fv .f32 (bestN F i).2 := fun h => hc (decide_eq_true h)
        refine ⟨by omega, q2, fun hpi => ?_⟩
        by_cases hpi' : p < i
        · exact q3 hpi'
        · have : p = i := by omega
          subst this
          exact ⟨by omega, by grind⟩

theorem fneg_val {k : FloatKind} {x : Nat} (h : isNum k x = true) : isNum k (fneg k x) = true ∧ fv k (fneg k x) = -(fv k x) := by
  obtain ⟨s, m, p, hd, hv⟩ := isNum_iff h
  have hf : fneg k x = Op.negFloat k x := by unfold fneg; rw [isNum_nan h]; rfl
  have hm : Op.negFloat k x % k.format.signWeight = x % k.format.signWeight := by
    unfold Op.negFloat Ieee.Format.signWeight
    rw [Nat.xor_mod_two_pow, Nat.mod_self, Nat.xor_zero]
  have hq : Op.negFloat k x / k.format.signWeight % 2 = 1 - x / k.format.signWeight % 2 := by
    unfold Op.negFloat Ieee.Format.signWeight
    rw [Nat.xor_div_two_pow, Nat.div_self (Nat.two_pow_pos _)]
    have h1 : (x / 2 ^ (k.format.exponentBits + k.format.fractionBits) ^^^ 1) % 2 = (x / 2 ^ (k.format.exponentBits + k.format.fractionBits) + 1) % 2 := by
      have := @Nat.xor_mod_two_pow (x / 2 ^ (k.format.exponentBits + k.format.fractionBits)) 1 1
      rw [Nat.pow_one] at this
      rw [this]
      rcases Nat.mod_two_eq_zero_or_one (x / 2 ^ (k.format.exponentBits + k.format.fractionBits)) with e | e <;> rw [e] <;> simp <;> omega
    rw [h1]; omega
  have hd2 : k.decode (fneg k x) = .number (!s) m p := by
    rw [hf]
    unfold FloatKind.decode at hd ⊢
    unfold Ieee.Format.read at hd ⊢
    rw [hm, hq]
    dsimp only at hd ⊢
    have hb : ((1 - x / k.format.signWeight % 2) == 1) = !(x / k.format.signWeight % 2 == 1) := by
      rcases Nat.mod_two_eq_zero_or_one (x / k.format.signWeight) with e | e <;> rw [e] <;> rfl
    rw [hb]
    split at hd
    · cases hd; rename_i hc; rw [if_pos hc]
    · rename_i hc
      split at hd
      · cases hd; rename_i hc2; rw [if_neg hc, if_pos hc2]
      · split at hd <;> cases hd
  refine ⟨by unfold isNum; rw [hd2]; rfl, ?_⟩
  unfold fv
  rw [hd2, hd]
  show sg (!s) * ((m : Rat) * p2 p) = -(sg s * ((m : Rat) * p2 p))
  rw [sg_not]; grind
theorem absF_val {x : Nat} (h : isNum .f32 x = true) : isNum .f32 (absF x) = true ∧ (0 ≤ fv .f32 x → fv .f32 (absF x) = fv .f32 x) ∧ (fv .f32 x ≤ 0 → fv .f32 (absF x) = -(fv .f32 x)) := by
  obtain ⟨n1, n2⟩ := fneg_val h
  unfold absF fmax
  rw [order_val h n1, n2]
  by_cases h1 : fv .f32 x < -(fv .f32 x)
  · rw [if_pos h1]
    dsimp only
    exact ⟨n1, fun h => by rw [n2]; grind, fun _ => n2⟩
  · rw [if_neg h1]
    by_cases h2 : fv .f32 x = -(fv .f32 x)
    · rw [if_pos h2]
      dsimp only
      split
      · exact ⟨n1, fun h => by rw [n2]; grind, fun _ => n2⟩
      · exact ⟨h, fun _ => rfl, fun _ => h2⟩
    · rw [if_neg h2]
      dsimp only
      exact ⟨h, fun _ => rfl, fun h => by grind⟩
theorem abs_gr {q z : Int} {x : Nat} (h : Gr q z x) : Gr q (z.natAbs : Nat) (absF x) := by
  obtain ⟨a1, a2, a3⟩ := absF_val h.num
  refine ⟨a1, ?_⟩
  have hp := p2_pos q
  by_cases hz : 0 ≤ z
  · rw [a2 (gr_nonneg h hz), h.val, show ((z.natAbs : Nat) : Int) = z by omega]
  · have hle : fv .f32 x ≤ 0 := by
      rw [h.val]
      have h1 : (z : Rat) ≤ 0 := by
        have := Rat.intCast_le_intCast.2 (show z ≤ 0 by omega)
        exact this
      have := Rat.mul_le_mul_of_nonneg_right h1 (Rat.le_of_lt hp)
      rw [Rat.zero_mul] at this
      exact this
    rw [a3 hle, h.val, show ((z.natAbs : Nat) : Int) = -z by omega, Rat.intCast_neg]; grind

/-- A cost: quarters, -1 where there is none. -/
def Cost (c : Nat) (B : Int) : Prop := ∃ v : Int, Gr (-2) v c ∧ (v = -4 ∨ 0 ≤ v) ∧ v ≤ B
theorem gr_m1 : Gr (-2) (-4) 3212836864 := ⟨by decide +kernel, by decide +kernel⟩
theorem geq_gr {v : Int} {c : Nat} (h : Gr (-2) v c) : fcmp .geq .f32 c 0 = decide (0 ≤ v) := by
  rw [geq_val h.num num0, fv0, h.val, p2m2]
  rw [decide_eq_decide]
  constructor
  · intro h
    by_cases hv : 0 ≤ v
    · exact hv
    · exfalso
      have : (v : Rat) ≤ ((-1 : Int) : Rat) := Rat.intCast_le_intCast.2 (by omega)
      have e : ((-1 : Int) : Rat) = -1 := by decide +kernel
      rw [e] at this
      grind
  · intro h
    have : ((0 : Int) : Rat) ≤ (v : Rat) := Rat.intCast_le_intCast.2 h
    have e : ((0 : Int) : Rat) = 0 := by decide +kernel
    rw [e] at this
    grind
theorem lss_gr {v u : Int} {c d : Nat} (h : Gr (-2) v c) (h' : Gr (-2) u d) : fcmp .lss .f32 c d = decide (v < u) := by
  rw [lss_val h.num h'.num, h.val, h'.val, p2m2, decide_eq_decide]
  constructor
  · intro h
    by_cases hv : v < u
    · exact hv
    · exfalso
      have : (u : Rat) ≤ (v : Rat) := Rat.intCast_le_intCast.2 (by omega)
      grind
  · intro h
    have : ((v + 1 : Int) : Rat) ≤ (u : Rat) := Rat.intCast_le_intCast.2 (by omega)
    rw [Rat.intCast_add] at this
    have e : ((1 : Int) : Rat) = 1 := by decide +kernel
    rw [e] at this
    grind
/-- The way before: if one of the places has a cost, the least one is found. -/
theorem bef_spec {A : Int → Int → Nat} {V : Nat → Int} {i k : Int} (hA : ∀ j, Gr (-2) (V j) (A (cand i k j).1 (cand i k j).2)) : ∀ j, ((befN A i k j).2 = true → ∃ q, q < j ∧ (befN A i k j).1 = cand i k q ∧ 0 ≤ V q ∧ ∀ r, r < j → 0 ≤ V r → V q ≤ V r) ∧ ((befN A i k j).2 = false → ∀ r, r < j → V r < 0)
  | 0 => ⟨fun h => (by cases h), fun _ r hr => (by omega)⟩
  | j + 1 => by
    obtain ⟨ih1, ih2⟩ := bef_spec hA j
    rw [befN_succ]
    unfold befStep
    rw [geq_gr (hA j)]
    by_cases hV : 0 ≤ V j
    · rw [decide_eq_true hV, Bool.true_and]
      cases hf : (befN A i k j).2
      · rw [Bool.not_false, Bool.true_or, if_pos rfl]
        refine ⟨fun _ => ⟨j, by omega, rfl, hV, fun r hr h0 => ?_⟩, fun h => (by cases h)⟩
        by_cases hrj : r = j
        · subst hrj; omega
        · have := ih2 hf r (by omega); omega
      · obtain ⟨q, hq, hb, hq0, hmin⟩ := ih1 hf
        rw [Bool.not_true, Bool.false_or, hb, lss_gr (hA j) (hA q)]
        by_cases hlt : V j < V q
        · rw [decide_eq_true hlt, if_pos rfl]
          refine ⟨fun _ => ⟨j, by omega, rfl, hV, fun r hr h0 => ?_⟩, fun h => (by cases h)⟩
          by_cases hrj : r = j
          · subst hrj; omega
          · have := hmin r (by omega) h0; omega
        · rw [decide_eq_false hlt, if_neg (by decide)]
          refine ⟨fun _ => ⟨q, by omega, hb, hq0, fun r hr h0 => ?_⟩, fun h => (by rw [hf] at h; cases h)⟩
          by_cases hrj : r = j
          · subst hrj; omega
          · exact hmin r (by omega) h0
    · rw [decide_eq_false hV, Bool.false_and, if_neg (by decide)]
      refine ⟨fun h => ?_, fun h r hr => ?_⟩
      · obtain ⟨q, hq, hb, hq0, hmin⟩ := ih1 h
        refine ⟨q, by omega, hb, hq0, fun r hr h0 => ?_⟩
        by_cases hrj : r = j
        · subst hrj; omega
        · exact hmin r (by omega) h0
      · by_cases hrj : r = j
        · subst hrj; omega
        · exact ih2 h r (by omega)

theorem costN_get (xs ys : List Nat) (win : Int) {t' : Nat} : ∀ {t : Nat}, t' < t → (costN xs ys win t).getD t' 0 = entryW (costN xs ys win t') ys.length win xs ys (t' / ys.length) (t' % ys.length)
  | 0, h => by omega
  | t + 1, h => by
    show (costN xs ys win t ++ [entryW (costN xs ys win t) ys.length win xs ys (t / ys.length) (t % ys.length)]).getD t' 0 = _
    by_cases hlt : t' < t
    · rw [List.getD_eq_getElem?_getD, List.getElem?_append_left (by rw [costN_length]; exact hlt), ← List.getD_eq_getElem?_getD]
      exact costN_get xs ys win hlt
    · have : t' = t := by omega
      subst this
      rw [List.getD_eq_getElem?_getD, List.getElem?_append_right (by rw [costN_length]; omega), costN_length]
      simp
/-- What an entry is, where all before are costs. -/
theorem entry_cost {xs ys L : List Nat} {n : Nat} {z y : Nat → Int} (h : Q4 xs n z) (h' : Q4 ys n y) (hn : n ≤ 16) {i k : Nat} (hi : i < n) (hk : k < n) (hL : L.length = i * n + k) (hc : ∀ t, t < i * n + k → Cost (L.getD t 0) (32 * (t + 1))) :
    Cost (entryW L n 4 xs ys i k) (32 * ((i * n + k : Nat) + 1)) ∧
    (i = k → (i = 0 ∨ ∃ v, Gr (-2) v (L.getD ((i - 1) * n + (i - 1)) 0) ∧ 0 ≤ v) → ∃ v, Gr (-2) v (entryW L n 4 xs ys i k) ∧ 0 ≤ v ∧ (z i = y i → (i = 0 ∨ Gr (-2) 0 (L.getD ((i - 1) * n + (i - 1)) 0)) → v = 0)) := by
  have bz := h.bd i
  have hby := h'.bd k
  have hin : i * n ≤ 15 * 16 := Nat.mul_le_mul (by omega) hn
  have gd := abs_gr ((h.gr i hi).sub (h'.gr k hk) (by omega) (by decide) (by decide))
  have hdb : (((z i - y k).natAbs : Nat) : Int) ≤ 32 := by omega
  unfold entryW
  by_cases h0 : 0 < i + k
  · rw [if_pos h0]
    have hcv : ∀ j, ∃ v : Int, Gr (-2) v (atV L n (cand i k j).1 (cand i k j).2) ∧ (v = -4 ∨ 0 ≤ v) ∧ v ≤ 32 * ((i * n + k : Nat) : Int) := by
      intro j
      unfold atV
      by_cases hneg : (cand i k j).1 < 0 ∨ (cand i k j).2 < 0
      · rw [if_pos hneg]; exact ⟨-4, gr_m1, .inl rfl, by omega⟩
      · rw [if_neg hneg]
        have ok := ok_cand (L := L) (w := n) (i := i) (k := k) hL (by omega) hk (by omega) h0 j
        have hlt := ok.lt (by omega) (by omega)
        rw [hL] at hlt
        have hm0 : 0 ≤ (cand i k j).1 * (n : Int) := Int.mul_nonneg (by omega) (by omega)
        obtain ⟨v, v1, v2, v3⟩ := hc ((cand i k j).1 * (n : Int) + (cand i k j).2).toNat (by omega)
        exact ⟨v, v1, v2, by omega⟩
    obtain ⟨V, hV⟩ : ∃ V : Nat → Int, ∀ j, Gr (-2) (V j) (atV L n (cand i k j).1 (cand i k j).2) ∧ (V j = -4 ∨ 0 ≤ V j) ∧ V j ≤ 32 * ((i * n + k : Nat) : Int) := ⟨fun j => (hcv j).choose, fun j => (hcv j).choose_spec⟩
    obtain ⟨b1, b2⟩ := bef_spec (A := atV L n) (V := V) (i := i) (k := k) (fun j => (hV j).1) 3
    have hbv : befV L n i k = befN (atV L n) i k 3 := rfl
    rw [← hbv] at b1 b2
    constructor
    · generalize (if ((k : Int) - i) > ((i : Int) - k) then ((k : Int) - i) else ((i : Int) - k)) = mx
      cases hf : (befV L n i k).2
      · rw [Bool.not_false, Bool.true_or, if_pos rfl]
        exact ⟨-4, gr_m1, .inl rfl, by omega⟩
      · rw [Bool.not_true, Bool.false_or]
        by_cases hmx : 4 < mx
        · rw [decide_eq_true hmx, if_pos rfl]
          exact ⟨-4, gr_m1, .inl rfl, by omega⟩
        · rw [decide_eq_false hmx, if_neg (by decide)]
          obtain ⟨q, hq, hb, hq0, hmin⟩ := b1 hf
          rw [hb]
          have hq3 := (hV q).2.2
          exact ⟨V q + ((z i - y k).natAbs : Nat), (hV q).1.add gd (by omega) (by decide) (by decide), .inr (by omega), by omega⟩
    · intro hik hprev
      subst hik
      have hi0 : ¬ i = 0 := by omega
      have hcd2 : cand (i : Int) (i : Int) 2 = ((i : Int) - 1, (i : Int) - 1) := rfl
      have hat : atV L n (cand i i 2).1 (cand i i 2).2 = L.getD ((i - 1) * n + (i - 1)) 0 := by
        rw [hcd2]
        unfold atV
        rw [if_neg (by dsimp only; omega)]
        congr 1
        have : ((i : Int) - 1) * (n : Int) + ((i : Int) - 1) = (((i - 1) * n + (i - 1) : Nat) : Int) := by
          rw [Int.natCast_add, Int.natCast_mul, show ((i - 1 : Nat) : Int) = (i : Int) - 1 by omega]
        dsimp only
        rw [this, Int.toNat_natCast]
      have hV2 := (hV 2).1
      rw [hat] at hV2
      rcases hprev with hp | ⟨v, hv, hv0⟩
      · exact absurd hp hi0
      · have hVv : V 2 = v := by
          have e1 := hV2.val
          rw [hv.val, p2m2] at e1
          have : (v : Rat) = (V 2 : Rat) := by grind
          have : v = V 2 := by exact_mod_cast this
          exact this.symm
        have hf : (befV L n i i).2 = true := by
          cases hf : (befV L n i i).2
          · have := b2 hf 2 (by decide); omega
          · rfl
        obtain ⟨q, hq, hb, hq0, hmin⟩ := b1 hf
        have hmax : ¬ (4 : Int) < (if ((i : Int) - i) > ((i : Int) - i) then ((i : Int) - i) else ((i : Int) - i)) := by
          rw [if_neg (by omega)]; omega
        rw [hf, decide_eq_false hmax, if_neg (by decide), hb]
        have hm2 := hmin 2 (by decide) (by omega)
        refine ⟨V q + ((z i - y i).natAbs : Nat), (hV q).1.add gd (by have := (hV q).2.2; omega) (by decide) (by decide), by omega, fun hzy hz => ?_⟩
        rcases hz with hz | hz
        · exact absurd hz hi0
        · have e1 := hv.val
          rw [hz.val, p2m2] at e1
          have : ((0 : Int) : Rat) = (v : Rat) := by grind
          have : (0 : Int) = v := by exact_mod_cast this
          omega
  · rw [if_neg h0]
    have hi0 : i = 0 := by omega
    have hk0 : k = 0 := by omega
    refine ⟨⟨_, gd, .inr (by omega), by omega⟩, fun hik _ => ⟨_, gd, by omega, fun hzy _ => ?_⟩⟩
    rw [hi0] at hzy hik ⊢
    rw [← hik]
    omega

def ent (xs ys : List Nat) (t : Nat) : Nat := entryW (costN xs ys 4 t) ys.length 4 xs ys (t / ys.length) (t % ys.length)
theorem ent_cost {xs ys : List Nat} {n : Nat} {z y : Nat → Int} (h : Q4 xs n z) (h' : Q4 ys n y) (h1 : 1 ≤ n) (hn : n ≤ 16) : ∀ (N t : Nat), t < N → t < n * n → Cost (ent xs ys t) (32 * (t + 1))
  | 0, t, h, _ => by omega
  | N + 1, t, _, ht => by
    have hlt : t / n < n := Nat.div_lt_of_lt_mul ht
    have hmt : t % n < n := Nat.mod_lt _ (by omega)
    have hdm : t / n * n + t % n = t := by rw [Nat.mul_comm]; exact Nat.div_add_mod t n
    have hx := (entry_cost h h' hn (L := costN xs ys 4 t) hlt hmt (by rw [costN_length, hdm]) (fun t' ht' => by
      rw [hdm] at ht'
      rw [costN_get xs ys 4 ht']
      exact ent_cost h h' h1 hn N t' (by omega) (by omega))).1
    rw [hdm] at hx
    unfold ent
    rw [h'.len]
    exact hx
theorem ent_diag {xs ys : List Nat} {n : Nat} {z y : Nat → Int} (h : Q4 xs n z) (h' : Q4 ys n y) (h1 : 1 ≤ n) (hn : n ≤ 16) : ∀ i, i < n → ∃ v, Gr (-2) v (ent xs ys (i * n + i)) ∧ 0 ≤ v ∧ ((∀ j, z j = y j) → v = 0)
  | 0, hi => by
    obtain ⟨v, a, b, c⟩ := (entry_cost h h' hn (L := costN xs ys 4 0) (i := 0) (k := 0) hi hi (by rw [costN_length]; omega) (fun t ht => by omega)).2 rfl (.inl rfl)
    refine ⟨v, ?_, b, fun hz => c (hz 0) (.inl rfl)⟩
    unfold ent
    rw [h'.len, Nat.zero_mul, Nat.zero_add, Nat.zero_div, Nat.zero_mod]
    exact a
  | i + 1, hi => by
    obtain ⟨v0, a0, b0, c0⟩ := ent_diag h h' h1 hn i (by omega)
    have hlt : i * n + i < (i + 1) * n + (i + 1) := by rw [Nat.add_mul, Nat.one_mul]; omega
    have hget : (costN xs ys 4 ((i + 1) * n + (i + 1))).getD ((i + 1 - 1) * n + (i + 1 - 1)) 0 = ent xs ys (i * n + i) := by
      rw [show i + 1 - 1 = i by omega, costN_get xs ys 4 hlt]; rfl
    have hd1 : ((i + 1) * n + (i + 1)) / n = i + 1 := by
      rw [Nat.mul_comm, Nat.mul_add_div (by omega), Nat.div_eq_of_lt hi, Nat.add_zero]
    have hd2 : ((i + 1) * n + (i + 1)) % n = i + 1 := by
      rw [Nat.mul_comm, Nat.mul_add_mod, Nat.mod_eq_of_lt hi]
    have hnn : (i + 1) * n + (i + 1) < n * n := by
      have : (i + 2) * n ≤ n * n := Nat.mul_le_mul_right n (by omega)
      have e : (i + 2) * n = (i + 1) * n + n := by rw [show i + 2 = i + 1 + 1 by omega, Nat.add_mul, Nat.one_mul]
      omega
    obtain ⟨v, a, b, c⟩ := (entry_cost h h' hn (L := costN xs ys 4 ((i + 1) * n + (i + 1))) (i := i + 1) (k := i + 1) hi hi (by rw [costN_length]) (fun t ht => by
      rw [costN_get xs ys 4 ht]
      exact ent_cost h h' h1 hn (t + 1) t (by omega) (by omega))).2 rfl (.inr ⟨v0, by rw [hget]; exact a0, b0⟩)
    refine ⟨v, ?_, b, fun hz => c (hz _) (.inr ?_)⟩
    · unfold ent
      rw [h'.len, hd1, hd2]
      exact a
    · rw [hget]
      have := c0 hz
      rw [this] at a0
      exact a0
theorem costL_get {xs ys : List Nat} {n t : Nat} (h : xs.length = n) (h' : ys.length = n) (ht : t < n * n) : (costL xs ys 4).getD t 0 = ent xs ys t := by
  unfold costL
  rw [h, h', costN_get xs ys 4 ht]; unfold ent; rw [h']
theorem warp_val {xs ys : List Nat} {n : Nat} {z y : Nat → Int} (h : Q4 xs n z) (h' : Q4 ys n y) (h1 : 1 ≤ n) (hn : n ≤ 16) : warpOk xs ys 4 = true ∧ isNum .f32 (lastC xs ys 4) = true ∧ 0 ≤ fv .f32 (lastC xs ys 4) ∧ ((∀ j, z j = y j) → fv .f32 (lastC xs ys 4) = 0) := by
  have hlast : lastC xs ys 4 = ent xs ys ((n - 1) * n + (n - 1)) := by
    unfold lastC
    rw [h.len, h'.len]
    have e : n * n - 1 = (n - 1) * n + (n - 1) := by
      have : n * n = (n - 1) * n + n := by
        have : n * n = (n - 1 + 1) * n := by rw [show n - 1 + 1 = n by omega]
        rw [this, Nat.add_mul, Nat.one_mul]
      omega
    rw [e]
    refine costL_get h.len h'.len ?_
    have : 1 ≤ n * n := Nat.mul_pos h1 h1
    omega
  obtain ⟨v, a, b, c⟩ := ent_diag h h' h1 hn (n - 1) (by omega)
  rw [← hlast] at a
  have hall : allFin (costL xs ys 4) = true := by
    unfold allFin
    rw [List.all_eq_true]
    intro x hx
    obtain ⟨t, ht, rfl⟩ := List.getElem_of_mem hx
    have ht' : t < n * n := by rw [costL_length, h.len, h'.len] at ht; exact ht
    obtain ⟨v, hv, _⟩ := ent_cost h h' h1 hn (t + 1) t (by omega) ht'
    rw [← costL_get h.len h'.len ht', getD_of ht] at hv
    exact isFin_num hv.num
  have hl0 : fcmp .lss .f32 (lastC xs ys 4) 0 = false := by
    rw [lss_val a.num num0, fv0]
    have := gr_nonneg a b
    have hn' : ¬ fv .f32 (lastC xs ys 4) < 0 := by grind
    simp [hn']
  refine ⟨?_, a.num, gr_nonneg a b, fun hz => ?_⟩
  · unfold warpOk costsOk
    rw [h.series h1 (by omega), h'.series h1 (by omega), hall, hl0]; rfl
  · rw [a.val, c hz]; simp

end Go.Proofs.Ytnhhdgopgecggaa.Abs
