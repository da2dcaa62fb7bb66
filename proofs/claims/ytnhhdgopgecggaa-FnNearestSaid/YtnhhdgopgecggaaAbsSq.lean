/- The square root of a float: what it is in the abstract machine, and how near it is to the exact one. No condition. -/
import Derived.Test.YtnhhdgopgecggaaAbsFg
set_option linter.unusedVariables false
set_option linter.unusedSimpArgs false
namespace Go.Proofs.Ytnhhdgopgecggaa.Abs
open Go Ieee

def fsqrt (x : Nat) : Nat := (FloatKind.f64.format.sqrt x).getD (nanOf .f64)
def gSqrt (args : List Value) (H : AHeap) : Option (Value × AHeap) :=
  match args with
  | [.float .f64 x] => some (.float .f64 (fsqrt x), H)
  | _ => none
theorem gSqrt_eq (x : Nat) (H : AHeap) : gSqrt [.float .f64 x] H = some (.float .f64 (fsqrt x), H) := rfl
theorem root_not_nan {n : Nat} {a d : Datum} (h : a.root n = some d) : d.isNaN = false := by
  cases a with
  | nan s t => simp [Datum.root] at h
  | infinity s =>
    simp only [Datum.root] at h
    split at h
    · cases h
    · cases h; rfl
  | number s m i =>
    simp only [Datum.root] at h
    split at h
    · cases h; rfl
    · split at h
      · cases h
      · cases h; rfl
theorem sqrt_canon (x : Nat) : FloatKind.f64.format.sqrt (canon .f64 x) = FloatKind.f64.format.sqrt x := by
  cases h : nanB .f64 x with
  | false => rw [canon_not h]
  | true =>
    have key : ∀ y, nanB .f64 y = true → FloatKind.f64.format.sqrt y = none := by
      intro y hy
      obtain ⟨s, t, e⟩ := nan_form hy
      have e' : FloatKind.f64.format.read y = .nan s t := e
      unfold Format.sqrt
      rw [e']; rfl
    rw [key _ h, key _ (by rw [nanB_canon]; exact h)]
theorem sqrt_sound {P : Program} {μ : Ren} {args : List Value} {H H' : AHeap} {r : Value} {cargs : List Value} {w : World} (h : gSqrt args H = some (r, H')) (rel : Rel μ H w) (ha : VRL μ args cargs) :
    ∃ v w', (Extern.MathSqrt.sqrt cargs.toArray).run P w = .ok v w' ∧ Out μ H w r H' v w' := by
  unfold gSqrt at h
  split at h
  case h_2 => cases h
  rename_i x
  cases h
  cases ha with
  | cons h1 h2 =>
    cases h2
    obtain ⟨y, rfl, hy⟩ := h1.float_inv
    subst hy
    unfold fsqrt
    rw [sqrt_canon]
    have e : Extern.MathSqrt.sqrt #[.float .f64 y] = (match FloatKind.f64.format.sqrt y with
      | some r => pure (.float .f64 r)
      | none => do pure (.float .f64 (← choose (.nanBits .f64 y y)))) := rfl
    cases hs : FloatKind.f64.format.sqrt y with
    | some r =>
      have hn : nanB .f64 r = false := by
        simp only [Format.sqrt, Option.map_eq_some_iff] at hs
        obtain ⟨d, h1, rfl⟩ := hs
        exact write_not_nan .f64 d (root_not_nan h1)
      refine ⟨.float .f64 r, w, ?_, ?_⟩
      · show (Extern.MathSqrt.sqrt #[.float .f64 y]).run P w = _
        rw [e, hs]; rfl
      · have := VR.float (μ := μ) .f64 r
        rw [canon_not hn] at this
        exact out_same rel this
    | none =>
      obtain ⟨r, hr, hn⟩ := run_nanBits (P := P) w .f64 y y
      refine ⟨.float .f64 r, { w with drawn := w.drawn + 1 }, ?_, ?_⟩
      · show (Extern.MathSqrt.sqrt #[.float .f64 y]).run P w = _
        rw [e, hs]
        simp only [Sem.run_bind, hr, Result.andThen_ok, Sem.run_pure]
      · have hv := VR.float (μ := μ) .f64 r
        rw [canon_nan hn] at hv
        exact ⟨μ, rel.drawn _, Keep.drawn rel _, hv⟩

/-! ### How near it is -/
theorem rootFrom_spec (n : Nat) : ∀ (todo root : Nat), root * root ≤ n → n < (root + 2 ^ todo) * (root + 2 ^ todo) → 2 ^ todo ∣ root → Datum.rootFrom n todo root * Datum.rootFrom n todo root ≤ n ∧ n < (Datum.rootFrom n todo root + 1) * (Datum.rootFrom n todo root + 1)
  | 0, root, h1, h2, _ => by simpa [Datum.rootFrom] using ⟨h1, h2⟩
  | todo + 1, root, h1, h2, h3 => by
    unfold Datum.rootFrom
    have e : root + 1 <<< todo = root + 2 ^ todo := by rw [Nat.one_shiftLeft]
    simp only [e]
    have e2 : root + 2 ^ (todo + 1) = root + 2 ^ todo + 2 ^ todo := by rw [Nat.pow_succ]; omega
    rw [e2] at h2
    have d : 2 ^ todo ∣ root := Nat.dvd_trans (by rw [Nat.pow_succ]; exact Nat.dvd_mul_right ..) h3
    split
    · rename_i h
      exact rootFrom_spec n todo _ h h2 (Nat.dvd_add d (Nat.dvd_refl _))
    · rename_i h
      exact rootFrom_spec n todo _ h1 (by omega) d
theorem root_spec (n : Nat) : Datum.rootFrom n (n.log2 / 2 + 1) 0 * Datum.rootFrom n (n.log2 / 2 + 1) 0 ≤ n ∧ n < (Datum.rootFrom n (n.log2 / 2 + 1) 0 + 1) * (Datum.rootFrom n (n.log2 / 2 + 1) 0 + 1) := by
  refine rootFrom_spec n _ 0 (by simp) ?_ (Nat.dvd_zero _)
  rw [Nat.zero_add, ← Nat.pow_add]
  have h : n < 2 ^ (n.log2 + 1) := Nat.lt_log2_self
  exact Nat.lt_of_lt_of_le h (Nat.pow_le_pow_right (by omega) (by omega))

/-- The root of a number that is not negative. -/
theorem rnd_sqrt {x : Nat} (hx : isNum .f64 x = true) (h0 : 0 ≤ fv .f64 x) (h1 : fv .f64 x ≤ p2 300) :
    isNum .f64 (fsqrt x) = true ∧ 0 ≤ fv .f64 (fsqrt x) ∧ (fv .f64 x = 0 → fv .f64 (fsqrt x) = 0) ∧ ∃ V u : Rat, 0 ≤ u ∧ 0 ≤ V ∧ u * p2 50 ≤ V ∧ (V - u) * (V - u) ≤ fv .f64 x ∧ fv .f64 x ≤ (V + u) * (V + u) ∧ Rnd .f64 V (fsqrt x) := by
  obtain ⟨s, m, i, hd, hv⟩ := isNum_iff hx
  have hd' : FloatKind.f64.format.read x = .number s m i := hd
  by_cases hm : m = 0
  · subst hm
    have e : fsqrt x = FloatKind.f64.encode (.number s 0 i) := by
      unfold fsqrt Format.sqrt
      rw [hd']; rfl
    have hv0 : fv .f64 x = 0 := by rw [hv]; simp
    have r : Rnd .f64 0 (fsqrt x) := by
      rw [e]
      exact enc_sgn (by simp) (p2_pos _) (by rw [show -(0 : Rat) = 0 by decide]; exact p2_pos _)
    have hr0 : fv .f64 (fsqrt x) = 0 := r.exact 0 0 (.inl (by simp)) (by decide) (by decide)
    exact ⟨r.num, by rw [hr0]; exact Rat.le_refl, fun _ => hr0, 0, 0, Rat.le_refl, Rat.le_refl, by rw [Rat.zero_mul]; exact Rat.le_refl, by rw [hv0]; decide +kernel, by rw [hv0]; decide +kernel, r⟩
  · have hs : s = false := by
      cases s
      · rfl
      · exfalso
        rw [hv] at h0
        have : 0 < (m : Rat) * p2 i := Rat.mul_pos (by exact_mod_cast Nat.pos_of_ne_zero hm) (p2_pos i)
        simp only [sg, if_true] at h0
        grind
    subst hs
    obtain ⟨more, hmore⟩ : ∃ more : Nat, more = (2 * 54 - m.log2) + ((i - ((2 * 54 - m.log2 : Nat) : Int)) % 2).toNat := ⟨_, rfl⟩
    have e : fsqrt x = FloatKind.f64.encode (.number false (2 * Datum.rootFrom (m <<< more) ((m <<< more).log2 / 2 + 1) 0 + (Datum.rootFrom (m <<< more) ((m <<< more).log2 / 2 + 1) 0 * Datum.rootFrom (m <<< more) ((m <<< more).log2 / 2 + 1) 0 != m <<< more).toNat) ((i - (more : Int)) / 2 - 1)) := by
      subst hmore
      unfold fsqrt Format.sqrt
      rw [hd']
      unfold Datum.root
      dsimp only
      rw [if_neg hm, if_neg (by decide)]
      rfl
    have heven : ∃ k : Int, i - (more : Int) = 2 * k := by
      refine ⟨(i - (more : Int)) / 2, ?_⟩
      omega
    obtain ⟨k, hk⟩ := heven
    have hk2 : (i - (more : Int)) / 2 = k := by omega
    rw [hk2] at e
    obtain ⟨s1, s2⟩ := root_spec (m <<< more)
    have hn0 : 2 ^ 108 ≤ m <<< more := by
      rw [Nat.shiftLeft_eq]
      have hle : 2 ^ m.log2 ≤ m := Nat.log2_self_le hm
      calc 2 ^ 108 ≤ 2 ^ (m.log2 + more) := Nat.pow_le_pow_right (by omega) (by omega)
        _ = 2 ^ m.log2 * 2 ^ more := Nat.pow_add ..
        _ ≤ _ := Nat.mul_le_mul_right _ hle
    have hxv : fv .f64 x = ((m <<< more : Nat) : Rat) * (p2 k * p2 k) := by
      rw [hv, Nat.shiftLeft_eq, Rat.natCast_mul, ← p2_nat, ← p2_add, show k + k = i - (more : Int) by omega]
      have : p2 i = p2 (more : Int) * p2 (i - (more : Int)) := by rw [← p2_add]; congr 1; omega
      rw [this]
      simp only [sg, Bool.false_eq_true, if_false]
      grind
    generalize hn : m <<< more = n at *
    generalize hq : Datum.rootFrom n (n.log2 / 2 + 1) 0 = q at *
    have hq54 : 2 ^ 54 ≤ q := by
      by_cases hlt : 2 ^ 54 ≤ q
      · exact hlt
      · exfalso
        have h3 : q + 1 ≤ 2 ^ 54 := by omega
        have h4 : (q + 1) * (q + 1) ≤ 2 ^ 54 * 2 ^ 54 := Nat.mul_le_mul h3 h3
        rw [← Nat.pow_add] at h4
        omega
    have hkp := p2_pos k
    have hhalf : p2 (k - 1) * 2 = p2 k := by
      have := p2_succ (k - 1)
      rw [show k - 1 + 1 = k by omega] at this
      rw [this, Rat.mul_comm]
    have hbit : ∃ b : Nat, (q * q != n).toNat = b ∧ b ≤ 1 := ⟨_, rfl, by cases (q * q != n) <;> simp⟩
    obtain ⟨b, hb, hb1⟩ := hbit
    rw [hb] at e
    have hV : ((2 * q + b : Nat) : Rat) * p2 (k - 1) = (q : Rat) * p2 k + (b : Rat) * p2 (k - 1) := by
      rw [← hhalf, Rat.natCast_add, Rat.natCast_mul, Rat.natCast_ofNat]; grind
    have hbR : (b : Rat) = 0 ∨ (b : Rat) = 1 := by
      have : b = 0 ∨ b = 1 := by omega
      rcases this with h | h <;> subst h
      · left; rfl
      · right; rfl
    have hb0 : 0 ≤ (b : Rat) * p2 (k - 1) := Rat.mul_nonneg (by rcases hbR with h | h <;> rw [h] <;> decide) (Rat.le_of_lt (p2_pos _))
    have hb2 : (b : Rat) * p2 (k - 1) ≤ p2 k := by
      rcases hbR with h | h <;> rw [h]
      · grind
      · have := p2_pos (k - 1); grind
    have hqR : (p2 54 : Rat) ≤ (q : Rat) := by
      have := Rat.natCast_le_natCast.2 hq54
      rw [show p2 54 = ((2 ^ 54 : Nat) : Rat) from p2_nat 54]
      exact this
    have s1R := Rat.natCast_le_natCast.2 s1
    have s2R := Rat.natCast_lt_natCast.2 s2
    rw [Rat.natCast_mul] at s1R
    rw [Rat.natCast_mul, Rat.natCast_add] at s2R
    have hkk : 0 < p2 k * p2 k := Rat.mul_pos hkp hkp
    have t1 := Rat.mul_le_mul_of_nonneg_right s1R (Rat.le_of_lt hkk)
    have t2 := Rat.mul_lt_mul_of_pos_right s2R hkk
    rw [← hxv] at t1 t2
    have hqk : p2 54 * p2 k ≤ (q : Rat) * p2 k := Rat.mul_le_mul_of_nonneg_right hqR (Rat.le_of_lt hkp)
    have h54 : p2 54 = 16 * p2 50 := by decide +kernel
    have h50 := p2_pos 50
    have h50b : (16 : Rat) ≤ p2 50 := by decide +kernel
    have h50k : 16 * p2 k ≤ p2 50 * p2 k := Rat.mul_le_mul_of_nonneg_right h50b (Rat.le_of_lt hkp)
    rw [h54, Rat.mul_assoc] at hqk
    have one : ((1 : Nat) : Rat) = 1 := rfl
    rw [one] at t2
    generalize hA : (q : Rat) * p2 k = A at *
    generalize hB : (b : Rat) * p2 (k - 1) = B at *
    have t1' : A * A ≤ fv .f64 x := by rw [← hA]; grind
    have t2' : fv .f64 x ≤ (A + p2 k) * (A + p2 k) := by rw [← hA]; grind
    have hA300 : A < p2 151 := by
      by_cases hh : A < p2 151
      · exact hh
      · exfalso
        have h5 : p2 151 ≤ A := by grind
        have h6 : p2 151 * p2 151 ≤ A * A := by
          have a1 := Rat.mul_le_mul_of_nonneg_right h5 (Rat.le_of_lt (p2_pos 151))
          have a2 := Rat.mul_le_mul_of_nonneg_left h5 (show 0 ≤ A by have := p2_pos 151; grind)
          grind
        rw [← p2_add] at h6
        have h7 := p2_mono (show (301 : Int) ≤ 151 + 151 by decide)
        have h8 := p2_succ 300
        have h9 := p2_pos 300
        rw [show (300 : Int) + 1 = 301 by decide] at h8
        grind
    have htop : A + B < p2 (top .f64) := by
      have a1 := p2_mono (show (153 : Int) ≤ top .f64 by decide)
      have a2 := p2_succ 151
      have a3 := p2_succ 152
      rw [show (151 : Int) + 1 = 152 by decide] at a2
      rw [show (152 : Int) + 1 = 153 by decide] at a3
      have a4 := p2_pos 151
      grind
    have r : Rnd .f64 (A + B) (fsqrt x) := by
      rw [e]
      refine enc_sgn (by simp only [sg, Bool.false_eq_true, if_false, Rat.one_mul]; exact hV) htop ?_
      have := p2_pos (top .f64)
      grind
    refine ⟨r.num, ?_, ?_, A + B, p2 k, Rat.le_of_lt hkp, by grind, by grind, ?_, ?_, r⟩
    · have hrel := r.rel (A + B) (by grind) (by grind)
      have q1 : p2 (-(fb .f64 : Int)) ≤ 1 / 1024 := by decide +kernel
      have q2 : 0 ≤ A + B := by grind
      have q3 := Rat.mul_le_mul_of_nonneg_left q1 q2
      have hx0 : 0 < fv .f64 x := by
        rw [hv]
        simp only [sg, Bool.false_eq_true, if_false, Rat.one_mul]
        exact Rat.mul_pos (by exact_mod_cast Nat.pos_of_ne_zero hm) (p2_pos i)
      have hl : p2 (lp .f64) ≤ p2 k := by
        obtain ⟨s', m', i', hd2, _, hm3, hi4, _⟩ := isNum_lt hx
        rw [hd] at hd2
        cases hd2
        refine p2_mono ?_
        have hlog : m.log2 < 53 := (Nat.log2_lt hm).2 hm3
        simp only [lp] at hi4 ⊢
        omega
      grind
    · intro h
      exfalso
      rw [hv] at h
      simp only [sg, Bool.false_eq_true, if_false, Rat.one_mul] at h
      have : 0 < (m : Rat) * p2 i := Rat.mul_pos (by exact_mod_cast Nat.pos_of_ne_zero hm) (p2_pos i)
      grind
    · have h5 : 0 ≤ A + B - p2 k := by grind
      have h6 : A + B - p2 k ≤ A := by grind
      have a1 := Rat.mul_le_mul_of_nonneg_right h6 h5
      have a2 := Rat.mul_le_mul_of_nonneg_left h6 (show 0 ≤ A by grind)
      grind
    · have h6 : A + p2 k ≤ A + B + p2 k := by grind
      have a1 := Rat.mul_le_mul_of_nonneg_right h6 (show 0 ≤ A + p2 k by grind)
      have a2 := Rat.mul_le_mul_of_nonneg_left h6 (show 0 ≤ A + B + p2 k by grind)
      grind

end Go.Proofs.Ytnhhdgopgecggaa.Abs
