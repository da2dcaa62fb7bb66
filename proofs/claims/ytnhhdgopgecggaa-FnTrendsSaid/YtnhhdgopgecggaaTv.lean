/- The numbers of FnTrends are good, whatever is drawn. No condition. -/
import Derived.Test.YtnhhdgopgecggaaAbsFg
import Derived.Test.YtnhhdgopgecggaaTz
import Derived.Test.YtnhhdgopgecggaaTx0
import Derived.Test.YtnhhdgopgecggaaTx1
import Derived.Test.YtnhhdgopgecggaaTx2
import Derived.Test.YtnhhdgopgecggaaTx3
import Derived.Test.YtnhhdgopgecggaaFl
set_option linter.unusedVariables false
set_option linter.unusedSimpArgs false
namespace Go.Proofs.Ytnhhdgopgecggaa.Abs
open Go Ieee

theorem sameI_num {a : Nat} (h : isNum .f32 a = true) : sameI a a = true := by
  unfold sameI
  rw [neq_val h h, eql_val h h]; simp
theorem sameS_refl (a : Nat) : sameS a a = true := by unfold sameS; simp
theorem eqBy_refl {q : Nat → Nat → Bool} : ∀ (l : List Nat), (∀ x ∈ l, q x x = true) → eqBy q l l = true
  | [], _ => rfl
  | x :: l, h => by
    show (q x x && eqBy q l l) = true
    rw [h x (by simp), eqBy_refl l (fun y hy => h y (by simp [hy]))]; rfl

/-- A trend whose numbers are sixteenths. -/
structure GT (t : Tr) (L S A B C N D U : Int) : Prop where
  l : Gr (-4) L t.l
  s : Gr (-4) S t.s
  a : Gr (-4) A t.a
  b : Gr (-4) B t.b
  c : Gr (-4) C t.c
  n : Gr (-4) N t.n
  d : Gr (-4) D t.d
  u : Gr (-4) U t.u
theorem gr_nonneg {q n : Int} {w : Nat} (h : Gr q n w) (hn : 0 ≤ n) : 0 ≤ fv .f32 w := by
  rw [h.val]
  exact Rat.mul_nonneg (by exact_mod_cast hn) (Rat.le_of_lt (p2_pos q))
theorem gr_pos {q n : Int} {w : Nat} (h : Gr q n w) (hn : 0 < n) : 0 < fv .f32 w := by
  rw [h.val]
  exact Rat.mul_pos (by exact_mod_cast hn) (p2_pos q)
theorem GT.ok {t : Tr} {L S A B C N D U : Int} (h : GT t L S A B C N D U) (hA : 0 ≤ A) (hC : 0 ≤ C) (hN : 0 < N) (hD : 0 ≤ D) (hU : 0 ≤ U) : t.ok = true :=
  okTr_num h.l.num h.s.num h.a.num h.b.num h.c.num h.n.num h.d.num h.u.num (gr_nonneg h.a hA) (gr_nonneg h.c hC) (gr_pos h.n hN) (gr_nonneg h.d hD) (gr_nonneg h.u hU)
theorem GT.same {t : Tr} {L S A B C N D U : Int} (h : GT t L S A B C N D U) : sameTr t.l t.s t.a t.b t.c t.n t.d t.u t.l t.s t.a t.b t.c t.n t.d t.u = true := by
  refine eqBy_refl _ ?_
  intro x hx
  simp only [List.mem_cons, List.not_mem_nil, or_false] at hx
  rcases hx with rfl | rfl | rfl | rfl | rfl | rfl | rfl | rfl
  · exact sameI_num h.l.num
  · exact sameI_num h.s.num
  · exact sameI_num h.a.num
  · exact sameI_num h.b.num
  · exact sameI_num h.c.num
  · exact sameI_num h.n.num
  · exact sameI_num h.d.num
  · exact sameI_num h.u.num

/-- One blind step. -/
theorem GT.a1 {t : Tr} {L S A B C N D U : Int} (h : GT t L S A B C N D U) (hA : A.natAbs < 2 ^ 20) (hB : B.natAbs < 2 ^ 20) (hC : C.natAbs < 2 ^ 20) (hD : D.natAbs < 2 ^ 20) : Gr (-4) ((A + B) + (B + C) + D) t.a1 ∧ Gr (-4) (B + C) t.b1 := by
  have e1 := h.a.add h.b (by omega) (by decide) (by decide)
  have e2 := h.b.add h.c (by omega) (by decide) (by decide)
  exact ⟨(e1.add e2 (by omega) (by decide) (by decide)).add h.d (by omega) (by decide) (by decide), e2⟩
theorem GT.blind {t : Tr} {L S A B C N D U : Int} (h : GT t L S A B C N D U) (x : Nat) (hA : A.natAbs < 2 ^ 20) (hB : B.natAbs < 2 ^ 20) (hC : C.natAbs < 2 ^ 20) (hD : D.natAbs < 2 ^ 20) (hU : U.natAbs < 2 ^ 20) (hL : L.natAbs < 2 ^ 20) (hS : S.natAbs < 2 ^ 20) :
    GT (t.nx x false) (L + S) S ((A + B) + (B + C) + D) (B + C) (C + U) N D U := by
  have e := h.a1 hA hB hC hD
  exact ⟨h.l.add h.s (by omega) (by decide) (by decide), h.s, e.1, e.2, h.c.add h.u (by omega) (by decide) (by decide), h.n, h.d, h.u⟩

/-- Blind runs. -/
theorem blind_run : ∀ (k : Nat) (t : Tr) (i : Int) (L S A B C N D U : Int), GT t L S A B C N D U → 0 ≤ i → i + k ≤ 8 → 4 ≤ A → A ≤ 72 + 1500 * i → -2 ≤ B → B ≤ 2 + 60 * i → 4 ≤ C → C ≤ 20 + 4 * i → 0 < N → 0 ≤ D → D ≤ 8 → 0 ≤ U → U ≤ 4 → -16 ≤ S → S ≤ 16 → -(32 + 16 * i) ≤ L → L ≤ 32 + 16 * i →
    ∃ t1 ex1, runT t (List.replicate k 0) (List.replicate k false) = some (t1, ex1) ∧ (∃ L' A' B' C', GT t1 L' S A' B' C' N D U) ∧ ex1.length = k ∧ ∀ (j : Nat) y, ex1[j]? = some y → Gr (-4) (L + (j + 1) * S) y
  | 0, t, i, L, S, A, B, C, N, D, U, h, _, _, _, _, _, _, _, _, _, _, _, _, _, _, _, _, _ => ⟨t, [], rfl, ⟨_, _, _, _, h⟩, rfl, fun j y hj => by simp at hj⟩
  | k + 1, t, i, L, S, A, B, C, N, D, U, h, h0, h8, a1, a2, b1, b2, c1, c2, n1, d1, d2, u1, u2, s1, s2, l1, l2 => by
    have hb := h.blind 0 (by omega) (by omega) (by omega) (by omega) (by omega) (by omega) (by omega)
    have hx : Gr (-4) (L + S) t.ex := h.l.add h.s (by omega) (by decide) (by decide)
    have ho : okStep t 0 false = true := by
      unfold okStep
      rw [h.ok (by omega) (by omega) n1 d1 u1, isFin_num num0, hb.ok (by omega) (by omega) n1 d1 u1, isFin_num hx.num]; rfl
    obtain ⟨t1, ex1, r1, r2, r3, r4⟩ := blind_run k (t.nx 0 false) (i + 1) _ _ _ _ _ _ _ _ hb (by omega) (by omega) (by omega) (by omega) (by omega) (by omega) (by omega) (by omega) n1 d1 d2 u1 u2 s1 s2 (by omega) (by omega)
    refine ⟨t1, t.ex :: ex1, ?_, r2, by simp [r3], ?_⟩
    · rw [List.replicate_succ, List.replicate_succ]
      unfold runT
      rw [if_pos ho, r1]; rfl
    · intro j y hj
      cases j with
      | zero =>
        simp only [List.getElem?_cons_zero, Option.some.injEq] at hj
        subst hj
        have : L + ((0 : Nat) + 1) * S = L + S := by simp
        rw [this]; exact hx
      | succ j =>
        simp only [List.getElem?_cons_succ] at hj
        have := r4 j y hj
        have e : L + S + ((j : Int) + 1) * S = L + (((j + 1 : Nat) : Int) + 1) * S := by
          have : (((j + 1 : Nat) : Int) + 1) * S = ((j : Int) + 1) * S + S := by
            rw [show (((j + 1 : Nat) : Int) + 1) = ((j : Int) + 1) + 1 by omega, Int.add_mul, Int.one_mul]
          omega
        rwa [e] at this

/-- What is told ahead. -/
theorem ahead_gr {t : Tr} {L S A B C N D U : Int} (h : GT t L S A B C N D U) (k : Nat) (hk : k < 8) (s1 : -16 ≤ S) (s2 : S ≤ 16) (l1 : -32 ≤ L) (l2 : L ≤ 32) : Gr (-4) (L + (k + 1) * S) (aheadX t k) := by
  have hi : Gr 0 ((k : Int) + 1) (i32f ((k : Int) + 1)) := gr_int (by omega)
  have hb : -128 ≤ ((k : Int) + 1) * S ∧ ((k : Int) + 1) * S ≤ 128 := by
    have : k = 0 ∨ k = 1 ∨ k = 2 ∨ k = 3 ∨ k = 4 ∨ k = 5 ∨ k = 6 ∨ k = 7 := by omega
    rcases this with h | h | h | h | h | h | h | h <;> subst h <;> constructor <;> omega
  have hm := hi.mul h.s (by omega) (by decide) (by decide)
  exact h.l.add hm (by omega) (by decide) (by decide)

theorem gap_same {x y : Nat} {n : Int} (hx : Gr (-4) n x) (hy : Gr (-4) n y) : fcmp .gtr .f64 (gapF (w64 x) (w64 y)) 4562254508917369340 = false := by
  have vx := w64_val hx.num
  have vy := w64_val hy.num
  obtain ⟨g, e, g1, g2, g3⟩ := gap_val (d := 0) vx.1 vy.1 (by rw [vx.2, vy.2, hx.val, hy.val]; grind) (by rw [vx.2, vy.2, hx.val, hy.val]; grind) (by decide)
  unfold gapF
  rw [e]
  have c1 : isNum .f64 4562254508917369340 = true := by decide +kernel
  have c2 : 1 / 10000 ≤ fv .f64 4562254508917369340 := by decide +kernel
  rw [gtr_val g1 c1]
  have : ¬ fv .f64 4562254508917369340 < fv .f64 g := by grind
  simp [this]

/-! ### A step that is seen -/
theorem pos_num {x : Nat} (h : isNum .f32 x = true) : isNum .f32 (pos x) = true ∧ 0 ≤ fv .f32 (pos x) := by
  unfold pos
  rw [lss_val h num0, fv0]
  by_cases hh : fv .f32 x < 0
  · rw [decide_eq_true hh, if_pos rfl]; exact ⟨num0, by rw [fv0]; exact Rat.le_refl⟩
  · rw [decide_eq_false hh, if_neg (by decide)]; exact ⟨h, by grind⟩
theorem quo01 {a f : Rat} (h0 : 0 ≤ a) (h1 : a ≤ f) (hf : 0 < f) : 0 ≤ a / f ∧ a / f ≤ 1 := by
  have e : a / f * f = a := Rat.div_mul_cancel (by grind)
  constructor
  · rw [Rat.div_def]; exact Rat.mul_nonneg h0 (Rat.le_of_lt (Rat.inv_pos.2 hf))
  · refine Rat.le_of_mul_le_mul_right ?_ hf
    rw [e]; grind
theorem seen_num {t : Tr} (hl : isNum .f32 t.l = true) (hs : isNum .f32 t.s = true) (ha : isNum .f32 t.a1 = true) (hb : isNum .f32 t.b1 = true) (hc : isNum .f32 t.c1 = true) (hn : isNum .f32 t.n = true) (x : Nat) (hx : isNum .f32 x = true)
    (l1 : -4 ≤ fv .f32 t.l) (l2 : fv .f32 t.l ≤ 4) (s1 : -4 ≤ fv .f32 t.s) (s2 : fv .f32 t.s ≤ 4) (b1 : 0 ≤ fv .f32 t.b1) (b2 : fv .f32 t.b1 ≤ fv .f32 t.a1) (a2 : fv .f32 t.a1 ≤ 10) (c1 : -10 ≤ fv .f32 t.c1) (c2 : fv .f32 t.c1 ≤ 10) (n1 : 1 / 8 ≤ fv .f32 t.n) (n2 : fv .f32 t.n ≤ 4) (x1 : -4 ≤ fv .f32 x) (x2 : fv .f32 x ≤ 4) :
    isNum .f32 t.ex = true ∧ isNum .f32 (t.nx x true).l = true ∧ isNum .f32 (t.nx x true).s = true ∧ (isNum .f32 (t.nx x true).a = true ∧ 0 ≤ fv .f32 (t.nx x true).a) ∧ isNum .f32 (t.nx x true).b = true ∧ (isNum .f32 (t.nx x true).c = true ∧ 0 ≤ fv .f32 (t.nx x true).c) := by
  have r1 := rnd_add hl hs (lt127 (by grind)) (lt127 (by grind))
  have e1 := small r1 rfl (by grind) (by grind)
  have rf := rnd_add ha hn (lt127 (by grind)) (lt127 (by grind))
  have ef := small rf rfl (by grind) (by grind)
  have m1 : isNum .f32 t.ex = true := r1.num
  change fv .f32 t.ex - (fv .f32 t.l + fv .f32 t.s) ≤ 1 / 32768 ∧ (fv .f32 t.l + fv .f32 t.s) - fv .f32 t.ex ≤ 1 / 32768 at e1
  have q1 := quo01 (a := fv .f32 t.a1) (f := fv .f32 (fbin .add .f32 t.a1 t.n)) (by grind) (by grind) (by grind)
  have q2 := quo01 (a := fv .f32 t.b1) (f := fv .f32 (fbin .add .f32 t.a1 t.n)) (by grind) (by grind) (by grind)
  have rk := rnd_quo ha rf.num (by grind) (lt127 (by grind)) (lt127 (by grind))
  have rh := rnd_quo hb rf.num (by grind) (lt127 (by grind)) (lt127 (by grind))
  have ek := small rk rfl (by grind) (by grind)
  have eh := small rh rfl (by grind) (by grind)
  have rd := rnd_sub hx m1 (lt127 (by grind)) (lt127 (by grind))
  have ed := small rd rfl (by grind) (by grind)
  change fv .f32 t.k - _ ≤ 1 / 32768 ∧ _ - fv .f32 t.k ≤ 1 / 32768 at ek
  change fv .f32 t.h - _ ≤ 1 / 32768 ∧ _ - fv .f32 t.h ≤ 1 / 32768 at eh
  have mk : isNum .f32 t.k = true := rk.num
  have mh : isNum .f32 t.h = true := rh.num
  have md := rd.num
  have k1 : -2 ≤ fv .f32 t.k := by grind
  have k2 : fv .f32 t.k ≤ 2 := by grind
  have h1 : -2 ≤ fv .f32 t.h := by grind
  have h2 : fv .f32 t.h ≤ 2 := by grind
  have d1 : -14 ≤ fv .f32 (fbin .sub .f32 x t.ex) := by grind
  have d2 : fv .f32 (fbin .sub .f32 x t.ex) ≤ 14 := by grind
  have w1 := mulab k1 k2 d1 d2
  have w2 := mulab h1 h2 d1 d2
  have w3 := mulab k1 k2 (show -10 ≤ fv .f32 t.a1 by grind) a2
  have w4 := mulab k1 k2 (show -10 ≤ fv .f32 t.b1 by grind) (show fv .f32 t.b1 ≤ 10 by grind)
  have w5 := mulab h1 h2 (show -10 ≤ fv .f32 t.b1 by grind) (show fv .f32 t.b1 ≤ 10 by grind)
  have p1 := rnd_mul mk md (lt127 (by grind)) (lt127 (by grind))
  have p2 := rnd_mul mh md (lt127 (by grind)) (lt127 (by grind))
  have p3 := rnd_mul mk ha (lt127 (by grind)) (lt127 (by grind))
  have p4 := rnd_mul mk hb (lt127 (by grind)) (lt127 (by grind))
  have p5 := rnd_mul mh hb (lt127 (by grind)) (lt127 (by grind))
  have f1 := small p1 rfl (by grind) (by grind)
  have f2 := small p2 rfl (by grind) (by grind)
  have f3 := small p3 rfl (by grind) (by grind)
  have f4 := small p4 rfl (by grind) (by grind)
  have f5 := small p5 rfl (by grind) (by grind)
  have g1 := rnd_add m1 p1.num (lt127 (by grind)) (lt127 (by grind))
  have g2 := rnd_add hs p2.num (lt127 (by grind)) (lt127 (by grind))
  have g3 := rnd_sub ha p3.num (lt127 (by grind)) (lt127 (by grind))
  have g4 := rnd_sub hb p4.num (lt127 (by grind)) (lt127 (by grind))
  have g5 := rnd_sub hc p5.num (lt127 (by grind)) (lt127 (by grind))
  exact ⟨m1, g1.num, g2.num, pos_num g3.num, g4.num, pos_num g5.num⟩

/-! ### The line -/
theorem line_gr {base slope : Nat} {z k : Int} (hb : Gr 0 z base) (hs : Gr (-2) k slope) (z1 : -4 ≤ z) (z2 : z ≤ 4) (k1 : -4 ≤ k) (k2 : k ≤ 4) (i : Nat) (hi : i < 60) : Gr (-2) (4 * z + k * i) (lineX base slope i) := by
  have hn : Gr 0 (i : Int) (i32f (i : Int)) := gr_int (by omega)
  have hbd : -240 ≤ k * (i : Int) ∧ k * (i : Int) ≤ 240 := by
    have : k = -4 ∨ k = -3 ∨ k = -2 ∨ k = -1 ∨ k = 0 ∨ k = 1 ∨ k = 2 ∨ k = 3 ∨ k = 4 := by omega
    rcases this with h | h | h | h | h | h | h | h | h <;> subst h <;> constructor <;> omega
  have hm := hs.mul hn (by omega) (by decide) (by decide)
  have hf : Gr (-2) (4 * z) base := hb.fine 2
  exact hf.add hm (by omega) (by decide) (by decide)
theorem p2m2 : p2 (-2) = 1 / 4 := by decide +kernel
theorem p2m4 : p2 (-4) = 1 / 16 := by decide +kernel
theorem onLine {base slope : Nat} {z k : Int} (hb : Gr 0 z base) (hs : Gr (-2) k slope) (z1 : -4 ≤ z) (z2 : z ≤ 4) (k1 : -4 ≤ k) (k2 : k ≤ 4) : ∀ (m i : Nat), i + m ≤ 60 →
    OnLine (((4 * z + k * i - k : Int) : Rat) * p2 (-2)) ((k : Rat) * p2 (-2)) ((List.range' i m).map (lineX base slope)) ∧ endX (((4 * z + k * i - k : Int) : Rat) * p2 (-2)) ((k : Rat) * p2 (-2)) ((List.range' i m).map (lineX base slope)) = ((4 * z + k * (i + m : Nat) - k : Int) : Rat) * p2 (-2)
  | 0, i, _ => ⟨trivial, by simp [endX]⟩
  | m + 1, i, h => by
    have g := line_gr hb hs z1 z2 k1 k2 i (by omega)
    have e : (((4 * z + k * i - k : Int) : Rat) * p2 (-2)) + (k : Rat) * p2 (-2) = ((4 * z + k * i : Int) : Rat) * p2 (-2) := by
      rw [← Rat.add_mul, ← Rat.intCast_add]; congr 2; omega
    have e' : ((4 * z + k * i : Int) : Rat) * p2 (-2) = ((4 * z + k * ((i + 1 : Nat) : Int) - k : Int) : Rat) * p2 (-2) := by
      congr 2
      have : k * ((i + 1 : Nat) : Int) = k * i + k := by
        rw [show ((i + 1 : Nat) : Int) = (i : Int) + 1 by omega, Int.mul_add, Int.mul_one]
      omega
    obtain ⟨h1, h2⟩ := onLine hb hs z1 z2 k1 k2 m (i + 1) (by omega)
    have hbd : -240 ≤ k * (i : Int) ∧ k * (i : Int) ≤ 240 := by
      have : k = -4 ∨ k = -3 ∨ k = -2 ∨ k = -1 ∨ k = 0 ∨ k = 1 ∨ k = 2 ∨ k = 3 ∨ k = 4 := by omega
      rcases this with h | h | h | h | h | h | h | h | h <;> subst h <;> constructor <;> omega
    have c1 : ((-256 : Int) : Rat) ≤ ((4 * z + k * i : Int) : Rat) := Rat.intCast_le_intCast.2 (by omega)
    have c2 : ((4 * z + k * i : Int) : Rat) ≤ ((256 : Int) : Rat) := Rat.intCast_le_intCast.2 (by omega)
    have d1 : ((-256 : Int) : Rat) = -256 := by decide +kernel
    have d2 : ((256 : Int) : Rat) = 256 := by decide +kernel
    rw [d1] at c1
    rw [d2] at c2
    rw [List.range'_succ, List.map_cons]
    refine ⟨⟨g.num, by rw [g.val, e], by rw [e, p2m2]; grind, by rw [e, p2m2]; grind, by rw [e, e']; exact h1⟩, ?_⟩
    show endX ((((4 * z + k * i - k : Int) : Rat) * p2 (-2)) + (k : Rat) * p2 (-2)) _ _ = _
    rw [e, e', h2, show i + 1 + m = i + (m + 1) by omega]

/-! ### What is drawn -/
def dA (z : Int) : Nat := fbin .add .f32 (fbin .quo .f32 (i32f z) 1073741824) 1056964608
def dB (z : Int) : Nat := fbin .quo .f32 (i32f (z - 1)) 1090519040
def dC (z : Int) : Nat := fbin .add .f32 (fbin .quo .f32 (i32f z) 1082130432) 1048576000
def dN (z : Int) : Nat := fbin .quo .f32 (i32f (1 + z)) 1082130432
theorem words_abc : ((List.range 9).all fun A => (List.range 3).all fun B => (List.range 5).all fun C =>
    fbin .add .f32 (fbin .add .f32 (fbin .add .f32 (dA A) (dB B)) (fbin .add .f32 (dB B) (dC C))) 1048576000 == w16 (8 * A + 4 * B + 4 * C + 12) && (fbin .add .f32 (dB B) (dC C) == w16 (2 * B + 4 * C + 2) && fbin .add .f32 (dC C) 1048576000 == w16 (4 * C + 8))) = true := by decide +kernel
theorem words_n : ((List.range 8).all fun n => dN n == w16 (4 * n + 4) && Nat.ble 8388608 (dN n) && Nat.ble (dN n) 2139095039) = true := by decide +kernel
theorem nrm_abc : ((List.range 9).all fun A => (List.range 3).all fun B => (List.range 5).all fun C => Nat.ble 8388608 (w16 (8 * A + 4 * B + 4 * C + 12)) && Nat.ble (w16 (8 * A + 4 * B + 4 * C + 12)) 2139095039 && (Nat.ble 8388608 (w16 (2 * B + 4 * C + 2)) && Nat.ble (w16 (2 * B + 4 * C + 2)) 2139095039) && (Nat.ble 8388608 (w16 (4 * C + 8)) && Nat.ble (w16 (4 * C + 8)) 2139095039)) = true := by decide +kernel
theorem simN_all {n : Nat} (h : n < 8) : simN n := by
  have : n = 0 ∨ n = 1 ∨ n = 2 ∨ n = 3 ∨ n = 4 ∨ n = 5 ∨ n = 6 ∨ n = 7 := by omega
  rcases this with h | h | h | h | h | h | h | h <;> subst h
  · exact simN_0
  · exact simN_1
  · exact simN_2
  · exact simN_3
  · exact simN_4
  · exact simN_5
  · exact simN_6
  · exact simN_7
theorem gains_drawn {A B C n : Nat} (hA : A < 9) (hB : B < 3) (hC : C < 5) (hn : n < 8) (l s : Nat) :
    Nrm (dN n) ∧ GainsP (dN n) 60 (Tr.a1 ⟨l, s, dA A, dB B, dC C, dN n, 1048576000, 1048576000⟩) (Tr.b1 ⟨l, s, dA A, dB B, dC C, dN n, 1048576000, 1048576000⟩) (Tr.c1 ⟨l, s, dA A, dB B, dC C, dN n, 1048576000, 1048576000⟩) := by
  have w := words_abc
  rw [List.all_eq_true] at w
  have w := w A (List.mem_range.2 hA)
  rw [List.all_eq_true] at w
  have w := w B (List.mem_range.2 hB)
  rw [List.all_eq_true] at w
  have w := w C (List.mem_range.2 hC)
  simp only [Bool.and_eq_true, beq_iff_eq] at w
  obtain ⟨w1, w2, w3⟩ := w
  have v := words_n
  rw [List.all_eq_true] at v
  have v := v n (List.mem_range.2 hn)
  simp only [Bool.and_eq_true, beq_iff_eq] at v
  obtain ⟨⟨v1, v2⟩, v3⟩ := v
  have m := nrm_abc
  rw [List.all_eq_true] at m
  have m := m A (List.mem_range.2 hA)
  rw [List.all_eq_true] at m
  have m := m B (List.mem_range.2 hB)
  rw [List.all_eq_true] at m
  have m := m C (List.mem_range.2 hC)
  simp only [Bool.and_eq_true] at m
  obtain ⟨⟨⟨m1, m2⟩, m3, m4⟩, m5, m6⟩ := m
  have nn : Nrm (dN n) := ⟨Nat.le_of_ble_eq_true v2, Nat.le_of_ble_eq_true v3⟩
  refine ⟨nn, ?_⟩
  unfold Tr.a1 Tr.b1 Tr.c1
  dsimp only
  rw [w1, w2, w3]
  refine simW_sound nn 60 _ _ _ ⟨Nat.le_of_ble_eq_true m1, Nat.le_of_ble_eq_true m2⟩ ⟨Nat.le_of_ble_eq_true m3, Nat.le_of_ble_eq_true m4⟩ ⟨Nat.le_of_ble_eq_true m5, Nat.le_of_ble_eq_true m6⟩ ?_
  rw [v1]
  exact simN_all hn A B C hA hB hC

theorem gr2 : Gr 1 1 1073741824 := ⟨by decide +kernel, by decide +kernel⟩
theorem gr4 : Gr 2 1 1082130432 := ⟨by decide +kernel, by decide +kernel⟩
theorem gr8 : Gr 3 1 1090519040 := ⟨by decide +kernel, by decide +kernel⟩
theorem gr16 : Gr 4 1 1098907648 := ⟨by decide +kernel, by decide +kernel⟩
theorem grh : Gr (-4) 8 1056964608 := ⟨by decide +kernel, by decide +kernel⟩
theorem grq : Gr (-4) 4 1048576000 := ⟨by decide +kernel, by decide +kernel⟩
theorem gr1 : Gr (-4) 16 1065353216 := ⟨by decide +kernel, by decide +kernel⟩
/-- A small whole number over a power of two. -/
theorem quo_gr {z : Int} (hz : z.natAbs < 1000) {k : Nat} {w : Nat} (hw : Gr k 1 w) (hk : k ≤ 4) : Gr (-(k : Int)) z (fbin .quo .f32 (i32f z) w) := by
  have hi : Gr 0 z (i32f z) := gr_int (by omega)
  refine hi.quo hw (by decide) ?_ (by omega) (by omega) (by omega)
  have : p2 (-(k : Int)) * p2 k = 1 := by rw [← p2_add, Int.add_left_neg, p2_zero]
  rw [p2_zero, Rat.mul_one, show ((1 : Int) : Rat) = 1 from rfl, Rat.one_mul, Rat.mul_assoc, this, Rat.mul_one]

theorem good_of (t : Tr) (z0 z1 z6 z7 : Int) (A B C n : Nat) (b k : Int) (cnt : Nat) (base slope : Nat)
    (ht : t = ⟨fbin .quo .f32 (i32f (z0 - 8)) 1082130432, fbin .quo .f32 (i32f (z1 - 4)) 1082130432, dA A, dB B, dC C, dN n, fbin .quo .f32 (i32f z6) 1090519040, fbin .quo .f32 (i32f z7) 1098907648⟩)
    (h0 : 0 ≤ z0) (h0' : z0 < 17) (h1 : 0 ≤ z1) (h1' : z1 < 9) (h6 : 0 ≤ z6) (h6' : z6 < 5) (h7 : 0 ≤ z7) (h7' : z7 < 5) (hA : A < 9) (hB : B < 3) (hC : C < 5) (hn : n < 8)
    (hc1 : 1 ≤ cnt) (hc : cnt ≤ 8) (hb1 : -4 ≤ b) (hb2 : b ≤ 4) (hk1 : -4 ≤ k) (hk2 : k ≤ 4) (hbase : base = i32f b) (hslope : slope = fbin .quo .f32 (i32f k) 1082130432) : Good t cnt base slope := by
  have gl : Gr (-4) (4 * (z0 - 8)) (fbin .quo .f32 (i32f (z0 - 8)) 1082130432) := (quo_gr (k := 2) (by omega) gr4 (by decide)).fine 2
  have gs : Gr (-4) (4 * (z1 - 4)) (fbin .quo .f32 (i32f (z1 - 4)) 1082130432) := (quo_gr (k := 2) (by omega) gr4 (by decide)).fine 2
  have ga0 : Gr (-4) (8 * (A : Int)) (fbin .quo .f32 (i32f (A : Int)) 1073741824) := (quo_gr (k := 1) (by omega) gr2 (by decide)).fine 3
  have ga : Gr (-4) (8 * (A : Int) + 8) (dA A) := ga0.add grh (by omega) (by decide) (by decide)
  have gb : Gr (-4) (2 * ((B : Int) - 1)) (dB B) := (quo_gr (k := 3) (by omega) gr8 (by decide)).fine 1
  have gc0 : Gr (-4) (4 * (C : Int)) (fbin .quo .f32 (i32f (C : Int)) 1082130432) := (quo_gr (k := 2) (by omega) gr4 (by decide)).fine 2
  have gc : Gr (-4) (4 * (C : Int) + 4) (dC C) := gc0.add grq (by omega) (by decide) (by decide)
  have gn : Gr (-4) (4 * (1 + (n : Int))) (dN n) := (quo_gr (k := 2) (by omega) gr4 (by decide)).fine 2
  have gd : Gr (-4) (2 * z6) (fbin .quo .f32 (i32f z6) 1090519040) := (quo_gr (k := 3) (by omega) gr8 (by decide)).fine 1
  have gu : Gr (-4) z7 (fbin .quo .f32 (i32f z7) 1098907648) := quo_gr (k := 4) (by omega) gr16 (by decide)
  have g : GT t (4 * (z0 - 8)) (4 * (z1 - 4)) (8 * (A : Int) + 8) (2 * ((B : Int) - 1)) (4 * (C : Int) + 4) (4 * (1 + (n : Int))) (2 * z6) z7 := by
    subst ht; exact ⟨gl, gs, ga, gb, gc, gn, gd, gu⟩
  have gq : GT t.quick (4 * (z0 - 8)) (4 * (z1 - 4)) (8 * (A : Int) + 8) (2 * ((B : Int) - 1)) (4 * (C : Int) + 4) (4 * (1 + (n : Int))) 4 4 := by
    subst ht; exact ⟨gl, gs, ga, gb, gc, gn, grq, grq⟩
  have gslope : Gr (-2) k slope := by rw [hslope]; exact quo_gr (k := 2) (by omega) gr4 (by decide)
  have gbase : Gr 0 b base := by rw [hbase]; exact gr_int (by omega)
  have hok : t.ok = true := g.ok (by omega) (by omega) (by omega) (by omega) (by omega)
  have hA1 := g.a1 (by omega) (by omega) (by omega) (by omega)
  have hC1 : Gr (-4) (4 * (C : Int) + 4 + z7) t.c1 := g.c.add g.u (by omega) (by decide) (by decide)
  have cast_le : ∀ (m m' : Int) (q : Rat), m ≤ m' → ((m' : Int) : Rat) * (1 / 16) = q → (m : Rat) * p2 (-4) ≤ q := by
    intro m m' q h e
    rw [p2m4, ← e]
    exact Rat.mul_le_mul_of_nonneg_right (Rat.intCast_le_intCast.2 h) (by decide +kernel)
  have cast_ge : ∀ (m m' : Int) (q : Rat), m' ≤ m → ((m' : Int) : Rat) * (1 / 16) = q → q ≤ (m : Rat) * p2 (-4) := by
    intro m m' q h e
    rw [p2m4, ← e]
    exact Rat.mul_le_mul_of_nonneg_right (Rat.intCast_le_intCast.2 h) (by decide +kernel)
  have hex : Gr (-4) (4 * (z0 - 8) + 4 * (z1 - 4)) t.ex := g.l.add g.s (by omega) (by decide) (by decide)
  have seen := seen_num (t := t) g.l.num g.s.num hA1.1.num hA1.2.num hC1.num g.n.num 1065353216 gr1.num
    (by rw [g.l.val]; exact cast_ge _ (-64) _ (by omega) (by decide +kernel)) (by rw [g.l.val]; exact cast_le _ 64 _ (by omega) (by decide +kernel))
    (by rw [g.s.val]; exact cast_ge _ (-64) _ (by omega) (by decide +kernel)) (by rw [g.s.val]; exact cast_le _ 64 _ (by omega) (by decide +kernel))
    (by rw [hA1.2.val]; exact cast_ge _ 0 _ (by omega) (by decide +kernel))
    (by rw [hA1.1.val, hA1.2.val, p2m4]; exact Rat.mul_le_mul_of_nonneg_right (Rat.intCast_le_intCast.2 (by omega)) (by decide +kernel))
    (by rw [hA1.1.val]; exact cast_le _ 160 _ (by omega) (by decide +kernel))
    (by rw [hC1.val]; exact cast_ge _ (-160) _ (by omega) (by decide +kernel)) (by rw [hC1.val]; exact cast_le _ 160 _ (by omega) (by decide +kernel))
    (by rw [g.n.val]; exact cast_ge _ 2 _ (by omega) (by decide +kernel)) (by rw [g.n.val]; exact cast_le _ 64 _ (by omega) (by decide +kernel))
    (by rw [gr1.val]; exact cast_ge _ (-64) _ (by omega) (by decide +kernel)) (by rw [gr1.val]; exact cast_le _ 64 _ (by omega) (by decide +kernel))
  obtain ⟨q1, q2, q3, q4, q5, q6⟩ := seen
  have nxn : (t.nx 1065353216 true).n = t.n := rfl
  have nxd : (t.nx 1065353216 true).d = t.d := rfl
  have nxu : (t.nx 1065353216 true).u = t.u := rfl
  have hnx : (t.nx 1065353216 true).ok = true := by
    unfold Tr.ok
    rw [nxn, nxd, nxu]
    exact okTr_num q2 q3 q4.1 q5 q6.1 g.n.num g.d.num g.u.num q4.2 q6.2 (gr_pos g.n (by omega)) (gr_nonneg g.d (by omega)) (gr_nonneg g.u (by omega))
  refine ⟨hok, ?_, g.same, ?_, ?_, ?_, sameS_refl _, ?_, gq.ok (by omega) (by omega) (by omega) (by omega) (by omega), ?_, ?_⟩
  · simp only [allFin, aheadL, List.all_map, List.all_eq_true, List.mem_range, Function.comp_apply]
    intro i hi
    exact isFin_num (ahead_gr g i (by omega) (by omega) (by omega) (by omega) (by omega)).num
  · obtain ⟨t1, ex1, r1, ⟨L', A', B', C', r2⟩, r3, r4⟩ := blind_run cnt t 0 _ _ _ _ _ _ _ _ g (by omega) (by omega) (by omega) (by omega) (by omega) (by omega) (by omega) (by omega) (by omega) (by omega) (by omega) (by omega) (by omega) (by omega) (by omega) (by omega) (by omega)
    refine ⟨t1, ex1, r1, r2.same, sameS_refl _, eqBy_refl _ (fun x _ => sameS_refl x), ?_⟩
    intro i x y hx hy
    have hi : i < cnt := by
      have := (List.getElem?_eq_some_iff.1 hy).1; omega
    have hx' : x = aheadX t i := by
      simp only [aheadL, List.getElem?_map, List.getElem?_range hi, Option.map_some, Option.some.injEq] at hx
      exact hx.symm
    subst hx'
    exact gap_same (ahead_gr g i (by omega) (by omega) (by omega) (by omega) (by omega)) (r4 i y hy)
  · unfold okStep
    rw [hok, isFin_num gr1.num, hnx, isFin_num q1]; rfl
  · rintro t1 rfl
    refine eqBy_refl _ ?_
    intro x hx
    simp only [List.mem_cons, List.not_mem_nil, or_false] at hx
    rcases hx with rfl | rfl | rfl | rfl | rfl | rfl | rfl | rfl
    · exact sameI_num q2
    · exact sameI_num q3
    · exact sameI_num q4.1
    · exact sameI_num q5
    · exact sameI_num q6.1
    · exact sameI_num g.n.num
    · exact sameI_num g.d.num
    · exact sameI_num g.u.num
  · have vx := w64_val hex.num
    have vl := w64_val g.l.num
    have vs := w64_val g.s.num
    have cl1 := cast_ge (4 * (z0 - 8)) (-64) (-4) (by omega) (by decide +kernel)
    have cl2 := cast_le (4 * (z0 - 8)) 64 4 (by omega) (by decide +kernel)
    have cs1 := cast_ge (4 * (z1 - 4)) (-64) (-4) (by omega) (by decide +kernel)
    have cs2 := cast_le (4 * (z1 - 4)) 64 4 (by omega) (by decide +kernel)
    have big : (8 : Rat) < p2 (top .f64) := by decide +kernel
    rw [← g.l.val, ← vl.2] at cl1 cl2
    rw [← g.s.val, ← vs.2] at cs1 cs2
    have r := rnd_add vl.1 vs.1 (by grind) (by grind)
    have e3 : p2 3 = 8 := by decide +kernel
    have e4 : p2 (3 - (fb .f64 : Int)) ≤ 1 / 1000000 := by decide +kernel
    have er := r.err 3 (by decide) (by rw [e3]; grind) (by rw [e3]; grind)
    have hv : fv .f64 (w64 t.ex) = fv .f64 (w64 t.l) + fv .f64 (w64 t.s) := by
      rw [vx.2, vl.2, vs.2, hex.val, g.l.val, g.s.val, Rat.intCast_add]; grind
    obtain ⟨gg, e, g1, g2, g3⟩ := gap_val (d := 1 / 1000000) vx.1 r.num (by grind) (by grind) (by decide +kernel)
    unfold gapF
    rw [e]
    have c1 : isNum .f64 4562254508917369340 = true := by decide +kernel
    have c2 : 1 / 10000 ≤ fv .f64 4562254508917369340 := by decide +kernel
    rw [gtr_val g1 c1]
    have : ¬ fv .f64 4562254508917369340 < fv .f64 gg := by grind
    simp [this]
  · have : allFin (lineL base slope 60) = true := by
      simp only [allFin, lineL, List.all_map, List.all_eq_true, List.mem_range, Function.comp_apply]
      intro i hi
      exact isFin_num (line_gr gbase gslope hb1 hb2 hk1 hk2 i hi).num
    unfold series
    rw [this]
    simp [lineL]
  · obtain ⟨nn, gains⟩ := gains_drawn hA hB hC hn t.l t.s
    have hq : t.quick = ⟨t.l, t.s, dA A, dB B, dC C, dN n, 1048576000, 1048576000⟩ := by subst ht; rfl
    rw [← hq] at gains
    obtain ⟨ol, oe⟩ := onLine gbase gslope hb1 hb2 hk1 hk2 60 0 (by omega)
    have hll : (List.range' 0 60).map (lineX base slope) = lineL base slope 60 := by
      unfold lineL; rw [List.range_eq_range']
    rw [hll] at ol oe
    have ik : ∀ m : Int, -4 ≤ m → m ≤ 4 → -1 ≤ (m : Rat) * p2 (-2) ∧ (m : Rat) * p2 (-2) ≤ 1 := by
      intro m h1 h2
      have a1 := Rat.intCast_le_intCast.2 h1
      have a2 := Rat.intCast_le_intCast.2 h2
      have d1 : ((-4 : Int) : Rat) = -4 := by decide +kernel
      have d2 : ((4 : Int) : Rat) = 4 := by decide +kernel
      rw [d1] at a1
      rw [d2] at a2
      rw [p2m2]
      constructor <;> grind
    have sl := ik k hk1 hk2
    have pre : Pre t.quick (dN n) := by
      refine ⟨gq.ok (by omega) (by omega) (by omega) (by omega) (by omega), gq.l.num, gq.s.num, ?_, rfl, rfl⟩
      rw [hq]
    have near : Near t.quick (((4 * b + k * (0 : Nat) - k : Int) : Rat) * p2 (-2)) ((k : Rat) * p2 (-2)) 7 := by
      have cl1 := cast_ge (4 * (z0 - 8)) (-32) (-2) (by omega) (by decide +kernel)
      have cl2 := cast_le (4 * (z0 - 8)) 32 2 (by omega) (by decide +kernel)
      have cs1 := cast_ge (4 * (z1 - 4)) (-16) (-1) (by omega) (by decide +kernel)
      have cs2 := cast_le (4 * (z1 - 4)) 16 1 (by omega) (by decide +kernel)
      rw [← gq.l.val] at cl1 cl2
      rw [← gq.s.val] at cs1 cs2
      have b1 : ((-20 : Int) : Rat) ≤ ((4 * b + k * (0 : Nat) - k : Int) : Rat) := Rat.intCast_le_intCast.2 (by omega)
      have b2 : ((4 * b + k * (0 : Nat) - k : Int) : Rat) ≤ ((20 : Int) : Rat) := Rat.intCast_le_intCast.2 (by omega)
      have d1 : ((-20 : Int) : Rat) = -20 := by decide +kernel
      have d2 : ((20 : Int) : Rat) = 20 := by decide +kernel
      rw [d1] at b1
      rw [d2] at b2
      rw [p2m2] at sl ⊢
      exact ⟨by grind, by grind, by grind, by grind⟩
    obtain ⟨t2, ex2, r1, n1, n2, nr⟩ := follow60 nn sl.1 sl.2 (by simp [lineL]) ol pre near gains
    refine ⟨t2, ex2, r1, ?_, ?_⟩
    · have v1 := w64_val n2
      have v2 := w64_val gslope.num
      obtain ⟨nu1, nu2, nv1, nv2⟩ := nr
      rw [← gslope.val] at nv1 nv2
      obtain ⟨gg, e, g1, g2, g3⟩ := gap_val (d := 1 / 25) v1.1 v2.1 (by rw [v1.2, v2.2]; exact nv2) (by rw [v1.2, v2.2]; grind) (by decide +kernel)
      unfold gapF
      rw [e]
      have c1 : isNum .f64 4587366580439587226 = true := by decide +kernel
      have c2 : 49 / 1000 ≤ fv .f64 4587366580439587226 := by decide +kernel
      rw [lss_val g1 c1]
      have : fv .f64 gg < fv .f64 4587366580439587226 := by grind
      simp [this]
    · have g59 := line_gr gbase gslope hb1 hb2 hk1 hk2 59 (by omega)
      have v1 := w64_val n1
      have v2 := w64_val g59.num
      obtain ⟨nu1, nu2, nv1, nv2⟩ := nr
      have he : endX (((4 * b + k * (0 : Nat) - k : Int) : Rat) * p2 (-2)) ((k : Rat) * p2 (-2)) (lineL base slope 60) = fv .f32 (lineX base slope 59) := by
        rw [oe, g59.val]
        congr 2
        omega
      rw [he] at nu1 nu2
      obtain ⟨gg, e, g1, g2, g3⟩ := gap_val (d := 1 / 25) v1.1 v2.1 (by rw [v1.2, v2.2]; exact nu2) (by rw [v1.2, v2.2]; grind) (by decide +kernel)
      unfold gapF
      rw [e]
      have c1 : isNum .f64 4591870180066957722 = true := by decide +kernel
      have c2 : 99 / 1000 ≤ fv .f64 4591870180066957722 := by decide +kernel
      rw [lss_val g1 c1]
      have : fv .f64 gg < fv .f64 4591870180066957722 := by grind
      simp [this]

theorem goodLaw (bs ms : List Nat) : GoodLaw bs ms := by
  have p0 := pk_range bs 0 0 0 (n := 17) (by decide)
  have p1 := pk_range bs 0 0 1 (n := 9) (by decide)
  have p2' := pk_range bs 0 0 2 (n := 9) (by decide)
  have p3 := pk_range bs 0 0 3 (n := 5) (by decide)
  have p4 := pk_range bs 0 0 4 (n := 3) (by decide)
  have p5 := pk_range bs 0 0 5 (n := 8) (by decide)
  have p6 := pk_range bs 0 0 6 (n := 5) (by decide)
  have p7 := pk_range bs 0 0 7 (n := 5) (by decide)
  have r0 := at10_range ms (i := 0) (n := 8) (by decide) (by decide)
  have r1 := at10_range ms (i := 1) (n := 9) (by decide) (by decide)
  have r2 := at10_range ms (i := 2) (n := 9) (by decide) (by decide)
  unfold GoodLaw
  obtain ⟨A, hA⟩ := Int.eq_ofNat_of_zero_le p2'.1
  obtain ⟨B, hB⟩ := Int.eq_ofNat_of_zero_le p4.1
  obtain ⟨C, hC⟩ := Int.eq_ofNat_of_zero_le p3.1
  obtain ⟨n, hn⟩ := Int.eq_ofNat_of_zero_le p5.1
  refine good_of _ (pk bs 0 0 0 17) (pk bs 0 0 1 9) (pk bs 0 0 6 5) (pk bs 0 0 7 5) A B C n (at10 ms 1 9 - 4) (at10 ms 2 9 - 4) _ _ _ ?_ p0.1 p0.2 p1.1 p1.2 p6.1 p6.2 p7.1 p7.2 (by omega) (by omega) (by omega) (by omega) (by omega) (by omega) (by omega) (by omega) (by omega) (by omega) rfl rfl
  show _ = _
  unfold trB trOf
  simp only []
  rw [hA, hB, hC, hn]
  rfl

end Go.Proofs.Ytnhhdgopgecggaa.Abs
