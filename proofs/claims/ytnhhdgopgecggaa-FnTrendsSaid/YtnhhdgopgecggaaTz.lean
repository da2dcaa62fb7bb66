/- A trend that sees a line follows it: sixty steps together. No condition. -/
import Derived.Test.YtnhhdgopgecggaaTy
set_option linter.unusedVariables false
set_option linter.unusedSimpArgs false
namespace Go.Proofs.Ytnhhdgopgecggaa.Abs
open Go Ieee

theorem num0 : isNum .f32 0 = true := by decide +kernel
theorem fv0 : fv .f32 0 = 0 := by decide +kernel
theorem ge0_num {x : Nat} (h : isNum .f32 x = true) (hx : 0 ≤ fv .f32 x) : ge0 x = true := by
  unfold ge0; rw [geq_val h num0, fv0]; simp [hx]
theorem gt0_num {x : Nat} (h : isNum .f32 x = true) (hx : 0 < fv .f32 x) : gt0 x = true := by
  unfold gt0; rw [gtr_val h num0, fv0]; simp [hx]
theorem okTr_num {l s a b c n d u : Nat} (hl : isNum .f32 l = true) (hs : isNum .f32 s = true) (ha : isNum .f32 a = true) (hb : isNum .f32 b = true) (hc : isNum .f32 c = true) (hn : isNum .f32 n = true) (hd : isNum .f32 d = true) (hu : isNum .f32 u = true)
    (pa : 0 ≤ fv .f32 a) (pc : 0 ≤ fv .f32 c) (pn : 0 < fv .f32 n) (pd : 0 ≤ fv .f32 d) (pu : 0 ≤ fv .f32 u) : okTr l s a b c n d u = true := by
  simp [okTr, allFin, allGe, allGt, isFin_num, hl, hs, ha, hb, hc, hn, hd, hu, ge0_num, gt0_num, pa, pc, pn, pd, pu]
theorem fvq : fv .f32 1048576000 = 1 / 4 := by decide +kernel
theorem numq : isNum .f32 1048576000 = true := isNum_norm nrm_q

theorem bnd_late {m kk hh : Nat} (hm : m < 57) (hk : Nrm kk) (hh' : Nrm hh) (h : bndW m kk hh = true) : 37 / 64 ≤ fv .f32 kk ∧ fv .f32 kk ≤ 27 / 32 ∧ 27 / 128 ≤ fv .f32 hh ∧ fv .f32 hh ≤ 7 / 16 := by
  unfold bndW at h
  simp only [ble_iff] at h
  rw [decide_eq_false (show ¬ 57 ≤ m by omega), cnd_f] at h
  obtain ⟨h1, h⟩ := cond_and h
  obtain ⟨h2, h⟩ := cond_and h
  obtain ⟨h3, h⟩ := cond_and h
  obtain ⟨h4, h⟩ := cond_and (b := decide (hh ≤ 1054867456)) (x := true) (by simpa using h)
  have e1 : fv .f32 1058275328 = 37 / 64 := by decide +kernel
  have e2 : fv .f32 1062731776 = 27 / 32 := by decide +kernel
  have e3 : fv .f32 1045954560 = 27 / 128 := by decide +kernel
  have e4 : fv .f32 1054867456 = 7 / 16 := by decide +kernel
  rw [← e1, ← e2, ← e3, ← e4]
  exact ⟨fv_norm_mono ⟨by omega, by omega⟩ hk (of_decide_eq_true h1), fv_norm_mono hk ⟨by omega, by omega⟩ (of_decide_eq_true h2), fv_norm_mono ⟨by omega, by omega⟩ hh' (of_decide_eq_true h3), fv_norm_mono hh' ⟨by omega, by omega⟩ (of_decide_eq_true h4)⟩
theorem bnd_early {m kk hh c : Nat} (hc : (cond (Nat.ble 59 m) 1049100288 (cond (Nat.ble 58 m) 1054343168 1056964608)) = c) (cn : Nrm c) (hm : 57 ≤ m) (hk : Nrm kk) (hh' : Nrm hh) (h : bndW m kk hh = true) : fv .f32 c ≤ fv .f32 kk ∧ fv .f32 kk ≤ 1 ∧ 0 ≤ fv .f32 hh ∧ fv .f32 hh ≤ 1 := by
  unfold bndW at h
  rw [hc] at h
  simp only [ble_iff] at h
  rw [decide_eq_true (show 57 ≤ m by omega), cnd_t] at h
  obtain ⟨h1, h⟩ := cond_and h
  obtain ⟨h2, h⟩ := cond_and (b := decide (kk ≤ 1065353216)) (x := decide (hh ≤ 1059323904)) (by simpa using h)
  have e1 : fv .f32 1065353216 = 1 := by decide +kernel
  have e2 : fv .f32 1059323904 = 41 / 64 := by decide +kernel
  have f1 := fv_norm_mono cn hk (of_decide_eq_true h1)
  have f2 := fv_norm_mono hk (w' := 1065353216) ⟨by omega, by omega⟩ (of_decide_eq_true h2)
  have f3 := fv_norm_mono hh' (w' := 1059323904) ⟨by omega, by omega⟩ (of_decide_eq_true h)
  have f4 := fv_norm_pos hh'
  rw [e1] at f2
  rw [e2] at f3
  exact ⟨f1, f2, Rat.le_of_lt f4, by grind⟩

structure Pre (t : Tr) (n : Nat) : Prop where
  ok : t.ok = true
  ln : isNum .f32 t.l = true
  sn : isNum .f32 t.s = true
  hn : t.n = n
  hd : t.d = 1048576000
  hu : t.u = 1048576000
structure Near (t : Tr) (x sl Z : Rat) : Prop where
  u1 : -Z ≤ fv .f32 t.l - x
  u2 : fv .f32 t.l - x ≤ Z
  v1 : -Z ≤ fv .f32 t.s - sl
  v2 : fv .f32 t.s - sl ≤ Z
theorem Near.mono {t : Tr} {x sl Z Z' : Rat} (h : Near t x sl Z) (hz : Z ≤ Z') : Near t x sl Z' := by
  obtain ⟨a, b, c, d⟩ := h
  exact ⟨by grind, by grind, by grind, by grind⟩

theorem near_of {t : Tr} {x sl A B Z : Rat} (w : (-A ≤ fv .f32 t.l - x ∧ fv .f32 t.l - x ≤ A) ∧ (-B ≤ fv .f32 t.s - sl ∧ fv .f32 t.s - sl ≤ B)) (hA : A ≤ Z) (hB : B ≤ Z) : Near t x sl Z := by
  obtain ⟨⟨a, b⟩, c, d⟩ := w
  exact ⟨by grind, by grind, by grind, by grind⟩
/-- What one step leaves. -/
structure Step1 (t : Tr) (w n m : Nat) (x sl : Rat) : Prop where
  kn : Nrm t.k
  hn : Nrm t.h
  bd : bndW m t.k t.h = true
  os : okStep t w true = true
  pre : Pre (t.nx w true) n
  gain : GainsP n m (t.nx w true).a1 (t.nx w true).b1 (t.nx w true).c1
  eqs : ∃ α β : Rat, -nu ≤ α ∧ α ≤ nu ∧ -nu ≤ β ∧ β ≤ nu ∧
      fv .f32 (t.nx w true).l - (x + sl) = (1 - fv .f32 t.k) * ((fv .f32 t.l - x) + (fv .f32 t.s - sl)) + α ∧
      fv .f32 (t.nx w true).s - sl = (fv .f32 t.s - sl) - fv .f32 t.h * ((fv .f32 t.l - x) + (fv .f32 t.s - sl)) + β
theorem bnd_01 {m kk hh : Nat} (hk : Nrm kk) (hh' : Nrm hh) (h : bndW m kk hh = true) : fv .f32 kk ≤ 1 ∧ fv .f32 hh ≤ 1 := by
  by_cases hm : m < 57
  · have := bnd_late hm hk hh' h
    constructor <;> grind
  · have : Nrm (cond (Nat.ble 59 m) 1049100288 (cond (Nat.ble 58 m) 1054343168 1056964608)) := by
      cases Nat.ble 59 m <;> cases Nat.ble 58 m <;> simp [Nrm]
    have := bnd_early rfl this (by omega) hk hh' h
    constructor <;> grind
theorem follow1 {t : Tr} {n m w : Nat} {x sl Z : Rat} (nn : Nrm n) (p : Pre t n) (a : Near t x sl Z) (hZ : Z ≤ 21) (g : GainsP n (m + 1) t.a1 t.b1 t.c1) (hw : isNum .f32 w = true) (hx : fv .f32 w = x + sl) (x1 : -64 ≤ x + sl) (x2 : x + sl ≤ 64) (s1 : -1 ≤ sl) (s2 : sl ≤ 1) :
    Step1 t w n m x sl := by
  obtain ⟨l, s, ta, tb, tc, tn, td, tu⟩ := t
  obtain ⟨ok, ln, sn, hn, hd, hu⟩ := p
  dsimp only at hn hd hu
  subst hn; subst hd; subst hu
  obtain ⟨kk, hh, a', b', c', st, bd, g⟩ := g
  have ek : Tr.k ⟨l, s, ta, tb, tc, tn, 1048576000, 1048576000⟩ = kk := st.kq
  have eh : Tr.h ⟨l, s, ta, tb, tc, tn, 1048576000, 1048576000⟩ = hh := st.hq
  generalize ht : (⟨l, s, ta, tb, tc, tn, 1048576000, 1048576000⟩ : Tr) = t at *
  have kn : Nrm t.k := by rw [ek]; exact st.kn
  have hn : Nrm t.h := by rw [eh]; exact st.hn
  have b01 := bnd_01 st.kn st.hn bd
  rw [← ek, ← eh] at b01
  obtain ⟨m1, m2, m3, al, be, m4⟩ := one_step (t := t) (w := w) (x := x) (sl := sl) (Z := Z) ln sn hw hx a.u1 a.u2 a.v1 a.v2 hZ x1 x2 s1 s2 (isNum_norm kn) (isNum_norm hn) (Rat.le_of_lt (fv_norm_pos kn)) b01.1 (Rat.le_of_lt (fv_norm_pos hn)) b01.2
  have ea : (t.nx w true).a = a' := by
    subst ht
    show pos (fbin .sub .f32 _ (fbin .mul .f32 (Tr.k _) _)) = a'
    rw [ek, st.aq, pos_norm st.an]
  have eb : (t.nx w true).b = b' := by
    subst ht
    show fbin .sub .f32 _ (fbin .mul .f32 (Tr.k _) _) = b'
    rw [ek, st.bq]
  have ec : (t.nx w true).c = c' := by
    subst ht
    show pos (fbin .sub .f32 _ (fbin .mul .f32 (Tr.h _) _)) = c'
    rw [eh, st.cq, pos_norm st.cn]
  have en : (t.nx w true).n = tn := by subst ht; rfl
  have ed : (t.nx w true).d = 1048576000 := by subst ht; rfl
  have eu : (t.nx w true).u = 1048576000 := by subst ht; rfl
  have ok' : (t.nx w true).ok = true := by
    unfold Tr.ok
    rw [ea, eb, ec, en, ed, eu]
    refine okTr_num m2 m3 (isNum_norm st.an) (isNum_norm st.bn) (isNum_norm st.cn) (isNum_norm nn) numq numq (Rat.le_of_lt (fv_norm_pos st.an)) (Rat.le_of_lt (fv_norm_pos st.cn)) (fv_norm_pos nn) ?_ ?_ <;> (rw [fvq]; decide +kernel)
  refine ⟨kn, hn, by rw [ek, eh]; exact bd, ?_, ⟨ok', m2, m3, en, ed, eu⟩, ?_, al, be, m4⟩
  · unfold okStep
    rw [ok, isFin_num hw, ok', isFin_num m1]; rfl
  · unfold Tr.a1 Tr.b1 Tr.c1
    rw [ea, eb, ec, ed, eu]
    exact g

def OnLine (x sl : Rat) : List Nat → Prop
  | [] => True
  | w :: ws => isNum .f32 w = true ∧ fv .f32 w = x + sl ∧ -64 ≤ x + sl ∧ x + sl ≤ 64 ∧ OnLine (x + sl) sl ws
def endX (x sl : Rat) : List Nat → Rat
  | [] => x
  | _ :: ws => endX (x + sl) sl ws
theorem runT_step {t : Tr} {w : Nat} {ws : List Nat} {k : Nat} (h : okStep t w true = true) {t2 : Tr} {ex : List Nat} (hr : runT (t.nx w true) ws (List.replicate k true) = some (t2, ex)) : runT t (w :: ws) (List.replicate (k + 1) true) = some (t2, t.ex :: ex) := by
  rw [List.replicate_succ]
  unfold runT
  rw [if_pos h, hr]; rfl
def bnd : Nat → Rat
  | 0 => 1 / 25
  | j + 1 => 5 / 4 * bnd j
theorem bnd_ge : ∀ j, 1 / 25 ≤ bnd j
  | 0 => Rat.le_refl
  | j + 1 => by have := bnd_ge j; show 1 / 25 ≤ 5 / 4 * bnd j; grind
theorem bnd_mono : ∀ (i j : Nat), bnd j ≤ bnd (i + j)
  | 0, j => by rw [Nat.zero_add]; exact Rat.le_refl
  | i + 1, j => by
    have h1 := bnd_mono i j
    have h2 := bnd_ge (i + j)
    rw [show i + 1 + j = i + j + 1 by omega]
    show bnd j ≤ 5 / 4 * bnd (i + j)
    grind
theorem bnd_28 : bnd 28 ≤ 21 ∧ 12 ≤ bnd 28 := by decide +kernel
theorem bnd_le {j : Nat} (h : j ≤ 28) : bnd j ≤ 21 := by
  have := bnd_mono (28 - j) j
  rw [show 28 - j + j = 28 by omega] at this
  have := bnd_28.1
  grind

theorem follow_late {n : Nat} (nn : Nrm n) {sl : Rat} (s1 : -1 ≤ sl) (s2 : sl ≤ 1) : ∀ (j : Nat) (t : Tr) (x : Rat) (ws : List Nat), j ≤ 28 → ws.length = 2 * j → OnLine x sl ws → Pre t n → Near t x sl (bnd j) → GainsP n (2 * j) t.a1 t.b1 t.c1 →
    ∃ t2 ex, runT t ws (List.replicate (2 * j) true) = some (t2, ex) ∧ isNum .f32 t2.l = true ∧ isNum .f32 t2.s = true ∧ Near t2 (endX x sl ws) sl (1 / 25)
  | 0, t, x, ws, _, hl, _, p, a, _ => by
    have : ws = [] := List.eq_nil_of_length_eq_zero hl
    subst this
    exact ⟨t, [], rfl, p.ln, p.sn, a⟩
  | j + 1, t, x, ws, hj, hl, ho, p, a, g => by
    match ws, hl, ho with
    | w1 :: w2 :: ws, hl, ⟨o1, o2, o3, o4, o5, o6, o7, o8, o9⟩ =>
    rw [show 2 * (j + 1) = 2 * j + 1 + 1 by omega] at g ⊢
    have f1 := follow1 nn p a (bnd_le hj) g o1 o2 o3 o4 s1 s2
    obtain ⟨g1, g2, g3, g4⟩ := bnd_late (by omega) f1.kn f1.hn f1.bd
    obtain ⟨a1, b1, r1, r2, r3, r4, e1, e2⟩ := f1.eqs
    have hb1 := bnd_le hj
    have hb2 := bnd_ge (j + 1)
    have wd := wide_step (c := 27 / 64) (by grind) (by grind) (by grind) (by grind) a.u1 a.u2 a.v1 a.v2 e1 e2 r1 r2 r3 r4
    have hnu : nu = 1 / 8192 := rfl
    have n1 : Near (t.nx w1 true) (x + sl) sl 21 := by
      have hb3 : bnd (j + 1) ≤ 83 / 4 := by
        by_cases hj28 : j + 1 = 28
        · rw [hj28]; decide +kernel
        · have := bnd_mono (27 - (j + 1)) (j + 1)
          rw [show 27 - (j + 1) + (j + 1) = 27 by omega] at this
          have h27 : bnd 27 ≤ 83 / 4 := by decide +kernel
          grind
      obtain ⟨⟨wa, wb⟩, wc, wd⟩ := wd
      clear e1 e2 a g f1 ho
      rw [hnu] at wa wb wc wd
      exact ⟨by grind, by grind, by grind, by grind⟩
    have f2 := follow1 nn f1.pre n1 (by decide +kernel) f1.gain o5 o6 o7 o8 s1 s2
    obtain ⟨h1, h2, h3, h4⟩ := bnd_late (by omega) f2.kn f2.hn f2.bd
    obtain ⟨a2, b2, q1, q2, q3, q4, e3, e4⟩ := f2.eqs
    have ts := two_steps g1 g2 g3 g4 h1 h2 h3 h4 a.u1 a.u2 a.v1 a.v2 hb2 e1 e2 e3 e4 r1 r2 r3 r4 q1 q2 q3 q4
    have hbj : bnd (j + 1) = 5 / 4 * bnd j := rfl
    have n2 : Near ((t.nx w1 true).nx w2 true) (x + sl + sl) sl (bnd j) := ⟨by grind, by grind, by grind, by grind⟩
    have hl' : ws.length = 2 * j := by simp only [List.length_cons] at hl; omega
    obtain ⟨t2, ex, z1, z2, z3, z4⟩ := follow_late nn s1 s2 j _ _ ws (by omega) hl' o9 f2.pre n2 f2.gain
    exact ⟨t2, _, runT_step f1.os (runT_step f2.os z1), z2, z3, z4⟩

theorem follow60 {n : Nat} (nn : Nrm n) {sl : Rat} (s1 : -1 ≤ sl) (s2 : sl ≤ 1) {t : Tr} {x : Rat} {ws : List Nat} (hl : ws.length = 60) (ho : OnLine x sl ws) (p : Pre t n) (a : Near t x sl 7) (g : GainsP n 60 t.a1 t.b1 t.c1) :
    ∃ t2 ex, runT t ws (List.replicate 60 true) = some (t2, ex) ∧ isNum .f32 t2.l = true ∧ isNum .f32 t2.s = true ∧ Near t2 (endX x sl ws) sl (1 / 25) := by
  match ws, hl, ho with
  | w1 :: w2 :: w3 :: w4 :: ws, hl, ⟨o1, o2, o3, o4, p1, p2', p3, p4, q1, q2, q3, q4, t1, t2, t3, t4, o5⟩ =>
  have hnu : nu = 1 / 8192 := rfl
  have f1 := follow1 nn p a (by decide) g o1 o2 o3 o4 s1 s2
  have b1 := bnd_early (c := 1049100288) (by decide) ⟨by omega, by omega⟩ (by omega) f1.kn f1.hn f1.bd
  have c1 : fv .f32 1049100288 = 17 / 64 := by decide +kernel
  rw [c1] at b1
  obtain ⟨a1, be1, r1, r2, r3, r4, e1, e2⟩ := f1.eqs
  have w1' := wide_step (c := 47 / 64) (by grind) b1.2.1 b1.2.2.1 b1.2.2.2 a.u1 a.u2 a.v1 a.v2 e1 e2 r1 r2 r3 r4
  have n1 : Near (t.nx w1 true) (x + sl) sl (103 / 10) := near_of w1' (by decide +kernel) (by decide +kernel)
  have f2 := follow1 nn f1.pre n1 (by decide +kernel) f1.gain p1 p2' p3 p4 s1 s2
  have b2 := bnd_early (c := 1054343168) (by decide) ⟨by omega, by omega⟩ (by omega) f2.kn f2.hn f2.bd
  have c2 : fv .f32 1054343168 = 27 / 64 := by decide +kernel
  rw [c2] at b2
  obtain ⟨a2, be2, r1', r2', r3', r4', e1', e2'⟩ := f2.eqs
  have w2' := wide_step (c := 37 / 64) (by grind) b2.2.1 b2.2.2.1 b2.2.2.2 n1.u1 n1.u2 n1.v1 n1.v2 e1' e2' r1' r2' r3' r4'
  have n2 : Near ((t.nx w1 true).nx w2 true) (x + sl + sl) sl (1195 / 100) := near_of w2' (by decide +kernel) (by decide +kernel)
  have f3 := follow1 nn f2.pre n2 (by decide +kernel) f2.gain q1 q2 q3 q4 s1 s2
  have b3 := bnd_early (c := 1056964608) (by decide) ⟨by omega, by omega⟩ (by omega) f3.kn f3.hn f3.bd
  have c3 : fv .f32 1056964608 = 1 / 2 := by decide +kernel
  rw [c3] at b3
  obtain ⟨a3, be3, r1'', r2'', r3'', r4'', e1'', e2''⟩ := f3.eqs
  have w3' := wide_step (c := 1 / 2) (by grind) b3.2.1 b3.2.2.1 b3.2.2.2 n2.u1 n2.u2 n2.v1 n2.v2 e1'' e2'' r1'' r2'' r3'' r4''
  have n3 : Near (((t.nx w1 true).nx w2 true).nx w3 true) (x + sl + sl + sl) sl (1197 / 100) := near_of w3' (by decide +kernel) (by decide +kernel)
  have f4 := follow1 nn f3.pre n3 (by decide +kernel) f3.gain t1 t2 t3 t4 s1 s2
  obtain ⟨h1, h2, h3, h4⟩ := bnd_late (by omega) f4.kn f4.hn f4.bd
  obtain ⟨a4, be4, m1, m2, m3, m4, e5, e6⟩ := f4.eqs
  have w4' := wide_step (c := 1 / 2) (by grind) (by grind) (by grind) (by grind) n3.u1 n3.u2 n3.v1 n3.v2 e5 e6 m1 m2 m3 m4
  have h28 := bnd_28.2
  have n4 : Near ((((t.nx w1 true).nx w2 true).nx w3 true).nx w4 true) (x + sl + sl + sl + sl) sl (bnd 28) := near_of w4' (by decide +kernel) (by decide +kernel)
  have hl' : ws.length = 2 * 28 := by simp only [List.length_cons] at hl; omega
  obtain ⟨u2, ex, z1, z2, z3, z4⟩ := follow_late nn s1 s2 28 _ _ ws (by omega) hl' o5 f4.pre n4 f4.gain
  exact ⟨u2, _, runT_step f1.os (runT_step f2.os (runT_step f3.os (runT_step f4.os z1))), z2, z3, z4⟩

end Go.Proofs.Ytnhhdgopgecggaa.Abs
