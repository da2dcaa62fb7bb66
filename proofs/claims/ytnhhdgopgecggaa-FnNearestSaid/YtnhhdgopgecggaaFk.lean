/- The law FnTrends, walked: it says yes where the numbers are good. No condition. -/
import Derived.Test.YtnhhdgopgecggaaFj
set_option linter.unusedVariables false
set_option linter.unusedSimpArgs false
set_option maxRecDepth 100000
set_option maxHeartbeats 8000000
namespace Go.Proofs.Ytnhhdgopgecggaa.Abs
open Go

theorem fits_pre {H K : AHeap} {r : Value} (hr : bare r = true) (h : H <+: K) : Fits H r H r K := by
  obtain ⟨e, rfl⟩ := h
  exact fits_bare hr
def gapF (a b : Nat) : Nat := if fcmp .lss .f64 a b = true then fbin .sub .f64 b a else fbin .sub .f64 a b
def lineX (base slope : Nat) (i : Nat) : Nat := fbin .add .f32 base (fbin .mul .f32 slope (i32f (i : Int)))
def lineL (base slope : Nat) (n : Nat) : List Nat := (List.range n).map (lineX base slope)
def Tr.quick (t : Tr) : Tr := ⟨t.l, t.s, t.a, t.b, t.c, t.n, 1048576000, 1048576000⟩
/-- The numbers with which the law says yes. -/
structure Good (t : Tr) (cnt : Nat) (base slope : Nat) : Prop where
  ok : t.ok = true
  fin : allFin (aheadL t cnt) = true
  same : sameTr t.l t.s t.a t.b t.c t.n t.d t.u t.l t.s t.a t.b t.c t.n t.d t.u = true
  run : ∃ t1 ex1, runT t (List.replicate cnt 0) (List.replicate cnt false) = some (t1, ex1) ∧ sameTr t1.l t1.s t1.a t1.b t1.c t1.n t1.d t1.u t1.l t1.s t1.a t1.b t1.c t1.n t1.d t1.u = true ∧ sameS t1.l t1.l = true ∧ eqBy sameS ex1 ex1 = true ∧
    ∀ (i : Nat) x y, (aheadL t cnt)[i]? = some x → ex1[i]? = some y → fcmp .gtr .f64 (gapF (w64 x) (w64 y)) 4562254508917369340 = false
  step : okStep t 1065353216 true = true
  stepS : ∀ t1, t1 = t.nx 1065353216 true → sameTr t1.l t1.s t1.a t1.b t1.c t1.n t1.d t1.u t1.l t1.s t1.a t1.b t1.c t1.n t1.d t1.u = true
  stepE : sameS t.ex t.ex = true
  stepG : fcmp .gtr .f64 (gapF (w64 t.ex) (fbin .add .f64 (w64 t.l) (w64 t.s))) 4562254508917369340 = false
  okq : t.quick.ok = true
  ser : series (lineL base slope 60) = true
  line : ∃ t2 ex2, runT t.quick (lineL base slope 60) (List.replicate 60 true) = some (t2, ex2) ∧
    fcmp .lss .f64 (gapF (w64 t2.s) (w64 slope)) 4587366580439587226 = true ∧ fcmp .lss .f64 (gapF (w64 t2.l) (w64 (lineX base slope 59))) 4591870180066957722 = true
def trOf : List Value → Tr
  | [.float .f32 l, .float .f32 s, .float .f32 a, .float .f32 b, .float .f32 c, .float .f32 n, .float .f32 d, .float .f32 u] => ⟨l, s, a, b, c, n, d, u⟩
  | _ => ⟨0, 0, 0, 0, 0, 0, 0, 0⟩
def GoodLaw (bs ms : List Nat) : Prop := Good (trOf (trB bs)) (1 + at10 ms 0 8).toNat (i32f (at10 ms 1 9 - 4)) (fbin .quo .f32 (i32f (at10 ms 2 9 - 4)) 1082130432)
open Classical in
noncomputable def gTrends (args : List Value) (H : AHeap) : Option (Value × AHeap) :=
  match args with
  | [.slice a n c, y] => match rd isU8 (.slice a n c) H, rd isU8 y H with
    | some bs, some ms => if apart (.slice a n c) H.length = true ∧ GoodLaw bs ms then some (.bool true, H) else none
    | _, _ => none
  | _ => none
theorem buildB_0 (H : AHeap) : aBuildSlice Try.prog 32 0 [] H = some (aRow [] 0 H) := row_build row_32 0 _ H (by decide) rfl rfl
theorem buildB_1 (b : Bool) (H : AHeap) : aBuildSlice Try.prog 32 1 [(0, .bool b)] H = some (aRow [.bool b] 1 H) := row_build row_32 1 _ H (by decide) rfl rfl

theorem heap2 {ext : AHeap} {A B C D : Blk} {k1 k2 : Nat} (h1 : 2 ≤ k1) (h2 : 2 ≤ k2) (hk : k1 ≠ k2) (l1 : k1 < ext.length) (l2 : k2 < ext.length) :
    ((ext ++ [A]).set k1 .dead ++ [B] ++ [C])[k2]? = ext[k2]? ∧
    ((((ext ++ [A]).set k1 .dead ++ [B]) ++ [C]).set k2 .dead ++ [D])[0]? = ext[0]? ∧
    ((((ext ++ [A]).set k1 .dead ++ [B]) ++ [C]).set k2 .dead ++ [D])[1]? = ext[1]? ∧
    ((((ext ++ [A]).set k1 .dead ++ [B]) ++ [C]).set k2 .dead ++ [D])[ext.length + 1]? = some B ∧
    ((((ext ++ [A]).set k1 .dead ++ [B]) ++ [C]).set k2 .dead ++ [D])[ext.length + 3]? = some D := by
  refine ⟨?_, ?_, ?_, ?_, ?_⟩ <;> grind
theorem snd3 {G : Env} (hG : SoundEnv [] Try.prog G) (h7 : G 7 = gLong) (h8 : G 8 = gTrendB) (h9 : G 9 = gAt) (h10 : G 10 = gAhead) (h11 : G 11 = gRun) (h12 : G 12 = gRun) (h13 : G 13 = gValid) (h14 : G 14 = gSameTr) (h15 : G 15 = gTwo sameS) (h16 : G 16 = gSameL) (h17 : G 17 = gGap) (h18 : G 18 = gStep) (h19 : G 19 = gStep) :
    Sound [] Try.prog 3 gTrends := by
  refine sound_of (rs := [.tmp 4]) (n := 242) hG mix Try.func3 rfl rfl rfl (by kernel_rfl) (by decide +kernel) (by decide +kernel) ?_
  intro args H r H' h
  unfold gTrends at h
  split at h
  case h_2 => cases h
  rename_i a n c y
  split at h
  case h_2 => cases h
  rename_i bs ms hs hs'
  split at h
  case isFalse => cases h
  rename_i hok
  cases h
  obtain ⟨hap, good⟩ := hok
  unfold GoodLaw at good
  have ht : ∃ t : Tr, trB bs = [.float .f32 t.l, .float .f32 t.s, .float .f32 t.a, .float .f32 t.b, .float .f32 t.c, .float .f32 t.n, .float .f32 t.d, .float .f32 t.u] := ⟨trOf (trB bs), rfl⟩
  have htt : trOf (trB bs) = trOf (trB bs) := rfl
  obtain ⟨t, ht⟩ := ht
  have htr : trOf (trB bs) = t := by rw [ht]; rfl
  rw [htr] at good
  obtain ⟨hr0, hr1⟩ := at10_range ms (i := 0) (n := 8) (by decide) (by decide)
  obtain ⟨hr2, hr3⟩ := at10_range ms (i := 1) (n := 9) (by decide) (by decide)
  obtain ⟨hr4, hr5⟩ := at10_range ms (i := 2) (n := 9) (by decide) (by decide)
  generalize hcz : at10 ms 0 8 = z0 at *
  generalize hbz : at10 ms 1 9 = z1 at *
  generalize hsz : at10 ms 2 9 = z2 at *
  have w0 : IntKind.i64.wrap (1 + z0) = 1 + z0 := wrap_i64 (by omega) (by omega)
  have hl : ∀ e, gLong [.slice a n c, y] (hp H e) = some (.bool (decide (1048576 < bs.length) || decide (1048576 < ms.length)), hp H e) := fun e => gLong_eq (rd_hp hs e) (rd_hp hs' e)
  have htb : ∀ e, gTrendB [.slice a n c] (hp H e) = some (.agg ⟨trB bs⟩, hp H e) := fun e => gTrendB_eq (by rw [hp_length]; exact apart_new hs hap _) (rd_hp hs e)
  have hat0 : ∀ e, gAt [y, .int .i64 0, .int .i64 8] (hp H e) = some (.int .i64 z0, hp H e) := fun e => by rw [gAt_eq (rd_hp hs' e) (by decide) (by decide), hcz]
  have hah : ∀ K, gAhead [.agg ⟨[.float .f32 t.l, .float .f32 t.s, .float .f32 t.a, .float .f32 t.b, .float .f32 t.c, .float .f32 t.n, .float .f32 t.d, .float .f32 t.u]⟩, .int .i64 (1 + z0)] K = some (.tuple ⟨[(mkF (aheadL t (1 + z0).toNat) K).1, .bool true]⟩, (mkF (aheadL t (1 + z0).toNat) K).2) := fun K => gAhead_eq (t := t) good.ok (by omega) (by omega) good.fin K
  refine ⟨by simp, ?_⟩
  simp (maxSteps := 10000000) only [↓exA, exB, exC, exN, exD, exR, tys, ↓reduceIte, Nat.reduceLT, Nat.reduceEqDiff, Nat.reduceAdd, Nat.zero_add, Nat.add_zero, List.map_cons, List.map_nil, Option.map_some, Option.map_none, Option.bind_some, List.length_cons, List.length_nil, List.cons_append, List.nil_append, List.append_nil, List.getElem?_cons_zero, List.getElem?_cons_succ, List.set_cons_zero, List.set_cons_succ, Nat.reduceLeDiff, and_self, and_true, true_and, gval, List.take_zero, List.take_succ_cons, List.drop_zero, List.drop_succ_cons, List.all_cons, List.all_nil, Bool.and_self, Bool.not_true, Bool.not_false, beq_true, beq_false, decide_true, decide_false, eq_self, Nat.reducePow, h7, hl]
  refine condW_intro (fun c1 => ?_) (fun c1 => ?_) <;> (try simp only [Bool.not_eq_true', Bool.not_eq_eq_eq_not, Bool.not_true, Bool.not_false, beq_true, beq_false, beq_iff_eq, beq_eq_false_iff_ne, ne_eq, Bool.not_eq_false, Bool.not_eq_true, decide_eq_true_eq, decide_eq_false_iff_not, Bool.not_not] at c1)
  · simp (maxSteps := 10000000) only [↓exA, exB, exC, exN, exD, exR, tys, ↓reduceIte, Nat.reduceLT, Nat.reduceEqDiff, Nat.reduceAdd, Nat.zero_add, Nat.add_zero, List.map_cons, List.map_nil, Option.map_some, Option.map_none, Option.bind_some, List.length_cons, List.length_nil, List.cons_append, List.nil_append, List.append_nil, List.getElem?_cons_zero, List.getElem?_cons_succ, List.set_cons_zero, List.set_cons_succ, Nat.reduceLeDiff, and_self, and_true, true_and, gval, List.take_zero, List.take_succ_cons, List.drop_zero, List.drop_succ_cons, List.all_cons, List.all_nil, Bool.and_self, Bool.not_true, Bool.not_false, beq_true, beq_false, decide_true, decide_false, eq_self, Nat.reducePow]
    exact fits_bare rfl
  · simp (maxSteps := 10000000) only [↓exA, exB, exC, exN, exD, exR, tys, ↓reduceIte, Nat.reduceLT, Nat.reduceEqDiff, Nat.reduceAdd, Nat.zero_add, Nat.add_zero, List.map_cons, List.map_nil, Option.map_some, Option.map_none, Option.bind_some, List.length_cons, List.length_nil, List.cons_append, List.nil_append, List.append_nil, List.getElem?_cons_zero, List.getElem?_cons_succ, List.set_cons_zero, List.set_cons_succ, Nat.reduceLeDiff, and_self, and_true, true_and, gval, List.take_zero, List.take_succ_cons, List.drop_zero, List.drop_succ_cons, List.all_cons, List.all_nil, Bool.and_self, Bool.not_true, Bool.not_false, beq_true, beq_false, decide_true, decide_false, eq_self, Nat.reducePow, h8, htb, ht, h9, hat0, w0, h10, hah, buildF_0, buildB_0]
    generalize hcn : (1 + z0).toNat = cn at *
    have hcn1 : 1 ≤ cn := by omega
    have hcn8 : cn ≤ 8 := by omega
    have hczn : (1 + z0) = (cn : Int) := by omega
    rw [hczn]
    refine X_loop (I := fun m q K => ∃ (f : Nat → Value) (i k1 k2 : Nat) (ext : AHeap), q = mk 242 f ∧ K = hp H ext ∧ f 1 = y ∧ f 5 = .pointer (some ⟨nb H 0, 0, none⟩) ∧ f 6 = .int .i64 cn ∧ f 7 = .slice (some ⟨nb H 1, 0, none⟩) cn cn ∧ f 8 = .bool true ∧ f 9 = .slice (some ⟨nb H k1, 0, none⟩) i i ∧ f 10 = .slice (some ⟨nb H k2, 0, none⟩) i i ∧ f 11 = .int .i64 (i : Nat)
      ∧ ext[0]? = some (.live false [.float .f32 t.l, .float .f32 t.s, .float .f32 t.a, .float .f32 t.b, .float .f32 t.c, .float .f32 t.n, .float .f32 t.d, .float .f32 t.u])
      ∧ ext[1]? = some (.live false ((aheadL t cn).map fun x => .float .f32 x)) ∧ 2 ≤ k1 ∧ 2 ≤ k2 ∧ k1 ≠ k2 ∧ ext[k1]? = some (.live false (List.replicate i (.float .f32 0))) ∧ ext[k2]? = some (.live false (List.replicate i (.bool false))) ∧ i + m = cn) (m := cn) ?_ ?_
    · rintro m q K ⟨f, i, k1, k2, ext, rfl, rfl, f1, f5, f6, f7, f8, f9, f10, f11, e0, e1, h21, h22, hkk, ek1, ek2, hm⟩
      have hl1 : k1 < ext.length := (List.getElem?_eq_some_iff.1 ek1).1
      have hl2 : k2 < ext.length := (List.getElem?_eq_some_iff.1 ek2).1
      simp (maxSteps := 10000000) only [↓exA, exB, exC, exN, exD, exR, tys, ↓reduceIte, Nat.reduceLT, Nat.reduceEqDiff, Nat.reduceAdd, Nat.zero_add, Nat.add_zero, List.map_cons, List.map_nil, Option.map_some, Option.map_none, Option.bind_some, List.length_cons, List.length_nil, List.cons_append, List.nil_append, List.append_nil, List.getElem?_cons_zero, List.getElem?_cons_succ, List.set_cons_zero, List.set_cons_succ, Nat.reduceLeDiff, and_self, and_true, true_and, gval, List.take_zero, List.take_succ_cons, List.drop_zero, List.drop_succ_cons, List.all_cons, List.all_nil, Bool.and_self, Bool.not_true, Bool.not_false, beq_true, beq_false, decide_true, decide_false, eq_self, Nat.reducePow, f6, f9, f10, f11]
      refine condW_intro (fun c2 => ?_) (fun c2 => ?_) <;> (try simp only [Bool.not_eq_true', Bool.not_eq_eq_eq_not, Bool.not_true, Bool.not_false, beq_true, beq_false, beq_iff_eq, beq_eq_false_iff_ne, ne_eq, Bool.not_eq_false, Bool.not_eq_true, decide_eq_true_eq, decide_eq_false_iff_not, Bool.not_not] at c2)
      · simp (maxSteps := 10000000) only [↓exA, exB, exC, exN, exD, exR, tys, ↓reduceIte, Nat.reduceLT, Nat.reduceEqDiff, Nat.reduceAdd, Nat.zero_add, Nat.add_zero, List.map_cons, List.map_nil, Option.map_some, Option.map_none, Option.bind_some, List.length_cons, List.length_nil, List.cons_append, List.nil_append, List.append_nil, List.getElem?_cons_zero, List.getElem?_cons_succ, List.set_cons_zero, List.set_cons_succ, Nat.reduceLeDiff, and_self, and_true, true_and, gval, List.take_zero, List.take_succ_cons, List.drop_zero, List.drop_succ_cons, List.all_cons, List.all_nil, Bool.and_self, Bool.not_true, Bool.not_false, beq_true, beq_false, decide_true, decide_false, eq_self, Nat.reducePow, f6, f9, f10, f11, buildF_1]
        refine andR_of (append_one row_29 row_29 (cs := List.replicate i (.float .f32 0)) (v := .float .f32 0) ?_ ?_ ?_ rfl ?_ _ _) ?_
        · rw [List.getElem?_append_left hl1]; exact ek1
        · simp
        · exact getElem?_app_len ext _
        · omega
        simp (maxSteps := 10000000) only [↓exA, exB, exC, exN, exD, exR, tys, ↓reduceIte, Nat.reduceLT, Nat.reduceEqDiff, Nat.reduceAdd, Nat.zero_add, Nat.add_zero, List.map_cons, List.map_nil, Option.map_some, Option.map_none, Option.bind_some, List.length_cons, List.length_nil, List.cons_append, List.nil_append, List.append_nil, List.getElem?_cons_zero, List.getElem?_cons_succ, List.set_cons_zero, List.set_cons_succ, Nat.reduceLeDiff, and_self, and_true, true_and, gval, List.take_zero, List.take_succ_cons, List.drop_zero, List.drop_succ_cons, List.all_cons, List.all_nil, Bool.and_self, Bool.not_true, Bool.not_false, beq_true, beq_false, decide_true, decide_false, eq_self, Nat.reducePow, f10, buildB_1]
        refine andR_of (append_one row_32 row_32 (cs := List.replicate i (.bool false)) (v := .bool false) ?_ ?_ ?_ rfl ?_ _ _) ?_
        · rw [(heap2 (D := .dead) h21 h22 hkk hl1 hl2).1]; exact ek2
        · simp
        · have := getElem?_app_len ((ext ++ [Blk.live false [Value.float .f32 0]]).set k1 .dead ++ [Blk.live false (List.replicate i (Value.float .f32 0) ++ [Value.float .f32 0])]) (Blk.live false [Value.bool false])
          simp
        · omega
        simp (maxSteps := 10000000) only [↓exA, exB, exC, exN, exD, exR, tys, ↓reduceIte, Nat.reduceLT, Nat.reduceEqDiff, Nat.reduceAdd, Nat.zero_add, Nat.add_zero, List.map_cons, List.map_nil, Option.map_some, Option.map_none, Option.bind_some, List.length_cons, List.length_nil, List.cons_append, List.nil_append, List.append_nil, List.getElem?_cons_zero, List.getElem?_cons_succ, List.set_cons_zero, List.set_cons_succ, Nat.reduceLeDiff, and_self, and_true, true_and, gval, List.take_zero, List.take_succ_cons, List.drop_zero, List.drop_succ_cons, List.all_cons, List.all_nil, Bool.and_self, Bool.not_true, Bool.not_false, beq_true, beq_false, decide_true, decide_false, eq_self, Nat.reducePow, f11]
        refine ⟨m - 1, by omega, _, i + 1, ext.length + 1, ext.length + 3, _, rfl, rfl, ?_, ?_, ?_, ?_, ?_, ?_, ?_, ?_, ?_, ?_, by omega, by omega, by omega, ?_, ?_, by omega⟩
        all_goals (try simp (maxSteps := 10000000) only [↓exA, exB, exC, exN, exD, exR, tys, ↓reduceIte, Nat.reduceLT, Nat.reduceEqDiff, Nat.reduceAdd, Nat.zero_add, Nat.add_zero, List.map_cons, List.map_nil, Option.map_some, Option.map_none, Option.bind_some, List.length_cons, List.length_nil, List.cons_append, List.nil_append, List.append_nil, List.getElem?_cons_zero, List.getElem?_cons_succ, List.set_cons_zero, List.set_cons_succ, Nat.reduceLeDiff, and_self, and_true, true_and, gval, List.take_zero, List.take_succ_cons, List.drop_zero, List.drop_succ_cons, List.all_cons, List.all_nil, Bool.and_self, Bool.not_true, Bool.not_false, beq_true, beq_false, decide_true, decide_false, eq_self, Nat.reducePow, f1, f5, f6, f7, f8])
        · simp
        · simp
        · rw [wrap_i64 (by omega) (by omega)]; simp
        · rw [(heap2 h21 h22 hkk hl1 hl2).2.1]; exact e0
        · rw [(heap2 h21 h22 hkk hl1 hl2).2.2.1]; exact e1
        · rw [(heap2 h21 h22 hkk hl1 hl2).2.2.2.1, List.replicate_succ']
        · rw [(heap2 h21 h22 hkk hl1 hl2).2.2.2.2, List.replicate_succ']
      · have hi : i = cn := by omega
        subst hi
        have hpre : H <+: hp H ext := ⟨ext, rfl⟩
        have x0 : (hp H ext)[nb H 0]? = _ := (hp_new H ext 0).trans e0
        have x1 : rd isF (.slice (some ⟨nb H 1, 0, none⟩) i i) (hp H ext) = some (aheadL t i) := rd_new i i e1 (mapM_isF _) (by simp [aheadL]) (by omega)
        have xz : rd isF (.slice (some ⟨nb H k1, 0, none⟩) i i) (hp H ext) = some (List.replicate i 0) := rd_new i i ek1 (by have := mapM_isF (List.replicate i 0); simpa using this) (by simp) (by omega)
        have xb : rd isB (.slice (some ⟨nb H k2, 0, none⟩) i i) (hp H ext) = some (List.replicate i false) := rd_new i i ek2 (by have := mapM_isB (List.replicate i false); simpa using this) (by simp) (by omega)
        have xy : rd isU8 y (hp H ext) = some ms := rd_hp hs' ext
        have hg : (nb H 0) < (hp H ext).length := (List.getElem?_eq_some_iff.1 x0).1
        have hg0 : H.length ≤ nb H 0 := by unfold nb; omega
        obtain ⟨H1, hH1⟩ : ∃ H1, hp H ext = hp H1 [] := ⟨hp H ext, (hp_nil _).symm⟩
        rw [hH1] at x0 x1 xz xb xy hpre hg ⊢
        rw [hp_nil] at x0 x1 xz xb xy hpre hg
        generalize nb H 0 = p0 at *
        generalize nb H 1 = p1 at *
        generalize nb H k1 = q1 at *
        generalize nb H k2 = q2 at *
        have y0 := fun e => hp_old x0 e
        have y1 := fun e => rd_hp x1 e
        have yz := fun e => rd_hp xz e
        have yb := fun e => rd_hp xb e
        have yy := fun e => rd_hp xy e
        obtain ⟨t1, ex1, hrun, hst, hsl, hse, hgap⟩ := good.run
        have hokt : okTr t.l t.s t.a t.b t.c t.n t.d t.u = true := good.ok
        have hser : series (List.replicate i 0) = true := by
          have h1 : 1 ≤ i := by omega
          have h2 : i ≤ 96 := by omega
          have : allFin (List.replicate i 0) = true := by
            simp only [allFin, List.all_eq_true, List.mem_replicate]
            rintro x ⟨_, rfl⟩; decide
          simp [series, h1, h2, this]
        have hr : ∀ e, gRun [.agg ⟨[.float .f32 t.l, .float .f32 t.s, .float .f32 t.a, .float .f32 t.b, .float .f32 t.c, .float .f32 t.n, .float .f32 t.d, .float .f32 t.u]⟩, .slice (some ⟨q1, 0, none⟩) i i, .slice (some ⟨q2, 0, none⟩) i i] (hp H1 e) = some (.tuple ⟨[t1.val, (mkF ex1 (hp H1 e)).1, .bool true]⟩, (mkF ex1 (hp H1 e)).2) := fun e => gRun_eq (t := t) (yz e) (yb e) good.ok hser hrun
        simp (maxSteps := 10000000) only [↓exA, exB, exC, exN, exD, exR, tys, ↓reduceIte, Nat.reduceLT, Nat.reduceEqDiff, Nat.reduceAdd, Nat.zero_add, Nat.add_zero, List.map_cons, List.map_nil, Option.map_some, Option.map_none, Option.bind_some, List.length_cons, List.length_nil, List.cons_append, List.nil_append, List.append_nil, List.getElem?_cons_zero, List.getElem?_cons_succ, List.set_cons_zero, List.set_cons_succ, Nat.reduceLeDiff, and_self, and_true, true_and, gval, List.take_zero, List.take_succ_cons, List.drop_zero, List.drop_succ_cons, List.all_cons, List.all_nil, Bool.and_self, Bool.not_true, Bool.not_false, beq_true, beq_false, decide_true, decide_false, eq_self, Nat.reducePow, f1, f5, f6, f7, f8, f9, f10, f11, y0, h11, hr, Tr.val, h12, getElem?_app_len, set_app_len, h13, gValid_eq, hokt, h14, gSameTr_eq, good.same, hst, h15, gTwo_eq, hsl, h16]
        obtain ⟨_, hxl⟩ := runT_len hrun
        rw [List.length_replicate] at hxl
        refine andR_of (gSameL_eq (xs := ex1) (ys := ex1) (rd_new _ _ rfl (mapM_isF _) (by simp) (by omega)) (rd_new _ _ rfl (mapM_isF _) (by simp) (by omega))) ?_
        have hwi : IntKind.i64.wrap (i : Int) = i := wrap_i64 (by omega) (by omega)
        simp (maxSteps := 10000000) only [↓exA, exB, exC, exN, exD, exR, tys, ↓reduceIte, Nat.reduceLT, Nat.reduceEqDiff, Nat.reduceAdd, Nat.zero_add, Nat.add_zero, List.map_cons, List.map_nil, Option.map_some, Option.map_none, Option.bind_some, List.length_cons, List.length_nil, List.cons_append, List.nil_append, List.append_nil, List.getElem?_cons_zero, List.getElem?_cons_succ, List.set_cons_zero, List.set_cons_succ, Nat.reduceLeDiff, and_self, and_true, true_and, gval, List.take_zero, List.take_succ_cons, List.drop_zero, List.drop_succ_cons, List.all_cons, List.all_nil, Bool.and_self, Bool.not_true, Bool.not_false, beq_true, beq_false, decide_true, decide_false, eq_self, Nat.reducePow, hse, f7, f6, hwi]
        have vb0 := y0 [Blk.live false (ex1.map fun x => .float .f32 x), Blk.live false [.float .f32 t1.l, .float .f32 t1.s, .float .f32 t1.a, .float .f32 t1.b, .float .f32 t1.c, .float .f32 t1.n, .float .f32 t1.d, .float .f32 t1.u], Blk.live false (ex1.map fun x => .float .f32 x), Blk.live false [.float .f32 t1.l, .float .f32 t1.s, .float .f32 t1.a, .float .f32 t1.b, .float .f32 t1.c, .float .f32 t1.n, .float .f32 t1.d, .float .f32 t1.u]]
        have vb1 := y1 [Blk.live false (ex1.map fun x => .float .f32 x), Blk.live false [.float .f32 t1.l, .float .f32 t1.s, .float .f32 t1.a, .float .f32 t1.b, .float .f32 t1.c, .float .f32 t1.n, .float .f32 t1.d, .float .f32 t1.u], Blk.live false (ex1.map fun x => .float .f32 x), Blk.live false [.float .f32 t1.l, .float .f32 t1.s, .float .f32 t1.a, .float .f32 t1.b, .float .f32 t1.c, .float .f32 t1.n, .float .f32 t1.d, .float .f32 t1.u]]
        have zy := yy [Blk.live false (ex1.map fun x => .float .f32 x), Blk.live false [.float .f32 t1.l, .float .f32 t1.s, .float .f32 t1.a, .float .f32 t1.b, .float .f32 t1.c, .float .f32 t1.n, .float .f32 t1.d, .float .f32 t1.u], Blk.live false (ex1.map fun x => .float .f32 x), Blk.live false [.float .f32 t1.l, .float .f32 t1.s, .float .f32 t1.a, .float .f32 t1.b, .float .f32 t1.c, .float .f32 t1.n, .float .f32 t1.d, .float .f32 t1.u]]
        have ze : rd isF (.slice (some ⟨nb H1 0, 0, none⟩) ex1.length ex1.length) (hp H1 [Blk.live false (ex1.map fun x => .float .f32 x), Blk.live false [.float .f32 t1.l, .float .f32 t1.s, .float .f32 t1.a, .float .f32 t1.b, .float .f32 t1.c, .float .f32 t1.n, .float .f32 t1.d, .float .f32 t1.u], Blk.live false (ex1.map fun x => .float .f32 x), Blk.live false [.float .f32 t1.l, .float .f32 t1.s, .float .f32 t1.a, .float .f32 t1.b, .float .f32 t1.c, .float .f32 t1.n, .float .f32 t1.d, .float .f32 t1.u]]) = some ex1 := rd_new _ _ rfl (mapM_isF _) (by simp) (by omega)
        have hpre2 : H <+: hp H1 [Blk.live false (ex1.map fun x => .float .f32 x), Blk.live false [.float .f32 t1.l, .float .f32 t1.s, .float .f32 t1.a, .float .f32 t1.b, .float .f32 t1.c, .float .f32 t1.n, .float .f32 t1.d, .float .f32 t1.u], Blk.live false (ex1.map fun x => .float .f32 x), Blk.live false [.float .f32 t1.l, .float .f32 t1.s, .float .f32 t1.a, .float .f32 t1.b, .float .f32 t1.c, .float .f32 t1.n, .float .f32 t1.d, .float .f32 t1.u]] := hpre.trans ⟨_, rfl⟩
        have hg2 : p0 < (hp H1 [Blk.live false (ex1.map fun x => .float .f32 x), Blk.live false [.float .f32 t1.l, .float .f32 t1.s, .float .f32 t1.a, .float .f32 t1.b, .float .f32 t1.c, .float .f32 t1.n, .float .f32 t1.d, .float .f32 t1.u], Blk.live false (ex1.map fun x => .float .f32 x), Blk.live false [.float .f32 t1.l, .float .f32 t1.s, .float .f32 t1.a, .float .f32 t1.b, .float .f32 t1.c, .float .f32 t1.n, .float .f32 t1.d, .float .f32 t1.u]]).length := (List.getElem?_eq_some_iff.1 vb0).1
        obtain ⟨H2, hH2⟩ : ∃ H2, hp H1 [Blk.live false (ex1.map fun x => .float .f32 x), Blk.live false [.float .f32 t1.l, .float .f32 t1.s, .float .f32 t1.a, .float .f32 t1.b, .float .f32 t1.c, .float .f32 t1.n, .float .f32 t1.d, .float .f32 t1.u], Blk.live false (ex1.map fun x => .float .f32 x), Blk.live false [.float .f32 t1.l, .float .f32 t1.s, .float .f32 t1.a, .float .f32 t1.b, .float .f32 t1.c, .float .f32 t1.n, .float .f32 t1.d, .float .f32 t1.u]] = hp H2 [] := ⟨_, (hp_nil _).symm⟩
        rw [hH2] at vb0 vb1 zy ze hpre2 hg2 ⊢
        rw [hp_nil] at vb0 vb1 zy ze hpre2 hg2
        generalize nb H1 0 = pe at *
        obtain ⟨aa, an, ac, arow⟩ := rd_row vb1
        obtain ⟨ba, bn, bc, brow⟩ := rd_row ze
        have ae := arow.eq
        have be := brow.eq
        cases ae
        cases be
        refine X_loop (I := fun m q K => ∃ (g : Nat → Value) (j : Nat), q = mk 242 g ∧ K = hp H2 [] ∧ g 1 = y ∧ g 5 = .pointer (some ⟨p0, 0, none⟩) ∧ g 7 = .slice (some ⟨p1, 0, none⟩) i i ∧ g 13 = .slice (some ⟨pe, 0, none⟩) ex1.length ex1.length ∧ g 124 = .int .i64 i ∧ g 125 = .int .i64 (j : Nat) ∧ j + m = i) (m := i) ?_ ?_
        · rintro m q K ⟨g, j, rfl, rfl, g1, g5, g7, g13, g124, g125, hm2⟩
          simp (maxSteps := 10000000) only [↓exA, exB, exC, exN, exD, exR, tys, ↓reduceIte, Nat.reduceLT, Nat.reduceEqDiff, Nat.reduceAdd, Nat.zero_add, Nat.add_zero, List.map_cons, List.map_nil, Option.map_some, Option.map_none, Option.bind_some, List.length_cons, List.length_nil, List.cons_append, List.nil_append, List.append_nil, List.getElem?_cons_zero, List.getElem?_cons_succ, List.set_cons_zero, List.set_cons_succ, Nat.reduceLeDiff, and_self, and_true, true_and, gval, List.take_zero, List.take_succ_cons, List.drop_zero, List.drop_succ_cons, List.all_cons, List.all_nil, Bool.and_self, Bool.not_true, Bool.not_false, beq_true, beq_false, decide_true, decide_false, eq_self, Nat.reducePow, g124, g125]
          refine condW_intro (fun c3 => ?_) (fun c3 => ?_) <;> (try simp only [Bool.not_eq_true', Bool.not_eq_eq_eq_not, Bool.not_true, Bool.not_false, beq_true, beq_false, beq_iff_eq, beq_eq_false_iff_ne, ne_eq, Bool.not_eq_false, Bool.not_eq_true, decide_eq_true_eq, decide_eq_false_iff_not, Bool.not_not] at c3)
          · have hj1 : j < (aheadL t i).length := by have := arow.len; omega
            have hj2 : j < ex1.length := by omega
            obtain ⟨b1, off1, lk1, cs1, v1, hb1, hbb1, hv1, hx1⟩ := (arow.hp []).get j _ (List.getElem?_eq_getElem hj1)
            have hvv1 := isF_eq hx1; subst hvv1; cases hb1
            obtain ⟨b2, off2, lk2, cs2, v2, hb2, hbb2, hv2, hx2⟩ := (brow.hp []).get j _ (List.getElem?_eq_getElem hj2)
            have hvv2 := isF_eq hx2; subst hvv2; cases hb2
            have hgp := hgap j _ _ (List.getElem?_eq_getElem hj1) (List.getElem?_eq_getElem hj2)
            unfold gapF at hgp
            have c3' : (j : Int) < ex1.length := by omega
            rw [Nat.zero_add] at hv1 hv2
            simp (maxSteps := 10000000) only [↓exA, exB, exC, exN, exD, exR, tys, ↓reduceIte, Nat.reduceLT, Nat.reduceEqDiff, Nat.reduceAdd, Nat.zero_add, Nat.add_zero, List.map_cons, List.map_nil, Option.map_some, Option.map_none, Option.bind_some, List.length_cons, List.length_nil, List.cons_append, List.nil_append, List.append_nil, List.getElem?_cons_zero, List.getElem?_cons_succ, List.set_cons_zero, List.set_cons_succ, Nat.reduceLeDiff, and_self, and_true, true_and, gval, List.take_zero, List.take_succ_cons, List.drop_zero, List.drop_succ_cons, List.all_cons, List.all_nil, Bool.and_self, Bool.not_true, Bool.not_false, beq_true, beq_false, decide_true, decide_false, eq_self, Nat.reducePow, g7, g13, g125, c3, c3', Int.natCast_nonneg, Int.toNat_natCast, hbb1, hv1, hbb2, hv2, fconv_w64, h17, gGap_eq, hgp]
            refine ⟨m - 1, by omega, _, j + 1, rfl, rfl, ?_, ?_, ?_, ?_, ?_, ?_, by omega⟩
            all_goals (try simp (maxSteps := 10000000) only [↓exA, exB, exC, exN, exD, exR, tys, ↓reduceIte, Nat.reduceLT, Nat.reduceEqDiff, Nat.reduceAdd, Nat.zero_add, Nat.add_zero, List.map_cons, List.map_nil, Option.map_some, Option.map_none, Option.bind_some, List.length_cons, List.length_nil, List.cons_append, List.nil_append, List.append_nil, List.getElem?_cons_zero, List.getElem?_cons_succ, List.set_cons_zero, List.set_cons_succ, Nat.reduceLeDiff, and_self, and_true, true_and, gval, List.take_zero, List.take_succ_cons, List.drop_zero, List.drop_succ_cons, List.all_cons, List.all_nil, Bool.and_self, Bool.not_true, Bool.not_false, beq_true, beq_false, decide_true, decide_false, eq_self, Nat.reducePow, g1, g5, g7, g13, g124])
            rw [wrap_i64 (by omega) (by omega)]; simp
          · have z0' := fun e => hp_old vb0 e
            have zy' := fun e => rd_hp zy e
            have hstp : ∀ K, gStep [.agg ⟨[.float .f32 t.l, .float .f32 t.s, .float .f32 t.a, .float .f32 t.b, .float .f32 t.c, .float .f32 t.n, .float .f32 t.d, .float .f32 t.u]⟩, .float .f32 1065353216, .bool true] K = some (.tuple ⟨[(t.nx 1065353216 true).val, .float .f32 t.ex, .bool true]⟩, K) := fun K => stepB_yes (l := t.l) (s := t.s) (a := t.a) (b := t.b) (c := t.c) (n := t.n) (d := t.d) (u := t.u) good.step K
            have hss := good.stepS _ rfl
            generalize t.nx 1065353216 true = tn at *
            have hse2 := good.stepE
            have hsg := good.stepG
            unfold gapF at hsg
            have hat1 : ∀ e, gAt [y, .int .i64 1, .int .i64 9] (hp H2 e) = some (.int .i64 z1, hp H2 e) := fun e => by rw [gAt_eq (zy' e) (by decide) (by decide), hbz]
            have hat2 : ∀ e, gAt [y, .int .i64 2, .int .i64 9] (hp H2 e) = some (.int .i64 z2, hp H2 e) := fun e => by rw [gAt_eq (zy' e) (by decide) (by decide), hsz]
            have w1 : IntKind.i64.wrap (z1 - 4) = z1 - 4 := wrap_i64 (by omega) (by omega)
            have w2 : IntKind.i64.wrap (z2 - 4) = z2 - 4 := wrap_i64 (by omega) (by omega)
            simp (maxSteps := 10000000) only [↓exA, exB, exC, exN, exD, exR, tys, ↓reduceIte, Nat.reduceLT, Nat.reduceEqDiff, Nat.reduceAdd, Nat.zero_add, Nat.add_zero, List.map_cons, List.map_nil, Option.map_some, Option.map_none, Option.bind_some, List.length_cons, List.length_nil, List.cons_append, List.nil_append, List.append_nil, List.getElem?_cons_zero, List.getElem?_cons_succ, List.set_cons_zero, List.set_cons_succ, Nat.reduceLeDiff, and_self, and_true, true_and, gval, List.take_zero, List.take_succ_cons, List.drop_zero, List.drop_succ_cons, List.all_cons, List.all_nil, Bool.and_self, Bool.not_true, Bool.not_false, beq_true, beq_false, decide_true, decide_false, eq_self, Nat.reducePow, g1, g5, g7, g13, g124, g125, z0', h18, hstp, Tr.val, h19, h14, gSameTr_eq, hss, h15, gTwo_eq, hse2, fconv_w64, h17, gGap_eq, hsg, buildF_0, buildB_0, h9, hat1, hat2, w1, w2]
            have hio : IntKind.i64.wrap = IntKind.i64.wrap := rfl
            have hb0 : FloatKind.f32.nearest (z1 - 4) = i32f (z1 - 4) := rfl
            have hb1 : FloatKind.f32.nearest (z2 - 4) = i32f (z2 - 4) := rfl
            rw [hb0, hb1]
            generalize i32f (z1 - 4) = base at *
            generalize fbin .quo .f32 (i32f (z2 - 4)) 1082130432 = slope at *
            refine X_loop (I := fun m q K => ∃ (g : Nat → Value) (j k1 k2 : Nat) (ext : AHeap), q = mk 242 g ∧ K = hp H2 ext ∧ g 5 = .pointer (some ⟨p0, 0, none⟩) ∧ g 25 = .slice (some ⟨nb H2 k1, 0, none⟩) j j ∧ g 26 = .slice (some ⟨nb H2 k2, 0, none⟩) j j ∧ g 27 = .float .f32 base ∧ g 28 = .float .f32 slope ∧ g 29 = .int .i64 (j : Nat)
              ∧ 2 ≤ k1 ∧ 2 ≤ k2 ∧ k1 ≠ k2 ∧ ext[k1]? = some (.live false ((lineL base slope j).map fun x => .float .f32 x)) ∧ ext[k2]? = some (.live false (List.replicate j (.bool true))) ∧ j + m = 60) (m := 60) ?_ ?_
            · rintro m q K ⟨g', j', l1, l2, ext2, rfl, rfl, g5', g25, g26, g27, g28, g29, m21, m22, mkk, el1, el2, hm3⟩
              have ml1 : l1 < ext2.length := (List.getElem?_eq_some_iff.1 el1).1
              have ml2 : l2 < ext2.length := (List.getElem?_eq_some_iff.1 el2).1
              simp (maxSteps := 10000000) only [↓exA, exB, exC, exN, exD, exR, tys, ↓reduceIte, Nat.reduceLT, Nat.reduceEqDiff, Nat.reduceAdd, Nat.zero_add, Nat.add_zero, List.map_cons, List.map_nil, Option.map_some, Option.map_none, Option.bind_some, List.length_cons, List.length_nil, List.cons_append, List.nil_append, List.append_nil, List.getElem?_cons_zero, List.getElem?_cons_succ, List.set_cons_zero, List.set_cons_succ, Nat.reduceLeDiff, and_self, and_true, true_and, gval, List.take_zero, List.take_succ_cons, List.drop_zero, List.drop_succ_cons, List.all_cons, List.all_nil, Bool.and_self, Bool.not_true, Bool.not_false, beq_true, beq_false, decide_true, decide_false, eq_self, Nat.reducePow, g29]
              refine condW_intro (fun c4 => ?_) (fun c4 => ?_) <;> (try simp only [Bool.not_eq_true', Bool.not_eq_eq_eq_not, Bool.not_true, Bool.not_false, beq_true, beq_false, beq_iff_eq, beq_eq_false_iff_ne, ne_eq, Bool.not_eq_false, Bool.not_eq_true, decide_eq_true_eq, decide_eq_false_iff_not, Bool.not_not] at c4)
              · simp (maxSteps := 10000000) only [↓exA, exB, exC, exN, exD, exR, tys, ↓reduceIte, Nat.reduceLT, Nat.reduceEqDiff, Nat.reduceAdd, Nat.zero_add, Nat.add_zero, List.map_cons, List.map_nil, Option.map_some, Option.map_none, Option.bind_some, List.length_cons, List.length_nil, List.cons_append, List.nil_append, List.append_nil, List.getElem?_cons_zero, List.getElem?_cons_succ, List.set_cons_zero, List.set_cons_succ, Nat.reduceLeDiff, and_self, and_true, true_and, gval, List.take_zero, List.take_succ_cons, List.drop_zero, List.drop_succ_cons, List.all_cons, List.all_nil, Bool.and_self, Bool.not_true, Bool.not_false, beq_true, beq_false, decide_true, decide_false, eq_self, Nat.reducePow, g25, g26, g27, g28, g29, buildF_1, conv_3_24]
                refine andR_of (append_one row_29 row_29 (cs := (lineL base slope j').map fun x => .float .f32 x) (v := .float .f32 (lineX base slope j')) ?_ ?_ ?_ rfl ?_ _ _) ?_
                · rw [List.getElem?_append_left ml1]; exact el1
                · simp [lineL]
                · exact getElem?_app_len ext2 _
                · omega
                simp (maxSteps := 10000000) only [↓exA, exB, exC, exN, exD, exR, tys, ↓reduceIte, Nat.reduceLT, Nat.reduceEqDiff, Nat.reduceAdd, Nat.zero_add, Nat.add_zero, List.map_cons, List.map_nil, Option.map_some, Option.map_none, Option.bind_some, List.length_cons, List.length_nil, List.cons_append, List.nil_append, List.append_nil, List.getElem?_cons_zero, List.getElem?_cons_succ, List.set_cons_zero, List.set_cons_succ, Nat.reduceLeDiff, and_self, and_true, true_and, gval, List.take_zero, List.take_succ_cons, List.drop_zero, List.drop_succ_cons, List.all_cons, List.all_nil, Bool.and_self, Bool.not_true, Bool.not_false, beq_true, beq_false, decide_true, decide_false, eq_self, Nat.reducePow, g26, buildB_1]
                refine andR_of (append_one row_32 row_32 (cs := List.replicate j' (.bool true)) (v := .bool true) ?_ ?_ ?_ rfl ?_ _ _) ?_
                · rw [(heap2 (D := .dead) m21 m22 mkk ml1 ml2).1]; exact el2
                · simp
                · have := getElem?_app_len ((ext2 ++ [Blk.live false [Value.float .f32 (lineX base slope j')]]).set l1 .dead ++ [Blk.live false ((lineL base slope j').map (fun x => Value.float .f32 x) ++ [Value.float .f32 (lineX base slope j')])]) (Blk.live false [Value.bool true])
                  simp
                · omega
                simp (maxSteps := 10000000) only [↓exA, exB, exC, exN, exD, exR, tys, ↓reduceIte, Nat.reduceLT, Nat.reduceEqDiff, Nat.reduceAdd, Nat.zero_add, Nat.add_zero, List.map_cons, List.map_nil, Option.map_some, Option.map_none, Option.bind_some, List.length_cons, List.length_nil, List.cons_append, List.nil_append, List.append_nil, List.getElem?_cons_zero, List.getElem?_cons_succ, List.set_cons_zero, List.set_cons_succ, Nat.reduceLeDiff, and_self, and_true, true_and, gval, List.take_zero, List.take_succ_cons, List.drop_zero, List.drop_succ_cons, List.all_cons, List.all_nil, Bool.and_self, Bool.not_true, Bool.not_false, beq_true, beq_false, decide_true, decide_false, eq_self, Nat.reducePow, g29]
                refine ⟨m - 1, by omega, _, j' + 1, ext2.length + 1, ext2.length + 3, _, rfl, rfl, ?_, ?_, ?_, ?_, ?_, ?_, by omega, by omega, by omega, ?_, ?_, by omega⟩
                all_goals (try simp (maxSteps := 10000000) only [↓exA, exB, exC, exN, exD, exR, tys, ↓reduceIte, Nat.reduceLT, Nat.reduceEqDiff, Nat.reduceAdd, Nat.zero_add, Nat.add_zero, List.map_cons, List.map_nil, Option.map_some, Option.map_none, Option.bind_some, List.length_cons, List.length_nil, List.cons_append, List.nil_append, List.append_nil, List.getElem?_cons_zero, List.getElem?_cons_succ, List.set_cons_zero, List.set_cons_succ, Nat.reduceLeDiff, and_self, and_true, true_and, gval, List.take_zero, List.take_succ_cons, List.drop_zero, List.drop_succ_cons, List.all_cons, List.all_nil, Bool.and_self, Bool.not_true, Bool.not_false, beq_true, beq_false, decide_true, decide_false, eq_self, Nat.reducePow, g5', g27, g28])
                · simp
                · simp
                · rw [wrap_i64 (by omega) (by omega)]; simp
                · rw [(heap2 m21 m22 mkk ml1 ml2).2.2.2.1]; simp [lineL, List.range_succ]
                · rw [(heap2 m21 m22 mkk ml1 ml2).2.2.2.2, List.replicate_succ']
              · have hj : j' = 60 := by omega
                subst hj
                have u0 := z0' ext2
                have ul : rd isF (.slice (some ⟨nb H2 l1, 0, none⟩) 60 60) (hp H2 ext2) = some (lineL base slope 60) := rd_new _ _ el1 (mapM_isF _) (by simp [lineL]) (by omega)
                have ub : rd isB (.slice (some ⟨nb H2 l2, 0, none⟩) 60 60) (hp H2 ext2) = some (List.replicate 60 true) := rd_new _ _ el2 (by have := mapM_isB (List.replicate 60 true); simpa using this) (by simp) (by omega)
                have ap1 : apart (.slice (some ⟨nb H2 l1, 0, none⟩) 60 60) p0 = true := by
                  have : nb H2 l1 ≠ p0 := by unfold nb; omega
                  simp [apart, this]
                have ap2 : apart (.slice (some ⟨nb H2 l2, 0, none⟩) 60 60) p0 = true := by
                  have : nb H2 l2 ≠ p0 := by unfold nb; omega
                  simp [apart, this]
                have hg3 : p0 < (hp H2 ext2).length := (List.getElem?_eq_some_iff.1 u0).1
                have hpre3 : H <+: hp H2 ext2 := hpre2.trans ⟨_, rfl⟩
                obtain ⟨H3, hH3⟩ : ∃ H3, hp H2 ext2 = hp H3 [] := ⟨_, (hp_nil _).symm⟩
                rw [hH3] at u0 ul ub hg3 hpre3 ⊢
                rw [hp_nil] at u0 ul ub hg3 hpre3
                generalize nb H2 l1 = q3 at *
                generalize nb H2 l2 = q4 at *
                have u0' := fun e => hp_old u0 e
                obtain ⟨t2, ex2, hrun2, hcS, hcL⟩ := good.line
                have ul3 : ∀ b e, rd isF (.slice (some ⟨q3, 0, none⟩) 60 60) (hp (H3.set p0 b) e) = some (lineL base slope 60) := fun b e => rd_hp (by rw [rd_set ap1]; exact ul) e
                have ub3 : ∀ b e, rd isB (.slice (some ⟨q4, 0, none⟩) 60 60) (hp (H3.set p0 b) e) = some (List.replicate 60 true) := fun b e => rd_hp (by rw [rd_set ap2]; exact ub) e
                have hr3 : ∀ b e, gRun [.agg ⟨[.float .f32 t.l, .float .f32 t.s, .float .f32 t.a, .float .f32 t.b, .float .f32 t.c, .float .f32 t.n, .float .f32 1048576000, .float .f32 1048576000]⟩, .slice (some ⟨q3, 0, none⟩) 60 60, .slice (some ⟨q4, 0, none⟩) 60 60] (hp (H3.set p0 b) e) = some (.tuple ⟨[t2.val, (mkF ex2 (hp (H3.set p0 b) e)).1, .bool true]⟩, (mkF ex2 (hp (H3.set p0 b) e)).2) := fun b e => gRun_eq (t := t.quick) (ul3 b e) (ub3 b e) good.okq good.ser hrun2
                unfold gapF at hcS hcL
                obtain ⟨ca, cn', cc, crow⟩ := rd_row (ul3 (Blk.live false [.float .f32 t.l, .float .f32 t.s, .float .f32 t.a, .float .f32 t.b, .float .f32 t.c, .float .f32 t.n, .float .f32 1048576000, .float .f32 1048576000]) [])
                have ce := crow.eq
                cases ce
                have h59 : 59 < (lineL base slope 60).length := by simp [lineL]
                obtain ⟨b5, off5, lk5, cs5, v5, hb5, hbb5, hv5, hx5⟩ := crow.get 59 _ (List.getElem?_eq_getElem h59)
                have hvv5 := isF_eq hx5; subst hvv5; cases hb5
                rw [Nat.zero_add] at hv5
                have hl59 : (lineL base slope 60)[59] = lineX base slope 59 := by simp [lineL]
                rw [hl59] at hv5
                rw [hp_nil] at hbb5
                have hbb5' := fun e => hp_old hbb5 e
                have i0 : (0 : Int) ≤ 59 := by decide
                have i1 : (59 : Int) < ((60 : Nat) : Int) := by decide
                have i2 : Int.toNat 59 = 59 := rfl
                simp (maxSteps := 10000000) only [↓exA, exB, exC, exN, exD, exR, tys, ↓reduceIte, Nat.reduceLT, Nat.reduceEqDiff, Nat.reduceAdd, Nat.zero_add, Nat.add_zero, List.map_cons, List.map_nil, Option.map_some, Option.map_none, Option.bind_some, List.length_cons, List.length_nil, List.cons_append, List.nil_append, List.append_nil, List.getElem?_cons_zero, List.getElem?_cons_succ, List.set_cons_zero, List.set_cons_succ, Nat.reduceLeDiff, and_self, and_true, true_and, gval, List.take_zero, List.take_succ_cons, List.drop_zero, List.drop_succ_cons, List.all_cons, List.all_nil, Bool.and_self, Bool.not_true, Bool.not_false, beq_true, beq_false, decide_true, decide_false, eq_self, Nat.reducePow, g5', g25, g26, g27, g28, g29, u0', oldset hg3, i0, i1, i2, hbb5', hv5, h11, hr3, Tr.val, getElem?_app_len, set_app_len, fconv_w64, h17, gGap_eq, hcS, hcL]
                refine fits_pre rfl ?_
                obtain ⟨e3, he3⟩ := hpre3
                have hp0 : H.length ≤ p0 := hg0
                subst he3
                unfold hp
                rw [List.set_append_right _ _ hp0, List.append_assoc]
                exact ⟨_, rfl⟩
            · refine ⟨_, 0, 2, 3, _, rfl, rfl, ?_, ?_, ?_, ?_, ?_, ?_, by omega, by omega, by omega, rfl, rfl, rfl⟩
              all_goals (try simp (maxSteps := 10000000) only [↓exA, exB, exC, exN, exD, exR, tys, ↓reduceIte, Nat.reduceLT, Nat.reduceEqDiff, Nat.reduceAdd, Nat.zero_add, Nat.add_zero, List.map_cons, List.map_nil, Option.map_some, Option.map_none, Option.bind_some, List.length_cons, List.length_nil, List.cons_append, List.nil_append, List.append_nil, List.getElem?_cons_zero, List.getElem?_cons_succ, List.set_cons_zero, List.set_cons_succ, Nat.reduceLeDiff, and_self, and_true, true_and, gval, List.take_zero, List.take_succ_cons, List.drop_zero, List.drop_succ_cons, List.all_cons, List.all_nil, Bool.and_self, Bool.not_true, Bool.not_false, beq_true, beq_false, decide_true, decide_false, eq_self, Nat.reducePow, g1, g5])
              all_goals (try rfl)
        · refine ⟨_, 0, rfl, rfl, ?_, ?_, ?_, ?_, ?_, ?_, by omega⟩
          all_goals (try simp (maxSteps := 10000000) only [↓exA, exB, exC, exN, exD, exR, tys, ↓reduceIte, Nat.reduceLT, Nat.reduceEqDiff, Nat.reduceAdd, Nat.zero_add, Nat.add_zero, List.map_cons, List.map_nil, Option.map_some, Option.map_none, Option.bind_some, List.length_cons, List.length_nil, List.cons_append, List.nil_append, List.append_nil, List.getElem?_cons_zero, List.getElem?_cons_succ, List.set_cons_zero, List.set_cons_succ, Nat.reduceLeDiff, and_self, and_true, true_and, gval, List.take_zero, List.take_succ_cons, List.drop_zero, List.drop_succ_cons, List.all_cons, List.all_nil, Bool.and_self, Bool.not_true, Bool.not_false, beq_true, beq_false, decide_true, decide_false, eq_self, Nat.reducePow, f1, f5, f6, f7, f8, f9, f10, f11])
          all_goals (try rfl)
    · refine ⟨_, 0, 2, 3, _, rfl, rfl, ?_, ?_, ?_, ?_, ?_, ?_, ?_, ?_, rfl, rfl, by omega, by omega, by omega, rfl, rfl, by omega⟩
      all_goals (try simp (maxSteps := 10000000) only [↓exA, exB, exC, exN, exD, exR, tys, ↓reduceIte, Nat.reduceLT, Nat.reduceEqDiff, Nat.reduceAdd, Nat.zero_add, Nat.add_zero, List.map_cons, List.map_nil, Option.map_some, Option.map_none, Option.bind_some, List.length_cons, List.length_nil, List.cons_append, List.nil_append, List.append_nil, List.getElem?_cons_zero, List.getElem?_cons_succ, List.set_cons_zero, List.set_cons_succ, Nat.reduceLeDiff, and_self, and_true, true_and, gval, List.take_zero, List.take_succ_cons, List.drop_zero, List.drop_succ_cons, List.all_cons, List.all_nil, Bool.and_self, Bool.not_true, Bool.not_false, beq_true, beq_false, decide_true, decide_false, eq_self, Nat.reducePow])
      all_goals (try rfl)
      simp [aheadL]

end Go.Proofs.Ytnhhdgopgecggaa.Abs
