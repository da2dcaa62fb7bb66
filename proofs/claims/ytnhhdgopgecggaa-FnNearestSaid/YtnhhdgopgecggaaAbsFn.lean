/- The abstract machine: functions. What 'W' tells of a function's body makes the function sound; what a call leaves behind may be told anew, without what nobody looks at. No condition. -/
import Derived.Test.YtnhhdgopgecggaaAbsW
set_option linter.unusedVariables false
set_option linter.unusedSimpArgs false
namespace Go.Proofs.Ytnhhdgopgecggaa.Abs
open Go

/-! ### Telling an outcome anew -/
abbrev Anew := Nat → Option (Nat × Nat)
mutual
/-- A value that holds no address. -/
def bare : Value → Bool
  | .bool _ | .int _ _ | .string _ | .pointer none | .nilFunc | .nilIface | .float _ _ | .complex _ _ _ => true
  | .slice none 0 0 => true
  | .func _ ⟨f⟩ ⟨c⟩ => bareL f && bareL c
  | .agg ⟨l⟩ | .tuple ⟨l⟩ => bareL l
  | .iface _ v => bare v
  | _ => false
def bareL : List Value → Bool
  | [] => true
  | v :: l => bare v && bareL l
end
mutual
inductive RV (ρ : Anew) : Value → Value → Prop
  | same {v : Value} (h : bare v = true) : RV ρ v v
  | ptr {b off b1 o : Nat} (h : ρ b = some (b1, o)) : RV ρ (.pointer (some ⟨b, off, none⟩)) (.pointer (some ⟨b1, o + off, none⟩))
  | slice {b off n b1 o : Nat} (h : ρ b = some (b1, o)) : RV ρ (.slice (some ⟨b, off, none⟩) n n) (.slice (some ⟨b1, o + off, none⟩) n n)
  | func (fn : Fn) {f f' c c' : List Value} (hf : RVL ρ f f') (hc : RVL ρ c c') : RV ρ (.func fn ⟨f⟩ ⟨c⟩) (.func fn ⟨f'⟩ ⟨c'⟩)
  | iface (t : TypeId) {v v' : Value} (h : RV ρ v v') : RV ρ (.iface t v) (.iface t v')
  | agg {l l' : List Value} (h : RVL ρ l l') : RV ρ (.agg ⟨l⟩) (.agg ⟨l'⟩)
  | tuple {l l' : List Value} (h : RVL ρ l l') : RV ρ (.tuple ⟨l⟩) (.tuple ⟨l'⟩)
inductive RVL (ρ : Anew) : List Value → List Value → Prop
  | nil : RVL ρ [] []
  | cons {v v' : Value} {l l' : List Value} (h : RV ρ v v') (t : RVL ρ l l') : RVL ρ (v :: l) (v' :: l')
end

mutual
theorem VR.bare_any {μ ν : Ren} : ∀ {v v' : Value}, VR μ v v' → bare v = true → VR ν v v'
  | _, _, .bool b, _ => .bool b
  | _, _, .int k n, _ => .int k n
  | _, _, .float k x, _ => .float k x
  | _, _, .complex k x y, _ => .complex k x y
  | _, _, .string s, _ => .string s
  | _, _, .ptrNil, _ => .ptrNil
  | _, _, .ptr _, h => by simp [bare] at h
  | _, _, .sliceNil, _ => .sliceNil
  | _, _, .slice0 _, h => by simp [bare] at h
  | _, _, .slice _ _ _, h => by simp [bare] at h
  | _, _, .func fn hf hc, h => by
    simp only [bare, Bool.and_eq_true] at h
    exact .func fn (VRL.bare_any hf h.1) (VRL.bare_any hc h.2)
  | _, _, .nilFunc, _ => .nilFunc
  | _, _, .iface t hv, h => .iface t (VR.bare_any hv (by simpa [bare] using h))
  | _, _, .nilIface, _ => .nilIface
  | _, _, .agg hl, h => .agg (VRL.bare_any hl (by simpa [bare] using h))
  | _, _, .tuple hl, h => .tuple (VRL.bare_any hl (by simpa [bare] using h))
theorem VRL.bare_any {μ ν : Ren} : ∀ {l l' : List Value}, VRL μ l l' → bareL l = true → VRL ν l l'
  | _, _, .nil, _ => .nil
  | _, _, .cons h t, hc => by
    simp only [bareL, Bool.and_eq_true] at hc
    exact .cons (VR.bare_any h hc.1) (VRL.bare_any t hc.2)
end

def Ren.anew (μ : Ren) (ρ : Anew) : Ren := fun b => (ρ b).bind fun x => (μ x.1).map fun y => (y.1, y.2.1 + x.2, y.2.2)

mutual
theorem RV.comp {ρ : Anew} {μ : Ren} : ∀ {v v1 v' : Value}, RV ρ v v1 → VR μ v1 v' → VR (μ.anew ρ) v v'
  | _, _, _, .same h, hv => hv.bare_any h
  | _, _, _, .ptr (b := b) (off := off) (b1 := b1) (o := o) h, hv => by
    obtain ⟨c, base, size, hm, rfl⟩ := hv.ptr_inv
    have : (μ.anew ρ) b = some (c, base + o, size) := by simp [Ren.anew, h, hm]
    rw [← Nat.add_assoc]; exact .ptr this
  | _, _, _, .slice (b := b) (off := off) (n := n) (b1 := b1) (o := o) h, hv => by
    cases hv with
    | slice0 hm =>
      rename_i a x
      obtain ⟨c, base, size⟩ := x
      have : (μ.anew ρ) b = some (c, base + o, size) := by simp [Ren.anew, h, hm]
      exact .slice0 this
    | slice hm g1 g2 =>
      rename_i cap c base size
      have : (μ.anew ρ) b = some (c, base + o, size) := by simp [Ren.anew, h, hm]
      rw [← Nat.add_assoc]; exact .slice this g1 (by omega)
  | _, _, _, .func fn hf hc, hv => by
    cases hv with
    | func _ h1 h2 => exact .func fn (RVL.comp hf h1) (RVL.comp hc h2)
  | _, _, _, .iface t h, hv => by
    cases hv with
    | iface _ h1 => exact .iface t (RV.comp h h1)
  | _, _, _, .agg h, hv => by
    cases hv with
    | agg h1 => exact .agg (RVL.comp h h1)
  | _, _, _, .tuple h, hv => by
    cases hv with
    | tuple h1 => exact .tuple (RVL.comp h h1)
theorem RVL.comp {ρ : Anew} {μ : Ren} : ∀ {l l1 l' : List Value}, RVL ρ l l1 → VRL μ l1 l' → VRL (μ.anew ρ) l l'
  | _, _, _, .nil, hv => by cases hv; exact .nil
  | _, _, _, .cons h t, hv => by
    cases hv with
    | cons h1 t1 => exact .cons (RV.comp h h1) (RVL.comp t t1)
end

/-- The outcome (r1, H1) of a run from H may be told as (r, H'). -/
structure FitsBy (ρ : Anew) (H : AHeap) (r : Value) (H' : AHeap) (r1 : Value) (H1 : AHeap) : Prop where
  old : ∀ b, b < H.length → ρ b = some (b, 0)
  dom : ∀ b x, ρ b = some x → b < H'.length
  up : ∀ b b1 o, ρ b = some (b1, o) → H.length ≤ b → H.length ≤ b1
  cont : ∀ (b b1 o : Nat) lk cs, ρ b = some (b1, o) → H'[b]? = some (.live lk cs) →
    (b < H.length ∧ H1[b]? = H[b]? ∧ H'[b]? = H[b]?) ∨
    (∃ cs1, H1[b1]? = some (.live lk cs1) ∧ o + cs.length ≤ cs1.length ∧ ∀ (i : Nat) v, cs[i]? = some v → ∃ v1, cs1[o + i]? = some v1 ∧ RV ρ v v1)
  inj : ∀ b b' b1 o o', ρ b = some (b1, o) → ρ b' = some (b1, o') → Alive H' b → Alive H' b' → b = b'
  len : H.length ≤ H'.length
  lock : ∀ (b : Nat) cs, H[b]? = some (.live true cs) → H'[b]? = some (.live true cs)
  dead : ∀ (b : Nat), H[b]? = some .dead → H'[b]? = some .dead
  unl : ∀ (b : Nat) cs, b < H.length → H'[b]? = some (.live true cs) → H[b]? = some (.live true cs)
  val : RV ρ r r1
def Fits (H : AHeap) (r : Value) (H' : AHeap) (r1 : Value) (H1 : AHeap) : Prop := ∃ ρ, FitsBy ρ H r H' r1 H1

theorem refit {μ μ1 : Ren} {H H1 H' : AHeap} {w0 w : World} {r r1 v' : Value} (r0 : Rel μ H w0) (rel : Rel μ1 H1 w) (k : Keep μ H w0 μ1 H1 w) (hv : VR μ1 r1 v') (hf : Fits H r H' r1 H1) : Out μ H w0 r H' v' w := by
  obtain ⟨ρ, f⟩ := hf
  have inv : ∀ b c base size, (μ1.anew ρ) b = some (c, base, size) → ∃ b1 o base1, ρ b = some (b1, o) ∧ μ1 b1 = some (c, base1, size) ∧ base = base1 + o := by
    intro b c base size h
    unfold Ren.anew at h
    cases hr : ρ b with
    | none => simp [hr] at h
    | some x =>
      obtain ⟨b1, o⟩ := x
      simp only [hr, Option.bind_some, Option.map_eq_some_iff] at h
      obtain ⟨⟨c', base1, size'⟩, h1, h2⟩ := h
      simp at h2
      obtain ⟨rfl, rfl, rfl⟩ := h2
      exact ⟨b1, o, base1, rfl, h1, rfl⟩
  have oldm : ∀ b, b < H.length → (μ1.anew ρ) b = μ1 b := by
    intro b hb
    unfold Ren.anew
    rw [f.old b hb]
    simp only [Option.bind_some, Nat.add_zero]
    cases μ1 b <;> rfl
  have cutle : (μ1.cut H.length).le (μ1.anew ρ) := by
    intro b x h
    unfold Ren.cut at h
    split at h
    · rename_i hb; rw [oldm b hb]; exact h
    · cases h
  have alive1 : ∀ b b1 o, ρ b = some (b1, o) → Alive H' b → Alive H1 b1 := by
    rintro b b1 o hb ⟨lk, cs, h⟩
    rcases f.cont b b1 o lk cs hb h with ⟨h1, h2, h3⟩ | ⟨cs1, h1, _⟩
    · have := f.old b h1
      rw [hb] at this; cases this
      exact ⟨lk, cs, by rw [h2, ← h3]; exact h⟩
    · exact ⟨lk, cs1, h1⟩
  have ulive1 : ∀ b b1 o, ρ b = some (b1, o) → Ulive H' b → Ulive H1 b1 := by
    rintro b b1 o hb ⟨cs, h⟩
    rcases f.cont b b1 o false cs hb h with ⟨h1, h2, h3⟩ | ⟨cs1, h1, _⟩
    · have := f.old b h1
      rw [hb] at this; cases this
      exact ⟨cs, by rw [h2, ← h3]; exact h⟩
    · exact ⟨cs1, h1⟩
  refine ⟨μ1.anew ρ, ⟨?_, ?_, ?_, ?_, ?_, ?_, ?_⟩, ⟨k.os, k.tape, k.output, k.size, k.blk, ?_, ?_, f.len, f.lock, f.dead, f.unl⟩, f.val.comp hv⟩
  · intro b x h
    obtain ⟨c, base, size⟩ := x
    obtain ⟨b1, o, base1, h1, _⟩ := inv b c base size h
    exact f.dom b _ h1
  · intro b c base size h
    obtain ⟨b1, o, base1, h1, h2, _⟩ := inv b c base size h
    exact rel.lt _ _ _ _ h2
  · intro b c base size h ha
    obtain ⟨b1, o, base1, h1, h2, _⟩ := inv b c base size h
    exact rel.tgt b1 c base1 size h2 (alive1 b b1 o h1 ha)
  · intro b c base size lk cs h hH
    obtain ⟨b1, o, base1, h1, h2, rfl⟩ := inv b c base size h
    rcases f.cont b b1 o lk cs h1 hH with ⟨g1, g2, g3⟩ | ⟨cs1, g1, g2, _⟩
    · have := f.old b g1
      rw [h1] at this; cases this
      exact rel.fits b c base1 size lk cs h2 (by rw [g2, ← g3]; exact hH)
    · have := rel.fits b1 c base1 size lk cs1 h2 g1
      omega
  · intro b c base size lk cs i v h hH hi
    obtain ⟨b1, o, base1, h1, h2, rfl⟩ := inv b c base size h
    rcases f.cont b b1 o lk cs h1 hH with ⟨g1, g2, g3⟩ | ⟨cs1, g1, g2, g4⟩
    · have := f.old b g1
      rw [h1] at this; cases this
      obtain ⟨u, e1, e2⟩ := rel.cell b c base1 size lk cs i v h2 (by rw [g2, ← g3]; exact hH) hi
      refine ⟨u, e1, VR.mono cutle (e2.cut ?_)⟩
      have hm : μ b = some (c, base1, size) := by rw [← k.ren b g1]; exact h2
      obtain ⟨u0, _, e4⟩ := r0.cell b c base1 size lk cs i v hm (by rw [← g3]; exact hH) hi
      exact e4.bel r0.dom
    · obtain ⟨v1, q1, q2⟩ := g4 i v hi
      obtain ⟨u, e1, e2⟩ := rel.cell b1 c base1 size lk cs1 (o + i) v1 h2 g1 q1
      exact ⟨u, by rw [Nat.add_assoc]; exact e1, q2.comp e2⟩
  · intro b c base size cs h hH i hi
    obtain ⟨b1, o, base1, h1, h2, rfl⟩ := inv b c base size h
    rcases f.cont b b1 o false cs h1 hH with ⟨g1, g2, g3⟩ | ⟨cs1, g1, _⟩
    · have := f.old b g1
      rw [h1] at this; cases this
      exact rel.free b c base1 size cs h2 (by rw [g2, ← g3]; exact hH) i hi
    · exact rel.free b1 c base1 size cs1 h2 g1 i hi
  · intro b b' c base size base' size' h h' ha ha' hu
    obtain ⟨b1, o, base1, h1, h2, rfl⟩ := inv b c base size h
    obtain ⟨b1', o', base1', h1', h2', rfl⟩ := inv b' c base' size' h'
    have := rel.inj b1 b1' c base1 size base1' size' h2 h2' (alive1 b b1 o h1 ha) (alive1 b' b1' o' h1' ha') (hu.imp (ulive1 b b1 o h1) (ulive1 b' b1' o' h1'))
    subst this
    exact f.inj b b' b1 o o' h1 h1' ha ha'
  · intro b hb
    rw [oldm b hb]; exact k.ren b hb
  · intro b c base size hb h
    obtain ⟨b1, o, base1, h1, h2, rfl⟩ := inv b c base size h
    exact k.new b1 c base1 size (f.up b b1 o h1 hb) h2

/-! ### Functions -/
def aRes1 (P : Program) (t : List Value) (H : AHeap) : ResultVar → Option Value
  | .tmp i => some (t.getD i Go.undef)
  | .cell a ty => aLoad P ty (t.getD a Go.undef) H
def aRes (P : Program) (fn : Func) (t : List Value) (H : AHeap) : Option Value :=
  match fn.results.toList with
  | [x] => aRes1 P t H x
  | xs => (xs.mapM (aRes1 P t H)).map fun l => .tuple ⟨l⟩

def resSem (tmps : Array Value) : ResultVar → Sem Value
  | .tmp t => pure (tmps.getD t Go.undef)
  | .cell a ty => do loadVar ty (← asAddr (tmps.getD a Go.undef))
theorem results_eq (fn : Func) (tmps : Array Value) : results fn tmps = (do
    let vs ← fn.results.toList.mapM (resSem tmps)
    pure (if h : vs.toArray.size = 1 then vs.toArray[0] else .tuple vs.toArray)) := by
  have key : ∀ g : ResultVar → Sem Value, g = resSem tmps → (do
      let vs ← fn.results.mapM g
      pure (if h : vs.size = 1 then vs[0] else .tuple vs) : Sem Value) = (do
      let vs ← fn.results.toList.mapM (resSem tmps)
      pure (if h : vs.toArray.size = 1 then vs.toArray[0] else .tuple vs.toArray)) := by
    rintro g rfl
    rw [Array.mapM_eq_mapM_toList]
    simp only [map_eq_pure_bind, bind_assoc, pure_bind]
  exact key _ (by funext x; cases x <;> rfl)

theorem res1_sound {P : Program} {t : List Value} {H : AHeap} {μ : Ren} {w : World} {tmps : Array Value} (ht : VRL μ t tmps.toList) (r : Rel μ H w) {x : ResultVar} {v : Value} (h : aRes1 P t H x = some v) :
    ∃ v', (resSem tmps x).run P w = .ok v' w ∧ VR μ v v' := by
  have hg : ∀ i, VR μ (t.getD i Go.undef) (tmps.getD i Go.undef) := fun i => by
    have := ht.getD i
    simpa [List.getD_eq_getElem?_getD, Array.getD_eq_getD_getElem?] using this
  cases x with
  | tmp i =>
    simp only [aRes1, Option.some.injEq] at h; subst h
    exact ⟨_, rfl, hg i⟩
  | cell a ty =>
    simp only [aRes1] at h
    obtain ⟨v', h1, h2⟩ := snd_load (P := P) r (hg a) h
    refine ⟨v', ?_, h2⟩
    have ha := hg a
    unfold aLoad at h
    split at h
    · rename_i b off e
      rw [e] at ha
      generalize hz : tmps.getD a Go.undef = z at ha h1
      cases ha with
      | ptr hm =>
        simp only [resSem, hz, asAddr, Sem.run_bind, Sem.run_pure, Result.andThen_ok]
        simpa [Instr.loadAt, Instr.sureAddr] using h1
    · cases h

theorem res_sound {P : Program} {fn : Func} {t : List Value} {H : AHeap} {μ : Ren} {w : World} {tmps : Array Value} (ht : VRL μ t tmps.toList) (r : Rel μ H w) {v : Value} (h : aRes P fn t H = some v) :
    ∃ v', (results fn tmps).run P w = .ok v' w ∧ VR μ v v' := by
  have many : ∀ (xs : List ResultVar) (l : List Value), xs.mapM (aRes1 P t H) = some l →
      ∃ l', (xs.mapM (resSem tmps)).run P w = .ok l' w ∧ VRL μ l l' := by
    intro xs
    induction xs with
    | nil => intro l h; simp at h; subst h; exact ⟨[], by simp, .nil⟩
    | cons x xs ih =>
      intro l h
      simp only [List.mapM_cons, Option.bind_eq_bind, Option.bind_eq_some_iff, Option.pure_def, Option.some.injEq] at h
      obtain ⟨u, hu, us, hus, rfl⟩ := h
      obtain ⟨u', h1, h2⟩ := res1_sound (P := P) ht r hu
      obtain ⟨us', h3, h4⟩ := ih us hus
      refine ⟨u' :: us', ?_, .cons h2 h4⟩
      simp only [List.mapM_cons, Sem.run_bind, h1, h3, Result.andThen_ok, Sem.run_pure]
  have hmap : ∀ (l' : List Value), (fn.results.toList.mapM (resSem tmps)).run P w = .ok l' w →
      (results fn tmps).run P w = .ok (if h : l'.toArray.size = 1 then l'.toArray[0] else .tuple l'.toArray) w := by
    intro l' h
    rw [results_eq]
    simp only [Sem.run_bind, h, Result.andThen_ok, Sem.run_pure]
  unfold aRes at h
  split at h
  · rename_i x e
    obtain ⟨l', h1, h2⟩ := many [x] [v] (by simp [h])
    rw [← e] at h1
    cases h2 with
    | cons hv hn =>
      cases hn
      rename_i v'
      exact ⟨v', by rw [hmap _ h1]; rfl, hv⟩
  · rename_i xs hne
    simp only [Option.map_eq_some_iff] at h
    obtain ⟨l, hl, rfl⟩ := h
    obtain ⟨l', h1, h2⟩ := many _ l hl
    refine ⟨.tuple l'.toArray, ?_, .tuple h2⟩
    have hl1 : l.length ≠ 1 := by
      intro h1
      cases hr : fn.results.toList with
      | nil => rw [hr] at hl; simp at hl; subst hl; simp at h1
      | cons x ys =>
        cases ys with
        | nil => exact hne x hr
        | cons y zs =>
          rw [hr] at hl
          simp only [List.mapM_cons, Option.bind_eq_bind, Option.bind_eq_some_iff, Option.pure_def, Option.some.injEq] at hl
          obtain ⟨_, _, _, ⟨_, _, _, _, rfl⟩, rfl⟩ := hl
          simp at h1
    rw [hmap _ h1, dif_neg (by rw [List.size_toArray, ← h2.length]; exact hl1)]

def fnQ (P : Program) (fn : Func) (K : Value → AHeap → Prop) : Post
  | .normal, t, H => ∃ v, aRes P fn t H = some v ∧ K v H
  | .ret, t, H => ∃ v, aRes P fn t H = some v ∧ K v H
  | _, _, _ => False

def start (fn : Func) (args : List Value) : List Value := args ++ List.replicate (fn.ntmps - args.length) Go.undef

theorem fn_sound {gs : List Nat} {P : Program} {G : Env} (hG : SoundEnv gs P G) (hmix : P.follows .mixedOrders = true) {f : FuncId} {fn : Func} {c : Code} (hf : P.funcs[f]? = some fn) (hb : fn.body = some c) (hnm : (fn.name == "runtime.NumGoroutine") = false)
    (hok : codeOK gs c = true) {g : List Value → AHeap → Option (Value × AHeap)} (h : ∀ args H r H', g args H = some (r, H') → W P G c (fnQ P fn fun r1 H1 => Fits H r H' r1 H1) (start fn args) H) : Sound gs P f g := by
  intro args H r H' hg μ cargs w rel hgl hargs
  left
  constructor
  · simp only [callFunc, Sem.run_bind, run_program, Result.andThen_ok, hf, hnm, hb, Option.isNone_some, Bool.false_eq_true, if_false, Sem.run_pure]
  · refine calls_of_wp hf hb ?_
    refine W_sound hG hmix c hok (fnQ P fn fun r1 H1 => Fits H r H' r1 H1) _ μ H w ?_ _ w ⟨start fn args, H, μ, h args H r H' hg, rfl, ?_, rel, hgl, Keep.refl μ H w rel.dom⟩
    · intro e a w' ha
      obtain ⟨t, H1, μ1, hq, hd, ht, r1, hg1, k⟩ := ha
      have key : (∃ v, aRes P fn t H1 = some v ∧ Fits H r H' v H1) → a.defers = [] ∧ ∃ v, (results fn a.tmps).run P w' = .ok v w' ∧ ∃ v_1, Ending.returned v = Ending.returned v_1 ∧ Out μ H w r H' v_1 w' := by
        rintro ⟨v, hv, hfit⟩
        obtain ⟨v', h1, h2⟩ := res_sound (P := P) ht r1 hv
        exact ⟨hd, v', h1, v', rfl, refit rel r1 k h2 hfit⟩
      cases e with
      | normal => exact key hq
      | ret => exact key hq
      | exit id => exact hq.elim
      | goto l => exact hq.elim
      | panic c => exact hq.elim
      | outgrown => exact hq.elim
    · unfold start
      have : (cargs.toArray ++ Array.replicate (fn.ntmps - cargs.toArray.size) Go.undef).toList = cargs ++ List.replicate (fn.ntmps - args.length) Go.undef := by
        simp [hargs.length]
      show VRL μ _ (cargs.toArray ++ Array.replicate (fn.ntmps - cargs.toArray.size) Go.undef).toList
      rw [this]
      exact hargs.append (VRL.replicate (VR.undef μ) _)

/-! ### The environment -/
def Env.none : Env := fun _ _ _ => Option.none
def Env.put (G : Env) (f : FuncId) (g : List Value → AHeap → Option (Value × AHeap)) : Env := fun i => if i = f then g else G i
theorem Env.none_sound (gs : List Nat) (P : Program) : SoundEnv gs P Env.none := fun f args H r H' h => by cases h
theorem Env.put_sound {gs : List Nat} {P : Program} {G : Env} {f : FuncId} {g : List Value → AHeap → Option (Value × AHeap)} (hG : SoundEnv gs P G) (h : Sound gs P f g) : SoundEnv gs P (G.put f g) := by
  intro i
  unfold Env.put
  split
  · rename_i e; subst e; exact h
  · exact hG i

end Go.Proofs.Ytnhhdgopgecggaa.Abs
