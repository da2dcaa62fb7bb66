/- The abstract machine, operations (2): literals, slices, fields, elements, numbers. No condition. -/
import Derived.Test.YtnhhdgopgecggaaAbsO
set_option linter.unusedVariables false
set_option linter.unusedSimpArgs false
namespace Go.Proofs.Ytnhhdgopgecggaa.Abs
open Go

/-! ### Literals -/
theorem VRL.foldl_set {μ : Ren} : ∀ (vs vs' : List (Value × Nat)) (cs cs' : Array Value) (off : Nat), VRL μ cs.toList cs'.toList →
    (List.length vs = List.length vs') → (∀ (i : Nat) x, vs[i]? = some x → ∃ x', vs'[i]? = some x' ∧ VR μ x.1 x'.1 ∧ x.2 = x'.2) →
    VRL μ (vs.foldl (fun cs (c : Value × Nat) => cs.setIfInBounds (off + c.2) c.1) cs).toList (vs'.foldl (fun cs (c : Value × Nat) => cs.setIfInBounds (off + c.2) c.1) cs').toList := by
  intro vs
  induction vs with
  | nil => intro vs' cs cs' off h hl _; cases vs' with
    | nil => exact h
    | cons _ _ => simp at hl
  | cons v vs ih =>
    intro vs' cs cs' off h hl hv
    cases vs' with
    | nil => simp at hl
    | cons v' vs' =>
      simp only [List.foldl_cons]
      refine ih vs' _ _ off ?_ (by simpa using hl) (fun i x hi => by simpa using hv (i + 1) x (by simpa using hi))
      obtain ⟨x', h1, h2, h3⟩ := hv 0 v (by simp)
      simp at h1; subst h1
      rw [Array.toList_setIfInBounds, Array.toList_setIfInBounds, h3]
      exact h.set h2 _

theorem VRL.size {μ : Ren} {a b : Array Value} (h : VRL μ a.toList b.toList) : a.size = b.size := by simpa using h.length

theorem VR.csize {μ : Ren} {v v' : Value} (h : VR μ v v') : v.cells.size = v'.cells.size := h.cells.size

theorem fold_cells_size (off : Nat) : ∀ (l : List (Value × Nat)) (cs : Array Value), (l.foldl (fun cs (c : Value × Nat) => cs.setIfInBounds (off + c.2) c.1) cs).size = cs.size := by
  intro l
  induction l with
  | nil => intro cs; rfl
  | cons x l ih => intro cs; rw [List.foldl_cons, ih]; simp

theorem fold_toList (off : Nat) (a : Array (Value × Nat)) (cs : Array Value) :
    a.foldl (fun cs (c : Value × Nat) => cs.setIfInBounds (off + c.2) c.1) cs = a.toList.foldl (fun cs (c : Value × Nat) => cs.setIfInBounds (off + c.2) c.1) cs := by
  rw [Array.foldl_toList]

theorem fill_rel {μ : Ren} (place : Nat → Option (Nat × Nat)) : ∀ (ps ps' : List (Nat × Value)) (cs cs' : Array Value) (out : Array Value), VRL μ cs.toList cs'.toList →
    ps.map (·.1) = ps'.map (·.1) → VRL μ (ps.map (·.2)) (ps'.map (·.2)) → Instr.fill place cs ps = some out → ∃ out', Instr.fill place cs' ps' = some out' ∧ VRL μ out.toList out'.toList := by
  intro ps
  induction ps with
  | nil =>
    intro ps' cs cs' out h hi hv ho
    cases ps' with
    | nil => simp [Instr.fill] at ho ⊢; subst ho; exact h
    | cons _ _ => simp at hi
  | cons p ps ih =>
    intro ps' cs cs' out h hi hv ho
    cases ps' with
    | nil => simp at hi
    | cons p' ps' =>
      obtain ⟨i, v⟩ := p
      obtain ⟨i', v'⟩ := p'
      simp only [List.map_cons, List.cons.injEq] at hi
      obtain ⟨rfl, hi⟩ := hi
      simp only [List.map_cons] at hv
      cases hv with
      | cons hv ht =>
        simp only [Instr.fill] at ho ⊢
        cases hp : place i with
        | none => simp [hp] at ho
        | some q =>
          obtain ⟨off, size⟩ := q
          simp only [hp] at ho
          rw [← hv.csize, ← h.size]
          split at ho
          · cases ho
          · rename_i hc
            simp only []
            rw [if_neg hc]
            refine ih ps' _ _ out ?_ hi ht ho
            rw [fold_toList, fold_toList]
            refine VRL.foldl_set _ _ _ _ off h (by simp [hv.csize]) (fun j x hj => ?_)
            have hj' : (v.cells.toList.zipIdx)[j]? = some x := by simpa using hj
            rw [List.getElem?_zipIdx] at hj'
            simp only [Option.map_eq_some_iff] at hj'
            obtain ⟨u, hu, rfl⟩ := hj'
            obtain ⟨u', h1, h2⟩ := hv.cells.get hu
            refine ⟨(u', 0 + j), ?_, h2, by simp⟩
            have : (v'.cells.toList.zipIdx)[j]? = some (u', 0 + j) := by rw [List.getElem?_zipIdx, h1]; simp
            simpa using this

def aBuild (P : Program) (t : TypeId) (parts : List (Nat × Value)) : Option Value :=
  match zeroT P t with
  | some z =>
    if closed z = true then
      match P.underlying t with
      | some (.struct fields) => if fields.toList.all (fun f => (szT P f.type).isSome) = true then (Instr.fill (fun i => (fields[i]?).bind fun f => (szT P f.type).map fun n => (f.offset, n)) z.cells parts).map .agg else none
      | some (.array _ e) => match szT P e with
        | some n => (Instr.fill (fun i => some (i * n, n)) z.cells parts).map .agg
        | none => none
      | _ => none
    else none
  | none => none

theorem run_mapM_places {P : Program} (w : World) : ∀ (fs : List Field), (∀ f ∈ fs, (szT P f.type).isSome = true) →
    (fs.mapM (m := Sem) fun f => do pure (f.offset, ← sizeOf f.type)).run P w = .ok (fs.map fun f => (f.offset, (szT P f.type).getD 0)) w := by
  intro fs
  induction fs with
  | nil => intro _; simp
  | cons f fs ih =>
    intro h
    obtain ⟨n, hn⟩ := Option.isSome_iff_exists.1 (h f (by simp))
    simp only [List.mapM_cons, Sem.run_bind, run_sizeOf w hn, Result.andThen_ok, Sem.run_pure, ih (fun g hg => h g (by simp [hg])), List.map_cons, hn, Option.getD_some]

theorem fill_place_congr {p q : Nat → Option (Nat × Nat)} : ∀ (ps : List (Nat × Value)) (cs : Array Value) (out : Array Value), (∀ i x, p i = some x → q i = some x) → Instr.fill p cs ps = some out → Instr.fill q cs ps = some out := by
  intro ps
  induction ps with
  | nil => intro cs out _ h; exact h
  | cons x ps ih =>
    intro cs out hpq h
    obtain ⟨i, v⟩ := x
    simp only [Instr.fill] at h ⊢
    cases hp : p i with
    | none => simp [hp] at h
    | some y =>
      simp only [hp] at h
      rw [hpq i y hp]
      simp only []
      split at h
      · cases h
      · rename_i hc; rw [if_neg hc]; exact ih _ _ hpq h

theorem snd_build {P : Program} {μ : Ren} {t : TypeId} {parts parts' : List (Nat × Value)} (w : World) (hi : parts.map (·.1) = parts'.map (·.1)) (hv : VRL μ (parts.map (·.2)) (parts'.map (·.2))) {v : Value} (h : aBuild P t parts = some v) :
    ∃ v', (Instr.build t parts'.toArray).run P w = .ok v' w ∧ VR μ v v' := by
  unfold aBuild at h
  split at h
  · rename_i z hz
    split at h
    · rename_i hc
      have hzz := (VR.of_closed μ z hc).cells
      split at h
      · rename_i fields hu
        split at h
        case isFalse => cases h
        rename_i hall
        simp only [List.all_eq_true] at hall
        simp only [Option.map_eq_some_iff] at h
        obtain ⟨out, ho, rfl⟩ := h
        obtain ⟨out', h1, h2⟩ := fill_rel _ parts parts' z.cells z.cells out hzz hi hv ho
        refine ⟨.agg out', ?_, .agg h2⟩
        have hm := run_mapM_places (P := P) w fields.toList hall
        have e : fields.mapM (m := Sem) (fun f => do pure (f.offset, ← sizeOf f.type)) = List.toArray <$> (fields.toList.mapM fun f => do pure (f.offset, ← sizeOf f.type)) := by
          rw [Array.mapM_eq_mapM_toList]
        simp only [Instr.build, Sem.run_bind, run_zeroValue w hz, Result.andThen_ok, run_underlying hu w]
        rw [e, Sem.run_map, hm]
        simp only [Result.andThen_ok]
        have h1' := fill_place_congr (q := fun i => ((fields.toList.map fun f => (f.offset, (szT P f.type).getD 0)).toArray)[i]?) parts' z.cells out' (fun i x hx => by
          simp only [Option.bind_eq_some_iff, Option.map_eq_some_iff] at hx
          obtain ⟨f, hf, n, hn, rfl⟩ := hx
          have hf' : fields.toList[i]? = some f := by simpa using hf
          simp [List.getElem?_map, hf', hn]) h1
        rw [h1']; rfl
      · rename_i n e hu
        split at h
        · rename_i m hm
          simp only [Option.map_eq_some_iff] at h
          obtain ⟨out, ho, rfl⟩ := h
          obtain ⟨out', h1, h2⟩ := fill_rel _ parts parts' z.cells z.cells out hzz hi hv ho
          refine ⟨.agg out', ?_, .agg h2⟩
          simp only [Instr.build, Sem.run_bind, run_zeroValue w hz, Result.andThen_ok, run_underlying hu w, run_sizeOf w hm]
          rw [h1]; rfl
        · cases h
      · cases h
    · cases h
  · cases h

end Go.Proofs.Ytnhhdgopgecggaa.Abs
