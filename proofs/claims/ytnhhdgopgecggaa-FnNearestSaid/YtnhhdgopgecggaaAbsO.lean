/- The abstract machine, operations: what each operation of the model's code does to abstract values and memory, and that the model does the like, whatever its tape. No condition. -/
import Derived.Test.YtnhhdgopgecggaaAbsF
set_option linter.unusedVariables false
set_option linter.unusedSimpArgs false
namespace Go.Proofs.Ytnhhdgopgecggaa.Abs
open Go

/-! ### What asks neither memory nor tape -/
def ask0 {α : Type} (P : Program) : Sem α → Option α
  | .pure a => some a
  | .program k => ask0 P (k P)
  | .mark _ k => ask0 P k
  | _ => none
theorem ask0_run {α : Type} {P : Program} {s : Sem α} {a : α} (h : ask0 P s = some a) (w : World) : s.run P w = .ok a w := by
  induction s with
  | pure b => simp [ask0] at h; subst h; rfl
  | program k ih => simp only [ask0] at h; simp only [Sem.run]; exact ih P h
  | mark m k ih => simp only [ask0] at h; simp only [Sem.run]; exact ih h
  | _ => simp [ask0] at h

/-! ### Types -/
def aggT (P : Program) (t : TypeId) : Option Bool :=
  match P.underlying t with
  | some (.struct _) | some (.array _ _) => some true
  | some _ => some false
  | none => none
def szT (P : Program) (t : TypeId) : Option Nat := (P.info? t).map (·.size)
def zeroT (P : Program) (t : TypeId) : Option Value := (P.info? t).bind (·.zero)
def bytesT (P : Program) (t : TypeId) : Option Nat := (P.info? t).map (·.bytes)
def elemT (P : Program) (t : TypeId) : Option TypeId :=
  match P.underlying t with
  | some (.slice e) => some e
  | _ => none
def arrT (P : Program) (t : TypeId) : Option (Nat × TypeId) :=
  match P.underlying t with
  | some (.array n e) => some (n, e)
  | _ => none
def fieldT (P : Program) (t : TypeId) (i : Nat) : Option Field :=
  match P.underlying t with
  | some (.struct fs) => fs[i]?
  | _ => none

section
variable {P : Program} {t : TypeId} (w : World)
theorem run_typeInfo {i : TypeInfo} (h : P.info? t = some i) : (typeInfo t).run P w = .ok i w := by simp [typeInfo, h]
theorem run_sizeOf {n : Nat} (h : szT P t = some n) : (sizeOf t).run P w = .ok n w := by
  simp only [szT, Option.map_eq_some_iff] at h
  obtain ⟨i, h, rfl⟩ := h
  simp [sizeOf, typeInfo, h]
theorem run_zeroValue {v : Value} (h : zeroT P t = some v) : (zeroValue t).run P w = .ok v w := by
  simp only [zeroT, Option.bind_eq_some_iff] at h
  obtain ⟨i, h, h'⟩ := h
  simp [zeroValue, typeInfo, h, h']
theorem run_isAgg {b : Bool} (h : aggT P t = some b) : (isAgg t).run P w = .ok b w := by
  unfold aggT at h
  split at h
  · rename_i fs e; cases h; simp [isAgg, underlying, e]
  · rename_i n e' e; cases h; simp [isAgg, underlying, e]
  · rename_i d hs ha e; cases h
    simp only [isAgg, underlying, Sem.run_bind, run_program, Result.andThen_ok, e, Sem.run_pure]
  · cases h
theorem und_elem {e : TypeId} (h : elemT P t = some e) : P.underlying t = some (.slice e) := by
  unfold elemT at h; split at h
  · rename_i e' h'; cases h; exact h'
  · cases h
theorem und_arr {n : Nat} {e : TypeId} (h : arrT P t = some (n, e)) : P.underlying t = some (.array n e) := by
  unfold arrT at h; split at h
  · rename_i n' e' h'; cases h; exact h'
  · cases h
theorem und_field {i : Nat} {f : Field} (h : fieldT P t i = some f) : ∃ fs, P.underlying t = some (.struct fs) ∧ fs[i]? = some f := by
  unfold fieldT at h; split at h
  · rename_i fs h'; exact ⟨fs, h', h⟩
  · cases h
end

/-! ### Addresses and cells -/
theorem add_plain (c n i : Nat) : (⟨c, n, none⟩ : Addr).add i = ⟨c, n + i, none⟩ := by
  unfold Addr.add
  split
  · rename_i h; subst h; rfl
  · rfl

/-- The cells from a place on, in the model. -/
theorem Rel.cells {μ : Ren} {H : AHeap} {w : World} (r : Rel μ H w) {b c base size : Nat} {lk : Bool} {cs : List Value} (hm : μ b = some (c, base, size)) (hb : H[b]? = some (.live lk cs)) :
    ∀ n off, off + n ≤ cs.length → ∃ vs, vs.length = n ∧ VRL μ ((cs.drop off).take n) vs ∧ ∀ j v, vs[j]? = some v → w.cell? ⟨c, base + off + j, none⟩ = some v := by
  intro n
  induction n with
  | zero => intro off _; exact ⟨[], rfl, by simpa using VRL.nil, by simp⟩
  | succ n ih =>
    intro off h
    obtain ⟨vs, h1, h2, h3⟩ := ih (off + 1) (by omega)
    have hi : cs[off]? = some (cs[off]'(by omega)) := List.getElem?_eq_getElem (by omega)
    obtain ⟨v', hc, hv⟩ := r.cell b c base size lk cs off _ hm hb hi
    refine ⟨v' :: vs, by simp [h1], ?_, ?_⟩
    · rw [List.drop_eq_getElem_cons (by omega), List.take_succ_cons]
      exact .cons hv h2
    · intro j v hj
      cases j with
      | zero => simp at hj; subst hj; exact hc
      | succ j =>
        simp at hj
        have := h3 j v hj
        rw [show base + off + (j + 1) = base + (off + 1) + j by omega]; exact this

theorem run_loadCellsFrom {P : Program} {w : World} {c o : Nat} : ∀ (vs : List Value) (i : Nat) (acc : Array Value),
    (∀ j v, vs[j]? = some v → w.cell? ⟨c, o + i + j, none⟩ = some v) → (loadCellsFrom ⟨c, o, none⟩ i vs.length acc).run P w = .ok (acc ++ vs.toArray) w := by
  intro vs
  induction vs with
  | nil => intro i acc _; simp [loadCellsFrom]
  | cons v vs ih =>
    intro i acc h
    have h0 := h 0 v (by simp)
    simp only [List.length_cons, loadCellsFrom, Sem.run_bind, run_load, add_plain]
    rw [show o + i = o + i + 0 by omega, h0]
    simp only [Result.andThen_ok]
    rw [ih (i + 1) (acc.push v) (fun j u hj => by rw [show o + (i + 1) + j = o + i + (j + 1) by omega]; exact h (j + 1) u (by simpa using hj))]
    simp
theorem run_loadCells {P : Program} {w : World} {c o : Nat} (vs : List Value) (h : ∀ j v, vs[j]? = some v → w.cell? ⟨c, o + j, none⟩ = some v) :
    (loadCells ⟨c, o, none⟩ vs.length).run P w = .ok vs.toArray w := by
  unfold loadCells
  rw [run_loadCellsFrom vs 0 #[] (fun j v hj => by rw [Nat.add_zero]; exact h j v hj)]
  simp

/-! ### load -/
def aLoad (P : Program) (t : TypeId) (a : Value) (H : AHeap) : Option Value :=
  match a with
  | .pointer (some ⟨b, off, none⟩) =>
    match H[b]? with
    | some (.live _ cs) =>
      match aggT P t with
      | some false => cs[off]?
      | some true =>
        match szT P t with
        | some n => if off + n ≤ cs.length then some (.agg ⟨(cs.drop off).take n⟩) else none
        | none => none
      | none => none
    | _ => none
  | _ => none

theorem VR.ptr_inv {μ : Ren} {b off : Nat} {v : Value} (h : VR μ (.pointer (some ⟨b, off, none⟩)) v) :
    ∃ c base size, μ b = some (c, base, size) ∧ v = .pointer (some ⟨c, base + off, none⟩) := by
  cases h with
  | ptr h => exact ⟨_, _, _, h, rfl⟩

theorem snd_load {P : Program} {t : TypeId} {μ : Ren} {H : AHeap} {w : World} (r : Rel μ H w) {a a' v : Value} (ha : VR μ a a') (h : aLoad P t a H = some v) :
    ∃ v', (Instr.loadAt t a').run P w = .ok v' w ∧ VR μ v v' := by
  unfold aLoad at h
  split at h
  · rename_i b off
    obtain ⟨c, base, size, hm, rfl⟩ := ha.ptr_inv
    split at h
    · rename_i lk cs hb
      split at h
      · rename_i ht
        obtain ⟨v', hc, hv⟩ := r.cell b c base size lk cs off v hm hb h
        refine ⟨v', ?_, hv⟩
        simp only [Instr.loadAt, Instr.sureAddr, Sem.run_bind, Sem.run_pure, Result.andThen_ok, loadVar, run_isAgg w ht, run_load, hc, Bool.false_eq_true, if_false, Sem.run_ite]
      · rename_i ht
        split at h
        · rename_i n hn
          split at h
          · rename_i hl; cases h
            obtain ⟨vs, h1, h2, h3⟩ := r.cells hm hb n off hl
            refine ⟨.agg vs.toArray, ?_, .agg h2⟩
            simp only [Instr.loadAt, Instr.sureAddr, Sem.run_bind, Sem.run_pure, Result.andThen_ok, loadVar, run_isAgg w ht, if_true, run_sizeOf w hn, Sem.run_ite]
            rw [← h1, run_loadCells vs h3]; rfl
          · cases h
        · cases h
      · cases h
    · cases h
  · cases h

/-! ### store -/
def oneB : Value → Bool
  | .agg _ | .tuple _ => false
  | _ => true
def setAll (cs : List Value) (off : Nat) : List Value → List Value
  | [] => cs
  | v :: vs => setAll (cs.set off v) (off + 1) vs
theorem setAll_length (vs : List Value) : ∀ (cs : List Value) (off : Nat), (setAll cs off vs).length = cs.length := by
  induction vs with
  | nil => intro cs off; rfl
  | cons v vs ih => intro cs off; simp [setAll, ih]
theorem VR.one {μ : Ren} {v v' : Value} (h : VR μ v v') (hv : oneB v = true) : v'.oneCell' = true := by
  cases h <;> first | rfl | simp [oneB] at hv

theorem snd_storeCells {P : Program} {μ : Ren} : ∀ (vs vs' : List Value) (H : AHeap) (w : World) (b c base size off i : Nat) (cs : List Value), Rel μ H w → μ b = some (c, base, size) → H[b]? = some (.live false cs) →
    off + vs.length ≤ cs.length → vs.all oneB = true → VRL μ vs vs' →
    ∀ o, o + i = base + off → ∃ w', (storeCells ⟨c, o, none⟩ vs' i).run P w = .ok () w' ∧ Rel μ (H.set b (.live false (setAll cs off vs))) w' ∧ Keep μ H w μ (H.set b (.live false (setAll cs off vs))) w' := by
  intro vs
  induction vs with
  | nil =>
    intro vs' H w b c base size off i cs r hm hb hl ho hv o he
    cases hv
    have hs : H.set b (.live false (setAll cs off [])) = H := by
      obtain ⟨hlt, hg⟩ := List.getElem?_eq_some_iff.1 hb
      rw [setAll, ← hg, List.set_getElem_self]
    rw [hs]
    exact ⟨w, by simp [storeCells], r, Keep.refl μ H w r.dom⟩
  | cons v vs ih =>
    intro vs' H w b c base size off i cs r hm hb hl ho hv o he
    cases hv with
    | cons h t =>
      rename_i v' vs'
      simp only [List.length_cons] at hl
      simp only [List.all_cons, Bool.and_eq_true] at ho
      obtain ⟨r1, k1⟩ := r.store hm hb (i := off) (by omega) h
      have hbl : b < H.length := (List.getElem?_eq_some_iff.1 hb).1
      obtain ⟨w', hr, r2, k2⟩ := ih vs' _ _ b c base size (off + 1) (i + 1) (cs.set off v) r1 hm (by simp [List.getElem?_set, hbl]) (by simp; omega) ho.2 t o (by omega)
      rw [List.set_set] at r2 k2
      refine ⟨w', ?_, r2, k1.trans k2⟩
      obtain ⟨v0, hc0, _⟩ := r.cell b c base size false cs off (cs[off]'(by omega)) hm hb (List.getElem?_eq_getElem (by omega))
      have hfit := r.fits b c base size false cs hm hb
      simp only [storeCells, Sem.run_bind, add_plain, he]
      rw [run_store _ _ _ _ _ (h.one ho.1), hc0]
      simp only [r.free b c base size cs hm hb (base + off) (by omega), Bool.false_eq_true, if_false, Result.andThen_ok]
      exact hr

def aStore (P : Program) (t : TypeId) (a x : Value) (H : AHeap) : Option AHeap :=
  match a with
  | .pointer (some ⟨b, off, none⟩) =>
    match H[b]? with
    | some (.live false cs) =>
      if szT P t = some x.cells.toList.length ∧ off + x.cells.toList.length ≤ cs.length ∧ x.cells.toList.all oneB = true then some (H.set b (.live false (setAll cs off x.cells.toList))) else none
    | _ => none
  | _ => none

theorem VR.cells {μ : Ren} {v v' : Value} (h : VR μ v v') : VRL μ v.cells.toList v'.cells.toList := by
  cases h with
  | agg h => exact h
  | bool b => exact .cons (.bool b) .nil
  | int k n => exact .cons (.int k n) .nil
  | float k x => exact .cons (.float k x) .nil
  | complex k x y => exact .cons (.complex k x y) .nil
  | string s => exact .cons (.string s) .nil
  | ptrNil => exact .cons .ptrNil .nil
  | ptr h => exact .cons (.ptr h) .nil
  | sliceNil => exact .cons .sliceNil .nil
  | slice0 h => exact .cons (.slice0 h) .nil
  | slice h h1 h2 => exact .cons (.slice h h1 h2) .nil
  | func fn hf hc => exact .cons (.func fn hf hc) .nil
  | nilFunc => exact .cons .nilFunc .nil
  | iface t h => exact .cons (.iface t h) .nil
  | nilIface => exact .cons .nilIface .nil
  | tuple h => exact .cons (.tuple h) .nil

theorem snd_store {P : Program} {t : TypeId} {μ : Ren} {H H' : AHeap} {w : World} (r : Rel μ H w) {a a' x x' : Value} (ha : VR μ a a') (hx : VR μ x x') (h : aStore P t a x H = some H') :
    ∃ w', (Instr.storeAt t a' x').run P w = .ok () w' ∧ Rel μ H' w' ∧ Keep μ H w μ H' w' := by
  unfold aStore at h
  split at h
  · rename_i b off
    obtain ⟨c, base, size, hm, rfl⟩ := ha.ptr_inv
    split at h
    · rename_i cs hb
      split at h
      · rename_i hc; cases h
        obtain ⟨h1, h2, h3⟩ := hc
        obtain ⟨w', hr, r', k⟩ := snd_storeCells (P := P) x.cells.toList x'.cells.toList H w b c base size off 0 cs r hm hb h2 h3 hx.cells (base + off) rfl
        refine ⟨w', ?_, r', k⟩
        have hsz : x'.cells.size = x.cells.toList.length := by rw [hx.cells.length]; simp
        simp only [Instr.storeAt, Instr.sureAddr, Sem.run_bind, Sem.run_pure, Result.andThen_ok, storeVar, run_sizeOf w h1, hsz, ne_eq, not_true, if_false, Sem.run_ite]
        exact hr
      · cases h
    · cases h
  · cases h

/-! ### New blocks -/
def aNew (cs : List Value) (H : AHeap) : Value × AHeap := (.pointer (some ⟨H.length, 0, none⟩), H ++ [.live false cs])

theorem snd_newVar {P : Program} {μ : Ren} {H : AHeap} {w : World} (r : Rel μ H w) {x x' : Value} (hx : VR μ x x') (t : TypeId) :
    ∃ a w', (newVar t x').run P w = .ok a w' ∧ Out μ H w (aNew x.cells.toList H).1 (aNew x.cells.toList H).2 (.pointer (some a)) w' := by
  obtain ⟨r', k⟩ := r.alloc t x.cells.toList x'.cells (by rw [hx.cells.length]; simp) (fun i v hi => by
    obtain ⟨v', h1, h2⟩ := hx.cells.get hi
    exact ⟨v', by simpa using h1, h2⟩)
  refine ⟨⟨w.heap.size, 0, none⟩, _, by simp only [newVar, newRow, Sem.run_bind, run_newObj, Result.andThen_ok, Sem.run_pure]; rfl, _, r', k, ?_⟩
  exact .ptr (base := 0) (off := 0) (Ren.put_same ..)

def aAlloc (P : Program) (t : TypeId) (H : AHeap) : Option (Value × AHeap) :=
  match zeroT P t with
  | some z => if closed z = true then some (aNew z.cells.toList H) else none
  | none => none
theorem snd_alloc {P : Program} {μ : Ren} {H H' : AHeap} {w : World} (r : Rel μ H w) {t : TypeId} {v : Value} (h : aAlloc P t H = some (v, H')) :
    ∃ v' w', (Instr.alloc t true (.tuple #[])).run P w = .ok v' w' ∧ Out μ H w v H' v' w' := by
  unfold aAlloc at h
  split at h
  · rename_i z hz
    split at h
    · rename_i hc; cases h
      obtain ⟨a, w', h1, h2⟩ := snd_newVar (P := P) r (VR.of_closed μ z hc) t
      refine ⟨.pointer (some a), w', ?_, h2⟩
      simp only [Instr.alloc, Sem.run_bind, run_zeroValue w hz, Result.andThen_ok, h1, Sem.run_pure]
    · cases h
  · cases h
theorem snd_box {P : Program} {μ : Ren} {H : AHeap} {w : World} (r : Rel μ H w) {x x' : Value} (hx : VR μ x x') (t : TypeId) :
    ∃ v' w', (Instr.box t x').run P w = .ok v' w' ∧ Out μ H w (aNew x.cells.toList H).1 (aNew x.cells.toList H).2 v' w' := by
  obtain ⟨a, w', h1, h2⟩ := snd_newVar (P := P) r hx t
  refine ⟨.pointer (some a), w', ?_, h2⟩
  simp only [Instr.box, Sem.run_bind, h1, Result.andThen_ok, Sem.run_pure]

end Go.Proofs.Ytnhhdgopgecggaa.Abs
