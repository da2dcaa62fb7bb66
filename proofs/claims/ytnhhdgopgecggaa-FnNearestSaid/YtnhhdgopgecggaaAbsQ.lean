/- The abstract machine, operations (3): slices, fields, elements, arithmetic, conversions. No condition. -/
import Derived.Test.YtnhhdgopgecggaaAbsP
set_option linter.unusedVariables false
set_option linter.unusedSimpArgs false
namespace Go.Proofs.Ytnhhdgopgecggaa.Abs
open Go

/-! ### A slice literal, a made slice -/
theorem zero_cells {μ : Ren} {z : Value} (hc : closed z = true) (n : Nat) (hz : n = 0 ∨ 0 < z.cells.size) :
    VRL μ ((Array.range n).map (fun i => z.cells[i % z.cells.size]!)).toList ((Array.range n).map (fun i => z.cells[i % z.cells.size]!)).toList := by
  refine VRL.of_get rfl fun i v hi => ⟨v, hi, ?_⟩
  simp only [Array.toList_map, List.getElem?_map, Option.map_eq_some_iff] at hi
  obtain ⟨j, hj, rfl⟩ := hi
  have hpos : 0 < z.cells.size := by
    rcases hz with rfl | h
    · simp at hj
    · exact h
  have hlt : j % z.cells.size < z.cells.size := Nat.mod_lt _ hpos
  have hg : z.cells.toList[j % z.cells.size]? = some z.cells[j % z.cells.size]! := by
    simp [hlt]
  obtain ⟨v', h1, h2⟩ := (VR.of_closed μ z hc).cells.get hg
  rw [hg] at h1; cases h1; exact h2

def aRow (cs : List Value) (n : Nat) (H : AHeap) : Value × AHeap := (.slice (some ⟨H.length, 0, none⟩) n n, H ++ [.live false cs])

theorem snd_row {P : Program} {μ : Ren} {H : AHeap} {w : World} (r : Rel μ H w) (t : TypeId) (cs : List Value) (cells : Array Value) (hn : cs.length ≤ cells.size)
    (hv : ∀ (i : Nat) v, cs[i]? = some v → ∃ v', cells[i]? = some v' ∧ VR μ v v') (n cap : Nat) (hnc : n ≤ cap) (hcap : cap ≤ cells.size) :
    ∃ a w', (newRow t cells).run P w = .ok a w' ∧ Out μ H w (aRow cs n H).1 (aRow cs n H).2 (.slice (some a) n cap) w' := by
  obtain ⟨r', k⟩ := r.alloc t cs cells hn hv
  refine ⟨⟨w.heap.size, 0, none⟩, _, by simp only [newRow, Sem.run_bind, run_newObj, Result.andThen_ok, Sem.run_pure]; rfl, _, r', k, ?_⟩
  exact .slice (base := 0) (off := 0) (Ren.put_same ..) hnc (by omega)

def aBuildSlice (P : Program) (t : TypeId) (len : Nat) (parts : List (Nat × Value)) (H : AHeap) : Option (Value × AHeap) :=
  match elemT P t with
  | some e =>
    match szT P e, zeroT P e with
    | some n, some z =>
      if len * n ≤ 2 ^ 24 ∧ closed z = true ∧ 0 < z.cells.size ∧ 0 < n then
        if len = 0 ∧ parts = [] then some (aRow [] 0 H) else
        match Instr.fill (fun i => some (i * n, n)) ((Array.range (len * n)).map (fun i => z.cells[i % z.cells.size]!)) parts with
        | some out => if len ≤ out.size then some (aRow out.toList len H) else none
        | none => none
      else none
    | _, _ => none
  | none => none

theorem snd_buildSlice {P : Program} {μ : Ren} {H H' : AHeap} {w : World} (r : Rel μ H w) {t : TypeId} {len : Nat} {parts parts' : List (Nat × Value)} (hi : parts.map (·.1) = parts'.map (·.1))
    (hv : VRL μ (parts.map (·.2)) (parts'.map (·.2))) {v : Value} (h : aBuildSlice P t len parts H = some (v, H')) :
    ∃ v' w', (Instr.buildSlice t len parts'.toArray).run P w = .ok v' w' ∧ Out μ H w v H' v' w' := by
  unfold aBuildSlice at h
  split at h
  case h_2 => cases h
  rename_i e he
  split at h
  case h_2 => cases h
  rename_i n z hn hz
  split at h
  case isFalse => cases h
  rename_i hc
  obtain ⟨h1, h2, h3, h4⟩ := hc
  have hu := und_elem he
  split at h
  · rename_i h0; cases h
    obtain ⟨rfl, rfl⟩ := h0
    cases parts' with
    | cons _ _ => simp at hi
    | nil =>
      obtain ⟨a, w', hr, ho⟩ := snd_row (P := P) r e [] #[] (Nat.le_refl _) (fun i v hi => by simp at hi) 0 0 (Nat.le_refl _) (Nat.le_refl _)
      refine ⟨_, w', ?_, ho⟩
      simp only [Instr.buildSlice, Sem.run_bind, run_underlying hu w, Result.andThen_ok, run_sizeOf w hn, Nat.zero_mul]
      simp only [Instr.fill, Sem.run_ite, if_true, Nat.not_lt_zero, gt_iff_lt, if_false, Sem.run_pure, Result.andThen_ok, Sem.run_bind]
      simp only [Array.range_zero', Array.map_empty, hr, Result.andThen_ok]
  · rename_i h0
    split at h
    case h_2 => cases h
    rename_i out ho
    split at h
    case isFalse => cases h
    rename_i hl; cases h
    obtain ⟨out', h5, h6⟩ := fill_rel _ parts parts' _ _ out (zero_cells (μ := μ) h2 (len * n) (.inr h3)) hi hv ho
    obtain ⟨a, w', hr, ho'⟩ := snd_row (P := P) r e out.toList out' (by rw [h6.length]; simp) (fun i v hi => by
      obtain ⟨v', g1, g2⟩ := h6.get hi
      exact ⟨v', by simpa using g1, g2⟩) len len (Nat.le_refl _) (by rw [← h6.size]; exact hl)
    refine ⟨_, w', ?_, ho'⟩
    simp only [Instr.buildSlice, Sem.run_bind, run_underlying hu w, Result.andThen_ok, run_sizeOf w hn]
    rw [if_neg (by omega)]
    by_cases hz0 : len * n = 0
    · have : len = 0 := by
        rcases Nat.mul_eq_zero.1 hz0 with h | h <;> omega
      subst this
      simp only [Nat.zero_mul, Array.range_zero', Array.map_empty] at h5
      simp only [Nat.zero_mul, if_true, Sem.run_ite, Sem.run_pure, Result.andThen_ok, Array.range_zero', Array.map_empty, h5, Sem.run_bind, hr]
    · simp only [hz0, if_false, Sem.run_ite, Sem.run_bind, run_zeroValue w hz, Sem.run_pure, Result.andThen_ok, h5, hr]

def aMakeSlice (P : Program) (t : TypeId) (l c : Value) (H : AHeap) : Option (Value × AHeap) :=
  match l, c with
  | .int _ l, .int _ c =>
    match elemT P t with
    | some e =>
      match szT P e, zeroT P e, bytesT P e with
      | some n, some z, some by_ =>
        if n = 1 ∧ closed z = true ∧ z.cells.size = 1 ∧ 0 ≤ l ∧ l ≤ c ∧ c ≤ 2 ^ 40 ∧ by_ ≤ 256 then some (aRow (List.replicate l.toNat z.cells[0]!) l.toNat H) else none
      | _, _, _ => none
    | none => none
  | _, _ => none

theorem wrap_i64 {n : Int} (h0 : -9223372036854775808 ≤ n) (h1 : n ≤ 9223372036854775807) : IntKind.i64.wrap n = n := IntWalk.i64_in _ ⟨h0, h1⟩

theorem snd_makeSlice {P : Program} {μ : Ren} {H H' : AHeap} {w : World} (r : Rel μ H w) {t : TypeId} {l c l' c' : Value} (hl : VR μ l l') (hc : VR μ c c') {v : Value} (h : aMakeSlice P t l c H = some (v, H')) :
    ∃ v' w', (Instr.makeSlice t l' c').run P w = .ok v' w' ∧ Out μ H w v H' v' w' := by
  unfold aMakeSlice at h
  split at h
  case h_2 => cases h
  rename_i k1 l k2 c
  cases hl; cases hc
  split at h
  case h_2 => cases h
  rename_i e he
  split at h
  case h_2 => cases h
  rename_i n z by_ hn hz hb
  split at h
  case isFalse => cases h
  rename_i hc; cases h
  obtain ⟨rfl, h2, h3, h4, h5, h6, h7⟩ := hc
  have hu := und_elem he
  have hti : ∃ i, P.info? e = some i ∧ i.bytes = by_ := by simpa [bytesT] using hb
  obtain ⟨i, hi, hib⟩ := hti
  have hwl : IntKind.i64.wrap l = l := wrap_i64 (by omega) (by omega)
  have hwc : IntKind.i64.wrap c = c := wrap_i64 (by omega) (by omega)
  have hbig : ¬ ((by_ : Int) * c > 2 ^ 48) := by
    have h1 : (by_ : Int) * c ≤ 256 * c := Int.mul_le_mul_of_nonneg_right (by omega) (by omega)
    omega
  obtain ⟨a, w', hr, ho⟩ := snd_row (P := P) r e (List.replicate l.toNat z.cells[0]!) ((Array.range (c.toNat * 1)).map (fun i => z.cells[i % z.cells.size]!)) (by simp; omega) (fun j v hj => by
    have hjl : j < l.toNat := by
      have := (List.getElem?_eq_some_iff.1 hj).1; simpa using this
    have hv : z.cells[0]! = v := by
      have := (List.getElem?_eq_some_iff.1 hj).2; simpa using this
    refine ⟨z.cells[0]!, ?_, ?_⟩
    · have : j < c.toNat := by omega
      simp [h3, this, Nat.mod_one]
    · subst hv
      have hg : z.cells.toList[0]? = some z.cells[0]! := by simp [h3]
      obtain ⟨v', g1, g2⟩ := (VR.of_closed μ z h2).cells.get hg
      rw [hg] at g1; cases g1; exact g2) l.toNat c.toNat (by omega) (by simp)
  refine ⟨_, w', ?_, ho⟩
  simp only [Instr.makeSlice, Sem.run_bind, run_underlying hu w, Result.andThen_ok, asInt, asIntOf, Sem.run_pure, typeInfo, run_program, hi, hib, hwl, hwc, run_askRoom, run_sizeOf w hn]
  have hcond : (decide (c < 0) || decide ((by_ : Int) * c > 2 ^ 48) || decide (l < 0) || decide (l > c)) = false := by
    simp only [Bool.or_eq_false_iff, decide_eq_false_iff_not]; refine ⟨⟨⟨by omega, hbig⟩, by omega⟩, by omega⟩
  simp only [hcond, Bool.false_eq_true, if_false, Sem.run_ite, Sem.run_bind, Sem.run_pure, Result.andThen_ok, run_askRoom, run_sizeOf w hn]
  by_cases hz0 : c.toNat * 1 = 0
  · simp only [hz0, if_true, Result.andThen_ok, Array.range_zero', Array.map_empty]
    simp only [hz0, Array.range_zero', Array.map_empty] at hr
    simp only [hr, Result.andThen_ok]
  · simp only [hz0, if_false, run_zeroValue w hz, Result.andThen_ok, hr]

/-! ### Fields and elements -/
def aFieldAddr (P : Program) (s : TypeId) (x : Value) (f : Nat) : Option Value :=
  match x with
  | .pointer (some ⟨b, off, none⟩) =>
    match fieldT P s f with
    | some fd => match szT P fd.type with
      | some n => if n = 0 then none else some (.pointer (some ⟨b, off + fd.offset, none⟩))
      | none => none
    | none => none
  | _ => none
theorem snd_fieldAddr {P : Program} {μ : Ren} {s : TypeId} {f : Nat} {x x' v : Value} (w : World) (hx : VR μ x x') (h : aFieldAddr P s x f = some v) :
    ∃ v', (Instr.fieldAt s x' f).run P w = .ok v' w ∧ VR μ v v' := by
  unfold aFieldAddr at h
  split at h
  case h_2 => cases h
  rename_i b off
  obtain ⟨c, base, size, hm, rfl⟩ := hx.ptr_inv
  split at h
  case h_2 => cases h
  rename_i fd hf
  split at h
  case h_2 => cases h
  rename_i n hn
  split at h
  case isTrue => cases h
  rename_i h0; cases h
  obtain ⟨fs, hu, hg⟩ := und_field hf
  refine ⟨.pointer (some ⟨c, base + (off + fd.offset), none⟩), ?_, .ptr hm⟩
  simp only [Instr.fieldAt, Sem.run_bind, run_underlying hu w, Result.andThen_ok, hg, Instr.sureAddr, Sem.run_pure, fieldPlace, run_sizeOf w hn, h0, if_false, Sem.run_ite, add_plain, Nat.add_assoc]

def aPart (P : Program) (t : TypeId) (cs : List Value) (off : Nat) : Option Value :=
  match aggT P t with
  | some true => match szT P t with
    | some n => some (.agg ⟨(cs.drop off).take n⟩)
    | none => none
  | some false => cs[off]?
  | none => none
theorem snd_part {P : Program} {μ : Ren} {t : TypeId} {cs cs' : List Value} {off : Nat} {v : Value} (w : World) (hc : VRL μ cs cs') (h : aPart P t cs off = some v) :
    ∃ v', (part t ⟨cs'⟩ off).run P w = .ok v' w ∧ VR μ v v' := by
  unfold aPart at h
  split at h
  · rename_i ht
    split at h
    case h_2 => cases h
    rename_i n hn; cases h
    refine ⟨.agg ⟨(cs'.drop off).take n⟩, ?_, .agg ((hc.drop off).take n)⟩
    simp only [part, Sem.run_bind, run_isAgg w ht, Result.andThen_ok, if_true, Sem.run_ite, run_sizeOf w hn, Sem.run_pure]
    congr 3
    simp [List.extract_eq_take_drop]
  · rename_i ht
    obtain ⟨v', h1, h2⟩ := hc.get h
    refine ⟨v', ?_, h2⟩
    have : (⟨cs'⟩ : Array Value)[off]? = some v' := by simpa using h1
    simp only [part, Sem.run_bind, run_isAgg w ht, Result.andThen_ok, Bool.false_eq_true, if_false, Sem.run_ite, this, Sem.run_pure]
  · cases h

def aField (P : Program) (t : TypeId) (x : Value) (f : Nat) : Option Value :=
  match x with
  | .agg ⟨cs⟩ => (fieldT P t f).bind fun fd => aPart P fd.type cs fd.offset
  | _ => none
theorem snd_field {P : Program} {μ : Ren} {t : TypeId} {f : Nat} {x x' v : Value} (w : World) (hx : VR μ x x') (h : aField P t x f = some v) :
    ∃ v', (Instr.field t x' f).run P w = .ok v' w ∧ VR μ v v' := by
  unfold aField at h
  split at h
  case h_2 => cases h
  rename_i cs
  cases hx with
  | agg hc =>
    simp only [Option.bind_eq_some_iff] at h
    obtain ⟨fd, hf, h⟩ := h
    obtain ⟨fs, hu, hg⟩ := und_field hf
    obtain ⟨v', h1, h2⟩ := snd_part (P := P) w hc h
    exact ⟨v', by simp only [Instr.field, Sem.run_bind, run_underlying hu w, Result.andThen_ok, hg, asAgg, Sem.run_pure, h1], h2⟩

def aIndexAddr (P : Program) (t : TypeId) (x i : Value) : Option Value :=
  match i with
  | .int _ i =>
    match x with
    | .slice (some ⟨b, off, none⟩) len _ =>
      match elemT P t with
      | some e => match szT P e with
        | some n => if 0 ≤ i ∧ i < len ∧ n = 1 then some (.pointer (some ⟨b, off + i.toNat, none⟩)) else none
        | none => none
      | none => none
    | .pointer (some ⟨b, off, none⟩) =>
      match arrT P t with
      | some (len, e) => match szT P e with
        | some n => if 0 ≤ i ∧ i < len then some (.pointer (some ⟨b, off + i.toNat * n, none⟩)) else none
        | none => none
      | none => none
    | _ => none
  | _ => none
theorem snd_indexAddr {P : Program} {μ : Ren} {t : TypeId} {x x' i i' v : Value} (w : World) (hx : VR μ x x') (hi : VR μ i i') (h : aIndexAddr P t x i = some v) :
    ∃ v', (Instr.indexAt t x' i').run P w = .ok v' w ∧ VR μ v v' := by
  unfold aIndexAddr at h
  split at h
  case h_2 => cases h
  rename_i k i
  cases hi
  split at h
  · rename_i b off len cp
    split at h
    case h_2 => cases h
    rename_i e he
    split at h
    case h_2 => cases h
    rename_i n hn
    split at h
    case isFalse => cases h
    rename_i hc; cases h
    obtain ⟨h0, h1, rfl⟩ := hc
    have hu := und_elem he
    cases hx with
    | slice0 => omega
    | slice hm g1 g2 =>
      rename_i cap c base size
      refine ⟨.pointer (some ⟨c, base + (off + i.toNat), none⟩), ?_, .ptr hm⟩
      simp only [Instr.indexAt, asIntOf, Sem.run_bind, Sem.run_pure, Result.andThen_ok, run_underlying hu w, Sem.run_ite, h0, h1, and_self, if_true, run_sizeOf w hn, add_plain, Nat.mul_one, Nat.add_assoc]
  · rename_i b off
    split at h
    case h_2 => cases h
    rename_i len e he
    split at h
    case h_2 => cases h
    rename_i n hn
    split at h
    case isFalse => cases h
    rename_i hc; cases h
    obtain ⟨h0, h1⟩ := hc
    have hu := und_arr he
    obtain ⟨c, base, size, hm, rfl⟩ := hx.ptr_inv
    refine ⟨.pointer (some ⟨c, base + (off + i.toNat * n), none⟩), ?_, .ptr hm⟩
    simp only [Instr.indexAt, asIntOf, Sem.run_bind, Sem.run_pure, Result.andThen_ok, run_underlying hu w, Instr.sureAddr, Sem.run_ite, h0, h1, and_self, if_true, run_sizeOf w hn, add_plain, Nat.add_assoc]
  · cases h

def aIndex (P : Program) (t : TypeId) (x i : Value) : Option Value :=
  match x, i with
  | .agg ⟨cs⟩, .int _ i =>
    match arrT P t with
    | some (len, e) => match szT P e with
      | some n => if 0 ≤ i ∧ i < len then aPart P e cs (i.toNat * n) else none
      | none => none
    | none => none
  | .string s, .int _ i =>
    match P.underlying t with
    | some .string => if 0 ≤ i then (s[i.toNat]?).map fun b => .int .u8 b.toNat else none
    | _ => none
  | _, _ => none
theorem snd_index {P : Program} {μ : Ren} {t : TypeId} {x x' i i' v : Value} (w : World) (hx : VR μ x x') (hi : VR μ i i') (h : aIndex P t x i = some v) :
    ∃ v', (Instr.index t x' i').run P w = .ok v' w ∧ VR μ v v' := by
  unfold aIndex at h
  split at h
  · rename_i cs k i
    cases hi
    split at h
    case h_2 => cases h
    rename_i len e he
    split at h
    case h_2 => cases h
    rename_i n hn
    split at h
    case isFalse => cases h
    rename_i hc
    have hu := und_arr he
    cases hx with
    | agg hl =>
      obtain ⟨v', h1, h2⟩ := snd_part (P := P) w hl h
      exact ⟨v', by simp only [Instr.index, asIntOf, Sem.run_bind, Sem.run_pure, Result.andThen_ok, run_underlying hu w, Sem.run_ite, hc, and_self, if_true, run_sizeOf w hn, h1], h2⟩
  · rename_i s k i
    cases hi; cases hx
    split at h
    case h_2 => cases h
    rename_i hu
    split at h
    case isFalse => cases h
    rename_i h0
    simp only [Option.map_eq_some_iff] at h
    obtain ⟨b, hb, rfl⟩ := h
    exact ⟨_, by simp only [Instr.index, asIntOf, Sem.run_bind, Sem.run_pure, Result.andThen_ok, run_underlying hu w, h0, if_true, hb], .int _ _⟩
  · cases h

def aExtract (x : Value) (i : Nat) : Option Value :=
  match x with
  | .tuple ⟨vs⟩ => vs[i]?
  | _ => none
theorem snd_extract {P : Program} {μ : Ren} {x x' v : Value} {i : Nat} (w : World) (hx : VR μ x x') (h : aExtract x i = some v) : ∃ v', (Instr.extract x' i).run P w = .ok v' w ∧ VR μ v v' := by
  unfold aExtract at h
  split at h
  case h_2 => cases h
  cases hx with
  | tuple hl =>
    rename_i l l'
    obtain ⟨v', h1, h2⟩ := hl.get h
    have : (⟨l'⟩ : Array Value)[i]? = some v' := by simpa using h1
    exact ⟨v', by simp only [Instr.extract, this, Sem.run_pure], h2⟩

end Go.Proofs.Ytnhhdgopgecggaa.Abs
