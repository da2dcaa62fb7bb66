/- The abstract machine, operations (5): length, append, least and greatest. No condition. -/
import Derived.Test.YtnhhdgopgecggaaAbsR
import Derived.Deep.AppendSrc
set_option linter.unusedVariables false
set_option linter.unusedSimpArgs false
namespace Go.Proofs.Ytnhhdgopgecggaa.Abs
open Go

def aLen (P : Program) (t : TypeId) (x : Value) : Option Value :=
  match P.underlying t, x with
  | some .string, .string s => some (.int .i64 s.size)
  | some (.slice _), .slice _ n _ => some (.int .i64 n)
  | _, _ => none
theorem snd_len {P : Program} {μ : Ren} {t ty : TypeId} {x x' v : Value} {rest : Array TypeId} {args : Array Value} (w : World) (hx : VR μ x x') (h : aLen P t x = some v) (ht : rest[0]? = some t) (ha : args[0]? = some x') :
    ∃ v', (Builtin.len_ rest ty args).run P w = .ok v' w ∧ VR μ v v' := by
  unfold aLen at h
  split at h
  · rename_i s hu; cases h; cases hx
    exact ⟨_, by simp only [Builtin.len_, ht, ha, Sem.run_bind, run_underlying hu w, Result.andThen_ok, Sem.run_pure, goInt], .int _ _⟩
  · rename_i e a n c hu; cases h
    refine ⟨.int .i64 n, ?_, .int _ _⟩
    cases hx <;> simp only [Builtin.len_, ht, ha, Sem.run_bind, run_underlying hu w, Result.andThen_ok, Sem.run_pure, goInt]
  · cases h

/-! ### append -/
/-- The cells that a slice or a string has. -/
def aCells (x : Value) (H : AHeap) : Option (List Value) :=
  match x with
  | .slice none 0 0 => some []
  | .slice (some ⟨b, off, none⟩) len _ =>
    match H[b]? with
    | some (.live _ cs) => if off + len ≤ cs.length then some ((cs.drop off).take len) else none
    | _ => none
  | .string s => some (s.data.toList.map fun b => .int .u8 b.toNat)
  | _ => none

theorem heap_alloc_lt (w : World) (o : Obj) (d : Nat) (h : d < w.heap.size) : (w.alloc o).heap[d]? = w.heap[d]? := by
  simp only [World.alloc, Array.getElem?_push]; rw [if_neg (by omega)]

def srcT (P : Program) (t : TypeId) (x : Value) : Bool :=
  match x with
  | .string _ => match P.underlying t with
    | some .string => true
    | _ => false
  | .slice _ _ _ => match P.underlying t with
    | some (.slice _) => true
    | _ => false
  | _ => false
theorem srcT_string {P : Program} {t : TypeId} {s : ByteArray} (h : srcT P t (.string s) = true) : P.underlying t = some .string := by
  simp only [srcT] at h
  split at h <;> first | assumption | cases h
theorem srcT_slice {P : Program} {t : TypeId} {a : Option Addr} {n c : Nat} (h : srcT P t (.slice a n c) = true) : ∃ e, P.underlying t = some (.slice e) := by
  simp only [srcT] at h
  split at h <;> first | exact ⟨_, by assumption⟩ | cases h

theorem closedL_bytes (l : List UInt8) : closedL (l.map fun b => Value.int .u8 b.toNat) = true := by
  induction l with
  | nil => rfl
  | cons x l ih => simp [closedL, closed, ih]

theorem snd_cells {P : Program} {μ : Ren} {H : AHeap} {w : World} (r : Rel μ H w) {tx : TypeId} {x x' : Value} (hx : VR μ x x') {cs : List Value} (h : aCells x H = some cs) (ht : srcT P tx x = true) (ho : cs.all oneB = true) :
    ∃ vs, Src P 1 tx x' cs.length vs w ∧ VRL μ cs vs := by
  have one : ∀ vs, VRL μ cs vs → ∀ u ∈ vs, u.oneCell' = true := by
    intro vs hvs u hu'
    obtain ⟨i, hi⟩ := List.getElem?_of_mem hu'
    have hil : i < cs.length := by rw [hvs.length]; exact (List.getElem?_eq_some_iff.1 hi).1
    obtain ⟨u', h1, h2⟩ := hvs.get (List.getElem?_eq_getElem hil)
    rw [hi] at h1; cases h1
    exact h2.one (by simp only [List.all_eq_true] at ho; exact ho _ (List.getElem_mem hil))
  unfold aCells at h
  split at h
  · cases h; cases hx
    obtain ⟨e, hu⟩ := srcT_slice ht
    exact ⟨[], Src.ofNil w hu 0, .nil⟩
  · rename_i b off len cp
    obtain ⟨e, hu⟩ := srcT_slice ht
    split at h
    case h_2 => cases h
    rename_i lk cs' hb
    split at h
    case isFalse => cases h
    rename_i hl; cases h
    have hlen : ((cs'.drop off).take len).length = len := by simp; omega
    rw [hlen]
    cases hx with
    | slice0 h0 =>
      rename_i a y
      refine ⟨[], Src.ofSlice w hu a 0 0 [] rfl (by simp) (by simp), by simpa using VRL.nil⟩
    | slice hm g1 g2 =>
      rename_i cap c base size
      obtain ⟨vs, h1, h2, h3⟩ := r.cells hm hb len off hl
      refine ⟨vs, Src.ofSlice w hu ⟨c, base + off, none⟩ len cap vs (by omega) (fun j u hj => by rw [add_plain]; exact h3 j u hj) (one vs h2), h2⟩
  · rename_i s
    have hu := srcT_string ht
    cases h; cases hx
    refine ⟨byteCells s, ?_, VRL.of_closed μ _ (closedL_bytes _)⟩
    have := Src.ofString (P := P) w hu s
    rw [← byteCells_length] at this; exact this
  · cases h

def aAppend (P : Program) (ts : List TypeId) (s x : Value) (H : AHeap) : Option (Value × AHeap) :=
  match ts with
  | [t, tx] =>
    match elemT P t, aCells x H with
    | some e, some xs =>
      match szT P e, zeroT P e, bytesT P e with
      | some 1, some z, some by_ =>
        if by_ ≤ 256 ∧ z.cells.size = 1 ∧ closed z = true ∧ xs.all oneB = true ∧ srcT P tx x = true then
          match s with
          | .slice none 0 0 => if xs = [] then some (s, H) else if xs.length ≤ 2 ^ 38 then some (aRow xs xs.length H) else none
          | .slice (some ⟨b, off, none⟩) len _ =>
            match H[b]? with
            | some (.live false cs) =>
              if off + len = cs.length ∧ len + xs.length ≤ 2 ^ 38 then
                if xs = [] then some (s, H) else some (.slice (some ⟨H.length, 0, none⟩) (len + xs.length) (len + xs.length), H.set b .dead ++ [.live false (cs.drop off ++ xs)])
              else none
            | _ => none
          | _ => none
        else none
      | _, _, _ => none
    | _, _ => none
  | _ => none

theorem growBy_le (n : Nat) : ∀ (rounds c : Nat), c ≤ 2 * n + 768 → Builtin.growBy n rounds c ≤ 2 * n + 768 := by
  intro rounds
  induction rounds with
  | zero => intro c h; exact h
  | succ k ih =>
    intro c h
    simp only [Builtin.growBy]
    split
    · exact h
    · exact ih _ (by omega)
theorem nextcap_le (n o : Nat) (h : o < n) : Builtin.nextslicecap n o ≤ 2 * n + 768 := by
  unfold Builtin.nextslicecap
  split
  · omega
  · split
    · omega
    · exact growBy_le n 4 o (by omega)

/-- Writing a row of cells at the end of a block that nobody else looks at: what the model's heap is behind it. -/
theorem run_storeCells {P : Program} : ∀ (vs : List Value) (w : World) (c o i : Nat) (cells : Array Value) (T : TypeId) (fr : Nat × Nat), w.heap[c]? = some (.cells cells T fr) → o + i + vs.length ≤ cells.size →
    (∀ j, j < cells.size → w.frozen? ⟨c, j, none⟩ = false) → (∀ v ∈ vs, v.oneCell' = true) →
    ∃ w', (storeCells ⟨c, o, none⟩ vs i).run P w = .ok () w' ∧ w'.os = w.os ∧ w'.tape = w.tape ∧ w'.output = w.output ∧ w'.heap.size = w.heap.size ∧ (∀ d, d ≠ c → w'.heap[d]? = w.heap[d]?) ∧
      w'.heap[c]? = some (.cells ⟨setAll cells.toList (o + i) vs⟩ T fr) := by
  intro vs
  induction vs with
  | nil =>
    intro w c o i cells T fr hc hl hf hv
    exact ⟨w, by simp [storeCells], rfl, rfl, rfl, rfl, fun _ _ => rfl, hc⟩
  | cons v vs ih =>
    intro w c o i cells T fr hc hl hf hv
    simp only [List.length_cons] at hl
    have hcell : w.cell? ⟨c, o + i, none⟩ = some (cells[o + i]'(by omega)) := by
      simp [World.cell?, hc, show o + i < cells.size by omega]
    have hset : (w.setCell ⟨c, o + i, none⟩ v).heap[c]? = some (.cells (cells.setIfInBounds (o + i) v) T fr) := by
      simp [World.setCell, Array.getElem?_modify, hc]
    obtain ⟨w', h1, h2, h3, h4, h5, h6, h7⟩ := ih (w.setCell ⟨c, o + i, none⟩ v) c o (i + 1) (cells.setIfInBounds (o + i) v) T fr hset (by simp; omega) (fun j hj => by
      rw [World.frozen?_setCell]; exact hf j (by simpa using hj)) (fun u hu => hv u (by simp [hu]))
    refine ⟨w', ?_, h2, h3, h4, h5.trans (by simp), ?_, ?_⟩
    · simp only [storeCells, Sem.run_bind, add_plain]
      rw [run_store _ _ _ _ _ (hv v (by simp)), hcell]
      simp only [hf (o + i) (by omega), Bool.false_eq_true, if_false, Result.andThen_ok]
      exact h1
    · intro d hd
      rw [h6 d hd]
      simp only [World.setCell, Array.getElem?_modify]
      rw [if_neg (Ne.symm hd)]
    · rw [h7]
      simp [setAll, Nat.add_assoc]

theorem setAll_get (vs : List Value) : ∀ (cs : List Value) (off i : Nat), (setAll cs off vs)[i]? = if off ≤ i ∧ i < off + vs.length ∧ i < cs.length then vs[i - off]? else cs[i]? := by
  induction vs with
  | nil => intro cs off i; simp [setAll]; intro h1 h2; omega
  | cons v vs ih =>
    intro cs off i
    simp only [setAll, ih, List.length_set, List.length_cons, List.getElem?_set]
    by_cases h1 : i = off
    · subst h1
      rw [if_neg (by omega)]
      by_cases h2 : i < cs.length
      · rw [if_pos rfl, if_pos (by omega)]; simp [h2]
      · rw [if_pos rfl, if_neg (by omega)]
        simp [h2]
    · rw [if_neg (Ne.symm h1)]
      by_cases h3 : off + 1 ≤ i ∧ i < off + 1 + vs.length ∧ i < cs.length
      · rw [if_pos h3, if_pos (by omega)]
        obtain ⟨k, rfl⟩ : ∃ k, i = off + 1 + k := ⟨i - (off + 1), by omega⟩
        rw [show off + 1 + k - (off + 1) = k by omega, show off + 1 + k - off = k + 1 by omega]; simp
      · rw [if_neg h3, if_neg (by omega)]

theorem alive_append {H : AHeap} {b i : Nat} {cs : List Value} (h : Alive (H.set b .dead ++ [.live false cs]) i) : (i < H.length ∧ i ≠ b ∧ Alive H i) ∨ i = H.length := by
  obtain ⟨lk, c, h⟩ := h
  by_cases hi : i < H.length
  · rw [List.getElem?_append_left (by simpa using hi), List.getElem?_set] at h
    split at h
    · rename_i e; subst e; simp [hi] at h
    · rename_i e; exact .inl ⟨hi, Ne.symm e, lk, c, h⟩
  · right
    have := (List.getElem?_eq_some_iff.1 h).1
    simp at this; omega

/-- A new block in the place of an old one that is dead now. -/
theorem Rel.replace {μ : Ren} {H : AHeap} {w w' : World} (r : Rel μ H w) {b : Nat} {cs0 cs : List Value} (hb : H[b]? = some (.live false cs0)) {c base size : Nat}
    (hgood : (w'.heap.size = w.heap.size ∧ (∃ base0 size0, μ b = some (c, base0, size0)) ∧ ∀ d, d ≠ c → w'.heap[d]? = w.heap[d]?) ∨ (c = w.heap.size ∧ w.heap.size ≤ w'.heap.size ∧ ∀ d, d < w.heap.size → w'.heap[d]? = w.heap[d]?))
    (hos : w'.os = w.os) (htp : w'.tape = w.tape) (hout : w'.output = w.output)
    (htgt : ∃ cells T fr, w'.heap[c]? = some (.cells cells T fr) ∧ cells.size = size) (hfit : base + cs.length ≤ size)
    (hcell : ∀ (i : Nat) v, cs[i]? = some v → ∃ v', w'.cell? ⟨c, base + i, none⟩ = some v' ∧ VR μ v v')
    (hfree : ∀ i, i < size → w'.frozen? ⟨c, i, none⟩ = false) (hsz : ∀ base0 size0, μ b = some (c, base0, size0) → size0 = size) :
    Rel (μ.put H.length (c, base, size)) (H.set b .dead ++ [.live false cs]) w' ∧ Keep μ H w (μ.put H.length (c, base, size)) (H.set b .dead ++ [.live false cs]) w' := by
  have hbl : b < H.length := (List.getElem?_eq_some_iff.1 hb).1
  have hle := r.put_le (c, base, size)
  have old : ∀ i x, (μ.put H.length (c, base, size)) i = some x → i ≠ H.length → μ i = some x ∧ i < H.length := by
    intro i x h hi
    rw [Ren.put_ne _ _ hi] at h
    exact ⟨h, r.dom i x h⟩
  have look : ∀ i, i < H.length → i ≠ b → (H.set b .dead ++ [Blk.live false cs])[i]? = H[i]? := by
    intro i hi hib
    rw [List.getElem?_append_left (by simpa using hi), List.getElem?_set]; simp [Ne.symm hib]
  have lookb : (H.set b .dead ++ [Blk.live false cs])[b]? = some .dead := by
    rw [List.getElem?_append_left (by simpa using hbl), List.getElem?_set]; simp [hbl]
  have lookn : (H.set b .dead ++ [Blk.live false cs])[H.length]? = some (.live false cs) := by
    rw [List.getElem?_append_right (by simp)]; simp
  -- the other blocks of the model that are looked at are as they were
  have same : ∀ i d base' size', μ i = some (d, base', size') → i ≠ b → Alive H i → w'.heap[d]? = w.heap[d]? := by
    intro i d base' size' h hib ha
    have hlt := r.lt _ _ _ _ h
    rcases hgood with ⟨_, ⟨base0, size0, h0⟩, hd⟩ | ⟨_, _, hd⟩
    · refine hd d fun e => ?_
      subst e
      exact hib (r.inj i b d base' size' base0 size0 h h0 ha ⟨false, cs0, hb⟩ (.inr ⟨cs0, hb⟩))
    · exact hd d hlt
  refine ⟨⟨?_, ?_, ?_, ?_, ?_, ?_, ?_⟩, ⟨hos, htp, hout, ?_, ?_, ?_, ?_, by simp, ?_, ?_, ?_⟩⟩
  · intro i x h
    by_cases hi : i = H.length
    · simp [hi]
    · have := (old i x h hi).2; simp; omega
  · intro i d base' size' h
    by_cases hi : i = H.length
    · subst hi; rw [Ren.put_same] at h; cases h
      obtain ⟨cells, T, fr, h1, _⟩ := htgt
      exact (Array.getElem?_eq_some_iff.1 h1).1
    · have hlt := r.lt _ _ _ _ (old i _ h hi).1
      rcases hgood with ⟨e, _⟩ | ⟨_, e, _⟩ <;> omega
  · intro i d base' size' h ha
    by_cases hi : i = H.length
    · subst hi; rw [Ren.put_same] at h; cases h; exact htgt
    · obtain ⟨h, _⟩ := old i _ h hi
      rcases alive_append ha with ⟨_, hib, ha'⟩ | e
      · obtain ⟨cells, T, fr, h1, h2⟩ := r.tgt i d base' size' h ha'
        exact ⟨cells, T, fr, by rw [same i d base' size' h hib ha']; exact h1, h2⟩
      · omega
  · intro i d base' size' lk cs' h hH
    by_cases hi : i = H.length
    · subst hi; rw [Ren.put_same] at h; cases h; rw [lookn] at hH; cases hH; exact hfit
    · obtain ⟨h, hl⟩ := old i _ h hi
      by_cases hib : i = b
      · subst hib; rw [lookb] at hH; cases hH
      · rw [look i hl hib] at hH; exact r.fits i d base' size' lk cs' h hH
  · intro i d base' size' lk cs' j v h hH hj
    by_cases hi : i = H.length
    · subst hi; rw [Ren.put_same] at h; cases h; rw [lookn] at hH; cases hH
      obtain ⟨v', h1, h2⟩ := hcell j v hj
      exact ⟨v', h1, h2.mono hle⟩
    · obtain ⟨h, hl⟩ := old i _ h hi
      by_cases hib : i = b
      · subst hib; rw [lookb] at hH; cases hH
      · rw [look i hl hib] at hH
        obtain ⟨v', h1, h2⟩ := r.cell i d base' size' lk cs' j v h hH hj
        refine ⟨v', ?_, h2.mono hle⟩
        rw [World.cell?_of_block (same i d base' size' h hib ⟨lk, cs', hH⟩)]; exact h1
  · intro i d base' size' cs' h hH j hj
    by_cases hi : i = H.length
    · subst hi; rw [Ren.put_same] at h; cases h; exact hfree j hj
    · obtain ⟨h, hl⟩ := old i _ h hi
      by_cases hib : i = b
      · subst hib; rw [lookb] at hH; cases hH
      · rw [look i hl hib] at hH
        rw [World.frozen?_of_block (same i d base' size' h hib ⟨false, cs', hH⟩)]
        exact r.free i d base' size' cs' h hH j hj
  · intro i i' d base1 size1 base2 size2 h h' ha ha' hu
    have ulv : ∀ j, j < H.length → Ulive (H.set b .dead ++ [Blk.live false cs]) j → Ulive H j := by
      rintro j hj ⟨cs', hc⟩
      by_cases e : j = b
      · subst e; rw [lookb] at hc; cases hc
      · rw [look j hj e] at hc; exact ⟨cs', hc⟩
    have hcm : ∀ j base' size', μ j = some (c, base', size') → j < H.length → Alive (H.set b .dead ++ [Blk.live false cs]) j → False := by
      intro j base' size' hj hjl haj
      rcases alive_append haj with ⟨_, hjb, haj'⟩ | e
      · rcases hgood with ⟨_, ⟨base0, size0, h0⟩, _⟩ | ⟨e, _, _⟩
        · exact hjb (r.inj j b c base' size' base0 size0 hj h0 haj' ⟨false, cs0, hb⟩ (.inr ⟨cs0, hb⟩))
        · have := r.lt _ _ _ _ hj; omega
      · omega
    by_cases hi : i = H.length <;> by_cases hi' : i' = H.length
    · rw [hi, hi']
    · subst hi; rw [Ren.put_same] at h; cases h
      obtain ⟨h', hl'⟩ := old i' _ h' hi'
      exact (hcm i' _ _ h' hl' ha').elim
    · subst hi'; rw [Ren.put_same] at h'; cases h'
      obtain ⟨h, hl⟩ := old i _ h hi
      exact (hcm i _ _ h hl ha).elim
    · obtain ⟨h, hl⟩ := old i _ h hi
      obtain ⟨h', hl'⟩ := old i' _ h' hi'
      rcases alive_append ha with ⟨_, _, ha1⟩ | e
      · rcases alive_append ha' with ⟨_, _, ha2⟩ | e
        · exact r.inj i i' d base1 size1 base2 size2 h h' ha1 ha2 (hu.imp (ulv i hl) (ulv i' hl'))
        · omega
      · omega
  · rcases hgood with ⟨h, _⟩ | ⟨_, h, _⟩ <;> omega
  · intro d hd hn
    rcases hgood with ⟨_, ⟨base0, size0, h0⟩, hh⟩ | ⟨_, _, hh⟩
    · refine hh d fun e => ?_
      subst e
      exact hn b base0 size0 h0 ⟨cs0, hb⟩
    · exact hh d hd
  · intro i hi; exact Ren.put_ne _ _ (by omega)
  · intro i d base' size' hi h
    by_cases hi' : i = H.length
    · subst hi'; rw [Ren.put_same] at h; cases h
      rcases hgood with ⟨_, ⟨base0, size0, h0⟩, _⟩ | ⟨e, _, _⟩
      · exact .inr ⟨b, base0, size0, h0, cs0, hb⟩
      · exact .inl (by omega)
    · exact absurd (old i _ h hi').2 (by omega)
  · intro i cs' h
    rw [look i (List.getElem?_eq_some_iff.1 h).1 (fun e => by subst e; rw [hb] at h; cases h)]; exact h
  · intro i h
    rw [look i (List.getElem?_eq_some_iff.1 h).1 (fun e => by subst e; rw [hb] at h; cases h)]; exact h
  · intro i cs' hi h
    by_cases hib : i = b
    · subst hib; rw [lookb] at h; cases h
    · rw [look i hi hib] at h; exact h

theorem snd_append {P : Program} {μ : Ren} {H H' : AHeap} {w : World} (r : Rel μ H w) {ts : List TypeId} {ty : TypeId} {s s' x x' v : Value} (hs : VR μ s s') (hx : VR μ x x') (h : aAppend P ts s x H = some (v, H')) :
    ∃ v' w', (Builtin.append_ ts.toArray ty #[s', x']).run P w = .ok v' w' ∧ Out μ H w v H' v' w' := by
  unfold aAppend at h
  split at h
  case h_2 => cases h
  rename_i t tx
  split at h
  case h_2 => cases h
  rename_i e xs he hcx
  have hu := und_elem he
  split at h
  case h_2 => cases h
  rename_i z by_ hn hz hby
  split at h
  case isFalse => cases h
  rename_i hc
  obtain ⟨hc3, hc1, hc2, hc4, hc5⟩ := hc
  obtain ⟨vs, hsrc, hvs⟩ := snd_cells (P := P) r hx hcx hc5 hc4
  obtain ⟨ti, hti, hti1, hti2, hti3⟩ : ∃ i, P.info? e = some i ∧ i.size = 1 ∧ i.zero = some z ∧ i.bytes = by_ := by
    obtain ⟨i, hi, h1⟩ : ∃ i, P.info? e = some i ∧ i.size = 1 := by simpa [szT] using hn
    refine ⟨i, hi, h1, ?_, ?_⟩
    · simpa [zeroT, hi] using hz
    · simpa [bytesT, hi] using hby
  have hsrc' : Src P ti.size tx x' xs.length vs w := by rw [hti1]; exact hsrc
  have hvl : vs.length = xs.length := hvs.length.symm
  -- where it grows
  have grow : ∀ base sLen sCap olds, (Builtin.firstCells 1 sLen (.slice base sLen sCap)).run P w.drew = .ok (List.toArray olds) w.drew → olds.length = sLen → sCap < sLen + xs.length → sLen + xs.length ≤ 2 ^ 38 →
      ∃ cap cells, (Builtin.append_ #[t, tx] ty #[.slice base sLen sCap, x']).run P w = .ok (.slice (some ⟨w.heap.size, 0, none⟩) (sLen + xs.length) cap) (w.drew.alloc (.cells cells e)) ∧
        sLen + xs.length ≤ cap ∧ cap ≤ cells.size ∧ ∀ (i : Nat) v, (olds ++ vs)[i]? = some v → cells[i]? = some v := by
    intro base sLen sCap olds hold hol hlt hbig
    have hnc := nextcap_le (sLen + xs.length) sCap hlt
    have hfit : Builtin.nextslicecap (sLen + xs.length) sCap * ti.bytes ≤ 281474976710656 := by
      rw [hti3]
      calc Builtin.nextslicecap (sLen + xs.length) sCap * by_ ≤ (2 * (sLen + xs.length) + 768) * 256 := Nat.mul_le_mul hnc hc3
        _ ≤ 281474976710656 := by omega
    have hrun := run_append_grow_src (P := P) w t tx ty e ti z hu hti hti2 base sLen sCap olds (by rw [hti1]; exact hold) x' xs.length vs hsrc' hlt (by omega) hfit
    have hge := grownCap_ge w (sLen + xs.length) sCap e
    refine ⟨_, _, hrun, hge, ?_, ?_⟩
    · rw [Array.size_append, size_zeroCells, hc1]; simp; omega
    · intro i v hi
      have hil := (List.getElem?_eq_some_iff.1 hi).1
      rw [Array.getElem?_append_left (by simpa using hil)]; simpa using hi
  -- what is made where it grows
  have made : ∀ (cs : List Value) (olds : List Value), VRL μ cs olds → ∀ base sLen sCap, (Builtin.firstCells 1 sLen (.slice base sLen sCap)).run P w.drew = .ok (List.toArray olds) w.drew → olds.length = sLen → sCap < sLen + xs.length → sLen + xs.length ≤ 2 ^ 38 →
      ∃ v' w', (Builtin.append_ #[t, tx] ty #[.slice base sLen sCap, x']).run P w = .ok v' w' ∧ Out μ H w (aRow (cs ++ xs) (sLen + xs.length) H).1 (aRow (cs ++ xs) (sLen + xs.length) H).2 v' w' ∧
        ∃ cap cells, v' = .slice (some ⟨w.heap.size, 0, none⟩) (sLen + xs.length) cap ∧ w' = w.drew.alloc (.cells cells e) ∧ sLen + xs.length ≤ cap ∧ cap ≤ cells.size ∧ ∀ (i : Nat) u, (cs ++ xs)[i]? = some u → ∃ u', cells[i]? = some u' ∧ VR μ u u' := by
    intro cs olds ho base sLen sCap hold hol hlt hbig
    obtain ⟨cap, cells, h1, h2, h3, h4⟩ := grow base sLen sCap olds hold hol hlt hbig
    have hall : ∀ (i : Nat) u, (cs ++ xs)[i]? = some u → ∃ u', cells[i]? = some u' ∧ VR μ u u' := by
      intro i u hi
      obtain ⟨u', g1, g2⟩ := (ho.append hvs).get hi
      exact ⟨u', h4 i u' g1, g2⟩
    have rd : Rel μ H w.drew := r.drawn _
    have hlen : (cs ++ xs).length = sLen + xs.length := by rw [List.length_append, ho.length, hol]
    obtain ⟨r', k⟩ := rd.alloc e (cs ++ xs) cells (by omega) hall
    refine ⟨_, _, h1, ⟨_, r', (Keep.drawn r (w.drawn + 1)).trans k, ?_⟩, cap, cells, rfl, rfl, h2, h3, hall⟩
    exact .slice (base := 0) (off := 0) (Ren.put_same ..) h2 (by omega)
  split at h
  · -- nil
    cases hs
    split at h
    · rename_i h0; cases h
      subst h0
      have hv0 : vs = [] := List.eq_nil_of_length_eq_zero (by simpa using hvl)
      subst hv0
      have hl0 := hsrc'.len
      have hl1 := hsrc'.cells
      simp only [List.length_nil] at hl0 hl1
      refine ⟨.slice none 0 0, w, ?_, μ, r, Keep.refl μ H w r.dom, .sliceNil⟩
      rcases hsrc'.kind with ⟨e', hk⟩ | hk <;> simp [Builtin.append_, run_underlying hu, run_underlying hk, sizeOf, typeInfo, hti, hl0, hl1]
    · rename_i h0
      split at h
      case isFalse => cases h
      rename_i hbig; cases h
      have hpos : 0 < xs.length := List.length_pos_iff.2 h0
      obtain ⟨v', w', h1, h2, _⟩ := made [] [] .nil none 0 0 (by simp [Builtin.firstCells]) rfl (by omega) (by omega)
      refine ⟨v', w', h1, ?_⟩
      rw [Nat.zero_add] at h2
      exact h2
  · rename_i b off len cp
    split at h
    case h_2 => cases h
    rename_i cs hb
    split at h
    case isFalse => cases h
    rename_i hcond
    obtain ⟨hend, hbig⟩ := hcond
    split at h
    · rename_i h0; cases h
      subst h0
      have hv0 : vs = [] := List.eq_nil_of_length_eq_zero (by simpa using hvl)
      subst hv0
      have hl0 := hsrc'.len
      have hl1 := hsrc'.cells
      simp only [List.length_nil] at hl0 hl1
      cases hs with
      | slice0 hm0 =>
        rename_i a y
        refine ⟨.slice (some a) 0 0, w, ?_, μ, r, Keep.refl μ H w r.dom, .slice0 hm0⟩
        rcases hsrc'.kind with ⟨e', hk⟩ | hk <;> simp [Builtin.append_, run_underlying hu, run_underlying hk, sizeOf, typeInfo, hti, hl0, hl1, storeCells]
      | slice hm g1 g2 =>
        rename_i cap c base size
        refine ⟨.slice (some ⟨c, base + off, none⟩) len cap, w, ?_, μ, r, Keep.refl μ H w r.dom, .slice hm g1 g2⟩
        rcases hsrc'.kind with ⟨e', hk⟩ | hk <;> simp [Builtin.append_, run_underlying hu, run_underlying hk, sizeOf, typeInfo, hti, hl0, hl1, storeCells, g1]
    · rename_i h0; cases h
      have hpos : 0 < xs.length := List.length_pos_iff.2 h0
      cases hs with
      | slice0 hm0 =>
        rename_i a y
        have hdrop : cs.drop off = [] := List.drop_eq_nil_of_le (by omega)
        rw [hdrop]
        obtain ⟨v', w', h1, h2, cap, cells, rfl, rfl, g1, g2, g3⟩ := made [] [] .nil (some a) 0 0 (by simp [Builtin.firstCells, loadCells, loadCellsFrom]) rfl (by omega) (by omega)
        refine ⟨_, _, h1, ?_⟩
        have rd : Rel μ H w.drew := r.drawn _
        obtain ⟨r', k⟩ := rd.replace (w' := w.drew.alloc (.cells cells e)) (cs := [] ++ xs) hb (c := w.heap.size) (base := 0) (size := cells.size) (.inr ⟨rfl, by simp, fun d hd => heap_alloc_lt w.drew _ d hd⟩) rfl rfl rfl
          ⟨cells, e, (0, 0), by show (w.heap.push _)[w.heap.size]? = _; simp, rfl⟩ (by simp at g1 ⊢; omega) (fun i u hi => by
            obtain ⟨u', q1, q2⟩ := g3 i u hi
            refine ⟨u', ?_, q2⟩
            have := World.cell?_alloc_new w.drew cells e i
            rw [Nat.zero_add]; exact this.trans q1) (fun i _ => World.frozen?_alloc_new w.drew cells e i) (fun base0 size0 h => absurd (r.lt _ _ _ _ h) (by omega))
        refine ⟨_, r', (Keep.drawn r (w.drawn + 1)).trans k, ?_⟩
        rw [Nat.zero_add] at *
        exact .slice (base := 0) (off := 0) (Ren.put_same ..) (by omega) (by omega)
      | slice hm g1 g2 =>
        rename_i cap c base size
        obtain ⟨olds, o1, o2, o3⟩ := r.cells hm hb len off (by omega)
        have htake : (cs.drop off).take len = cs.drop off := List.take_of_length_le (by simp; omega)
        rw [htake] at o2
        by_cases hroom : len + xs.length ≤ cap
        · -- there is room: the block is written on
          obtain ⟨cells, T, fr, t1, t2⟩ := r.tgt b c base size hm ⟨false, cs, hb⟩
          have hfit := r.fits b c base size false cs hm hb
          have hfree := r.free b c base size cs hm hb
          obtain ⟨w', s1, s2, s3, s4, s5, s6, s7⟩ := run_storeCells (P := P) vs w c (base + off + len) 0 cells T fr t1 (by omega) (fun j hj => hfree j (by omega)) hsrc'.one
          have hst : (storeCells ⟨c, base + off + len, none⟩ vs 0).run P w = .ok () (w.setCells c (base + off + len) vs) := by
            have := run_storeCells_cells (P := P) c (base + off + len) vs 0 w (fun j hj => by
              simp only [Nat.add_zero]
              rw [World.cell?, t1]
              simp; omega) (fun j hj => by simpa using hfree (base + off + len + j) (by omega)) hsrc'.one
            simpa using this
          have hw' : w.setCells c (base + off + len) vs = w' := by
            rw [hst] at s1; injection s1
          have hrun := run_append_room_src (P := P) w t tx ty e ti hu hti c (base + off) len cap x' xs.length vs hsrc' hroom (fun j hj => by
            rw [hti1, Nat.mul_one, World.cell?, t1]; simp; omega) (fun j hj => by rw [hti1, Nat.mul_one]; exact hfree _ (by omega))
          rw [hti1, Nat.mul_one, hw'] at hrun
          refine ⟨_, w', hrun, ?_⟩
          have hcells' : ∀ i, w'.cell? ⟨c, i, none⟩ = (setAll cells.toList (base + off + len + 0) vs)[i]? := by
            intro i; rw [World.cell?, s7]; simp
          obtain ⟨r', k⟩ := r.replace (w' := w') (cs := cs.drop off ++ xs) hb (c := c) (base := base + off) (size := size) (.inl ⟨s5, ⟨base, size, hm⟩, s6⟩) s2 s3 s4
            ⟨_, T, fr, s7, by simp [setAll_length, t2]⟩ (by simp; omega) (fun i u hi => by
              obtain ⟨u', q1, q2⟩ := (o2.append hvs).get hi
              refine ⟨u', ?_, q2⟩
              rw [hcells', setAll_get]
              by_cases hil : i < len
              · rw [if_neg (by omega)]
                rw [List.getElem?_append_left (by omega)] at q1
                have := o3 i u' q1
                rw [World.cell?, t1] at this
                simpa using this
              · rw [List.getElem?_append_right (by omega)] at q1
                have hiv := (List.getElem?_eq_some_iff.1 q1).1
                rw [if_pos (by simp; omega)]
                rw [show base + off + i - (base + off + len + 0) = i - olds.length by omega]; exact q1) (fun i hi => by
              have : w'.frozen? ⟨c, i, none⟩ = w.frozen? ⟨c, i, none⟩ := by simp [World.frozen?, s7, t1]
              rw [this]; exact hfree i hi) (fun base0 size0 h => by rw [hm] at h; cases h; rfl)
          refine ⟨_, r', k, ?_⟩
          have := VR.slice (μ := μ.put H.length (c, base + off, size)) (b := H.length) (off := 0) (len := len + xs.length) (cap := cap) (c := c) (base := base + off) (size := size) (Ren.put_same ..) hroom (by omega)
          exact this
        · -- there is none
          obtain ⟨v', w', h1, h2, cap', cells, rfl, rfl, q1, q2, q3⟩ := made (cs.drop off) olds o2 (some ⟨c, base + off, none⟩) len cap (by
            simp only [Builtin.firstCells, Nat.mul_one]
            rw [← o1]
            exact run_loadCells olds (fun j u hj => by simpa using o3 j u hj)) o1 (by omega) (by omega)
          refine ⟨_, _, h1, ?_⟩
          have rd : Rel μ H w.drew := r.drawn _
          obtain ⟨r', k⟩ := rd.replace (w' := w.drew.alloc (.cells cells e)) (cs := cs.drop off ++ xs) hb (c := w.heap.size) (base := 0) (size := cells.size) (.inr ⟨rfl, by simp, fun d hd => heap_alloc_lt w.drew _ d hd⟩) rfl rfl rfl
            ⟨cells, e, (0, 0), by show (w.heap.push _)[w.heap.size]? = _; simp, rfl⟩ (by simp at q1 ⊢; omega) (fun i u hi => by
              obtain ⟨u', p1, p2⟩ := q3 i u hi
              refine ⟨u', ?_, p2⟩
              have := World.cell?_alloc_new w.drew cells e i
              rw [Nat.zero_add]; exact this.trans p1) (fun i _ => World.frozen?_alloc_new w.drew cells e i) (fun base0 size0 h => absurd (r.lt _ _ _ _ h) (by omega))
          refine ⟨_, r', (Keep.drawn r (w.drawn + 1)).trans k, ?_⟩
          exact .slice (base := 0) (off := 0) (Ren.put_same ..) (by omega) (by omega)
  · cases h

end Go.Proofs.Ytnhhdgopgecggaa.Abs
