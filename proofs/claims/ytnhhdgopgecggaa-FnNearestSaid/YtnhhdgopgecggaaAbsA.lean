/- An abstract machine over the model: what a run of Go code does to values whose memory is told block by block, for whatever tape. This part: values, renamings, the relation between the abstract and the model's memory, and what a piece of a run leaves as it was. No condition. -/
import Derived.WalkKit
import Derived.Laws.FloatArith
import Derived.KernelRfl
set_option linter.unusedVariables false
set_option linter.unusedSimpArgs false
namespace Go.Proofs.Ytnhhdgopgecggaa.Abs
open Go

/-- A block of the abstract memory: dead (nobody may look at it), or live: its cells; a locked one is never written. -/
inductive Blk where
  | dead
  | live (lk : Bool) (cs : List Value)

abbrev AHeap := List Blk
/-- Where an abstract block lies: the model's block, the first cell, the block's size. -/
abbrev Ren := Nat → Option (Nat × Nat × Nat)

def nanOf : FloatKind → Nat
  | .f32 => 0x7fc00000
  | .f64 => 0x7ff8000000000000
def nanB (k : FloatKind) (x : Nat) : Bool := (k.decode x).isNaN
/-- One word stands for all not-a-numbers. -/
def canon (k : FloatKind) (x : Nat) : Nat := if nanB k x then nanOf k else x

mutual
inductive VR (μ : Ren) : Value → Value → Prop
  | bool (b : Bool) : VR μ (.bool b) (.bool b)
  | int (k : IntKind) (n : Int) : VR μ (.int k n) (.int k n)
  | float (k : FloatKind) (x : Nat) : VR μ (.float k (canon k x)) (.float k x)
  | complex (k : FloatKind) (x y : Nat) : VR μ (.complex k (canon k x) (canon k y)) (.complex k x y)
  | string (s : ByteArray) : VR μ (.string s) (.string s)
  | ptrNil : VR μ (.pointer none) (.pointer none)
  | ptr {b off c base size : Nat} (h : μ b = some (c, base, size)) : VR μ (.pointer (some ⟨b, off, none⟩)) (.pointer (some ⟨c, base + off, none⟩))
  | sliceNil : VR μ (.slice none 0 0) (.slice none 0 0)
  | slice0 {b off : Nat} {a : Addr} {x : Nat × Nat × Nat} (h : μ b = some x) : VR μ (.slice (some ⟨b, off, none⟩) 0 0) (.slice (some a) 0 0)
  | slice {b off len cap c base size : Nat} (h : μ b = some (c, base, size)) (h1 : len ≤ cap) (h2 : base + off + cap ≤ size) :
      VR μ (.slice (some ⟨b, off, none⟩) len len) (.slice (some ⟨c, base + off, none⟩) len cap)
  | func (fn : Fn) {f f' c c' : List Value} (hf : VRL μ f f') (hc : VRL μ c c') : VR μ (.func fn ⟨f⟩ ⟨c⟩) (.func fn ⟨f'⟩ ⟨c'⟩)
  | nilFunc : VR μ .nilFunc .nilFunc
  | iface (t : TypeId) {v v' : Value} (h : VR μ v v') : VR μ (.iface t v) (.iface t v')
  | nilIface : VR μ .nilIface .nilIface
  | agg {l l' : List Value} (h : VRL μ l l') : VR μ (.agg ⟨l⟩) (.agg ⟨l'⟩)
  | tuple {l l' : List Value} (h : VRL μ l l') : VR μ (.tuple ⟨l⟩) (.tuple ⟨l'⟩)
inductive VRL (μ : Ren) : List Value → List Value → Prop
  | nil : VRL μ [] []
  | cons {v v' : Value} {l l' : List Value} (h : VR μ v v') (t : VRL μ l l') : VRL μ (v :: l) (v' :: l')
end

theorem VR.undef (μ : Ren) : VR μ Go.undef Go.undef := .tuple .nil

/-- Where one renaming goes, the other goes too. -/
def Ren.le (μ μ' : Ren) : Prop := ∀ b x, μ b = some x → μ' b = some x
theorem Ren.le_refl (μ : Ren) : μ.le μ := fun _ _ h => h
theorem Ren.le_trans {μ μ' μ'' : Ren} (h : μ.le μ') (h' : μ'.le μ'') : μ.le μ'' := fun b x e => h' b x (h b x e)

mutual
theorem VR.mono {μ μ' : Ren} (hl : μ.le μ') {v v' : Value} (h : VR μ v v') : VR μ' v v' := by
  cases h with
  | bool b => exact .bool b
  | int k n => exact .int k n
  | float k x => exact .float k x
  | complex k x y => exact .complex k x y
  | string s => exact .string s
  | ptrNil => exact .ptrNil
  | ptr h => exact .ptr (hl _ _ h)
  | sliceNil => exact .sliceNil
  | slice0 h => exact .slice0 (hl _ _ h)
  | slice h h1 h2 => exact .slice (hl _ _ h) h1 h2
  | func fn hf hc => exact .func fn (VRL.mono hl hf) (VRL.mono hl hc)
  | nilFunc => exact .nilFunc
  | iface t h => exact .iface t (VR.mono hl h)
  | nilIface => exact .nilIface
  | agg h => exact .agg (VRL.mono hl h)
  | tuple h => exact .tuple (VRL.mono hl h)
theorem VRL.mono {μ μ' : Ren} (hl : μ.le μ') {l l' : List Value} (h : VRL μ l l') : VRL μ' l l' := by
  cases h with
  | nil => exact .nil
  | cons h t => exact .cons (VR.mono hl h) (VRL.mono hl t)
end

theorem VRL.length {μ : Ren} {l l' : List Value} (h : VRL μ l l') : l.length = l'.length := by
  induction l generalizing l' with
  | nil => cases h; rfl
  | cons v l ih => cases h with | cons h t => simp [ih t]

theorem VRL.get {μ : Ren} {l l' : List Value} (h : VRL μ l l') {i : Nat} {v : Value} (hi : l[i]? = some v) : ∃ v', l'[i]? = some v' ∧ VR μ v v' := by
  induction l generalizing l' i with
  | nil => simp at hi
  | cons x l ih =>
    cases h with
    | cons h t =>
      cases i with
      | zero => simp at hi; subst hi; exact ⟨_, by simp, h⟩
      | succ i => simp at hi; simpa using ih t hi

theorem VRL.getD {μ : Ren} {l l' : List Value} (h : VRL μ l l') (i : Nat) : VR μ (l.getD i Go.undef) (l'.getD i Go.undef) := by
  cases hi : l[i]? with
  | some v =>
    obtain ⟨v', h1, h2⟩ := h.get hi
    simpa [List.getD_eq_getElem?_getD, hi, h1] using h2
  | none =>
    have : l'[i]? = none := by
      rw [List.getElem?_eq_none_iff] at hi ⊢
      rw [← h.length]; exact hi
    simpa [List.getD_eq_getElem?_getD, hi, this] using VR.undef μ

theorem VRL.set {μ : Ren} {l l' : List Value} (h : VRL μ l l') {v v' : Value} (hv : VR μ v v') (i : Nat) : VRL μ (l.set i v) (l'.set i v') := by
  induction l generalizing l' i with
  | nil => cases h; exact .nil
  | cons x l ih =>
    cases h with
    | cons h t =>
      cases i with
      | zero => exact .cons hv t
      | succ i => exact .cons h (ih t i)

theorem VRL.append {μ : Ren} {l l' m m' : List Value} (h : VRL μ l l') (hm : VRL μ m m') : VRL μ (l ++ m) (l' ++ m') := by
  induction l generalizing l' with
  | nil => cases h; exact hm
  | cons x l ih => cases h with | cons h t => exact .cons h (ih t)

theorem VRL.take {μ : Ren} {l l' : List Value} (h : VRL μ l l') (n : Nat) : VRL μ (l.take n) (l'.take n) := by
  induction l generalizing l' n with
  | nil => cases h; simpa using VRL.nil
  | cons x l ih =>
    cases h with
    | cons h t => cases n with
      | zero => simpa using VRL.nil
      | succ n => simpa using VRL.cons h (ih t n)

theorem VRL.drop {μ : Ren} {l l' : List Value} (h : VRL μ l l') (n : Nat) : VRL μ (l.drop n) (l'.drop n) := by
  induction l generalizing l' n with
  | nil => cases h; simpa using VRL.nil
  | cons x l ih =>
    cases h with
    | cons h t => cases n with
      | zero => simpa using VRL.cons h t
      | succ n => simpa using ih t n

theorem VRL.replicate {μ : Ren} {v v' : Value} (h : VR μ v v') (n : Nat) : VRL μ (List.replicate n v) (List.replicate n v') := by
  induction n with
  | zero => exact .nil
  | succ n ih => exact .cons h ih

theorem VRL.of_get {μ : Ren} {l l' : List Value} (hl : l.length = l'.length) (h : ∀ (i : Nat) v, l[i]? = some v → ∃ v', l'[i]? = some v' ∧ VR μ v v') : VRL μ l l' := by
  induction l generalizing l' with
  | nil => cases l' with
    | nil => exact .nil
    | cons _ _ => simp at hl
  | cons x l ih => cases l' with
    | nil => simp at hl
    | cons y m =>
      refine .cons ?_ (ih (by simpa using hl) fun i v hi => by simpa using h (i + 1) v (by simpa using hi))
      obtain ⟨v', h1, h2⟩ := h 0 x (by simp)
      simp at h1; subst h1; exact h2

/-! ### Below which block the addresses of a value lie -/
mutual
def bel (n : Nat) : Value → Bool
  | .pointer (some a) => decide (a.block < n)
  | .slice (some a) _ _ => decide (a.block < n)
  | .func _ ⟨f⟩ ⟨c⟩ => belL n f && belL n c
  | .agg ⟨l⟩ | .tuple ⟨l⟩ => belL n l
  | .iface _ v => bel n v
  | _ => true
def belL (n : Nat) : List Value → Bool
  | [] => true
  | v :: l => bel n v && belL n l
end

def Ren.cut (μ : Ren) (n : Nat) : Ren := fun b => if b < n then μ b else none
theorem Ren.cut_le (μ : Ren) (n : Nat) : (μ.cut n).le μ := fun b x h => by
  simp only [Ren.cut] at h; split at h
  · exact h
  · cases h
theorem Ren.cut_mono (μ : Ren) {n m : Nat} (h : n ≤ m) : (μ.cut n).le (μ.cut m) := fun b x hx => by
  simp only [Ren.cut] at hx ⊢; split at hx
  · rw [if_pos (by omega)]; exact hx
  · cases hx
theorem Ren.cut_lt (μ : Ren) {n b : Nat} (h : b < n) : μ.cut n b = μ b := by simp [Ren.cut, h]

mutual
theorem VR.bel {μ : Ren} {n : Nat} (hd : ∀ b x, μ b = some x → b < n) {v v' : Value} (h : VR μ v v') : bel n v = true := by
  cases h with
  | bool b => rfl
  | int k n => rfl
  | float k x => rfl
  | complex k x y => rfl
  | string s => rfl
  | ptrNil => rfl
  | ptr h => simpa [Abs.bel] using hd _ _ h
  | sliceNil => rfl
  | slice0 h => simpa [Abs.bel] using hd _ _ h
  | slice h h1 h2 => simpa [Abs.bel] using hd _ _ h
  | func fn hf hc => simp only [Abs.bel, VRL.bel hd hf, VRL.bel hd hc, Bool.and_self]
  | nilFunc => rfl
  | iface t h => simpa [Abs.bel] using VR.bel hd h
  | nilIface => rfl
  | agg h => simpa [Abs.bel] using VRL.bel hd h
  | tuple h => simpa [Abs.bel] using VRL.bel hd h
theorem VRL.bel {μ : Ren} {n : Nat} (hd : ∀ b x, μ b = some x → b < n) {l l' : List Value} (h : VRL μ l l') : belL n l = true := by
  cases h with
  | nil => rfl
  | cons h t => simp only [belL, VR.bel hd h, VRL.bel hd t, Bool.and_self]
end

mutual
theorem VR.cut {μ : Ren} {n : Nat} {v v' : Value} (h : VR μ v v') (hb : Abs.bel n v = true) : VR (μ.cut n) v v' := by
  cases h with
  | bool b => exact .bool b
  | int k n => exact .int k n
  | float k x => exact .float k x
  | complex k x y => exact .complex k x y
  | string s => exact .string s
  | ptrNil => exact .ptrNil
  | ptr h => exact .ptr (by rw [Ren.cut_lt _ (by simpa [Abs.bel] using hb)]; exact h)
  | sliceNil => exact .sliceNil
  | slice0 h => exact .slice0 (by rw [Ren.cut_lt _ (by simpa [Abs.bel] using hb)]; exact h)
  | slice h h1 h2 => exact .slice (by rw [Ren.cut_lt _ (by simpa [Abs.bel] using hb)]; exact h) h1 h2
  | func fn hf hc =>
    simp only [Abs.bel, Bool.and_eq_true] at hb
    exact .func fn (VRL.cut hf hb.1) (VRL.cut hc hb.2)
  | nilFunc => exact .nilFunc
  | iface t h => exact .iface t (VR.cut h (by simpa [Abs.bel] using hb))
  | nilIface => exact .nilIface
  | agg h => exact .agg (VRL.cut h (by simpa [Abs.bel] using hb))
  | tuple h => exact .tuple (VRL.cut h (by simpa [Abs.bel] using hb))
theorem VRL.cut {μ : Ren} {n : Nat} {l l' : List Value} (h : VRL μ l l') (hb : belL n l = true) : VRL (μ.cut n) l l' := by
  cases h with
  | nil => exact .nil
  | cons h t =>
    simp only [belL, Bool.and_eq_true] at hb
    exact .cons (VR.cut h hb.1) (VRL.cut t hb.2)
end

/-! ### Values that hold no address: related to themselves -/
mutual
def closed : Value → Bool
  | .bool _ | .int _ _ | .string _ | .pointer none | .nilFunc | .nilIface => true
  | .float k x => x == canon k x
  | .complex k x y => x == canon k x && y == canon k y
  | .slice none 0 0 => true
  | .func _ ⟨f⟩ ⟨c⟩ => closedL f && closedL c
  | .agg ⟨l⟩ | .tuple ⟨l⟩ => closedL l
  | .iface _ v => closed v
  | _ => false
def closedL : List Value → Bool
  | [] => true
  | v :: l => closed v && closedL l
end

mutual
theorem VR.of_closed (μ : Ren) : ∀ v : Value, closed v = true → VR μ v v
  | .bool b, _ => .bool b
  | .int k n, _ => .int k n
  | .string s, _ => .string s
  | .pointer none, _ => .ptrNil
  | .nilFunc, _ => .nilFunc
  | .nilIface, _ => .nilIface
  | .float k x, h => by
    have e : x = canon k x := by simpa [closed] using h
    have := VR.float (μ := μ) k x
    rwa [← e] at this
  | .complex k x y, h => by
    have e : x = canon k x ∧ y = canon k y := by simpa [closed] using h
    have := VR.complex (μ := μ) k x y
    rwa [← e.1, ← e.2] at this
  | .slice none 0 0, _ => .sliceNil
  | .func fn ⟨f⟩ ⟨c⟩, h => by
    have e : closedL f = true ∧ closedL c = true := by simpa [closed] using h
    exact .func fn (VRL.of_closed μ f e.1) (VRL.of_closed μ c e.2)
  | .agg ⟨l⟩, h => .agg (VRL.of_closed μ l (by simpa [closed] using h))
  | .tuple ⟨l⟩, h => .tuple (VRL.of_closed μ l (by simpa [closed] using h))
  | .iface t v, h => .iface t (VR.of_closed μ v (by simpa [closed] using h))
  | .pointer (some _), h => by simp [closed] at h
  | .slice (some _) _ _, h => by simp [closed] at h
  | .slice none (_ + 1) _, h => by simp [closed] at h
  | .slice none 0 (_ + 1), h => by simp [closed] at h
  | .map _, h => by simp [closed] at h
  | .chan _, h => by simp [closed] at h
theorem VRL.of_closed (μ : Ren) : ∀ l : List Value, closedL l = true → VRL μ l l
  | [], _ => .nil
  | v :: l, h => by
    have e : closed v = true ∧ closedL l = true := by simpa [closedL] using h
    exact .cons (VR.of_closed μ v e.1) (VRL.of_closed μ l e.2)
end

/-- Values that are the same in both machines: what holds no address and no float. -/
def ground : Value → Bool
  | .bool _ | .int _ _ | .string _ | .pointer none | .nilFunc | .nilIface => true
  | _ => false
theorem VR.ground_eq {μ : Ren} {v v' : Value} (h : VR μ v v') (g : ground v = true) : v' = v := by
  cases h <;> first | rfl | simp [ground] at g
theorem closed_of_ground {v : Value} (g : ground v = true) : closed v = true := by
  cases v <;> first | rfl | (simp [ground] at g; done) | skip
  case pointer a => cases a <;> first | rfl | simp [ground] at g

/-! ### The memory -/
def Ulive (H : AHeap) (b : Nat) : Prop := ∃ cs, H[b]? = some (.live false cs)
def Alive (H : AHeap) (b : Nat) : Prop := ∃ lk cs, H[b]? = some (.live lk cs)
theorem Ulive.alive {H : AHeap} {b : Nat} (h : Ulive H b) : Alive H b := let ⟨cs, h⟩ := h; ⟨false, cs, h⟩

structure Rel (μ : Ren) (H : AHeap) (w : World) : Prop where
  dom : ∀ b x, μ b = some x → b < H.length
  lt : ∀ b c base size, μ b = some (c, base, size) → c < w.heap.size
  tgt : ∀ b c base size, μ b = some (c, base, size) → Alive H b → ∃ cells T fr, w.heap[c]? = some (.cells cells T fr) ∧ cells.size = size
  fits : ∀ b c base size lk cs, μ b = some (c, base, size) → H[b]? = some (.live lk cs) → base + cs.length ≤ size
  cell : ∀ b c base size lk cs i v, μ b = some (c, base, size) → H[b]? = some (.live lk cs) → cs[i]? = some v → ∃ v', w.cell? ⟨c, base + i, none⟩ = some v' ∧ VR μ v v'
  free : ∀ b c base size cs, μ b = some (c, base, size) → H[b]? = some (.live false cs) → ∀ i, i < size → w.frozen? ⟨c, i, none⟩ = false
  inj : ∀ b b' c base size base' size', μ b = some (c, base, size) → μ b' = some (c, base', size') → Alive H b → Alive H b' → (Ulive H b ∨ Ulive H b') → b = b'

structure Keep (μ : Ren) (H : AHeap) (w : World) (μ' : Ren) (H' : AHeap) (w' : World) : Prop where
  os : w'.os = w.os
  tape : w'.tape = w.tape
  output : w'.output = w.output
  size : w.heap.size ≤ w'.heap.size
  blk : ∀ c, c < w.heap.size → (∀ b base size, μ b = some (c, base, size) → ¬ Ulive H b) → w'.heap[c]? = w.heap[c]?
  ren : ∀ b, b < H.length → μ' b = μ b
  new : ∀ b c base size, H.length ≤ b → μ' b = some (c, base, size) → w.heap.size ≤ c ∨ ∃ b0 base0 size0, μ b0 = some (c, base0, size0) ∧ Ulive H b0
  len : H.length ≤ H'.length
  lock : ∀ (b : Nat) cs, H[b]? = some (.live true cs) → H'[b]? = some (.live true cs)
  dead : ∀ (b : Nat), H[b]? = some .dead → H'[b]? = some .dead
  unl : ∀ (b : Nat) cs, b < H.length → H'[b]? = some (.live true cs) → H[b]? = some (.live true cs)

theorem Keep.refl (μ : Ren) (H : AHeap) (w : World) (hd : ∀ b x, μ b = some x → b < H.length) : Keep μ H w μ H w :=
  ⟨rfl, rfl, rfl, Nat.le_refl _, fun _ _ _ => rfl, fun _ _ => rfl, fun b c base size hb h => absurd (hd b _ h) (by omega), Nat.le_refl _, fun _ _ h => h, fun _ h => h, fun _ _ _ h => h⟩

theorem Keep.le {μ μ' : Ren} {H H' : AHeap} {w w' : World} (f : Keep μ H w μ' H' w') (r : Rel μ H w) : μ.le μ' := fun b x h => by
  rw [f.ren b (r.dom b x h)]; exact h

theorem Keep.ulive_back {μ μ' : Ren} {H H' : AHeap} {w w' : World} (f : Keep μ H w μ' H' w') {b : Nat} (hb : b < H.length) (h : Ulive H' b) : Ulive H b := by
  obtain ⟨cs, h⟩ := h
  cases e : H[b]? with
  | none => rw [List.getElem?_eq_none_iff] at e; omega
  | some x =>
    cases x with
    | dead => rw [f.dead b e] at h; cases h
    | live lk cs' =>
      cases lk with
      | false => exact ⟨cs', e⟩
      | true => rw [f.lock b cs' e] at h; cases h

theorem Keep.trans {μ μ' μ'' : Ren} {H H' H'' : AHeap} {w w' w'' : World} (f : Keep μ H w μ' H' w') (g : Keep μ' H' w' μ'' H'' w'') : Keep μ H w μ'' H'' w'' where
  os := g.os.trans f.os
  tape := g.tape.trans f.tape
  output := g.output.trans f.output
  size := Nat.le_trans f.size g.size
  blk := fun c hc hn => by
    rw [g.blk c (Nat.lt_of_lt_of_le hc f.size) ?_, f.blk c hc hn]
    intro b base size hb hu
    by_cases hl : b < H.length
    · exact hn b base size (by rw [← f.ren b hl]; exact hb) (f.ulive_back hl hu)
    · rcases f.new b c base size (by omega) hb with h | ⟨b0, base0, size0, h0, hu0⟩
      · omega
      · exact hn b0 base0 size0 h0 hu0
  ren := fun b hb => (g.ren b (Nat.lt_of_lt_of_le hb f.len)).trans (f.ren b hb)
  new := fun b c base size hb h => by
    by_cases hl : b < H'.length
    · exact f.new b c base size hb (by rw [← g.ren b hl]; exact h)
    · rcases g.new b c base size (by omega) h with h' | ⟨b0, base0, size0, h0, hu0⟩
      · exact .inl (Nat.le_trans f.size h')
      · by_cases hb0 : b0 < H.length
        · exact .inr ⟨b0, base0, size0, by rw [← f.ren b0 hb0]; exact h0, f.ulive_back hb0 hu0⟩
        · exact f.new b0 c base0 size0 (by omega) h0
  len := Nat.le_trans f.len g.len
  lock := fun b cs h => g.lock b cs (f.lock b cs h)
  dead := fun b h => g.dead b (f.dead b h)
  unl := fun b cs hb h => f.unl b cs hb (g.unl b cs (Nat.lt_of_lt_of_le hb f.len) h)

/-- The outcome of a piece of a run. -/
def Out (μ : Ren) (H : AHeap) (w : World) (r : Value) (H' : AHeap) (v : Value) (w' : World) : Prop :=
  ∃ μ', Rel μ' H' w' ∧ Keep μ H w μ' H' w' ∧ VR μ' r v

/-- The world but for how often the tape was asked. -/
theorem Rel.drawn {μ : Ren} {H : AHeap} {w : World} (r : Rel μ H w) (n : Nat) : Rel μ H { w with drawn := n } :=
  ⟨r.dom, r.lt, r.tgt, r.fits, r.cell, r.free, r.inj⟩
theorem Keep.drawn {μ : Ren} {H : AHeap} {w : World} (r : Rel μ H w) (n : Nat) : Keep μ H w μ H { w with drawn := n } :=
  ⟨rfl, rfl, rfl, Nat.le_refl _, fun _ _ _ => rfl, fun _ _ => rfl, fun b c base size hb h => absurd (r.dom b _ h) (by omega), Nat.le_refl _, fun _ _ h => h, fun _ h => h, fun _ _ _ h => h⟩

/-! ### A new block -/
def Ren.put (μ : Ren) (b : Nat) (x : Nat × Nat × Nat) : Ren := fun i => if i = b then some x else μ i
theorem Ren.put_same (μ : Ren) (b : Nat) (x : Nat × Nat × Nat) : μ.put b x b = some x := by simp [Ren.put]
theorem Ren.put_ne (μ : Ren) {b i : Nat} (x : Nat × Nat × Nat) (h : i ≠ b) : μ.put b x i = μ i := by simp [Ren.put, h]

theorem Rel.put_le {μ : Ren} {H : AHeap} {w : World} (r : Rel μ H w) (x : Nat × Nat × Nat) : μ.le (μ.put H.length x) := fun b y h => by
  rw [Ren.put_ne]; exact h
  have := r.dom b y h; omega

/-- A new block of the model with cells related to the abstract ones (the model's may be more). -/
theorem Rel.alloc {μ : Ren} {H : AHeap} {w : World} (r : Rel μ H w) (T : TypeId) (cs : List Value) (cells : Array Value) (hn : cs.length ≤ cells.size)
    (hv : ∀ (i : Nat) v, cs[i]? = some v → ∃ v', cells[i]? = some v' ∧ VR μ v v') :
    Rel (μ.put H.length (w.heap.size, 0, cells.size)) (H ++ [.live false cs]) (w.alloc (.cells cells T)) ∧
    Keep μ H w (μ.put H.length (w.heap.size, 0, cells.size)) (H ++ [.live false cs]) (w.alloc (.cells cells T)) := by
  have hle := r.put_le (w.heap.size, 0, cells.size)
  have old : ∀ b x, (μ.put H.length (w.heap.size, 0, cells.size)) b = some x → b ≠ H.length → μ b = some x ∧ b < H.length := by
    intro b x h hb
    rw [Ren.put_ne _ _ hb] at h
    exact ⟨h, r.dom b x h⟩
  have aliveOld : ∀ b, b < H.length → Alive (H ++ [Blk.live false cs]) b → Alive H b := by
    rintro b hb ⟨lk, cs', h⟩
    rw [List.getElem?_append_left hb] at h
    exact ⟨lk, cs', h⟩
  have uliveOld : ∀ b, b < H.length → Ulive (H ++ [Blk.live false cs]) b → Ulive H b := by
    rintro b hb ⟨cs', h⟩
    rw [List.getElem?_append_left hb] at h
    exact ⟨cs', h⟩
  have hnew : w.heap.size = (w.alloc (.cells cells T)).heap.size - 1 := by simp
  refine ⟨⟨?_, ?_, ?_, ?_, ?_, ?_, ?_⟩, ⟨rfl, rfl, rfl, by simp, ?_, ?_, ?_, by simp, ?_, ?_, ?_⟩⟩
  · intro b x h
    by_cases hb : b = H.length
    · simp [hb]
    · have := (old b x h hb).2; simp; omega
  · intro b c base size h
    by_cases hb : b = H.length
    · subst hb; rw [Ren.put_same] at h; cases h; simp
    · have := r.lt _ _ _ _ (old b _ h hb).1; simp; omega
  · intro b c base size h ha
    by_cases hb : b = H.length
    · subst hb; rw [Ren.put_same] at h; cases h
      exact ⟨cells, T, (0, 0), by show (w.heap.push _)[w.heap.size]? = _; simp, rfl⟩
    · obtain ⟨h, hb⟩ := old b _ h hb
      obtain ⟨c', T', fr, hc, hs⟩ := r.tgt b c base size h (aliveOld b hb ha)
      have hlt := r.lt _ _ _ _ h
      exact ⟨c', T', fr, by simp only [World.alloc, Array.getElem?_push]; rw [if_neg (by omega)]; exact hc, hs⟩
  · intro b c base size lk cs' h hH
    by_cases hb : b = H.length
    · subst hb; rw [Ren.put_same] at h; cases h
      simp at hH; obtain ⟨_, rfl⟩ := hH; omega
    · obtain ⟨h, hb⟩ := old b _ h hb
      rw [List.getElem?_append_left hb] at hH
      exact r.fits b c base size lk cs' h hH
  · intro b c base size lk cs' i v h hH hi
    by_cases hb : b = H.length
    · subst hb; rw [Ren.put_same] at h; cases h
      simp at hH; obtain ⟨_, rfl⟩ := hH
      obtain ⟨v', h1, h2⟩ := hv i v hi
      refine ⟨v', ?_, h2.mono hle⟩
      rw [Nat.zero_add, World.cell?_alloc_new]; exact h1
    · obtain ⟨h, hb⟩ := old b _ h hb
      rw [List.getElem?_append_left hb] at hH
      obtain ⟨v', h1, h2⟩ := r.cell b c base size lk cs' i v h hH hi
      exact ⟨v', by rw [World.cell?_alloc_lt _ _ _ (r.lt _ _ _ _ h)]; exact h1, h2.mono hle⟩
  · intro b c base size cs' h hH i hi
    by_cases hb : b = H.length
    · subst hb; rw [Ren.put_same] at h; cases h
      exact World.frozen?_alloc_new ..
    · obtain ⟨h, hb⟩ := old b _ h hb
      rw [List.getElem?_append_left hb] at hH
      rw [World.frozen?_alloc_old _ _ _ (by have := r.lt _ _ _ _ h; simp; omega)]
      exact r.free b c base size cs' h hH i hi
  · intro b b' c base size base' size' h h' ha ha' hu
    by_cases hb : b = H.length <;> by_cases hb' : b' = H.length
    · rw [hb, hb']
    · subst hb; rw [Ren.put_same] at h; cases h
      obtain ⟨h', _⟩ := old b' _ h' hb'
      exact absurd (r.lt _ _ _ _ h') (by omega)
    · subst hb'; rw [Ren.put_same] at h'; cases h'
      obtain ⟨h, _⟩ := old b _ h hb
      exact absurd (r.lt _ _ _ _ h) (by omega)
    · obtain ⟨h, hl⟩ := old b _ h hb
      obtain ⟨h', hl'⟩ := old b' _ h' hb'
      exact r.inj b b' c base size base' size' h h' (aliveOld b hl ha) (aliveOld b' hl' ha') (hu.imp (uliveOld b hl) (uliveOld b' hl'))
  · intro c hc _
    simp only [World.alloc, Array.getElem?_push]; rw [if_neg (by omega)]
  · intro b hb; exact Ren.put_ne _ _ (by omega)
  · intro b c base size hb h
    by_cases hb' : b = H.length
    · subst hb'; rw [Ren.put_same] at h; cases h; exact .inl (Nat.le_refl _)
    · exact absurd (old b _ h hb').2 (by omega)
  · intro b cs' h
    rw [List.getElem?_append_left (List.getElem?_eq_some_iff.1 h).1]; exact h
  · intro b h
    rw [List.getElem?_append_left (List.getElem?_eq_some_iff.1 h).1]; exact h
  · intro b cs' hb h
    rw [List.getElem?_append_left hb] at h; exact h

/-! ### A cell is written -/
theorem ulive_set {H : AHeap} {b : Nat} {cs cs2 : List Value} (hb : H[b]? = some (.live false cs)) {i : Nat} (h : Ulive (H.set b (.live false cs2)) i) : Ulive H i := by
  obtain ⟨cs', h⟩ := h
  by_cases e : b = i
  · subst e; exact ⟨cs, hb⟩
  · rw [List.getElem?_set, if_neg e] at h; exact ⟨cs', h⟩
theorem alive_set {H : AHeap} {b : Nat} {cs cs2 : List Value} (hb : H[b]? = some (.live false cs)) {i : Nat} (h : Alive (H.set b (.live false cs2)) i) : Alive H i := by
  obtain ⟨lk, c, h⟩ := h
  rw [List.getElem?_set] at h
  split at h
  · rename_i e; subst e; exact ⟨false, cs, hb⟩
  · exact ⟨lk, c, h⟩

theorem Rel.store {μ : Ren} {H : AHeap} {w : World} (r : Rel μ H w) {b c base size i : Nat} {cs : List Value} (hm : μ b = some (c, base, size)) (hb : H[b]? = some (.live false cs))
    (hi : i < cs.length) {v v' : Value} (hv : VR μ v v') :
    Rel μ (H.set b (.live false (cs.set i v))) (w.setCell ⟨c, base + i, none⟩ v') ∧ Keep μ H w μ (H.set b (.live false (cs.set i v))) (w.setCell ⟨c, base + i, none⟩ v') := by
  have hbl : b < H.length := (List.getElem?_eq_some_iff.1 hb).1
  obtain ⟨v0, hc0, _⟩ := r.cell b c base size false cs i (cs[i]) hm hb (List.getElem?_eq_getElem hi)
  have hsetb : (H.set b (.live false (cs.set i v)))[b]? = some (.live false (cs.set i v)) := by simp [List.getElem?_set, hbl]
  have hsetn : ∀ j, j ≠ b → (H.set b (.live false (cs.set i v)))[j]? = H[j]? := fun j hj => by rw [List.getElem?_set]; simp [Ne.symm hj]
  refine ⟨⟨?_, ?_, ?_, ?_, ?_, ?_, ?_⟩, ⟨rfl, rfl, rfl, by simp, ?_, fun _ _ => rfl, ?_, by simp, ?_, ?_, ?_⟩⟩
  · intro b' x h; have := r.dom b' x h; simpa using this
  · intro b' c' base' size' h; have := r.lt _ _ _ _ h; simpa using this
  · intro b' c' base' size' h ha
    obtain ⟨cells, T, fr, h1, h2⟩ := r.tgt b' c' base' size' h (alive_set hb ha)
    by_cases hcc : c' = c
    · subst hcc
      refine ⟨cells.setIfInBounds (base + i) v', T, fr, ?_, by simpa using h2⟩
      simp only [World.setCell, Array.getElem?_modify, if_true, h1, Option.map_some]
      simp
    · refine ⟨cells, T, fr, ?_, h2⟩
      simp only [World.setCell, Array.getElem?_modify]
      rw [if_neg (Ne.symm hcc)]; exact h1
  · intro b' c' base' size' lk cs' h hH
    by_cases hbb : b' = b
    · subst hbb; rw [hsetb] at hH; cases hH
      simpa using r.fits b' c' base' size' false cs h hb
    · rw [hsetn b' hbb] at hH; exact r.fits b' c' base' size' lk cs' h hH
  · intro b' c' base' size' lk cs' j u h hH hj
    by_cases hbb : b' = b
    · subst hbb; rw [hsetb] at hH; cases hH
      rw [hm] at h; cases h
      by_cases hji : j = i
      · subst hji
        rw [List.getElem?_set] at hj; simp [hi] at hj; subst hj
        exact ⟨v', World.cell?_setCell_same w _ _ hc0, hv⟩
      · rw [List.getElem?_set] at hj; rw [if_neg (Ne.symm hji)] at hj
        obtain ⟨u', h1, h2⟩ := r.cell b' c base size false cs j u hm hb hj
        refine ⟨u', ?_, h2⟩
        rw [World.cell?_setCell_other]; exact h1
        intro e; exact hji (by have := congrArg Addr.off e; simp only at this; omega)
    · rw [hsetn b' hbb] at hH
      obtain ⟨u', h1, h2⟩ := r.cell b' c' base' size' lk cs' j u h hH hj
      refine ⟨u', ?_, h2⟩
      rw [World.cell?_setCell_other]; exact h1
      intro e; simp at e
      obtain ⟨rfl, _⟩ := e
      exact hbb (r.inj b' b c base' size' base size h hm ⟨lk, cs', hH⟩ ⟨false, cs, hb⟩ (.inr ⟨cs, hb⟩))
  · intro b' c' base' size' cs' h hH j hj
    rw [World.frozen?_setCell]
    by_cases hbb : b' = b
    · subst hbb; exact r.free b' c' base' size' cs h hb j hj
    · rw [hsetn b' hbb] at hH; exact r.free b' c' base' size' cs' h hH j hj
  · intro b1 b2 c' base1 size1 base2 size2 h1 h2 a1 a2 hu
    exact r.inj b1 b2 c' base1 size1 base2 size2 h1 h2 (alive_set hb a1) (alive_set hb a2) (hu.imp (ulive_set hb) (ulive_set hb))
  · intro c' hc' hn
    simp only [World.setCell, Array.getElem?_modify]
    rw [if_neg]
    intro e; subst e
    exact hn b base size hm ⟨cs, hb⟩
  · intro b' c' base' size' hb' h; exact absurd (r.dom b' _ h) (by omega)
  · intro b' cs' h
    rw [hsetn b' (fun e => by subst e; rw [hb] at h; cases h)]; exact h
  · intro b' h
    rw [hsetn b' (fun e => by subst e; rw [hb] at h; cases h)]; exact h
  · intro b' cs' hb' h
    by_cases hbb : b' = b
    · subst hbb; rw [hsetb] at h; cases h
    · rw [hsetn b' hbb] at h; exact h

end Go.Proofs.Ytnhhdgopgecggaa.Abs
