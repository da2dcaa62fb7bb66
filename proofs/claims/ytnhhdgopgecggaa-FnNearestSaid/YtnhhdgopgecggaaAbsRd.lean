/- The abstract machine: rows read out of the memory. No condition. -/
import Derived.Test.YtnhhdgopgecggaaAbsEz
set_option linter.unusedVariables false
set_option linter.unusedSimpArgs false
namespace Go.Proofs.Ytnhhdgopgecggaa.Abs
open Go

def isF : Value → Option Nat
  | .float .f32 x => some x
  | _ => none
def isB : Value → Option Bool
  | .bool b => some b
  | _ => none
def isI (k : IntKind) : Value → Option Int
  | .int k' n => if k' = k then some n else none
  | _ => none
/-- A row without room, that is not nil: it reads nothing, whatever lies there. -/
def emptyAt (s : Value) (H : AHeap) : Bool :=
  match s with
  | .slice (some ⟨b, _, none⟩) 0 0 => decide (b < H.length)
  | _ => false
theorem emptyAt_inv {s : Value} {H : AHeap} (h : emptyAt s H = true) : ∃ b off, s = .slice (some ⟨b, off, none⟩) 0 0 ∧ b < H.length := by
  unfold emptyAt at h
  split at h
  · exact ⟨_, _, rfl, by simpa using h⟩
  · cases h
def rdS {α : Type} (is : Value → Option α) (s : Value) (H : AHeap) : Option (List α) :=
  match s with
  | .slice _ _ _ => (aCells s H).bind fun cs => if cs.length ≤ 2 ^ 40 then cs.mapM is else none
  | _ => none

def rd {α : Type} (is : Value → Option α) (s : Value) (H : AHeap) : Option (List α) := if emptyAt s H = true then some [] else rdS is s H

/-- A row 's' that reads 'xs'. -/
structure Row {α : Type} (is : Value → Option α) (s : Value) (H : AHeap) (xs : List α) (a : Option Addr) (n c : Nat) : Prop where
  eq : s = .slice a n c
  len : n = xs.length
  small : n ≤ 2 ^ 40
  get : ∀ (i : Nat) x, xs[i]? = some x → ∃ b off lk cs v, a = some ⟨b, off, none⟩ ∧ H[b]? = some (.live lk cs) ∧ cs[off + i]? = some v ∧ is v = some x
  kind : a = none ∧ n = 0 ∧ c = 0 ∨ (∃ b off lk cs, a = some ⟨b, off, none⟩ ∧ H[b]? = some (.live lk cs) ∧ off + n ≤ cs.length) ∨ ∃ b off, a = some ⟨b, off, none⟩ ∧ n = 0 ∧ c = 0 ∧ b < H.length
theorem Row.place {α : Type} {is : Value → Option α} {s : Value} {H : AHeap} {xs : List α} {a : Option Addr} {n c : Nat} (r : Row is s H xs a n c) : a = none ∧ n = 0 ∧ c = 0 ∨ ∃ b off, a = some ⟨b, off, none⟩ ∧ b < H.length := by
  rcases r.kind with h | ⟨b, off, lk, cs, h, hb, _⟩ | ⟨b, off, h, _, _, hb⟩
  · exact .inl h
  · exact .inr ⟨b, off, h, (List.getElem?_eq_some_iff.1 hb).1⟩
  · exact .inr ⟨b, off, h, hb⟩

theorem mapM_get {α β : Type} {f : α → Option β} : ∀ {l : List α} {r : List β}, l.mapM f = some r → l.length = r.length ∧ ∀ (i : Nat) y, r[i]? = some y → ∃ x, l[i]? = some x ∧ f x = some y := by
  intro l
  induction l with
  | nil => intro r h; simp at h; subst h; exact ⟨rfl, by simp⟩
  | cons a l ih =>
    intro r h
    simp only [List.mapM_cons, Option.bind_eq_bind, Option.bind_eq_some_iff, Option.pure_def, Option.some.injEq] at h
    obtain ⟨y, hy, ys, hys, rfl⟩ := h
    obtain ⟨h1, h2⟩ := ih hys
    refine ⟨by simp [h1], fun i z hz => ?_⟩
    cases i with
    | zero => simp at hz; subst hz; exact ⟨a, rfl, hy⟩
    | succ i => simp at hz; simpa using h2 i z hz

theorem rd_row {α : Type} {is : Value → Option α} {s : Value} {H : AHeap} {xs : List α} (h : rd is s H = some xs) : ∃ a n c, Row is s H xs a n c := by
  unfold rd at h
  by_cases he : emptyAt s H = true
  · rw [if_pos he] at h
    cases h
    obtain ⟨b, off, rfl, hb⟩ := emptyAt_inv he
    exact ⟨_, 0, 0, rfl, rfl, by omega, by simp, .inr (.inr ⟨b, off, rfl, rfl, rfl, hb⟩)⟩
  rw [if_neg he] at h
  clear he
  unfold rdS at h
  split at h
  case h_2 => cases h
  rename_i a n c
  simp only [Option.bind_eq_some_iff] at h
  obtain ⟨cs, h1, h2⟩ := h
  split at h2
  case isFalse => cases h2
  rename_i hsm
  obtain ⟨h3, h4⟩ := mapM_get h2
  have hlen : n = xs.length := by
    unfold aCells at h1
    split at h1
    · rename_i e; cases e; cases h1; simpa using h3
    · rename_i b off len cp e; cases e
      split at h1
      · rename_i lk cs' hb
        split at h1
        · cases h1; rw [← h3]; simp; omega
        · cases h1
      · cases h1
    · rename_i e; cases e
    · cases h1
  refine ⟨a, n, c, rfl, hlen, by omega, ?_, ?_⟩
  · intro i x hx
    obtain ⟨v, hv, hf⟩ := h4 i x hx
    unfold aCells at h1
    split at h1
    · cases h1; simp at hv
    · rename_i b off len cp e; cases e
      split at h1
      · rename_i lk cs' hb
        split at h1
        · cases h1
          refine ⟨b, off, lk, cs', v, rfl, hb, ?_, hf⟩
          have hi : i < n := by
            have := (List.getElem?_eq_some_iff.1 hv).1
            simp at this; omega
          simp only [List.getElem?_take, hi, if_true, List.getElem?_drop] at hv
          exact hv
        · cases h1
      · cases h1
    · rename_i e; cases e
    · cases h1
  · unfold aCells at h1
    split at h1
    · rename_i e; cases e; exact .inl ⟨rfl, rfl, rfl⟩
    · rename_i b off len cp e; cases e
      split at h1
      · rename_i lk cs' hb
        split at h1
        · rename_i hl; exact .inr (.inl ⟨b, off, lk, cs', rfl, hb, hl⟩)
        · cases h1
      · cases h1
    · rename_i e; cases e
    · cases h1

theorem Row.hp {α : Type} {is : Value → Option α} {s : Value} {H : AHeap} {xs : List α} {a : Option Addr} {n c : Nat} (r : Row is s H xs a n c) (e : AHeap) : Row is s (hp H e) xs a n c :=
  ⟨r.eq, r.len, r.small, fun i x hx => let ⟨b, off, lk, cs, v, h1, h2, h3⟩ := r.get i x hx; ⟨b, off, lk, cs, v, h1, hp_old h2 e, h3⟩,
    r.kind.imp id (Or.imp (fun ⟨b, off, lk, cs, h1, h2, h3⟩ => ⟨b, off, lk, cs, h1, hp_old h2 e, h3⟩) fun ⟨b, off, h1, h2, h3, h4⟩ => ⟨b, off, h1, h2, h3, by unfold Abs.hp; rw [List.length_append]; omega⟩)⟩
theorem mapM_of_get {α β : Type} {f : α → Option β} : ∀ {l : List α} {r : List β}, l.length = r.length → (∀ (i : Nat) y, r[i]? = some y → ∃ x, l[i]? = some x ∧ f x = some y) → l.mapM f = some r := by
  intro l
  induction l with
  | nil => intro r h _; cases r with
    | nil => rfl
    | cons => simp at h
  | cons a l ih =>
    intro r h hg
    cases r with
    | nil => simp at h
    | cons y r =>
      obtain ⟨x, h1, h2⟩ := hg 0 y rfl
      simp at h1; subst h1
      have := ih (r := r) (by simpa using h) (fun i z hz => by simpa using hg (i + 1) z (by simpa using hz))
      simp [List.mapM_cons, h2, this]
theorem rd_of_S {α : Type} {is : Value → Option α} {s : Value} {H : AHeap} {xs : List α} (h : rdS is s H = some xs) : rd is s H = some xs := by
  unfold rd
  split
  · rename_i he
    obtain ⟨b, off, rfl, hb⟩ := emptyAt_inv he
    unfold rdS at h
    simp only [Option.bind_eq_some_iff] at h
    obtain ⟨cs, h1, h2⟩ := h
    unfold aCells at h1
    dsimp only at h1
    split at h1
    · split at h1
      · cases h1
        simp at h2; subst h2; rfl
      · cases h1
    · cases h1
  · exact h
theorem Row.rd {α : Type} {is : Value → Option α} {s : Value} {H : AHeap} {xs : List α} {a : Option Addr} {n c : Nat} (r : Row is s H xs a n c) : rd is s H = some xs := by
  have hs := r.eq
  subst hs
  rcases r.kind with ⟨rfl, rfl, rfl⟩ | ⟨b, off, lk, cs, rfl, hb, hl⟩ | ⟨b, off, rfl, rfl, rfl, hb⟩
  · have : xs = [] := List.length_eq_zero_iff.1 r.len.symm
    subst this; rfl
  · apply rd_of_S
    have hc : aCells (.slice (some ⟨b, off, none⟩) n c) H = some ((cs.drop off).take n) := by
      unfold aCells; dsimp only; rw [hb]; dsimp only; rw [if_pos hl]
    unfold rdS
    dsimp only
    rw [hc, Option.bind_some, if_pos (by rw [List.length_take, List.length_drop]; have := r.small; omega)]
    refine mapM_of_get (by rw [List.length_take, List.length_drop, ← r.len]; omega) fun i y hy => ?_
    obtain ⟨b', off', lk', cs', v, h1, h2, h3, h4⟩ := r.get i y hy
    cases h1
    rw [hb] at h2; cases h2
    have hi : i < n := by rw [r.len]; exact (List.getElem?_eq_some_iff.1 hy).1
    exact ⟨v, by rw [List.getElem?_take, if_pos hi, List.getElem?_drop]; exact h3, h4⟩
  · have : xs = [] := List.length_eq_zero_iff.1 r.len.symm
    subst this
    unfold Abs.rd emptyAt
    simp [hb]
theorem rd_hp {α : Type} {is : Value → Option α} {s : Value} {H : AHeap} {xs : List α} (h : rd is s H = some xs) (e : AHeap) : rd is s (hp H e) = some xs := by
  obtain ⟨a, n, c, r⟩ := rd_row h
  exact (r.hp e).rd
/-- A row that was made behind the old memory. -/
theorem rd_new {α : Type} {is : Value → Option α} {H e : AHeap} {xs : List α} {k : Nat} {lk : Bool} {cs : List Value} (n c : Nat) (he : e[k]? = some (.live lk cs)) (hm : cs.mapM is = some xs) (hn : n = cs.length) (hsm : n ≤ 2 ^ 40) : rd is (.slice (some ⟨nb H k, 0, none⟩) n c) (hp H e) = some xs := by
  subst hn
  apply rd_of_S
  unfold rdS
  dsimp only
  have : aCells (.slice (some ⟨nb H k, 0, none⟩) cs.length c) (hp H e) = some cs := by
    unfold aCells; dsimp only; rw [hp_new, he]; simp
  rw [this, Option.bind_some, if_pos hsm]; exact hm
theorem isF_eq {v : Value} {x : Nat} (h : isF v = some x) : v = .float .f32 x := by
  unfold isF at h; split at h
  · cases h; rfl
  · cases h
theorem isB_eq {v : Value} {x : Bool} (h : isB v = some x) : v = .bool x := by
  unfold isB at h; split at h
  · cases h; rfl
  · cases h
theorem isI_eq {k : IntKind} {v : Value} {x : Int} (h : isI k v = some x) : v = .int k x := by
  unfold isI at h; split at h
  · split at h
    · rename_i e; subst e; cases h; rfl
    · cases h
  · cases h
theorem mapM_isF (xs : List Nat) : (xs.map fun x => Value.float .f32 x).mapM isF = some xs := by
  induction xs with
  | nil => rfl
  | cons x xs ih => simp [List.mapM_cons, isF, ih]
theorem mapM_isB (xs : List Bool) : (xs.map Value.bool).mapM isB = some xs := by
  induction xs with
  | nil => rfl
  | cons x xs ih => simp [List.mapM_cons, isB, ih]
theorem mapM_isI (k : IntKind) (xs : List Int) : (xs.map (Value.int k)).mapM (isI k) = some xs := by
  induction xs with
  | nil => rfl
  | cons x xs ih => simp [List.mapM_cons, isI, ih]
theorem bareL_F (xs : List Nat) : bareL (xs.map fun x => Value.float .f32 x) = true := by
  induction xs with
  | nil => rfl
  | cons x xs ih => simp [bareL, bare, ih]
/-- A new row of floats: what a function that makes one answers. -/
def mkF (xs : List Nat) (H : AHeap) : Value × AHeap := (.slice (some ⟨H.length, 0, none⟩) xs.length xs.length, H ++ [.live false (xs.map fun x => Value.float .f32 x)])
theorem mkF_hp (xs : List Nat) (H e : AHeap) : mkF xs (hp H e) = (.slice (some ⟨nb H e.length, 0, none⟩) xs.length xs.length, hp H (e ++ [.live false (xs.map fun x => Value.float .f32 x)])) := by
  unfold mkF; rw [hp_length, hp_add]
theorem fits_mkF {H e : AHeap} {k : Nat} {xs : List Nat} {n : Nat} (he : e[k]? = some (.live false (xs.map fun x => Value.float .f32 x))) (hn : n = xs.length) :
    Fits H (mkF xs H).1 (mkF xs H).2 (.slice (some ⟨nb H k, 0, none⟩) n n) (hp H e) := by
  subst hn
  have := RV.new_slice (H := H) (ks := [k]) (i := 0) (k := k) (off := 0) (n := xs.length) rfl
  exact fits_row he (bareL_F xs) this

/-! ### Reading a row that lies open -/
def rdB {α : Type} (is : Value → Option α) (n c : Nat) (b : Option Blk) : Option (List α) :=
  match b with
  | some (.live _ cs) => if n ≤ cs.length ∧ n ≤ 2 ^ 40 then (cs.take n).mapM is else none
  | some .dead => if n = 0 ∧ c = 0 then some [] else none
  | none => none
theorem rd_rdB {α : Type} (is : Value → Option α) (H e : AHeap) (k n c : Nat) : rd is (.slice (some ⟨nb H k, 0, none⟩) n c) (hp H e) = rdB is n c e[k]? := by
  have hS : rdS is (.slice (some ⟨nb H k, 0, none⟩) n c) (hp H e) = (match e[k]? with
      | some (.live _ cs) => if n ≤ cs.length ∧ n ≤ 2 ^ 40 then (cs.take n).mapM is else none
      | _ => none) := by
    unfold rdS aCells
    dsimp only
    rw [hp_new]
    cases e[k]? with
    | none => rfl
    | some b =>
      cases b with
      | dead => rfl
      | live lk cs =>
        dsimp only
        rw [Nat.zero_add, List.drop_zero]
        by_cases h : n ≤ cs.length
        · rw [if_pos h, Option.bind_some, List.length_take, Nat.min_eq_left h]
          by_cases h2 : n ≤ 2 ^ 40
          · rw [if_pos h2, if_pos ⟨h, h2⟩]
          · rw [if_neg h2, if_neg (fun g => h2 g.2)]
        · rw [if_neg h, if_neg (fun g => h g.1)]; rfl
  unfold rd
  rw [hS]
  by_cases h0 : n = 0 ∧ c = 0
  · obtain ⟨rfl, rfl⟩ := h0
    have hlt : (nb H k < (hp H e).length) ↔ k < e.length := by rw [hp_length]; unfold nb; omega
    unfold rdB emptyAt
    cases hk : e[k]? with
    | none =>
      have : ¬ k < e.length := by rw [List.getElem?_eq_none_iff] at hk; omega
      simp [hlt, this]
    | some b =>
      have : k < e.length := (List.getElem?_eq_some_iff.1 hk).1
      cases b <;> simp [hlt, this]
  · have he : emptyAt (.slice (some ⟨nb H k, 0, none⟩) n c) (hp H e) = false := by
      unfold emptyAt
      split
      · rename_i e'; cases e'; exact absurd ⟨rfl, rfl⟩ h0
      · rfl
    rw [he]
    unfold rdB
    cases e[k]? with
    | none => rfl
    | some b => cases b <;> simp [h0]
theorem rdB_live {α : Type} (is : Value → Option α) (n c : Nat) (lk : Bool) (cs : List Value) : rdB is n c (some (.live lk cs)) = if n ≤ cs.length ∧ n ≤ 2 ^ 40 then (cs.take n).mapM is else none := rfl
theorem rd_nil {α : Type} (is : Value → Option α) (H : AHeap) : rd is (.slice none 0 0) H = some [] := rfl
theorem isF_float (x : Nat) : isF (.float .f32 x) = some x := rfl
theorem isB_bool (x : Bool) : isB (.bool x) = some x := rfl
theorem isI_int (k : IntKind) (x : Int) : isI k (.int k x) = some x := by simp [isI]
theorem mapM_nil {α : Type} (is : Value → Option α) : ([] : List Value).mapM is = some [] := rfl
theorem mapM_cons {α : Type} (is : Value → Option α) (v : Value) (l : List Value) : (v :: l).mapM is = (is v).bind fun x => (l.mapM is).bind fun xs => some (x :: xs) := by
  simp [List.mapM_cons]
theorem exR : type_of% (And.intro @rd_rdB <| And.intro @rdB_live <| And.intro @rd_nil <| And.intro isF_float <| And.intro isB_bool <| And.intro isI_int <| And.intro @mapM_nil <| And.intro @mapM_cons mkF_hp) :=
  And.intro @rd_rdB <| And.intro @rdB_live <| And.intro @rd_nil <| And.intro isF_float <| And.intro isB_bool <| And.intro isI_int <| And.intro @mapM_nil <| And.intro @mapM_cons mkF_hp

/-! ### Memory that was there and is written -/
theorem oldset {H : AHeap} {p : Nat} (h : p < H.length) : (∀ b e, (hp H e).set p b = hp (H.set p b) e) ∧ (∀ b e, (hp (H.set p b) e)[p]? = some b) ∧ (∀ b b' e, (hp (H.set p b) e).set p b' = hp (H.set p b') e) ∧ (∀ b k, nb (H.set p b) k = nb H k) ∧ (∀ b e k, (hp (H.set p b) e)[nb H k]? = e[k]?) ∧ (∀ b e k x, (hp (H.set p b) e).set (nb H k) x = hp (H.set p b) (e.set k x)) := by
  have h1 : ∀ b e, (hp H e).set p b = hp (H.set p b) e := fun b e => by
    unfold hp; rw [List.set_append_left _ _ h]
  have hn : ∀ b k, nb (H.set p b) k = nb H k := fun b k => by simp [nb]
  refine ⟨h1, ?_, ?_, hn, ?_, ?_⟩
  · intro b e
    exact hp_old (by rw [List.getElem?_set]; simp [h]) e
  · intro b b' e
    unfold hp; rw [List.set_append_left _ _ (by simpa using h), List.set_set]
  · intro b e k
    rw [← hn b k]; exact hp_new _ _ _
  · intro b e k x
    rw [← hn b k]; exact hp_set _ _ _ _
theorem fits_set {H e : AHeap} {p : Nat} {cs cs' : List Value} {r : Value} (hb : H[p]? = some (.live false cs)) (hc : ∀ v ∈ cs', RV (rho H []) v v) (hr : bare r = true) :
    Fits H r (H.set p (.live false cs')) r (hp (H.set p (.live false cs')) e) := by
  have hpl : p < H.length := (List.getElem?_eq_some_iff.1 hb).1
  have inv : ∀ b b1 o, rho H [] b = some (b1, o) → b1 = b ∧ o = 0 ∧ b < H.length := by
    intro b b1 o h
    unfold rho at h
    split at h
    · simp only [Option.some.injEq, Prod.mk.injEq] at h; omega
    · simp at h
  refine ⟨rho H [], ?_, ?_, ?_, ?_, ?_, ?_, ?_, ?_, ?_, .same hr⟩
  · intro b h; exact rho_old h []
  · intro b x h
    obtain ⟨x1, x2⟩ := x
    have := inv b x1 x2 h
    simp; omega
  · intro b b1 o h hl
    have := inv b b1 o h; omega
  · intro b b1 o lk ds h hH
    obtain ⟨rfl, rfl, hlt⟩ := inv b b1 o h
    rw [hp_get_old _ _ (by simpa using hlt)]
    by_cases hbp : p = b1
    · subst hbp
      right
      rw [List.getElem?_set] at hH ⊢
      simp only [if_true, hpl] at hH ⊢
      simp only [Option.some.injEq, Blk.live.injEq] at hH
      obtain ⟨rfl, rfl⟩ := hH
      exact ⟨cs', rfl, by omega, fun i v hv => ⟨v, by rw [Nat.zero_add]; exact hv, hc v (List.mem_of_getElem? hv)⟩⟩
    · left
      have : (H.set p (.live false cs'))[b1]? = H[b1]? := by rw [List.getElem?_set, if_neg hbp]
      exact ⟨hlt, this, this⟩
  · intro b b' b1 o o' h h' _ _
    have := inv b b1 o h
    have := inv b' b1 o' h'
    omega
  · simp
  · intro b ds h
    by_cases hbp : p = b
    · subst hbp; rw [hb] at h; cases h
    · rw [List.getElem?_set, if_neg hbp]; exact h
  · intro b h
    by_cases hbp : p = b
    · subst hbp; rw [hb] at h; cases h
    · rw [List.getElem?_set, if_neg hbp]; exact h
  · intro b ds hlt h
    by_cases hbp : p = b
    · subst hbp; rw [List.getElem?_set] at h; simp [hpl] at h
    · rw [List.getElem?_set, if_neg hbp] at h; exact h
def apart (s : Value) (p : Nat) : Bool :=
  match s with
  | .slice (some a) n c => a.block != p && n == c
  | _ => true
theorem rd_set {α : Type} {is : Value → Option α} {s : Value} {H : AHeap} {p : Nat} (h : apart s p = true) (b : Blk) : rd is s (H.set p b) = rd is s H := by
  have hS : rdS is s (H.set p b) = rdS is s H := by
    unfold rdS
    split
    · rename_i a n c
      congr 1
      unfold aCells
      split
      · rfl
      · rename_i b' off len cp e; cases e
        have : b' ≠ p := by
          simp only [apart, Bool.and_eq_true, bne_iff_ne] at h
          exact h.1
        rw [List.getElem?_set, if_neg (fun e => this e.symm)]
      · rfl
      · rfl
    · rfl
  unfold rd
  rw [hS]
  have : emptyAt s (H.set p b) = emptyAt s H := by
    unfold emptyAt
    split <;> simp
  rw [this]
def isU8 : Value → Option Nat
  | .int .u8 n => if 0 ≤ n ∧ n < 256 then some n.toNat else none
  | _ => none
theorem isU8_eq {v : Value} {x : Nat} (h : isU8 v = some x) : v = .int .u8 x ∧ x < 256 := by
  unfold isU8 at h; split at h
  · split at h
    · cases h
      refine ⟨?_, by omega⟩
      congr 1; omega
    · cases h
  · cases h
theorem bin_ishr (P : Program) (t : TypeId) (x y : Operand) (k k' : IntKind) (a b : Int) (hb : 0 ≤ b) : aBin P .shr t x y (.int k a) (.int k' b) = some (.int k (a.fdiv (2 ^ (min b.toNat k.bits)))) :=
  bin_int P t x y _ k k' a b (by
    have : ¬ b < 0 := by omega
    simp [binOp, Op.shift, this, ask0]; rfl) rfl
theorem bin_iand (P : Program) (t : TypeId) (x y : Operand) (k : IntKind) (a b : Int) : aBin P .and t x y (.int k a) (.int k b) = some (.int k (k.wrap (BitVec.ofInt k.bits a &&& BitVec.ofInt k.bits b).toNat)) :=
  bin_int P t x y _ k k a b (by simp [binOp, Op.intBits, ask0]; rfl) rfl

/-! ### append of one value to a row of our own -/
theorem append_one {P : Program} {t tx : TypeId} {z z' : Value} (hr : rowT P t = some z) (hr' : rowT P tx = some z') {H e : AHeap} {k j n : Nat} {cs : List Value} {v : Value}
    (hk : e[k]? = some (.live false cs)) (hn : n = cs.length) (hj : e[j]? = some (.live false [v])) (hv : oneB v = true) (hs : n + 1 ≤ 2 ^ 38) (c c' : Nat) :
    aAppend P [t, tx] (.slice (some ⟨nb H k, 0, none⟩) n c) (.slice (some ⟨nb H j, 0, none⟩) 1 c') (hp H e) = some (.slice (some ⟨nb H e.length, 0, none⟩) (n + 1) (n + 1), hp H (e.set k .dead ++ [.live false (cs ++ [v])])) := by
  have hx : aCells (.slice (some ⟨nb H j, 0, none⟩) 1 c') (hp H e) = some [v] := by
    unfold aCells; dsimp only; rw [hp_new, hj]; rfl
  rw [row_append hr tx _ _ _ hx (by simp [hv]) (srcT_row hr' _ _ _)]
  unfold appA
  dsimp only
  rw [hp_new, hk]
  dsimp only
  rw [if_pos (by simp; omega), if_neg (by simp), hp_length, hp_set, hp_add]
  simp
theorem getElem?_app_len {α : Type} (l : List α) (x : α) : (l ++ [x])[l.length]? = some x := by simp
theorem set_app_len {α : Type} (l : List α) (x y : α) : (l ++ [x]).set l.length y = l ++ [y] := by
  rw [List.set_append_right _ _ (Nat.le_refl _)]; simp

/-! ### Functions without a body -/
theorem ext_sound {gs : List Nat} {P : Program} {f : FuncId} {fn : Func} {e : Array Value → Sem Value} (hf : P.funcs[f]? = some fn) (hnm : (fn.name == "runtime.NumGoroutine") = false) (hb : fn.body.isNone = true) (hn : (Extern.findNext fn).isNone = true) (he : Extern.find fn = some e)
    {g : List Value → AHeap → Option (Value × AHeap)} (h : ∀ args H r H' μ cargs w, g args H = some (r, H') → Rel μ H w → VRL μ args cargs → ∃ v w', (e cargs.toArray).run P w = .ok v w' ∧ Out μ H w r H' v w') : Sound gs P f g := by
  intro args H r H' hg μ cargs w rel hgl hargs
  obtain ⟨v, w', h1, h2⟩ := h args H r H' μ cargs w hg rel hargs
  right
  refine ⟨v, w', ?_, h2⟩
  have hn' : Extern.findNext fn = none := Option.isNone_iff_eq_none.1 hn
  simp only [callFunc, Sem.run_bind, run_program, Result.andThen_ok, hf, hnm, hb, hn', he, Bool.false_eq_true, if_false, if_true, Sem.run_pure]
  have hm : (mark (Mark.extern f)).run P w = .ok () w := rfl
  rw [hm]
  simp only [Result.andThen_ok, h1]
def gBits64 (args : List Value) (H : AHeap) : Option (Value × AHeap) :=
  match args with
  | [.float .f64 x] => if nanB .f64 x = true then none else some (.int .u64 x, H)
  | _ => none
def gBits32 (args : List Value) (H : AHeap) : Option (Value × AHeap) :=
  match args with
  | [.float .f32 x] => if nanB .f32 x = true then none else some (.int .u32 x, H)
  | _ => none
theorem VR.float_inv {μ : Ren} {k : FloatKind} {x : Nat} {v : Value} (h : VR μ (.float k x) v) : ∃ y, v = .float k y ∧ x = canon k y := by
  generalize he : Value.float k x = u at h
  cases h <;> simp at he
  obtain ⟨rfl, rfl⟩ := he
  exact ⟨_, rfl, rfl⟩
theorem canon_inv {k : FloatKind} {x y : Nat} (h : x = canon k y) (hx : nanB k x = false) : y = x := by
  unfold canon at h
  split at h
  · rename_i hn
    subst h
    have := canon_nanOf k
    unfold canon at this
    rw [show nanB k (nanOf k) = true by cases k <;> rfl] at hx
    cases hx
  · exact h.symm
theorem bits64_sound {P : Program} {μ : Ren} {args : List Value} {H H' : AHeap} {r : Value} {cargs : List Value} {w : World} (h : gBits64 args H = some (r, H')) (rel : Rel μ H w) (ha : VRL μ args cargs) :
    ∃ v w', (Extern.MathFloatBits.float64bits cargs.toArray).run P w = .ok v w' ∧ Out μ H w r H' v w' := by
  unfold gBits64 at h
  split at h
  case h_2 => cases h
  rename_i x
  split at h
  · cases h
  rename_i hx; cases h
  cases ha with
  | cons h1 h2 =>
    cases h2
    obtain ⟨y, rfl, hy⟩ := h1.float_inv
    have := canon_inv hy (by simpa using hx)
    subst this
    exact ⟨_, w, rfl, out_same rel (.int _ _)⟩
theorem bits32_sound {P : Program} {μ : Ren} {args : List Value} {H H' : AHeap} {r : Value} {cargs : List Value} {w : World} (h : gBits32 args H = some (r, H')) (rel : Rel μ H w) (ha : VRL μ args cargs) :
    ∃ v w', (Extern.MathFloatBits.float32bits cargs.toArray).run P w = .ok v w' ∧ Out μ H w r H' v w' := by
  unfold gBits32 at h
  split at h
  case h_2 => cases h
  rename_i x
  split at h
  · cases h
  rename_i hx; cases h
  cases ha with
  | cons h1 h2 =>
    cases h2
    obtain ⟨y, rfl, hy⟩ := h1.float_inv
    have := canon_inv hy (by simpa using hx)
    subst this
    exact ⟨_, w, rfl, out_same rel (.int _ _)⟩

end Go.Proofs.Ytnhhdgopgecggaa.Abs
