/- The abstract machine, operations (4): arithmetic, conversions, cutting slices, length, append, least and greatest. No condition. -/
import Derived.Test.YtnhhdgopgecggaaAbsQ
set_option linter.unusedVariables false
set_option linter.unusedSimpArgs false
namespace Go.Proofs.Ytnhhdgopgecggaa.Abs
open Go

/-! ### Arithmetic -/
def arith (op : BinOp) : Bool :=
  match op with
  | .add | .sub | .mul | .quo => true
  | _ => false
def cmpB (op : BinOp) : Bool :=
  match op with
  | .eql | .neq | .lss | .leq | .gtr | .geq => true
  | _ => false

def aBin (P : Program) (op : BinOp) (t : TypeId) (x y : Operand) (a b : Value) : Option Value :=
  match a, b with
  | .float k p, .float k' q =>
    if k = k' then (if arith op = true then some (.float k (fbin op k p q)) else if cmpB op = true then some (.bool (fcmp op k p q)) else none) else none
  | a, b =>
    if ground a = true ∧ ground b = true then
      match ask0 P (do eqGuard op t x y a b; binOp op t a b) with
      | some v => if ground v = true then some v else none
      | none => none
    else none

theorem snd_bin {P : Program} {μ : Ren} (w : World) {op : BinOp} {t : TypeId} {x y : Operand} {a b a' b' v : Value} (ha : VR μ a a') (hb : VR μ b b') (h : aBin P op t x y a b = some v) :
    ∃ v' n, (do eqGuard op t x y a' b'; binOp op t a' b' : Sem Value).run P w = .ok v' { w with drawn := n } ∧ VR μ v v' := by
  unfold aBin at h
  split at h
  · rename_i k p k' q
    split at h
    case isFalse => cases h
    rename_i hk; subst hk
    cases ha with
    | float _ p' => cases hb with
      | float _ q' =>
        split at h
        · rename_i hop; cases h
          obtain ⟨r', n, h1, h2⟩ := run_fbin (P := P) w op t k p' q' (by cases op <;> simp [arith] at hop <;> simp)
          refine ⟨.float k r', n, ?_, ?_⟩
          · rw [eqGuard_at_float]; simp only [Sem.run_bind, Sem.run_pure, Result.andThen_ok, h1]
          · rw [← h2]; exact .float k r'
        · split at h
          case isFalse => cases h
          rename_i hop hop2; cases h
          refine ⟨.bool (fcmp op k p' q'), w.drawn, ?_, ?_⟩
          · rw [eqGuard_at_float]
            simp only [Sem.run_bind, Sem.run_pure, Result.andThen_ok]
            cases op <;> simp [cmpB] at hop2 <;> simp [binOp, Op.floatCmp, fcmp]
          · rw [fcmp_canon]; exact .bool _
  · split at h
    case isFalse => cases h
    rename_i hg
    split at h
    case h_2 => cases h
    rename_i v0 hv
    split at h
    case isFalse => cases h
    rename_i hgv; cases h
    rw [ha.ground_eq hg.1, hb.ground_eq hg.2]
    exact ⟨_, w.drawn, ask0_run hv w, VR.of_closed μ _ (closed_of_ground hgv)⟩

def aUn (P : Program) (op : UnOp) (a : Value) : Option Value :=
  match op, a with
  | .neg, .float k p => some (.float k (fneg k p))
  | op, a => if ground a = true then
      match ask0 P (Op.unary op a) with
      | some v => if ground v = true then some v else none
      | none => none
    else none
theorem snd_un {P : Program} {μ : Ren} {op : UnOp} {a a' v : Value} (w : World) (ha : VR μ a a') (h : aUn P op a = some v) : ∃ v', (Op.unary op a').run P w = .ok v' w ∧ VR μ v v' := by
  unfold aUn at h
  split at h
  · rename_i k p; cases h
    cases ha with
    | float _ p' => exact ⟨.float k (Op.negFloat k p'), by simp [Op.unary], by rw [← canon_negFloat]; exact .float k _⟩
  · split at h
    case isFalse => cases h
    rename_i hg
    split at h
    case h_2 => cases h
    rename_i v0 hv
    split at h
    case isFalse => cases h
    rename_i hgv; cases h
    rw [ha.ground_eq hg]
    exact ⟨_, ask0_run hv w, VR.of_closed μ _ (closed_of_ground hgv)⟩

/-! ### Conversions -/
def aConv (P : Program) (s d : TypeId) (x : Value) : Option Value :=
  match x with
  | .float q p =>
    match P.underlying s, P.underlying d with
    | some _, some (.float k) => (fconv q p k).map (.float k)
    | some _, some (.int k) => (floatToIntVal q p k).map (.int k)
    | _, _ => none
  | x => if ground x = true then
      match ask0 P (convert s d x) with
      | some v => if closed v = true then some v else none
      | none => none
    else none
theorem snd_conv {P : Program} {μ : Ren} {s d : TypeId} {x x' v : Value} (w : World) (hx : VR μ x x') (h : aConv P s d x = some v) :
    ∃ v' n, (convert s d x').run P w = .ok v' { w with drawn := n } ∧ VR μ v v' := by
  unfold aConv at h
  split at h
  · rename_i q p
    cases hx with
    | float _ p' =>
      split at h
      · rename_i u k hs hd
        simp only [Option.map_eq_some_iff] at h
        obtain ⟨r, hr, rfl⟩ := h
        obtain ⟨r', n, h1, h2⟩ := run_fconv (P := P) w (by rw [hs]; rfl) hd hr
        refine ⟨.float k r', n, h1, ?_⟩
        have hcr : canon k r = r := by
          unfold fconv at hr
          split at hr
          · rename_i e; subst e; cases hr; exact canon_canon ..
          · split at hr
            · cases hr; exact canon_nanOf k
            · rename_i hn; exact canon_not (floatToFloatBits_not_nan (by simpa using hn) hr)
        rw [← hcr, ← h2]; exact .float k r'
      · rename_i u k hs hd
        simp only [Option.map_eq_some_iff] at h
        obtain ⟨n, hn, rfl⟩ := h
        exact ⟨.int k n, w.drawn, run_convert_float_int (P := P) w s d q k p' n (by rw [hs]; rfl) hd (floatToIntVal_canon hn), .int k n⟩
      · cases h
  · split at h
    case isFalse => cases h
    rename_i hg
    split at h
    case h_2 => cases h
    rename_i v0 hv
    split at h
    case isFalse => cases h
    rename_i hgv; cases h
    rw [hx.ground_eq hg]
    exact ⟨_, w.drawn, ask0_run hv w, VR.of_closed μ _ hgv⟩

/-! ### Cutting -/
def boundOf (d : Nat) (v : Option Value) : Option Int :=
  match v with
  | none => some (d : Int)
  | some (.int _ n) => some n
  | _ => none

def aSlice (P : Program) (t : TypeId) (x : Value) (lo hi mx : Option Value) : Option Value :=
  match mx with
  | some _ => none
  | none =>
    match x with
    | .string s =>
      match P.underlying t, boundOf 0 lo, boundOf s.size hi with
      | some .string, some l, some h => if 0 ≤ l ∧ l ≤ h ∧ h ≤ s.size then some (.string (s.extract l.toNat h.toNat)) else none
      | _, _, _ => none
    | .slice none _ _ =>
      match elemT P t with
      | some e => match szT P e, boundOf 0 lo, boundOf 0 hi with
        | some 1, some 0, some 0 => some (.slice none 0 0)
        | _, _, _ => none
      | none => none
    | .slice (some ⟨b, off, none⟩) len _ =>
      match elemT P t with
      | some e => match szT P e, boundOf 0 lo, boundOf len hi with
        | some 1, some l, some h => if 0 ≤ l ∧ l ≤ h ∧ h ≤ len then some (.slice (some ⟨b, off + l.toNat, none⟩) (h - l).toNat (h - l).toNat) else none
        | _, _, _ => none
      | none => none
    | _ => none

theorem run_sliceBounds {P : Program} (w : World) (isS : Bool) (len cap : Nat) (lo hi : Option Value) (l h : Int) (hl : boundOf 0 lo = some l) (hh : boundOf len hi = some h) (h0 : 0 ≤ l) (h1 : l ≤ h) (h2 : h ≤ cap) :
    (Instr.sliceBounds isS len cap lo hi none).run P w = .ok (l.toNat, h.toNat, cap) w := by
  have hb : ∀ (v : Value) (n : Int) (y : Nat) (code : BoundsCode), v = .int .i64 n ∨ (∃ k, v = .int k n) → 0 ≤ n → n ≤ y → (Instr.sliceBound v y code).run P w = .ok n.toNat w := by
    intro v n y code hv g0 g1
    rcases hv with rfl | ⟨k, rfl⟩ <;> simp [Instr.sliceBound, asIntOf, g0, g1]
  have hlt : l ≤ (h.toNat : Int) := by omega
  cases hi with
  | none =>
    simp [boundOf] at hh; subst hh
    cases lo with
    | none => simp [boundOf] at hl; subst hl; simp [Instr.sliceBounds]
    | some v =>
      cases v <;> simp [boundOf] at hl
      subst hl
      rename_i k n
      simp only [Instr.sliceBounds, Sem.run_bind, Sem.run_pure, Result.andThen_ok]
      rw [hb _ n _ _ (.inr ⟨k, rfl⟩) h0 (by omega)]; simp
  | some u =>
    cases u <;> simp [boundOf] at hh
    subst hh
    rename_i ku m
    cases lo with
    | none =>
      simp [boundOf] at hl; subst hl
      simp only [Instr.sliceBounds, Sem.run_bind, Sem.run_pure, Result.andThen_ok]
      rw [hb _ m _ _ (.inr ⟨ku, rfl⟩) (by omega) h2]; simp
    | some v =>
      cases v <;> simp [boundOf] at hl
      subst hl
      rename_i k n
      simp only [Instr.sliceBounds, Sem.run_bind, Sem.run_pure, Result.andThen_ok]
      rw [hb _ m _ _ (.inr ⟨ku, rfl⟩) (by omega) h2]
      simp only [Result.andThen_ok]
      rw [hb _ n _ _ (.inr ⟨k, rfl⟩) h0 hlt]; simp

theorem VR.bound {μ : Ren} {o o' : Option Value} {d : Nat} {n : Int} (ho : o.isSome = o'.isSome) (hv : ∀ v v', o = some v → o' = some v' → VR μ v v') (h : boundOf d o = some n) (d' : Nat) (hd : o = none → d' = d) : boundOf d' o' = some n := by
  cases o with
  | none => cases o' with
    | none => rw [hd rfl]; exact h
    | some _ => simp at ho
  | some v => cases o' with
    | none => simp at ho
    | some v' =>
      have hvv := hv v v' rfl rfl
      cases v <;> simp [boundOf] at h
      subst h
      cases hvv; rfl

structure VRO (μ : Ren) (o o' : Option Value) : Prop where
  same : o.isSome = o'.isSome
  rel : ∀ v v', o = some v → o' = some v' → VR μ v v'

theorem snd_slice {P : Program} {μ : Ren} {t : TypeId} {x x' v : Value} {lo lo' hi hi' mx mx' : Option Value} (w : World) (hx : VR μ x x') (hl : VRO μ lo lo') (hh : VRO μ hi hi') (hm : VRO μ mx mx')
    (h : aSlice P t x lo hi mx = some v) : ∃ v', (Instr.sliceAt t x' lo' hi' mx').run P w = .ok v' w ∧ VR μ v v' := by
  unfold aSlice at h
  split at h
  case h_1 => cases h
  have hmx : mx' = none := by
    have := hm.same
    cases mx' with
    | none => rfl
    | some _ => simp at this
  subst hmx
  split at h
  · rename_i s
    split at h
    case h_2 => cases h
    rename_i l hi0 hu hbl hbh
    split at h
    case isFalse => cases h
    rename_i hc; cases h
    cases hx
    have e1 := VR.bound hl.same hl.rel hbl 0 (fun _ => rfl)
    have e2 := VR.bound hh.same hh.rel hbh s.size (fun _ => rfl)
    refine ⟨.string (s.extract l.toNat hi0.toNat), ?_, .string _⟩
    simp only [Instr.sliceAt, Instr.slice, Sem.run_bind, run_underlying hu w, Result.andThen_ok, Option.isSome_none, Bool.false_eq_true, if_false, Sem.run_ite, Sem.run_pure, run_sliceBounds (P := P) w false s.size s.size lo' hi' l hi0 e1 e2 hc.1 hc.2.1 hc.2.2]
  · split at h
    case h_2 => cases h
    rename_i e he
    split at h
    case h_2 => cases h
    rename_i hn hbl hbh; cases h
    cases hx
    have hu := und_elem he
    have e1 := VR.bound hl.same hl.rel hbl 0 (fun _ => rfl)
    have e2 := VR.bound hh.same hh.rel hbh 0 (fun _ => rfl)
    refine ⟨.slice none 0 0, ?_, .sliceNil⟩
    simp only [Instr.sliceAt, Instr.slice, Sem.run_bind, run_underlying hu w, Result.andThen_ok, Sem.run_pure, run_sliceBounds (P := P) w true 0 0 lo' hi' 0 0 e1 e2 (Int.le_refl _) (Int.le_refl _) (Int.le_refl _), run_sizeOf w hn]
    simp
  · rename_i b off len cp
    split at h
    case h_2 => cases h
    rename_i e he
    split at h
    case h_2 => cases h
    rename_i l hi0 hn hbl hbh
    split at h
    case isFalse => cases h
    rename_i hc; cases h
    have hu := und_elem he
    have e1 := VR.bound hl.same hl.rel hbl 0 (fun _ => rfl)
    have e2 := VR.bound hh.same hh.rel hbh len (fun _ => rfl)
    cases hx with
    | slice0 h0 =>
      rename_i a y
      have hl0 : l = 0 := by omega
      have hh0 : hi0 = 0 := by omega
      subst hl0; subst hh0
      refine ⟨.slice (some a) 0 0, ?_, .slice0 h0⟩
      simp only [Instr.sliceAt, Instr.slice, Sem.run_bind, run_underlying hu w, Result.andThen_ok, Sem.run_pure, run_sliceBounds (P := P) w true 0 0 lo' hi' 0 0 e1 e2 (Int.le_refl _) (Int.le_refl _) (Int.le_refl _), run_sizeOf w hn]
      simp
    | slice hmb g1 g2 =>
      rename_i cap c base size
      have hb := run_sliceBounds (P := P) w true len cap lo' hi' l hi0 e1 e2 hc.1 hc.2.1 (by omega)
      have hsub : (hi0 - l).toNat = hi0.toNat - l.toNat := by omega
      by_cases hcap : cap = l.toNat
      · subst hcap
        refine ⟨.slice (some ⟨c, base + off, none⟩) (hi0.toNat - l.toNat) (l.toNat - l.toNat), ?_, ?_⟩
        · simp only [Instr.sliceAt, Instr.slice, Sem.run_bind, run_underlying hu w, Result.andThen_ok, Sem.run_pure, hb, run_sizeOf w hn, if_true]
        · have z1 : (hi0 - l).toNat = 0 := by omega
          have z2 : hi0.toNat - l.toNat = 0 := by omega
          have z3 : l.toNat - l.toNat = 0 := by omega
          rw [z1, z2, z3]; exact .slice0 hmb
      · refine ⟨.slice (some ⟨c, base + (off + l.toNat), none⟩) (hi0.toNat - l.toNat) (cap - l.toNat), ?_, ?_⟩
        · simp only [Instr.sliceAt, Instr.slice, Sem.run_bind, run_underlying hu w, Result.andThen_ok, Sem.run_pure, hb, run_sizeOf w hn, hcap, if_false, Option.map_some, add_plain, Nat.mul_one, Nat.add_assoc]
        · rw [hsub]
          exact .slice hmb (by omega) (by omega)
  · cases h

end Go.Proofs.Ytnhhdgopgecggaa.Abs
