/- The abstract machine: one operation of the code, calls with it: what it does to abstract values and memory, and that the model does the like. No condition. -/
import Derived.Test.YtnhhdgopgecggaaAbsS
set_option linter.unusedVariables false
set_option linter.unusedSimpArgs false
namespace Go.Proofs.Ytnhhdgopgecggaa.Abs
open Go

/-- What each function of the program is taken to do. -/
abbrev Env := FuncId → List Value → AHeap → Option (Value × AHeap)

def CallOK (P : Program) (f : FuncId) (args : Array Value) (w : World) (K : Value → World → Prop) : Prop :=
  ((callFunc f args).run P w = .ok (.enter f args) w ∧ Calls P f args w (fun e w' => ∃ v, e = .returned v ∧ K v w')) ∨
  (∃ v w', (callFunc f args).run P w = .ok (.value v) w' ∧ K v w')

/-- Package-level variables that lie where they lie in the model. -/
def Glob (gs : List Nat) (μ : Ren) : Prop := ∀ g ∈ gs, ∃ size, μ g = some (g, 0, size)
theorem Glob.le {gs : List Nat} {μ μ' : Ren} (h : Glob gs μ) (hl : μ.le μ') : Glob gs μ' := fun g hg => let ⟨s, e⟩ := h g hg; ⟨s, hl _ _ e⟩

/-- The function does what 'g' tells, wherever 'g' tells something. -/
def Sound (gs : List Nat) (P : Program) (f : FuncId) (g : List Value → AHeap → Option (Value × AHeap)) : Prop :=
  ∀ args H r H', g args H = some (r, H') → ∀ μ (cargs : List Value) w, Rel μ H w → Glob gs μ → VRL μ args cargs → CallOK P f cargs.toArray w (Out μ H w r H')

def SoundEnv (gs : List Nat) (P : Program) (G : Env) : Prop := ∀ f, Sound gs P f (G f)

/-! ### Built-in functions -/
def aMost (m : Bool) (x y : Value) : Option Value :=
  match x, y with
  | .float k p, .float k' q => if k = k' then some (.float k (if m then fmax k p q else fmin k p q)) else none
  | .int k p, .int k' q => if k = k' then some (.int k (if m then (if q > p then q else p) else (if q < p then q else p))) else none
  | _, _ => none

theorem snd_most {P : Program} {μ : Ren} {m : Bool} {x x' y y' v : Value} (w : World) (hx : VR μ x x') (hy : VR μ y y') (h : aMost m x y = some v) :
    ∃ v' n, ((if m then Builtin.max2 x' y' else Builtin.min2 x' y' : Sem Value)).run P w = .ok v' { w with drawn := n } ∧ VR μ v v' := by
  unfold aMost at h
  split at h
  · rename_i k p k' q
    split at h
    case isFalse => cases h
    rename_i e; subst e; cases h
    cases hx with
    | float _ p' => cases hy with
      | float _ q' =>
        cases m with
        | true =>
          obtain ⟨r, n, h1, h2⟩ := run_max2 (P := P) w k p' q'
          exact ⟨.float k r, n, by simpa using h1, by simp only [if_true]; rw [← h2]; exact .float k r⟩
        | false =>
          obtain ⟨r, n, h1, h2⟩ := run_min2 (P := P) w k p' q'
          exact ⟨.float k r, n, by simpa using h1, by simp only [Bool.false_eq_true, if_false]; rw [← h2]; exact .float k r⟩
  · rename_i k p k' q
    split at h
    case isFalse => cases h
    rename_i e; subst e; cases h
    cases hx; cases hy
    refine ⟨_, w.drawn, ?_, VR.int k _⟩
    cases m <;> simp [Builtin.max2, Builtin.min2]
  · cases h

def aBuiltin (P : Program) (b : Builtin) (ts : List TypeId) (args : List Value) (H : AHeap) : Option (Value × AHeap) :=
  match b with
  | .len => match ts, args with
    | [t], [x] => (aLen P t x).map (·, H)
    | _, _ => none
  | .append => match args with
    | [s, x] => aAppend P ts s x H
    | _ => none
  | .max => match args with
    | [x, y] => (aMost true x y).map (·, H)
    | _ => none
  | .min => match args with
    | [x, y] => (aMost false x y).map (·, H)
    | _ => none
  | _ => none

def aCall (P : Program) (G : Env) (c : Call) (ρ : Operand → Value) (H : AHeap) : Option (Value × AHeap) :=
  match c.callee with
  | .value f => match ρ f with
    | .func (.func id) ⟨fi⟩ ⟨ca⟩ => G id (fi ++ c.args.toList.map ρ ++ ca) H
    | _ => none
  | .builtin b => aBuiltin P b c.argTypes.toList (c.args.toList.map ρ) H
  | .invoke _ _ => none

def aNil (x : Value) : Option Value :=
  match x with
  | .pointer (some a) => some (.pointer (some a))
  | .func (.func f) fi ca => some (.func (.func f) fi ca)
  | _ => none

/-- One operation. -/
def aop (P : Program) (G : Env) (op : Op) (ρ : Operand → Value) (H : AHeap) : Option (Value × AHeap) :=
  match op with
  | .move x | .assign x => some (ρ x, H)
  | .pick c a b => match ρ c with
    | .bool true => some (ρ a, H)
    | .bool false => some (ρ b, H)
    | _ => none
  | .alloc e => aAlloc P e H
  | .box e x => some (aNew (ρ x).cells.toList H)
  | .build t parts => (aBuild P t (parts.toList.map fun p => (p.1, ρ p.2))).map (·, H)
  | .buildSlice t n parts => aBuildSlice P t n (parts.toList.map fun p => (p.1, ρ p.2)) H
  | .load t a => (aLoad P t (ρ a) H).map (·, H)
  | .store t a x => (aStore P t (ρ a) (ρ x) H).map (undef, ·)
  | .nilCheck x => (aNil (ρ x)).map (·, H)
  | .binOp op t x y _ => (aBin P op t x y (ρ x) (ρ y)).map (·, H)
  | .unOp op _ x => (aUn P op (ρ x)).map (·, H)
  | .convert s d x => (aConv P s d (ρ x)).map (·, H)
  | .makeFunc fn fi ca => some (.func fn ⟨fi.toList.map ρ⟩ ⟨ca.toList.map ρ⟩, H)
  | .makeSlice t l c => aMakeSlice P t (ρ l) (ρ c) H
  | .slice t x lo hi mx => (aSlice P t (ρ x) (lo.map ρ) (hi.map ρ) (mx.map ρ)).map (·, H)
  | .fieldAddr s x f => (aFieldAddr P s (ρ x) f).map (·, H)
  | .field t x f => (aField P t (ρ x) f).map (·, H)
  | .indexAddr t x i => (aIndexAddr P t (ρ x) (ρ i)).map (·, H)
  | .index t x i => (aIndex P t (ρ x) (ρ i)).map (·, H)
  | .extract x i => (aExtract (ρ x) i).map (·, H)
  | .call c => aCall P G c ρ H
  | _ => none

/-! ### The model does the like -/
def OpOK (P : Program) (o : Oper) (a : Act) (w : World) (K : Value → World → Prop) : Prop :=
  ∀ next Q, (∀ v w', K v w' → next (a.put o.dst v) w') → o.wp P a w next Q

theorem opok_value {P : Program} {o : Oper} {a : Act} {w w' : World} {v : Value} {K : Value → World → Prop} (h : (execOp a.eval o).run P w = .ok (.value v) w') (hk : K v w') : OpOK P o a w K := by
  intro next Q hn
  unfold Oper.wp
  rw [h]
  exact hn v w' hk
theorem opok_skip {P : Program} {o : Oper} {a : Act} {w w' : World} {K : Value → World → Prop} (h : (execOp a.eval o).run P w = .ok .skip w') (hk : K undef w') : OpOK P o a w K := by
  intro next Q hn
  unfold Oper.wp
  rw [h]
  exact hn undef w' hk
theorem opok_call {P : Program} {o : Oper} {a : Act} {w : World} {f : FuncId} {args : Array Value} {K : Value → World → Prop} (h : execOp a.eval o = callFunc f args) (hk : CallOK P f args w K) : OpOK P o a w K := by
  rcases hk with ⟨h1, h2⟩ | ⟨v, w', h1, h2⟩
  · intro next Q hn
    unfold Oper.wp
    rw [h, h1]
    refine h2.mono ?_
    rintro e w' ⟨v, rfl, hv⟩
    exact hn v w' hv
  · exact opok_value (by rw [h]; exact h1) h2

theorem out_same {μ : Ren} {H : AHeap} {w : World} (r : Rel μ H w) {v v' : Value} (h : VR μ v v') : Out μ H w v H v' w := ⟨μ, r, Keep.refl μ H w r.dom, h⟩
theorem out_drawn {μ : Ren} {H : AHeap} {w : World} (r : Rel μ H w) {v v' : Value} (n : Nat) (h : VR μ v v') : Out μ H w v H v' { w with drawn := n } := ⟨μ, r.drawn n, Keep.drawn r n, h⟩

theorem VRL.map_ops {μ : Ren} {ρ ρ' : Operand → Value} : ∀ (l : List Operand), (∀ x ∈ l, VR μ (ρ x) (ρ' x)) → VRL μ (l.map ρ) (l.map ρ')
  | [], _ => .nil
  | x :: l, h => .cons (h x (by simp)) (VRL.map_ops l fun y hy => h y (by simp [hy]))

theorem vro_map {μ : Ren} {ρ ρ' : Operand → Value} (o : Option Operand) (h : ∀ x ∈ o, VR μ (ρ x) (ρ' x)) : VRO μ (o.map ρ) (o.map ρ') := by
  cases o with
  | none => exact ⟨rfl, by simp⟩
  | some x => exact ⟨rfl, fun v v' h1 h2 => by simp at h1 h2; subst h1; subst h2; exact h x rfl⟩

theorem aop_sound {gs : List Nat} {P : Program} {G : Env} (hG : SoundEnv gs P G) {o : Oper} {a : Act} {ρ : Operand → Value} {μ : Ren} {H H' : AHeap} {w : World} {v : Value} (r : Rel μ H w) (hgl : Glob gs μ)
    (hρ : ∀ x ∈ o.op.operands.toList, VR μ (ρ x) (a.eval x)) (h : aop P G o.op ρ H = some (v, H')) : OpOK P o a w (Out μ H w v H') := by
  unfold aop at h
  split at h
  · rename_i x e; cases h; rw [e] at hρ
    exact opok_value (by simp only [execOp, e]; rfl) (out_same r (hρ x (by simp [Op.operands])))
  · rename_i x e; cases h; rw [e] at hρ
    exact opok_value (by simp only [execOp, e]; rfl) (out_same r (hρ x (by simp [Op.operands])))
  · rename_i c x y e; rw [e] at hρ
    have hc := hρ c (by simp [Op.operands])
    split at h
    · rename_i ec; cases h; rw [ec] at hc
      refine opok_value (v := a.eval x) (w' := w) ?_ (out_same r (hρ x (by simp [Op.operands])))
      generalize hz : a.eval c = z at hc
      cases hc
      simp [execOp, e, hz, asBool]
    · rename_i ec; cases h; rw [ec] at hc
      refine opok_value (v := a.eval y) (w' := w) ?_ (out_same r (hρ y (by simp [Op.operands])))
      generalize hz : a.eval c = z at hc
      cases hc
      simp [execOp, e, hz, asBool]
    · cases h
  · rename_i t e
    obtain ⟨v', w', h1, h2⟩ := snd_alloc (P := P) r h
    exact opok_value (by simp only [execOp, e, Sem.run_bind, h1, Result.andThen_ok, Sem.run_pure]) h2
  · rename_i t x e; rw [e] at hρ; cases h
    obtain ⟨v', w', h1, h2⟩ := snd_box (P := P) r (hρ x (by simp [Op.operands])) t
    exact opok_value (by simp only [execOp, e, Sem.run_bind, h1, Result.andThen_ok, Sem.run_pure]) h2
  · rename_i t parts e; rw [e] at hρ
    simp only [Option.map_eq_some_iff] at h
    obtain ⟨v0, h, h0⟩ := h; cases h0
    have hv : VRL μ ((parts.toList.map fun p => (p.1, ρ p.2)).map (·.2)) ((parts.toList.map fun p => (p.1, a.eval p.2)).map (·.2)) := by
      rw [List.map_map, List.map_map]
      have := VRL.map_ops (μ := μ) (ρ := ρ) (ρ' := a.eval) (parts.toList.map (·.2)) (fun x hx => hρ x (by simpa [Op.operands] using hx))
      rw [List.map_map, List.map_map] at this; exact this
    obtain ⟨v', h1, h2⟩ := snd_build (P := P) (parts' := parts.toList.map fun p => (p.1, a.eval p.2)) w (by simp [List.map_map, Function.comp_def]) hv h
    refine opok_value ?_ (out_same r h2)
    have : (parts.map fun (p : Nat × Operand) => (p.1, a.eval p.2)) = (parts.toList.map fun p => (p.1, a.eval p.2)).toArray := by
      apply Array.ext'; simp
    simp only [execOp, e, Sem.run_bind]
    rw [this, h1]; rfl
  · rename_i t n parts e; rw [e] at hρ
    have hv : VRL μ ((parts.toList.map fun p => (p.1, ρ p.2)).map (·.2)) ((parts.toList.map fun p => (p.1, a.eval p.2)).map (·.2)) := by
      rw [List.map_map, List.map_map]
      have := VRL.map_ops (μ := μ) (ρ := ρ) (ρ' := a.eval) (parts.toList.map (·.2)) (fun x hx => hρ x (by simpa [Op.operands] using hx))
      rw [List.map_map, List.map_map] at this; exact this
    obtain ⟨v', w', h1, h2⟩ := snd_buildSlice (P := P) r (parts' := parts.toList.map fun p => (p.1, a.eval p.2)) (by simp [List.map_map, Function.comp_def]) hv h
    refine opok_value ?_ h2
    have : (parts.map fun (p : Nat × Operand) => (p.1, a.eval p.2)) = (parts.toList.map fun p => (p.1, a.eval p.2)).toArray := by
      apply Array.ext'; simp
    simp only [execOp, e, Sem.run_bind]
    rw [this, h1]; rfl
  · rename_i t x e; rw [e] at hρ
    simp only [Option.map_eq_some_iff] at h
    obtain ⟨v0, h, h0⟩ := h; cases h0
    obtain ⟨v', h1, h2⟩ := snd_load (P := P) r (hρ x (by simp [Op.operands])) h
    exact opok_value (by simp only [execOp, e, Sem.run_bind, h1, Result.andThen_ok, Sem.run_pure]) (out_same r h2)
  · rename_i t x y e; rw [e] at hρ
    simp only [Option.map_eq_some_iff] at h
    obtain ⟨H0, h, h0⟩ := h; cases h0
    obtain ⟨w', h1, h2, h3⟩ := snd_store (P := P) r (hρ x (by simp [Op.operands])) (hρ y (by simp [Op.operands])) h
    exact opok_skip (by simp only [execOp, e, Sem.run_bind, h1, Result.andThen_ok, Sem.run_pure]) ⟨μ, h2, h3, VR.undef μ⟩
  · rename_i x e; rw [e] at hρ
    simp only [Option.map_eq_some_iff] at h
    obtain ⟨v0, h, h0⟩ := h; cases h0
    have hx := hρ x (by simp [Op.operands])
    unfold aNil at h
    generalize hz : a.eval x = z at hx
    split at h
    · rename_i q eq; cases h; rw [eq] at hx
      cases hx with
      | ptr hm =>
        refine opok_value ?_ (out_same r (VR.ptr hm))
        simp [execOp, e, hz]
    · rename_i f fi ca eq; cases h; rw [eq] at hx
      cases hx with
      | func _ h1 h2 =>
        refine opok_value ?_ (out_same r (VR.func _ h1 h2))
        simp [execOp, e, hz]
    · cases h
  · rename_i op t x y yt e; rw [e] at hρ
    simp only [Option.map_eq_some_iff] at h
    obtain ⟨v0, h, h0⟩ := h; cases h0
    obtain ⟨v', n, h1, h2⟩ := snd_bin (P := P) w (hρ x (by simp [Op.operands])) (hρ y (by simp [Op.operands])) h
    refine opok_value ?_ (out_drawn r n h2)
    simp only [execOp, e]
    rw [Sem.run_bind, h1]; rfl
  · rename_i op t x e; rw [e] at hρ
    simp only [Option.map_eq_some_iff] at h
    obtain ⟨v0, h, h0⟩ := h; cases h0
    obtain ⟨v', h1, h2⟩ := snd_un (P := P) w (hρ x (by simp [Op.operands])) h
    exact opok_value (by simp only [execOp, e, Sem.run_bind, h1, Result.andThen_ok, Sem.run_pure]) (out_same r h2)
  · rename_i s d x e; rw [e] at hρ
    simp only [Option.map_eq_some_iff] at h
    obtain ⟨v0, h, h0⟩ := h; cases h0
    obtain ⟨v', n, h1, h2⟩ := snd_conv (P := P) w (hρ x (by simp [Op.operands])) h
    exact opok_value (by simp only [execOp, e, Sem.run_bind, h1, Result.andThen_ok, Sem.run_pure]) (out_drawn r n h2)
  · rename_i fn fi ca e; rw [e] at hρ; cases h
    refine opok_value (v := .func fn (fi.map a.eval) (ca.map a.eval)) (w' := w) (by simp only [execOp, e, Sem.run_bind, Instr.makeFunc, Sem.run_pure, Result.andThen_ok]) (out_same r ?_)
    have e1 : fi.map a.eval = ⟨fi.toList.map a.eval⟩ := by apply Array.ext'; simp
    have e2 : ca.map a.eval = ⟨ca.toList.map a.eval⟩ := by apply Array.ext'; simp
    rw [e1, e2]
    refine .func fn (VRL.map_ops _ fun x hx => hρ x ?_) (VRL.map_ops _ fun x hx => hρ x ?_)
    · simp only [Op.operands, Array.toList_append, List.mem_append]; exact .inl hx
    · simp only [Op.operands, Array.toList_append, List.mem_append]; exact .inr hx
  · rename_i t l c e; rw [e] at hρ
    obtain ⟨v', w', h1, h2⟩ := snd_makeSlice (P := P) r (hρ l (by simp [Op.operands])) (hρ c (by simp [Op.operands])) h
    exact opok_value (by simp only [execOp, e, Sem.run_bind, h1, Result.andThen_ok, Sem.run_pure]) h2
  · rename_i t x lo hi mx e; rw [e] at hρ
    simp only [Option.map_eq_some_iff] at h
    obtain ⟨v0, h, h0⟩ := h; cases h0
    obtain ⟨v', h1, h2⟩ := snd_slice (P := P) w (hρ x (by simp [Op.operands])) (vro_map lo fun y hy => hρ y (by simp at hy; simp [Op.operands, hy]))
      (vro_map hi fun y hy => hρ y (by simp at hy; simp [Op.operands, hy])) (vro_map mx fun y hy => hρ y (by simp at hy; simp [Op.operands, hy])) h
    exact opok_value (by simp only [execOp, e, Sem.run_bind, h1, Result.andThen_ok, Sem.run_pure]) (out_same r h2)
  · rename_i s x f e; rw [e] at hρ
    simp only [Option.map_eq_some_iff] at h
    obtain ⟨v0, h, h0⟩ := h; cases h0
    obtain ⟨v', h1, h2⟩ := snd_fieldAddr (P := P) w (hρ x (by simp [Op.operands])) h
    exact opok_value (by simp only [execOp, e, Sem.run_bind, h1, Result.andThen_ok, Sem.run_pure]) (out_same r h2)
  · rename_i t x f e; rw [e] at hρ
    simp only [Option.map_eq_some_iff] at h
    obtain ⟨v0, h, h0⟩ := h; cases h0
    obtain ⟨v', h1, h2⟩ := snd_field (P := P) w (hρ x (by simp [Op.operands])) h
    exact opok_value (by simp only [execOp, e, Sem.run_bind, h1, Result.andThen_ok, Sem.run_pure]) (out_same r h2)
  · rename_i t x i e; rw [e] at hρ
    simp only [Option.map_eq_some_iff] at h
    obtain ⟨v0, h, h0⟩ := h; cases h0
    obtain ⟨v', h1, h2⟩ := snd_indexAddr (P := P) w (hρ x (by simp [Op.operands])) (hρ i (by simp [Op.operands])) h
    exact opok_value (by simp only [execOp, e, Sem.run_bind, h1, Result.andThen_ok, Sem.run_pure]) (out_same r h2)
  · rename_i t x i e; rw [e] at hρ
    simp only [Option.map_eq_some_iff] at h
    obtain ⟨v0, h, h0⟩ := h; cases h0
    obtain ⟨v', h1, h2⟩ := snd_index (P := P) w (hρ x (by simp [Op.operands])) (hρ i (by simp [Op.operands])) h
    exact opok_value (by simp only [execOp, e, Sem.run_bind, h1, Result.andThen_ok, Sem.run_pure]) (out_same r h2)
  · rename_i x i e; rw [e] at hρ
    simp only [Option.map_eq_some_iff] at h
    obtain ⟨v0, h, h0⟩ := h; cases h0
    obtain ⟨v', h1, h2⟩ := snd_extract (P := P) w (hρ x (by simp [Op.operands])) h
    exact opok_value (by simp only [execOp, e, Sem.run_bind, h1, Result.andThen_ok, Sem.run_pure]) (out_same r h2)
  · rename_i c e; rw [e] at hρ
    have hargs : VRL μ (c.args.toList.map ρ) (c.args.toList.map a.eval) := VRL.map_ops _ fun x hx => hρ x (by
      simp only [Op.operands, Call.operands, Array.toList_append, List.mem_append]; exact .inr hx)
    have hmap : c.args.map a.eval = (c.args.toList.map a.eval).toArray := by apply Array.ext'; simp
    unfold aCall at h
    split at h
    · rename_i f ef
      have hf := hρ f (by simp [Op.operands, Call.operands, ef])
      split at h
      · rename_i id fi ca eq
        rw [eq] at hf
        generalize hz : a.eval f = z at hf
        cases hf with
        | func _ h1 h2 =>
          rename_i fi' ca'
          refine opok_call (f := id) (args := (fi' ++ c.args.toList.map a.eval ++ ca').toArray) ?_ (hG id _ H v H' h μ _ w r hgl ((h1.append hargs).append h2))
          simp only [execOp, e, resolve, ef, hz, Deferred.ofValue, hmap]
          show callFunc id _ = _
          congr 1
          apply Array.ext'
          simp
      · cases h
    · rename_i b eb
      have hres : ∀ (k : Sem Value), (∀ cs, builtin b c.argTypes o.type cs (c.args.map a.eval) = (do pure (.value (← k)))) → ∀ v' w', k.run P w = .ok v' w' → (execOp a.eval o).run P w = .ok (.value v') w' := by
        intro k hk v' w' hr
        simp only [execOp, e, resolve, eb]
        show Sem.run P (builtin b c.argTypes o.type _ (c.args.map a.eval)) w = _
        rw [hk, Sem.run_bind, hr]; rfl
      unfold aBuiltin at h
      split at h
      · split at h
        · rename_i t x et ex
          simp only [Option.map_eq_some_iff] at h
          obtain ⟨v0, h, h0⟩ := h; cases h0
          rw [ex] at hargs
          generalize hq : c.args.toList.map a.eval = q at hargs
          cases hargs with
          | cons hx hn => cases hn
                          rename_i x'
                          have ht0 : c.argTypes[0]? = some t := by rw [← Array.getElem?_toList, et]; rfl
                          obtain ⟨v', h1, h2⟩ := snd_len (P := P) (ty := o.type) (rest := c.argTypes) (args := c.args.map a.eval) w hx h ht0 (by rw [hmap, hq]; rfl)
                          exact opok_value (hres _ (fun _ => rfl) v' w h1) (out_same r h2)
        · cases h
      · split at h
        · rename_i s x ex
          rw [ex] at hargs
          generalize hq : c.args.toList.map a.eval = q at hargs
          cases hargs with
          | cons hs ht =>
            cases ht with
            | cons hx hn =>
              cases hn
              rename_i s' x'
              obtain ⟨v', w', h1, h2⟩ := snd_append (P := P) (ty := o.type) r hs hx h
              refine opok_value (hres _ (fun _ => rfl) v' w' ?_) h2
              rw [hmap, hq]; exact h1
        · cases h
      · split at h
        · rename_i x y ex
          simp only [Option.map_eq_some_iff] at h
          obtain ⟨v0, h, h0⟩ := h; cases h0
          rw [ex] at hargs
          generalize hq : c.args.toList.map a.eval = q at hargs
          cases hargs with
          | cons hs ht =>
            cases ht with
            | cons hx hn =>
              cases hn
              rename_i x' y'
              obtain ⟨v', n, h1, h2⟩ := snd_most (P := P) w hs hx h
              refine opok_value (hres _ (fun _ => rfl) v' _ ?_) (out_drawn r n h2)
              rw [hmap, hq]
              simp only [Builtin.max_, List.foldlM_cons, List.foldlM_nil, Sem.run_bind]
              simp only [if_true] at h1
              rw [h1]; rfl
        · cases h
      · split at h
        · rename_i x y ex
          simp only [Option.map_eq_some_iff] at h
          obtain ⟨v0, h, h0⟩ := h; cases h0
          rw [ex] at hargs
          generalize hq : c.args.toList.map a.eval = q at hargs
          cases hargs with
          | cons hs ht =>
            cases ht with
            | cons hx hn =>
              cases hn
              rename_i x' y'
              obtain ⟨v', n, h1, h2⟩ := snd_most (P := P) w hs hx h
              refine opok_value (hres _ (fun _ => rfl) v' _ ?_) (out_drawn r n h2)
              rw [hmap, hq]
              simp only [Builtin.min_, List.foldlM_cons, List.foldlM_nil, Sem.run_bind]
              simp only [Bool.false_eq_true, if_false] at h1
              rw [h1]; rfl
        · cases h
      · cases h
    · cases h
  · cases h

end Go.Proofs.Ytnhhdgopgecggaa.Abs
