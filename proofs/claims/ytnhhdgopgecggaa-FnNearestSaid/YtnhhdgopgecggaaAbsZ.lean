/- The abstract machine: a statement whose order of evaluation is open (4): the theorem. No condition. -/
import Derived.Test.YtnhhdgopgecggaaAbsY
set_option linter.unusedVariables false
set_option linter.unusedSimpArgs false
namespace Go.Proofs.Ytnhhdgopgecggaa.Abs
open Go

section
variable {gs : List Nat} {P : Program} {G : Env} {ops : Array Oper} {k : Nat} {t : List Value} {H : AHeap} {K : Cont} {T : Nat → List Value} {Hh : Nat → AHeap} {vs : Nat → Value}

theorem Trace.pre (tr : Trace P G ops ops.toList k t H K T Hh vs) : ∀ j, j ≤ k → j ≤ ops.size → ∀ i, i ≤ j → Hh i <+: Hh j := by
  intro j
  induction j with
  | zero => intro _ _ i hi; have e : i = 0 := Nat.le_zero.1 hi; subst e; exact List.prefix_refl _
  | succ j ih =>
    intro hj hjn i hi
    by_cases e : i = j + 1
    · subst e; exact List.prefix_refl _
    · have h1 := ih (by omega) (by omega) i (by omega)
      have ho : ops.toList[j]? = some (ops[j]'(by omega)) := by simp [show j < ops.size by omega]
      rcases (tr.step j _ ho).2 with ⟨_, _, h⟩ | ⟨_, _, h⟩
      · exact h1.trans (h (by omega))
      · rw [h]; exact h1

theorem Trace.slots (tr : Trace P G ops ops.toList k t H K T Hh vs) : ∀ i, i ≤ ops.size → ∀ i', i' ≤ i →
    (∀ j, i' ≤ j → j < i → ∀ o, ops[j]? = some o → kindOf o.op = 0) → Hh i' = Hh i := by
  intro i
  induction i with
  | zero => intro _ i' hi' _; have e : i' = 0 := Nat.le_zero.1 hi'; subst e; rfl
  | succ i ih =>
    intro hin i' hi' hk
    by_cases e : i' = i + 1
    · rw [e]
    · rw [ih (by omega) i' (by omega) fun j h1 h2 => hk j h1 (by omega)]
      have ho : ops.toList[i]? = some (ops[i]'(by omega)) := by simp [show i < ops.size by omega]
      rcases (tr.step i _ ho).2 with ⟨_, h, _⟩ | ⟨_, _, h⟩
      · exact (slot_only (hk i (by omega) (by omega) _ (by simp [show i < ops.size by omega])) h).1.symm
      · exact h.symm

theorem setD_get (t : List Value) (d : Option Tmp) (v : Value) (e : Nat) : (setD t d v)[e]? = if d = some e then (if e < t.length then some v else none) else t[e]? := by
  cases d with
  | none => simp [setD]
  | some d =>
    simp only [setD, List.getElem?_set, Option.some.injEq]
    by_cases h : d = e
    · subst h; simp
    · simp [h]

theorem Trace.len (tr : Trace P G ops ops.toList k t H K T Hh vs) : ∀ i, i ≤ ops.size → (T i).length = t.length := by
  intro i
  induction i with
  | zero => intro _; rw [tr.t0]
  | succ i ih =>
    intro hi
    have ho : ops.toList[i]? = some (ops[i]'(by omega)) := by simp [show i < ops.size by omega]
    rw [(tr.step i _ ho).1]
    cases ops[i].dst <;> simp [setD, ih (by omega)]

/-- A slot that nobody has written yet. -/
theorem Trace.kept (tr : Trace P G ops ops.toList k t H K T Hh vs) (e : Nat) : ∀ i, i ≤ ops.size → (∀ j, j < i → ∀ o, ops[j]? = some o → o.dst ≠ some e) → (T i)[e]? = t[e]? := by
  intro i
  induction i with
  | zero => intro _ _; rw [tr.t0]
  | succ i ih =>
    intro hi hn
    have ho : ops.toList[i]? = some (ops[i]'(by omega)) := by simp [show i < ops.size by omega]
    rw [(tr.step i _ ho).1, setD_get, if_neg (hn i (by omega) _ (by simp [show i < ops.size by omega])), ih (by omega) fun j h => hn j (by omega)]

/-- A slot that has been written. -/
theorem Trace.written (tr : Trace P G ops ops.toList k t H K T Hh vs) (dk : DrawOK ops) {e j : Nat} {o : Oper} (hj : ops[j]? = some o) (hd : o.dst = some e) (he : e < t.length) : ∀ i, i ≤ ops.size → j < i → (T i)[e]? = some (vs j) := by
  intro i
  induction i with
  | zero => intro _ h; omega
  | succ i ih =>
    intro hi hji
    have ho : ops.toList[i]? = some (ops[i]'(by omega)) := by simp [show i < ops.size by omega]
    have ho' : ops[i]? = some (ops[i]'(by omega)) := by simp [show i < ops.size by omega]
    rw [(tr.step i _ ho).1, setD_get]
    by_cases hij : i = j
    · subst hij
      rw [hj] at ho'; injection ho' with ho'
      rw [← ho', hd, if_pos rfl, tr.len i (by omega), if_pos he]
    · rw [if_neg fun hd' => hij (dk.dsts j o hj i _ ho' e hd hd'), ih (by omega) (by omega)]

/-- Where the memory has been written on, the renaming as it is; before, only what lay below. -/
def lvl (k q : Nat) (μ : Ren) (n : Nat) : Ren := if q = k then μ.cut n else μ

def lev (Hh : Nat → AHeap) (k i : Nat) : Nat := (Hh (min i k)).length

structure Inv (gs : List Nat) (ops : Array Oper) (k : Nat) (t : List Value) (H : AHeap) (Hh : Nat → AHeap) (vs : Nat → Value) (μs : Ren) (ws : World) (L1 : List Nat) (a : Act) (w : World) (μ : Ren) (q : Nat) : Prop where
  defers : a.defers = []
  size : a.tmps.size = t.length
  slot : ∀ (d : Nat) x, t[d]? = some x → ∃ c, a.tmps[d]? = some c ∧ ((∃ j o, j ∈ L1 ∧ ops[j]? = some o ∧ o.dst = some d ∧ VR (lvl k q μ (lev Hh k (j + 1))) (vs j) c) ∨ ((∀ j ∈ L1, ∀ o, ops[j]? = some o → o.dst ≠ some d) ∧ VR (lvl k q μ (lev Hh k 0)) x c))
  glob : Glob gs (μ.cut H.length)
  q0 : k ≤ q
  q1 : q ≤ ops.size
  phase : q = k ∨ ∃ e o, q = e + 1 ∧ e ∈ L1 ∧ k ≤ e ∧ ops[e]? = some o ∧ kindOf o.op ≠ 0
  late : ∀ i ∈ L1, ∀ o, ops[i]? = some o → q ≤ i → kindOf o.op = 0
  rel : Rel μ (Hh q) w
  keep : Keep μs H ws μ (Hh q) w
  bel : q = k → ∀ i, i ≤ k → ∀ (b : Nat) x lk cs v, μ b = some x → b < (Hh i).length → (Hh k)[b]? = some (.live lk cs) → v ∈ cs → Abs.bel (Hh i).length v = true
  new : q = k → ∀ b x, μ b = some x → b < H.length ∨ ∃ i ∈ L1, i < k ∧ (Hh i).length ≤ b ∧ b < (Hh (i + 1)).length

theorem lvl_mono {k q : Nat} {μ : Ren} {n m : Nat} (h : n ≤ m) : (lvl k q μ n).le (lvl k q μ m) := by
  unfold lvl
  split
  · exact Ren.cut_mono μ h
  · exact Ren.le_refl _
theorem lvl_le {k q : Nat} {μ : Ren} {n : Nat} : (lvl k q μ n).le μ := by
  unfold lvl
  split
  · exact Ren.cut_le μ n
  · exact Ren.le_refl _

theorem lev_mono (tr : Trace P G ops ops.toList k t H K T Hh vs) (hk : k ≤ ops.size) {i j : Nat} (h : i ≤ j) : lev Hh k i ≤ lev Hh k j := by
  unfold lev
  exact (tr.pre (min j k) (by omega) (by omega) (min i k) (by omega)).length_le

/-- What stands in the slots that an operation reads, when its turn comes. -/
theorem Inv.read (tr : Trace P G ops ops.toList k t H K T Hh vs) (dk : DrawOK ops) (hk : k ≤ ops.size) {μs : Ren} {ws : World} {L1 : List Nat} {a : Act} {w : World} {μ : Ren} {q : Nat} (inv : Inv gs ops k t H Hh vs μs ws L1 a w μ q)
    (hlt : ∀ i ∈ L1, i < ops.size) (hcl : ∀ e ∈ L1, ∀ o, ops[e]? = some o → ∀ j ∈ bAfter o, j ∈ L1) {i : Nat} {o : Oper} (ho : ops[i]? = some o) (hi : i ∉ L1) (haf : ∀ j ∈ bAfter o, j ∈ L1) {d : Nat} (hd : d ∈ readsOf ops o) {x : Value} (hx : (T i)[d]? = some x) :
    ∃ c, a.tmps[d]? = some c ∧ VR (lvl k q μ (lev Hh k i)) x c := by
  have hil : i < ops.size := (Array.getElem?_eq_some_iff.1 ho).1
  have hdl : d < t.length := by
    have := (List.getElem?_eq_some_iff.1 hx).1
    rwa [tr.len i (by omega)] at this
  obtain ⟨c, hc, h⟩ := inv.slot d (t[d]) (List.getElem?_eq_getElem hdl)
  refine ⟨c, hc, ?_⟩
  rcases h with ⟨j, p, hjL, hp, hpd, hv⟩ | ⟨hno, hv⟩
  · rcases dk.reads i o ho d hd j p hp hpd with ⟨hji, _⟩ | ⟨hij, hb⟩
    · rw [tr.written dk hp hpd hdl i (by omega) hji] at hx; cases hx
      exact hv.mono (lvl_mono (lev_mono tr hk (by omega)))
    · exact absurd (hcl j hjL p hp i hb) hi
  · have hkept : (T i)[d]? = t[d]? := by
      refine tr.kept d i (by omega) fun j hj p hp hpd => ?_
      rcases dk.reads i o ho d hd j p hp hpd with ⟨_, hb⟩ | ⟨hij, _⟩
      · exact hno j (haf j hb) p hp hpd
      · omega
    rw [hkept, List.getElem?_eq_getElem hdl] at hx; cases hx
    exact hv.mono (lvl_mono (lev_mono tr hk (by omega)))

theorem Ren.cut_all {μ : Ren} {n : Nat} (h : ∀ b x, μ b = some x → b < n) : μ.cut n = μ := by
  funext b
  unfold Ren.cut
  split
  · rfl
  · rename_i hb
    cases e : μ b with
    | none => rfl
    | some x => exact absurd (h b x e) hb

/-- All operands of an operation, when its turn comes. -/
theorem Inv.operands (tr : Trace P G ops ops.toList k t H K T Hh vs) (dk : DrawOK ops) (hk : k ≤ ops.size) {μs : Ren} {ws : World} {L1 : List Nat} {a : Act} {w : World} {μ : Ren} {q : Nat} (inv : Inv gs ops k t H Hh vs μs ws L1 a w μ q)
    (hlt : ∀ i ∈ L1, i < ops.size) (hcl : ∀ e ∈ L1, ∀ o, ops[e]? = some o → ∀ j ∈ bAfter o, j ∈ L1) {i : Nat} {o : Oper} (ho : ops[i]? = some o) (hi : i ∉ L1) (haf : ∀ j ∈ bAfter o, j ∈ L1) (hok : operOK gs o = true) :
    ∀ x ∈ o.op.operands.toList, VR (lvl k q μ (lev Hh k i)) (ev (T i) x) (a.eval x) := by
  intro x hx
  have hil : i < ops.size := (Array.getElem?_eq_some_iff.1 ho).1
  cases x with
  | tmp d =>
    cases hv : (T i)[d]? with
    | some v =>
      obtain ⟨c, hc, h⟩ := inv.read tr dk hk hlt hcl ho hi haf (d := d) (by
        simp only [readsOf, List.mem_append, tmpsOf, List.mem_filterMap]
        exact .inl ⟨.tmp d, hx, rfl⟩) hv
      simpa [ev, Act.eval, List.getD_eq_getElem?_getD, Array.getD_eq_getD_getElem?, hv, hc] using h
    | none =>
      have h1 : t.length ≤ d := by
        rw [List.getElem?_eq_none_iff, tr.len i (by omega)] at hv; exact hv
      have h2 : a.tmps[d]? = none := by
        rw [Array.getElem?_eq_none_iff, inv.size]; exact h1
      simpa [ev, Act.eval, List.getD_eq_getElem?_getD, Array.getD_eq_getD_getElem?, hv, h2] using VR.undef _
  | const v =>
    simp only [operOK, List.all_eq_true] at hok
    exact VR.of_closed _ v (by simpa [opnd] using hok _ hx)
  | global g =>
    simp only [operOK, List.all_eq_true] at hok
    have hg : g ∈ gs := by simpa [opnd] using hok _ hx
    obtain ⟨size, h⟩ := inv.glob g hg
    refine VR.ptr (off := 0) (base := 0) (size := size) ?_
    have h1 : μ.cut H.length g = some (g, 0, size) := h
    have hle : (μ.cut H.length).le (lvl k q μ (lev Hh k i)) := by
      unfold lvl
      split
      · refine Ren.cut_mono μ ?_
        have := lev_mono tr hk (Nat.zero_le i)
        simp only [lev, Nat.zero_min, tr.H0] at this ⊢; exact this
      · exact Ren.cut_le μ _
    exact hle _ _ h1
  | func f => exact .func _ .nil .nil

theorem Inv.want (tr : Trace P G ops ops.toList k t H K T Hh vs) (dk : DrawOK ops) (hk : k ≤ ops.size) {μs : Ren} {ws : World} {L1 : List Nat} {a : Act} {w : World} {μ : Ren} {q : Nat} (inv : Inv gs ops k t H Hh vs μs ws L1 a w μ q)
    (hlt : ∀ i ∈ L1, i < ops.size) (hcl : ∀ e ∈ L1, ∀ o, ops[e]? = some o → ∀ j ∈ bAfter o, j ∈ L1) {i : Nat} {o : Oper} (ho : ops[i]? = some o) (hi : i ∉ L1) (haf : ∀ j ∈ bAfter o, j ∈ L1) :
    Region.wanted o (yielded ops a.tmps) = wantA ops o (T i) := by
  have hil : i < ops.size := (Array.getElem?_eq_some_iff.1 ho).1
  unfold Region.wanted wantA
  cases hg : o.guard with
  | none => rfl
  | some g =>
    obtain ⟨j, want⟩ := g
    dsimp only
    unfold yielded
    cases hd : (ops[j]?).bind (·.dst) with
    | none => simp
    | some d =>
      simp only [Option.bind_some]
      cases hv : (T i)[d]? with
      | none =>
        have h1 : t.length ≤ d := by
          rw [List.getElem?_eq_none_iff, tr.len i (by omega)] at hv; exact hv
        have h2 : a.tmps[d]? = none := by
          rw [Array.getElem?_eq_none_iff, inv.size]; exact h1
        simp [h2]
      | some v =>
        obtain ⟨c, hc, h⟩ := inv.read tr dk hk hlt hcl ho hi haf (d := d) (by
          simp only [readsOf, hg, List.mem_append, hd]
          exact .inr (by simp)) hv
        rw [hc]
        cases h <;> simp

/-- Behind an operation that changed no memory. -/
theorem Inv.same {μs : Ren} {ws : World} {L1 : List Nat} {a : Act} {w : World} {μ : Ren} {q : Nat} (inv : Inv gs ops k t H Hh vs μs ws L1 a w μ q) {i : Nat} {o : Oper} (ho : ops[i]? = some o)
    (dk : DrawOK ops) (hi : i ∉ L1) {v' : Value} (hv : VR (lvl k q μ (lev Hh k (i + 1))) (vs i) v') {w' : World} (hr : Rel μ (Hh q) w') (hkp : Keep μs H ws μ (Hh q) w') (hlate : q ≤ i → kindOf o.op = 0) :
    Inv gs ops k t H Hh vs μs ws (L1 ++ [i]) (a.put o.dst v') w' μ q := by
  refine ⟨by rw [put_defers]; exact inv.defers, ?_, ?_, inv.glob, inv.q0, inv.q1, ?_, ?_, hr, hkp, inv.bel, ?_⟩
  · cases o.dst <;> simp [Act.put, inv.size]
  · intro d x hx
    obtain ⟨c, hc, h⟩ := inv.slot d x hx
    by_cases hd : o.dst = some d
    · refine ⟨v', ?_, .inl ⟨i, o, by simp, ho, hd, hv⟩⟩
      have : d < a.tmps.size := (Array.getElem?_eq_some_iff.1 hc).1
      rw [hd]
      simp [Act.put, this]
    · refine ⟨c, ?_, ?_⟩
      · cases hdd : o.dst with
        | none => simpa [Act.put] using hc
        | some e =>
          have : e ≠ d := fun h => hd (by rw [hdd, h])
          simp [Act.put, Array.getElem?_setIfInBounds, this, hc]
      · rcases h with ⟨j, p, h1, h2, h3, h4⟩ | ⟨h1, h2⟩
        · exact .inl ⟨j, p, by simp [h1], h2, h3, h4⟩
        · refine .inr ⟨fun j hj p hp => ?_, h2⟩
          rcases List.mem_append.1 hj with hj | hj
          · exact h1 j hj p hp
          · simp at hj; subst hj
            rw [ho] at hp; cases hp; exact hd
  · rcases inv.phase with h | ⟨e, p, h1, h2, h3, h4, h5⟩
    · exact .inl h
    · exact .inr ⟨e, p, h1, by simp [h2], h3, h4, h5⟩
  · intro j hj p hp hqj
    rcases List.mem_append.1 hj with hj | hj
    · exact inv.late j hj p hp hqj
    · simp at hj; subst hj
      rw [ho] at hp; cases hp; exact hlate hqj
  · intro hq b x hx
    rcases inv.new hq b x hx with h | ⟨j, h1, h2⟩
    · exact .inl h
    · exact .inr ⟨j, by simp [h1], h2⟩

end

end Go.Proofs.Ytnhhdgopgecggaa.Abs
