/- The abstract machine: a statement whose order of evaluation is open (3): every order comes to the end that the order of the text comes to. No condition. -/
import Derived.Test.YtnhhdgopgecggaaAbsX
set_option linter.unusedVariables false
set_option linter.unusedSimpArgs false
namespace Go.Proofs.Ytnhhdgopgecggaa.Abs
open Go

theorem prefix_get {H H' : AHeap} (h : H <+: H') {b : Nat} (hb : b < H.length) : H'[b]? = H[b]? := by
  obtain ⟨r, rfl⟩ := h
  exact List.getElem?_append_left hb

theorem prefix_ulive {H H' : AHeap} (h : H <+: H') {b : Nat} (hb : b < H.length) : Ulive H' b ↔ Ulive H b := by
  unfold Ulive; rw [prefix_get h hb]

/-- The earlier memory, where the later one only added to it. -/
theorem Rel.cut {μ : Ren} {H Hk : AHeap} {w : World} (r : Rel μ Hk w) (h : H <+: Hk) (hbel : ∀ (b : Nat) x lk cs v, μ b = some x → b < H.length → H[b]? = some (.live lk cs) → v ∈ cs → Abs.bel H.length v = true) : Rel (μ.cut H.length) H w := by
  have hlen : H.length ≤ Hk.length := h.length_le
  have up : ∀ b x, μ.cut H.length b = some x → μ b = some x ∧ b < H.length := fun b x hx => by
    simp only [Ren.cut] at hx; split at hx
    · exact ⟨hx, by assumption⟩
    · cases hx
  refine ⟨fun b x hx => (up b x hx).2, fun b c base size hx => r.lt _ _ _ _ (up _ _ hx).1, ?_, ?_, ?_, ?_, ?_⟩
  · intro b c base size hx ha
    obtain ⟨h1, h2⟩ := up _ _ hx
    exact r.tgt b c base size h1 (by unfold Alive at ha ⊢; rw [prefix_get h h2]; exact ha)
  · intro b c base size lk cs hx hH
    obtain ⟨h1, h2⟩ := up _ _ hx
    exact r.fits b c base size lk cs h1 (by rw [prefix_get h h2]; exact hH)
  · intro b c base size lk cs i v hx hH hi
    obtain ⟨h1, h2⟩ := up _ _ hx
    obtain ⟨v', e1, e2⟩ := r.cell b c base size lk cs i v h1 (by rw [prefix_get h h2]; exact hH) hi
    exact ⟨v', e1, e2.cut (hbel b _ lk cs v h1 h2 hH (List.mem_of_getElem? hi))⟩
  · intro b c base size cs hx hH
    obtain ⟨h1, h2⟩ := up _ _ hx
    exact r.free b c base size cs h1 (by rw [prefix_get h h2]; exact hH)
  · intro b b' c base size base' size' hx hx' ha ha' hu
    obtain ⟨h1, h2⟩ := up _ _ hx
    obtain ⟨h1', h2'⟩ := up _ _ hx'
    exact r.inj b b' c base size base' size' h1 h1' (by unfold Alive at ha ⊢; rw [prefix_get h h2]; exact ha) (by unfold Alive at ha' ⊢; rw [prefix_get h h2']; exact ha') (hu.imp (fun hu => by unfold Ulive at hu ⊢; rw [prefix_get h h2]; exact hu) (fun hu => by unfold Ulive at hu ⊢; rw [prefix_get h h2']; exact hu))

/-- What an operation that looks at its operands alone gives. -/
theorem slot_sound {P : Program} {G : Env} {o : Oper} {a : Act} {ρ : Operand → Value} {ν : Ren} {H H' : AHeap} {w : World} {v : Value} (hk : kindOf o.op = 0)
    (hρ : ∀ x ∈ o.op.operands.toList, VR ν (ρ x) (a.eval x)) (h : aop P G o.op ρ H = some (v, H')) : OpOK P o a w (fun v' w' => VR ν v v' ∧ ∃ n, w' = { w with drawn := n }) := by
  unfold aop at h
  split at h <;> rename_i e <;> simp only [e, kindOf] at hk
  all_goals first | (exact absurd hk (by decide)) | skip
  all_goals rw [e] at hρ
  · rename_i x; cases h
    exact opok_value (w' := w) (by simp only [execOp, e]; rfl) ⟨hρ x (by simp [Op.operands]), w.drawn, rfl⟩
  · rename_i x; cases h
    exact opok_value (w' := w) (by simp only [execOp, e]; rfl) ⟨hρ x (by simp [Op.operands]), w.drawn, rfl⟩
  · rename_i c x y
    have hc := hρ c (by simp [Op.operands])
    split at h
    · rename_i ec; cases h; rw [ec] at hc
      refine opok_value (v := a.eval x) (w' := w) ?_ ⟨hρ x (by simp [Op.operands]), w.drawn, rfl⟩
      generalize hz : a.eval c = z at hc
      cases hc
      simp [execOp, e, hz, asBool]
    · rename_i ec; cases h; rw [ec] at hc
      refine opok_value (v := a.eval y) (w' := w) ?_ ⟨hρ y (by simp [Op.operands]), w.drawn, rfl⟩
      generalize hz : a.eval c = z at hc
      cases hc
      simp [execOp, e, hz, asBool]
    · cases h
  · rename_i t parts
    simp only [Option.map_eq_some_iff] at h
    obtain ⟨v0, h, h0⟩ := h; cases h0
    have hv : VRL ν ((parts.toList.map fun p => (p.1, ρ p.2)).map (·.2)) ((parts.toList.map fun p => (p.1, a.eval p.2)).map (·.2)) := by
      rw [List.map_map, List.map_map]
      have := VRL.map_ops (μ := ν) (ρ := ρ) (ρ' := a.eval) (parts.toList.map (·.2)) (fun x hx => hρ x (by simpa [Op.operands] using hx))
      rw [List.map_map, List.map_map] at this; exact this
    obtain ⟨v', h1, h2⟩ := snd_build (P := P) (parts' := parts.toList.map fun p => (p.1, a.eval p.2)) w (by simp [List.map_map, Function.comp_def]) hv h
    refine opok_value (w' := w) ?_ ⟨h2, w.drawn, rfl⟩
    have : (parts.map fun (p : Nat × Operand) => (p.1, a.eval p.2)) = (parts.toList.map fun p => (p.1, a.eval p.2)).toArray := by
      apply Array.ext'; simp
    simp only [execOp, e, Sem.run_bind]
    rw [this, h1]; rfl
  · rename_i x
    simp only [Option.map_eq_some_iff] at h
    obtain ⟨v0, h, h0⟩ := h; cases h0
    have hx := hρ x (by simp [Op.operands])
    unfold aNil at h
    generalize hz : a.eval x = z at hx
    split at h
    · rename_i q eq; cases h; rw [eq] at hx
      cases hx with
      | ptr hm =>
        refine opok_value (w' := w) ?_ ⟨VR.ptr hm, w.drawn, rfl⟩
        simp [execOp, e, hz]
    · rename_i f fi ca eq; cases h; rw [eq] at hx
      cases hx with
      | func _ h1 h2 =>
        refine opok_value (w' := w) ?_ ⟨VR.func _ h1 h2, w.drawn, rfl⟩
        simp [execOp, e, hz]
    · cases h
  · rename_i op t x y yt
    simp only [Option.map_eq_some_iff] at h
    obtain ⟨v0, h, h0⟩ := h; cases h0
    obtain ⟨v', n, h1, h2⟩ := snd_bin (P := P) w (hρ x (by simp [Op.operands])) (hρ y (by simp [Op.operands])) h
    refine opok_value ?_ ⟨h2, n, rfl⟩
    simp only [execOp, e]
    rw [Sem.run_bind, h1]; rfl
  · rename_i op t x
    simp only [Option.map_eq_some_iff] at h
    obtain ⟨v0, h, h0⟩ := h; cases h0
    obtain ⟨v', h1, h2⟩ := snd_un (P := P) w (hρ x (by simp [Op.operands])) h
    exact opok_value (w' := w) (by simp only [execOp, e, Sem.run_bind, h1, Result.andThen_ok, Sem.run_pure]) ⟨h2, w.drawn, rfl⟩
  · rename_i s d x
    simp only [Option.map_eq_some_iff] at h
    obtain ⟨v0, h, h0⟩ := h; cases h0
    obtain ⟨v', n, h1, h2⟩ := snd_conv (P := P) w (hρ x (by simp [Op.operands])) h
    exact opok_value (by simp only [execOp, e, Sem.run_bind, h1, Result.andThen_ok, Sem.run_pure]) ⟨h2, n, rfl⟩
  · rename_i fn fi ca; cases h
    refine opok_value (v := .func fn (fi.map a.eval) (ca.map a.eval)) (w' := w) (by simp only [execOp, e, Sem.run_bind, Instr.makeFunc, Sem.run_pure, Result.andThen_ok]) ⟨?_, w.drawn, rfl⟩
    have e1 : fi.map a.eval = ⟨fi.toList.map a.eval⟩ := by apply Array.ext'; simp
    have e2 : ca.map a.eval = ⟨ca.toList.map a.eval⟩ := by apply Array.ext'; simp
    rw [e1, e2]
    refine .func fn (VRL.map_ops _ fun x hx => hρ x ?_) (VRL.map_ops _ fun x hx => hρ x ?_)
    · simp only [Op.operands, Array.toList_append, List.mem_append]; exact .inl hx
    · simp only [Op.operands, Array.toList_append, List.mem_append]; exact .inr hx
  · rename_i t x lo hi mx
    simp only [Option.map_eq_some_iff] at h
    obtain ⟨v0, h, h0⟩ := h; cases h0
    obtain ⟨v', h1, h2⟩ := snd_slice (P := P) w (hρ x (by simp [Op.operands])) (vro_map lo fun y hy => hρ y (by simp at hy; simp [Op.operands, hy]))
      (vro_map hi fun y hy => hρ y (by simp at hy; simp [Op.operands, hy])) (vro_map mx fun y hy => hρ y (by simp at hy; simp [Op.operands, hy])) h
    exact opok_value (w' := w) (by simp only [execOp, e, Sem.run_bind, h1, Result.andThen_ok, Sem.run_pure]) ⟨h2, w.drawn, rfl⟩
  · rename_i s x f
    simp only [Option.map_eq_some_iff] at h
    obtain ⟨v0, h, h0⟩ := h; cases h0
    obtain ⟨v', h1, h2⟩ := snd_fieldAddr (P := P) w (hρ x (by simp [Op.operands])) h
    exact opok_value (w' := w) (by simp only [execOp, e, Sem.run_bind, h1, Result.andThen_ok, Sem.run_pure]) ⟨h2, w.drawn, rfl⟩
  · rename_i t x f
    simp only [Option.map_eq_some_iff] at h
    obtain ⟨v0, h, h0⟩ := h; cases h0
    obtain ⟨v', h1, h2⟩ := snd_field (P := P) w (hρ x (by simp [Op.operands])) h
    exact opok_value (w' := w) (by simp only [execOp, e, Sem.run_bind, h1, Result.andThen_ok, Sem.run_pure]) ⟨h2, w.drawn, rfl⟩
  · rename_i t x i
    simp only [Option.map_eq_some_iff] at h
    obtain ⟨v0, h, h0⟩ := h; cases h0
    obtain ⟨v', h1, h2⟩ := snd_indexAddr (P := P) w (hρ x (by simp [Op.operands])) (hρ i (by simp [Op.operands])) h
    exact opok_value (w' := w) (by simp only [execOp, e, Sem.run_bind, h1, Result.andThen_ok, Sem.run_pure]) ⟨h2, w.drawn, rfl⟩
  · rename_i t x i
    simp only [Option.map_eq_some_iff] at h
    obtain ⟨v0, h, h0⟩ := h; cases h0
    obtain ⟨v', h1, h2⟩ := snd_index (P := P) w (hρ x (by simp [Op.operands])) (hρ i (by simp [Op.operands])) h
    exact opok_value (w' := w) (by simp only [execOp, e, Sem.run_bind, h1, Result.andThen_ok, Sem.run_pure]) ⟨h2, w.drawn, rfl⟩
  · rename_i x i
    simp only [Option.map_eq_some_iff] at h
    obtain ⟨v0, h, h0⟩ := h; cases h0
    obtain ⟨v', h1, h2⟩ := snd_extract (P := P) w (hρ x (by simp [Op.operands])) h
    exact opok_value (w' := w) (by simp only [execOp, e, Sem.run_bind, h1, Result.andThen_ok, Sem.run_pure]) ⟨h2, w.drawn, rfl⟩
  · rename_i c
    have hargs : VRL ν (c.args.toList.map ρ) (c.args.toList.map a.eval) := VRL.map_ops _ fun x hx => hρ x (by
      simp only [Op.operands, Call.operands, Array.toList_append, List.mem_append]; exact .inr hx)
    have hmap : c.args.map a.eval = (c.args.toList.map a.eval).toArray := by apply Array.ext'; simp
    split at hk
    · rename_i b eb
      have hres : ∀ (k : Sem Value), (∀ cs, builtin b c.argTypes o.type cs (c.args.map a.eval) = (do pure (.value (← k)))) → ∀ v' w', k.run P w = .ok v' w' → (execOp a.eval o).run P w = .ok (.value v') w' := by
        intro k hk v' w' hr
        simp only [execOp, e, resolve, eb]
        show Sem.run P (builtin b c.argTypes o.type _ (c.args.map a.eval)) w = _
        rw [hk, Sem.run_bind, hr]; rfl
      simp only [aCall, eb, aBuiltin] at h
      split at h <;> simp only at hk <;> try (exact absurd hk (by decide))
      · split at h
        · rename_i t x et ex
          simp only [Option.map_eq_some_iff] at h
          obtain ⟨v0, h, h0⟩ := h; cases h0
          rw [ex] at hargs
          generalize hq : c.args.toList.map a.eval = q at hargs
          cases hargs with
          | cons hx hn => cases hn
                          rename_i x'
                          have ht0 : c.argTypes[0]? = some t := by rw [← Array.getElem?_toList, et]; rfl
                          obtain ⟨v', h1, h2⟩ := snd_len (P := P) (ty := o.type) (rest := c.argTypes) (args := c.args.map a.eval) w hx h ht0 (by rw [hmap, hq]; rfl)
                          exact opok_value (hres _ (fun _ => rfl) v' w h1) ⟨h2, w.drawn, rfl⟩
        · cases h
      · split at h
        · rename_i x y ex
          simp only [Option.map_eq_some_iff] at h
          obtain ⟨v0, h, h0⟩ := h; cases h0
          rw [ex] at hargs
          generalize hq : c.args.toList.map a.eval = q at hargs
          cases hargs with
          | cons hs ht =>
            cases ht with
            | cons hx hn =>
              cases hn
              rename_i x' y'
              obtain ⟨v', n, h1, h2⟩ := snd_most (P := P) w hs hx h
              refine opok_value (hres _ (fun _ => rfl) v' _ ?_) ⟨h2, n, rfl⟩
              rw [hmap, hq]
              simp only [Builtin.max_, List.foldlM_cons, List.foldlM_nil, Sem.run_bind]
              simp only [if_true] at h1
              rw [h1]; rfl
        · cases h
      · split at h
        · rename_i x y ex
          simp only [Option.map_eq_some_iff] at h
          obtain ⟨v0, h, h0⟩ := h; cases h0
          rw [ex] at hargs
          generalize hq : c.args.toList.map a.eval = q at hargs
          cases hargs with
          | cons hs ht =>
            cases ht with
            | cons hx hn =>
              cases hn
              rename_i x' y'
              obtain ⟨v', n, h1, h2⟩ := snd_most (P := P) w hs hx h
              refine opok_value (hres _ (fun _ => rfl) v' _ ?_) ⟨h2, n, rfl⟩
              rw [hmap, hq]
              simp only [Builtin.min_, List.foldlM_cons, List.foldlM_nil, Sem.run_bind]
              simp only [Bool.false_eq_true, if_false] at h1
              rw [h1]; rfl
        · cases h
    · exact absurd hk (by decide)

end Go.Proofs.Ytnhhdgopgecggaa.Abs
