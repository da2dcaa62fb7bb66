/- The abstract machine: a statement whose order of evaluation is open (5): the theorem's end. No condition. -/
import Derived.Test.YtnhhdgopgecggaaAbsZ
set_option linter.unusedVariables false
set_option linter.unusedSimpArgs false
namespace Go.Proofs.Ytnhhdgopgecggaa.Abs
open Go

def Ren.mix (μ μ' : Ren) (n m : Nat) : Ren := fun b => if n ≤ b ∧ b < m then μ' b else μ b

theorem merge {μ μ' μs : Ren} {Hs X Y Hk : AHeap} {w w' ws : World} (r : Rel μ Hk w) (hs : Hs <+: X) (hX : X <+: Y) (hY : Y <+: Hk) (gap : ∀ b x, μ b = some x → b < X.length ∨ Y.length ≤ b) (r' : Rel μ' Y w') (kp : Keep (μ.cut X.length) X w μ' Y w')
    (ks : Keep μs Hs ws μ Hk w) :
    Rel (μ.mix μ' X.length Y.length) Hk w' ∧ μ.le (μ.mix μ' X.length Y.length) ∧ μ'.le (μ.mix μ' X.length Y.length) ∧ Keep μs Hs ws (μ.mix μ' X.length Y.length) Hk w' := by
  have hXl := hX.length_le
  have hYl := hY.length_le
  have hXk : X <+: Hk := hX.trans hY
  have same : ∀ b, b < X.length → μ' b = μ b := fun b hb => (kp.ren b hb).trans (Ren.cut_lt _ hb)
  have le1 : μ.le (μ.mix μ' X.length Y.length) := fun b x h => by
    unfold Ren.mix
    rw [if_neg]
    · exact h
    · rcases gap b x h with h | h <;> omega
  have le2 : μ'.le (μ.mix μ' X.length Y.length) := fun b x h => by
    have hb := r'.dom b x h
    unfold Ren.mix
    split
    · exact h
    · rw [← same b (by omega)]; exact h
  -- which of the three
  have case3 : ∀ b x, (μ.mix μ' X.length Y.length) b = some x → (b < Y.length ∧ μ' b = some x) ∨ (Y.length ≤ b ∧ μ b = some x) := by
    intro b x h
    unfold Ren.mix at h
    split at h
    · exact .inl ⟨by omega, h⟩
    · rcases gap b x h with h1 | h1
      · exact .inl ⟨by omega, by rw [same b h1]; exact h⟩
      · exact .inr ⟨h1, h⟩
  -- what lies behind stays as it was
  have far : ∀ b c base size, Y.length ≤ b → μ b = some (c, base, size) → Alive Hk b → w'.heap[c]? = w.heap[c]? := by
    intro b c base size hb h ha
    refine kp.blk c (r.lt _ _ _ _ h) fun b0 base0 size0 h0 hu => ?_
    have hb0 : b0 < X.length ∧ μ b0 = some (c, base0, size0) := by
      unfold Ren.cut at h0; split at h0
      · exact ⟨by assumption, h0⟩
      · cases h0
    have ha0 : Alive Hk b0 := ((prefix_ulive hXk hb0.1).2 hu).alive
    have := r.inj b0 b c base0 size0 base size hb0.2 h ha0 ha (.inl ((prefix_ulive hXk hb0.1).2 hu))
    omega
  have uliveY : ∀ b, b < Y.length → Ulive Hk b → Ulive Y b := fun b hb hu => by unfold Ulive at hu ⊢; rw [prefix_get hY hb] at hu; exact hu
  have aliveY : ∀ b, b < Y.length → (Alive Hk b ↔ Alive Y b) := fun b hb => by unfold Alive; rw [prefix_get hY hb]
  refine ⟨⟨?_, ?_, ?_, ?_, ?_, ?_, ?_⟩, le1, le2, ⟨kp.os.trans ks.os, kp.tape.trans ks.tape, kp.output.trans ks.output, Nat.le_trans ks.size kp.size, ?_, ?_, ?_, ks.len, ks.lock, ks.dead, ks.unl⟩⟩
  · intro b x h
    rcases case3 b x h with ⟨h1, _⟩ | ⟨_, h1⟩
    · omega
    · exact r.dom b x h1
  · intro b c base size h
    rcases case3 b _ h with ⟨_, h1⟩ | ⟨_, h1⟩
    · exact r'.lt _ _ _ _ h1
    · exact Nat.lt_of_lt_of_le (r.lt _ _ _ _ h1) kp.size
  · intro b c base size h ha
    rcases case3 b _ h with ⟨hb, h1⟩ | ⟨hb, h1⟩
    · exact r'.tgt b c base size h1 ((aliveY b hb).1 ha)
    · obtain ⟨cells, T, fr, g1, g2⟩ := r.tgt b c base size h1 ha
      exact ⟨cells, T, fr, by rw [far b c base size hb h1 ha]; exact g1, g2⟩
  · intro b c base size lk cs h hH
    rcases case3 b _ h with ⟨hb, h1⟩ | ⟨hb, h1⟩
    · exact r'.fits b c base size lk cs h1 (by rw [← prefix_get hY hb]; exact hH)
    · exact r.fits b c base size lk cs h1 hH
  · intro b c base size lk cs i v h hH hi
    rcases case3 b _ h with ⟨hb, h1⟩ | ⟨hb, h1⟩
    · obtain ⟨v', g1, g2⟩ := r'.cell b c base size lk cs i v h1 (by rw [← prefix_get hY hb]; exact hH) hi
      exact ⟨v', g1, g2.mono le2⟩
    · obtain ⟨v', g1, g2⟩ := r.cell b c base size lk cs i v h1 hH hi
      exact ⟨v', by rw [World.cell?_of_block (far b c base size hb h1 ⟨lk, cs, hH⟩)]; exact g1, g2.mono le1⟩
  · intro b c base size cs h hH i hi
    rcases case3 b _ h with ⟨hb, h1⟩ | ⟨hb, h1⟩
    · exact r'.free b c base size cs h1 (by rw [← prefix_get hY hb]; exact hH) i hi
    · rw [World.frozen?_of_block (far b c base size hb h1 ⟨false, cs, hH⟩)]
      exact r.free b c base size cs h1 hH i hi
  · -- a late one and an early or new one are two
    have cross : ∀ b b' c base size base' size', b < Y.length → μ' b = some (c, base, size) → Y.length ≤ b' → μ b' = some (c, base', size') → Alive Hk b → Alive Hk b' → (Ulive Hk b ∨ Ulive Hk b') → False := by
      intro b b' c base size base' size' hb h hb' h' ha ha' hul
      by_cases hbX : b < X.length
      · have := r.inj b b' c base size base' size' (by rw [← same b hbX]; exact h) h' ha ha' hul
        omega
      · rcases kp.new b c base size (by omega) h with hc | ⟨b0, base0, size0, h0, hu⟩
        · have := r.lt _ _ _ _ h'; omega
        · have hb0 : b0 < X.length ∧ μ b0 = some (c, base0, size0) := by
            unfold Ren.cut at h0; split at h0
            · exact ⟨by assumption, h0⟩
            · cases h0
          have := r.inj b0 b' c base0 size0 base' size' hb0.2 h' ((prefix_ulive hXk hb0.1).2 hu).alive ha' (.inl ((prefix_ulive hXk hb0.1).2 hu))
          omega
    intro b b' c base size base' size' h h' ha ha' hul
    rcases case3 b _ h with ⟨hb, h1⟩ | ⟨hb, h1⟩ <;> rcases case3 b' _ h' with ⟨hb', h1'⟩ | ⟨hb', h1'⟩
    · exact r'.inj b b' c base size base' size' h1 h1' ((aliveY b hb).1 ha) ((aliveY b' hb').1 ha') (hul.imp (uliveY b hb) (uliveY b' hb'))
    · exact (cross b b' c base size base' size' hb h1 hb' h1' ha ha' hul).elim
    · exact (cross b' b c base' size' base size hb' h1' hb h1 ha' ha hul.symm).elim
    · exact r.inj b b' c base size base' size' h1 h1' ha ha' hul
  · intro c hc hn
    rw [kp.blk c (Nat.lt_of_lt_of_le hc ks.size) ?_, ks.blk c hc hn]
    intro b0 base0 size0 h0 hu
    have hb0 : b0 < X.length ∧ μ b0 = some (c, base0, size0) := by
      unfold Ren.cut at h0; split at h0
      · exact ⟨by assumption, h0⟩
      · cases h0
    by_cases hbs : b0 < Hs.length
    · exact hn b0 base0 size0 (by rw [← ks.ren b0 hbs]; exact hb0.2) ((prefix_ulive hs hbs).1 hu)
    · rcases ks.new b0 c base0 size0 (by omega) hb0.2 with h | ⟨b1, base1, size1, h1, hu1⟩
      · omega
      · exact hn b1 base1 size1 h1 hu1
  · intro b hb
    have := hs.length_le
    unfold Ren.mix
    rw [if_neg (by omega)]
    exact ks.ren b hb
  · intro b c base size hb h
    rcases case3 b _ h with ⟨hbY, h1⟩ | ⟨_, h1⟩
    · by_cases hbX : b < X.length
      · exact ks.new b c base size hb (by rw [← same b hbX]; exact h1)
      · rcases kp.new b c base size (by omega) h1 with h | ⟨b0, base0, size0, h0, hu⟩
        · exact .inl (Nat.le_trans ks.size h)
        · have hb0 : b0 < X.length ∧ μ b0 = some (c, base0, size0) := by
            unfold Ren.cut at h0; split at h0
            · exact ⟨by assumption, h0⟩
            · cases h0
          by_cases hbs : b0 < Hs.length
          · exact .inr ⟨b0, base0, size0, by rw [← ks.ren b0 hbs]; exact hb0.2, (prefix_ulive hs hbs).1 hu⟩
          · exact ks.new b0 c base0 size0 (by omega) hb0.2
    · exact ks.new b c base size hb h1

section
variable {gs : List Nat} {P : Program} {G : Env} {ops : Array Oper} {k : Nat} {t : List Value} {H : AHeap} {K : Cont} {T : Nat → List Value} {Hh : Nat → AHeap} {vs : Nat → Value}

/-- One operation, when its turn comes. -/
theorem Inv.go (hG : SoundEnv gs P G) (tr : Trace P G ops ops.toList k t H K T Hh vs) (dk : DrawOK ops) (hk : k = firstE ops.toList) (hkn : k ≤ ops.size) {μs : Ren} {ws : World} {L1 : List Nat} {a : Act} {w : World} {μ : Ren} {q : Nat}
    (inv : Inv gs ops k t H Hh vs μs ws L1 a w μ q) (hlt : ∀ i ∈ L1, i < ops.size) (hcl : ∀ e ∈ L1, ∀ o, ops[e]? = some o → ∀ j ∈ bAfter o, j ∈ L1) {i : Nat} {o : Oper} (ho : ops[i]? = some o) (hi : i ∉ L1) (haf : ∀ j ∈ bAfter o, j ∈ L1)
    (hok : operOK gs o = true) (hw : wantA ops o (T i) = true) : OpOK P o a w (fun v' w' => ∃ μ' q', Inv gs ops k t H Hh vs μs ws (L1 ++ [i]) (a.put o.dst v') w' μ' q') := by
  have hil : i < ops.size := (Array.getElem?_eq_some_iff.1 ho).1
  have hol : ops.toList[i]? = some o := by simpa using ho
  have hopr := inv.operands tr dk hkn hlt hcl ho hi haf hok
  obtain ⟨hav, hpre⟩ : aop P G o.op (ev (T i)) (Hh i) = some (vs i, Hh (i + 1)) ∧ (i < k → Hh i <+: Hh (i + 1)) := by
    rcases (tr.step i o hol).2 with ⟨_, h1, h2⟩ | ⟨h1, _⟩
    · exact ⟨h1, h2⟩
    · rw [hw] at h1; cases h1
  by_cases h0 : kindOf o.op = 0
  · -- it looks at its operands alone
    intro next Q hn
    refine slot_sound h0 hopr hav next Q ?_
    rintro v' w' ⟨hv, n, rfl⟩
    refine hn v' _ ⟨μ, q, inv.same ho dk hi (hv.mono (lvl_mono (lev_mono tr hkn (by omega)))) (inv.rel.drawn n) (inv.keep.trans (Keep.drawn inv.rel n)) fun _ => h0⟩
  · by_cases hik : i < k
    · -- it reads or makes memory
      have hq : q = k := by
        rcases inv.phase with h | ⟨e, p, rfl, he, hke, hp, hp0⟩
        · exact h
        · rcases dk.mem e p hp with h | h | h
          · omega
          · exact absurd h hp0
          · rcases h i (by omega) o ho with h | h
            · exact absurd h h0
            · exact absurd (hcl e he p hp i h) hi
      subst hq
      have hlv : lvl q q μ (lev Hh q i) = μ.cut (Hh i).length := by simp [lvl, lev, Nat.min_eq_left (Nat.le_of_lt hik)]
      rw [hlv] at hopr
      have hpX := tr.pre q (Nat.le_refl _) hkn i (by omega)
      have hpY := tr.pre q (Nat.le_refl _) hkn (i + 1) (by omega)
      have hps : H <+: Hh i := by
        have := tr.pre i (by omega) (by omega) 0 (by omega)
        rwa [tr.H0] at this
      have rcut : Rel (μ.cut (Hh i).length) (Hh i) w := inv.rel.cut hpX fun b x lk cs v h1 h2 h3 h4 => inv.bel rfl i (by omega) b x lk cs v h1 h2 (by rw [prefix_get hpX h2]; exact h3) h4
      have hgl : Glob gs (μ.cut (Hh i).length) := inv.glob.le (Ren.cut_mono μ hps.length_le)
      intro next Q hn
      refine aop_sound hG rcut hgl hopr hav next Q ?_
      rintro v' w' ⟨μ', r', kp, hv⟩
      have gap : ∀ b x, μ b = some x → b < (Hh i).length ∨ (Hh (i + 1)).length ≤ b := by
        intro b x h
        rcases inv.new rfl b x h with h1 | ⟨j, hj, hjk, hb1, hb2⟩
        · exact .inl (Nat.lt_of_lt_of_le h1 hps.length_le)
        · rcases Nat.lt_trichotomy j i with h | h | h
          · left
            exact Nat.lt_of_lt_of_le hb2 (tr.pre i (by omega) (by omega) (j + 1) (by omega)).length_le
          · subst h; exact absurd hj hi
          · right
            exact Nat.le_trans (tr.pre j (by omega) (by omega) (i + 1) (by omega)).length_le hb1
      obtain ⟨r'', le1, le2, ks⟩ := merge inv.rel hps (hpre hik) hpY gap r' kp inv.keep
      refine hn v' w' ⟨μ.mix μ' (Hh i).length (Hh (i + 1)).length, q, ?_⟩
      have hcut : ∀ n, n ≤ (Hh i).length ∨ True → (μ.cut n).le ((μ.mix μ' (Hh i).length (Hh (i + 1)).length).cut n) := by
        intro n _ b x h
        unfold Ren.cut at h ⊢
        split at h
        · rename_i hb; rw [if_pos hb]; exact le1 _ _ h
        · cases h
      have hvnew : VR ((μ.mix μ' (Hh i).length (Hh (i + 1)).length).cut (Hh (i + 1)).length) (vs i) v' := (hv.mono le2).cut (hv.bel r'.dom)
      have hlen1 := (hpre hik).length_le
      -- the slots first
      have inv2 : Inv gs ops q t H Hh vs μs ws L1 a w' (μ.mix μ' (Hh i).length (Hh (i + 1)).length) q ∨ True := .inr trivial
      refine ⟨by rw [put_defers]; exact inv.defers, ?_, ?_, ?_, inv.q0, inv.q1, .inl rfl, ?_, r'', ks, ?_, ?_⟩
      · cases o.dst <;> simp [Act.put, inv.size]
      · intro d x hx
        obtain ⟨c, hc, h⟩ := inv.slot d x hx
        by_cases hd : o.dst = some d
        · refine ⟨v', ?_, .inl ⟨i, o, by simp, ho, hd, ?_⟩⟩
          · have : d < a.tmps.size := (Array.getElem?_eq_some_iff.1 hc).1
            rw [hd]; simp [Act.put, this]
          · simpa [lvl, lev, Nat.min_eq_left (Nat.succ_le_of_lt hik)] using hvnew
        · refine ⟨c, ?_, ?_⟩
          · cases hdd : o.dst with
            | none => simpa [Act.put] using hc
            | some e =>
              have : e ≠ d := fun h => hd (by rw [hdd, h])
              simp [Act.put, Array.getElem?_setIfInBounds, this, hc]
          · rcases h with ⟨j, p, h1, h2, h3, h4⟩ | ⟨h1, h2⟩
            · refine .inl ⟨j, p, by simp [h1], h2, h3, ?_⟩
              simp only [lvl, if_true] at h4 ⊢
              exact h4.mono (hcut _ (.inr trivial))
            · refine .inr ⟨fun j hj p hp => ?_, ?_⟩
              · rcases List.mem_append.1 hj with hj | hj
                · exact h1 j hj p hp
                · simp at hj; subst hj
                  rw [ho] at hp; cases hp; exact hd
              · simp only [lvl, if_true] at h2 ⊢
                exact h2.mono (hcut _ (.inr trivial))
      · exact inv.glob.le (hcut _ (.inr trivial))
      · intro j hj p hp hqj
        rcases List.mem_append.1 hj with hj | hj
        · exact inv.late j hj p hp hqj
        · simp at hj; omega
      · intro _ j hj b x lk cs v hb hbl hH hv'
        unfold Ren.mix at hb
        split at hb
        · rename_i hbr
          have hij : i + 1 ≤ j := by
            apply Classical.byContradiction
            intro hn'
            have := (tr.pre i (by omega) (by omega) j (by omega)).length_le
            omega
          have hHY : (Hh (i + 1))[b]? = some (.live lk cs) := by rw [← prefix_get hpY hbr.2]; exact hH
          obtain ⟨n, hn1⟩ := List.getElem?_of_mem hv'
          obtain ⟨c, base, size⟩ := x
          obtain ⟨u', _, g2⟩ := r'.cell b c base size lk cs n v hb hHY hn1
          exact g2.bel fun b' x' h' => Nat.lt_of_lt_of_le (r'.dom b' x' h') (tr.pre j hj (by omega) (i + 1) hij).length_le
        · exact inv.bel rfl j hj b x lk cs v hb hbl hH hv'
      · intro _ b x hb
        unfold Ren.mix at hb
        split at hb
        · rename_i hbr
          exact .inr ⟨i, by simp, hik, hbr.1, hbr.2⟩
        · rcases inv.new rfl b x hb with h | ⟨j, h1, h2⟩
          · exact .inl h
          · exact .inr ⟨j, by simp [h1], h2⟩
    · -- it stands behind the first write
      have hqi : q ≤ i := by
        rcases inv.phase with h | ⟨e, p, rfl, he, hke, hp, hp0⟩
        · omega
        · have hne : e ≠ i := fun h => hi (h ▸ he)
          apply Classical.byContradiction
          intro hlt'
          rcases dk.mem e p hp with h | h | h
          · omega
          · exact hp0 h
          · rcases h i (by omega) o ho with h | h
            · exact h0 h
            · exact hi (hcl e he p hp i h)
      have hHq : Hh q = Hh i := by
        refine tr.slots i (by omega) q hqi fun j hj1 hj2 p hp => ?_
        apply Classical.byContradiction
        intro hp0
        rcases dk.mem i o ho with h | h | h
        · omega
        · exact h0 h
        · rcases h j hj2 p hp with h | h
          · exact hp0 h
          · exact hp0 (inv.late j (haf j h) p hp hj1)
      have rel := inv.rel
      have keep := inv.keep
      rw [hHq] at rel keep
      have hgl : Glob gs μ := inv.glob.le (Ren.cut_le μ _)
      intro next Q hn
      refine aop_sound hG rel hgl (fun x hx => (hopr x hx).mono lvl_le) hav next Q ?_
      rintro v' w' ⟨μ', r', kp, hv⟩
      have hle := kp.le rel
      have hlv : ∀ n, lvl k (i + 1) μ' n = μ' := fun n => by unfold lvl; rw [if_neg (by omega)]
      refine hn v' w' ⟨μ', i + 1, ⟨by rw [put_defers]; exact inv.defers, ?_, ?_, ?_, by omega, by omega, .inr ⟨i, o, rfl, by simp, by omega, ho, h0⟩, ?_, r', keep.trans kp, fun h => by omega, fun h => by omega⟩⟩
      · cases o.dst <;> simp [Act.put, inv.size]
      · intro d x hx
        obtain ⟨c, hc, h⟩ := inv.slot d x hx
        by_cases hd : o.dst = some d
        · refine ⟨v', ?_, .inl ⟨i, o, by simp, ho, hd, by rw [hlv]; exact hv⟩⟩
          have : d < a.tmps.size := (Array.getElem?_eq_some_iff.1 hc).1
          rw [hd]; simp [Act.put, this]
        · refine ⟨c, ?_, ?_⟩
          · cases hdd : o.dst with
            | none => simpa [Act.put] using hc
            | some e =>
              have : e ≠ d := fun h => hd (by rw [hdd, h])
              simp [Act.put, Array.getElem?_setIfInBounds, this, hc]
          · rcases h with ⟨j, p, h1, h2, h3, h4⟩ | ⟨h1, h2⟩
            · exact .inl ⟨j, p, by simp [h1], h2, h3, by rw [hlv]; exact (h4.mono lvl_le).mono hle⟩
            · refine .inr ⟨fun j hj p hp => ?_, by rw [hlv]; exact (h2.mono lvl_le).mono hle⟩
              rcases List.mem_append.1 hj with hj | hj
              · exact h1 j hj p hp
              · simp at hj; subst hj
                rw [ho] at hp; cases hp; exact hd
      · intro g hg
        obtain ⟨size, h⟩ := inv.glob g hg
        refine ⟨size, ?_⟩
        unfold Ren.cut at h ⊢
        split at h
        · rename_i hb; rw [if_pos hb]; exact hle _ _ h
        · cases h
      · intro j hj p hp hqj
        rcases List.mem_append.1 hj with hj | hj
        · exact inv.late j hj p hp (by omega)
        · simp at hj; omega

end

end Go.Proofs.Ytnhhdgopgecggaa.Abs
