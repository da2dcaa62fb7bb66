/- The abstract machine: 'W' tells what a function's code does to abstract values and memory; what it tells holds of the model. No condition. -/
import Derived.Test.YtnhhdgopgecggaaAbsZa
set_option linter.unusedVariables false
set_option linter.unusedSimpArgs false
namespace Go.Proofs.Ytnhhdgopgecggaa.Abs
open Go

/-! ### A statement whose order is open -/
def drawOps (P : Program) (G : Env) (ops : Array Oper) (K : Cont) (t : List Value) (H : AHeap) : Prop :=
  drawB ops = true ∧ runDraw P G ops (firstE ops.toList) ops.toList K t H

theorem firstE_le (l : List Oper) : firstE l ≤ l.length := List.findIdx_le_length

theorem drawOps_sound {gs : List Nat} {P : Program} {G : Env} (hG : SoundEnv gs P G) {ops : Array Oper} (hok : ops.toList.all (operOK gs) = true) {Q : Exit → Act → World → Prop} {K : Cont} {μ0 : Ren} {H0 : AHeap} {w0 : World} (hQ : ∀ a w, At gs μ0 H0 w0 K a w → Q .normal a w)
    {t : List Value} {H : AHeap} (h : drawOps P G ops K t H) {L : List Nat} (hL : Topo ops L) {a : Act} {w : World} {μ : Ren} (hd : a.defers = []) (ht : VRL μ t a.tmps.toList) (r : Rel μ H w) (hg : Glob gs μ) (k0 : Keep μ0 H0 w0 μ H w) :
    wpOps P ops Q L a w := by
  obtain ⟨hb, hrun⟩ := h
  have dk := drawOK_of hb
  obtain ⟨T, Hh, vs, tr⟩ := trace_of_runDraw _ _ _ _ hrun
  have hkn : firstE ops.toList ≤ ops.size := by simpa using firstE_le ops.toList
  have main : ∀ (L2 L1 : List Nat) (a' : Act) (w' : World) (μ' : Ren) (q : Nat), L = L1 ++ L2 → Inv gs ops (firstE ops.toList) t H Hh vs μ w L1 a' w' μ' q → wpOps P ops Q L2 a' w' := by
    intro L2
    induction L2 with
    | nil =>
      intro L1 a' w' μ' q he inv
      rw [List.append_nil] at he
      subst he
      unfold wpOps
      refine hQ a' w' ⟨T ops.size, Hh ops.size, μ', ?_, inv.defers, ?_, ?_, ?_, ?_⟩
      · have := tr.fin; simpa using this
      · refine VRL.of_get (by rw [tr.len _ (Nat.le_refl _)]; simpa using inv.size.symm) fun d x hx => ?_
        have hdl : d < t.length := by
          have := (List.getElem?_eq_some_iff.1 hx).1
          rwa [tr.len _ (Nat.le_refl _)] at this
        obtain ⟨c, hc, h⟩ := inv.slot d t[d] (List.getElem?_eq_getElem hdl)
        refine ⟨c, by simpa using hc, ?_⟩
        rcases h with ⟨j, p, hj, hp, hpd, hv⟩ | ⟨hno, hv⟩
        · rw [tr.written dk hp hpd hdl _ (Nat.le_refl _) (hL.lt j hj)] at hx; cases hx
          exact hv.mono lvl_le
        · rw [tr.kept d _ (Nat.le_refl _) fun j hj p hp => hno j (hL.all j hj) p hp, List.getElem?_eq_getElem hdl] at hx; cases hx
          exact hv.mono lvl_le
      · have hHq : Hh q = Hh ops.size := tr.slots _ (Nat.le_refl _) q inv.q1 fun j hj1 hj2 p hp => inv.late j (hL.all j hj2) p hp hj1
        rw [← hHq]; exact inv.rel
      · exact inv.glob.le (Ren.cut_le μ' _)
      · have hHq : Hh q = Hh ops.size := tr.slots _ (Nat.le_refl _) q inv.q1 fun j hj1 hj2 p hp => inv.late j (hL.all j hj2) p hp hj1
        rw [← hHq]; exact k0.trans inv.keep
    | cons i L2 ih =>
      intro L1 a' w' μ' q he inv
      have hi : i ∉ L1 := by
        have := hL.nodup
        rw [he, List.nodup_append] at this
        intro hi1
        exact this.2.2 i hi1 i (by simp) rfl
      have hil : i < ops.size := hL.lt i (by rw [he]; simp)
      have ho : ops[i]? = some (ops[i]'hil) := by simp [hil]
      have hol : ops.toList[i]? = some (ops[i]'hil) := by simp [hil]
      have hlt : ∀ j ∈ L1, j < ops.size := fun j hj => hL.lt j (by rw [he]; simp [hj])
      have haf := hL.after L1 i L2 he _ ho
      have hcl : ∀ e ∈ L1, ∀ o, ops[e]? = some o → ∀ j ∈ bAfter o, j ∈ L1 := by
        intro e hee o hoe j hj
        obtain ⟨A, B, rfl⟩ := List.append_of_mem hee
        have := hL.after A e (B ++ i :: L2) (by rw [he]; simp) o hoe j hj
        simp [this]
      have hoko : operOK gs (ops[i]'hil) = true := (List.all_eq_true.1 hok) _ (by simp)
      unfold wpOps
      simp only [ho]
      rw [inv.want tr dk hkn hlt hcl ho hi haf]
      have hnext : L = (L1 ++ [i]) ++ L2 := by rw [he]; simp
      split
      · rename_i hw
        left
        refine inv.go hG tr dk rfl hkn hlt hcl ho hi haf hoko hw _ _ ?_
        rintro v' w'' ⟨μ'', q', inv'⟩
        exact ih (L1 ++ [i]) _ _ _ _ hnext inv'
      · rename_i hw
        have hw' : wantA ops (ops[i]'hil) (T i) = false := by simpa using hw
        have hvs : vs i = Go.undef := by
          rcases (tr.step i _ hol).2 with ⟨h1, _⟩ | ⟨_, h2, _⟩
          · rw [hw'] at h1; cases h1
          · exact h2
        by_cases h0 : kindOf (ops[i]'hil).op = 0
        · exact ih (L1 ++ [i]) _ _ _ _ hnext (inv.same ho dk hi (by rw [hvs]; exact VR.undef _) inv.rel inv.keep fun _ => h0)
        · -- an operation that is passed over changes no memory
          by_cases hqi : q ≤ i
          · have hHi : Hh (i + 1) = Hh i := by
              rcases (tr.step i _ hol).2 with ⟨h1, _⟩ | ⟨_, _, h3⟩
              · rw [hw'] at h1; cases h1
              · exact h3
            by_cases hik : i < firstE ops.toList
            · have := inv.q0; omega
            · have hHq : Hh q = Hh i := by
                refine tr.slots i (by omega) q hqi fun j hj1 hj2 p hp => ?_
                apply Classical.byContradiction
                intro hp0
                rcases dk.mem i _ ho with h | h | h
                · omega
                · exact h0 h
                · rcases h j hj2 p hp with h | h
                  · exact hp0 h
                  · exact hp0 (inv.late j (haf j h) p hp hj1)
              have rel := inv.rel
              have keep := inv.keep
              rw [hHq, ← hHi] at rel keep
              have hlv : ∀ n, lvl (firstE ops.toList) (i + 1) μ' n = μ' := fun n => by unfold lvl; rw [if_neg (by omega)]
              refine ih (L1 ++ [i]) _ _ μ' (i + 1) hnext ⟨by rw [put_defers]; exact inv.defers, ?_, ?_, inv.glob, by omega, by omega, .inr ⟨i, _, rfl, by simp, by omega, ho, h0⟩, ?_, rel, keep, fun h => by omega, fun h => by omega⟩
              · cases (ops[i]'hil).dst <;> simp [Act.put, inv.size]
              · intro d x hx
                obtain ⟨c, hc, h⟩ := inv.slot d x hx
                by_cases hd : (ops[i]'hil).dst = some d
                · refine ⟨Go.undef, ?_, .inl ⟨i, _, by simp, ho, hd, by rw [hvs]; exact VR.undef _⟩⟩
                  have : d < a'.tmps.size := (Array.getElem?_eq_some_iff.1 hc).1
                  rw [hd]; simp [Act.put, this]
                · refine ⟨c, ?_, ?_⟩
                  · cases hdd : (ops[i]'hil).dst with
                    | none => simpa [Act.put] using hc
                    | some e =>
                      have : e ≠ d := fun h => hd (by rw [hdd, h])
                      simp [Act.put, Array.getElem?_setIfInBounds, this, hc]
                  · rcases h with ⟨j, p, h1, h2, h3, h4⟩ | ⟨h1, h2⟩
                    · exact .inl ⟨j, p, by simp [h1], h2, h3, by rw [hlv]; exact h4.mono lvl_le⟩
                    · refine .inr ⟨fun j hj p hp => ?_, by rw [hlv]; exact h2.mono lvl_le⟩
                      rcases List.mem_append.1 hj with hj | hj
                      · exact h1 j hj p hp
                      · simp at hj; subst hj
                        rw [ho] at hp; cases hp; exact hd
              · intro j hj p hp hqj
                rcases List.mem_append.1 hj with hj | hj
                · exact inv.late j hj p hp (by omega)
                · simp at hj; omega
          · exact ih (L1 ++ [i]) _ _ _ _ hnext (inv.same ho dk hi (by rw [hvs]; exact VR.undef _) inv.rel inv.keep fun h => absurd h hqi)
  refine main L [] a w μ (firstE ops.toList) rfl ⟨hd, ?_, ?_, ?_, Nat.le_refl _, hkn, .inl rfl, by simp, ?_, ?_, ?_, ?_⟩
  · simpa using ht.length.symm
  · intro d x hx
    obtain ⟨c, hc, hv⟩ := ht.get hx
    refine ⟨c, by simpa using hc, .inr ⟨by simp, ?_⟩⟩
    simp only [lvl, lev, if_true, Nat.zero_min, tr.H0]
    exact hv.cut (hv.bel r.dom)
  · intro g hgm
    obtain ⟨size, h⟩ := hg g hgm
    exact ⟨size, by rw [Ren.cut_lt _ (r.dom g _ h)]; exact h⟩
  all_goals
    have hp := tr.pre _ (Nat.le_refl _) hkn 0 (Nat.zero_le _)
    rw [tr.H0] at hp
  · have up : ∀ b, b < H.length → (Hh (firstE ops.toList))[b]? = H[b]? := fun b hb => prefix_get hp hb
    have aup : ∀ b, b < H.length → Alive (Hh (firstE ops.toList)) b → Alive H b := fun b hb ha => by unfold Alive at ha ⊢; rw [up b hb] at ha; exact ha
    have uup : ∀ b, b < H.length → Ulive (Hh (firstE ops.toList)) b → Ulive H b := fun b hb ha => by unfold Ulive at ha ⊢; rw [up b hb] at ha; exact ha
    refine ⟨fun b x h => Nat.lt_of_lt_of_le (r.dom b x h) hp.length_le, r.lt, ?_, ?_, ?_, ?_, ?_⟩
    · intro b c base size h ha; exact r.tgt b c base size h (aup b (r.dom b _ h) ha)
    · intro b c base size lk cs h hH; exact r.fits b c base size lk cs h (by rw [← up b (r.dom b _ h)]; exact hH)
    · intro b c base size lk cs i v h hH hi; exact r.cell b c base size lk cs i v h (by rw [← up b (r.dom b _ h)]; exact hH) hi
    · intro b c base size cs h hH i hi; exact r.free b c base size cs h (by rw [← up b (r.dom b _ h)]; exact hH) i hi
    · intro b b' c base size base' size' h h' ha ha' hu; exact r.inj b b' c base size base' size' h h' (aup b (r.dom b _ h) ha) (aup b' (r.dom b' _ h') ha') (hu.imp (uup b (r.dom b _ h)) (uup b' (r.dom b' _ h')))
  · refine ⟨rfl, rfl, rfl, Nat.le_refl _, fun _ _ _ => rfl, fun _ _ => rfl, fun b c base size hb h => absurd (r.dom b _ h) (by omega), hp.length_le, ?_, ?_, ?_⟩
    · intro b cs h; rw [prefix_get hp (List.getElem?_eq_some_iff.1 h).1]; exact h
    · intro b h; rw [prefix_get hp (List.getElem?_eq_some_iff.1 h).1]; exact h
    · intro b cs hb h; rw [prefix_get hp hb] at h; exact h
  · intro _ i hi b x lk cs v hb hbl hH hv
    have hbH := r.dom b x hb
    rw [prefix_get hp hbH] at hH
    obtain ⟨n, hn⟩ := List.getElem?_of_mem hv
    obtain ⟨c, base, size⟩ := x
    obtain ⟨u', _, g2⟩ := r.cell b c base size lk cs n v hb hH hn
    have hpi := tr.pre i hi (by omega) 0 (Nat.zero_le _)
    rw [tr.H0] at hpi
    exact g2.bel fun b' x' h' => Nat.lt_of_lt_of_le (r.dom b' x' h') hpi.length_le
  · intro _ b x hb; exact .inl (r.dom b x hb)

/-! ### Statements -/
def thenQ (K : Cont) (Q : Post) : Post
  | .normal, t, H => K t H
  | e, t, H => Q e t H
def inBlockQ (id : Nat) (Q : Post) : Post
  | .exit id', t, H => if id' = id then Q .normal t H else Q (.exit id') t H
  | e, t, H => Q e t H
def loopN (step : Post → Cont) (Q : Post) : Nat → Cont
  | 0 => fun _ _ => False
  | n + 1 => step (thenQ (loopN step Q n) Q)

/-- What a statement does: where it has been carried out, 'Q' holds of how it ended, of the slots and of the memory. -/
def W (P : Program) (G : Env) : Code → Post → Cont
  | .skip, Q => Q .normal
  | .label _, Q => Q .normal
  | .region _ ops d, Q => match d with
    | false => runOps P G ops ops.toList (Q .normal)
    | true => drawOps P G ops (Q .normal)
  | .seq a b, Q => W P G a (thenQ (W P G b Q) Q)
  | .cond c x y, Q => fun t H => match ev t c with
    | .bool true => W P G x Q t H
    | .bool false => W P G y Q t H
    | _ => False
  | .block id c, Q => W P G c (inBlockQ id Q)
  | .loop c, Q => fun t H => ∃ n, loopN (W P G c) Q n t H
  | .exit id, Q => Q (.exit id)
  | .ret, Q => Q .ret
  | _, _ => fun _ _ => False

/-- A statement without addresses among its constants. -/
def codeOK (gs : List Nat) : Code → Bool
  | .region _ ops _ => ops.toList.all (operOK gs)
  | .seq a b => codeOK gs a && codeOK gs b
  | .cond c x y => opnd gs c && codeOK gs x && codeOK gs y
  | .block _ c => codeOK gs c
  | .loop c => codeOK gs c
  | _ => true

theorem W_sound {gs : List Nat} {P : Program} {G : Env} (hG : SoundEnv gs P G) (hmix : P.follows .mixedOrders = true) : ∀ (c : Code), codeOK gs c = true → ∀ (Qa : Post) (Q : Exit → Act → World → Prop) (μ0 : Ren) (H0 : AHeap) (w0 : World),
    (∀ e a w, At gs μ0 H0 w0 (Qa e) a w → Q e a w) → ∀ a w, At gs μ0 H0 w0 (W P G c Qa) a w → c.wp P Q a w := by
  intro c
  induction c with
  | skip => intro _ Qa Q μ0 H0 w0 hQ a w h; exact wp_skip (hQ .normal a w h)
  | label l => intro _ Qa Q μ0 H0 w0 hQ a w h; exact wp_label (hQ .normal a w h)
  | ret => intro _ Qa Q μ0 H0 w0 hQ a w h; exact wp_ret (hQ .ret a w h)
  | exit id => intro _ Qa Q μ0 H0 w0 hQ a w h; exact wp_exit (hQ (.exit id) a w h)
  | region id ops d =>
    intro hok Qa Q μ0 H0 w0 hQ a w h
    obtain ⟨t, H, μ, h, hd, ht, r, hg, k⟩ := h
    cases d with
    | false => exact wp_region_list (runOps_sound hG ops (fun a w ha => hQ .normal a w ha) ops.toList hok t H a w μ h hd ht r hg k)
    | true =>
      refine wp_region_draw fun tp => ?_
      rw [hmix]
      have h' : drawOps P G ops (Qa .normal) t H := h
      exact drawOps_sound hG hok (fun a w ha => hQ .normal a w ha) h' (schedule_topo ops (drawOK_of h'.1).back tp) hd ht (r.drawn _) hg (k.trans (Keep.drawn r _))
  | seq x y ihx ihy =>
    intro hok Qa Q μ0 H0 w0 hQ a w h
    simp only [codeOK, Bool.and_eq_true] at hok
    refine wp_seq (ihx hok.1 (thenQ (W P G y Qa) Qa) _ μ0 H0 w0 ?_ a w h)
    intro e a w ha
    cases e with
    | normal => exact ihy hok.2 Qa Q μ0 H0 w0 hQ a w ha
    | exit id => exact hQ _ a w ha
    | goto l => exact hQ _ a w ha
    | ret => exact hQ _ a w ha
    | panic c => exact hQ _ a w ha
    | outgrown => exact hQ _ a w ha
  | cond c x y ihx ihy =>
    intro hok Qa Q μ0 H0 w0 hQ a w h
    simp only [codeOK, Bool.and_eq_true] at hok
    obtain ⟨t, H, μ, h, hd, ht, r, hg, k⟩ := h
    have hc := ev_rel hg ht c hok.1.1
    simp only [W] at h
    split at h
    · rename_i e
      rw [e] at hc
      generalize hz : a.eval c = z at hc
      cases hc
      exact wp_cond_true hz (ihx hok.1.2 Qa Q μ0 H0 w0 hQ a w ⟨t, H, μ, h, hd, ht, r, hg, k⟩)
    · rename_i e
      rw [e] at hc
      generalize hz : a.eval c = z at hc
      cases hc
      exact wp_cond_false hz (ihy hok.2 Qa Q μ0 H0 w0 hQ a w ⟨t, H, μ, h, hd, ht, r, hg, k⟩)
    · exact h.elim
  | block id c ih =>
    intro hok Qa Q μ0 H0 w0 hQ a w h
    refine wp_block (ih hok (inBlockQ id Qa) _ μ0 H0 w0 ?_ a w h)
    intro e a w ha
    cases e with
    | exit id' =>
      show (if id' = id then Q .normal a w else Q (.exit id') a w)
      by_cases e : id' = id
      · rw [if_pos e]
        refine hQ .normal a w ?_
        simpa [At, inBlockQ, e] using ha
      · rw [if_neg e]
        refine hQ _ a w ?_
        simpa [At, inBlockQ, e] using ha
    | normal => exact hQ _ a w ha
    | goto l => exact hQ _ a w ha
    | ret => exact hQ _ a w ha
    | panic c => exact hQ _ a w ha
    | outgrown => exact hQ _ a w ha
  | loop c ih =>
    intro hok Qa Q μ0 H0 w0 hQ a w h
    obtain ⟨t, H, μ, ⟨n, h⟩, hd, ht, r, hg, k⟩ := h
    refine wp_loop_rounds n ?_
    have main : ∀ n a w, At gs μ0 H0 w0 (loopN (W P G c) Qa n) a w → Code.rounds P c Q n a w := by
      intro n
      induction n with
      | zero =>
        intro a w ha
        obtain ⟨_, _, _, h, _⟩ := ha
        exact h.elim
      | succ n ihn =>
        intro a w ha
        refine ih hok (thenQ (loopN (W P G c) Qa n) Qa) _ μ0 H0 w0 ?_ a w ha
        intro e a w ha
        cases e with
        | normal => exact ihn a w ha
        | exit id => exact hQ _ a w ha
        | goto l => exact hQ _ a w ha
        | ret => exact hQ _ a w ha
        | panic c => exact hQ _ a w ha
        | outgrown => exact hQ _ a w ha
    exact main n a w ⟨t, H, μ, h, hd, ht, r, hg, k⟩
  | rangeFunc f ps as body ih1 ih2 => intro _ Qa Q μ0 H0 w0 hQ a w h; obtain ⟨_, _, _, h, _⟩ := h; exact h.elim
  | scope c ih => intro _ Qa Q μ0 H0 w0 hQ a w h; obtain ⟨_, _, _, h, _⟩ := h; exact h.elim
  | goto l => intro _ Qa Q μ0 H0 w0 hQ a w h; obtain ⟨_, _, _, h, _⟩ := h; exact h.elim
  | refuse s => intro _ Qa Q μ0 H0 w0 hQ a w h; obtain ⟨_, _, _, h, _⟩ := h; exact h.elim

end Go.Proofs.Ytnhhdgopgecggaa.Abs
