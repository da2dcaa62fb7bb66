/- The abstract machine: a statement whose order of evaluation is open. In whatever order its operations are carried out, the outcome is that of the order of the text, where a check of the statement's text says yes. No condition. -/
import Derived.Test.YtnhhdgopgecggaaAbsU
set_option linter.unusedVariables false
set_option linter.unusedSimpArgs false
namespace Go.Proofs.Ytnhhdgopgecggaa.Abs
open Go

/-! ### The orders that may be drawn -/
def bAfter (o : Oper) : List Nat := (o.after.toList.filter (Region.binds .any)).map (·.on)

structure Topo (ops : Array Oper) (L : List Nat) : Prop where
  nodup : L.Nodup
  lt : ∀ i ∈ L, i < ops.size
  all : ∀ i, i < ops.size → i ∈ L
  after : ∀ L1 i L2, L = L1 ++ i :: L2 → ∀ o, ops[i]? = some o → ∀ j ∈ bAfter o, j ∈ L1

theorem min_unlisted (n : Nat) (p : Nat → Bool) (h : ∃ i, i < n ∧ p i = false) : ∃ i, i < n ∧ p i = false ∧ ∀ j, j < i → p j = true := by
  obtain ⟨i, hi, hp⟩ := h
  induction i using Nat.strongRecOn with
  | _ i ih =>
    by_cases hx : ∃ j, j < i ∧ p j = false
    · obtain ⟨j, hj, hpj⟩ := hx
      exact ih j hj (by omega) hpj
    · exact ⟨i, hi, hp, fun j hj => by
        cases hpj : p j with
        | true => rfl
        | false => exact absurd ⟨j, hj, hpj⟩ hx⟩

theorem linearise_go (ops : Array Oper) (hback : ∀ (i : Nat) o, ops[i]? = some o → ∀ j ∈ bAfter o, j < i) :
    ∀ (fuel t : Nat) (listed : Array Bool) (acc : List Nat), listed.size = ops.size → fuel + acc.length = ops.size → acc.Nodup → (∀ i, i < ops.size → (listed.getD i false = true ↔ i ∈ acc)) → (∀ i ∈ acc, i < ops.size) →
    (∀ A i B, acc = A ++ i :: B → ∀ o, ops[i]? = some o → ∀ j ∈ bAfter o, j ∈ B) →
    Topo ops (Region.linearise.go .any ops fuel t listed acc) := by
  intro fuel
  induction fuel with
  | zero =>
    intro t listed acc hs hl hn hm hlt haf
    simp only [Region.linearise.go]
    have hall : ∀ i, i < ops.size → i ∈ acc := by
      intro i hi
      by_cases hia : i ∈ acc
      · exact hia
      · have hsub : (i :: acc) ⊆ List.range ops.size := fun x hx => by
          rcases List.mem_cons.1 hx with rfl | hx
          · exact List.mem_range.2 hi
          · exact List.mem_range.2 (hlt x hx)
        have := List.Nodup.length_le_of_subset (List.nodup_cons.2 ⟨hia, hn⟩) hsub
        simp at this; omega
    refine ⟨List.pairwise_reverse.2 (hn.imp fun h => Ne.symm h), fun i hi => hlt i (by simpa using hi), fun i hi => by simpa using hall i hi, ?_⟩
    intro L1 i L2 he o ho j hj
    have : acc = L2.reverse ++ i :: L1.reverse := by
      have := congrArg List.reverse he
      simpa using this
    simpa using haf _ _ _ this o ho j hj
  | succ fuel ih =>
    intro t listed acc hs hl hn hm hlt haf
    simp only [Region.linearise.go]
    -- some operation is ready
    have hun : ∃ i, i < ops.size ∧ listed.getD i false = false := by
      apply Classical.byContradiction
      intro hno
      have hall : ∀ i, i < ops.size → i ∈ acc := by
        intro i hi
        refine (hm i hi).1 ?_
        cases h : listed.getD i false with
        | true => rfl
        | false => exact absurd ⟨i, hi, h⟩ hno
      have hsub : List.range ops.size ⊆ acc := fun x hx => hall x (List.mem_range.1 hx)
      have := List.Nodup.length_le_of_subset List.nodup_range hsub
      simp at this; omega
    obtain ⟨m, hmlt, hmf, hmin⟩ := min_unlisted ops.size (fun i => listed.getD i false) hun
    generalize hrs : (List.range ops.size).filter (fun i => !listed.getD i true && ((ops[i]?).map (·.after.all fun e => !Region.binds .any e || listed.getD e.on false)).getD false) = rs
    have hready : m ∈ rs := by
      rw [← hrs, List.mem_filter]
      refine ⟨List.mem_range.2 hmlt, ?_⟩
      have h1 : listed.getD m true = false := by
        have hms : m < listed.size := by omega
        simp only [Array.getD, hms, dite_true] at hmf ⊢; exact hmf
      rw [h1]
      have ho : ops[m]? = some ops[m] := by simp [hmlt]
      rw [ho]
      simp only [Bool.not_false, Bool.true_and, Option.map_some, Option.getD_some, Array.all_eq_true']
      intro e he
      cases hb : Region.binds .any e with
      | false => rfl
      | true =>
        have hj : e.on ∈ bAfter ops[m] := by
          simp only [bAfter, List.mem_map, List.mem_filter]
          exact ⟨e, ⟨by simpa using he, hb⟩, rfl⟩
        simpa using hmin e.on (hback m _ ho _ hj)
    have hlen : 0 < rs.length := List.length_pos_of_mem hready
    have hidx : t % rs.length < rs.length := Nat.mod_lt _ hlen
    rw [List.getElem?_eq_getElem hidx]
    simp only []
    have hin : rs[t % rs.length] ∈ rs := List.getElem_mem hidx
    generalize rs[t % rs.length] = i at hin
    rw [← hrs, List.mem_filter] at hin
    obtain ⟨hi1, hi2⟩ := hin
    have hilt : i < ops.size := List.mem_range.1 hi1
    simp only [Bool.and_eq_true, Bool.not_eq_true'] at hi2
    have hnot : i ∉ acc := by
      intro hia
      have := (hm i hilt).2 hia
      have hms : i < listed.size := by omega
      simp only [Array.getD, hms, dite_true] at this hi2
      rw [this] at hi2; exact absurd hi2.1 (by simp)
    refine ih _ _ _ (by simpa using hs) (by simp; omega) (List.nodup_cons.2 ⟨hnot, hn⟩) ?_ ?_ ?_
    · intro j hj
      by_cases hij : i = j
      · subst hij; simp [Array.getD_eq_getD_getElem?, show i < listed.size by omega]
      · rw [List.mem_cons]
        have : (listed.setIfInBounds i true).getD j false = listed.getD j false := by
          simp [Array.getD_eq_getD_getElem?, Array.getElem?_setIfInBounds, hij]
        rw [this, hm j hj]
        constructor
        · exact .inr
        · rintro (h | h)
          · exact absurd h.symm hij
          · exact h
    · intro j hj
      rcases List.mem_cons.1 hj with rfl | hj
      · exact hilt
      · exact hlt j hj
    · intro A i' B he o ho j hj
      cases A with
      | nil =>
        simp only [List.nil_append, List.cons.injEq] at he
        obtain ⟨rfl, rfl⟩ := he
        have h2 := hi2.2
        rw [ho] at h2
        simp only [Option.map_some, Option.getD_some, Array.all_eq_true'] at h2
        simp only [bAfter, List.mem_map, List.mem_filter] at hj
        obtain ⟨e, ⟨he1, he2⟩, rfl⟩ := hj
        have h3 := h2 e (by simpa using he1)
        rw [he2] at h3
        have h4 : listed.getD e.on false = true := by simpa using h3
        have h5 : e.on < ops.size := by
          by_cases h : e.on < ops.size
          · exact h
          · simp [Array.getD, show ¬ e.on < listed.size by omega] at h4
        exact (hm _ h5).1 h4
      | cons x A =>
        simp only [List.cons_append, List.cons.injEq] at he
        exact haf A i' B he.2 o ho j hj

theorem schedule_topo (ops : Array Oper) (hback : ∀ (i : Nat) o, ops[i]? = some o → ∀ j ∈ bAfter o, j < i) (t : Nat) : Topo ops (Region.schedule true ops t) := by
  simp only [Region.schedule, Bool.true_or, if_true, Region.linearise]
  refine linearise_go ops hback ops.size t _ [] (by simp) (by simp) List.nodup_nil ?_ (by simp) (by simp)
  intro i hi
  simp [Array.getD_eq_getD_getElem?, hi]

end Go.Proofs.Ytnhhdgopgecggaa.Abs
