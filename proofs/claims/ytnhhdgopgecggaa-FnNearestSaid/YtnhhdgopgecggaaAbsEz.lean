/- The abstract machine: the rules in one bundle, and how an outcome is told without what nobody looks at. No condition. -/
import Derived.Test.YtnhhdgopgecggaaAbsEy
set_option linter.unusedVariables false
set_option linter.unusedSimpArgs false
namespace Go.Proofs.Ytnhhdgopgecggaa.Abs
open Go

/-! ### The bundle -/
theorem exA (P : Program) (G : Env) : type_of% (And.intro (X_seq P G) <| And.intro (X_skip P G) <| And.intro (X_label P G) <| And.intro (X_ret P G) <| And.intro (X_exit P G) <| And.intro (X_block P G) <| And.intro (X_cond P G) <| And.intro (X_region P G) <| And.intro (X_draw P G) <| And.intro (runOps_nil P G) <| And.intro (runOps_some P G) <| And.intro (runOps_none P G) <| And.intro (runOps_gsome P G) <| And.intro (runOps_gnone P G) <| And.intro (runD_nil P G) <| And.intro (runD_some P G) <| And.intro (runD_none P G) <| And.intro (runD_gsome P G) <| And.intro (aop_move P G) <| And.intro (aop_assign P G) <| And.intro (aop_pick P G) <| And.intro (aop_alloc P G) <| And.intro (aop_box P G) <| And.intro (aop_build P G) <| And.intro (aop_buildSlice P G) <| And.intro (aop_load P G) <| And.intro (aop_store P G) <| And.intro (aop_nilCheck P G) <| And.intro (aop_binOp P G) <| And.intro (aop_unOp P G) <| And.intro (aop_convert P G) <| And.intro (aop_makeFunc P G) <| And.intro (aop_makeSlice P G) <| And.intro (aop_slice P G) <| And.intro (aop_fieldAddr P G) <| And.intro (aop_field P G) <| And.intro (aop_indexAddr P G) <| And.intro (aop_index P G) <| And.intro (aop_extract P G) <| And.intro (aop_call P G) <| aop_builtin P G) :=
  And.intro (X_seq P G) <| And.intro (X_skip P G) <| And.intro (X_label P G) <| And.intro (X_ret P G) <| And.intro (X_exit P G) <| And.intro (X_block P G) <| And.intro (X_cond P G) <| And.intro (X_region P G) <| And.intro (X_draw P G) <| And.intro (runOps_nil P G) <| And.intro (runOps_some P G) <| And.intro (runOps_none P G) <| And.intro (runOps_gsome P G) <| And.intro (runOps_gnone P G) <| And.intro (runD_nil P G) <| And.intro (runD_some P G) <| And.intro (runD_none P G) <| And.intro (runD_gsome P G) <| And.intro (aop_move P G) <| And.intro (aop_assign P G) <| And.intro (aop_pick P G) <| And.intro (aop_alloc P G) <| And.intro (aop_box P G) <| And.intro (aop_build P G) <| And.intro (aop_buildSlice P G) <| And.intro (aop_load P G) <| And.intro (aop_store P G) <| And.intro (aop_nilCheck P G) <| And.intro (aop_binOp P G) <| And.intro (aop_unOp P G) <| And.intro (aop_convert P G) <| And.intro (aop_makeFunc P G) <| And.intro (aop_makeSlice P G) <| And.intro (aop_slice P G) <| And.intro (aop_fieldAddr P G) <| And.intro (aop_field P G) <| And.intro (aop_indexAddr P G) <| And.intro (aop_index P G) <| And.intro (aop_extract P G) <| And.intro (aop_call P G) <| aop_builtin P G
theorem exB (P : Program) : type_of% (And.intro (endQ_normal P) <| And.intro (endQ_ret P) <| And.intro (resV_nil P) <| And.intro (resV_cons P) <| And.intro (aRes1_tmp P) <| And.intro (aRes1_cell P) <| And.intro (bi_len P) <| And.intro (bi_append P) <| And.intro (bi_max P) <| And.intro (bi_min P) <| And.intro (aLoad_ptr P) <| And.intro (aStore_ptr P) <| And.intro (bin_fadd P) <| And.intro (bin_fsub P) <| And.intro (bin_fmul P) <| And.intro (bin_fquo P) <| And.intro (bin_feql P) <| And.intro (bin_fneq P) <| And.intro (bin_flss P) <| And.intro (bin_fleq P) <| And.intro (bin_fgtr P) <| And.intro (bin_fgeq P) <| And.intro (bin_iadd P) <| And.intro (bin_isub P) <| And.intro (bin_imul P) <| And.intro (bin_ieql P) <| And.intro (bin_ineq P) <| And.intro (bin_ilss P) <| And.intro (bin_ileq P) <| And.intro (bin_igtr P) <| And.intro (bin_igeq P) <| And.intro (un_not P) <| un_fneg P) :=
  And.intro (endQ_normal P) <| And.intro (endQ_ret P) <| And.intro (resV_nil P) <| And.intro (resV_cons P) <| And.intro (aRes1_tmp P) <| And.intro (aRes1_cell P) <| And.intro (bi_len P) <| And.intro (bi_append P) <| And.intro (bi_max P) <| And.intro (bi_min P) <| And.intro (aLoad_ptr P) <| And.intro (aStore_ptr P) <| And.intro (bin_fadd P) <| And.intro (bin_fsub P) <| And.intro (bin_fmul P) <| And.intro (bin_fquo P) <| And.intro (bin_feql P) <| And.intro (bin_fneq P) <| And.intro (bin_flss P) <| And.intro (bin_fleq P) <| And.intro (bin_fgtr P) <| And.intro (bin_fgeq P) <| And.intro (bin_iadd P) <| And.intro (bin_isub P) <| And.intro (bin_imul P) <| And.intro (bin_ieql P) <| And.intro (bin_ineq P) <| And.intro (bin_ilss P) <| And.intro (bin_ileq P) <| And.intro (bin_igtr P) <| And.intro (bin_igeq P) <| And.intro (un_not P) <| un_fneg P
theorem exC (G : Env) : type_of% (And.intro (callV_func G) <| callV_clos G) :=
  And.intro (callV_func G) <| callV_clos G
theorem exN : type_of% (And.intro thenQ_normal <| And.intro thenQ_ret <| And.intro thenQ_exit <| And.intro inBlockQ_normal <| And.intro inBlockQ_ret <| And.intro inBlockQ_exit <| And.intro lessQ_ret <| And.intro lessQ_exit <| And.intro packV_one <| And.intro packV_two <| And.intro packV_nil <| And.intro wantW_bool <| And.intro wantW_undef <| And.intro condW_true <| And.intro condW_false <| And.intro @andR_some <| And.intro upd_get <| And.intro ini_zero <| And.intro ini_succ <| And.intro ini_nil <| And.intro ev_tmp <| And.intro ev_const <| And.intro ev_global <| And.intro ev_func <| And.intro aMost_max <| And.intro aMost_min <| And.intro aMost_imax <| And.intro aMost_imin <| And.intro @toR_some <| And.intro pickA_true <| And.intro pickA_false <| And.intro loadB_one <| And.intro loadB_agg <| And.intro storeB_one <| And.intro storeB_live <| And.intro setAll_nil <| And.intro setAll_cons <| And.intro aNew_hp <| And.intro aRow_hp <| And.intro cells_bool <| And.intro cells_int <| And.intro cells_float <| And.intro cells_string <| And.intro cells_pointer <| And.intro cells_slice <| And.intro cells_agg <| And.intro @toList_mk <| And.intro oneB_bool <| And.intro oneB_int <| And.intro oneB_float <| And.intro oneB_string <| And.intro oneB_pointer <| And.intro oneB_slice <| And.intro aNil_ptr <| And.intro aNil_func <| And.intro aExtract_mk <| And.intro hp_length <| And.intro hp_new <| And.intro hp_set <| And.intro hp_add <| And.intro hp_hp <| And.intro nb_hp <| And.intro hp_prefix <| And.intro @prefix_self <| And.intro @prefix_more <| And.intro @prefix_nil <| @prefix_cons) :=
  And.intro thenQ_normal <| And.intro thenQ_ret <| And.intro thenQ_exit <| And.intro inBlockQ_normal <| And.intro inBlockQ_ret <| And.intro inBlockQ_exit <| And.intro lessQ_ret <| And.intro lessQ_exit <| And.intro packV_one <| And.intro packV_two <| And.intro packV_nil <| And.intro wantW_bool <| And.intro wantW_undef <| And.intro condW_true <| And.intro condW_false <| And.intro @andR_some <| And.intro upd_get <| And.intro ini_zero <| And.intro ini_succ <| And.intro ini_nil <| And.intro ev_tmp <| And.intro ev_const <| And.intro ev_global <| And.intro ev_func <| And.intro aMost_max <| And.intro aMost_min <| And.intro aMost_imax <| And.intro aMost_imin <| And.intro @toR_some <| And.intro pickA_true <| And.intro pickA_false <| And.intro loadB_one <| And.intro loadB_agg <| And.intro storeB_one <| And.intro storeB_live <| And.intro setAll_nil <| And.intro setAll_cons <| And.intro aNew_hp <| And.intro aRow_hp <| And.intro cells_bool <| And.intro cells_int <| And.intro cells_float <| And.intro cells_string <| And.intro cells_pointer <| And.intro cells_slice <| And.intro cells_agg <| And.intro @toList_mk <| And.intro oneB_bool <| And.intro oneB_int <| And.intro oneB_float <| And.intro oneB_string <| And.intro oneB_pointer <| And.intro oneB_slice <| And.intro aNil_ptr <| And.intro aNil_func <| And.intro aExtract_mk <| And.intro hp_length <| And.intro hp_new <| And.intro hp_set <| And.intro hp_add <| And.intro hp_hp <| And.intro nb_hp <| And.intro hp_prefix <| And.intro @prefix_self <| And.intro @prefix_more <| And.intro @prefix_nil <| @prefix_cons
theorem writes_move (x : Operand) : writes (.move x) = false := rfl
theorem writes_assign (x : Operand) : writes (.assign x) = false := rfl
theorem writes_pick (c a b : Operand) : writes (.pick c a b) = false := rfl
theorem writes_binOp (op : BinOp) (t : TypeId) (x y : Operand) (yt : TypeId) : writes (.binOp op t x y yt) = false := rfl
theorem writes_unOp (op : UnOp) (t : TypeId) (x : Operand) : writes (.unOp op t x) = false := rfl
theorem writes_convert (s d : TypeId) (x : Operand) : writes (.convert s d x) = false := rfl
theorem writes_extract (x : Operand) (i : Nat) : writes (.extract x i) = false := rfl
theorem writes_load (t : TypeId) (a : Operand) : writes (.load t a) = false := rfl
theorem writes_store (t : TypeId) (a x : Operand) : writes (.store t a x) = true := rfl
theorem writes_nilCheck (x : Operand) : writes (.nilCheck x) = false := rfl
theorem writes_build (t : TypeId) (l : Array (Nat × Operand)) : writes (.build t l) = false := rfl
theorem writes_buildSlice (t : TypeId) (n : Nat) (l : Array (Nat × Operand)) : writes (.buildSlice t n l) = false := rfl
theorem writes_indexAddr (t : TypeId) (x i : Operand) : writes (.indexAddr t x i) = false := rfl
theorem writes_index (t : TypeId) (x i : Operand) : writes (.index t x i) = false := rfl
theorem writes_fieldAddr (t : TypeId) (x : Operand) (f : Nat) : writes (.fieldAddr t x f) = false := rfl
theorem writes_field (t : TypeId) (x : Operand) (f : Nat) : writes (.field t x f) = false := rfl
theorem writes_slice (t : TypeId) (x : Operand) (lo hi mx : Option Operand) : writes (.slice t x lo hi mx) = false := rfl
theorem writes_alloc (t : TypeId) : writes (.alloc t) = false := rfl
theorem writes_box (t : TypeId) (x : Operand) : writes (.box t x) = false := rfl
theorem writes_makeFunc (fn : Fn) (a b : Array Operand) : writes (.makeFunc fn a b) = false := rfl
theorem writes_call (f : Operand) (a : Array Operand) (ts : Array TypeId) : writes (.call ⟨.value f, a, ts⟩) = false := rfl
theorem writes_len (a : Array Operand) (ts : Array TypeId) : writes (.call ⟨.builtin .len, a, ts⟩) = false := rfl
theorem writes_append (a : Array Operand) (ts : Array TypeId) : writes (.call ⟨.builtin .append, a, ts⟩) = true := rfl
theorem exD : type_of% (And.intro writes_move <| And.intro writes_assign <| And.intro writes_pick <| And.intro writes_binOp <| And.intro writes_unOp <| And.intro writes_convert <| And.intro writes_extract <| And.intro writes_load <| And.intro writes_store <| And.intro writes_nilCheck <| And.intro writes_build <| And.intro writes_buildSlice <| And.intro writes_indexAddr <| And.intro writes_index <|
  And.intro writes_fieldAddr <| And.intro writes_field <| And.intro writes_slice <| And.intro writes_alloc <| And.intro writes_box <| And.intro writes_makeFunc <| And.intro writes_call <| And.intro writes_len writes_append) :=
  And.intro writes_move <| And.intro writes_assign <| And.intro writes_pick <| And.intro writes_binOp <| And.intro writes_unOp <| And.intro writes_convert <| And.intro writes_extract <| And.intro writes_load <| And.intro writes_store <| And.intro writes_nilCheck <| And.intro writes_build <| And.intro writes_buildSlice <| And.intro writes_indexAddr <| And.intro writes_index <|
  And.intro writes_fieldAddr <| And.intro writes_field <| And.intro writes_slice <| And.intro writes_alloc <| And.intro writes_box <| And.intro writes_makeFunc <| And.intro writes_call <| And.intro writes_len writes_append

/-! ### Telling an outcome anew -/
theorem hp_get_old (H e : AHeap) {b : Nat} (h : b < H.length) : (hp H e)[b]? = H[b]? := by
  unfold hp; rw [List.getElem?_append_left h]

/-- New rows: the i-th that is told lies at the place 'ks[i]' of what was added. -/
def rho (H : AHeap) (ks : List Nat) : Anew := fun b => if b < H.length then some (b, 0) else (ks[b - H.length]?).map fun k => (nb H k, 0)
theorem rho_new (H : AHeap) (ks : List Nat) (i : Nat) : rho H ks (nb H i) = (ks[i]?).map fun k => (nb H k, 0) := by
  unfold rho nb
  rw [if_neg (by omega)]
  congr 2; omega
theorem rho_old {H : AHeap} {b : Nat} (h : b < H.length) (ks : List Nat) : rho H ks b = some (b, 0) := by
  unfold rho; rw [if_pos h]
theorem fits_fresh {H e : AHeap} {r r1 : Value} {ks : List Nat} {bs : List (List Value)} (hn : ks.Nodup)
    (hb : ∀ (i k : Nat), ks[i]? = some k → ∃ cs cs1, bs[i]? = some cs ∧ e[k]? = some (.live false cs1) ∧ cs.length ≤ cs1.length ∧ ∀ (j : Nat) v, cs[j]? = some v → ∃ v1, cs1[j]? = some v1 ∧ RV (rho H ks) v v1)
    (hl : ks.length = bs.length) (hv : RV (rho H ks) r r1) : Fits H r (H ++ bs.map (.live false)) r1 (hp H e) := by
  refine ⟨rho H ks, ?_, ?_, ?_, ?_, ?_, ?_, ?_, ?_, ?_, hv⟩
  · intro b hb; exact rho_old hb ks
  · intro b x h
    unfold rho at h
    split at h
    · simp; omega
    · simp only [Option.map_eq_some_iff] at h
      obtain ⟨k, hk, _⟩ := h
      have := (List.getElem?_eq_some_iff.1 hk).1
      simp; omega
  · intro b b1 o h hle
    unfold rho at h
    rw [if_neg (by omega)] at h
    simp only [Option.map_eq_some_iff, Prod.mk.injEq] at h
    obtain ⟨k, hk, rfl, _⟩ := h
    unfold nb; omega
  · intro b b1 o lk cs h hH
    unfold rho at h
    split at h
    · rename_i hlt
      simp only [Option.some.injEq, Prod.mk.injEq] at h
      obtain ⟨rfl, rfl⟩ := h
      left
      exact ⟨hlt, hp_get_old H e hlt, List.getElem?_append_left hlt⟩
    · rename_i hge
      simp only [Option.map_eq_some_iff, Prod.mk.injEq] at h
      obtain ⟨k, hk, rfl, rfl⟩ := h
      obtain ⟨cs0, cs1, g1, g2, g3, g4⟩ := hb _ _ hk
      rw [List.getElem?_append_right (by omega), List.getElem?_map, g1] at hH
      simp only [Option.map_some, Option.some.injEq, Blk.live.injEq] at hH
      obtain ⟨rfl, rfl⟩ := hH
      right
      exact ⟨cs1, by rw [hp_new]; exact g2, by omega, fun i v hi => by rw [Nat.zero_add]; exact g4 i v hi⟩
  · intro b b' b1 o o' h h' _ _
    unfold rho at h h'
    split at h <;> split at h'
    · simp only [Option.some.injEq, Prod.mk.injEq] at h h'; omega
    · rename_i g1 g2
      simp only [Option.map_eq_some_iff, Option.some.injEq, Prod.mk.injEq] at h h'
      obtain ⟨k, hk, h1, _⟩ := h'
      obtain ⟨h2, _⟩ := h
      unfold nb at h1; omega
    · rename_i g1 g2
      simp only [Option.map_eq_some_iff, Option.some.injEq, Prod.mk.injEq] at h h'
      obtain ⟨k, hk, h1, _⟩ := h
      obtain ⟨h2, _⟩ := h'
      unfold nb at h1; omega
    · simp only [Option.map_eq_some_iff, Prod.mk.injEq] at h h'
      obtain ⟨k, hk, h1, _⟩ := h
      obtain ⟨k', hk', h1', _⟩ := h'
      have hkk : k = k' := by unfold nb at h1 h1'; omega
      subst hkk
      have := (List.getElem?_inj (List.getElem?_eq_some_iff.1 hk).1 hn).1 (hk.trans hk'.symm)
      omega
  · simp
  · intro b cs h
    rw [List.getElem?_append_left (List.getElem?_eq_some_iff.1 h).1]; exact h
  · intro b h
    rw [List.getElem?_append_left (List.getElem?_eq_some_iff.1 h).1]; exact h
  · intro b cs hlt h
    rw [List.getElem?_append_left hlt] at h; exact h
theorem fits_bare {H e : AHeap} {r : Value} (hr : bare r = true) : Fits H r H r (hp H e) := by
  have := fits_fresh (H := H) (e := e) (r := r) (r1 := r) (ks := []) (bs := []) List.nodup_nil (by simp) rfl (.same hr)
  simpa using this
theorem RV.old_slice {H : AHeap} {ks : List Nat} {b off n : Nat} (h : b < H.length) : RV (rho H ks) (.slice (some ⟨b, off, none⟩) n n) (.slice (some ⟨b, off, none⟩) n n) := by
  have := RV.slice (ρ := rho H ks) (b := b) (off := off) (n := n) (rho_old h ks)
  rwa [Nat.zero_add] at this
theorem RV.new_slice {H : AHeap} {ks : List Nat} {i k off n : Nat} (h : ks[i]? = some k) : RV (rho H ks) (.slice (some ⟨nb H i, off, none⟩) n n) (.slice (some ⟨nb H k, off, none⟩) n n) := by
  have := RV.slice (ρ := rho H ks) (b := nb H i) (off := off) (n := n) (b1 := nb H k) (o := 0) (by rw [rho_new, h]; rfl)
  rwa [Nat.zero_add] at this
theorem bareL_get : ∀ {l : List Value}, bareL l = true → ∀ (j : Nat) v, l[j]? = some v → bare v = true
  | v :: l, h, 0, u, e => by
    simp only [bareL, Bool.and_eq_true] at h
    simp at e; subst e; exact h.1
  | v :: l, h, j + 1, u, e => by
    simp only [bareL, Bool.and_eq_true] at h
    exact bareL_get h.2 j u (by simpa using e)
/-- One new row of values without addresses. -/
theorem fits_row {H e : AHeap} {r r1 : Value} {k : Nat} {cs : List Value} (he : e[k]? = some (.live false cs)) (hc : bareL cs = true) (hv : RV (rho H [k]) r r1) : Fits H r (H ++ [.live false cs]) r1 (hp H e) := by
  refine fits_fresh (ks := [k]) (bs := [cs]) (by simp) ?_ rfl hv
  intro i k' hk
  cases i with
  | zero =>
    simp only [List.getElem?_cons_zero, Option.some.injEq] at hk; subst hk
    exact ⟨cs, cs, rfl, he, Nat.le_refl _, fun j v hj => ⟨v, hj, .same (bareL_get hc j v hj)⟩⟩
  | succ i => simp at hk

end Go.Proofs.Ytnhhdgopgecggaa.Abs
