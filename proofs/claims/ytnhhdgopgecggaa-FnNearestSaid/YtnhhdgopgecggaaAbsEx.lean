/- The abstract machine: rules by which a function's code is carried out on symbols, and the rule of a loop. No condition. -/
import Derived.Test.YtnhhdgopgecggaaAbsFn
set_option linter.unusedVariables false
set_option linter.unusedSimpArgs false
namespace Go.Proofs.Ytnhhdgopgecggaa.Abs
open Go

/-! ### More may be shown of what less is asked -/
theorem runOps_mono {P : Program} {G : Env} {ops : Array Oper} {K K' : Cont} (h : ∀ t H, K t H → K' t H) : ∀ (l : List Oper) t H, runOps P G ops l K t H → runOps P G ops l K' t H := by
  intro l
  induction l with
  | nil => intro t H; exact h t H
  | cons o l ih =>
    intro t H hr
    unfold runOps at hr ⊢
    split at hr
    · rename_i hw
      rw [if_pos hw]
      split at hr
      · rename_i v H' e; exact ih _ _ hr
      · exact hr.elim
    · rename_i hw
      rw [if_neg hw]; exact ih _ _ hr
theorem runDraw_mono {P : Program} {G : Env} {ops : Array Oper} {K K' : Cont} (h : ∀ t H, K t H → K' t H) : ∀ (l : List Oper) k t H, runDraw P G ops k l K t H → runDraw P G ops k l K' t H := by
  intro l
  induction l with
  | nil => intro k t H hr; unfold runDraw at hr ⊢; exact h t H hr
  | cons o l ih =>
    intro k t H hr
    cases k with
    | zero => unfold runDraw at hr ⊢; exact runOps_mono h _ _ _ hr
    | succ k =>
      unfold runDraw at hr ⊢
      split at hr
      · rename_i hw
        rw [if_pos hw]
        split at hr
        · rename_i v H' e; exact ⟨hr.1, ih _ _ _ hr.2⟩
        · exact hr.elim
      · rename_i hw
        rw [if_neg hw]; exact ih _ _ _ hr

theorem thenQ_mono {K K' : Cont} {Q Q' : Post} (hk : ∀ t H, K t H → K' t H) (hq : ∀ e t H, Q e t H → Q' e t H) : ∀ e t H, thenQ K Q e t H → thenQ K' Q' e t H := by
  intro e t H h
  cases e <;> first | exact hk _ _ h | exact hq _ _ _ h
theorem inBlockQ_mono {id : Nat} {Q Q' : Post} (hq : ∀ e t H, Q e t H → Q' e t H) : ∀ e t H, inBlockQ id Q e t H → inBlockQ id Q' e t H := by
  intro e t H h
  cases e with
  | exit i =>
    simp only [inBlockQ] at h ⊢
    split at h
    · rename_i e; rw [if_pos e]; exact hq _ _ _ h
    · rename_i e; rw [if_neg e]; exact hq _ _ _ h
  | _ => exact hq _ _ _ h

theorem W_mono {P : Program} {G : Env} : ∀ (c : Code) {Q Q' : Post}, (∀ e t H, Q e t H → Q' e t H) → ∀ t H, W P G c Q t H → W P G c Q' t H := by
  intro c
  induction c with
  | skip => intro Q Q' hq t H h; exact hq _ _ _ h
  | label l => intro Q Q' hq t H h; exact hq _ _ _ h
  | ret => intro Q Q' hq t H h; exact hq _ _ _ h
  | exit id => intro Q Q' hq t H h; exact hq _ _ _ h
  | region id ops d =>
    intro Q Q' hq t H h
    cases d with
    | false => exact runOps_mono (fun t H => hq _ t H) _ _ _ h
    | true => exact ⟨h.1, runDraw_mono (fun t H => hq _ t H) _ _ _ _ h.2⟩
  | seq a b iha ihb =>
    intro Q Q' hq t H h
    exact iha (thenQ_mono (ihb hq) hq) t H h
  | cond c x y ihx ihy =>
    intro Q Q' hq t H h
    simp only [W] at h ⊢
    split at h
    · exact ihx hq t H h
    · exact ihy hq t H h
    · exact h
  | block id c ih => intro Q Q' hq t H h; exact ih (inBlockQ_mono hq) t H h
  | loop c ih =>
    intro Q Q' hq t H h
    obtain ⟨n, h⟩ := h
    refine ⟨n, ?_⟩
    revert t H
    induction n with
    | zero => intro t H h; exact h
    | succ n ihn => intro t H h; exact ih (thenQ_mono ihn hq) t H h
  | _ => intro Q Q' hq t H h; exact h.elim

/-- What a round of a loop is to show: a lesser state behind it, or what is asked of the whole. -/
def lessQ (I : Nat → Cont) (m : Nat) (Q : Post) : Post
  | .normal, t, H => ∃ m', m' < m ∧ I m' t H
  | e, t, H => Q e t H

theorem W_loop {P : Program} {G : Env} {c : Code} {Q : Post} {I : Nat → Cont} (hs : ∀ m t H, I m t H → W P G c (lessQ I m Q) t H) {m : Nat} {t : List Value} {H : AHeap} (h : I m t H) : W P G (.loop c) Q t H := by
  have key : ∀ n m t H, m < n → I m t H → loopN (W P G c) Q n t H := by
    intro n
    induction n with
    | zero => intro m t H hm; omega
    | succ n ih =>
      intro m t H hm hi
      refine W_mono c ?_ t H (hs m t H hi)
      intro e t H h
      cases e with
      | normal =>
        obtain ⟨m', h1, h2⟩ := h
        exact ih m' t H (by omega) h2
      | _ => exact h
  exact ⟨m + 1, key (m + 1) m t H (by omega) h⟩

/-! ### Slots and memory in a form that rules can read -/
def upd (f : Nat → Value) (i : Nat) (v : Value) : Nat → Value := fun j => if j = i then v else f j
def mk (n : Nat) (f : Nat → Value) : List Value := (List.range n).map f
def ini (args : List Value) : Nat → Value := fun j => args.getD j Go.undef
def hp (H ext : AHeap) : AHeap := H ++ ext
def nb (H : AHeap) (k : Nat) : Nat := H.length + k

theorem upd_get (f : Nat → Value) (i : Nat) (v : Value) (j : Nat) : upd f i v j = if j = i then v else f j := rfl
theorem ini_zero (v : Value) (l : List Value) : ini (v :: l) 0 = v := rfl
theorem ini_succ (v : Value) (l : List Value) (j : Nat) : ini (v :: l) (j + 1) = ini l j := rfl
theorem ini_nil (j : Nat) : ini [] j = Go.undef := rfl
theorem mk_length (n : Nat) (f : Nat → Value) : (mk n f).length = n := by simp [mk]
theorem mk_get (n : Nat) (f : Nat → Value) (i : Nat) : (mk n f)[i]? = if i < n then some (f i) else none := by
  simp only [mk, List.getElem?_map, List.getElem?_range]
  by_cases h : i < n
  · rw [if_pos h, List.getElem?_range h]; rfl
  · rw [if_neg h, List.getElem?_eq_none (by simpa using h)]; rfl
theorem mk_set (n : Nat) (f : Nat → Value) (i : Nat) (v : Value) : (mk n f).set i v = mk n (upd f i v) := by
  apply List.ext_getElem?
  intro j
  rw [List.getElem?_set, mk_get, mk_get, mk_length]
  by_cases hj : j < n
  · rw [if_pos hj, if_pos hj]
    by_cases e : i = j
    · subst e; rw [if_pos rfl, if_pos hj, upd_get, if_pos rfl]
    · rw [if_neg e, upd_get, if_neg (fun h => e h.symm)]
  · rw [if_neg hj, if_neg hj]
    by_cases e : i = j
    · subst e; rw [if_pos rfl, if_neg hj]
    · rw [if_neg e]
theorem start_eq {n : Nat} {args : List Value} (h : args.length ≤ n) : args ++ List.replicate (n - args.length) Go.undef = mk n (ini args) := by
  apply List.ext_getElem?
  intro j
  rw [mk_get]
  by_cases hj : j < n
  · rw [if_pos hj]
    by_cases ha : j < args.length
    · rw [List.getElem?_append_left ha, List.getElem?_eq_getElem ha]
      simp [ini, ha]
    · rw [List.getElem?_append_right (by omega), List.getElem?_replicate, if_pos (by omega)]
      simp only [ini, List.getD_eq_getElem?_getD, List.getElem?_eq_none (by omega : args.length ≤ j), Option.getD_none]
  · rw [if_neg hj, List.getElem?_eq_none]
    simp; omega

theorem ev_tmp (n : Nat) (f : Nat → Value) (i : Nat) : ev (mk n f) (.tmp i) = if i < n then f i else Go.undef := by
  show (mk n f).getD i Go.undef = _
  rw [List.getD_eq_getElem?_getD, mk_get]
  split <;> rfl
theorem ev_const (t : List Value) (v : Value) : ev t (.const v) = v := rfl
theorem ev_global (t : List Value) (g : Nat) : ev t (.global g) = .pointer (some ⟨g, 0, none⟩) := rfl
theorem ev_func (t : List Value) (g : Nat) : ev t (.func g) = .func (.func g) #[] #[] := rfl

theorem hp_length (H ext : AHeap) : (hp H ext).length = nb H ext.length := by simp [hp, nb]
theorem hp_new (H ext : AHeap) (k : Nat) : (hp H ext)[nb H k]? = ext[k]? := by
  unfold hp nb
  rw [List.getElem?_append_right (by omega)]; congr 1; omega
theorem hp_old {H : AHeap} {b : Nat} {x : Blk} (h : H[b]? = some x) (ext : AHeap) : (hp H ext)[b]? = some x := by
  unfold hp
  rw [List.getElem?_append_left (List.getElem?_eq_some_iff.1 h).1]; exact h
theorem hp_set (H ext : AHeap) (k : Nat) (x : Blk) : (hp H ext).set (nb H k) x = hp H (ext.set k x) := by
  unfold hp nb
  rw [List.set_append_right _ _ (by omega)]; congr 2; omega
theorem hp_add (H ext l : AHeap) : hp H ext ++ l = hp H (ext ++ l) := by simp [hp]
theorem hp_nil (H : AHeap) : hp H [] = H := by simp [hp]
theorem hp_hp (H e e' : AHeap) : hp (hp H e) e' = hp H (e ++ e') := by simp [hp]
theorem nb_hp (H e : AHeap) (k : Nat) : nb (hp H e) k = nb H (e.length + k) := by simp [hp, nb, Nat.add_assoc]
theorem hp_prefix (H e e' : AHeap) : (hp H e <+: hp H e') = (e <+: e') := by
  apply propext; exact List.prefix_append_right_inj H
theorem prefix_self {α : Type} (l : List α) : (l <+: l) = True := by simp
theorem prefix_more {α : Type} (l l' : List α) : (l <+: l ++ l') = True := by simp
theorem prefix_nil {α : Type} (l : List α) : ([] <+: l) = True := by simp
theorem prefix_cons {α : Type} (x : α) (l l' : List α) : (x :: l <+: x :: l') = (l <+: l') := by simp

/-! ### Operations -/
/-- A mark that keeps rules from going to work on what is not yet reached. -/
inductive TagP (A : Prop) : Type
  | mk
def condW (v : Value) (A B : Prop) (_ : TagP A) (_ : TagP B) : Prop :=
  match v with
  | .bool true => A
  | .bool false => B
  | _ => False
theorem condW_true (A B : Prop) (ta : TagP A) (tb : TagP B) : condW (.bool true) A B ta tb = A := rfl
theorem condW_false (A B : Prop) (ta : TagP A) (tb : TagP B) : condW (.bool false) A B ta tb = B := rfl
theorem condW_intro {b : Bool} {A B : Prop} {ta : TagP A} {tb : TagP B} (ht : b = true → A) (hf : b = false → B) : condW (.bool b) A B ta tb := by
  cases b
  · exact hf rfl
  · exact ht rfl

inductive TagF {α : Type} (K : α → Prop) : Type
  | mk
def andRT {α : Type} (r : Option α) (K : α → Prop) (_ : TagF K) : Prop :=
  match r with
  | some x => K x
  | none => False
abbrev andR {α : Type} (r : Option α) (K : α → Prop) : Prop := andRT r K .mk
theorem andR_some {α : Type} (x : α) (K : α → Prop) (t : TagF K) : andRT (some x) K t = K x := rfl
theorem andR_of {α : Type} {r : Option α} {K : α → Prop} {t : TagF K} {x : α} (h : r = some x) (hk : K x) : andRT r K t := by rw [h]; exact hk

/-- The operations of a statement whose order is open, up to the first that writes. -/
def runD (P : Program) (G : Env) (ops : Array Oper) : List Oper → Cont → List Value → AHeap → Prop
  | [], K, t, H => K t H
  | o :: l, K, t, H =>
    if (kindOf o.op == 2) = true then runOps P G ops (o :: l) K t H
    else if wantA ops o t = true then andR (aop P G o.op (ev t) H) fun r => H <+: r.2 ∧ runD P G ops l K (setD t o.dst r.1) r.2
    else runD P G ops l K (setD t o.dst Go.undef) H
theorem runD_eq {P : Program} {G : Env} {ops : Array Oper} {K : Cont} : ∀ (l : List Oper) t H, runD P G ops l K t H → runDraw P G ops (firstE l) l K t H := by
  intro l
  induction l with
  | nil => intro t H h; unfold runD at h; unfold runDraw; exact h
  | cons o l ih =>
    intro t H h
    unfold runD at h
    by_cases hk : (kindOf o.op == 2) = true
    · rw [if_pos hk] at h
      have : firstE (o :: l) = 0 := by simp [firstE, List.findIdx_cons, hk]
      rw [this]; unfold runDraw; exact h
    · rw [if_neg hk] at h
      have : firstE (o :: l) = firstE l + 1 := by simp [firstE, List.findIdx_cons, Bool.eq_false_iff.2 hk]
      rw [this]; unfold runDraw
      split at h
      · rename_i hw
        rw [if_pos hw]
        unfold andR andRT at h
        split at h
        · rename_i r e; rw [e]; exact ⟨h.1, ih _ _ h.2⟩
        · exact h.elim
      · rename_i hw
        rw [if_neg hw]; exact ih _ _ h

/-- All statements whose order is open pass the check. -/
def drawAll : Code → Bool
  | .region _ ops true => drawB ops
  | .seq a b => drawAll a && drawAll b
  | .cond _ x y => drawAll x && drawAll y
  | .block _ c => drawAll c
  | .loop c => drawAll c
  | _ => true

/-- As 'W', the checks of the open orders left aside. -/
def X (P : Program) (G : Env) : Code → Post → Cont
  | .skip, Q => Q .normal
  | .label _, Q => Q .normal
  | .region _ ops d, Q => match d with
    | false => runOps P G ops ops.toList (Q .normal)
    | true => runD P G ops ops.toList (Q .normal)
  | .seq a b, Q => X P G a (thenQ (X P G b Q) Q)
  | .cond c x y, Q => fun t H => condW (ev t c) (X P G x Q t H) (X P G y Q t H) .mk .mk
  | .block id c, Q => X P G c (inBlockQ id Q)
  | .loop c, Q => fun t H => drawAll c = true → W P G (.loop c) Q t H
  | .exit id, Q => Q (.exit id)
  | .ret, Q => Q .ret
  | _, _ => fun _ _ => False

theorem W_of_X {P : Program} {G : Env} : ∀ (c : Code), drawAll c = true → ∀ (Q : Post) t H, X P G c Q t H → W P G c Q t H := by
  intro c
  induction c with
  | skip => intro _ Q t H h; exact h
  | label l => intro _ Q t H h; exact h
  | ret => intro _ Q t H h; exact h
  | exit id => intro _ Q t H h; exact h
  | region id ops d =>
    intro hd Q t H h
    cases d with
    | false => exact h
    | true => exact ⟨hd, runD_eq _ _ _ h⟩
  | seq a b iha ihb =>
    intro hd Q t H h
    simp only [drawAll, Bool.and_eq_true] at hd
    exact W_mono a (thenQ_mono (ihb hd.2 Q) fun _ _ _ h => h) t H (iha hd.1 _ t H h)
  | cond c x y ihx ihy =>
    intro hd Q t H h
    simp only [drawAll, Bool.and_eq_true] at hd
    simp only [X, condW] at h
    simp only [W]
    split at h
    · rename_i e; rw [e]; exact ihx hd.1 Q t H h
    · rename_i e; rw [e]; exact ihy hd.2 Q t H h
    · exact h.elim
  | block id c ih => intro hd Q t H h; exact ih hd _ t H h
  | loop c ih => intro hd Q t H h; exact h hd
  | _ => intro _ Q t H h; exact h.elim

theorem X_loop {P : Program} {G : Env} {c : Code} {Q : Post} {I : Nat → Cont} (hs : ∀ m t H, I m t H → X P G c (lessQ I m Q) t H) {m : Nat} {t : List Value} {H : AHeap} (h : I m t H) : X P G (.loop c) Q t H :=
  fun hd => W_loop (fun m t H hi => W_of_X c hd _ t H (hs m t H hi)) h

/-! ### Results -/
def resV (P : Program) (t : List Value) (H : AHeap) : List ResultVar → Option (List Value)
  | [] => some []
  | x :: xs => (aRes1 P t H x).bind fun v => (resV P t H xs).map (v :: ·)
def packV : List Value → Value
  | [v] => v
  | l => .tuple ⟨l⟩
def endQ (P : Program) (rs : List ResultVar) (K : Value → AHeap → Prop) : Post
  | .normal, t, H => andR (resV P t H rs) fun l => K (packV l) H
  | .ret, t, H => andR (resV P t H rs) fun l => K (packV l) H
  | _, _, _ => False

theorem resV_eq {P : Program} {t : List Value} {H : AHeap} : ∀ (rs : List ResultVar), resV P t H rs = rs.mapM (aRes1 P t H) := by
  intro rs
  induction rs with
  | nil => rfl
  | cons x xs ih =>
    simp only [resV, List.mapM_cons, ih, Option.bind_eq_bind, Option.pure_def]
    cases aRes1 P t H x <;> simp [Option.map_eq_bind, Function.comp_def]
theorem endQ_fnQ {P : Program} {fn : Func} {K : Value → AHeap → Prop} : ∀ e t H, endQ P fn.results.toList K e t H → fnQ P fn K e t H := by
  have key : ∀ t H, (andR (resV P t H fn.results.toList) fun l => K (packV l) H) → ∃ v, aRes P fn t H = some v ∧ K v H := by
    intro t H h
    unfold andR andRT at h
    split at h
    case h_2 => exact h.elim
    rename_i l e
    refine ⟨packV l, ?_, h⟩
    rw [resV_eq] at e
    unfold aRes
    split
    · rename_i x hx
      rw [hx] at e
      simp only [List.mapM_cons, List.mapM_nil, Option.bind_eq_bind, Option.pure_def, Option.bind_eq_some_iff, Option.some.injEq] at e
      obtain ⟨v, hv, _, rfl, rfl⟩ := e
      exact hv
    · rename_i xs hx
      rw [e]
      simp only [Option.map_some, packV]
      split
      · rename_i v
        exfalso
        cases hr : fn.results.toList with
        | nil => rw [hr] at e; simp at e
        | cons x ys =>
          cases ys with
          | nil => exact hx x hr
          | cons y zs =>
            rw [hr] at e
            simp only [List.mapM_cons, Option.bind_eq_bind, Option.bind_eq_some_iff, Option.pure_def, Option.some.injEq] at e
            obtain ⟨_, _, _, ⟨_, _, _, _, rfl⟩, h⟩ := e
            simp at h
      · rfl
  intro e t H h
  cases e <;> first | exact key t H h | exact h

theorem sound_of {gs : List Nat} {P : Program} {G : Env} (hG : SoundEnv gs P G) (hmix : P.follows .mixedOrders = true) {f : FuncId} {fn : Func} {c : Code} {rs : List ResultVar} {n : Nat} (hf : P.funcs[f]? = some fn) (hb : fn.body = some c) (hr : fn.results.toList = rs) (hn : fn.ntmps = n) (hnm : (fn.name == "runtime.NumGoroutine") = false)
    (hok : codeOK gs c = true) (hd : drawAll c = true) {g : List Value → AHeap → Option (Value × AHeap)}
    (h : ∀ args H r H', g args H = some (r, H') → args.length ≤ n ∧ X P G c (endQ P rs fun r1 H1 => Fits H r H' r1 H1) (mk n (ini args)) (hp H [])) : Sound gs P f g := by
  refine fn_sound hG hmix hf hb hnm hok ?_
  intro args H r H' hg
  obtain ⟨h1, h2⟩ := h args H r H' hg
  subst hr; subst hn
  have h3 := W_of_X c hd _ _ _ h2
  rw [← start_eq h1, hp_nil] at h3
  exact W_mono c endQ_fnQ _ _ h3

/-! ### One step of the run -/
section
variable (P : Program) (G : Env)
theorem X_seq (a b : Code) (Q : Post) (t : List Value) (H : AHeap) : X P G (.seq a b) Q t H = X P G a (thenQ (X P G b Q) Q) t H := rfl
theorem X_skip (Q : Post) (t : List Value) (H : AHeap) : X P G .skip Q t H = Q .normal t H := rfl
theorem X_label (l : Nat) (Q : Post) (t : List Value) (H : AHeap) : X P G (.label l) Q t H = Q .normal t H := rfl
theorem X_ret (Q : Post) (t : List Value) (H : AHeap) : X P G .ret Q t H = Q .ret t H := rfl
theorem X_exit (id : Nat) (Q : Post) (t : List Value) (H : AHeap) : X P G (.exit id) Q t H = Q (.exit id) t H := rfl
theorem X_block (id : Nat) (c : Code) (Q : Post) (t : List Value) (H : AHeap) : X P G (.block id c) Q t H = X P G c (inBlockQ id Q) t H := rfl
theorem X_cond (c : Operand) (x y : Code) (Q : Post) (t : List Value) (H : AHeap) : X P G (.cond c x y) Q t H = condW (ev t c) (X P G x Q t H) (X P G y Q t H) .mk .mk := rfl
theorem X_region (id : Nat) (l : List Oper) (Q : Post) (t : List Value) (H : AHeap) : X P G (.region id l.toArray false) Q t H = runOps P G l.toArray l (Q .normal) t H := rfl
theorem X_draw (id : Nat) (l : List Oper) (Q : Post) (t : List Value) (H : AHeap) : X P G (.region id l.toArray true) Q t H = runD P G l.toArray l (Q .normal) t H := rfl
theorem thenQ_normal (K : Cont) (Q : Post) (t : List Value) (H : AHeap) : thenQ K Q .normal t H = K t H := rfl
theorem thenQ_ret (K : Cont) (Q : Post) (t : List Value) (H : AHeap) : thenQ K Q .ret t H = Q .ret t H := rfl
theorem thenQ_exit (K : Cont) (Q : Post) (i : Nat) (t : List Value) (H : AHeap) : thenQ K Q (.exit i) t H = Q (.exit i) t H := rfl
theorem inBlockQ_normal (i : Nat) (Q : Post) (t : List Value) (H : AHeap) : inBlockQ i Q .normal t H = Q .normal t H := rfl
theorem inBlockQ_ret (i : Nat) (Q : Post) (t : List Value) (H : AHeap) : inBlockQ i Q .ret t H = Q .ret t H := rfl
theorem inBlockQ_exit (i j : Nat) (Q : Post) (t : List Value) (H : AHeap) : inBlockQ i Q (.exit j) t H = if j = i then Q .normal t H else Q (.exit j) t H := rfl
theorem lessQ_normal (I : Nat → Cont) (m : Nat) (Q : Post) (t : List Value) (H : AHeap) : lessQ I m Q .normal t H = ∃ m', m' < m ∧ I m' t H := rfl
theorem lessQ_ret (I : Nat → Cont) (m : Nat) (Q : Post) (t : List Value) (H : AHeap) : lessQ I m Q .ret t H = Q .ret t H := rfl
theorem lessQ_exit (I : Nat → Cont) (m : Nat) (Q : Post) (i : Nat) (t : List Value) (H : AHeap) : lessQ I m Q (.exit i) t H = Q (.exit i) t H := rfl
theorem endQ_normal (rs : List ResultVar) (K : Value → AHeap → Prop) (t : List Value) (H : AHeap) : endQ P rs K .normal t H = andR (resV P t H rs) fun l => K (packV l) H := rfl
theorem endQ_ret (rs : List ResultVar) (K : Value → AHeap → Prop) (t : List Value) (H : AHeap) : endQ P rs K .ret t H = andR (resV P t H rs) fun l => K (packV l) H := rfl
theorem packV_one (v : Value) : packV [v] = v := rfl
theorem packV_two (v u : Value) (l : List Value) : packV (v :: u :: l) = .tuple ⟨v :: u :: l⟩ := rfl
theorem packV_nil : packV [] = .tuple ⟨[]⟩ := rfl
theorem resV_nil (t : List Value) (H : AHeap) : resV P t H [] = some [] := rfl
theorem resV_cons (t : List Value) (H : AHeap) (x : ResultVar) (xs : List ResultVar) : resV P t H (x :: xs) = (aRes1 P t H x).bind fun v => (resV P t H xs).map (v :: ·) := rfl
theorem aRes1_tmp (n : Nat) (f : Nat → Value) (H : AHeap) (i : Nat) : aRes1 P (mk n f) H (.tmp i) = if i < n then some (f i) else some Go.undef := by
  show some (ev (mk n f) (.tmp i)) = _
  rw [ev_tmp]; split <;> rfl
theorem aRes1_cell (n : Nat) (f : Nat → Value) (H : AHeap) (i : Nat) (ty : TypeId) : aRes1 P (mk n f) H (.cell i ty) = aLoad P ty (if i < n then f i else Go.undef) H := by
  show aLoad P ty (ev (mk n f) (.tmp i)) H = _
  rw [ev_tmp]

theorem runOps_cons (ops : Array Oper) (o : Oper) (l : List Oper) (K : Cont) (t : List Value) (H : AHeap) : runOps P G ops (o :: l) K t H =
    if wantA ops o t = true then andR (aop P G o.op (ev t) H) fun r => runOps P G ops l K (setD t o.dst r.1) r.2 else runOps P G ops l K (setD t o.dst Go.undef) H := by
  rw [runOps]
  cases aop P G o.op (ev t) H <;> rfl
theorem runD_cons (ops : Array Oper) (o : Oper) (l : List Oper) (K : Cont) (t : List Value) (H : AHeap) : runD P G ops (o :: l) K t H =
    if (kindOf o.op == 2) = true then runOps P G ops (o :: l) K t H
    else if wantA ops o t = true then andR (aop P G o.op (ev t) H) fun r => H <+: r.2 ∧ runD P G ops l K (setD t o.dst r.1) r.2
    else runD P G ops l K (setD t o.dst Go.undef) H := by rw [runD]
theorem runOps_nil (ops : Array Oper) (K : Cont) (t : List Value) (H : AHeap) : runOps P G ops [] K t H = K t H := rfl
theorem runOps_some (ops : Array Oper) (d : Nat) (op : Op) (ty : TypeId) (pos : String) (af : Array Edge) (l : List Oper) (K : Cont) (n : Nat) (f : Nat → Value) (H : AHeap) :
    runOps P G ops (⟨some d, op, ty, pos, af, none⟩ :: l) K (mk n f) H = andR (aop P G op (ev (mk n f)) H) fun r => runOps P G ops l K (mk n (upd f d r.1)) r.2 := by
  rw [runOps_cons, if_pos (by rfl)]
  simp only [setD, mk_set]
theorem runOps_none (ops : Array Oper) (op : Op) (ty : TypeId) (pos : String) (af : Array Edge) (l : List Oper) (K : Cont) (n : Nat) (f : Nat → Value) (H : AHeap) :
    runOps P G ops (⟨none, op, ty, pos, af, none⟩ :: l) K (mk n f) H = andR (aop P G op (ev (mk n f)) H) fun r => runOps P G ops l K (mk n f) r.2 := by
  rw [runOps_cons, if_pos (by rfl)]
  simp only [setD]
/-- The value by which an operation is carried out or passed over. -/
def gval (ops : List Oper) (j : Nat) (n : Nat) (f : Nat → Value) : Value :=
  match ops[j]? with
  | some ⟨some d, _, _, _, _, _⟩ => if d < n then f d else Go.undef
  | _ => Go.undef
def wantW (v : Value) (w : Bool) (A B : Prop) (_ : TagP A) (_ : TagP B) : Prop :=
  match v with
  | .bool b => if (b == w) = true then A else B
  | _ => B
theorem wantW_bool (b w : Bool) (A B : Prop) (ta : TagP A) (tb : TagP B) : wantW (.bool b) w A B ta tb = condW (.bool (b == w)) A B ta tb := by
  cases h : b == w <;> simp [wantW, condW, h]
theorem wantW_undef (w : Bool) (A B : Prop) (ta : TagP A) (tb : TagP B) : wantW Go.undef w A B ta tb = B := rfl
theorem wantA_guard (l : List Oper) (o : Oper) (j : Nat) (w : Bool) (hg : o.guard = some (j, w)) (n : Nat) (f : Nat → Value) (A B : Prop) :
    (if wantA l.toArray o (mk n f) = true then A else B) = wantW (gval l j n f) w A B .mk .mk := by
  unfold wantA gval
  rw [hg]
  simp only [List.getElem?_toArray]
  cases hj : l[j]? with
  | none => simp [wantW, Go.undef]
  | some p =>
    obtain ⟨d, op, ty, pos, af, gd⟩ := p
    cases d with
    | none => simp [wantW, Go.undef]
    | some d =>
      simp only [Option.bind_some, mk_get]
      by_cases hd : d < n
      · rw [if_pos hd, if_pos hd]
        cases f d <;> simp [wantW]
      · rw [if_neg hd, if_neg hd]
        simp [wantW, Go.undef]
theorem runOps_gsome (ops : List Oper) (d : Nat) (op : Op) (ty : TypeId) (pos : String) (af : Array Edge) (j : Nat) (w : Bool) (l : List Oper) (K : Cont) (n : Nat) (f : Nat → Value) (H : AHeap) :
    runOps P G ops.toArray (⟨some d, op, ty, pos, af, some (j, w)⟩ :: l) K (mk n f) H = wantW (gval ops j n f) w (andR (aop P G op (ev (mk n f)) H) fun r => runOps P G ops.toArray l K (mk n (upd f d r.1)) r.2) (runOps P G ops.toArray l K (mk n (upd f d Go.undef)) H) .mk .mk := by
  rw [← wantA_guard ops ⟨some d, op, ty, pos, af, some (j, w)⟩ j w rfl]
  rw [runOps_cons]
  simp only [setD, mk_set]
theorem runOps_gnone (ops : List Oper) (op : Op) (ty : TypeId) (pos : String) (af : Array Edge) (j : Nat) (w : Bool) (l : List Oper) (K : Cont) (n : Nat) (f : Nat → Value) (H : AHeap) :
    runOps P G ops.toArray (⟨none, op, ty, pos, af, some (j, w)⟩ :: l) K (mk n f) H = wantW (gval ops j n f) w (andR (aop P G op (ev (mk n f)) H) fun r => runOps P G ops.toArray l K (mk n f) r.2) (runOps P G ops.toArray l K (mk n f) H) .mk .mk := by
  rw [← wantA_guard ops ⟨none, op, ty, pos, af, some (j, w)⟩ j w rfl]
  rw [runOps_cons]
  simp only [setD]
theorem runD_nil (ops : Array Oper) (K : Cont) (t : List Value) (H : AHeap) : runD P G ops [] K t H = K t H := rfl
def writes (op : Op) : Bool := kindOf op == 2
theorem runD_some (ops : Array Oper) (d : Nat) (op : Op) (ty : TypeId) (pos : String) (af : Array Edge) (l : List Oper) (K : Cont) (n : Nat) (f : Nat → Value) (H : AHeap) :
    runD P G ops (⟨some d, op, ty, pos, af, none⟩ :: l) K (mk n f) H = condW (.bool (writes op)) (runOps P G ops (⟨some d, op, ty, pos, af, none⟩ :: l) K (mk n f) H)
      (andR (aop P G op (ev (mk n f)) H) fun r => H <+: r.2 ∧ runD P G ops l K (mk n (upd f d r.1)) r.2) .mk .mk := by
  rw [runD_cons]
  simp only [wantA, if_true, setD, mk_set, writes]
  cases (kindOf op == 2) <;> simp [condW]
theorem runD_none (ops : Array Oper) (op : Op) (ty : TypeId) (pos : String) (af : Array Edge) (l : List Oper) (K : Cont) (n : Nat) (f : Nat → Value) (H : AHeap) :
    runD P G ops (⟨none, op, ty, pos, af, none⟩ :: l) K (mk n f) H = condW (.bool (writes op)) (runOps P G ops (⟨none, op, ty, pos, af, none⟩ :: l) K (mk n f) H)
      (andR (aop P G op (ev (mk n f)) H) fun r => H <+: r.2 ∧ runD P G ops l K (mk n f) r.2) .mk .mk := by
  rw [runD_cons]
  simp only [wantA, if_true, setD, writes]
  cases (kindOf op == 2) <;> simp [condW]
theorem runD_gsome (ops : List Oper) (d : Nat) (op : Op) (ty : TypeId) (pos : String) (af : Array Edge) (j : Nat) (w : Bool) (l : List Oper) (K : Cont) (n : Nat) (f : Nat → Value) (H : AHeap) :
    runD P G ops.toArray (⟨some d, op, ty, pos, af, some (j, w)⟩ :: l) K (mk n f) H = condW (.bool (writes op)) (runOps P G ops.toArray (⟨some d, op, ty, pos, af, some (j, w)⟩ :: l) K (mk n f) H)
      (wantW (gval ops j n f) w (andR (aop P G op (ev (mk n f)) H) fun r => H <+: r.2 ∧ runD P G ops.toArray l K (mk n (upd f d r.1)) r.2) (runD P G ops.toArray l K (mk n (upd f d Go.undef)) H) .mk .mk) .mk .mk := by
  rw [← wantA_guard ops ⟨some d, op, ty, pos, af, some (j, w)⟩ j w rfl]
  rw [runD_cons]
  simp only [setD, mk_set, writes]
  cases (kindOf op == 2) <;> simp [condW]
end

end Go.Proofs.Ytnhhdgopgecggaa.Abs
