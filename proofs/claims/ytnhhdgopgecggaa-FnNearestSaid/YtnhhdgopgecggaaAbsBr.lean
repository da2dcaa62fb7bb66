/- From the model's call to the abstract machine: the arguments are locked blocks, and what a run leaves is what a row asks. No condition. -/
import Derived.Test.YtnhhdgopgecggaaAbsRd
import Derived.Below
set_option linter.unusedVariables false
set_option linter.unusedSimpArgs false
namespace Go.Proofs.Ytnhhdgopgecggaa.Abs
open Go Go.RowKit

/-- A block that came in: where it lies, and its cells, if they may be looked at. -/
structure Came (w : World) (c base size : Nat) (cs : Option (List Value)) : Prop where
  lt : c < w.heap.size
  tgt : ∀ l, cs = some l → ∃ cells T fr, w.heap[c]? = some (.cells cells T fr) ∧ cells.size = size ∧ base + l.length ≤ size
  cell : ∀ l, cs = some l → ∀ (i : Nat) v, l[i]? = some v → ∃ v', w.cell? ⟨c, base + i, none⟩ = some v' ∧ VR (fun _ => none) v v'
structure Place where
  at_ : Option (Nat × Nat × Nat)
  cells : Option (List Value)
def Place.blk (p : Place) : Blk := match p.cells with
  | some l => .live true l
  | none => .dead
def renOf (L : List Place) : Ren := fun b => (L[b]?).bind (·.at_)
def heapOf (L : List Place) : AHeap := L.map Place.blk
theorem heapOf_get {L : List Place} {b : Nat} {lk : Bool} {cs : List Value} (h : (heapOf L)[b]? = some (.live lk cs)) : lk = true ∧ ∃ p, L[b]? = some p ∧ p.cells = some cs := by
  unfold heapOf at h
  rw [List.getElem?_map] at h
  cases hp : L[b]? with
  | none => rw [hp] at h; cases h
  | some p =>
    rw [hp] at h
    simp only [Option.map_some, Option.some.injEq] at h
    unfold Place.blk at h
    split at h
    · rename_i l hl; cases h; exact ⟨rfl, p, rfl, hl⟩
    · cases h
theorem not_ulive (L : List Place) (b : Nat) : ¬ Ulive (heapOf L) b := by
  rintro ⟨cs, h⟩
  obtain ⟨h1, _⟩ := heapOf_get h
  cases h1
theorem renOf_some {L : List Place} {b : Nat} {x : Nat × Nat × Nat} (h : renOf L b = some x) : ∃ p, L[b]? = some p ∧ p.at_ = some x := by
  unfold renOf at h
  cases hp : L[b]? with
  | none => rw [hp] at h; cases h
  | some p => rw [hp] at h; exact ⟨p, rfl, h⟩
theorem rel_came {L : List Place} {w : World} (h : ∀ (b : Nat) p c base size, L[b]? = some p → p.at_ = some (c, base, size) → Came w c base size p.cells) : Rel (renOf L) (heapOf L) w where
  dom := fun b x hx => by
    obtain ⟨p, hp, _⟩ := renOf_some hx
    have := (List.getElem?_eq_some_iff.1 hp).1
    simpa [heapOf] using this
  lt := fun b c base size hx => by
    obtain ⟨p, hp, hx⟩ := renOf_some hx
    exact (h b p c base size hp hx).lt
  tgt := fun b c base size hx ha => by
    obtain ⟨p, hp, hx⟩ := renOf_some hx
    obtain ⟨lk, cs, ha⟩ := ha
    obtain ⟨_, p', hp', hc⟩ := heapOf_get ha
    rw [hp] at hp'; cases hp'
    obtain ⟨cells, T, fr, h1, h2, _⟩ := (h b p c base size hp hx).tgt cs hc
    exact ⟨cells, T, fr, h1, h2⟩
  fits := fun b c base size lk cs hx ha => by
    obtain ⟨p, hp, hx⟩ := renOf_some hx
    obtain ⟨_, p', hp', hc⟩ := heapOf_get ha
    rw [hp] at hp'; cases hp'
    obtain ⟨cells, T, fr, h1, h2, h3⟩ := (h b p c base size hp hx).tgt cs hc
    exact h3
  cell := fun b c base size lk cs i v hx ha hi => by
    obtain ⟨p, hp, hx⟩ := renOf_some hx
    obtain ⟨_, p', hp', hc⟩ := heapOf_get ha
    rw [hp] at hp'; cases hp'
    obtain ⟨v', h1, h2⟩ := (h b p c base size hp hx).cell cs hc i v hi
    exact ⟨v', h1, h2.mono (fun _ _ e => by cases e)⟩
  free := fun b c base size cs hx ha => absurd ⟨cs, ha⟩ (not_ulive L b)
  inj := fun b b' c base size base' size' h1 h2 _ _ hu => absurd hu (by rintro (hu | hu); exact not_ulive L _ hu; exact not_ulive L _ hu)
theorem glob_nil (μ : Ren) : Glob [] μ := fun g hg => by cases hg

/-- A function with a body is entered. -/
theorem enter_of {P : Program} {f : FuncId} {fn : Func} {c : Code} (hf : P.funcs[f]? = some fn) (hb : fn.body = some c) (hnm : (fn.name == "runtime.NumGoroutine") = false) (args : Array Value) (w : World) : (callFunc f args).run P w = .ok (.enter f args) w := by
  simp only [callFunc, Sem.run_bind, run_program, Result.andThen_ok, hf, hnm, hb, Option.isNone_some, Bool.false_eq_true, if_false, Sem.run_pure]
/-- A call whose arguments are locked blocks, and that answers yes. -/
theorem calls_of {P : Program} {f : FuncId} {fn : Func} {c : Code} {g : List Value → AHeap → Option (Value × AHeap)} (hs : Sound [] P f g) (hf : P.funcs[f]? = some fn) (hb : fn.body = some c) (hnm : (fn.name == "runtime.NumGoroutine") = false)
    {L : List Place} {w : World} (hr : ∀ (b : Nat) p c base size, L[b]? = some p → p.at_ = some (c, base, size) → Came w c base size p.cells) {args cargs : List Value} (hv : VRL (renOf L) args cargs) {H' : AHeap} (hg : g args (heapOf L) = some (.bool true, H')) :
    Calls P f cargs.toArray w fun e w' => e = .returned (.bool true) ∧ Below w.heap.size w w' := by
  have hk : ∀ v w', Out (renOf L) (heapOf L) w (.bool true) H' v w' → v = .bool true ∧ Below w.heap.size w w' := by
    rintro v w' ⟨μ', r', k, vr⟩
    refine ⟨vr.ground_eq rfl, k.os, k.tape, k.output, k.size, fun c hc => k.blk c hc (fun b base size _ => not_ulive L b)⟩
  rcases hs args (heapOf L) _ _ hg (renOf L) cargs w (rel_came hr) (glob_nil _) hv with ⟨_, h⟩ | ⟨v, w', h, _⟩
  · refine h.mono fun e w' he => ?_
    obtain ⟨v, rfl, ho⟩ := he
    obtain ⟨rfl, hb⟩ := hk v w' ho
    exact ⟨rfl, hb⟩
  · rw [enter_of hf hb hnm] at h; cases h

/-! ### A slice of bytes that came in -/
def CameRow (w : World) (a : Option Addr) (len cap : Nat) (zs : List Int) : Prop :=
  (a = none ∧ len = 0 ∧ cap = 0) ∨
  ∃ b off, a = some ⟨b, off, none⟩ ∧ (∃ cells T fr, w.heap[b]? = some (.cells cells T fr)) ∧ len ≤ cap ∧ zs.length = cap ∧ (∀ i, i < zs.length → w.cell? ⟨b, off + i, none⟩ = some (.int .u8 (zs.getD i 0))) ∧ ∀ n ∈ zs, (Lit.int .u8 n).wf = true
/-- What such a slice is in the abstract machine. -/
theorem came_row {w : World} {a : Option Addr} {len cap : Nat} {zs : List Int} (h : CameRow w a len cap zs) (j : Nat) :
    ∃ (p : Place) (a' : Option Addr), (∀ c base size, p.at_ = some (c, base, size) → Came w c base size p.cells) ∧ (∀ μ : Ren, μ j = p.at_ → VR μ (.slice a' len len) (.slice a len cap)) ∧
      (∀ H : AHeap, H[j]? = some p.blk → len ≤ 2 ^ 40 → ∃ bs, rd isU8 (.slice a' len len) H = some bs) ∧ (∀ q, q ≠ j → apart (.slice a' len len) q = true) := by
  rcases h with ⟨rfl, rfl, rfl⟩ | ⟨b, off, rfl, ⟨cells, T, fr, hc⟩, hle, hz, hcell, hwf⟩
  · refine ⟨⟨none, none⟩, none, fun c base size h => (by cases h), fun μ _ => .sliceNil, fun H _ _ => ⟨[], ?_⟩, fun q _ => rfl⟩
    simp [rd, emptyAt, rdS, aCells]
  · have hlt : b < w.heap.size := (Array.getElem?_eq_some_iff.1 hc).1
    have hap : ∀ q, q ≠ j → apart (.slice (some ⟨j, 0, none⟩) len len) q = true := fun q hq => by simp [apart, Ne.symm hq]
    by_cases h0 : cap = 0
    · have hl0 : len = 0 := by omega
      subst hl0
      refine ⟨⟨some (b, off, 0), none⟩, some ⟨j, 0, none⟩, ?_, ?_, ?_, hap⟩
      · intro c base size h; cases h
        exact ⟨hlt, fun l e => (by cases e), fun l e => (by cases e)⟩
      · intro μ hμ
        rw [h0]
        exact .slice0 hμ
      · intro H hH _
        have : j < H.length := (List.getElem?_eq_some_iff.1 hH).1
        exact ⟨[], by simp [rd, emptyAt, this]⟩
    · have hsz : off + cap ≤ cells.size := by
        have := hcell (cap - 1) (by omega)
        unfold World.cell? at this
        dsimp only at this
        rw [hc] at this
        simp only [Option.isSome_none, Bool.false_eq_true, if_false] at this
        have := (Array.getElem?_eq_some_iff.1 this).1
        omega
      refine ⟨⟨some (b, off, cells.size), some ((zs.take len).map fun n => .int .u8 n)⟩, some ⟨j, 0, none⟩, ?_, ?_, ?_, hap⟩
      · intro c base size h; cases h
        refine ⟨hlt, ?_, ?_⟩
        · intro l e; cases e
          refine ⟨cells, T, fr, hc, rfl, ?_⟩
          simp; omega
        · intro l e i v hi; cases e
          rw [List.getElem?_map] at hi
          cases hz' : (zs.take len)[i]? with
          | none => rw [hz'] at hi; cases hi
          | some n =>
            rw [hz'] at hi; cases hi
            have hi' := (List.getElem?_eq_some_iff.1 hz').1
            simp only [List.length_take] at hi'
            rw [List.getElem?_take, if_pos (by omega)] at hz'
            refine ⟨_, hcell i (by omega), ?_⟩
            rw [List.getD_eq_getElem?_getD, hz']
            exact .int .u8 n
      · intro μ hμ
        have := VR.slice (μ := μ) (b := j) (off := 0) (len := len) (cap := cap) hμ hle (by omega)
        simpa using this
      · intro H hH hsm
        have hm : ∀ l : List Int, (∀ n ∈ l, (Lit.int .u8 n).wf = true) → ((l.map fun n => Value.int .u8 n).mapM isU8) = some (l.map Int.toNat) := by
          intro l
          induction l with
          | nil => intro _; rfl
          | cons n l ih =>
            intro h
            have h1 := h n (by simp)
            have h1' : 0 ≤ n ∧ n < 256 := by
              have e1 : IntKind.u8.min = 0 := by decide
              have e2 : IntKind.u8.max = 255 := by decide
              simp only [Lit.wf, e1, e2, Bool.and_eq_true, decide_eq_true_eq] at h1
              omega
            simp only [List.map_cons, List.mapM_cons, isU8, h1', and_self, if_true, ih (fun m hm => h m (by simp [hm])), Option.bind_eq_bind, Option.bind_some, Option.pure_def]
        have hlen : ((zs.take len).map fun n => Value.int .u8 n).length = len := by simp; omega
        by_cases hl0 : len = 0
        · subst hl0
          have : j < H.length := (List.getElem?_eq_some_iff.1 hH).1
          exact ⟨[], by simp [rd, emptyAt, this]⟩
        · refine ⟨(zs.take len).map Int.toNat, rd_of_S ?_⟩
          unfold rdS
          dsimp only
          have hcs : aCells (.slice (some ⟨j, 0, none⟩) len len) H = some ((zs.take len).map fun n => Value.int .u8 n) := by
            unfold aCells
            dsimp only
            rw [hH]
            unfold Place.blk
            dsimp only
            rw [if_pos (by omega), List.drop_zero, List.take_of_length_le (by omega)]
          rw [hcs]
          simp only [Option.bind_some, hlen, hsm, if_true]
          exact hm _ (fun n hn => hwf n (List.mem_of_mem_take hn))

end Go.Proofs.Ytnhhdgopgecggaa.Abs
