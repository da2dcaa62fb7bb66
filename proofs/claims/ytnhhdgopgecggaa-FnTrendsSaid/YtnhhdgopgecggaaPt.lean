/- FnTrends says yes, whatever it is given, and leaves its arguments as they were. No condition. -/
import Derived.Test.YtnhhdgopgecggaaRows
import Derived.ProofKit
import Derived.OpenShut
import Derived.ChangeOld
import Derived.Test.YtnhhdgopgecggaaAbsBr
import Derived.Test.YtnhhdgopgecggaaPl
import Derived.Test.YtnhhdgopgecggaaTv
set_option linter.unusedVariables false
set_option linter.unusedSimpArgs false
namespace Go.Proofs.Ytnhhdgopgecggaa
open Go.ChangeShapes Go.WideShapes Go.ChangeAt Go.RowKit Go.Proofs.Ytnhhdgopgecggaa.Abs

theorem own : ownKnob Try.prog.godebug = none := by kernel_rfl
theorem laidOut : laidOutB Try.prog = true := by kernel_rfl
/-- A slice that fits its type lies in a block of cells. -/
theorem okWide_place {P : Program} {w : World} {r : Reach} {base : Nat} {t e : TypeId} {x : Addr} {len cap : Nat} (ht : P.underlying t = some (.slice e)) (h : Value.okWide P w r base t (.slice (some x) len cap)) :
    x.spot = none ∧ len ≤ cap ∧ ∃ cells T fr, w.heap[x.block]? = some (.cells cells T fr) := by
  simp only [Value.okWide, ht, Cell.okWide, Cell.ok, World.has] at h
  obtain ⟨h1, _, _, h2, row, n, h3, _⟩ := h
  refine ⟨h2, h1, ?_⟩
  unfold World.shape? at h3
  split at h3
  · rename_i c el fr hh; exact ⟨c, el, fr, hh⟩
  · cases h3
set_option maxRecDepth 100000 in
theorem came_of {H : Type} {enc : TypeId × Value → H} {W : World} {base : Nat} {a : Option Addr} {len cap : Nat} {d : DataW H} {p : List MemPlace} (hv : Value.okWide Try.prog W .any base 22 (.slice a len cap)) (h0 : DataW.Trod enc Try.prog W 0 (fun _ => true) true 22 (Value.slice a len cap) d p) :
    ∃ zs, CameRow W a len cap zs := by
  obtain ⟨fuel, hf⟩ := h0
  rcases open_ints Try.underlying22 Try.underlying5 (by kernel_rfl) hf with ⟨hcs, _⟩ | ⟨x, l, c, zs, hcs, _, hl, hm, hz, _, hcell, hwz⟩
  · simp [Value.cells] at hcs
    obtain ⟨rfl, rfl, rfl⟩ := hcs
    exact ⟨[], .inl ⟨rfl, rfl, rfl⟩⟩
  · simp [Value.cells] at hcs
    obtain ⟨rfl, rfl, rfl⟩ := hcs
    obtain ⟨s1, s2, s3⟩ := okWide_place Try.underlying22 hv
    obtain ⟨b, off, spot⟩ := x
    dsimp only at s1 s3
    subst s1
    exact ⟨zs, .inr ⟨b, off, rfl, s3, hl, by simpa using hz, fun i hi => by rw [← WideShapes.add_plain]; exact hcell i hi, hwz⟩⟩

/-- The call of a law of two lists of bytes. -/
theorem walk2 {f : FuncId} {fn : Func} {c : Code} {g : List Value → AHeap → Option (Value × AHeap)} (hs : Sound [] Try.prog f g) (hl : Sound [] Try.prog f gLawL) (hf : Try.prog.funcs[f]? = some fn) (hb : fn.body = some c) (hnm : (fn.name == "runtime.NumGoroutine") = false)
    (hg : ∀ (a a' : Option Addr) (n n' : Nat) (H : AHeap) (bs ms : List Nat), rd isU8 (.slice a n n) H = some bs → rd isU8 (.slice a' n' n') H = some ms → apart (.slice a n n) H.length = true → apart (.slice a' n' n') H.length = true → n ≤ 1048576 → n' ≤ 1048576 →
      g [.slice a n n, .slice a' n' n'] H = some (.bool true, H))
    {w : World} {a0 a1 : Option Addr} {l0 c0 l1 c1 : Nat} {z0 z1 : List Int} (w0 : CameRow w a0 l0 c0 z0) (w1 : CameRow w a1 l1 c1 z1) :
    Calls Try.prog f #[.slice a0 l0 c0, .slice a1 l1 c1] w fun e w' => e = .returned (.bool true) ∧ Below w.heap.size w w' := by
  obtain ⟨p0, b0, i0, v0, r0, s0⟩ := came_row w0 0
  obtain ⟨p1, b1, i1, v1, r1, s1⟩ := came_row w1 1
  have hcame : ∀ (b : Nat) p c base size, [p0, p1][b]? = some p → p.at_ = some (c, base, size) → Came w c base size p.cells := by
    intro b p c base size hb hp
    match b with
    | 0 => cases hb; exact i0 c base size hp
    | 1 => cases hb; exact i1 c base size hp
    | b + 2 => simp at hb
  have hv : VRL (renOf [p0, p1]) [.slice b0 l0 l0, .slice b1 l1 l1] [.slice a0 l0 c0, .slice a1 l1 c1] := .cons (v0 _ rfl) (.cons (v1 _ rfl) .nil)
  by_cases hlong : (decide (1048576 < l0) || decide (1048576 < l1)) = true
  · exact calls_of hl hf hb hnm hcame hv (H' := heapOf [p0, p1]) (by show (if _ then _ else _) = _; rw [if_pos hlong])
  · simp only [Bool.or_eq_true, decide_eq_true_eq, not_or] at hlong
    obtain ⟨bs, hbs⟩ := r0 (heapOf [p0, p1]) rfl (by omega)
    obtain ⟨ms, hms⟩ := r1 (heapOf [p0, p1]) rfl (by omega)
    exact calls_of hs hf hb hnm hcame hv (hg _ _ _ _ _ bs ms hbs hms (s0 _ (by simp [heapOf])) (s1 _ (by simp [heapOf])) (by omega) (by omega))

theorem trends_walk {w : World} {a0 a1 : Option Addr} {l0 c0 l1 c1 : Nat} {z0 z1 : List Int} (w0 : CameRow w a0 l0 c0 z0) (w1 : CameRow w a1 l1 c1 z1) :
    Calls Try.prog 3 #[.slice a0 l0 c0, .slice a1 l1 c1] w fun e w' => e = .returned (.bool true) ∧ Below w.heap.size w w' := by
  refine walk2 trends_sound trends_long Try.func3 rfl (by decide +kernel) ?_ w0 w1
  intro a a' n n' H bs ms h1 h2 h3 _ _ _
  unfold gTrends
  simp only [h1, h2]
  rw [if_pos ⟨h3, goodLaw bs ms⟩]

set_option maxRecDepth 100000 in
theorem trends_lifted (os : Os) (started : os.Started) (H : Type) (enc : TypeId × Value → H) :
    ReturnsInHanded {} Try.checked os 3 .any (Rows.fnTrendsSpec.pre6 enc Try.prog Try.f3 Rows.fnTrendsRow.domain false) (Rows.fnTrendsSpec.post enc Try.prog Try.f3 false true false false) := by
  refine returnsInHanded_of_change (C := Try.checked) own started (by kernel_rfl) Try.func3
    (ChangeSpec.witness6 (enc := enc) (C := Try.checked) false ⟨#[], #[.slice none 0 0, .slice none 0 0], []⟩ 8 (by kernel_rfl) (by kernel_rfl) (by kernel_rfl) (by kernel_rfl)) ?_
  intro W base args ds gs before hval0 hW hcnd _
  have hval : ∀ (j : Nat) t v, Try.f3.params[j]? = some t → args[j]? = some v → Value.okWide Try.prog W .any base t v := hval0
  have hW' := hW
  obtain ⟨p, q, hA0, hV, rfl, hfz, hnd⟩ := hW
  have hA : DataW.TrodAll enc Try.prog W 0 (fun _ => true) true Try.f3.params.toList args.toList ds p := hA0
  rw [Try.params3] at hA hval
  obtain ⟨v0, vs0, d0, ds0, p0, q0, hargs, rfl, rfl, h0, r0⟩ := trodAll_cons hA
  obtain ⟨v1, vs1, d1, ds1, p1, q1, rfl, rfl, rfl, h1, r1⟩ := trodAll_cons r0
  obtain ⟨rfl, rfl, rfl⟩ := trodAll_nil r1
  obtain rfl : args = #[v0, v1] := by cases args; simp_all
  obtain ⟨rfl, rfl⟩ := trodVars_none hV
  obtain ⟨a0, len0, cap0, rfl⟩ := okWide_slice Try.underlying22 (hval 0 22 v0 rfl rfl)
  obtain ⟨a1, len1, cap1, rfl⟩ := okWide_slice Try.underlying22 (hval 1 22 v1 rfl rfl)
  have k0 := h0
  have k1 := h1
  have lt0 : ∀ x ∈ p0, x.block < W.heap.size := by obtain ⟨m, hm⟩ := k0; exact DataW.trod_lt m _ _ _ hm
  have lt1 : ∀ x ∈ p1, x.block < W.heap.size := by obtain ⟨m, hm⟩ := k1; exact DataW.trod_lt m _ _ _ hm
  obtain ⟨z0, w0⟩ := came_of (hval 0 22 _ rfl rfl) h0
  obtain ⟨z1, w1⟩ := came_of (hval 1 22 _ rfl rfl) h1
  clear hA0 hval0
  refine (trends_walk w0 w1).mono fun e W' ⟨he, bel⟩ => ?_
  subst he
  exact ⟨_, rfl, _, _, _, [], _, [], hW', trodAll_mk1 (shut_bool Try.underlying4 _), (trodAll_cons_mk (Below.trod laidOut (by kernel_rfl) (of_decide_eq_true (by kernel_rfl)) k0 bel lt0) (trodAll_cons_mk (Below.trod laidOut (by kernel_rfl) (of_decide_eq_true (by kernel_rfl)) k1 bel lt1) trodAll_mk0)), rfl, bel.frame _, fun h => by cases h⟩

theorem trends_holds : Rows.FnTrendsSaid :=
  OpenClaim.holds_of_wide 3 Try.f3 rfl rfl rfl rfl rfl rfl rfl ⟨rfl, rfl, rfl, rfl, rfl⟩ rfl rfl rfl rfl rfl (by kernel_rfl) Try.func3 (by kernel_rfl)
    (of_decide_eq_true (by kernel_rfl)) (by unfold Func.isWrapper; first | (rw [if_pos (by decide +kernel)]; kernel_rfl) | (rw [if_neg (by decide +kernel)]; exact ⟨rfl, rfl⟩))
    (fun os started H enc _ => trends_lifted os started H enc)
#print axioms trends_holds
end Go.Proofs.Ytnhhdgopgecggaa
