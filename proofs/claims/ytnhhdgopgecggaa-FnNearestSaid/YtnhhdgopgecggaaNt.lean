/- FnNearest says yes, whatever it is given, and leaves its arguments as they were. No condition. -/
import Derived.Test.YtnhhdgopgecggaaRows
import Derived.ProofKit
import Derived.OpenShut
import Derived.ChangeOld
import Derived.Test.YtnhhdgopgecggaaAbsBr
import Derived.Test.YtnhhdgopgecggaaGl
import Derived.Test.YtnhhdgopgecggaaNn
set_option linter.unusedVariables false
set_option linter.unusedSimpArgs false
namespace Go.Proofs.Ytnhhdgopgecggaa
open Go.ChangeShapes Go.WideShapes Go.ChangeAt Go.RowKit Go.Proofs.Ytnhhdgopgecggaa.Abs

theorem own : ownKnob Try.prog.godebug = none := by kernel_rfl
theorem laidOut : laidOutB Try.prog = true := by kernel_rfl
/-- A slice that fits its type lies in a block of cells. -/
theorem okWide_place {P : Program} {w : World} {r : Reach} {base : Nat} {t e : TypeId} {x : Addr} {len cap : Nat} (ht : P.underlying t = some (.slice e)) (h : Value.okWide P w r base t (.slice (some x) len cap)) :
    x.spot = none ∧ len ≤ cap ∧ ∃ cells T fr, w.heap[x.block]? = some (.cells cells T fr) := by
  simp only [Value.okWide, ht, Cell.okWide, Cell.ok, World.has] at h
  obtain ⟨h1, _, _, h2, row, n, h3, _⟩ := h
  refine ⟨h2, h1, ?_⟩
  unfold World.shape? at h3
  split at h3
  · rename_i c el fr hh; exact ⟨c, el, fr, hh⟩
  · cases h3
set_option maxRecDepth 100000 in
theorem came_of {H : Type} {enc : TypeId × Value → H} {W : World} {base : Nat} {a : Option Addr} {len cap : Nat} {d : DataW H} {p : List MemPlace} (hv : Value.okWide Try.prog W .any base 22 (.slice a len cap)) (h0 : DataW.Trod enc Try.prog W 0 (fun _ => true) true 22 (Value.slice a len cap) d p) :
    ∃ zs, CameRow W a len cap zs := by
  obtain ⟨fuel, hf⟩ := h0
  rcases open_ints Try.underlying22 Try.underlying5 (by kernel_rfl) hf with ⟨hcs, _⟩ | ⟨x, l, c, zs, hcs, _, hl, hm, hz, _, hcell, hwz⟩
  · simp [Value.cells] at hcs
    obtain ⟨rfl, rfl, rfl⟩ := hcs
    exact ⟨[], .inl ⟨rfl, rfl, rfl⟩⟩
  · simp [Value.cells] at hcs
    obtain ⟨rfl, rfl, rfl⟩ := hcs
    obtain ⟨s1, s2, s3⟩ := okWide_place Try.underlying22 hv
    obtain ⟨b, off, spot⟩ := x
    dsimp only at s1 s3
    subst s1
    exact ⟨zs, .inr ⟨b, off, rfl, s3, hl, by simpa using hz, fun i hi => by rw [← WideShapes.add_plain]; exact hcell i hi, hwz⟩⟩

/-- What a slice of bytes is in the abstract machine, with its cells. -/
theorem came_row2 {w : World} {a : Option Addr} {len cap : Nat} {zs : List Int} (h : CameRow w a len cap zs) (j : Nat) :
    ∃ (p : Abs.Place) (a' : Option Addr), (∀ c base size, p.at_ = some (c, base, size) → Came w c base size p.cells) ∧ (∀ μ : Ren, μ j = p.at_ → VR μ (.slice a' len len) (.slice a len cap)) ∧
      (∀ H : AHeap, H[j]? = some p.blk → len ≤ 2 ^ 40 → ∃ bs, rd isU8 (.slice a' len len) H = some bs ∧ aCells (.slice a' len len) H = some (u8s bs) ∧ bs.length = len) ∧ (∀ q, q ≠ j → apart (.slice a' len len) q = true) := by
  rcases h with ⟨rfl, rfl, rfl⟩ | ⟨b, off, rfl, ⟨cells, T, fr, hc⟩, hle, hz, hcell, hwf⟩
  · refine ⟨⟨none, none⟩, none, fun c base size h => (by cases h), fun μ _ => .sliceNil, fun H _ _ => ⟨[], ?_, rfl, rfl⟩, fun q _ => rfl⟩
    simp [rd, emptyAt, rdS, aCells]
  · have hlt : b < w.heap.size := (Array.getElem?_eq_some_iff.1 hc).1
    have hap : ∀ q, q ≠ j → apart (.slice (some ⟨j, 0, none⟩) len len) q = true := fun q hq => by simp [apart, Ne.symm hq]
    by_cases h0 : cap = 0
    · have hl0 : len = 0 := by omega
      subst hl0
      refine ⟨⟨some (b, 0, cells.size), some []⟩, some ⟨j, 0, none⟩, ?_, ?_, ?_, hap⟩
      · intro c base size h; cases h
        refine ⟨hlt, fun l e => ?_, fun l e i v hi => ?_⟩
        · cases e; exact ⟨cells, T, fr, hc, rfl, by simp⟩
        · cases e; simp at hi
      · intro μ hμ
        rw [h0]
        exact .slice0 hμ
      · intro H hH _
        have : j < H.length := (List.getElem?_eq_some_iff.1 hH).1
        refine ⟨[], by simp [rd, emptyAt, this], ?_, rfl⟩
        unfold aCells
        dsimp only
        rw [hH]
        rfl
    · have hsz : off + cap ≤ cells.size := by
        have := hcell (cap - 1) (by omega)
        unfold World.cell? at this
        dsimp only at this
        rw [hc] at this
        simp only [Option.isSome_none, Bool.false_eq_true, if_false] at this
        have := (Array.getElem?_eq_some_iff.1 this).1
        omega
      refine ⟨⟨some (b, off, cells.size), some ((zs.take len).map fun n => .int .u8 n)⟩, some ⟨j, 0, none⟩, ?_, ?_, ?_, hap⟩
      · intro c base size h; cases h
        refine ⟨hlt, ?_, ?_⟩
        · intro l e; cases e
          refine ⟨cells, T, fr, hc, rfl, ?_⟩
          simp; omega
        · intro l e i v hi; cases e
          rw [List.getElem?_map] at hi
          cases hz' : (zs.take len)[i]? with
          | none => rw [hz'] at hi; cases hi
          | some n =>
            rw [hz'] at hi; cases hi
            have hi' := (List.getElem?_eq_some_iff.1 hz').1
            simp only [List.length_take] at hi'
            rw [List.getElem?_take, if_pos (by omega)] at hz'
            refine ⟨_, hcell i (by omega), ?_⟩
            rw [List.getD_eq_getElem?_getD, hz']
            exact .int .u8 n
      · intro μ hμ
        have := VR.slice (μ := μ) (b := j) (off := 0) (len := len) (cap := cap) hμ hle (by omega)
        simpa using this
      · intro H hH hsm
        have hn : ∀ n ∈ zs.take len, 0 ≤ n ∧ n < 256 := fun n hn => by
          have h1 := hwf n (List.mem_of_mem_take hn)
          have e1 : IntKind.u8.min = 0 := by decide
          have e2 : IntKind.u8.max = 255 := by decide
          simp only [Lit.wf, e1, e2, Bool.and_eq_true, decide_eq_true_eq] at h1
          omega
        have hlen : ((zs.take len).map Int.toNat).length = len := by simp; omega
        have hu : ((zs.take len).map fun n => Value.int .u8 n) = u8s ((zs.take len).map Int.toNat) := by
          unfold u8s
          rw [List.map_map]
          apply List.map_congr_left
          intro n h
          have := hn n h
          show Value.int .u8 n = Value.int .u8 ((n.toNat : Nat) : Int)
          rw [Int.toNat_of_nonneg this.1]
        have hcs : aCells (.slice (some ⟨j, 0, none⟩) len len) H = some (u8s ((zs.take len).map Int.toNat)) := by
          rw [← hu]
          have hlen' : ((zs.take len).map fun n => Value.int .u8 n).length = len := by simp; omega
          unfold aCells
          dsimp only
          rw [hH]
          unfold Place.blk
          dsimp only
          rw [if_pos (by omega), List.drop_zero, List.take_of_length_le (by omega)]
        refine ⟨(zs.take len).map Int.toNat, rd_of_S ?_, hcs, hlen⟩
        unfold rdS
        dsimp only
        rw [hcs, Option.bind_some, if_pos (by unfold u8s; rw [List.length_map, hlen]; exact hsm)]
        refine mapM_isU8 _ fun b hb => ?_
        rw [List.mem_map] at hb
        obtain ⟨n, h1, rfl⟩ := hb
        have := hn n h1
        omega

/-- The call of a law of two lists of bytes. -/
theorem walk2c {f : FuncId} {fn : Func} {c : Code} {g : List Value → AHeap → Option (Value × AHeap)} (hs : Sound [] Try.prog f g) (hl : Sound [] Try.prog f gLawL) (hf : Try.prog.funcs[f]? = some fn) (hb : fn.body = some c) (hnm : (fn.name == "runtime.NumGoroutine") = false)
    (hg : ∀ (a a' : Option Addr) (n n' : Nat) (H : AHeap) (bs ms : List Nat), rd isU8 (.slice a n n) H = some bs → rd isU8 (.slice a' n' n') H = some ms → aCells (.slice a n n) H = some (u8s bs) → aCells (.slice a' n' n') H = some (u8s ms) → apart (.slice a n n) H.length = true → apart (.slice a' n' n') H.length = true → bs.length ≤ 1048576 → ms.length ≤ 1048576 →
      g [.slice a n n, .slice a' n' n'] H = some (.bool true, H))
    {w : World} {a0 a1 : Option Addr} {l0 c0 l1 c1 : Nat} {z0 z1 : List Int} (w0 : CameRow w a0 l0 c0 z0) (w1 : CameRow w a1 l1 c1 z1) :
    Calls Try.prog f #[.slice a0 l0 c0, .slice a1 l1 c1] w fun e w' => e = .returned (.bool true) ∧ Below w.heap.size w w' := by
  obtain ⟨p0, b0, i0, v0, r0, s0⟩ := came_row2 w0 0
  obtain ⟨p1, b1, i1, v1, r1, s1⟩ := came_row2 w1 1
  have hcame : ∀ (b : Nat) p c base size, [p0, p1][b]? = some p → p.at_ = some (c, base, size) → Came w c base size p.cells := by
    intro b p c base size hb hp
    match b with
    | 0 => cases hb; exact i0 c base size hp
    | 1 => cases hb; exact i1 c base size hp
    | b + 2 => simp at hb
  have hv : VRL (renOf [p0, p1]) [.slice b0 l0 l0, .slice b1 l1 l1] [.slice a0 l0 c0, .slice a1 l1 c1] := .cons (v0 _ rfl) (.cons (v1 _ rfl) .nil)
  by_cases hlong : (decide (1048576 < l0) || decide (1048576 < l1)) = true
  · exact calls_of hl hf hb hnm hcame hv (H' := heapOf [p0, p1]) (by show (if _ then _ else _) = _; rw [if_pos hlong])
  · simp only [Bool.or_eq_true, decide_eq_true_eq, not_or] at hlong
    obtain ⟨bs, hbs, hcs, hbl⟩ := r0 (heapOf [p0, p1]) rfl (by omega)
    obtain ⟨ms, hms, hds, hml⟩ := r1 (heapOf [p0, p1]) rfl (by omega)
    exact calls_of hs hf hb hnm hcame hv (hg _ _ _ _ _ bs ms hbs hms hcs hds (s0 _ (by simp [heapOf])) (s1 _ (by simp [heapOf])) (by omega) (by omega))

theorem near_walk {w : World} {a0 a1 : Option Addr} {l0 c0 l1 c1 : Nat} {z0 z1 : List Int} (w0 : CameRow w a0 l0 c0 z0) (w1 : CameRow w a1 l1 c1 z1) :
    Calls Try.prog 4 #[.slice a0 l0 c0, .slice a1 l1 c1] w fun e w' => e = .returned (.bool true) ∧ Below w.heap.size w w' := by
  refine walk2c near_sound near_long Try.func4 rfl (by decide +kernel) ?_ w0 w1
  intro a a' n n' H bs ms h1 h2 h3 _ h5 h6 h7 h8
  unfold gNearLaw
  simp only [h1, h2]
  rw [if_pos ⟨h5, h6, h3, h7, h8, goodNear bs ms⟩]

set_option maxRecDepth 100000 in
theorem near_lifted (os : Os) (started : os.Started) (H : Type) (enc : TypeId × Value → H) :
    ReturnsInHanded {} Try.checked os 4 .any (Rows.fnNearestSpec.pre6 enc Try.prog Try.f4 Rows.fnNearestRow.domain false) (Rows.fnNearestSpec.post enc Try.prog Try.f4 false true false false) := by
  refine returnsInHanded_of_change (C := Try.checked) own started (by kernel_rfl) Try.func4
    (ChangeSpec.witness6 (enc := enc) (C := Try.checked) false ⟨#[], #[.slice none 0 0, .slice none 0 0], []⟩ 8 (by kernel_rfl) (by kernel_rfl) (by kernel_rfl) (by kernel_rfl)) ?_
  intro W base args ds gs before hval0 hW hcnd _
  have hval : ∀ (j : Nat) t v, Try.f4.params[j]? = some t → args[j]? = some v → Value.okWide Try.prog W .any base t v := hval0
  have hW' := hW
  obtain ⟨p, q, hA0, hV, rfl, hfz, hnd⟩ := hW
  have hA : DataW.TrodAll enc Try.prog W 0 (fun _ => true) true Try.f4.params.toList args.toList ds p := hA0
  rw [Try.params4] at hA hval
  obtain ⟨v0, vs0, d0, ds0, p0, q0, hargs, rfl, rfl, h0, r0⟩ := trodAll_cons hA
  obtain ⟨v1, vs1, d1, ds1, p1, q1, rfl, rfl, rfl, h1, r1⟩ := trodAll_cons r0
  obtain ⟨rfl, rfl, rfl⟩ := trodAll_nil r1
  obtain rfl : args = #[v0, v1] := by cases args; simp_all
  obtain ⟨rfl, rfl⟩ := trodVars_none hV
  obtain ⟨a0, len0, cap0, rfl⟩ := okWide_slice Try.underlying22 (hval 0 22 v0 rfl rfl)
  obtain ⟨a1, len1, cap1, rfl⟩ := okWide_slice Try.underlying22 (hval 1 22 v1 rfl rfl)
  have k0 := h0
  have k1 := h1
  have lt0 : ∀ x ∈ p0, x.block < W.heap.size := by obtain ⟨m, hm⟩ := k0; exact DataW.trod_lt m _ _ _ hm
  have lt1 : ∀ x ∈ p1, x.block < W.heap.size := by obtain ⟨m, hm⟩ := k1; exact DataW.trod_lt m _ _ _ hm
  obtain ⟨z0, w0⟩ := came_of (hval 0 22 _ rfl rfl) h0
  obtain ⟨z1, w1⟩ := came_of (hval 1 22 _ rfl rfl) h1
  clear hA0 hval0
  refine (near_walk w0 w1).mono fun e W' ⟨he, bel⟩ => ?_
  subst he
  exact ⟨_, rfl, _, _, _, [], _, [], hW', trodAll_mk1 (shut_bool Try.underlying4 _), (trodAll_cons_mk (Below.trod laidOut (by kernel_rfl) (of_decide_eq_true (by kernel_rfl)) k0 bel lt0) (trodAll_cons_mk (Below.trod laidOut (by kernel_rfl) (of_decide_eq_true (by kernel_rfl)) k1 bel lt1) trodAll_mk0)), rfl, bel.frame _, fun h => by cases h⟩

theorem near_holds : Rows.FnNearestSaid :=
  OpenClaim.holds_of_wide 4 Try.f4 rfl rfl rfl rfl rfl rfl rfl ⟨rfl, rfl, rfl, rfl, rfl⟩ rfl rfl rfl rfl rfl (by kernel_rfl) Try.func4 (by kernel_rfl)
    (of_decide_eq_true (by kernel_rfl)) (by unfold Func.isWrapper; first | (rw [if_pos (by decide +kernel)]; kernel_rfl) | (rw [if_neg (by decide +kernel)]; exact ⟨rfl, rfl⟩))
    (fun os started H enc _ => near_lifted os started H enc)
#print axioms near_holds
end Go.Proofs.Ytnhhdgopgecggaa
