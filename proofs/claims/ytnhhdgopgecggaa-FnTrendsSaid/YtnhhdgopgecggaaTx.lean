/- The gains of a trend that is seen sixty times: which bounds they keep, run in the kernel. No condition. -/
import Derived.Test.YtnhhdgopgecggaaTw
set_option linter.unusedVariables false
set_option linter.unusedSimpArgs false
namespace Go.Proofs.Ytnhhdgopgecggaa.Abs
open Go Ieee

/-- Bounds of the gains before m further steps. -/
def bndW (m kk hh : Nat) : Bool :=
  cond (Nat.ble 57 m)
    (cond (Nat.ble (cond (Nat.ble 59 m) 1049100288 (cond (Nat.ble 58 m) 1054343168 1056964608)) kk) (cond (Nat.ble kk 1065353216) (Nat.ble hh 1059323904) false) false)
    (cond (Nat.ble 1058275328 kk) (cond (Nat.ble kk 1062731776) (cond (Nat.ble 1045954560 hh) (Nat.ble hh 1054867456) false) false) false)
noncomputable def simW (n m : Nat) : Nat → Nat → Nat → Bool :=
  Nat.rec (fun _ _ _ => true) (fun m ih a b c =>
    addW a n fun f => divW a f fun kk => divW b f fun hh => cond (bndW m kk hh)
      (mulW kk a fun ka => subW a ka fun a' => mulW kk b fun kb => subW b kb fun b' => mulW hh b fun hb => subW c hb fun c' =>
        addW a' b' fun ab => addW b' c' fun bc => addW ab bc fun s => addW s 1048576000 fun a1 => addW c' 1048576000 fun c1 => ih a1 bc c1) false) m
/-- What the run shows of each step. -/
structure StepP (n a b c kk hh a' b' c' : Nat) : Prop where
  kn : Nrm kk
  hn : Nrm hh
  kq : fbin .quo .f32 a (fbin .add .f32 a n) = kk
  hq : fbin .quo .f32 b (fbin .add .f32 a n) = hh
  an : Nrm a'
  bn : Nrm b'
  cn : Nrm c'
  aq : fbin .sub .f32 a (fbin .mul .f32 kk a) = a'
  bq : fbin .sub .f32 b (fbin .mul .f32 kk b) = b'
  cq : fbin .sub .f32 c (fbin .mul .f32 hh b) = c'
def GainsP (n : Nat) : Nat → Nat → Nat → Nat → Prop
  | 0, _, _, _ => True
  | m + 1, a, b, c => ∃ kk hh a' b' c', StepP n a b c kk hh a' b' c' ∧ bndW m kk hh = true ∧
      GainsP n m (fbin .add .f32 (fbin .add .f32 (fbin .add .f32 a' b') (fbin .add .f32 b' c')) 1048576000) (fbin .add .f32 b' c') (fbin .add .f32 c' 1048576000)
theorem nrm_q : Nrm 1048576000 := by unfold Nrm; omega
theorem simW_sound {n : Nat} (hn : Nrm n) : ∀ (m a b c : Nat), Nrm a → Nrm b → Nrm c → simW n m a b c = true → GainsP n m a b c
  | 0, _, _, _, _, _, _, _ => trivial
  | m + 1, a, b, c, ha, hb, hc, h => by
    change (addW a n fun f => divW a f fun kk => divW b f fun hh => cond (bndW m kk hh)
      (mulW kk a fun ka => subW a ka fun a' => mulW kk b fun kb => subW b kb fun b' => mulW hh b fun hb => subW c hb fun c' =>
        addW a' b' fun ab => addW b' c' fun bc => addW ab bc fun s => addW s 1048576000 fun a1 => addW c' 1048576000 fun c1 => simW n m a1 bc c1) false) = true at h
    obtain ⟨n1, h⟩ := addW_sound ha hn h
    obtain ⟨n2, h⟩ := divW_sound ha n1 h
    obtain ⟨n3, h⟩ := divW_sound hb n1 h
    obtain ⟨h0, h⟩ := cond_and h
    obtain ⟨n4, h⟩ := mulW_sound n2 ha h
    obtain ⟨n5, h⟩ := subW_sound ha n4 h
    obtain ⟨n6, h⟩ := mulW_sound n2 hb h
    obtain ⟨n7, h⟩ := subW_sound hb n6 h
    obtain ⟨n8, h⟩ := mulW_sound n3 hb h
    obtain ⟨n9, h⟩ := subW_sound hc n8 h
    obtain ⟨n10, h⟩ := addW_sound n5 n7 h
    obtain ⟨n11, h⟩ := addW_sound n7 n9 h
    obtain ⟨n12, h⟩ := addW_sound n10 n11 h
    obtain ⟨n13, h⟩ := addW_sound n12 nrm_q h
    obtain ⟨n14, h⟩ := addW_sound n9 nrm_q h
    exact ⟨_, _, _, _, _, ⟨n2, n3, rfl, rfl, n5, n7, n9, rfl, rfl, rfl⟩, h0, simW_sound hn m _ _ _ n13 n11 n14 h⟩
/-- The word of m / 16, m from 1 to 2^24. -/
def w16 (m : Nat) : Nat := (Nat.log2 m + 123 - 1) * 8388608 + (m <<< (23 - Nat.log2 m))
def simN (n : Nat) : Prop := ∀ A B C : Nat, A < 9 → B < 3 → C < 5 → simW (w16 (4 * n + 4)) 60 (w16 (8 * A + 4 * B + 4 * C + 12)) (w16 (2 * B + 4 * C + 2)) (w16 (4 * C + 8)) = true
noncomputable def simB (n : Nat) : Bool := (List.range 9).all fun A => (List.range 3).all fun B => (List.range 5).all fun C => simW (w16 (4 * n + 4)) 60 (w16 (8 * A + 4 * B + 4 * C + 12)) (w16 (2 * B + 4 * C + 2)) (w16 (4 * C + 8))
theorem simN_of {n : Nat} (h : simB n = true) : simN n := by
  intro A B C hA hB hC
  unfold simB at h
  rw [List.all_eq_true] at h
  have h := h A (List.mem_range.2 hA)
  rw [List.all_eq_true] at h
  have h := h B (List.mem_range.2 hB)
  rw [List.all_eq_true] at h
  exact h C (List.mem_range.2 hC)

end Go.Proofs.Ytnhhdgopgecggaa.Abs
