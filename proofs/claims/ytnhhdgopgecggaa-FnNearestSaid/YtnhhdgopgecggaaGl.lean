/- The contracts of all functions that FnNearest calls, put together; and very long arguments. No condition. -/
import Derived.Test.YtnhhdgopgecggaaGk
import Derived.Test.YtnhhdgopgecggaaPl
set_option linter.unusedVariables false
set_option linter.unusedSimpArgs false
set_option maxRecDepth 100000
namespace Go.Proofs.Ytnhhdgopgecggaa.Abs
open Go

noncomputable def E47 : Env := E46.put 145 gSqrt
theorem se47 : SoundEnv [] Try.prog E47 := Env.put_sound se46 (snd145)
noncomputable def E48 : Env := E47.put 131 gSqrt
theorem se48 : SoundEnv [] Try.prog E48 := Env.put_sound se47 (snd131 se47 rfl)
noncomputable def E49 : Env := E48.put 84 gRoot
theorem se49 : SoundEnv [] Try.prog E49 := Env.put_sound se48 (snd84 se48 rfl)
noncomputable def E50 : Env := E49.put 144 gNarrow
theorem se50 : SoundEnv [] Try.prog E50 := Env.put_sound se49 (snd144 se49)
noncomputable def E51 : Env := E50.put 129 gRoot
theorem se51 : SoundEnv [] Try.prog E51 := Env.put_sound se50 (snd129 se50 rfl rfl)
noncomputable def E52 : Env := E51.put 105 (gNum sumL)
theorem se52 : SoundEnv [] Try.prog E52 := Env.put_sound se51 (snd105 se51)
noncomputable def E53 : Env := E52.put 83 (gNum meanL)
theorem se53 : SoundEnv [] Try.prog E53 := Env.put_sound se52 (snd83 se52 rfl)
noncomputable def E54 : Env := E53.put 85 (gNum2 dotL)
theorem se54 : SoundEnv [] Try.prog E54 := Env.put_sound se53 (snd85 se53)
noncomputable def E55 : Env := E54.put 128 (gRow2 lessL)
theorem se55 : SoundEnv [] Try.prog E55 := Env.put_sound se54 (snd128 se54)
noncomputable def E56 : Env := E55.put 82 (gRow1 lessOneL)
theorem se56 : SoundEnv [] Try.prog E56 := Env.put_sound se55 (snd82 se55)
noncomputable def E57 : Env := E56.put 72 (gPred2 two)
theorem se57 : SoundEnv [] Try.prog E57 := Env.put_sound se56 (snd72 se56 rfl)
noncomputable def E58 : Env := E57.put 73 gWindow
theorem se58 : SoundEnv [] Try.prog E58 := Env.put_sound se57 (snd73 se57 rfl rfl)
noncomputable def E59 : Env := E58.put 74 gWorkers
theorem se59 : SoundEnv [] Try.prog E59 := Env.put_sound se58 (snd74 se58 rfl)
noncomputable def E60 : Env := E59.put 76 gIfFin
theorem se60 : SoundEnv [] Try.prog E60 := Env.put_sound se59 (snd76 se59 rfl)
noncomputable def E61 : Env := E60.put 79 gIfFin
theorem se61 : SoundEnv [] Try.prog E61 := Env.put_sound se60 (snd79 se60 rfl)
noncomputable def E62 : Env := E61.put 77 gFar
theorem se62 : SoundEnv [] Try.prog E62 := Env.put_sound se61 (snd77 se61 rfl rfl rfl)
noncomputable def E63 : Env := E62.put 23 gFarS
theorem se63 : SoundEnv [] Try.prog E63 := Env.put_sound se62 (snd23 se62 rfl rfl rfl)
noncomputable def E64 : Env := E63.put 80 gFar
theorem se64 : SoundEnv [] Try.prog E64 := Env.put_sound se63 (snd80 se63 rfl)
noncomputable def E65 : Env := E64.put 24 gFarS
theorem se65 : SoundEnv [] Try.prog E65 := Env.put_sound se64 (snd24 se64 rfl rfl rfl)
noncomputable def E66 : Env := E65.put 130 (gNum sumL)
theorem se66 : SoundEnv [] Try.prog E66 := Env.put_sound se65 (snd130 se65)
noncomputable def E67 : Env := E66.put 26 gNorm
theorem se67 : SoundEnv [] Try.prog E67 := Env.put_sound se66 (snd26 se66 rfl rfl rfl rfl rfl rfl rfl)
noncomputable def E68 : Env := E67.put 81 gNormC
theorem se68 : SoundEnv [] Try.prog E68 := Env.put_sound se67 (snd81 se67 rfl rfl rfl rfl)
noncomputable def E69 : Env := E68.put 25 gNorm
theorem se69 : SoundEnv [] Try.prog E69 := Env.put_sound se68 (snd25 se68 rfl rfl)
noncomputable def E70 : Env := E69.put 70 gDraw3
theorem se70 : SoundEnv [] Try.prog E70 := Env.put_sound se69 (snd70 se69 rfl)
noncomputable def E71 : Env := E70.put 20 gList10
theorem se71 : SoundEnv [] Try.prog E71 := Env.put_sound se70 (snd20 se70 rfl rfl)
noncomputable def E72 : Env := E71.put 126 gShape1
theorem se72 : SoundEnv [] Try.prog E72 := Env.put_sound se71 (snd126 se71 rfl)
noncomputable def E73 : Env := E72.put 132 gShape1
theorem se73 : SoundEnv [] Try.prog E73 := Env.put_sound se72 (snd132 se72 rfl)
noncomputable def E74 : Env := E73.put 109 gNoSer
theorem se74 : SoundEnv [] Try.prog E74 := Env.put_sound se73 (snd109 se73 rfl)
noncomputable def E75 : Env := E74.put 136 gIndex2
theorem se75 : SoundEnv [] Try.prog E75 := Env.put_sound se74 (snd136 se74 rfl rfl rfl)
noncomputable def E76 : Env := E75.put 108 gAny2
theorem se76 : SoundEnv [] Try.prog E76 := Env.put_sound se75 (snd108 se75 rfl)
noncomputable def E77 : Env := E76.put 71 gShapes
theorem se77 : SoundEnv [] Try.prog E77 := Env.put_sound se76 (snd71 se76 rfl)
noncomputable def E78 : Env := E77.put 21 gNearest
theorem se78 : SoundEnv [] Try.prog E78 := Env.put_sound se77 (snd21 se77 rfl rfl rfl)
noncomputable def E79 : Env := E78.put 90 gAbs
theorem se79 : SoundEnv [] Try.prog E79 := Env.put_sound se78 (snd90' se78)
noncomputable def E80 : Env := E79.put 155 gAt2
theorem se80 : SoundEnv [] Try.prog E80 := Env.put_sound se79 (snd155 se79)
noncomputable def E81 : Env := E80.put 154 gBefore
theorem se81 : SoundEnv [] Try.prog E81 := Env.put_sound se80 (snd154 se80 rfl)
noncomputable def E82 : Env := E81.put 143 gWarped
theorem se82 : SoundEnv [] Try.prog E82 := Env.put_sound se81 (snd143 se81 rfl rfl rfl)
noncomputable def E83 : Env := E82.put 127 gCosts
theorem se83 : SoundEnv [] Try.prog E83 := Env.put_sound se82 (snd127 se82 rfl rfl rfl)
noncomputable def E84 : Env := E83.put 75 gWarpFar
theorem se84 : SoundEnv [] Try.prog E84 := Env.put_sound se83 (snd75 se83 rfl)
noncomputable def E85 : Env := E84.put 22 gNearWarp
theorem se85 : SoundEnv [] Try.prog E85 := Env.put_sound se84 (snd22 se84 rfl rfl rfl rfl)
theorem near_sound : Sound [] Try.prog 4 gNearLaw := snd4 se85 rfl rfl rfl rfl rfl rfl rfl rfl rfl rfl rfl

theorem snd4L {G : Env} (hG : SoundEnv [] Try.prog G) (h7 : G 7 = gLongL) : Sound [] Try.prog 4 gLawL := by
  refine sound_of (rs := [.tmp 4]) (n := 227) hG mix Try.func4 rfl rfl rfl (by kernel_rfl) (by decide +kernel) (by decide +kernel) ?_
  intro args H r H' h
  unfold gLawL at h
  split at h
  case h_2 => cases h
  rename_i a n c a' n' c'
  split at h
  case isFalse => cases h
  rename_i hl
  cases h
  refine ⟨by simp, ?_⟩
  simp (maxSteps := 10000000) only [↓exA, exB, exC, exN, exD, exR, tys, ↓reduceIte, Nat.reduceLT, Nat.reduceEqDiff, Nat.reduceAdd, Nat.zero_add, Nat.add_zero, List.map_cons, List.map_nil, Option.map_some, Option.map_none, Option.bind_some, List.length_cons, List.length_nil, List.cons_append, List.nil_append, List.append_nil, List.getElem?_cons_zero, List.getElem?_cons_succ, List.set_cons_zero, List.set_cons_succ, Nat.reduceLeDiff, and_self, and_true, true_and, gval, List.take_zero, List.take_succ_cons, List.drop_zero, List.drop_succ_cons, List.all_cons, List.all_nil, Bool.and_self, Bool.not_true, Bool.not_false, beq_true, beq_false, decide_true, decide_false, eq_self, Nat.reducePow, h7, gLongL_eq, hl]
  exact fits_bare rfl
theorem near_long : Sound [] Try.prog 4 gLawL := snd4L (G := E0.put 7 gLongL) (Env.put_sound se0 (snd7L se0)) rfl

end Go.Proofs.Ytnhhdgopgecggaa.Abs
