/- The contracts of all functions that FnTrends calls, put together. No condition. -/
import Derived.Test.YtnhhdgopgecggaaFk
set_option linter.unusedVariables false
set_option maxRecDepth 100000
namespace Go.Proofs.Ytnhhdgopgecggaa.Abs
open Go

def E0 : Env := Env.none
theorem se0 : SoundEnv [] Try.prog E0 := Env.none_sound _ _
theorem test_cases {P : Nat → (Nat → Bool) → Prop} (h1 : ∀ p, test 121 = some p → P 121 p) (h2 : ∀ p, test 122 = some p → P 122 p) (h3 : ∀ p, test 123 = some p → P 123 p) : ∀ k p, test k = some p → P k p := by
  intro k p h
  by_cases e1 : k = 121
  · subst e1; exact h1 p h
  · by_cases e2 : k = 122
    · subst e2; exact h2 p h
    · by_cases e3 : k = 123
      · subst e3; exact h3 p h
      · simp [test, e1, e2, e3] at h
theorem eqTest_cases {P : Nat → (Nat → Nat → Bool) → Prop} (h1 : P 65 sameI) : ∀ k q, eqTest k = some q → P k q := by
  intro k q h
  unfold eqTest at h
  split at h
  · rename_i e; subst e; cases h; exact h1
  · cases h
def E1 : Env := E0.put 67 gFin
theorem se1 : SoundEnv [] Try.prog E1 := Env.put_sound se0 (snd67 se0)
def E2 : Env := E1.put 68 gFin
theorem se2 : SoundEnv [] Try.prog E2 := Env.put_sound se1 (snd68 se1)
def E3 : Env := E2.put 121 (gTest 121)
theorem se3 : SoundEnv [] Try.prog E3 := Env.put_sound se2 (snd121 se2 rfl)
def E4 : Env := E3.put 122 (gTest 122)
theorem se4 : SoundEnv [] Try.prog E4 := Env.put_sound se3 (snd122 se3 rfl)
def E5 : Env := E4.put 123 (gTest 123)
theorem se5 : SoundEnv [] Try.prog E5 := Env.put_sound se4 (snd123 se4 rfl)
def E6 : Env := E5.put 140 gIndex
theorem se6 : SoundEnv [] Try.prog E6 := Env.put_sound se5 (snd140 se5 (test_cases (fun _ _ => rfl) (fun _ _ => rfl) (fun _ _ => rfl)))
def E7 : Env := E6.put 120 gAny
theorem se7 : SoundEnv [] Try.prog E7 := Env.put_sound se6 (snd120 se6 rfl)
def E8 : Env := E7.put 60 (gList allFin)
theorem se8 : SoundEnv [] Try.prog E8 := Env.put_sound se7 (snd60 se7 rfl)
def E9 : Env := E8.put 62 (gList allGe)
theorem se9 : SoundEnv [] Try.prog E9 := Env.put_sound se8 (snd62 se8 rfl)
def E10 : Env := E9.put 63 (gList allGt)
theorem se10 : SoundEnv [] Try.prog E10 := Env.put_sound se9 (snd63 se9 rfl)
def E11 : Env := E10.put 61 gNumbers
theorem se11 : SoundEnv [] Try.prog E11 := Env.put_sound se10 (snd61 se10)
def E12 : Env := E11.put 13 gValid
theorem se12 : SoundEnv [] Try.prog E12 := Env.put_sound se11 (snd13 se11 rfl rfl rfl rfl)
def E13 : Env := E12.put 141 gBits64
theorem se13 : SoundEnv [] Try.prog E13 := Env.put_sound se12 (snd141)
def E14 : Env := E13.put 142 gBits32
theorem se14 : SoundEnv [] Try.prog E14 := Env.put_sound se13 (snd142)
def E15 : Env := E14.put 124 gSign
theorem se15 : SoundEnv [] Try.prog E15 := Env.put_sound se14 (snd124 se14 rfl)
def E16 : Env := E15.put 65 (gTwo sameI)
theorem se16 : SoundEnv [] Try.prog E16 := Env.put_sound se15 (snd65 se15 rfl)
def E17 : Env := E16.put 64 gEqual
theorem se17 : SoundEnv [] Try.prog E17 := Env.put_sound se16 (snd64 se16 (eqTest_cases rfl))
def E18 : Env := E17.put 14 gSameTr
theorem se18 : SoundEnv [] Try.prog E18 := Env.put_sound se17 (snd14 se17 rfl rfl)
def E19 : Env := E18.put 125 gBits
theorem se19 : SoundEnv [] Try.prog E19 := Env.put_sound se18 (snd125 se18 rfl)
def E20 : Env := E19.put 66 (gTwo sameS)
theorem se20 : SoundEnv [] Try.prog E20 := Env.put_sound se19 (snd66 se19 rfl)
def E21 : Env := E20.put 15 (gTwo sameS)
theorem se21 : SoundEnv [] Try.prog E21 := Env.put_sound se20 (snd15 se20 rfl)
def E22 : Env := E21.put 16 gSameL
theorem se22 : SoundEnv [] Try.prog E22 := Env.put_sound se21 (snd16 se21 rfl)
def E23 : Env := E22.put 118 (gOne least)
theorem se23 : SoundEnv [] Try.prog E23 := Env.put_sound se22 (snd118 se22 rfl)
def E24 : Env := E23.put 119 (gOne above)
theorem se24 : SoundEnv [] Try.prog E24 := Env.put_sound se23 (snd119 se23 rfl)
def E25 : Env := E24.put 69 gPos
theorem se25 : SoundEnv [] Try.prog E25 := Env.put_sound se24 (snd69 se24)
def E26 : Env := E25.put 106 gWithin
theorem se26 : SoundEnv [] Try.prog E26 := Env.put_sound se25 (snd106 se25)
def E27 : Env := E26.put 55 gForth
theorem se27 : SoundEnv [] Try.prog E27 := Env.put_sound se26 (snd55 se26 rfl)
def E28 : Env := E27.put 17 gGap
theorem se28 : SoundEnv [] Try.prog E28 := Env.put_sound se27 (snd17 se27)
def E29 : Env := E28.put 113 (gList allFin)
theorem se29 : SoundEnv [] Try.prog E29 := Env.put_sound se28 (snd113 se28 rfl)
def E30 : Env := E29.put 78 (gList series)
theorem se30 : SoundEnv [] Try.prog E30 := Env.put_sound se29 (snd78 se29 rfl)
def E31 : Env := E30.put 57 (gList series)
theorem se31 : SoundEnv [] Try.prog E31 := Env.put_sound se30 (snd57 se30 rfl)
def E32 : Env := E31.put 59 gSeen
theorem se32 : SoundEnv [] Try.prog E32 := Env.put_sound se31 (snd59 se31 rfl)
def E33 : Env := E32.put 58 gValidS
theorem se33 : SoundEnv [] Try.prog E33 := Env.put_sound se32 (snd58 se32 rfl rfl rfl)
def E34 : Env := E33.put 56 gIfAll
theorem se34 : SoundEnv [] Try.prog E34 := Env.put_sound se33 (snd56 se33 rfl)
def E35 : Env := E34.put 7 gLong
theorem se35 : SoundEnv [] Try.prog E35 := Env.put_sound se34 (snd7 se34)
def E36 : Env := E35.put 9 gAt
theorem se36 : SoundEnv [] Try.prog E36 := Env.put_sound se35 (snd9 se35)
def E37 : Env := E36.put 139 gNext
theorem se37 : SoundEnv [] Try.prog E37 := Env.put_sound se36 (snd139 se36)
def E38 : Env := E37.put 117 gPick
theorem se38 : SoundEnv [] Try.prog E38 := Env.put_sound se37 (snd117 se37 rfl)
def E39 : Env := E38.put 53 gFrom
theorem se39 : SoundEnv [] Try.prog E39 := Env.put_sound se38 (snd53 se38)
def E40 : Env := E39.put 54 gDrawT
theorem se40 : SoundEnv [] Try.prog E40 := Env.put_sound se39 (snd54 se39 rfl)
def E41 : Env := E40.put 8 gTrendB
theorem se41 : SoundEnv [] Try.prog E41 := Env.put_sound se40 (snd8 se40 rfl rfl)
def E42 : Env := E41.put 18 gStep
theorem se42 : SoundEnv [] Try.prog E42 := Env.put_sound se41 (snd18 se41 rfl rfl)
def E43 : Env := E42.put 19 gStep
theorem se43 : SoundEnv [] Try.prog E43 := Env.put_sound se42 (snd19 se42 rfl rfl rfl)
def E44 : Env := E43.put 11 gRun
theorem se44 : SoundEnv [] Try.prog E44 := Env.put_sound se43 (snd11 se43 rfl rfl rfl)
def E45 : Env := E44.put 12 gRun
theorem se45 : SoundEnv [] Try.prog E45 := Env.put_sound se44 (snd12 se44 rfl rfl rfl)
def E46 : Env := E45.put 10 gAhead
theorem se46 : SoundEnv [] Try.prog E46 := Env.put_sound se45 (snd10 se45 rfl rfl rfl)
theorem trends_sound : Sound [] Try.prog 3 gTrends := snd3 se46 rfl rfl rfl rfl rfl rfl rfl rfl rfl rfl rfl rfl rfl

end Go.Proofs.Ytnhhdgopgecggaa.Abs
