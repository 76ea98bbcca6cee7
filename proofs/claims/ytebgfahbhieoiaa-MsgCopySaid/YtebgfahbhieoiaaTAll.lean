/- The functions that the laws run, as one table of code; the law's own examples, which are closed, are run. -/
import Derived.Test.YtebgfahbhieoiaaIrAll0
import Derived.Test.YtebgfahbhieoiaaIrAll1
import Derived.Test.YtebgfahbhieoiaaIrAll2
namespace Go.Proofs.Ytebgfahbhieoiaa.IrAll
open Go Go.Proofs.Ytebgfahbhieoiaa.Am
def tabC : Nat → Option FD
  | 3 => some (.code ir3)
  | 4 => some (.code ir4)
  | 5 => some (.code ir5)
  | 6 => some (.code ir6)
  | 7 => some (.code ir7)
  | 8 => some (.code ir8)
  | 9 => some (.code ir9)
  | 10 => some (.code ir10)
  | 11 => some (.code ir11)
  | 12 => some (.code ir12)
  | 13 => some (.code ir13)
  | 14 => some (.code ir14)
  | 15 => some (.code ir15)
  | 16 => some (.code ir16)
  | 17 => some (.code ir17)
  | 18 => some (.code ir18)
  | 19 => some (.code ir19)
  | 20 => some (.code ir20)
  | 21 => some (.code ir21)
  | 22 => some (.code ir22)
  | 23 => some (.code ir23)
  | 24 => some (.code ir24)
  | 25 => some (.code ir25)
  | 26 => some (.code ir26)
  | 27 => some (.code ir27)
  | 28 => some (.code ir28)
  | 29 => some (.code ir29)
  | 30 => some (.code ir30)
  | 31 => some (.code ir31)
  | 32 => some (.code ir32)
  | 33 => some (.code ir33)
  | 34 => some (.code ir34)
  | 35 => some (.code ir35)
  | 36 => some (.code ir36)
  | 37 => some (.code ir37)
  | 38 => some (.code ir38)
  | 39 => some (.code ir39)
  | 40 => some (.code ir40)
  | 41 => some (.code ir41)
  | 42 => some (.code ir42)
  | 43 => some (.code ir43)
  | 44 => some (.code ir44)
  | 45 => some (.code ir45)
  | _ => none
theorem tabCOK : TabOK Try.prog tabC := by
  intro f d h
  unfold tabC at h
  split at h
  · cases h; exact ⟨hi3, ok3⟩
  · cases h; exact ⟨hi4, ok4⟩
  · cases h; exact ⟨hi5, ok5⟩
  · cases h; exact ⟨hi6, ok6⟩
  · cases h; exact ⟨hi7, ok7⟩
  · cases h; exact ⟨hi8, ok8⟩
  · cases h; exact ⟨hi9, ok9⟩
  · cases h; exact ⟨hi10, ok10⟩
  · cases h; exact ⟨hi11, ok11⟩
  · cases h; exact ⟨hi12, ok12⟩
  · cases h; exact ⟨hi13, ok13⟩
  · cases h; exact ⟨hi14, ok14⟩
  · cases h; exact ⟨hi15, ok15⟩
  · cases h; exact ⟨hi16, ok16⟩
  · cases h; exact ⟨hi17, ok17⟩
  · cases h; exact ⟨hi18, ok18⟩
  · cases h; exact ⟨hi19, ok19⟩
  · cases h; exact ⟨hi20, ok20⟩
  · cases h; exact ⟨hi21, ok21⟩
  · cases h; exact ⟨hi22, ok22⟩
  · cases h; exact ⟨hi23, ok23⟩
  · cases h; exact ⟨hi24, ok24⟩
  · cases h; exact ⟨hi25, ok25⟩
  · cases h; exact ⟨hi26, ok26⟩
  · cases h; exact ⟨hi27, ok27⟩
  · cases h; exact ⟨hi28, ok28⟩
  · cases h; exact ⟨hi29, ok29⟩
  · cases h; exact ⟨hi30, ok30⟩
  · cases h; exact ⟨hi31, ok31⟩
  · cases h; exact ⟨hi32, ok32⟩
  · cases h; exact ⟨hi33, ok33⟩
  · cases h; exact ⟨hi34, ok34⟩
  · cases h; exact ⟨hi35, ok35⟩
  · cases h; exact ⟨hi36, ok36⟩
  · cases h; exact ⟨hi37, ok37⟩
  · cases h; exact ⟨hi38, ok38⟩
  · cases h; exact ⟨hi39, ok39⟩
  · cases h; exact ⟨hi40, ok40⟩
  · cases h; exact ⟨hi41, ok41⟩
  · cases h; exact ⟨hi42, ok42⟩
  · cases h; exact ⟨hi43, ok43⟩
  · cases h; exact ⟨hi44, ok44⟩
  · cases h; exact ⟨hi45, ok45⟩
  · cases h
theorem mixed : Try.prog.follows .mixedOrders = true := by kernel_rfl
theorem dOK : DrawOK Try.prog := drawOK mixed
def isT : Option (Value × H) → Bool
  | some (.bool true, _) => true
  | _ => false
theorem isT_some {x : Option (Value × H)} (h : isT x = true) : ∃ h2, x = some (.bool true, h2) := by
  unfold isT at h
  split at h
  · exact ⟨_, rfl⟩
  · cases h
theorem awakeRan : isT (runE tabC 4000 14 [] ⟨.leaf, 0⟩) = true := by decide +kernel
def gAw : List Value → H → Option (Value × H) := fun us h => if us = [] then some (.bool true, h) else none
theorem sAw : SoundF Try.prog 14 gAw := by
  obtain ⟨h2, hr⟩ := isT_some awakeRan
  exact SoundF.closed dOK tabCOK (v := .bool true) rfl ⟨4000, hr⟩
def tab0 : Nat → Option FD := fun f => if f = 14 then some (.spec gAw) else tabC f
theorem tab0OK : TabOK Try.prog tab0 := by
  intro f d h
  unfold tab0 at h
  split at h
  · rename_i e; subst e; cases h; exact sAw
  · exact tabCOK f d h
theorem awake_run (h : H) : Ran tab0 14 [] h (.bool true) h := Ran.spec (g := gAw) rfl rfl
end Go.Proofs.Ytebgfahbhieoiaa.IrAll
