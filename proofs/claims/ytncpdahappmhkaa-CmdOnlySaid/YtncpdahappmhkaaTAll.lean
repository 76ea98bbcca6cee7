/- The functions that the laws run, as one table of code; the law's own examples, which are closed, are run. -/
import Derived.Test.YtncpdahappmhkaaIrAll0
import Derived.Test.YtncpdahappmhkaaIrAll1
import Derived.Test.YtncpdahappmhkaaIrAll2
import Derived.Test.YtncpdahappmhkaaIrAll3
import Derived.Test.YtncpdahappmhkaaIrAll4
namespace Go.Proofs.Ytncpdahappmhkaa.IrAll
open Go Go.Proofs.Ytncpdahappmhkaa.Am
def tabC : Nat → Option FD
  | 3 => some (.code ir3)
  | 4 => some (.code ir4)
  | 5 => some (.code ir5)
  | 6 => some (.code ir6)
  | 7 => some (.code ir7)
  | 8 => some (.code ir8)
  | 9 => some (.code ir9)
  | 10 => some (.code ir10)
  | 11 => some (.code ir11)
  | 12 => some (.code ir12)
  | 13 => some (.code ir13)
  | 14 => some (.code ir14)
  | 15 => some (.code ir15)
  | 16 => some (.code ir16)
  | 17 => some (.code ir17)
  | 18 => some (.code ir18)
  | 19 => some (.code ir19)
  | 20 => some (.code ir20)
  | 21 => some (.code ir21)
  | 22 => some (.code ir22)
  | 23 => some (.code ir23)
  | 24 => some (.code ir24)
  | 25 => some (.code ir25)
  | 26 => some (.code ir26)
  | 27 => some (.code ir27)
  | 28 => some (.code ir28)
  | 29 => some (.code ir29)
  | 30 => some (.code ir30)
  | 31 => some (.code ir31)
  | 32 => some (.code ir32)
  | 33 => some (.code ir33)
  | 34 => some (.code ir34)
  | 35 => some (.code ir35)
  | 36 => some (.code ir36)
  | 37 => some (.code ir37)
  | 38 => some (.code ir38)
  | 39 => some (.code ir39)
  | 40 => some (.code ir40)
  | 41 => some (.code ir41)
  | 42 => some (.code ir42)
  | 43 => some (.code ir43)
  | 44 => some (.code ir44)
  | 45 => some (.code ir45)
  | 46 => some (.code ir46)
  | 47 => some (.code ir47)
  | 48 => some (.code ir48)
  | 49 => some (.code ir49)
  | 50 => some (.code ir50)
  | 51 => some (.code ir51)
  | 52 => some (.code ir52)
  | 53 => some (.code ir53)
  | 54 => some (.code ir54)
  | 55 => some (.code ir55)
  | 56 => some (.code ir56)
  | 57 => some (.code ir57)
  | 58 => some (.code ir58)
  | 59 => some (.code ir59)
  | 60 => some (.code ir60)
  | 61 => some (.code ir61)
  | 62 => some (.code ir62)
  | 63 => some (.code ir63)
  | 64 => some (.code ir64)
  | 65 => some (.code ir65)
  | 66 => some (.code ir66)
  | 67 => some (.code ir67)
  | 68 => some (.code ir68)
  | 69 => some (.code ir69)
  | 70 => some (.code ir70)
  | 86 => some (.code ir86)
  | 87 => some (.code ir87)
  | 88 => some (.code ir88)
  | 89 => some (.code ir89)
  | 90 => some (.code ir90)
  | 91 => some (.code ir91)
  | 92 => some (.code ir92)
  | 93 => some (.code ir93)
  | 94 => some (.code ir94)
  | 95 => some (.code ir95)
  | 96 => some (.code ir96)
  | 97 => some (.code ir97)
  | 98 => some (.code ir98)
  | _ => none
theorem tabCOK : TabOK Try.prog tabC := by
  intro f d h
  unfold tabC at h
  split at h
  · cases h; exact ⟨hi3, ok3⟩
  · cases h; exact ⟨hi4, ok4⟩
  · cases h; exact ⟨hi5, ok5⟩
  · cases h; exact ⟨hi6, ok6⟩
  · cases h; exact ⟨hi7, ok7⟩
  · cases h; exact ⟨hi8, ok8⟩
  · cases h; exact ⟨hi9, ok9⟩
  · cases h; exact ⟨hi10, ok10⟩
  · cases h; exact ⟨hi11, ok11⟩
  · cases h; exact ⟨hi12, ok12⟩
  · cases h; exact ⟨hi13, ok13⟩
  · cases h; exact ⟨hi14, ok14⟩
  · cases h; exact ⟨hi15, ok15⟩
  · cases h; exact ⟨hi16, ok16⟩
  · cases h; exact ⟨hi17, ok17⟩
  · cases h; exact ⟨hi18, ok18⟩
  · cases h; exact ⟨hi19, ok19⟩
  · cases h; exact ⟨hi20, ok20⟩
  · cases h; exact ⟨hi21, ok21⟩
  · cases h; exact ⟨hi22, ok22⟩
  · cases h; exact ⟨hi23, ok23⟩
  · cases h; exact ⟨hi24, ok24⟩
  · cases h; exact ⟨hi25, ok25⟩
  · cases h; exact ⟨hi26, ok26⟩
  · cases h; exact ⟨hi27, ok27⟩
  · cases h; exact ⟨hi28, ok28⟩
  · cases h; exact ⟨hi29, ok29⟩
  · cases h; exact ⟨hi30, ok30⟩
  · cases h; exact ⟨hi31, ok31⟩
  · cases h; exact ⟨hi32, ok32⟩
  · cases h; exact ⟨hi33, ok33⟩
  · cases h; exact ⟨hi34, ok34⟩
  · cases h; exact ⟨hi35, ok35⟩
  · cases h; exact ⟨hi36, ok36⟩
  · cases h; exact ⟨hi37, ok37⟩
  · cases h; exact ⟨hi38, ok38⟩
  · cases h; exact ⟨hi39, ok39⟩
  · cases h; exact ⟨hi40, ok40⟩
  · cases h; exact ⟨hi41, ok41⟩
  · cases h; exact ⟨hi42, ok42⟩
  · cases h; exact ⟨hi43, ok43⟩
  · cases h; exact ⟨hi44, ok44⟩
  · cases h; exact ⟨hi45, ok45⟩
  · cases h; exact ⟨hi46, ok46⟩
  · cases h; exact ⟨hi47, ok47⟩
  · cases h; exact ⟨hi48, ok48⟩
  · cases h; exact ⟨hi49, ok49⟩
  · cases h; exact ⟨hi50, ok50⟩
  · cases h; exact ⟨hi51, ok51⟩
  · cases h; exact ⟨hi52, ok52⟩
  · cases h; exact ⟨hi53, ok53⟩
  · cases h; exact ⟨hi54, ok54⟩
  · cases h; exact ⟨hi55, ok55⟩
  · cases h; exact ⟨hi56, ok56⟩
  · cases h; exact ⟨hi57, ok57⟩
  · cases h; exact ⟨hi58, ok58⟩
  · cases h; exact ⟨hi59, ok59⟩
  · cases h; exact ⟨hi60, ok60⟩
  · cases h; exact ⟨hi61, ok61⟩
  · cases h; exact ⟨hi62, ok62⟩
  · cases h; exact ⟨hi63, ok63⟩
  · cases h; exact ⟨hi64, ok64⟩
  · cases h; exact ⟨hi65, ok65⟩
  · cases h; exact ⟨hi66, ok66⟩
  · cases h; exact ⟨hi67, ok67⟩
  · cases h; exact ⟨hi68, ok68⟩
  · cases h; exact ⟨hi69, ok69⟩
  · cases h; exact ⟨hi70, ok70⟩
  · cases h; exact ⟨hi86, ok86⟩
  · cases h; exact ⟨hi87, ok87⟩
  · cases h; exact ⟨hi88, ok88⟩
  · cases h; exact ⟨hi89, ok89⟩
  · cases h; exact ⟨hi90, ok90⟩
  · cases h; exact ⟨hi91, ok91⟩
  · cases h; exact ⟨hi92, ok92⟩
  · cases h; exact ⟨hi93, ok93⟩
  · cases h; exact ⟨hi94, ok94⟩
  · cases h; exact ⟨hi95, ok95⟩
  · cases h; exact ⟨hi96, ok96⟩
  · cases h; exact ⟨hi97, ok97⟩
  · cases h; exact ⟨hi98, ok98⟩
  · cases h
theorem mixed : Try.prog.follows .mixedOrders = true := by kernel_rfl
theorem dOK : DrawOK Try.prog := drawOK mixed
def isT : Option (Value × H) → Bool
  | some (.bool true, _) => true
  | _ => false
theorem isT_some {x : Option (Value × H)} (h : isT x = true) : ∃ h2, x = some (.bool true, h2) := by
  unfold isT at h
  split at h
  · exact ⟨_, rfl⟩
  · cases h
theorem awakeRan : isT (runE tabC 4000 11 [] ⟨.leaf, 0⟩) = true := by decide +kernel
def gAw : List Value → H → Option (Value × H) := fun us h => if us = [] then some (.bool true, h) else none
theorem sAw : SoundF Try.prog 11 gAw := by
  obtain ⟨h2, hr⟩ := isT_some awakeRan
  exact SoundF.closed dOK tabCOK (v := .bool true) rfl ⟨4000, hr⟩
def tab0 : Nat → Option FD := fun f => if f = 11 then some (.spec gAw) else tabC f
theorem tab0OK : TabOK Try.prog tab0 := by
  intro f d h
  unfold tab0 at h
  split at h
  · rename_i e; subst e; cases h; exact sAw
  · exact tabCOK f d h
theorem awake_run (h : H) : Ran tab0 11 [] h (.bool true) h := Ran.spec (g := gAw) rfl rfl
end Go.Proofs.Ytncpdahappmhkaa.IrAll
