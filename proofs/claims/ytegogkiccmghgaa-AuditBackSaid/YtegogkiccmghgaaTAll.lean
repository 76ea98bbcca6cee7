/- The functions that the laws run, as one table of code; the law's own examples, which are closed, are run. -/
import Derived.Test.YtegogkiccmghgaaIrAll0
import Derived.Test.YtegogkiccmghgaaIrAll1
namespace Go.Proofs.Ytegogkiccmghgaa.IrAll
open Go Go.Proofs.Ytegogkiccmghgaa.Am
def tabC : Nat → Option FD
  | 3 => some (.code ir3)
  | 4 => some (.code ir4)
  | 5 => some (.code ir5)
  | 6 => some (.code ir6)
  | 7 => some (.code ir7)
  | 8 => some (.code ir8)
  | 9 => some (.code ir9)
  | 10 => some (.code ir10)
  | 11 => some (.code ir11)
  | 12 => some (.code ir12)
  | 13 => some (.code ir13)
  | 14 => some (.code ir14)
  | 15 => some (.code ir15)
  | 16 => some (.code ir16)
  | 17 => some (.code ir17)
  | 18 => some (.code ir18)
  | 19 => some (.code ir19)
  | 20 => some (.code ir20)
  | 21 => some (.code ir21)
  | 22 => some (.code ir22)
  | 23 => some (.code ir23)
  | _ => none
theorem tabCOK : TabOK Try.prog tabC := by
  intro f d h
  unfold tabC at h
  split at h
  · cases h; exact ⟨hi3, ok3⟩
  · cases h; exact ⟨hi4, ok4⟩
  · cases h; exact ⟨hi5, ok5⟩
  · cases h; exact ⟨hi6, ok6⟩
  · cases h; exact ⟨hi7, ok7⟩
  · cases h; exact ⟨hi8, ok8⟩
  · cases h; exact ⟨hi9, ok9⟩
  · cases h; exact ⟨hi10, ok10⟩
  · cases h; exact ⟨hi11, ok11⟩
  · cases h; exact ⟨hi12, ok12⟩
  · cases h; exact ⟨hi13, ok13⟩
  · cases h; exact ⟨hi14, ok14⟩
  · cases h; exact ⟨hi15, ok15⟩
  · cases h; exact ⟨hi16, ok16⟩
  · cases h; exact ⟨hi17, ok17⟩
  · cases h; exact ⟨hi18, ok18⟩
  · cases h; exact ⟨hi19, ok19⟩
  · cases h; exact ⟨hi20, ok20⟩
  · cases h; exact ⟨hi21, ok21⟩
  · cases h; exact ⟨hi22, ok22⟩
  · cases h; exact ⟨hi23, ok23⟩
  · cases h
theorem mixed : Try.prog.follows .mixedOrders = true := by kernel_rfl
theorem dOK : DrawOK Try.prog := drawOK mixed
def isT : Option (Value × H) → Bool
  | some (.bool true, _) => true
  | _ => false
theorem isT_some {x : Option (Value × H)} (h : isT x = true) : ∃ h2, x = some (.bool true, h2) := by
  unfold isT at h
  split at h
  · exact ⟨_, rfl⟩
  · cases h
theorem awakeRan : isT (runE tabC 4000 8 [] ⟨.leaf, 0⟩) = true := by decide +kernel
def gAw : List Value → H → Option (Value × H) := fun us h => if us = [] then some (.bool true, h) else none
theorem sAw : SoundF Try.prog 8 gAw := by
  obtain ⟨h2, hr⟩ := isT_some awakeRan
  exact SoundF.closed dOK tabCOK (v := .bool true) rfl ⟨4000, hr⟩
def tab0 : Nat → Option FD := fun f => if f = 8 then some (.spec gAw) else tabC f
theorem tab0OK : TabOK Try.prog tab0 := by
  intro f d h
  unfold tab0 at h
  split at h
  · rename_i e; subst e; cases h; exact sAw
  · exact tabCOK f d h
theorem awake_run (h : H) : Ran tab0 8 [] h (.bool true) h := Ran.spec (g := gAw) rfl rfl
end Go.Proofs.Ytegogkiccmghgaa.IrAll
