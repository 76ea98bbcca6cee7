/- The law 'PagesKnown' returns true, whatever the world: the abstract machine runs it, and its answers are the model's. -/
import Derived.Test.YtfnhhelbegnopaaIrPagesKnown0
import Derived.Test.YtfnhhelbegnopaaRows
import Derived.WalkKit
import Derived.ProofKit
import Derived.OpenShut
import Derived.ShutString
import Derived.ChangeOld
import Derived.Below
import Derived.SizedLaws
namespace Go.Proofs.Ytfnhhelbegnopaa.IrPagesKnown
open Go Go.Proofs.Ytfnhhelbegnopaa.Am
def tab : Nat → Option FD
  | 3 => some (.code ir3)
  | 8 => some (.code ir8)
  | 9 => some (.code ir9)
  | 10 => some (.code ir10)
  | 11 => some (.code ir11)
  | 12 => some (.code ir12)
  | 13 => some (.code ir13)
  | 14 => some (.code ir14)
  | 15 => some (.code ir15)
  | 16 => some (.code ir16)
  | 27 => some (.code ir27)
  | 28 => some (.code ir28)
  | 29 => some (.code ir29)
  | 30 => some (.code ir30)
  | 31 => some (.code ir31)
  | 32 => some (.code ir32)
  | 35 => some (.code ir35)
  | 36 => some (.code ir36)
  | 37 => some (.code ir37)
  | 38 => some (.code ir38)
  | 40 => some (.code ir40)
  | 42 => some (.code ir42)
  | 43 => some (.code ir43)
  | 44 => some (.code ir44)
  | 45 => some (.code ir45)
  | 46 => some (.code ir46)
  | 47 => some (.code ir47)
  | 48 => some (.code ir48)
  | 49 => some (.code ir49)
  | _ => none
theorem tabOK : TabOK Try.prog tab := by
  intro f d h
  unfold tab at h
  split at h
  · cases h; exact ⟨hi3, ok3⟩
  · cases h; exact ⟨hi8, ok8⟩
  · cases h; exact ⟨hi9, ok9⟩
  · cases h; exact ⟨hi10, ok10⟩
  · cases h; exact ⟨hi11, ok11⟩
  · cases h; exact ⟨hi12, ok12⟩
  · cases h; exact ⟨hi13, ok13⟩
  · cases h; exact ⟨hi14, ok14⟩
  · cases h; exact ⟨hi15, ok15⟩
  · cases h; exact ⟨hi16, ok16⟩
  · cases h; exact ⟨hi27, ok27⟩
  · cases h; exact ⟨hi28, ok28⟩
  · cases h; exact ⟨hi29, ok29⟩
  · cases h; exact ⟨hi30, ok30⟩
  · cases h; exact ⟨hi31, ok31⟩
  · cases h; exact ⟨hi32, ok32⟩
  · cases h; exact ⟨hi35, ok35⟩
  · cases h; exact ⟨hi36, ok36⟩
  · cases h; exact ⟨hi37, ok37⟩
  · cases h; exact ⟨hi38, ok38⟩
  · cases h; exact ⟨hi40, ok40⟩
  · cases h; exact ⟨hi42, ok42⟩
  · cases h; exact ⟨hi43, ok43⟩
  · cases h; exact ⟨hi44, ok44⟩
  · cases h; exact ⟨hi45, ok45⟩
  · cases h; exact ⟨hi46, ok46⟩
  · cases h; exact ⟨hi47, ok47⟩
  · cases h; exact ⟨hi48, ok48⟩
  · cases h; exact ⟨hi49, ok49⟩
  · cases h
def isT : Option (Value × H) → Bool
  | some (.bool true, _) => true
  | _ => false
theorem isT_some {x : Option (Value × H)} (h : isT x = true) : ∃ h2, x = some (.bool true, h2) := by
  unfold isT at h
  split at h
  · exact ⟨_, rfl⟩
  · cases h
theorem ran : isT (runE tab 4000 3 [] ⟨.leaf, 0⟩) = true := by decide +kernel
theorem mixed : Try.prog.follows .mixedOrders = true := by kernel_rfl
theorem get_leaf (n : Nat) : H.get ⟨.leaf, 0⟩ n = none := rfl
theorem walk (W : World) : Calls Try.prog 3 #[] W fun e W' => e = .returned (.bool true) ∧ Go.RowKit.Below W.heap.size W W' := by
  obtain ⟨h2, hr⟩ := isT_some ran
  have R : Rel W.heap.size (fun _ => none) ⟨.leaf, 0⟩ W := ⟨fun n B e => by (rw [get_leaf] at e; cases e), fun n m Bn Bm L M e => by (rw [get_leaf] at e; cases e), fun _ _ => rfl, Nat.le_refl _, fun n B L e => by (rw [get_leaf] at e; cases e)⟩
  refine (run_table (drawOK mixed) tabOK 4000 3 W.heap.size _ _ W [] [] _ _ hr (VL.nil _) R).2.mono fun e W' he => ?_
  obtain ⟨r2, v', rfl, hv, _, F, _⟩ := he
  cases hv
  exact ⟨rfl, F.below R⟩
end Go.Proofs.Ytfnhhelbegnopaa.IrPagesKnown
namespace Go.Proofs.Ytfnhhelbegnopaa.pagesKnown
open Go.ChangeShapes Go.WideShapes Go.ChangeAt Go.RowKit
open Go.ChangeMaps (open_string shut_string)
set_option linter.unusedVariables false
theorem own : ownKnob Try.prog.godebug = none := by kernel_rfl
set_option maxRecDepth 100000 in
theorem lifted (os : Os) (started : os.Started) (H : Type) (enc : TypeId × Value → H) :
    ReturnsInHanded {} Try.checked os 3 .any (Rows.pagesKnownSpec.pre6 enc Try.prog Try.f3 Rows.pagesKnownRow.domain false) (Rows.pagesKnownSpec.post enc Try.prog Try.f3 false true false false) := by
  refine returnsInHanded_of_change_sized (C := Try.checked) own started (by kernel_rfl) Try.func3
    (ChangeSpec.witness6 (enc := enc) (C := Try.checked) false ⟨#[], #[], []⟩ 8 (by kernel_rfl) (by kernel_rfl) (by kernel_rfl) (by kernel_rfl)) ?_
  intro W base args ds gs before hval0 hW hcnd hsz0 _
  have hsz : (DataW.weightsEach Try.prog (Try.f3.params.toList ++ Rows.pagesKnownSpec.plain.varTypes Try.prog) (ds ++ gs)).all (· ≤ reachBytes) = true := hsz0
  have hval : ∀ (j : Nat) t v, Try.f3.params[j]? = some t → args[j]? = some v → Value.okWide Try.prog W .any base t v := hval0
  have hW' := hW
  obtain ⟨p, q, hA0, hV, rfl, hfz, hnd⟩ := hW
  have hA : DataW.TrodAll enc Try.prog W 0 (fun _ => true) true Try.f3.params.toList args.toList ds p := hA0
  rw [Try.params3] at hA hval hsz
  obtain ⟨rfl, rfl, rfl⟩ := trodAll_none hA
  obtain ⟨rfl, rfl⟩ := trodVars_none hV
  clear hA0 hval0 hsz0 hsz
  refine (IrPagesKnown.walk W).mono fun e W' ⟨he, bel⟩ => ?_
  subst he
  exact ⟨_, rfl, _, _, _, [], _, [], hW', trodAll_mk1 (shut_bool Try.underlying4 _), trodAll_mk0, rfl, bel.frame _, fun h => by cases h⟩
theorem over : Rows.pagesKnownRow.holds Try.pinned (OpenSpec.ofChange Rows.pagesKnownSpec) :=
  OpenClaim.holds_of_wide 3 Try.f3 rfl rfl rfl rfl rfl rfl rfl ⟨rfl, rfl, rfl, rfl, rfl⟩ rfl rfl rfl rfl rfl (by kernel_rfl) Try.func3 (by kernel_rfl)
    (of_decide_eq_true (by kernel_rfl)) (by unfold Func.isWrapper; first | (rw [if_pos (by decide +kernel)]; kernel_rfl) | (rw [if_neg (by decide +kernel)]; exact ⟨rfl, rfl⟩))
    (fun os started H enc _ => lifted os started H enc)
theorem proved : Rows.PagesKnownSaid := over
end Go.Proofs.Ytfnhhelbegnopaa.pagesKnown
namespace Go.Proofs.Ytfnhhelbegnopaa
/-- The row, under a short name, for the claim. -/
theorem pagesKnown_holds : Rows.PagesKnownSaid := pagesKnown.proved
end Go.Proofs.Ytfnhhelbegnopaa
