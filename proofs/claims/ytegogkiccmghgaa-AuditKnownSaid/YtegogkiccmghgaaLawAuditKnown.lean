/- The law 'AuditKnown' returns true, whatever the world: the abstract machine runs it, and its answers are the model's. -/
import Derived.Test.YtegogkiccmghgaaIrAuditKnown0
import Derived.Test.YtegogkiccmghgaaRows
import Derived.WalkKit
import Derived.ProofKit
import Derived.OpenShut
import Derived.ShutString
import Derived.ChangeOld
import Derived.Below
import Derived.SizedLaws
namespace Go.Proofs.Ytegogkiccmghgaa.IrAuditKnown
open Go Go.Proofs.Ytegogkiccmghgaa.Am
def tab : Nat → Option FD
  | 4 => some (.code ir4)
  | 8 => some (.code ir8)
  | 9 => some (.code ir9)
  | 10 => some (.code ir10)
  | 13 => some (.code ir13)
  | 15 => some (.code ir15)
  | 16 => some (.code ir16)
  | 18 => some (.code ir18)
  | 20 => some (.code ir20)
  | 22 => some (.code ir22)
  | _ => none
theorem tabOK : TabOK Try.prog tab := by
  intro f d h
  unfold tab at h
  split at h
  · cases h; exact ⟨hi4, ok4⟩
  · cases h; exact ⟨hi8, ok8⟩
  · cases h; exact ⟨hi9, ok9⟩
  · cases h; exact ⟨hi10, ok10⟩
  · cases h; exact ⟨hi13, ok13⟩
  · cases h; exact ⟨hi15, ok15⟩
  · cases h; exact ⟨hi16, ok16⟩
  · cases h; exact ⟨hi18, ok18⟩
  · cases h; exact ⟨hi20, ok20⟩
  · cases h; exact ⟨hi22, ok22⟩
  · cases h
def isT : Option (Value × H) → Bool
  | some (.bool true, _) => true
  | _ => false
theorem isT_some {x : Option (Value × H)} (h : isT x = true) : ∃ h2, x = some (.bool true, h2) := by
  unfold isT at h
  split at h
  · exact ⟨_, rfl⟩
  · cases h
theorem ran : isT (runE tab 4000 4 [] ⟨.leaf, 0⟩) = true := by decide +kernel
theorem mixed : Try.prog.follows .mixedOrders = true := by kernel_rfl
theorem get_leaf (n : Nat) : H.get ⟨.leaf, 0⟩ n = none := rfl
theorem walk (W : World) : Calls Try.prog 4 #[] W fun e W' => e = .returned (.bool true) ∧ Go.RowKit.Below W.heap.size W W' := by
  obtain ⟨h2, hr⟩ := isT_some ran
  have R : Rel W.heap.size (fun _ => none) ⟨.leaf, 0⟩ W := ⟨fun n B e => by (rw [get_leaf] at e; cases e), fun n m Bn Bm L M e => by (rw [get_leaf] at e; cases e), fun _ _ => rfl, Nat.le_refl _, fun n B L e => by (rw [get_leaf] at e; cases e)⟩
  refine (run_table (drawOK mixed) tabOK 4000 4 W.heap.size _ _ W [] [] _ _ hr (VL.nil _) R).2.mono fun e W' he => ?_
  obtain ⟨r2, v', rfl, hv, _, F, _⟩ := he
  cases hv
  exact ⟨rfl, F.below R⟩
end Go.Proofs.Ytegogkiccmghgaa.IrAuditKnown
namespace Go.Proofs.Ytegogkiccmghgaa.auditKnown
open Go.ChangeShapes Go.WideShapes Go.ChangeAt Go.RowKit
open Go.ChangeMaps (open_string shut_string)
set_option linter.unusedVariables false
theorem own : ownKnob Try.prog.godebug = none := by kernel_rfl
set_option maxRecDepth 100000 in
theorem lifted (os : Os) (started : os.Started) (H : Type) (enc : TypeId × Value → H) :
    ReturnsInHanded {} Try.checked os 4 .any (Rows.auditKnownSpec.pre6 enc Try.prog Try.f4 Rows.auditKnownRow.domain false) (Rows.auditKnownSpec.post enc Try.prog Try.f4 false true false false) := by
  refine returnsInHanded_of_change_sized (C := Try.checked) own started (by kernel_rfl) Try.func4
    (ChangeSpec.witness6 (enc := enc) (C := Try.checked) false ⟨#[], #[], []⟩ 8 (by kernel_rfl) (by kernel_rfl) (by kernel_rfl) (by kernel_rfl)) ?_
  intro W base args ds gs before hval0 hW hcnd hsz0 _
  have hsz : (DataW.weightsEach Try.prog (Try.f4.params.toList ++ Rows.auditKnownSpec.plain.varTypes Try.prog) (ds ++ gs)).all (· ≤ reachBytes) = true := hsz0
  have hval : ∀ (j : Nat) t v, Try.f4.params[j]? = some t → args[j]? = some v → Value.okWide Try.prog W .any base t v := hval0
  have hW' := hW
  obtain ⟨p, q, hA0, hV, rfl, hfz, hnd⟩ := hW
  have hA : DataW.TrodAll enc Try.prog W 0 (fun _ => true) true Try.f4.params.toList args.toList ds p := hA0
  rw [Try.params4] at hA hval hsz
  obtain ⟨rfl, rfl, rfl⟩ := trodAll_none hA
  obtain ⟨rfl, rfl⟩ := trodVars_none hV
  clear hA0 hval0 hsz0 hsz
  refine (IrAuditKnown.walk W).mono fun e W' ⟨he, bel⟩ => ?_
  subst he
  exact ⟨_, rfl, _, _, _, [], _, [], hW', trodAll_mk1 (shut_bool Try.underlying4 _), trodAll_mk0, rfl, bel.frame _, fun h => by cases h⟩
theorem over : Rows.auditKnownRow.holds Try.pinned (OpenSpec.ofChange Rows.auditKnownSpec) :=
  OpenClaim.holds_of_wide 4 Try.f4 rfl rfl rfl rfl rfl rfl rfl ⟨rfl, rfl, rfl, rfl, rfl⟩ rfl rfl rfl rfl rfl (by kernel_rfl) Try.func4 (by kernel_rfl)
    (of_decide_eq_true (by kernel_rfl)) (by unfold Func.isWrapper; first | (rw [if_pos (by decide +kernel)]; kernel_rfl) | (rw [if_neg (by decide +kernel)]; exact ⟨rfl, rfl⟩))
    (fun os started H enc _ => lifted os started H enc)
theorem proved : Rows.AuditKnownSaid := over
end Go.Proofs.Ytegogkiccmghgaa.auditKnown
namespace Go.Proofs.Ytegogkiccmghgaa
/-- The row, under a short name, for the claim. -/
theorem auditKnown_holds : Rows.AuditKnownSaid := auditKnown.proved
end Go.Proofs.Ytegogkiccmghgaa
