/- The law 'CmdKnown' returns true, whatever the world: the abstract machine runs it, and its answers are the model's. -/
import Derived.Test.YtncpdahappmhkaaIrCmdKnown0
import Derived.Test.YtncpdahappmhkaaRows
import Derived.WalkKit
import Derived.ProofKit
import Derived.OpenShut
import Derived.ShutString
import Derived.ChangeOld
import Derived.Below
import Derived.SizedLaws
namespace Go.Proofs.Ytncpdahappmhkaa.IrCmdKnown
open Go Go.Proofs.Ytncpdahappmhkaa.Am
def tab : Nat → Option FD
  | 6 => some (.code ir6)
  | 11 => some (.code ir11)
  | 13 => some (.code ir13)
  | 14 => some (.code ir14)
  | 15 => some (.code ir15)
  | 17 => some (.code ir17)
  | 19 => some (.code ir19)
  | 21 => some (.code ir21)
  | 23 => some (.code ir23)
  | 28 => some (.code ir28)
  | 31 => some (.code ir31)
  | 33 => some (.code ir33)
  | 34 => some (.code ir34)
  | 35 => some (.code ir35)
  | 38 => some (.code ir38)
  | 39 => some (.code ir39)
  | 40 => some (.code ir40)
  | 41 => some (.code ir41)
  | 42 => some (.code ir42)
  | 47 => some (.code ir47)
  | 48 => some (.code ir48)
  | 56 => some (.code ir56)
  | 57 => some (.code ir57)
  | 58 => some (.code ir58)
  | 59 => some (.code ir59)
  | 60 => some (.code ir60)
  | 61 => some (.code ir61)
  | 67 => some (.code ir67)
  | 68 => some (.code ir68)
  | 69 => some (.code ir69)
  | 70 => some (.code ir70)
  | 86 => some (.code ir86)
  | 87 => some (.code ir87)
  | 88 => some (.code ir88)
  | 89 => some (.code ir89)
  | 90 => some (.code ir90)
  | 91 => some (.code ir91)
  | 92 => some (.code ir92)
  | 93 => some (.code ir93)
  | 94 => some (.code ir94)
  | 95 => some (.code ir95)
  | 96 => some (.code ir96)
  | 97 => some (.code ir97)
  | 98 => some (.code ir98)
  | _ => none
theorem tabOK : TabOK Try.prog tab := by
  intro f d h
  unfold tab at h
  split at h
  · cases h; exact ⟨hi6, ok6⟩
  · cases h; exact ⟨hi11, ok11⟩
  · cases h; exact ⟨hi13, ok13⟩
  · cases h; exact ⟨hi14, ok14⟩
  · cases h; exact ⟨hi15, ok15⟩
  · cases h; exact ⟨hi17, ok17⟩
  · cases h; exact ⟨hi19, ok19⟩
  · cases h; exact ⟨hi21, ok21⟩
  · cases h; exact ⟨hi23, ok23⟩
  · cases h; exact ⟨hi28, ok28⟩
  · cases h; exact ⟨hi31, ok31⟩
  · cases h; exact ⟨hi33, ok33⟩
  · cases h; exact ⟨hi34, ok34⟩
  · cases h; exact ⟨hi35, ok35⟩
  · cases h; exact ⟨hi38, ok38⟩
  · cases h; exact ⟨hi39, ok39⟩
  · cases h; exact ⟨hi40, ok40⟩
  · cases h; exact ⟨hi41, ok41⟩
  · cases h; exact ⟨hi42, ok42⟩
  · cases h; exact ⟨hi47, ok47⟩
  · cases h; exact ⟨hi48, ok48⟩
  · cases h; exact ⟨hi56, ok56⟩
  · cases h; exact ⟨hi57, ok57⟩
  · cases h; exact ⟨hi58, ok58⟩
  · cases h; exact ⟨hi59, ok59⟩
  · cases h; exact ⟨hi60, ok60⟩
  · cases h; exact ⟨hi61, ok61⟩
  · cases h; exact ⟨hi67, ok67⟩
  · cases h; exact ⟨hi68, ok68⟩
  · cases h; exact ⟨hi69, ok69⟩
  · cases h; exact ⟨hi70, ok70⟩
  · cases h; exact ⟨hi86, ok86⟩
  · cases h; exact ⟨hi87, ok87⟩
  · cases h; exact ⟨hi88, ok88⟩
  · cases h; exact ⟨hi89, ok89⟩
  · cases h; exact ⟨hi90, ok90⟩
  · cases h; exact ⟨hi91, ok91⟩
  · cases h; exact ⟨hi92, ok92⟩
  · cases h; exact ⟨hi93, ok93⟩
  · cases h; exact ⟨hi94, ok94⟩
  · cases h; exact ⟨hi95, ok95⟩
  · cases h; exact ⟨hi96, ok96⟩
  · cases h; exact ⟨hi97, ok97⟩
  · cases h; exact ⟨hi98, ok98⟩
  · cases h
def isT : Option (Value × H) → Bool
  | some (.bool true, _) => true
  | _ => false
theorem isT_some {x : Option (Value × H)} (h : isT x = true) : ∃ h2, x = some (.bool true, h2) := by
  unfold isT at h
  split at h
  · exact ⟨_, rfl⟩
  · cases h
theorem ran : isT (runE tab 4000 6 [] ⟨.leaf, 0⟩) = true := by decide +kernel
theorem mixed : Try.prog.follows .mixedOrders = true := by kernel_rfl
theorem get_leaf (n : Nat) : H.get ⟨.leaf, 0⟩ n = none := rfl
theorem walk (W : World) : Calls Try.prog 6 #[] W fun e W' => e = .returned (.bool true) ∧ Go.RowKit.Below W.heap.size W W' := by
  obtain ⟨h2, hr⟩ := isT_some ran
  have R : Rel W.heap.size (fun _ => none) ⟨.leaf, 0⟩ W := ⟨fun n B e => by (rw [get_leaf] at e; cases e), fun n m Bn Bm L M e => by (rw [get_leaf] at e; cases e), fun _ _ => rfl, Nat.le_refl _, fun n B L e => by (rw [get_leaf] at e; cases e)⟩
  refine (run_table (drawOK mixed) tabOK 4000 6 W.heap.size _ _ W [] [] _ _ hr (VL.nil _) R).2.mono fun e W' he => ?_
  obtain ⟨r2, v', rfl, hv, _, F, _⟩ := he
  cases hv
  exact ⟨rfl, F.below R⟩
end Go.Proofs.Ytncpdahappmhkaa.IrCmdKnown
namespace Go.Proofs.Ytncpdahappmhkaa.cmdKnown
open Go.ChangeShapes Go.WideShapes Go.ChangeAt Go.RowKit
open Go.ChangeMaps (open_string shut_string)
set_option linter.unusedVariables false
theorem own : ownKnob Try.prog.godebug = none := by kernel_rfl
set_option maxRecDepth 100000 in
theorem lifted (os : Os) (started : os.Started) (H : Type) (enc : TypeId × Value → H) :
    ReturnsInHanded {} Try.checked os 6 .any (Rows.cmdKnownSpec.pre6 enc Try.prog Try.f6 Rows.cmdKnownRow.domain false) (Rows.cmdKnownSpec.post enc Try.prog Try.f6 false true false false) := by
  refine returnsInHanded_of_change_sized (C := Try.checked) own started (by kernel_rfl) Try.func6
    (ChangeSpec.witness6 (enc := enc) (C := Try.checked) false ⟨#[], #[], []⟩ 8 (by kernel_rfl) (by kernel_rfl) (by kernel_rfl) (by kernel_rfl)) ?_
  intro W base args ds gs before hval0 hW hcnd hsz0 _
  have hsz : (DataW.weightsEach Try.prog (Try.f6.params.toList ++ Rows.cmdKnownSpec.plain.varTypes Try.prog) (ds ++ gs)).all (· ≤ reachBytes) = true := hsz0
  have hval : ∀ (j : Nat) t v, Try.f6.params[j]? = some t → args[j]? = some v → Value.okWide Try.prog W .any base t v := hval0
  have hW' := hW
  obtain ⟨p, q, hA0, hV, rfl, hfz, hnd⟩ := hW
  have hA : DataW.TrodAll enc Try.prog W 0 (fun _ => true) true Try.f6.params.toList args.toList ds p := hA0
  rw [Try.params6] at hA hval hsz
  obtain ⟨rfl, rfl, rfl⟩ := trodAll_none hA
  obtain ⟨rfl, rfl⟩ := trodVars_none hV
  clear hA0 hval0 hsz0 hsz
  refine (IrCmdKnown.walk W).mono fun e W' ⟨he, bel⟩ => ?_
  subst he
  exact ⟨_, rfl, _, _, _, [], _, [], hW', trodAll_mk1 (shut_bool Try.underlying4 _), trodAll_mk0, rfl, bel.frame _, fun h => by cases h⟩
theorem over : Rows.cmdKnownRow.holds Try.pinned (OpenSpec.ofChange Rows.cmdKnownSpec) :=
  OpenClaim.holds_of_wide 6 Try.f6 rfl rfl rfl rfl rfl rfl rfl ⟨rfl, rfl, rfl, rfl, rfl⟩ rfl rfl rfl rfl rfl (by kernel_rfl) Try.func6 (by kernel_rfl)
    (of_decide_eq_true (by kernel_rfl)) (by unfold Func.isWrapper; first | (rw [if_pos (by decide +kernel)]; kernel_rfl) | (rw [if_neg (by decide +kernel)]; exact ⟨rfl, rfl⟩))
    (fun os started H enc _ => lifted os started H enc)
theorem proved : Rows.CmdKnownSaid := over
end Go.Proofs.Ytncpdahappmhkaa.cmdKnown
namespace Go.Proofs.Ytncpdahappmhkaa
/-- The row, under a short name, for the claim. -/
theorem cmdKnown_holds : Rows.CmdKnownSaid := cmdKnown.proved
end Go.Proofs.Ytncpdahappmhkaa
