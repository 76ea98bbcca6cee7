/- The law 'KvKnown' returns true, whatever the world: the abstract machine runs it, and its answers are the model's. -/
import Derived.Test.YtkfjlbdedjoojaaIrKvKnown0
import Derived.Test.YtkfjlbdedjoojaaRows
import Derived.WalkKit
import Derived.ProofKit
import Derived.OpenShut
import Derived.ShutString
import Derived.ChangeOld
import Derived.Below
import Derived.SizedLaws
namespace Go.Proofs.Ytkfjlbdedjoojaa.IrKvKnown
open Go Go.Proofs.Ytkfjlbdedjoojaa.Am
def tab : Nat → Option FD
  | 8 => some (.code ir8)
  | 10 => some (.code ir10)
  | 11 => some (.code ir11)
  | 12 => some (.code ir12)
  | 13 => some (.code ir13)
  | 15 => some (.code ir15)
  | 16 => some (.code ir16)
  | 17 => some (.code ir17)
  | 25 => some (.code ir25)
  | 27 => some (.code ir27)
  | 28 => some (.code ir28)
  | 29 => some (.code ir29)
  | 30 => some (.code ir30)
  | 31 => some (.code ir31)
  | 32 => some (.code ir32)
  | 33 => some (.code ir33)
  | 34 => some (.code ir34)
  | 35 => some (.code ir35)
  | 36 => some (.code ir36)
  | 37 => some (.code ir37)
  | 38 => some (.code ir38)
  | 48 => some (.code ir48)
  | 49 => some (.code ir49)
  | 50 => some (.code ir50)
  | 51 => some (.code ir51)
  | 54 => some (.code ir54)
  | 55 => some (.code ir55)
  | 56 => some (.code ir56)
  | 57 => some (.code ir57)
  | 58 => some (.code ir58)
  | 59 => some (.code ir59)
  | 62 => some (.code ir62)
  | 63 => some (.code ir63)
  | 64 => some (.code ir64)
  | 65 => some (.code ir65)
  | 66 => some (.code ir66)
  | 67 => some (.code ir67)
  | 68 => some (.code ir68)
  | 69 => some (.code ir69)
  | 70 => some (.code ir70)
  | 72 => some (.code ir72)
  | 74 => some (.code ir74)
  | 75 => some (.code ir75)
  | 76 => some (.code ir76)
  | 77 => some (.code ir77)
  | 78 => some (.code ir78)
  | 79 => some (.code ir79)
  | 80 => some (.code ir80)
  | 81 => some (.code ir81)
  | _ => none
theorem tabOK : TabOK Try.prog tab := by
  intro f d h
  unfold tab at h
  split at h
  · cases h; exact ⟨hi8, ok8⟩
  · cases h; exact ⟨hi10, ok10⟩
  · cases h; exact ⟨hi11, ok11⟩
  · cases h; exact ⟨hi12, ok12⟩
  · cases h; exact ⟨hi13, ok13⟩
  · cases h; exact ⟨hi15, ok15⟩
  · cases h; exact ⟨hi16, ok16⟩
  · cases h; exact ⟨hi17, ok17⟩
  · cases h; exact ⟨hi25, ok25⟩
  · cases h; exact ⟨hi27, ok27⟩
  · cases h; exact ⟨hi28, ok28⟩
  · cases h; exact ⟨hi29, ok29⟩
  · cases h; exact ⟨hi30, ok30⟩
  · cases h; exact ⟨hi31, ok31⟩
  · cases h; exact ⟨hi32, ok32⟩
  · cases h; exact ⟨hi33, ok33⟩
  · cases h; exact ⟨hi34, ok34⟩
  · cases h; exact ⟨hi35, ok35⟩
  · cases h; exact ⟨hi36, ok36⟩
  · cases h; exact ⟨hi37, ok37⟩
  · cases h; exact ⟨hi38, ok38⟩
  · cases h; exact ⟨hi48, ok48⟩
  · cases h; exact ⟨hi49, ok49⟩
  · cases h; exact ⟨hi50, ok50⟩
  · cases h; exact ⟨hi51, ok51⟩
  · cases h; exact ⟨hi54, ok54⟩
  · cases h; exact ⟨hi55, ok55⟩
  · cases h; exact ⟨hi56, ok56⟩
  · cases h; exact ⟨hi57, ok57⟩
  · cases h; exact ⟨hi58, ok58⟩
  · cases h; exact ⟨hi59, ok59⟩
  · cases h; exact ⟨hi62, ok62⟩
  · cases h; exact ⟨hi63, ok63⟩
  · cases h; exact ⟨hi64, ok64⟩
  · cases h; exact ⟨hi65, ok65⟩
  · cases h; exact ⟨hi66, ok66⟩
  · cases h; exact ⟨hi67, ok67⟩
  · cases h; exact ⟨hi68, ok68⟩
  · cases h; exact ⟨hi69, ok69⟩
  · cases h; exact ⟨hi70, ok70⟩
  · cases h; exact ⟨hi72, ok72⟩
  · cases h; exact ⟨hi74, ok74⟩
  · cases h; exact ⟨hi75, ok75⟩
  · cases h; exact ⟨hi76, ok76⟩
  · cases h; exact ⟨hi77, ok77⟩
  · cases h; exact ⟨hi78, ok78⟩
  · cases h; exact ⟨hi79, ok79⟩
  · cases h; exact ⟨hi80, ok80⟩
  · cases h; exact ⟨hi81, ok81⟩
  · cases h
def isT : Option (Value × H) → Bool
  | some (.bool true, _) => true
  | _ => false
theorem isT_some {x : Option (Value × H)} (h : isT x = true) : ∃ h2, x = some (.bool true, h2) := by
  unfold isT at h
  split at h
  · exact ⟨_, rfl⟩
  · cases h
theorem ran : isT (runE tab 4000 8 [] ⟨.leaf, 0⟩) = true := by decide +kernel
theorem mixed : Try.prog.follows .mixedOrders = true := by kernel_rfl
theorem get_leaf (n : Nat) : H.get ⟨.leaf, 0⟩ n = none := rfl
theorem walk (W : World) : Calls Try.prog 8 #[] W fun e W' => e = .returned (.bool true) ∧ Go.RowKit.Below W.heap.size W W' := by
  obtain ⟨h2, hr⟩ := isT_some ran
  have R : Rel W.heap.size (fun _ => none) ⟨.leaf, 0⟩ W := ⟨fun n B e => by (rw [get_leaf] at e; cases e), fun n m Bn Bm L M e => by (rw [get_leaf] at e; cases e), fun _ _ => rfl, Nat.le_refl _, fun n B L e => by (rw [get_leaf] at e; cases e)⟩
  refine (run_table (drawOK mixed) tabOK 4000 8 W.heap.size _ _ W [] [] _ _ hr (VL.nil _) R).2.mono fun e W' he => ?_
  obtain ⟨r2, v', rfl, hv, _, F, _⟩ := he
  cases hv
  exact ⟨rfl, F.below R⟩
end Go.Proofs.Ytkfjlbdedjoojaa.IrKvKnown
namespace Go.Proofs.Ytkfjlbdedjoojaa.kvKnown
open Go.ChangeShapes Go.WideShapes Go.ChangeAt Go.RowKit
open Go.ChangeMaps (open_string shut_string)
set_option linter.unusedVariables false
theorem own : ownKnob Try.prog.godebug = none := by kernel_rfl
set_option maxRecDepth 100000 in
theorem lifted (os : Os) (started : os.Started) (H : Type) (enc : TypeId × Value → H) :
    ReturnsInHanded {} Try.checked os 8 .any (Rows.kvKnownSpec.pre6 enc Try.prog Try.f8 Rows.kvKnownRow.domain false) (Rows.kvKnownSpec.post enc Try.prog Try.f8 false true false false) := by
  refine returnsInHanded_of_change_sized (C := Try.checked) own started (by kernel_rfl) Try.func8
    (ChangeSpec.witness6 (enc := enc) (C := Try.checked) false ⟨#[], #[], []⟩ 8 (by kernel_rfl) (by kernel_rfl) (by kernel_rfl) (by kernel_rfl)) ?_
  intro W base args ds gs before hval0 hW hcnd hsz0 _
  have hsz : (DataW.weightsEach Try.prog (Try.f8.params.toList ++ Rows.kvKnownSpec.plain.varTypes Try.prog) (ds ++ gs)).all (· ≤ reachBytes) = true := hsz0
  have hval : ∀ (j : Nat) t v, Try.f8.params[j]? = some t → args[j]? = some v → Value.okWide Try.prog W .any base t v := hval0
  have hW' := hW
  obtain ⟨p, q, hA0, hV, rfl, hfz, hnd⟩ := hW
  have hA : DataW.TrodAll enc Try.prog W 0 (fun _ => true) true Try.f8.params.toList args.toList ds p := hA0
  rw [Try.params8] at hA hval hsz
  obtain ⟨rfl, rfl, rfl⟩ := trodAll_none hA
  obtain ⟨rfl, rfl⟩ := trodVars_none hV
  clear hA0 hval0 hsz0 hsz
  refine (IrKvKnown.walk W).mono fun e W' ⟨he, bel⟩ => ?_
  subst he
  exact ⟨_, rfl, _, _, _, [], _, [], hW', trodAll_mk1 (shut_bool Try.underlying4 _), trodAll_mk0, rfl, bel.frame _, fun h => by cases h⟩
theorem over : Rows.kvKnownRow.holds Try.pinned (OpenSpec.ofChange Rows.kvKnownSpec) :=
  OpenClaim.holds_of_wide 8 Try.f8 rfl rfl rfl rfl rfl rfl rfl ⟨rfl, rfl, rfl, rfl, rfl⟩ rfl rfl rfl rfl rfl (by kernel_rfl) Try.func8 (by kernel_rfl)
    (of_decide_eq_true (by kernel_rfl)) (by unfold Func.isWrapper; first | (rw [if_pos (by decide +kernel)]; kernel_rfl) | (rw [if_neg (by decide +kernel)]; exact ⟨rfl, rfl⟩))
    (fun os started H enc _ => lifted os started H enc)
theorem proved : Rows.KvKnownSaid := over
end Go.Proofs.Ytkfjlbdedjoojaa.kvKnown
namespace Go.Proofs.Ytkfjlbdedjoojaa
/-- The row, under a short name, for the claim. -/
theorem kvKnown_holds : Rows.KvKnownSaid := kvKnown.proved
end Go.Proofs.Ytkfjlbdedjoojaa
