/- The law 'EntryMeet' returns true for all members, every node that comes or goes, and any two sets of nodes. -/
import Derived.Test.YtimfgflcflhfcaaEm2
import Derived.Test.YtimfgflcflhfcaaRows
import Derived.WalkKit
import Derived.ProofKit
import Derived.OpenShut
import Derived.ShutString
import Derived.ChangeOld
import Derived.Below
import Derived.SizedLaws
namespace Go.Proofs.Ytimfgflcflhfcaa.Em
open Go Go.Proofs.Ytimfgflcflhfcaa.Am
theorem T2 : Tm tab2 := ⟨rfl, rfl, rfl, rfl, rfl⟩
theorem leaf_get (n k : Nat) : H.get ⟨.leaf, n⟩ k = none := rfl
theorem walk (W : World) {m node one other : Nat} (hm : m < 256) (hnd : node < 256) (ho : one < 256) (hr : other < 256) : Calls Try.prog 8 #[.int .u8 (m : Int), .int .u8 (node : Int), .int .u8 (one : Int), .int .u8 (other : Int)] W fun e W' => e = .returned (.bool true) ∧ Go.RowKit.Below W.heap.size W W' := by
  obtain ⟨h2, n, hrun⟩ := law_ran T2 hm hnd ho hr
  have R : Rel W.heap.size (fun _ => none) ⟨.leaf, 0⟩ W := ⟨fun n B e => by (rw [leaf_get] at e; cases e), fun n m Bn Bm L M e => by (rw [leaf_get] at e; cases e), fun _ _ => rfl, Nat.le_refl _, fun n B L e => by (rw [leaf_get] at e; cases e)⟩
  refine (run_table dOK tab2OK n 8 W.heap.size _ _ W _ [.int .u8 (m : Int), .int .u8 (node : Int), .int .u8 (one : Int), .int .u8 (other : Int)] _ _ hrun (VL.cons (.int ..) (VL.cons (.int ..) (VL.cons (.int ..) (VL.cons (.int ..) (VL.nil _))))) R).2.mono fun e W' he => ?_
  obtain ⟨r2, v', rfl, hv, _, F, _⟩ := he
  cases hv
  exact ⟨rfl, F.below R⟩
end Go.Proofs.Ytimfgflcflhfcaa.Em
namespace Go.Proofs.Ytimfgflcflhfcaa.entryMeet
open Go.ChangeShapes Go.WideShapes Go.ChangeAt Go.RowKit
open Go.ChangeMaps (open_string shut_string)
set_option linter.unusedVariables false
set_option linter.unusedSimpArgs false
theorem own : ownKnob Try.prog.godebug = none := by kernel_rfl
theorem u8_nat {a : Int} (w : (Lit.int .u8 a).wf = true) : ∃ n : Nat, a = n ∧ n < 256 := by
  have hw : 0 ≤ a ∧ a ≤ 255 := by simpa [Lit.wf, IntKind.min, IntKind.max, IntKind.signed, IntKind.bits] using w
  exact ⟨a.toNat, (Int.toNat_of_nonneg hw.1).symm, by omega⟩
set_option maxRecDepth 100000 in
theorem lifted (os : Os) (started : os.Started) (H : Type) (enc : TypeId × Value → H) :
    ReturnsInHanded {} Try.checked os 8 .any (Rows.entryMeetSpec.pre6 enc Try.prog Try.f8 Rows.entryMeetRow.domain false) (Rows.entryMeetSpec.post enc Try.prog Try.f8 false true false false) := by
  refine returnsInHanded_of_change_sized (C := Try.checked) own started (by kernel_rfl) Try.func8
    (ChangeSpec.witness6 (enc := enc) (C := Try.checked) false ⟨#[], #[.int .u8 0, .int .u8 0, .int .u8 0, .int .u8 0], []⟩ 8 (by kernel_rfl) (by kernel_rfl) (by kernel_rfl) (by kernel_rfl)) ?_
  intro W base args ds gs before hval0 hW hcnd hsz0 _
  have hval : ∀ (j : Nat) t v, Try.f8.params[j]? = some t → args[j]? = some v → Value.okWide Try.prog W .any base t v := hval0
  have hW' := hW
  obtain ⟨p, q, hA0, hV, rfl, hfz, hnd⟩ := hW
  have hA : DataW.TrodAll enc Try.prog W 0 (fun _ => true) true Try.f8.params.toList args.toList ds p := hA0
  rw [Try.params8] at hA hval
  obtain ⟨v0, vs0, d0, ds0, p0, q0, hargs, rfl, rfl, h0, r0⟩ := trodAll_cons hA
  obtain ⟨v1, vs1, d1, ds1, p1, q1, rfl, rfl, rfl, h1, r1⟩ := trodAll_cons r0
  obtain ⟨v2, vs2, d2, ds2, p2, q2, rfl, rfl, rfl, h2, r2⟩ := trodAll_cons r1
  obtain ⟨v3, vs3, d3, ds3, p3, q3, rfl, rfl, rfl, h3, r3⟩ := trodAll_cons r2
  obtain ⟨rfl, rfl, rfl⟩ := trodAll_nil r3
  obtain rfl : args = #[v0, v1, v2, v3] := by cases args; simp_all
  obtain ⟨rfl, rfl⟩ := trodVars_none hV
  obtain ⟨a0, rfl, rfl, rfl, w0⟩ := open_int Try.underlying5 (hval 0 5 v0 rfl rfl) h0
  obtain ⟨a1, rfl, rfl, rfl, w1⟩ := open_int Try.underlying5 (hval 1 5 v1 rfl rfl) h1
  obtain ⟨a2, rfl, rfl, rfl, w2⟩ := open_int Try.underlying5 (hval 2 5 v2 rfl rfl) h2
  obtain ⟨a3, rfl, rfl, rfl, w3⟩ := open_int Try.underlying5 (hval 3 5 v3 rfl rfl) h3
  obtain ⟨n0, rfl, b0⟩ := u8_nat w0
  obtain ⟨n1, rfl, b1⟩ := u8_nat w1
  obtain ⟨n2, rfl, b2⟩ := u8_nat w2
  obtain ⟨n3, rfl, b3⟩ := u8_nat w3
  clear hA0 hval0 hsz0
  refine (Em.walk W b0 b1 b2 b3).mono fun e W' ⟨he, bel0⟩ => ?_
  have bel : Below W.heap.size W W' := bel0
  subst he
  exact ⟨_, rfl, _, _, _, [], _, [], hW', trodAll_mk1 (shut_bool Try.underlying4 _), (trodAll_cons_mk (shut_int Try.underlying5 w0) (trodAll_cons_mk (shut_int Try.underlying5 w1) (trodAll_cons_mk (shut_int Try.underlying5 w2) (trodAll_cons_mk (shut_int Try.underlying5 w3) trodAll_mk0)))), rfl, bel.frame _, fun h => by cases h⟩
theorem over : Rows.entryMeetRow.holds Try.pinned (OpenSpec.ofChange Rows.entryMeetSpec) :=
  OpenClaim.holds_of_wide 8 Try.f8 rfl rfl rfl rfl rfl rfl rfl ⟨rfl, rfl, rfl, rfl, rfl⟩ rfl rfl rfl rfl rfl (by kernel_rfl) Try.func8 (by kernel_rfl)
    (of_decide_eq_true (by kernel_rfl)) (by unfold Func.isWrapper; first | (rw [if_pos (by decide +kernel)]; kernel_rfl) | (rw [if_neg (by decide +kernel)]; exact ⟨rfl, rfl⟩))
    (fun os started H enc _ => lifted os started H enc)
theorem proved : Rows.EntryMeetSaid := over
end Go.Proofs.Ytimfgflcflhfcaa.entryMeet
namespace Go.Proofs.Ytimfgflcflhfcaa
/-- The row, under a short name, for the claim. -/
theorem entryMeet_holds : Rows.EntryMeetSaid := entryMeet.proved
end Go.Proofs.Ytimfgflcflhfcaa
