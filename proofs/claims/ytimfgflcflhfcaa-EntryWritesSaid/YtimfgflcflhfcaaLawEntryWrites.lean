-- Written by wip/tools/myprint.sh out of the translation, over the kit's print with a patch. Not trusted: Lean checks it.
import Derived.Test.YtimfgflcflhfcaaRows
import Derived.Test.YtimfgflcflhfcaaPx16
import Derived.Test.YtimfgflcflhfcaaPureEntryWrites
import Derived.Test.YtimfgflcflhfcaaOpen
import Derived.WalkKit
import Derived.ProofKit
import Derived.OpenShut
import Derived.ShutString
import Derived.ChangeOld
import Derived.Below
import Derived.SizedLaws
namespace Go.Proofs.Ytimfgflcflhfcaa.entryWrites
open Go.ChangeShapes Go.WideShapes Go.ChangeAt Go.RowKit Go.Proofs.Ytimfgflcflhfcaa Go.Proofs.YtimfgflcflhfcaaW.PrintWords
open Go.ChangeMaps (open_string shut_string)
set_option linter.unusedVariables false
set_option linter.unusedSimpArgs false
theorem own : ownKnob Try.prog.godebug = none := by kernel_rfl
theorem laidOut : laidOutB Try.prog = true := by kernel_rfl
set_option maxRecDepth 100000 in
theorem opens25 : Open.Opens Try.prog 25 P.k25 (fun x => ((Lit.int .u8 x.f0).wf = true ∧ (Lit.int .u8 x.f1).wf = true ∧ (Lit.int .u8 x.f2).wf = true ∧ (Lit.int .u8 x.f3).wf = true ∧ (Lit.int .u8 x.f4).wf = true ∧ (Lit.int .u8 x.f5).wf = true ∧ (Lit.int .u8 x.f6).wf = true ∧ (Lit.int .u8 x.f7).wf = true)) :=
  Open.Opens.imp (Open.Opens.array (fs := [(5, 0), (5, 1), (5, 2), (5, 3), (5, 4), (5, 5), (5, 6), (5, 7)]) (fun x : P.S25 => (x.f0, x.f1, x.f2, x.f3, x.f4, x.f5, x.f6, x.f7)) (fun x => (⟨x.1, x.2.1, x.2.2.1, x.2.2.2.1, x.2.2.2.2.1, x.2.2.2.2.2.1, x.2.2.2.2.2.2.1, x.2.2.2.2.2.2.2⟩ : P.S25)) (fun _ => rfl) Try.underlying25 (by kernel_rfl) (by kernel_rfl) (Open.OpensF.cons rfl (by decide) (by kernel_rfl) (Open.Opens.int Try.underlying5) (Open.OpensF.cons rfl (by decide) (by kernel_rfl) (Open.Opens.int Try.underlying5) (Open.OpensF.cons rfl (by decide) (by kernel_rfl) (Open.Opens.int Try.underlying5) (Open.OpensF.cons rfl (by decide) (by kernel_rfl) (Open.Opens.int Try.underlying5) (Open.OpensF.cons rfl (by decide) (by kernel_rfl) (Open.Opens.int Try.underlying5) (Open.OpensF.cons rfl (by decide) (by kernel_rfl) (Open.Opens.int Try.underlying5) (Open.OpensF.cons rfl (by decide) (by kernel_rfl) (Open.Opens.int Try.underlying5) (Open.OpensF.one (by kernel_rfl) (Open.Opens.int Try.underlying5)))))))))) (fun x h => h)
set_option maxRecDepth 100000 in
theorem opens27 : Open.Opens Try.prog 27 P.k27 (fun x => ((Lit.int .u64 x.f0).wf = true ∧ (Lit.int .u64 x.f1).wf = true ∧ (Lit.int .u8 x.f2).wf = true ∧ (Lit.int .u8 x.f3).wf = true ∧ ((Lit.int .u8 x.f4.f0).wf = true ∧ (Lit.int .u8 x.f4.f1).wf = true ∧ (Lit.int .u8 x.f4.f2).wf = true ∧ (Lit.int .u8 x.f4.f3).wf = true ∧ (Lit.int .u8 x.f4.f4).wf = true ∧ (Lit.int .u8 x.f4.f5).wf = true ∧ (Lit.int .u8 x.f4.f6).wf = true ∧ (Lit.int .u8 x.f4.f7).wf = true) ∧ x.f5.size ≤ 9223372036854775807)) :=
  Open.Opens.imp (Open.Opens.struct (fs := [(23, 0), (23, 1), (5, 2), (5, 3), (25, 4), (9, 12)]) (fun x : P.S27 => (x.f0, x.f1, x.f2, x.f3, x.f4, x.f5)) (fun x => (⟨x.1, x.2.1, x.2.2.1, x.2.2.2.1, x.2.2.2.2.1, x.2.2.2.2.2⟩ : P.S27)) (fun _ => rfl) (by kernel_rfl) (by kernel_rfl) (Open.OpensF.cons rfl (by decide) (by kernel_rfl) (Open.Opens.int Try.underlying23) (Open.OpensF.cons rfl (by decide) (by kernel_rfl) (Open.Opens.int Try.underlying23) (Open.OpensF.cons rfl (by decide) (by kernel_rfl) (Open.Opens.int Try.underlying5) (Open.OpensF.cons rfl (by decide) (by kernel_rfl) (Open.Opens.int Try.underlying5) (Open.OpensF.cons rfl (by decide) (by kernel_rfl) opens25 (Open.OpensF.one (by kernel_rfl) (Open.Opens.string Try.underlying9)))))))) (fun x h => h)
set_option maxRecDepth 100000 in
theorem lifted (os : Os) (started : os.Started) (H : Type) (enc : TypeId × Value → H) :
    ReturnsInHanded {} Try.checked os 4 .any (Rows.entryWritesSpec.pre6 enc Try.prog Try.f4 Rows.entryWritesRow.domain false) (Rows.entryWritesSpec.post enc Try.prog Try.f4 false true false false) := by
  refine returnsInHanded_of_change_sized (C := Try.checked) own started (by kernel_rfl) Try.func4
    (ChangeSpec.witness6 (enc := enc) (C := Try.checked) false ⟨#[], #[.agg #[.int .u64 0, .int .u64 0, .int .u8 0, .int .u8 0, .int .u8 0, .int .u8 0, .int .u8 0, .int .u8 0, .int .u8 0, .int .u8 0, .int .u8 0, .int .u8 0, .string ByteArray.empty]], []⟩ 8 (by kernel_rfl) (by kernel_rfl) (by kernel_rfl) (by kernel_rfl)) ?_
  intro W base args ds gs before hval0 hW hcnd hsz0 _
  have hval : ∀ (j : Nat) t v, Try.f4.params[j]? = some t → args[j]? = some v → Value.okWide Try.prog W .any base t v := hval0
  have hW' := hW
  obtain ⟨p, q, hA0, hV, rfl, hfz, hnd⟩ := hW
  have hA : DataW.TrodAll enc Try.prog W 0 (fun _ => true) true Try.f4.params.toList args.toList ds p := hA0
  rw [Try.params4] at hA hval
  obtain ⟨v0, vs0, d0, ds0, p0, q0, hargs, rfl, rfl, h0, r0⟩ := trodAll_cons hA
  obtain ⟨rfl, rfl, rfl⟩ := trodAll_nil r0
  obtain rfl : args = #[v0] := by cases args; simp_all
  obtain ⟨rfl, rfl⟩ := trodVars_none hV
  have k0 := h0
  have lt0 : ∀ x ∈ p0, x.block < W.heap.size := by obtain ⟨m, hm⟩ := k0; exact DataW.trod_lt m _ _ _ hm
  obtain ⟨⟨C0⟩, rfl, _⟩ := okWide_struct Try.underlying27 (hval 0 27 v0 rfl rfl)
  obtain ⟨a0, K0, o0⟩ := Open.Opens.arg opens27 h0
  replace K0 : P.k27.K W a0 C0 := K0
  obtain rfl := P.k27_open K0
  clear hA0 hval0 hsz0
  obtain ⟨k, hk⟩ := Pure.EntryWrites a0 o0
  refine (P.wapentakelaw04_EntryWrites.calls k a0.f0 a0.f1 a0.f2 a0.f3 a0.f4.f0 a0.f4.f1 a0.f4.f2 a0.f4.f3 a0.f4.f4 a0.f4.f5 a0.f4.f6 a0.f4.f7 a0.f5 true W  hk rfl).mono fun e W' ⟨he, bel0⟩ => ?_
  have bel : Below W.heap.size W W' := bel0
  subst he
  exact ⟨_, rfl, _, _, _, [], _, [], hW', trodAll_mk1 (shut_bool Try.underlying4 _), (trodAll_cons_mk (Below.trod laidOut (by kernel_rfl) (of_decide_eq_true (by kernel_rfl)) k0 bel lt0) trodAll_mk0), rfl, bel.frame _, fun h => by cases h⟩
theorem over : Rows.entryWritesRow.holds Try.pinned (OpenSpec.ofChange Rows.entryWritesSpec) :=
  OpenClaim.holds_of_wide 4 Try.f4 rfl rfl rfl rfl rfl rfl rfl ⟨rfl, rfl, rfl, rfl, rfl⟩ rfl rfl rfl rfl rfl (by kernel_rfl) Try.func4 (by kernel_rfl)
    (of_decide_eq_true (by kernel_rfl)) (by unfold Func.isWrapper; first | (rw [if_pos (by decide +kernel)]; kernel_rfl) | (rw [if_neg (by decide +kernel)]; exact ⟨rfl, rfl⟩))
    (fun os started H enc _ => lifted os started H enc)
theorem proved : Rows.EntryWritesSaid := over
#print axioms proved
end Go.Proofs.Ytimfgflcflhfcaa.entryWrites
namespace Go.Proofs.Ytimfgflcflhfcaa
/-- The row, under a short name, for the claim. -/
theorem entryWrites_holds : Rows.EntryWritesSaid := entryWrites.proved
end Go.Proofs.Ytimfgflcflhfcaa
