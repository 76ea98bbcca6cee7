/- The law 'KvPlays' returns true for all arguments. -/
import Derived.Test.YtkfjlbdedjoojaaZKvPlays8
import Derived.Test.YtkfjlbdedjoojaaRows
import Derived.WalkKit
import Derived.ProofKit
import Derived.ShutString
import Derived.ChangeOld
import Derived.SizedLaws
import Derived.ChangeMaps5
namespace Go.Proofs.Ytkfjlbdedjoojaa.kvPlays
open Go.ChangeShapes Go.WideShapes Go.ChangeAt Go.RowKit
open Go.Proofs.Ytkfjlbdedjoojaa.Am (law_calls GivenA given_one one_of CompH compH_args)
open Go.ChangeMaps (open_string)
set_option linter.unusedVariables false
set_option linter.unusedSimpArgs false
theorem own : ownKnob Try.prog.godebug = none := by kernel_rfl
theorem laidOut : laidOutB Try.prog = true := by kernel_rfl
set_option maxRecDepth 100000 in
theorem lifted (os : Os) (started : os.Started) (H : Type) (enc : TypeId × Value → H) :
    ReturnsInHanded {} Try.checked os 4 .any (Rows.kvPlaysSpec.pre6 enc Try.prog Try.f4 Rows.kvPlaysRow.domain false) (Rows.kvPlaysSpec.post enc Try.prog Try.f4 false true false false) := by
  refine returnsInHanded_of_change_sized (C := Try.checked) own started (by kernel_rfl) Try.func4
    (ChangeSpec.witness6 (enc := enc) (C := Try.checked) false ⟨#[], #[.int .i64 0, .int .i64 0, .slice none 0 0], []⟩ 8 (by kernel_rfl) (by kernel_rfl) (by kernel_rfl) (by kernel_rfl)) ?_
  intro W base args ds gs before hval0 hW hcnd hsz0 _
  have hval : ∀ (j : Nat) t v, Try.f4.params[j]? = some t → args[j]? = some v → Value.okWide Try.prog W .any base t v := hval0
  have hW' := hW
  obtain ⟨p, q, hA0, hV, rfl, hfz, hnd⟩ := hW
  have hA : DataW.TrodAll enc Try.prog W 0 (fun _ => true) true Try.f4.params.toList args.toList ds p := hA0
  rw [Try.params4] at hA hval
  obtain ⟨v0, vs0, d0, ds0, p0, q0, hargs, rfl, rfl, h0, r0⟩ := trodAll_cons hA
  obtain ⟨v1, vs1, d1, ds1, p1, q1, rfl, rfl, rfl, h1, r1⟩ := trodAll_cons r0
  obtain ⟨v2, vs2, d2, ds2, p2, q2, rfl, rfl, rfl, h2, r2⟩ := trodAll_cons r1
  obtain ⟨rfl, rfl, rfl⟩ := trodAll_nil r2
  obtain rfl : args = #[v0, v1, v2] := by cases args; simp_all
  obtain ⟨rfl, rfl⟩ := trodVars_none hV
  have k0 := h0
  have lt0 : ∀ x ∈ p0, x.block < W.heap.size := by obtain ⟨m, hm⟩ := k0; exact DataW.trod_lt m _ _ _ hm
  obtain ⟨x0, rfl, _⟩ := open_int Try.underlying3 (hval 0 3 v0 rfl rfl) h0
  obtain ⟨m0, t0⟩ := h0
  obtain ⟨a0, bl0, acs0, len_0, one0, rel0, lay0, ok0⟩ := (Wt.opens_3).2 enc W _ _ _ _ t0 (0)
  obtain ⟨u0, rfl⟩ := one_of len_0
  have k1 := h1
  have lt1 : ∀ x ∈ p1, x.block < W.heap.size := by obtain ⟨m, hm⟩ := k1; exact DataW.trod_lt m _ _ _ hm
  obtain ⟨x1, rfl, _⟩ := open_int Try.underlying3 (hval 1 3 v1 rfl rfl) h1
  obtain ⟨m1, t1⟩ := h1
  obtain ⟨a1, bl1, acs1, len_1, one1, rel1, lay1, ok1⟩ := (Wt.opens_3).2 enc W _ _ _ _ t1 (0 + bl0.length)
  obtain ⟨u1, rfl⟩ := one_of len_1
  have k2 := h2
  have lt2 : ∀ x ∈ p2, x.block < W.heap.size := by obtain ⟨m, hm⟩ := k2; exact DataW.trod_lt m _ _ _ hm
  obtain ⟨A2, len2, cap2, rfl⟩ := okWide_slice Try.underlying22 (hval 2 22 v2 rfl rfl)
  obtain ⟨m2, t2⟩ := h2
  obtain ⟨a2, bl2, acs2, len_2, one2, rel2, lay2, ok2⟩ := (Wt.opens_22).2 enc W _ _ _ _ t2 (0 + bl0.length + bl1.length)
  obtain ⟨u2, rfl⟩ := one_of len_2
  clear hA0 hval0 hsz0
  have hg := (GivenA.cons (given_one rel0) (GivenA.cons (given_one rel1) (GivenA.cons (given_one rel2) GivenA.nil)))
  have hH := compH_args (bl0 ++ (bl1 ++ (bl2 ++ [])))
  have l0 := lay0 _ (CompH.left (by exact hH))
  have l1 := lay1 _ (CompH.left (by exact (CompH.right hH)))
  have l2 := lay2 _ (CompH.left (by exact (CompH.right (CompH.right hH))))
  refine (law_calls IrAll.dOK IrAll.tab0OK hg (Wt.law_KvPlays (Am.wf_args _) l0 l1 l2 ok0 ok1 ok2)).mono fun e W' ⟨he, bel0⟩ => ?_
  have bel : Below W.heap.size W W' := bel0
  subst he
  exact ⟨_, rfl, _, _, _, [], _, [], hW', trodAll_mk1 (shut_bool Try.underlying4 _), (trodAll_cons_mk (Below.trod laidOut (by kernel_rfl) (of_decide_eq_true (by kernel_rfl)) k0 bel lt0) (trodAll_cons_mk (Below.trod laidOut (by kernel_rfl) (of_decide_eq_true (by kernel_rfl)) k1 bel lt1) (trodAll_cons_mk (Below.trod laidOut (by kernel_rfl) (of_decide_eq_true (by kernel_rfl)) k2 bel lt2) trodAll_mk0))), rfl, bel.frame _, fun h => by cases h⟩
theorem over : Rows.kvPlaysRow.holds Try.pinned (OpenSpec.ofChange Rows.kvPlaysSpec) :=
  OpenClaim.holds_of_wide 4 Try.f4 rfl rfl rfl rfl rfl rfl rfl ⟨rfl, rfl, rfl, rfl, rfl⟩ rfl rfl rfl rfl rfl (by kernel_rfl) Try.func4 (by kernel_rfl)
    (of_decide_eq_true (by kernel_rfl)) (by unfold Func.isWrapper; first | (rw [if_pos (by decide +kernel)]; kernel_rfl) | (rw [if_neg (by decide +kernel)]; exact ⟨rfl, rfl⟩))
    (fun os started H enc _ => lifted os started H enc)
theorem proved : Rows.KvPlaysSaid := over
end Go.Proofs.Ytkfjlbdedjoojaa.kvPlays
namespace Go.Proofs.Ytkfjlbdedjoojaa
theorem kvPlays_holds : Rows.KvPlaysSaid := kvPlays.proved
end Go.Proofs.Ytkfjlbdedjoojaa
