/- The law 'JudgeParts' returns true for every list of operations, every turn and every part: whether a list is right hangs not on its order, and each part of a right list is right. -/
import Derived.Test.YtfcpokolbifilaaJdRows
namespace Go.Proofs.Ytfcpokolbifilaa.Jd
open Go Go.Proofs.Ytfcpokolbifilaa.Am
set_option linter.unusedVariables false
set_option linter.unusedSimpArgs false
theorem cellsOf3 : Try.prog.cellsOf 3 = 1 := by kernel_rfl
theorem cellsOf4 : Try.prog.cellsOf 4 = 1 := by kernel_rfl
theorem cellsOf32 : Try.prog.cellsOf 32 = 1 := by kernel_rfl
theorem cellsOf34 : Try.prog.cellsOf 34 = 4 := by kernel_rfl
theorem op_of_trod {Hh : Type} {enc : TypeId × Value → Hh} {w : World} {base : Nat} {spare : Nat → Bool} {held : Bool} {fuel : Nat} {cs : List Value} {x : DataW Hh × List MemPlace} (h : DataW.trod enc Try.prog w base spare held fuel 34 cs = some x) : ∃ y : JOp, cs = y.cells := by
  obtain ⟨xs, n, _, _, hl, hlen, hget⟩ := DataW.trod_struct Try.underlying34 h
  rw [cellsOf34] at hl
  obtain ⟨c0, c1, c2, c3, rfl⟩ : ∃ c0 c1 c2 c3, cs = [c0, c1, c2, c3] := by
    match cs, hl with
    | [c0, c1, c2, c3], _ => exact ⟨c0, c1, c2, c3, rfl⟩
  have hx : xs.length = 4 := hlen
  have get : ∀ i, i < 4 → ∃ y, xs[i]? = some y := fun i hi => ⟨_, List.getElem?_eq_getElem (by omega)⟩
  obtain ⟨y0, e0⟩ := get 0 (by omega)
  obtain ⟨y1, e1⟩ := get 1 (by omega)
  obtain ⟨y2, e2⟩ := get 2 (by omega)
  obtain ⟨y3, e3⟩ := get 3 (by omega)
  have k0 : ([c0, c1, c2, c3].drop 0).take (Try.prog.cellsOf 3) = [c0] := by rw [cellsOf3]; rfl
  have k1 : ([c0, c1, c2, c3].drop 1).take (Try.prog.cellsOf 3) = [c1] := by rw [cellsOf3]; rfl
  have k2 : ([c0, c1, c2, c3].drop 2).take (Try.prog.cellsOf 32) = [c2] := by rw [cellsOf32]; rfl
  have k3 : ([c0, c1, c2, c3].drop 3).take (Try.prog.cellsOf 4) = [c3] := by rw [cellsOf4]; rfl
  have h0 : DataW.trod enc Try.prog w base spare held n 3 [c0] = some y0 := by rw [← k0, ← e0]; exact hget 0 _ rfl
  have h1 : DataW.trod enc Try.prog w base spare held n 3 [c1] = some y1 := by rw [← k1, ← e1]; exact hget 1 _ rfl
  have h2 : DataW.trod enc Try.prog w base spare held n 32 [c2] = some y2 := by rw [← k2, ← e2]; exact hget 2 _ rfl
  have h3 : DataW.trod enc Try.prog w base spare held n 4 [c3] = some y3 := by rw [← k3, ← e3]; exact hget 3 _ rfl
  obtain ⟨n0, q0, _⟩ := DataW.trod_int Try.underlying3 h0
  obtain ⟨n1, q1, _⟩ := DataW.trod_int Try.underlying3 h1
  obtain ⟨n2, q2, _⟩ := DataW.trod_int Try.underlying32 h2
  obtain ⟨n3, q3, _⟩ := DataW.trod_bool Try.underlying4 h3
  cases q0; cases q1; cases q2; cases q3
  exact ⟨⟨n0, n1, n2, n3⟩, rfl⟩
theorem flat_cell (l : List JOp) (i : Nat) (v : Value) (h : (flat l)[i]? = some v) : ∃ j k y, i = j * 4 + k ∧ l[j]? = some y ∧ y.cells[k]? = some v := by
  have hi := (List.getElem?_eq_some_iff.1 h).1
  rw [flat_length] at hi
  have hj : i / 4 < l.length := by omega
  refine ⟨i / 4, i % 4, l[i / 4], by omega, List.getElem?_eq_getElem hj, ?_⟩
  rw [← flat_get l (i / 4) _ (List.getElem?_eq_getElem hj), List.getElem?_take, if_pos (by omega), List.getElem?_drop, ← h]
  congr 1; omega
theorem arg_ops {Hh : Type} {enc : TypeId × Value → Hh} {W : World} {fuel : Nat} {held : Bool} {V : Value} {x : DataW Hh × List MemPlace} (hx : DataW.trod enc Try.prog W 0 (fun _ => true) held fuel 22 [V] = some x) :
    ∃ (P0 : Option Addr) (c : Nat) (l : List JOp) (z : Bool) (o0 : Option Blk) (r0 : Option Am.Loc), ((z = false ∧ l = [] ∧ ((P0 = none ∧ c = 0) ∨ (P0 = some ⟨0, 0, none⟩ ∧ c = 1))) ∨ (z = true ∧ P0 = some ⟨0, 0, none⟩)) ∧ l.length < 9223372036854775808 ∧
      (∀ B, o0 = some B → ∃ L, r0 = some L ∧ RoBlk W L B) ∧ (z = true → o0 = some ⟨flat l, 4, true⟩) ∧ (∀ r : Rho, r 0 = r0 → VR r (.slice P0 l.length c) V) := by
  rcases open_rows Try.underlying22 JOp.cells 4 (fun _ => rfl) (by omega) cellsOf34 (fun _ _ _ h => op_of_trod h) hx with h | ⟨a, len, cap, l, h, h1, h2, h3, h4⟩
  · simp at h; subst h
    exact ⟨none, 0, [], false, none, none, .inl ⟨rfl, rfl, .inl ⟨rfl, rfl⟩⟩, by simp, fun B q => by (cases q), fun q => by (cases q), fun r _ => .sl0⟩
  · simp at h; subst h
    by_cases hc : cap = 0
    · subst hc
      have : l = [] := List.eq_nil_of_length_eq_zero (by omega)
      subst this
      have hlen : len = 0 := by omega
      subst hlen
      exact ⟨some ⟨0, 0, none⟩, 1, [], false, none, none, .inl ⟨rfl, rfl, .inr ⟨rfl, rfl⟩⟩, by simp, fun B q => by (cases q), fun q => by (cases q), fun r _ => .sl (.inr rfl) (Nat.le_refl _) (by omega) (fun _ => rfl) (fun q => by omega)⟩
    · obtain ⟨hs, c, el, fz, k1, k2, k3⟩ := h4 hc
      refine ⟨some ⟨0, 0, none⟩, 2 * cap + 1, l, true, some ⟨flat l, 4, true⟩, some ⟨a.block, a.off, l.length * 4, 4⟩, .inr ⟨rfl, rfl⟩, by omega, fun B q => ?_, fun _ => rfl, fun r hr => ?_⟩
      · cases q
        refine ⟨_, rfl, c, el, fz, k1, rfl, by rw [flat_length]; exact Nat.le_refl _, by show a.off + l.length * 4 ≤ c.size; rw [h1]; exact k2, rfl, fun i v hv => ⟨List.all_eq_true.1 (flat_plain l) v (List.mem_of_getElem? hv), ?_⟩⟩
        obtain ⟨j, k, y, rfl, q1, q2⟩ := flat_cell l i v hv
        exact k3 j y q1 k v q2
      · subst h1
        refine .sl (.inl ⟨rfl, _, hr, ?_⟩) h2 (by omega) (fun _ => by omega) (fun q => by omega)
        obtain ⟨ab, ao, asp⟩ := a
        simp only at hs; subst hs; rfl
theorem arg_bools {Hh : Type} {enc : TypeId × Value → Hh} {W : World} {fuel : Nat} {held : Bool} {V : Value} {x : DataW Hh × List MemPlace} (hx : DataW.trod enc Try.prog W 0 (fun _ => true) held fuel 40 [V] = some x) :
    ∃ (P2 : Option Addr) (m c : Nat) (kb : List Bool) (o1 : Option Blk) (r1 : Option Am.Loc), m = kb.length ∧ (kb ≠ [] → P2 = some ⟨1, 0, none⟩) ∧ (kb ≠ [] → o1 = some ⟨kb.map Value.bool, 1, true⟩) ∧
      (∀ B, o1 = some B → ∃ L, r1 = some L ∧ RoBlk W L B) ∧ (∀ r : Rho, r 1 = r1 → VR r (.slice P2 m c) V) := by
  rcases open_rows Try.underlying40 (fun b : Bool => [Value.bool b]) 1 (fun _ => rfl) (by omega) cellsOf4 (fun _ _ _ h => by obtain ⟨b, q, _⟩ := DataW.trod_bool Try.underlying4 h; exact ⟨b, q⟩) hx with h | ⟨a, len, cap, kb, h, h1, h2, h3, h4⟩
  · simp at h; subst h
    exact ⟨none, 0, 0, [], none, none, rfl, fun q => absurd rfl q, fun q => absurd rfl q, fun B q => by (cases q), fun r _ => .sl0⟩
  · simp at h; subst h
    by_cases hc : cap = 0
    · subst hc
      have : kb = [] := List.eq_nil_of_length_eq_zero (by omega)
      subst this
      have hlen : len = 0 := by omega
      subst hlen
      exact ⟨some ⟨1, 0, none⟩, 0, 1, [], none, none, rfl, fun q => absurd rfl q, fun q => absurd rfl q, fun B q => by (cases q), fun r _ => .sl (.inr rfl) (Nat.le_refl _) (by omega) (fun _ => rfl) (fun q => by omega)⟩
    · obtain ⟨hs, c, el, fz, k1, k2, k3⟩ := h4 hc
      refine ⟨some ⟨1, 0, none⟩, kb.length, 2 * cap + 1, kb, some ⟨kb.map Value.bool, 1, true⟩, some ⟨a.block, a.off, kb.length, 1⟩, rfl, fun _ => rfl, fun _ => rfl, fun B q => ?_, fun r hr => ?_⟩
      · cases q
        refine ⟨_, rfl, c, el, fz, k1, rfl, by simp, by show a.off + kb.length ≤ c.size; omega, rfl, fun i v hv => ?_⟩
        rw [List.getElem?_map] at hv
        cases hk : kb[i]? with
        | none => rw [hk] at hv; cases hv
        | some b =>
          rw [hk] at hv; cases hv
          refine ⟨rfl, ?_⟩
          have := k3 i b hk 0 (.bool b) rfl
          simpa using this
      · subst h1
        refine .sl (.inl ⟨rfl, _, hr, ?_⟩) h2 (by omega) (fun _ => by omega) (fun q => by omega)
        obtain ⟨ab, ao, asp⟩ := a
        simp only at hs; subst hs; rfl
theorem walk {Hh : Type} {enc : TypeId × Value → Hh} {W : World} {f0 f2 : Nat} {held : Bool} {V0 V2 : Value} {x0 x2 : DataW Hh × List MemPlace} (turn : Nat) (htn : turn < 256) (h0 : DataW.trod enc Try.prog W 0 (fun _ => true) held f0 22 [V0] = some x0) (h2 : DataW.trod enc Try.prog W 0 (fun _ => true) held f2 40 [V2] = some x2) :
    Calls Try.prog 6 #[V0, .int .u8 turn, V2] W fun e W' => e = .returned (.bool true) ∧ Go.RowKit.Below W.heap.size W W' := by
  obtain ⟨P0, c, l, z, o0, r0, a1, a2, a3, a4, a5⟩ := arg_ops h0
  obtain ⟨P2, m, c2, kb, o1, r1, b1, b2, b3, b4, b5⟩ := arg_bools h2
  obtain ⟨h3, n, hr⟩ := law_true T4 (kb := kb) (turn := turn) (m := m) (c2 := c2) (P2 := P2) a1 a2 htn b1 b2 (two o0 o1) (fun q => by rw [two_get, if_neg (by omega), if_pos rfl]; exact a4 q) (fun q => by rw [two_get, if_pos rfl]; exact b3 q) (Nat.le_refl 2)
  have R := rel_two (W := W) a3 b4
  have hv : VL (rho2 r0 r1) [.slice P0 l.length c, .int .u8 turn, .slice P2 m c2] [V0, .int .u8 turn, V2] := VL.cons (a5 _ (by simp [rho2])) (VL.cons (.int ..) (VL.cons (b5 _ (by simp [rho2])) (VL.nil _)))
  refine (run_table dOK tab4OK n 6 W.heap.size _ _ W _ [V0, .int .u8 turn, V2] _ _ hr hv R).2.mono fun e W' he => ?_
  obtain ⟨r2, v', rfl, hvv, _, F, _⟩ := he
  cases hvv
  exact ⟨rfl, F.below R⟩
end Go.Proofs.Ytfcpokolbifilaa.Jd
namespace Go.Proofs.Ytfcpokolbifilaa.judgeParts
open Go.ChangeShapes Go.WideShapes Go.ChangeAt Go.RowKit
open Go.ChangeMaps (open_string shut_string)
set_option linter.unusedVariables false
set_option linter.unusedSimpArgs false
theorem own : ownKnob Try.prog.godebug = none := by kernel_rfl
theorem laidOut : laidOutB Try.prog = true := by kernel_rfl
set_option maxRecDepth 100000 in
theorem lifted (os : Os) (started : os.Started) (H : Type) (enc : TypeId × Value → H) :
    ReturnsInHanded {} Try.checked os 6 .any (Rows.judgePartsSpec.pre6 enc Try.prog Try.f6 Rows.judgePartsRow.domain false) (Rows.judgePartsSpec.post enc Try.prog Try.f6 false true false false) := by
  refine returnsInHanded_of_change_sized (C := Try.checked) own started (by kernel_rfl) Try.func6
    (ChangeSpec.witness6 (enc := enc) (C := Try.checked) false ⟨#[], #[.slice none 0 0, .int .u8 0, .slice none 0 0], []⟩ 8 (by kernel_rfl) (by kernel_rfl) (by kernel_rfl) (by kernel_rfl)) ?_
  intro W base args ds gs before hval0 hW hcnd hsz0 _
  have hval : ∀ (j : Nat) t v, Try.f6.params[j]? = some t → args[j]? = some v → Value.okWide Try.prog W .any base t v := hval0
  have hW' := hW
  obtain ⟨p, q, hA0, hV, rfl, hfz, hnd⟩ := hW
  have hA : DataW.TrodAll enc Try.prog W 0 (fun _ => true) true Try.f6.params.toList args.toList ds p := hA0
  rw [Try.params6] at hA hval
  obtain ⟨v0, vs0, d0, ds0, p0, q0, hargs, rfl, rfl, h0, r0⟩ := trodAll_cons hA
  obtain ⟨v1, vs1, d1, ds1, p1, q1, rfl, rfl, rfl, h1, r1⟩ := trodAll_cons r0
  obtain ⟨v2, vs2, d2, ds2, p2, q2, rfl, rfl, rfl, h2, r2⟩ := trodAll_cons r1
  obtain ⟨rfl, rfl, rfl⟩ := trodAll_nil r2
  obtain rfl : args = #[v0, v1, v2] := by cases args; simp_all
  obtain ⟨rfl, rfl⟩ := trodVars_none hV
  have k0 := h0
  have lt0 : ∀ x ∈ p0, x.block < W.heap.size := by obtain ⟨m, hm⟩ := k0; exact DataW.trod_lt m _ _ _ hm
  have k2 := h2
  have lt2 : ∀ x ∈ p2, x.block < W.heap.size := by obtain ⟨m, hm⟩ := k2; exact DataW.trod_lt m _ _ _ hm
  obtain ⟨A0, len0, cap0, rfl⟩ := okWide_slice Try.underlying22 (hval 0 22 v0 rfl rfl)
  obtain ⟨A2, len2, cap2, rfl⟩ := okWide_slice Try.underlying40 (hval 2 40 v2 rfl rfl)
  obtain ⟨a1, rfl, rfl, rfl, w1⟩ := open_int Try.underlying5 (hval 1 5 v1 rfl rfl) h1
  obtain ⟨m0, t0⟩ := h0
  obtain ⟨m2, t2⟩ := h2
  have hw : 0 ≤ a1 ∧ a1 ≤ 255 := by simpa [Lit.wf, IntKind.min, IntKind.max, IntKind.signed, IntKind.bits] using w1
  obtain ⟨turn, rfl⟩ : ∃ n : Nat, a1 = n := ⟨a1.toNat, (Int.toNat_of_nonneg hw.1).symm⟩
  clear hA0 hval0 hsz0
  refine (Jd.walk turn (by omega) t0 t2).mono fun e W' ⟨he, bel0⟩ => ?_
  have bel : Below W.heap.size W W' := bel0
  subst he
  exact ⟨_, rfl, _, _, _, [], _, [], hW', trodAll_mk1 (shut_bool Try.underlying4 _), (trodAll_cons_mk (Below.trod laidOut (by kernel_rfl) (of_decide_eq_true (by kernel_rfl)) k0 bel lt0) (trodAll_cons_mk (shut_int Try.underlying5 w1) (trodAll_cons_mk (Below.trod laidOut (by kernel_rfl) (of_decide_eq_true (by kernel_rfl)) k2 bel lt2) trodAll_mk0))), rfl, bel.frame _, fun h => by cases h⟩
theorem over : Rows.judgePartsRow.holds Try.pinned (OpenSpec.ofChange Rows.judgePartsSpec) :=
  OpenClaim.holds_of_wide 6 Try.f6 rfl rfl rfl rfl rfl rfl rfl ⟨rfl, rfl, rfl, rfl, rfl⟩ rfl rfl rfl rfl rfl (by kernel_rfl) Try.func6 (by kernel_rfl)
    (of_decide_eq_true (by kernel_rfl)) (by unfold Func.isWrapper; first | (rw [if_pos (by decide +kernel)]; kernel_rfl) | (rw [if_neg (by decide +kernel)]; exact ⟨rfl, rfl⟩))
    (fun os started H enc _ => lifted os started H enc)
theorem proved : Rows.JudgePartsSaid := over
end Go.Proofs.Ytfcpokolbifilaa.judgeParts
namespace Go.Proofs.Ytfcpokolbifilaa
/-- The row, under a short name, for the claim. -/
theorem judgeParts_holds : Rows.JudgePartsSaid := judgeParts.proved
end Go.Proofs.Ytfcpokolbifilaa

