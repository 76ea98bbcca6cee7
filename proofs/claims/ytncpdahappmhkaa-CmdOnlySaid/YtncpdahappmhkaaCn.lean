/- Which commands may be: the reference's and the program's functions walked. -/
import Derived.Test.YtncpdahappmhkaaCm
namespace Go.Proofs.Ytncpdahappmhkaa.Wt
open Go Go.Proofs.Ytncpdahappmhkaa.Am Go.Proofs.Ytncpdahappmhkaa.IrAll
set_option linter.unusedVariables false
set_option linter.unusedSimpArgs false
variable {h base : H} {L : List Seg} {R : List Nat}
def SameH (a b : Cmd) : Prop := a.op.toNat = b.op.toNat ∧ a.se.toNat = b.se.toNat ∧ a.sq.toNat = b.sq.toNat ∧ a.ky = b.ky ∧ a.va = b.va ∧ a.ex = b.ex ∧ a.fr = b.fr ∧ a.to = b.to ∧ a.li.toNat = b.li.toNat ∧ a.le.toNat = b.le.toNat ∧ a.tt.toNat = b.tt.toNat ∧ a.ps.length = b.ps.length
theorem same_yes {a b : Cmd} (q : SameH a b) (hp : a.ps = b.ps) : a = b := by
  obtain ⟨q1, q2, q3, q4, q5, q6, q7, q8, q9, q10, q11, _⟩ := q
  obtain ⟨⟩ := a; obtain ⟨⟩ := b
  simp only at *
  rw [u8_inj q1, u64_inj q2, u64_inj q3, q4, q5, q6, q7, q8, u8_inj q9, u64_inj q10, u64_inj q11, hp]
theorem same_no {a b : Cmd} (q : ¬ SameH a b) : a ≠ b := fun e => q (by subst e; exact ⟨rfl, rfl, rfl, rfl, rfl, rfl, rfl, rfl, rfl, rfl, rfl, rfl⟩)
theorem eq_take_step {α : Type} {l m : List α} {i : Nat} {x y : α} (h : l.take i = m.take i) (hx : l[i]? = some x) (hy : m[i]? = some y) (e : x = y) : l.take (i + 1) = m.take (i + 1) := by
  rw [List.take_add_one, List.take_add_one, h, hx, hy, e]
theorem ne_of_get {α : Type} {l m : List α} {i : Nat} {x y : α} (hx : l[i]? = some x) (hy : m[i]? = some y) (e : x ≠ y) : l ≠ m := by
  intro q; subst q; rw [hx] at hy; cases hy; exact e rfl
theorem Same_ran (W : Mem h h [] []) {a b : Cmd} {V V2 : Value} (A : KPart.Sl h V a.ps) (B : KPart.Sl h V2 b.ps) (hl : a.ps.length ≤ 1000000) : Cll tab0 15 [a.val V, b.val V2] h (fun v h2 => v = .bool (decide (a = b)) ∧ Mem h h2 [] []) := by
  obtain ⟨P, n, rfl⟩ := A.shape
  obtain ⟨P2, n2, rfl⟩ := B.shape
  refine Cll.code rfl rfl ?_
  refine WC.env [(0, _), (1, _)] rfl ?_
  refine WC.seq ?_
  refine WC.run ?_
  refine WS.box W [_, _, _, _, _, _, _, _, _, _, _, _] rfl rfl rfl rfl ?_
  intro p1 h2 M3
  refine WS.box M3 [_, _, _, _, _, _, _, _, _, _, _, _] rfl rfl rfl rfl ?_
  intro p4 h5 M6
  refine WS.op rfl rfl (WS.nil [(2, _), (3, _)] rfl ?_)
  refine WC.seq ?_
  refine WC.seq ?_
  obtain ⟨L7, eL9, M8⟩ := Mem.name M6.bare
  refine WC.joinB (base := h) (fun b => [(2, (.pointer (some ⟨p1, 0, none⟩))), (3, (.pointer (some ⟨p4, 0, none⟩))), (89, .bool b)]) L7 (¬ SameH a b) (SameH a b) ?_ ?_ ?_
  · subst eL9
    refine WS.op rfl rfl (WS.op rfl (op_ld (M8.at 1 rfl) rfl rfl) (WS.op rfl rfl (WS.op rfl (op_ld (M8.at 0 rfl) rfl rfl) ?_)))
    refine WS.neqN (a := (a.op).toNat) (b := (b.op).toNat) rfl rfl rfl (fun e10 => ?_) (fun e10 => ?_)
    · skip
      refine WS.op rfl rfl (WS.off rfl (WS.off rfl (WS.off rfl (WS.off rfl (WS.off rfl (WS.op rfl rfl (WS.op rfl rfl (WS.off rfl (WS.off rfl ?_)))))))))
      refine WS.off rfl (WS.off rfl (WS.off rfl (WS.op rfl rfl (WS.op rfl rfl (WS.off rfl (WS.off rfl (WS.off rfl (WS.off rfl (WS.off rfl ?_)))))))))
      refine WS.op rfl rfl (WS.op rfl rfl (WS.off rfl (WS.off rfl (WS.off rfl (WS.off rfl (WS.off rfl (WS.op rfl rfl (WS.op rfl rfl (WS.off rfl ?_)))))))))
      refine WS.off rfl (WS.off rfl (WS.off rfl (WS.off rfl (WS.op rfl rfl (WS.op rfl rfl (WS.off rfl (WS.off rfl (WS.off rfl (WS.off rfl ?_)))))))))
      refine WS.off rfl (WS.op rfl rfl (WS.op rfl rfl (WS.off rfl (WS.off rfl (WS.off rfl (WS.off rfl (WS.off rfl (WS.op rfl rfl (WS.op rfl rfl ?_)))))))))
      refine WS.off rfl (WS.off rfl (WS.off rfl (WS.off rfl (WS.off rfl (WS.op rfl rfl (WS.op rfl rfl (WS.off rfl (WS.off rfl (WS.off rfl ?_)))))))))
      refine WS.off rfl (WS.off rfl (WS.op rfl rfl (WS.op rfl rfl (WS.off rfl (WS.off rfl (WS.off rfl (WS.off rfl (WS.off rfl (WS.op rfl rfl ?_)))))))))
      refine WS.op rfl rfl (WS.off rfl (WS.off rfl (WS.off rfl (WS.off rfl (WS.off rfl (WS.off rfl (WS.off rfl (WS.op rfl rfl ?_))))))))
      refine WS.nil' ⟨true, rfl, (((M8.bare.focus 1 rfl).focus 1 rfl).take 2), fun _ => ?_, fun hh => ?_⟩
      · rintro ⟨q0, q1, q2, q3, q4, q5, q6, q7, q8, q9, q10, q11⟩; first | exact e10 q0 | exact e16 q1 | exact e23 q2 | exact e30 q3 | exact e37 q4 | exact e44 q5 | exact e51 q6 | exact e58 q7 | exact e65 q8 | exact e72 q9 | exact e79 q10 | exact e88 q11
      · cases hh
    · skip
      refine WS.op rfl rfl (WS.op rfl rfl (WS.op rfl (op_ld (M8.at 1 rfl) rfl rfl) (WS.op rfl rfl (WS.op rfl (op_ld (M8.at 0 rfl) rfl rfl) ?_))))
      refine WS.neqN (a := (a.se).toNat) (b := (b.se).toNat) rfl rfl rfl (fun e16 => ?_) (fun e16 => ?_)
      · skip
        refine WS.op rfl rfl (WS.op rfl rfl (WS.off rfl (WS.off rfl (WS.off rfl (WS.off rfl (WS.off rfl (WS.op rfl rfl (WS.op rfl rfl (WS.off rfl ?_)))))))))
        refine WS.off rfl (WS.off rfl (WS.off rfl (WS.off rfl (WS.op rfl rfl (WS.op rfl rfl (WS.off rfl (WS.off rfl (WS.off rfl (WS.off rfl ?_)))))))))
        refine WS.off rfl (WS.op rfl rfl (WS.op rfl rfl (WS.off rfl (WS.off rfl (WS.off rfl (WS.off rfl (WS.off rfl (WS.op rfl rfl (WS.op rfl rfl ?_)))))))))
        refine WS.off rfl (WS.off rfl (WS.off rfl (WS.off rfl (WS.off rfl (WS.op rfl rfl (WS.op rfl rfl (WS.off rfl (WS.off rfl (WS.off rfl ?_)))))))))
        refine WS.off rfl (WS.off rfl (WS.op rfl rfl (WS.op rfl rfl (WS.off rfl (WS.off rfl (WS.off rfl (WS.off rfl (WS.off rfl (WS.op rfl rfl ?_)))))))))
        refine WS.op rfl rfl (WS.off rfl (WS.off rfl (WS.off rfl (WS.off rfl (WS.off rfl (WS.op rfl rfl (WS.op rfl rfl (WS.off rfl (WS.off rfl ?_)))))))))
        refine WS.off rfl (WS.off rfl (WS.off rfl (WS.op rfl rfl (WS.op rfl rfl (WS.off rfl (WS.off rfl (WS.off rfl (WS.off rfl (WS.off rfl ?_)))))))))
        refine WS.off rfl (WS.off rfl (WS.op rfl rfl ?_))
        refine WS.nil' ⟨true, rfl, (((M8.bare.focus 1 rfl).focus 1 rfl).take 2), fun _ => ?_, fun hh => ?_⟩
        · rintro ⟨q0, q1, q2, q3, q4, q5, q6, q7, q8, q9, q10, q11⟩; first | exact e10 q0 | exact e16 q1 | exact e23 q2 | exact e30 q3 | exact e37 q4 | exact e44 q5 | exact e51 q6 | exact e58 q7 | exact e65 q8 | exact e72 q9 | exact e79 q10 | exact e88 q11
        · cases hh
      · skip
        refine WS.op rfl rfl (WS.op rfl rfl (WS.op rfl rfl (WS.op rfl (op_ld (M8.at 1 rfl) rfl rfl) (WS.op rfl rfl (WS.op rfl (op_ld (M8.at 0 rfl) rfl rfl) ?_)))))
        refine WS.neqN (a := (a.sq).toNat) (b := (b.sq).toNat) rfl rfl rfl (fun e23 => ?_) (fun e23 => ?_)
        · skip
          refine WS.op rfl rfl (WS.op rfl rfl (WS.off rfl (WS.off rfl (WS.off rfl (WS.off rfl (WS.off rfl (WS.op rfl rfl (WS.op rfl rfl (WS.off rfl ?_)))))))))
          refine WS.off rfl (WS.off rfl (WS.off rfl (WS.off rfl (WS.op rfl rfl (WS.op rfl rfl (WS.off rfl (WS.off rfl (WS.off rfl (WS.off rfl ?_)))))))))
          refine WS.off rfl (WS.op rfl rfl (WS.op rfl rfl (WS.off rfl (WS.off rfl (WS.off rfl (WS.off rfl (WS.off rfl (WS.op rfl rfl (WS.op rfl rfl ?_)))))))))
          refine WS.off rfl (WS.off rfl (WS.off rfl (WS.off rfl (WS.off rfl (WS.op rfl rfl (WS.op rfl rfl (WS.off rfl (WS.off rfl (WS.off rfl ?_)))))))))
          refine WS.off rfl (WS.off rfl (WS.op rfl rfl (WS.op rfl rfl (WS.off rfl (WS.off rfl (WS.off rfl (WS.off rfl (WS.off rfl (WS.op rfl rfl ?_)))))))))
          refine WS.op rfl rfl (WS.off rfl (WS.off rfl (WS.off rfl (WS.off rfl (WS.off rfl (WS.op rfl rfl (WS.op rfl rfl (WS.off rfl (WS.off rfl ?_)))))))))
          refine WS.off rfl (WS.off rfl (WS.off rfl (WS.off rfl (WS.off rfl (WS.op rfl rfl ?_)))))
          refine WS.nil' ⟨true, rfl, (((M8.bare.focus 1 rfl).focus 1 rfl).take 2), fun _ => ?_, fun hh => ?_⟩
          · rintro ⟨q0, q1, q2, q3, q4, q5, q6, q7, q8, q9, q10, q11⟩; first | exact e10 q0 | exact e16 q1 | exact e23 q2 | exact e30 q3 | exact e37 q4 | exact e44 q5 | exact e51 q6 | exact e58 q7 | exact e65 q8 | exact e72 q9 | exact e79 q10 | exact e88 q11
          · cases hh
        · skip
          refine WS.op rfl rfl (WS.op rfl rfl (WS.op rfl rfl (WS.op rfl (op_ld (M8.at 1 rfl) rfl rfl) (WS.op rfl rfl (WS.op rfl (op_ld (M8.at 0 rfl) rfl rfl) ?_)))))
          refine WS.sneq (l := a.ky) (m := b.ky) rfl rfl rfl (fun e30 => ?_) (fun e30 => ?_)
          · skip
            refine WS.op rfl rfl (WS.op rfl rfl (WS.off rfl (WS.off rfl (WS.off rfl (WS.off rfl (WS.off rfl (WS.op rfl rfl (WS.op rfl rfl (WS.off rfl ?_)))))))))
            refine WS.off rfl (WS.off rfl (WS.off rfl (WS.off rfl (WS.op rfl rfl (WS.op rfl rfl (WS.off rfl (WS.off rfl (WS.off rfl (WS.off rfl ?_)))))))))
            refine WS.off rfl (WS.op rfl rfl (WS.op rfl rfl (WS.off rfl (WS.off rfl (WS.off rfl (WS.off rfl (WS.off rfl (WS.op rfl rfl (WS.op rfl rfl ?_)))))))))
            refine WS.off rfl (WS.off rfl (WS.off rfl (WS.off rfl (WS.off rfl (WS.op rfl rfl (WS.op rfl rfl (WS.off rfl (WS.off rfl (WS.off rfl ?_)))))))))
            refine WS.off rfl (WS.off rfl (WS.op rfl rfl (WS.op rfl rfl (WS.off rfl (WS.off rfl (WS.off rfl (WS.off rfl (WS.off rfl (WS.op rfl rfl ?_)))))))))
            refine WS.op rfl rfl (WS.off rfl (WS.off rfl (WS.off rfl (WS.off rfl (WS.off rfl (WS.off rfl (WS.off rfl (WS.op rfl rfl ?_))))))))
            refine WS.nil' ⟨true, rfl, (((M8.bare.focus 1 rfl).focus 1 rfl).take 2), fun _ => ?_, fun hh => ?_⟩
            · rintro ⟨q0, q1, q2, q3, q4, q5, q6, q7, q8, q9, q10, q11⟩; first | exact e10 q0 | exact e16 q1 | exact e23 q2 | exact e30 q3 | exact e37 q4 | exact e44 q5 | exact e51 q6 | exact e58 q7 | exact e65 q8 | exact e72 q9 | exact e79 q10 | exact e88 q11
            · cases hh
          · skip
            refine WS.op rfl rfl (WS.op rfl rfl (WS.op rfl rfl (WS.op rfl (op_ld (M8.at 1 rfl) rfl rfl) (WS.op rfl rfl (WS.op rfl (op_ld (M8.at 0 rfl) rfl rfl) ?_)))))
            refine WS.sneq (l := a.va) (m := b.va) rfl rfl rfl (fun e37 => ?_) (fun e37 => ?_)
            · skip
              refine WS.op rfl rfl (WS.op rfl rfl (WS.off rfl (WS.off rfl (WS.off rfl (WS.off rfl (WS.off rfl (WS.op rfl rfl (WS.op rfl rfl (WS.off rfl ?_)))))))))
              refine WS.off rfl (WS.off rfl (WS.off rfl (WS.off rfl (WS.op rfl rfl (WS.op rfl rfl (WS.off rfl (WS.off rfl (WS.off rfl (WS.off rfl ?_)))))))))
              refine WS.off rfl (WS.op rfl rfl (WS.op rfl rfl (WS.off rfl (WS.off rfl (WS.off rfl (WS.off rfl (WS.off rfl (WS.op rfl rfl (WS.op rfl rfl ?_)))))))))
              refine WS.off rfl (WS.off rfl (WS.off rfl (WS.off rfl (WS.off rfl (WS.op rfl rfl (WS.op rfl rfl (WS.off rfl (WS.off rfl (WS.off rfl ?_)))))))))
              refine WS.off rfl (WS.off rfl (WS.op rfl rfl (WS.op rfl rfl (WS.off rfl (WS.off rfl (WS.off rfl (WS.off rfl (WS.off rfl (WS.off rfl ?_)))))))))
              refine WS.off rfl (WS.op rfl rfl ?_)
              refine WS.nil' ⟨true, rfl, (((M8.bare.focus 1 rfl).focus 1 rfl).take 2), fun _ => ?_, fun hh => ?_⟩
              · rintro ⟨q0, q1, q2, q3, q4, q5, q6, q7, q8, q9, q10, q11⟩; first | exact e10 q0 | exact e16 q1 | exact e23 q2 | exact e30 q3 | exact e37 q4 | exact e44 q5 | exact e51 q6 | exact e58 q7 | exact e65 q8 | exact e72 q9 | exact e79 q10 | exact e88 q11
              · cases hh
            · skip
              refine WS.op rfl rfl (WS.op rfl rfl (WS.op rfl rfl (WS.op rfl (op_ld (M8.at 1 rfl) rfl rfl) (WS.op rfl rfl (WS.op rfl (op_ld (M8.at 0 rfl) rfl rfl) ?_)))))
              refine WS.sneq (l := a.ex) (m := b.ex) rfl rfl rfl (fun e44 => ?_) (fun e44 => ?_)
              · skip
                refine WS.op rfl rfl (WS.op rfl rfl (WS.off rfl (WS.off rfl (WS.off rfl (WS.off rfl (WS.off rfl (WS.op rfl rfl (WS.op rfl rfl (WS.off rfl ?_)))))))))
                refine WS.off rfl (WS.off rfl (WS.off rfl (WS.off rfl (WS.op rfl rfl (WS.op rfl rfl (WS.off rfl (WS.off rfl (WS.off rfl (WS.off rfl ?_)))))))))
                refine WS.off rfl (WS.op rfl rfl (WS.op rfl rfl (WS.off rfl (WS.off rfl (WS.off rfl (WS.off rfl (WS.off rfl (WS.op rfl rfl (WS.op rfl rfl ?_)))))))))
                refine WS.off rfl (WS.off rfl (WS.off rfl (WS.off rfl (WS.off rfl (WS.op rfl rfl (WS.op rfl rfl (WS.off rfl (WS.off rfl (WS.off rfl ?_)))))))))
                refine WS.off rfl (WS.off rfl (WS.off rfl (WS.off rfl (WS.op rfl rfl ?_))))
                refine WS.nil' ⟨true, rfl, (((M8.bare.focus 1 rfl).focus 1 rfl).take 2), fun _ => ?_, fun hh => ?_⟩
                · rintro ⟨q0, q1, q2, q3, q4, q5, q6, q7, q8, q9, q10, q11⟩; first | exact e10 q0 | exact e16 q1 | exact e23 q2 | exact e30 q3 | exact e37 q4 | exact e44 q5 | exact e51 q6 | exact e58 q7 | exact e65 q8 | exact e72 q9 | exact e79 q10 | exact e88 q11
                · cases hh
              · skip
                refine WS.op rfl rfl (WS.op rfl rfl (WS.op rfl rfl (WS.op rfl (op_ld (M8.at 1 rfl) rfl rfl) (WS.op rfl rfl (WS.op rfl (op_ld (M8.at 0 rfl) rfl rfl) ?_)))))
                refine WS.sneq (l := a.fr) (m := b.fr) rfl rfl rfl (fun e51 => ?_) (fun e51 => ?_)
                · skip
                  refine WS.op rfl rfl (WS.op rfl rfl (WS.off rfl (WS.off rfl (WS.off rfl (WS.off rfl (WS.off rfl (WS.op rfl rfl (WS.op rfl rfl (WS.off rfl ?_)))))))))
                  refine WS.off rfl (WS.off rfl (WS.off rfl (WS.off rfl (WS.op rfl rfl (WS.op rfl rfl (WS.off rfl (WS.off rfl (WS.off rfl (WS.off rfl ?_)))))))))
                  refine WS.off rfl (WS.op rfl rfl (WS.op rfl rfl (WS.off rfl (WS.off rfl (WS.off rfl (WS.off rfl (WS.off rfl (WS.op rfl rfl (WS.op rfl rfl ?_)))))))))
                  refine WS.off rfl (WS.off rfl (WS.off rfl (WS.off rfl (WS.off rfl (WS.off rfl (WS.off rfl (WS.op rfl rfl ?_)))))))
                  refine WS.nil' ⟨true, rfl, (((M8.bare.focus 1 rfl).focus 1 rfl).take 2), fun _ => ?_, fun hh => ?_⟩
                  · rintro ⟨q0, q1, q2, q3, q4, q5, q6, q7, q8, q9, q10, q11⟩; first | exact e10 q0 | exact e16 q1 | exact e23 q2 | exact e30 q3 | exact e37 q4 | exact e44 q5 | exact e51 q6 | exact e58 q7 | exact e65 q8 | exact e72 q9 | exact e79 q10 | exact e88 q11
                  · cases hh
                · skip
                  refine WS.op rfl rfl (WS.op rfl rfl (WS.op rfl rfl (WS.op rfl (op_ld (M8.at 1 rfl) rfl rfl) (WS.op rfl rfl (WS.op rfl (op_ld (M8.at 0 rfl) rfl rfl) ?_)))))
                  refine WS.sneq (l := a.to) (m := b.to) rfl rfl rfl (fun e58 => ?_) (fun e58 => ?_)
                  · skip
                    refine WS.op rfl rfl (WS.op rfl rfl (WS.off rfl (WS.off rfl (WS.off rfl (WS.off rfl (WS.off rfl (WS.op rfl rfl (WS.op rfl rfl (WS.off rfl ?_)))))))))
                    refine WS.off rfl (WS.off rfl (WS.off rfl (WS.off rfl (WS.op rfl rfl (WS.op rfl rfl (WS.off rfl (WS.off rfl (WS.off rfl (WS.off rfl ?_)))))))))
                    refine WS.off rfl (WS.op rfl rfl (WS.op rfl rfl (WS.off rfl (WS.off rfl (WS.off rfl (WS.off rfl (WS.off rfl (WS.off rfl (WS.off rfl ?_)))))))))
                    refine WS.op rfl rfl ?_
                    refine WS.nil' ⟨true, rfl, (((M8.bare.focus 1 rfl).focus 1 rfl).take 2), fun _ => ?_, fun hh => ?_⟩
                    · rintro ⟨q0, q1, q2, q3, q4, q5, q6, q7, q8, q9, q10, q11⟩; first | exact e10 q0 | exact e16 q1 | exact e23 q2 | exact e30 q3 | exact e37 q4 | exact e44 q5 | exact e51 q6 | exact e58 q7 | exact e65 q8 | exact e72 q9 | exact e79 q10 | exact e88 q11
                    · cases hh
                  · skip
                    refine WS.op rfl rfl (WS.op rfl rfl (WS.op rfl rfl (WS.op rfl (op_ld (M8.at 1 rfl) rfl rfl) (WS.op rfl rfl (WS.op rfl (op_ld (M8.at 0 rfl) rfl rfl) ?_)))))
                    refine WS.neqN (a := (a.li).toNat) (b := (b.li).toNat) rfl rfl rfl (fun e65 => ?_) (fun e65 => ?_)
                    · skip
                      refine WS.op rfl rfl (WS.op rfl rfl (WS.off rfl (WS.off rfl (WS.off rfl (WS.off rfl (WS.off rfl (WS.op rfl rfl (WS.op rfl rfl (WS.off rfl ?_)))))))))
                      refine WS.off rfl (WS.off rfl (WS.off rfl (WS.off rfl (WS.op rfl rfl (WS.op rfl rfl (WS.off rfl (WS.off rfl (WS.off rfl (WS.off rfl ?_)))))))))
                      refine WS.off rfl (WS.off rfl (WS.off rfl (WS.op rfl rfl ?_)))
                      refine WS.nil' ⟨true, rfl, (((M8.bare.focus 1 rfl).focus 1 rfl).take 2), fun _ => ?_, fun hh => ?_⟩
                      · rintro ⟨q0, q1, q2, q3, q4, q5, q6, q7, q8, q9, q10, q11⟩; first | exact e10 q0 | exact e16 q1 | exact e23 q2 | exact e30 q3 | exact e37 q4 | exact e44 q5 | exact e51 q6 | exact e58 q7 | exact e65 q8 | exact e72 q9 | exact e79 q10 | exact e88 q11
                      · cases hh
                    · skip
                      refine WS.op rfl rfl (WS.op rfl rfl (WS.op rfl rfl (WS.op rfl (op_ld (M8.at 1 rfl) rfl rfl) (WS.op rfl rfl (WS.op rfl (op_ld (M8.at 0 rfl) rfl rfl) ?_)))))
                      refine WS.neqN (a := (a.le).toNat) (b := (b.le).toNat) rfl rfl rfl (fun e72 => ?_) (fun e72 => ?_)
                      · skip
                        refine WS.op rfl rfl (WS.op rfl rfl (WS.off rfl (WS.off rfl (WS.off rfl (WS.off rfl (WS.off rfl (WS.op rfl rfl (WS.op rfl rfl (WS.off rfl ?_)))))))))
                        refine WS.off rfl (WS.off rfl (WS.off rfl (WS.off rfl (WS.off rfl (WS.off rfl (WS.op rfl rfl ?_))))))
                        refine WS.nil' ⟨true, rfl, (((M8.bare.focus 1 rfl).focus 1 rfl).take 2), fun _ => ?_, fun hh => ?_⟩
                        · rintro ⟨q0, q1, q2, q3, q4, q5, q6, q7, q8, q9, q10, q11⟩; first | exact e10 q0 | exact e16 q1 | exact e23 q2 | exact e30 q3 | exact e37 q4 | exact e44 q5 | exact e51 q6 | exact e58 q7 | exact e65 q8 | exact e72 q9 | exact e79 q10 | exact e88 q11
                        · cases hh
                      · skip
                        refine WS.op rfl rfl (WS.op rfl rfl (WS.op rfl rfl (WS.op rfl (op_ld (M8.at 1 rfl) rfl rfl) (WS.op rfl rfl (WS.op rfl (op_ld (M8.at 0 rfl) rfl rfl) ?_)))))
                        refine WS.neqN (a := (a.tt).toNat) (b := (b.tt).toNat) rfl rfl rfl (fun e79 => ?_) (fun e79 => ?_)
                        · skip
                          refine WS.op rfl rfl (WS.op rfl rfl (WS.off rfl (WS.off rfl (WS.off rfl (WS.off rfl (WS.off rfl (WS.off rfl (WS.off rfl (WS.op rfl rfl ?_)))))))))
                          refine WS.nil' ⟨true, rfl, (((M8.bare.focus 1 rfl).focus 1 rfl).take 2), fun _ => ?_, fun hh => ?_⟩
                          · rintro ⟨q0, q1, q2, q3, q4, q5, q6, q7, q8, q9, q10, q11⟩; first | exact e10 q0 | exact e16 q1 | exact e23 q2 | exact e30 q3 | exact e37 q4 | exact e44 q5 | exact e51 q6 | exact e58 q7 | exact e65 q8 | exact e72 q9 | exact e79 q10 | exact e88 q11
                          · cases hh
                        · skip
                          refine WS.op rfl rfl (WS.op rfl rfl (WS.op rfl rfl (WS.op rfl (op_ld (M8.at 1 rfl) rfl rfl) (WS.op rfl (op_lenVS A rfl) (WS.op rfl rfl (WS.op rfl (op_ld (M8.at 0 rfl) rfl rfl) (WS.op rfl (op_lenVS B rfl) ?_)))))))
                          refine WS.neqN (a := (a.ps).length) (b := (b.ps).length) rfl rfl rfl (fun e88 => ?_) (fun e88 => ?_)
                          · skip
                            refine WS.op rfl rfl ?_
                            refine WS.nil' ⟨true, rfl, (((M8.bare.focus 1 rfl).focus 1 rfl).take 2), fun _ => ?_, fun hh => ?_⟩
                            · rintro ⟨q0, q1, q2, q3, q4, q5, q6, q7, q8, q9, q10, q11⟩; first | exact e10 q0 | exact e16 q1 | exact e23 q2 | exact e30 q3 | exact e37 q4 | exact e44 q5 | exact e51 q6 | exact e58 q7 | exact e65 q8 | exact e72 q9 | exact e79 q10 | exact e88 q11
                            · cases hh
                          · skip
                            refine WS.op rfl rfl ?_
                            refine WS.nil' ⟨false, rfl, (((M8.bare.focus 1 rfl).focus 1 rfl).take 2), fun hh => ?_, fun _ => ?_⟩
                            · cases hh
                            · exact ⟨e10, e16, e23, e30, e37, e44, e51, e58, e65, e72, e79, e88⟩
  · intro h10 M11 hp89
    subst eL9
    refine WC.condT rfl ?_
    refine WC.seq ?_
    refine WC.run ?_
    refine WS.op rfl rfl (WS.nil [(4, _)] rfl ?_)
    refine WC.ret ?_
    refine ⟨[_], (res_tmp rfl res_nil), ?_⟩
    exact ⟨by rw [decide_eq_false (same_no hp89)]; rfl, M11.bare.take 0⟩
  · intro h12 M13 hp89
    subst eL9
    refine WC.condF rfl ?_
    refine WC.skip ?_
    refine WC.seq ?_
    refine WC.seq ?_
    refine WC.run ?_
    refine WS.op rfl rfl (WS.nil [(2, _), (3, _), (5, _)] rfl ?_)
    refine WC.block ?_
    obtain ⟨L14, eL16, M15⟩ := Mem.name M13.bare
    refine WC.loop (σ := Nat) (fun (i) => [(2, (.pointer (some ⟨p1, 0, none⟩))), (3, (.pointer (some ⟨p4, 0, none⟩))), (5, (.int .i64 ((i : Nat) : Int)))]) (fun (i) hh => Mem h hh (L14) [] ∧ a.ps.take i = b.ps.take i ∧ i ≤ a.ps.length) (fun (i) => a.ps.length - i) (0) rfl ⟨M15, ?_⟩ ?_
    · exact ⟨rfl, by omega⟩
    · rintro i h17 ⟨M18, ⟨hO, hi1⟩⟩
      subst eL16
      refine WC.env [(2, _), (3, _), (5, _)] rfl ?_
      refine WC.seq ?_
      refine WC.seq ?_
      refine WC.run ?_
      refine WS.op rfl rfl (WS.op rfl rfl (WS.op rfl (op_ld (M18.at 1 rfl) rfl rfl) (WS.op rfl (op_lenVS A rfl) ?_)))
      refine WS.lssN (a := i) (b := (a.ps).length) rfl rfl rfl (fun e94 => ?_) (fun e94 => ?_)
      · skip
        refine WS.nil [(2, _), (3, _), (5, _), (94, _)] rfl ?_
        refine WC.condT rfl ?_
        refine WC.skip ?_
        refine WC.seq ?_
        refine WC.block ?_
        refine WC.seq ?_
        refine WC.draw M18 [] rfl ?_
        intro rb19 h20 M21
        refine WS.op rfl rfl (WS.op rfl (op_ld (M21.at 1 rfl) rfl rfl) (WS.op rfl rfl ?_))
        obtain ⟨y100, hy100⟩ : ∃ y, (a.ps)[i]? = some y := ⟨_, List.getElem?_eq_getElem (show i < (a.ps).length by first | omega | (simp only [List.length_drop, List.length_take, List.length_append, List.length_cons, List.length_nil, List.length_singleton]; omega) | (simp only [List.length_drop, List.length_take, List.length_append, List.length_cons, List.length_nil, List.length_singleton] at *; omega))⟩
        refine WS.iaVS A i hy100 rfl rfl rfl rfl ?_
        intro b100_ o100_ ha100
        refine WS.op rfl (op_ldAt rfl (ha100.mono M21.sub) rfl) (WS.op rfl rfl (WS.op rfl (op_ld (M21.at 0 rfl) rfl rfl) (WS.op rfl rfl ?_)))
        obtain ⟨y105, hy105⟩ : ∃ y, (b.ps)[i]? = some y := ⟨_, List.getElem?_eq_getElem (show i < (b.ps).length by have := hp89.2.2.2.2.2.2.2.2.2.2.2; omega)⟩
        refine WS.iaVS B i hy105 rfl rfl rfl rfl ?_
        intro b105_ o105_ ha105
        refine WS.op rfl (op_ldAt rfl (ha105.mono M21.sub) rfl) ?_
        refine WS.eqqDn (p := y100 = y105) rfl rfl rfl (Part_eqV _ _) (fun e107 => ?_) (fun e107 => ?_)
        · skip
          refine WS.nil [(2, _), (3, _), (5, _), (107, _)] rfl ?_
          refine WC.condT rfl ?_
          refine WC.seq ?_
          refine WC.run ?_
          refine WS.op rfl rfl (WS.nil [(4, _)] rfl ?_)
          refine WC.ret ?_
          refine ⟨[_], (res_tmp rfl res_nil), ?_⟩
          exact ⟨by rw [decide_eq_false (fun q => ne_of_get hy100 hy105 e107 (congrArg Cmd.ps q))]; rfl, M21.bare.bare.take 0⟩
        · skip
          refine WS.nil [(2, _), (3, _), (5, _), (107, _)] rfl ?_
          refine WC.condF rfl ?_
          refine WC.skip ?_
          refine WC.run ?_
          refine WS.op rfl rfl (WS.opV (.int .i64 (((i + 1) : Nat) : Int)) rfl rfl (add_i64 (a := i) (b := 1) (by omega)) (WS.op rfl rfl (WS.nil [(2, _), (3, _), (5, _)] rfl ?_)))
          refine ⟨i + 1, rfl, ⟨(((M21.bare.bare.focus 1 rfl).focus 1 rfl).take 2), ?_⟩, ?_⟩
          · exact ⟨eq_take_step hO hy100 hy105 (by assumption), by omega⟩
          · simp only []; omega
      · skip
        refine WS.nil [(2, _), (3, _), (5, _), (94, _)] rfl ?_
        refine WC.condF rfl ?_
        refine WC.exit ?_
        refine WC.seq ?_
        refine WC.run ?_
        refine WS.op rfl rfl (WS.nil [(4, _)] rfl ?_)
        refine WC.ret ?_
        refine ⟨[_], (res_tmp rfl res_nil), ?_⟩
        have hln := hp89.2.2.2.2.2.2.2.2.2.2.2
        rw [List.take_of_length_le (by omega), List.take_of_length_le (by omega)] at hO
        exact ⟨by rw [decide_eq_true (same_yes hp89 hO)]; rfl, M18.bare.take 0⟩
/-! ### Which may be -/
def GoodP (p : Part) : Prop := p.op.toNat = 2 ∨ (p.op.toNat = 3 ∧ p.va = [])
instance (p : Part) : Decidable (GoodP p) := by unfold GoodP; infer_instance
def badP (p : Part) : Bool := !decide (GoodP p)
def AllG (ps : List Part) : Prop := ∀ p ∈ ps, GoodP p
instance (ps : List Part) : Decidable (AllG ps) := by unfold AllG; infer_instance
def MayC (c : Cmd) : Prop := (1 ≤ c.op.toNat ∧ c.op.toNat ≤ 11) ∧ c = plain c ∧ (c.op.toNat = 5 → 1 ≤ c.ps.length ∧ c.ps.length ≤ 4) ∧ AllG c.ps
instance (c : Cmd) : Decidable (MayC c) := by unfold MayC; infer_instance
def mayB (c : Cmd) : Bool := decide (MayC c)
theorem mayB_t {c : Cmd} (q : MayC c) : packE [.bool true] = .bool (mayB c) := by unfold mayB; rw [decide_eq_true q]; rfl
theorem mayB_f {c : Cmd} (q : ¬ MayC c) : packE [.bool false] = .bool (mayB c) := by unfold mayB; rw [decide_eq_false q]; rfl
theorem AllG_snoc {es : List Part} {i : Nat} {y : Part} (h : AllG (es.take i)) (hy : es[i]? = some y) (hr : GoodP y) : AllG (es.take (i + 1)) := by
  intro e he
  rw [List.take_add_one, hy] at he
  simp only [Option.toList_some, List.mem_append, List.mem_singleton] at he
  rcases he with he | he
  · exact h e he
  · subst he; exact hr
set_option maxRecDepth 8000 in
theorem refMay_ran (W : Mem h h [] []) {c : Cmd} {V : Value} (A : KPart.Sl h V c.ps) (hf : Fit c) : Cll tab0 36 [c.val V] h (fun v h2 => v = .bool (mayB c) ∧ Mem h h2 [] []) := by
  obtain ⟨P, n, rfl⟩ := A.shape
  have f6 := hf.2.2.2.2.2.1
  refine Cll.code rfl rfl ?_
  refine WC.env [(0, _)] rfl ?_
  refine WC.seq ?_
  refine WC.run ?_
  refine WS.box W [_, _, _, _, _, _, _, _, _, _, _, _] rfl rfl rfl rfl ?_
  intro p1 h2 M3
  refine WS.op rfl rfl (WS.nil [(1, _)] rfl ?_)
  refine WC.seq ?_
  refine WC.run ?_
  refine WS.op rfl (op_lds [_, _, _, _, _, _, _, _, _, _, _, _] (M3.at 0 rfl) rfl (Nat.le_of_ble_eq_true rfl) rfl) ?_
  refine WS.call rfl rfl rfl (Bytes_ran M3.here (c := c) (A.mono M3.sub) (by assumption)) ?_
  rintro _ h4 ⟨V7, A8, rfl, N5⟩
  replace A8 := A8 _ A
  obtain ⟨P9, c10, rfl⟩ := A8.shape
  have M6 := M3.trans N5
  refine WS.op rfl rfl (WS.op rfl rfl (WS.op rfl rfl ?_))
  refine WS.new M6 rfl ?_
  intro p11 h12 M13
  refine WS.op rfl rfl ?_
  refine WS.st1 (M13.focus 0 rfl) [_, _, _, _, _, _, _, _, _, _, _, _] [_, _, _, _, _, _, _, _, _, _, _, _] rfl rfl rfl rfl rfl (Nat.le_of_ble_eq_true rfl) (Nat.le_of_ble_eq_true rfl) rfl rfl ?_
  intro h14 M15
  replace M15 : Mem _ _ ([(p11, _)] :: [(p1, _)] :: []) _ := M15
  refine WS.nil [(1, _), (4, _)] rfl ?_
  refine WC.seq ?_
  refine WC.seq ?_
  refine WC.run ?_
  refine WS.op rfl rfl (WS.op rfl (op_ld (M15.at 1 rfl) rfl rfl) ?_)
  refine WS.lssN (a := (c.op).toNat) (b := 1) rfl rfl rfl (fun e14 => ?_) (fun e14 => ?_)
  · skip
    refine WS.op rfl rfl (WS.off rfl (WS.off rfl (WS.off rfl (WS.op rfl rfl (WS.op rfl rfl (WS.off rfl (WS.off rfl (WS.offC rfl (WS.off rfl ?_)))))))))
    refine WS.op rfl rfl (WS.nil [(1, _), (25, _)] rfl ?_)
    refine WC.condT rfl ?_
    refine WC.seq ?_
    refine WC.run ?_
    refine WS.op rfl rfl (WS.nil [(2, _)] rfl ?_)
    refine WC.ret ?_
    refine ⟨[_], (res_tmp rfl res_nil), ?_⟩
    exact ⟨mayB_f (by rintro ⟨q1, q2, q3, q4⟩; first | omega | exact absurd q2 (of_decide_eq_false (by assumption)) | (have q5 := q3 (by omega); omega) | (have q5 : GoodP y51 := q4 _ (List.mem_of_getElem? hy51); unfold GoodP at q5; rcases q5 with q5 | q5; omega; first | omega | exact absurd q5.2 (by assumption))), M15.bare.take 0⟩
  · skip
    refine WS.op rfl rfl (WS.op rfl rfl (WS.op rfl (op_ld (M15.at 1 rfl) rfl rfl) ?_))
    refine WS.gtrN (a := (c.op).toNat) (b := 11) rfl rfl rfl (fun e18 => ?_) (fun e18 => ?_)
    · skip
      refine WS.op rfl rfl (WS.op rfl rfl (WS.off rfl (WS.off rfl (WS.offC rfl (WS.off rfl (WS.op rfl rfl (WS.nil [(1, _), (25, _)] rfl ?_)))))))
      refine WC.condT rfl ?_
      refine WC.seq ?_
      refine WC.run ?_
      refine WS.op rfl rfl (WS.nil [(2, _)] rfl ?_)
      refine WC.ret ?_
      refine ⟨[_], (res_tmp rfl res_nil), ?_⟩
      exact ⟨mayB_f (by rintro ⟨q1, q2, q3, q4⟩; first | omega | exact absurd q2 (of_decide_eq_false (by assumption)) | (have q5 := q3 (by omega); omega) | (have q5 : GoodP y51 := q4 _ (List.mem_of_getElem? hy51); unfold GoodP at q5; rcases q5 with q5 | q5; omega; first | omega | exact absurd q5.2 (by assumption))), M15.bare.take 0⟩
    · skip
      refine WS.op rfl rfl (WS.op rfl rfl (WS.op rfl (op_lds [_, _, _, _, _, _, _, _, _, _, _, _] (M15.at 1 rfl) rfl (Nat.le_of_ble_eq_true rfl) rfl) (WS.op rfl (op_lds [_, _, _, _, _, _, _, _, _, _, _, _] (M15.at 0 rfl) rfl (Nat.le_of_ble_eq_true rfl) rfl) ?_)))
      refine WS.call rfl rfl rfl (Same_ran M15.here (a := c) (b := (plain c)) (A.mono M15.sub) (A8.mono M15.sub) (by omega)) ?_
      rintro _ h16 ⟨rfl, N17⟩
      have M18 := M15.trans N17
      cases hb1 : (decide (c = (plain c)))
      · skip
        refine WS.opV (.bool true) rfl rfl rfl (WS.op rfl rfl (WS.nil [(1, _), (25, _)] rfl ?_))
        refine WC.condT rfl ?_
        refine WC.seq ?_
        refine WC.run ?_
        refine WS.op rfl rfl (WS.nil [(2, _)] rfl ?_)
        refine WC.ret ?_
        refine ⟨[_], (res_tmp rfl res_nil), ?_⟩
        exact ⟨mayB_f (by rintro ⟨q1, q2, q3, q4⟩; first | omega | exact absurd q2 (of_decide_eq_false (by assumption)) | (have q5 := q3 (by omega); omega) | (have q5 : GoodP y51 := q4 _ (List.mem_of_getElem? hy51); unfold GoodP at q5; rcases q5 with q5 | q5; omega; first | omega | exact absurd q5.2 (by assumption))), M18.bare.take 0⟩
      · skip
        refine WS.opV (.bool false) rfl rfl rfl (WS.op rfl rfl (WS.nil [(1, _), (25, _)] rfl ?_))
        refine WC.condF rfl ?_
        refine WC.skip ?_
        refine WC.seq ?_
        refine WC.seq ?_
        obtain ⟨L19, eL21, M20⟩ := Mem.name M18.bare
        refine WC.joinB (base := h) (fun b => [(1, (.pointer (some ⟨p1, 0, none⟩))), (40, .bool b)]) L19 (c.op.toNat = 5 ∧ ¬ (1 ≤ c.ps.length ∧ c.ps.length ≤ 4)) (¬ (c.op.toNat = 5 ∧ ¬ (1 ≤ c.ps.length ∧ c.ps.length ≤ 4))) ?_ ?_ ?_
        · subst eL21
          refine WS.op rfl rfl (WS.op rfl (op_ld (M20.at 1 rfl) rfl rfl) ?_)
          refine WS.eqlN (a := (c.op).toNat) (b := 5) rfl rfl rfl (fun e28 => ?_) (fun e28 => ?_)
          · skip
            refine WS.op rfl rfl (WS.op rfl rfl (WS.op rfl (op_ld (M20.at 1 rfl) rfl rfl) (WS.op rfl (op_lenVS A rfl) ?_)))
            refine WS.lssN (a := (c.ps).length) (b := 1) rfl rfl rfl (fun e33 => ?_) (fun e33 => ?_)
            · skip
              refine WS.op rfl rfl (WS.off rfl (WS.off rfl (WS.off rfl (WS.off rfl (WS.op rfl rfl (WS.op rfl rfl ?_))))))
              refine WS.nil' ⟨true, rfl, (((M20.bare.focus 1 rfl).focus 1 rfl).take 2), fun _ => ?_, fun hh => ?_⟩
              · omega
              · cases hh
            · skip
              refine WS.op rfl rfl (WS.op rfl rfl (WS.op rfl (op_ld (M20.at 1 rfl) rfl rfl) (WS.op rfl (op_lenVS A rfl) ?_)))
              refine WS.gtrN (a := (c.ps).length) (b := 4) rfl rfl rfl (fun e38 => ?_) (fun e38 => ?_)
              · skip
                refine WS.op rfl rfl (WS.op rfl rfl ?_)
                refine WS.nil' ⟨true, rfl, (((M20.bare.focus 1 rfl).focus 1 rfl).take 2), fun _ => ?_, fun hh => ?_⟩
                · omega
                · cases hh
              · skip
                refine WS.op rfl rfl (WS.op rfl rfl ?_)
                refine WS.nil' ⟨false, rfl, (((M20.bare.focus 1 rfl).focus 1 rfl).take 2), fun hh => ?_, fun _ => ?_⟩
                · cases hh
                · omega
          · skip
            refine WS.op rfl rfl (WS.off rfl (WS.off rfl (WS.off rfl (WS.off rfl (WS.off rfl (WS.off rfl (WS.off rfl (WS.off rfl (WS.off rfl ?_)))))))))
            refine WS.off rfl (WS.op rfl rfl ?_)
            refine WS.nil' ⟨false, rfl, (((M20.bare.focus 1 rfl).focus 1 rfl).take 2), fun hh => ?_, fun _ => ?_⟩
            · cases hh
            · omega
        · intro h22 M23 hp40
          subst eL21
          refine WC.condT rfl ?_
          refine WC.seq ?_
          refine WC.run ?_
          refine WS.op rfl rfl (WS.nil [(2, _)] rfl ?_)
          refine WC.ret ?_
          refine ⟨[_], (res_tmp rfl res_nil), ?_⟩
          exact ⟨mayB_f (by rintro ⟨q1, q2, q3, q4⟩; first | omega | exact absurd q2 (of_decide_eq_false (by assumption)) | (have q5 := q3 (by omega); omega) | (have q5 : GoodP y51 := q4 _ (List.mem_of_getElem? hy51); unfold GoodP at q5; rcases q5 with q5 | q5; omega; first | omega | exact absurd q5.2 (by assumption))), M23.bare.take 0⟩
        · intro h24 M25 hp40
          subst eL21
          refine WC.condF rfl ?_
          refine WC.skip ?_
          refine WC.seq ?_
          refine WC.seq ?_
          refine WC.run ?_
          refine WS.op rfl rfl (WS.nil [(1, _), (5, _)] rfl ?_)
          refine WC.block ?_
          obtain ⟨L26, eL28, M27⟩ := Mem.name M25.bare
          refine WC.loop (σ := Nat) (fun (i) => [(1, (.pointer (some ⟨p1, 0, none⟩))), (5, (.int .i64 ((i : Nat) : Int)))]) (fun (i) hh => Mem h hh (L26) [] ∧ AllG (c.ps.take i) ∧ i ≤ c.ps.length) (fun (i) => c.ps.length - i) (0) rfl ⟨M27, ?_⟩ ?_
          · exact ⟨by intro x hx; simp at hx, by omega⟩
          · rintro i h29 ⟨M30, ⟨hO, hi1⟩⟩
            subst eL28
            refine WC.env [(1, _), (5, _)] rfl ?_
            refine WC.seq ?_
            refine WC.seq ?_
            refine WC.run ?_
            refine WS.op rfl rfl (WS.op rfl rfl (WS.op rfl (op_ld (M30.at 1 rfl) rfl rfl) (WS.op rfl (op_lenVS A rfl) ?_)))
            refine WS.lssN (a := i) (b := (c.ps).length) rfl rfl rfl (fun e45 => ?_) (fun e45 => ?_)
            · skip
              refine WS.nil [(1, _), (5, _), (45, _)] rfl ?_
              refine WC.condT rfl ?_
              refine WC.skip ?_
              refine WC.seq ?_
              refine WC.block ?_
              refine WC.seq ?_
              refine WC.run ?_
              refine WS.op rfl rfl (WS.op rfl (op_ld (M30.at 1 rfl) rfl rfl) (WS.op rfl rfl ?_))
              obtain ⟨y51, hy51⟩ : ∃ y, (c.ps)[i]? = some y := ⟨_, List.getElem?_eq_getElem (show i < (c.ps).length by first | omega | (simp only [List.length_drop, List.length_take, List.length_append, List.length_cons, List.length_nil, List.length_singleton]; omega) | (simp only [List.length_drop, List.length_take, List.length_append, List.length_cons, List.length_nil, List.length_singleton] at *; omega))⟩
              refine WS.iaVS A i hy51 rfl rfl rfl rfl ?_
              intro b51_ o51_ ha51
              refine WS.op rfl (op_ldAt rfl (ha51.mono M30.sub) rfl) ?_
              refine WS.new M30 rfl ?_
              intro p31 h32 M33
              refine WS.st1 (M33.focus 0 rfl) [_, _, _] [_, _, _] rfl rfl rfl rfl rfl (Nat.le_of_ble_eq_true rfl) (Nat.le_of_ble_eq_true rfl) rfl rfl ?_
              intro h34 M35
              replace M35 : Mem _ _ ([(p31, _)] :: [(p11, _)] :: [(p1, _)] :: []) _ := M35
              refine WS.nil [(1, _), (5, _), (6, _)] rfl ?_
              refine WC.seq ?_
              refine WC.run ?_
              refine WS.op rfl rfl (WS.op rfl (op_ld (M35.at 0 rfl) rfl rfl) ?_)
              refine WS.neqN (a := (y51.op).toNat) (b := 2) rfl rfl rfl (fun e55 => ?_) (fun e55 => ?_)
              · skip
                refine WS.op rfl rfl (WS.op rfl rfl (WS.op rfl (op_ld (M35.at 0 rfl) rfl rfl) ?_))
                refine WS.neqN (a := (y51.op).toNat) (b := 3) rfl rfl rfl (fun e59 => ?_) (fun e59 => ?_)
                · skip
                  refine WS.op rfl rfl (WS.op rfl rfl (WS.off rfl (WS.off rfl (WS.off rfl (WS.off rfl (WS.off rfl (WS.off rfl (WS.off rfl (WS.off rfl ?_)))))))))
                  refine WS.op rfl rfl (WS.nil [(1, _), (5, _), (70, _)] rfl ?_)
                  refine WC.condT rfl ?_
                  refine WC.seq ?_
                  refine WC.run ?_
                  refine WS.op rfl rfl (WS.nil [(2, _)] rfl ?_)
                  refine WC.ret ?_
                  refine ⟨[_], (res_tmp rfl res_nil), ?_⟩
                  exact ⟨mayB_f (by rintro ⟨q1, q2, q3, q4⟩; first | omega | exact absurd q2 (of_decide_eq_false (by assumption)) | (have q5 := q3 (by omega); omega) | (have q5 : GoodP y51 := q4 _ (List.mem_of_getElem? hy51); unfold GoodP at q5; rcases q5 with q5 | q5; omega; first | omega | exact absurd q5.2 (by assumption))), M35.bare.take 0⟩
                · skip
                  refine WS.op rfl rfl (WS.op rfl rfl (WS.op rfl rfl (WS.op rfl (op_ld (M35.at 0 rfl) rfl rfl) ?_)))
                  refine WS.eqlN (a := (y51.op).toNat) (b := 3) rfl rfl rfl (fun e64 => ?_) (fun e64 => ?_)
                  · skip
                    refine WS.op rfl rfl (WS.op rfl rfl (WS.op rfl (op_ld (M35.at 0 rfl) rfl rfl) ?_))
                    refine WS.sneq (l := y51.va) (m := []) rfl rfl rfl (fun e68 => ?_) (fun e68 => ?_)
                    · skip
                      refine WS.op rfl rfl (WS.op rfl rfl (WS.nil [(1, _), (5, _), (70, _)] rfl ?_))
                      refine WC.condT rfl ?_
                      refine WC.seq ?_
                      refine WC.run ?_
                      refine WS.op rfl rfl (WS.nil [(2, _)] rfl ?_)
                      refine WC.ret ?_
                      refine ⟨[_], (res_tmp rfl res_nil), ?_⟩
                      exact ⟨mayB_f (by rintro ⟨q1, q2, q3, q4⟩; first | omega | exact absurd q2 (of_decide_eq_false (by assumption)) | (have q5 := q3 (by omega); omega) | (have q5 : GoodP y51 := q4 _ (List.mem_of_getElem? hy51); unfold GoodP at q5; rcases q5 with q5 | q5; omega; first | omega | exact absurd q5.2 (by assumption))), M35.bare.take 0⟩
                    · skip
                      refine WS.op rfl rfl (WS.op rfl rfl (WS.nil [(1, _), (5, _), (70, _)] rfl ?_))
                      refine WC.condF rfl ?_
                      refine WC.skip ?_
                      refine WC.run ?_
                      refine WS.op rfl rfl (WS.opV (.int .i64 (((i + 1) : Nat) : Int)) rfl rfl (add_i64 (a := i) (b := 1) (by omega)) (WS.op rfl rfl (WS.nil [(1, _), (5, _)] rfl ?_)))
                      refine ⟨i + 1, rfl, ⟨(((M35.bare.focus 2 rfl).focus 2 rfl).take 2), ?_⟩, ?_⟩
                      · exact ⟨AllG_snoc hO hy51 (by unfold GoodP; first | (left; omega) | (right; exact ⟨by omega, by assumption⟩)), by omega⟩
                      · simp only []; omega
                  · skip
                    refine WS.op rfl rfl (WS.off rfl (WS.off rfl (WS.off rfl (WS.op rfl rfl (WS.op rfl rfl (WS.nil [(1, _), (5, _), (70, _)] rfl ?_))))))
                    refine WC.condF rfl ?_
                    refine WC.skip ?_
                    refine WC.run ?_
                    refine WS.op rfl rfl (WS.opV (.int .i64 (((i + 1) : Nat) : Int)) rfl rfl (add_i64 (a := i) (b := 1) (by omega)) (WS.op rfl rfl (WS.nil [(1, _), (5, _)] rfl ?_)))
                    refine ⟨i + 1, rfl, ⟨(((M35.bare.focus 2 rfl).focus 2 rfl).take 2), ?_⟩, ?_⟩
                    · exact ⟨AllG_snoc hO hy51 (by unfold GoodP; first | (left; omega) | (right; exact ⟨by omega, by assumption⟩)), by omega⟩
                    · simp only []; omega
              · skip
                refine WS.op rfl rfl (WS.off rfl (WS.off rfl (WS.off rfl (WS.op rfl rfl (WS.op rfl rfl (WS.op rfl rfl (WS.op rfl (op_ld (M35.at 0 rfl) rfl rfl) ?_)))))))
                refine WS.eqlN (a := (y51.op).toNat) (b := 3) rfl rfl rfl (fun e64 => ?_) (fun e64 => ?_)
                · skip
                  refine WS.op rfl rfl (WS.op rfl rfl (WS.op rfl (op_ld (M35.at 0 rfl) rfl rfl) ?_))
                  refine WS.sneq (l := y51.va) (m := []) rfl rfl rfl (fun e68 => ?_) (fun e68 => ?_)
                  · skip
                    refine WS.op rfl rfl (WS.op rfl rfl (WS.nil [(1, _), (5, _), (70, _)] rfl ?_))
                    refine WC.condT rfl ?_
                    refine WC.seq ?_
                    refine WC.run ?_
                    refine WS.op rfl rfl (WS.nil [(2, _)] rfl ?_)
                    refine WC.ret ?_
                    refine ⟨[_], (res_tmp rfl res_nil), ?_⟩
                    exact ⟨mayB_f (by rintro ⟨q1, q2, q3, q4⟩; first | omega | exact absurd q2 (of_decide_eq_false (by assumption)) | (have q5 := q3 (by omega); omega) | (have q5 : GoodP y51 := q4 _ (List.mem_of_getElem? hy51); unfold GoodP at q5; rcases q5 with q5 | q5; omega; first | omega | exact absurd q5.2 (by assumption))), M35.bare.take 0⟩
                  · skip
                    refine WS.op rfl rfl (WS.op rfl rfl (WS.nil [(1, _), (5, _), (70, _)] rfl ?_))
                    refine WC.condF rfl ?_
                    refine WC.skip ?_
                    refine WC.run ?_
                    refine WS.op rfl rfl (WS.opV (.int .i64 (((i + 1) : Nat) : Int)) rfl rfl (add_i64 (a := i) (b := 1) (by omega)) (WS.op rfl rfl (WS.nil [(1, _), (5, _)] rfl ?_)))
                    refine ⟨i + 1, rfl, ⟨(((M35.bare.focus 2 rfl).focus 2 rfl).take 2), ?_⟩, ?_⟩
                    · exact ⟨AllG_snoc hO hy51 (by unfold GoodP; first | (left; omega) | (right; exact ⟨by omega, by assumption⟩)), by omega⟩
                    · simp only []; omega
                · skip
                  refine WS.op rfl rfl (WS.off rfl (WS.off rfl (WS.off rfl (WS.op rfl rfl (WS.op rfl rfl (WS.nil [(1, _), (5, _), (70, _)] rfl ?_))))))
                  refine WC.condF rfl ?_
                  refine WC.skip ?_
                  refine WC.run ?_
                  refine WS.op rfl rfl (WS.opV (.int .i64 (((i + 1) : Nat) : Int)) rfl rfl (add_i64 (a := i) (b := 1) (by omega)) (WS.op rfl rfl (WS.nil [(1, _), (5, _)] rfl ?_)))
                  refine ⟨i + 1, rfl, ⟨(((M35.bare.focus 2 rfl).focus 2 rfl).take 2), ?_⟩, ?_⟩
                  · exact ⟨AllG_snoc hO hy51 (by unfold GoodP; first | (left; omega) | (right; exact ⟨by omega, by assumption⟩)), by omega⟩
                  · simp only []; omega
            · skip
              refine WS.nil [(1, _), (5, _), (45, _)] rfl ?_
              refine WC.condF rfl ?_
              refine WC.exit ?_
              refine WC.seq ?_
              refine WC.run ?_
              refine WS.op rfl rfl (WS.nil [(2, _)] rfl ?_)
              refine WC.ret ?_
              refine ⟨[_], (res_tmp rfl res_nil), ?_⟩
              rw [List.take_of_length_le (by omega)] at hO
              exact ⟨mayB_t ⟨by omega, of_decide_eq_true (by assumption), fun q => by omega, hO⟩, M30.bare.take 0⟩
theorem refWrite_ran (W : Mem h h [] []) {c : Cmd} {V : Value} (A : KPart.Sl h V c.ps) (hf : Fit c) : Cll tab0 16 [c.val V] h (fun v h2 => v = .string (bs (if mayB c then encC c else [])) ∧ Mem h h2 [] []) := by
  obtain ⟨P, n, rfl⟩ := A.shape
  refine Cll.code rfl rfl ?_
  refine WC.env [(0, _)] rfl ?_
  refine WC.seq ?_
  refine WC.run ?_
  refine WS.box W [_, _, _, _, _, _, _, _, _, _, _, _] rfl rfl rfl rfl ?_
  intro p1 h2 M3
  refine WS.op rfl rfl (WS.nil [(1, _)] rfl ?_)
  refine WC.seq ?_
  refine WC.seq ?_
  refine WC.run ?_
  refine WS.op rfl (op_lds [_, _, _, _, _, _, _, _, _, _, _, _] (M3.at 0 rfl) rfl (Nat.le_of_ble_eq_true rfl) rfl) ?_
  refine WS.call rfl rfl rfl (refMay_ran M3.here (c := c) (A.mono M3.sub) (by assumption)) ?_
  rintro _ h4 ⟨rfl, N5⟩
  have M6 := M3.trans N5
  cases hb1 : (mayB c)
  · skip
    refine WS.opV (.bool true) rfl rfl rfl (WS.nil [(1, _), (7, _)] rfl ?_)
    refine WC.condT rfl ?_
    refine WC.seq ?_
    refine WC.run ?_
    refine WS.op rfl rfl (WS.nil [(2, _)] rfl ?_)
    refine WC.ret ?_
    refine ⟨[_], (res_tmp rfl res_nil), ?_⟩
    exact ⟨rfl, M6.bare.take 0⟩
  · skip
    refine WS.opV (.bool false) rfl rfl rfl (WS.nil [(1, _), (7, _)] rfl ?_)
    refine WC.condF rfl ?_
    refine WC.skip ?_
    refine WC.seq ?_
    refine WC.run ?_
    refine WS.op rfl (op_lds [_, _, _, _, _, _, _, _, _, _, _, _] (M6.at 0 rfl) rfl (Nat.le_of_ble_eq_true rfl) rfl) ?_
    refine WS.call rfl rfl rfl (Bytes_ran M6.here (c := c) (A.mono M6.sub) (by assumption)) ?_
    rintro _ h7 ⟨V10, A11, rfl, N8⟩
    replace A11 := A11 _ A
    obtain ⟨P12, c13, rfl⟩ := A11.shape
    have M9 := M6.trans N8
    refine WS.op rfl rfl (WS.op rfl rfl (WS.op rfl rfl ?_))
    refine WS.new M9 rfl ?_
    intro p14 h15 M16
    refine WS.op rfl rfl ?_
    refine WS.st1 (M16.focus 0 rfl) [_, _, _, _, _, _, _, _, _, _, _, _] [_, _, _, _, _, _, _, _, _, _, _, _] rfl rfl rfl rfl rfl (Nat.le_of_ble_eq_true rfl) (Nat.le_of_ble_eq_true rfl) rfl rfl ?_
    intro h17 M18
    replace M18 : Mem _ _ ([(p14, _)] :: [(p1, _)] :: []) _ := M18
    refine WS.nil [(3, _)] rfl ?_
    refine WC.seq ?_
    refine WC.run ?_
    refine WS.op rfl rfl (WS.op rfl rfl (WS.nil [(2, _)] rfl ?_))
    refine WC.ret ?_
    refine ⟨[_], (res_tmp rfl res_nil), ?_⟩
    exact ⟨rfl, M18.bare.take 0⟩
/-! ### The program's -/
def bareC (c : Cmd) : Cmd :=
  if c.op.toNat = 1 ∨ c.op.toNat = 6 then { c with tt := 0 }
  else if c.op.toNat = 2 then { c with ky := [], va := [], le := 0 }
  else if c.op.toNat = 3 ∨ c.op.toNat = 8 then { c with ky := [] }
  else if c.op.toNat = 4 then { c with ky := [], ex := [], va := [] }
  else if c.op.toNat = 5 then { c with ps := [] }
  else if c.op.toNat = 7 then { c with le := 0 }
  else if c.op.toNat = 9 then { c with fr := [], to := [], li := 0 }
  else c
section
variable {c : Cmd}
theorem bare_1 (h : c.op.toNat = 1 ∨ c.op.toNat = 6) : bareC c = { c with tt := 0 } := if_pos h
theorem bare_2 (h : c.op.toNat = 2) : bareC c = { c with ky := [], va := [], le := 0 } := by unfold bareC; simp [h]
theorem bare_3 (h : c.op.toNat = 3 ∨ c.op.toNat = 8) : bareC c = { c with ky := [] } := by unfold bareC; rw [if_neg (by omega), if_neg (by omega), if_pos h]
theorem bare_4 (h : c.op.toNat = 4) : bareC c = { c with ky := [], ex := [], va := [] } := by unfold bareC; simp [h]
theorem bare_5 (h : c.op.toNat = 5) : bareC c = { c with ps := [] } := by unfold bareC; simp [h]
theorem bare_7 (h : c.op.toNat = 7) : bareC c = { c with le := 0 } := by unfold bareC; simp [h]
theorem bare_9 (h : c.op.toNat = 9) : bareC c = { c with fr := [], to := [], li := 0 } := by unfold bareC; simp [h]
theorem bare_0 (h : ¬ (1 ≤ c.op.toNat ∧ c.op.toNat ≤ 9)) : bareC c = c := by
  unfold bareC; rw [if_neg (by omega), if_neg (by omega), if_neg (by omega), if_neg (by omega), if_neg (by omega), if_neg (by omega), if_neg (by omega)]
end
theorem bare_ran (W : Mem h h [] []) {c : Cmd} {V : Value} (A : KPart.Sl h V c.ps) : Cll tab0 56 [c.val V] h (fun v h2 => ∃ V2, (∀ hh, KPart.Sl hh V c.ps → KPart.Sl hh V2 (bareC c).ps) ∧ v = (bareC c).val V2 ∧ Mem h h2 [] []) := by
  obtain ⟨P, n, rfl⟩ := A.shape
  refine Cll.code rfl rfl ?_
  refine WC.env [(0, _)] rfl ?_
  refine WC.seq ?_
  refine WC.run ?_
  refine WS.box W [_, _, _, _, _, _, _, _, _, _, _, _] rfl rfl rfl rfl ?_
  intro p1 h2 M3
  refine WS.new M3 rfl ?_
  intro p4 h5 M6
  refine WS.nil [(1, _), (2, _)] rfl ?_
  refine WC.seq ?_
  refine WC.seq ?_
  refine WC.run ?_
  refine WS.op rfl rfl (WS.op rfl (op_ld (M6.at 1 rfl) rfl rfl) (WS.nil [(1, _), (2, _), (4, _)] rfl ?_))
  refine WC.block ?_
  refine WC.seq ?_
  refine WC.seq ?_
  refine WC.run ?_
  refine WS.eqlN (a := (c.op).toNat) (b := 1) rfl rfl rfl (fun e6 => ?_) (fun e6 => ?_)
  · skip
    refine WS.op rfl rfl (WS.nil [(1, _), (2, _), (4, _), (5, _)] rfl ?_)
    refine WC.condT rfl ?_
    refine WC.skip ?_
    refine WC.condT rfl ?_
    refine WC.run ?_
    refine WS.op rfl rfl ?_
    refine WS.st1 (M6.focus 1 rfl) [_] [_, _, _, _, _, _, _, _, _, _, _, _] rfl rfl rfl rfl rfl (Nat.le_of_ble_eq_true rfl) (Nat.le_of_ble_eq_true rfl) rfl rfl ?_
    intro h7 M8
    replace M8 : Mem _ _ ([(p1, _)] :: [(p4, _)] :: []) _ := M8
    refine WS.nil [(1, _), (2, _)] rfl ?_
    refine WC.seq ?_
    refine WC.run ?_
    refine WS.op rfl (op_lds [_, _, _, _, _, _, _, _, _, _, _, _] (M8.at 0 rfl) rfl (Nat.le_of_ble_eq_true rfl) rfl) ?_
    refine WS.st1 (M8.focus 1 rfl) [_, _, _, _, _, _, _, _, _, _, _, _] [_, _, _, _, _, _, _, _, _, _, _, _] rfl rfl rfl rfl rfl (Nat.le_of_ble_eq_true rfl) (Nat.le_of_ble_eq_true rfl) rfl rfl ?_
    intro h9 M10
    replace M10 : Mem _ _ ([(p4, _)] :: [(p1, _)] :: []) _ := M10
    refine WS.nil [(2, _)] rfl ?_
    refine WC.ret ?_
    refine ⟨[_], (res_cellN [_, _, _, _, _, _, _, _, _, _, _, _] rfl (M10.at 0 rfl) (Nat.le_of_ble_eq_true rfl) rfl res_nil), ?_⟩
    rw [bare_1 (c := c) (by omega)]
    exact ⟨_, fun _ q => q, rfl, M10.bare.take 0⟩
  · skip
    refine WS.op rfl rfl (WS.nil [(1, _), (2, _), (4, _), (5, _)] rfl ?_)
    refine WC.condF rfl ?_
    refine WC.run ?_
    refine WS.eqlN (a := (c.op).toNat) (b := 6) rfl rfl rfl (fun e7 => ?_) (fun e7 => ?_)
    · skip
      refine WS.op rfl rfl (WS.nil [(1, _), (2, _), (4, _), (5, _)] rfl ?_)
      refine WC.condT rfl ?_
      refine WC.run ?_
      refine WS.op rfl rfl ?_
      refine WS.st1 (M6.focus 1 rfl) [_] [_, _, _, _, _, _, _, _, _, _, _, _] rfl rfl rfl rfl rfl (Nat.le_of_ble_eq_true rfl) (Nat.le_of_ble_eq_true rfl) rfl rfl ?_
      intro h11 M12
      replace M12 : Mem _ _ ([(p1, _)] :: [(p4, _)] :: []) _ := M12
      refine WS.nil [(1, _), (2, _)] rfl ?_
      refine WC.seq ?_
      refine WC.run ?_
      refine WS.op rfl (op_lds [_, _, _, _, _, _, _, _, _, _, _, _] (M12.at 0 rfl) rfl (Nat.le_of_ble_eq_true rfl) rfl) ?_
      refine WS.st1 (M12.focus 1 rfl) [_, _, _, _, _, _, _, _, _, _, _, _] [_, _, _, _, _, _, _, _, _, _, _, _] rfl rfl rfl rfl rfl (Nat.le_of_ble_eq_true rfl) (Nat.le_of_ble_eq_true rfl) rfl rfl ?_
      intro h13 M14
      replace M14 : Mem _ _ ([(p4, _)] :: [(p1, _)] :: []) _ := M14
      refine WS.nil [(2, _)] rfl ?_
      refine WC.ret ?_
      refine ⟨[_], (res_cellN [_, _, _, _, _, _, _, _, _, _, _, _] rfl (M14.at 0 rfl) (Nat.le_of_ble_eq_true rfl) rfl res_nil), ?_⟩
      rw [bare_1 (c := c) (by omega)]
      exact ⟨_, fun _ q => q, rfl, M14.bare.take 0⟩
    · skip
      refine WS.op rfl rfl (WS.nil [(1, _), (2, _), (4, _), (5, _)] rfl ?_)
      refine WC.condF rfl ?_
      refine WC.seq ?_
      refine WC.run ?_
      refine WS.eqlN (a := (c.op).toNat) (b := 2) rfl rfl rfl (fun e10 => ?_) (fun e10 => ?_)
      · skip
        refine WS.op rfl rfl (WS.nil [(1, _), (2, _), (4, _), (9, _)] rfl ?_)
        refine WC.condT rfl ?_
        refine WC.run ?_
        refine WS.op rfl rfl ?_
        refine WS.st1 (M6.focus 1 rfl) [_] [_, _, _, _, _, _, _, _, _, _, _, _] rfl rfl rfl rfl rfl (Nat.le_of_ble_eq_true rfl) (Nat.le_of_ble_eq_true rfl) rfl rfl ?_
        intro h15 M16
        replace M16 : Mem _ _ ([(p1, _)] :: [(p4, _)] :: []) _ := M16
        refine WS.op rfl rfl ?_
        refine WS.st1 (M16.focus 0 rfl) [_] [_, _, _, _, _, _, _, _, _, _, _, _] rfl rfl rfl rfl rfl (Nat.le_of_ble_eq_true rfl) (Nat.le_of_ble_eq_true rfl) rfl rfl ?_
        intro h17 M18
        replace M18 : Mem _ _ ([(p1, _)] :: [(p4, _)] :: []) _ := M18
        refine WS.op rfl rfl ?_
        refine WS.st1 (M18.focus 0 rfl) [_] [_, _, _, _, _, _, _, _, _, _, _, _] rfl rfl rfl rfl rfl (Nat.le_of_ble_eq_true rfl) (Nat.le_of_ble_eq_true rfl) rfl rfl ?_
        intro h19 M20
        replace M20 : Mem _ _ ([(p1, _)] :: [(p4, _)] :: []) _ := M20
        refine WS.nil [(1, _), (2, _)] rfl ?_
        refine WC.seq ?_
        refine WC.run ?_
        refine WS.op rfl (op_lds [_, _, _, _, _, _, _, _, _, _, _, _] (M20.at 0 rfl) rfl (Nat.le_of_ble_eq_true rfl) rfl) ?_
        refine WS.st1 (M20.focus 1 rfl) [_, _, _, _, _, _, _, _, _, _, _, _] [_, _, _, _, _, _, _, _, _, _, _, _] rfl rfl rfl rfl rfl (Nat.le_of_ble_eq_true rfl) (Nat.le_of_ble_eq_true rfl) rfl rfl ?_
        intro h21 M22
        replace M22 : Mem _ _ ([(p4, _)] :: [(p1, _)] :: []) _ := M22
        refine WS.nil [(2, _)] rfl ?_
        refine WC.ret ?_
        refine ⟨[_], (res_cellN [_, _, _, _, _, _, _, _, _, _, _, _] rfl (M22.at 0 rfl) (Nat.le_of_ble_eq_true rfl) rfl res_nil), ?_⟩
        rw [bare_2 (c := c) (by omega)]
        exact ⟨_, fun _ q => q, rfl, M22.bare.take 0⟩
      · skip
        refine WS.op rfl rfl (WS.nil [(1, _), (2, _), (4, _), (9, _)] rfl ?_)
        refine WC.condF rfl ?_
        refine WC.seq ?_
        refine WC.seq ?_
        refine WC.run ?_
        refine WS.eqlN (a := (c.op).toNat) (b := 3) rfl rfl rfl (fun e15 => ?_) (fun e15 => ?_)
        · skip
          refine WS.op rfl rfl (WS.nil [(1, _), (2, _), (4, _), (14, _)] rfl ?_)
          refine WC.condT rfl ?_
          refine WC.skip ?_
          refine WC.condT rfl ?_
          refine WC.run ?_
          refine WS.op rfl rfl ?_
          refine WS.st1 (M6.focus 1 rfl) [_] [_, _, _, _, _, _, _, _, _, _, _, _] rfl rfl rfl rfl rfl (Nat.le_of_ble_eq_true rfl) (Nat.le_of_ble_eq_true rfl) rfl rfl ?_
          intro h23 M24
          replace M24 : Mem _ _ ([(p1, _)] :: [(p4, _)] :: []) _ := M24
          refine WS.nil [(1, _), (2, _)] rfl ?_
          refine WC.seq ?_
          refine WC.run ?_
          refine WS.op rfl (op_lds [_, _, _, _, _, _, _, _, _, _, _, _] (M24.at 0 rfl) rfl (Nat.le_of_ble_eq_true rfl) rfl) ?_
          refine WS.st1 (M24.focus 1 rfl) [_, _, _, _, _, _, _, _, _, _, _, _] [_, _, _, _, _, _, _, _, _, _, _, _] rfl rfl rfl rfl rfl (Nat.le_of_ble_eq_true rfl) (Nat.le_of_ble_eq_true rfl) rfl rfl ?_
          intro h25 M26
          replace M26 : Mem _ _ ([(p4, _)] :: [(p1, _)] :: []) _ := M26
          refine WS.nil [(2, _)] rfl ?_
          refine WC.ret ?_
          refine ⟨[_], (res_cellN [_, _, _, _, _, _, _, _, _, _, _, _] rfl (M26.at 0 rfl) (Nat.le_of_ble_eq_true rfl) rfl res_nil), ?_⟩
          rw [bare_3 (c := c) (by omega)]
          exact ⟨_, fun _ q => q, rfl, M26.bare.take 0⟩
        · skip
          refine WS.op rfl rfl (WS.nil [(1, _), (2, _), (4, _), (14, _)] rfl ?_)
          refine WC.condF rfl ?_
          refine WC.run ?_
          refine WS.eqlN (a := (c.op).toNat) (b := 8) rfl rfl rfl (fun e16 => ?_) (fun e16 => ?_)
          · skip
            refine WS.op rfl rfl (WS.nil [(1, _), (2, _), (4, _), (14, _)] rfl ?_)
            refine WC.condT rfl ?_
            refine WC.run ?_
            refine WS.op rfl rfl ?_
            refine WS.st1 (M6.focus 1 rfl) [_] [_, _, _, _, _, _, _, _, _, _, _, _] rfl rfl rfl rfl rfl (Nat.le_of_ble_eq_true rfl) (Nat.le_of_ble_eq_true rfl) rfl rfl ?_
            intro h27 M28
            replace M28 : Mem _ _ ([(p1, _)] :: [(p4, _)] :: []) _ := M28
            refine WS.nil [(1, _), (2, _)] rfl ?_
            refine WC.seq ?_
            refine WC.run ?_
            refine WS.op rfl (op_lds [_, _, _, _, _, _, _, _, _, _, _, _] (M28.at 0 rfl) rfl (Nat.le_of_ble_eq_true rfl) rfl) ?_
            refine WS.st1 (M28.focus 1 rfl) [_, _, _, _, _, _, _, _, _, _, _, _] [_, _, _, _, _, _, _, _, _, _, _, _] rfl rfl rfl rfl rfl (Nat.le_of_ble_eq_true rfl) (Nat.le_of_ble_eq_true rfl) rfl rfl ?_
            intro h29 M30
            replace M30 : Mem _ _ ([(p4, _)] :: [(p1, _)] :: []) _ := M30
            refine WS.nil [(2, _)] rfl ?_
            refine WC.ret ?_
            refine ⟨[_], (res_cellN [_, _, _, _, _, _, _, _, _, _, _, _] rfl (M30.at 0 rfl) (Nat.le_of_ble_eq_true rfl) rfl res_nil), ?_⟩
            rw [bare_3 (c := c) (by omega)]
            exact ⟨_, fun _ q => q, rfl, M30.bare.take 0⟩
          · skip
            refine WS.op rfl rfl (WS.nil [(1, _), (2, _), (4, _), (14, _)] rfl ?_)
            refine WC.condF rfl ?_
            refine WC.seq ?_
            refine WC.run ?_
            refine WS.eqlN (a := (c.op).toNat) (b := 4) rfl rfl rfl (fun e19 => ?_) (fun e19 => ?_)
            · skip
              refine WS.op rfl rfl (WS.nil [(1, _), (2, _), (4, _), (18, _)] rfl ?_)
              refine WC.condT rfl ?_
              refine WC.run ?_
              refine WS.op rfl rfl ?_
              refine WS.st1 (M6.focus 1 rfl) [_] [_, _, _, _, _, _, _, _, _, _, _, _] rfl rfl rfl rfl rfl (Nat.le_of_ble_eq_true rfl) (Nat.le_of_ble_eq_true rfl) rfl rfl ?_
              intro h31 M32
              replace M32 : Mem _ _ ([(p1, _)] :: [(p4, _)] :: []) _ := M32
              refine WS.op rfl rfl ?_
              refine WS.st1 (M32.focus 0 rfl) [_] [_, _, _, _, _, _, _, _, _, _, _, _] rfl rfl rfl rfl rfl (Nat.le_of_ble_eq_true rfl) (Nat.le_of_ble_eq_true rfl) rfl rfl ?_
              intro h33 M34
              replace M34 : Mem _ _ ([(p1, _)] :: [(p4, _)] :: []) _ := M34
              refine WS.op rfl rfl ?_
              refine WS.st1 (M34.focus 0 rfl) [_] [_, _, _, _, _, _, _, _, _, _, _, _] rfl rfl rfl rfl rfl (Nat.le_of_ble_eq_true rfl) (Nat.le_of_ble_eq_true rfl) rfl rfl ?_
              intro h35 M36
              replace M36 : Mem _ _ ([(p1, _)] :: [(p4, _)] :: []) _ := M36
              refine WS.nil [(1, _), (2, _)] rfl ?_
              refine WC.seq ?_
              refine WC.run ?_
              refine WS.op rfl (op_lds [_, _, _, _, _, _, _, _, _, _, _, _] (M36.at 0 rfl) rfl (Nat.le_of_ble_eq_true rfl) rfl) ?_
              refine WS.st1 (M36.focus 1 rfl) [_, _, _, _, _, _, _, _, _, _, _, _] [_, _, _, _, _, _, _, _, _, _, _, _] rfl rfl rfl rfl rfl (Nat.le_of_ble_eq_true rfl) (Nat.le_of_ble_eq_true rfl) rfl rfl ?_
              intro h37 M38
              replace M38 : Mem _ _ ([(p4, _)] :: [(p1, _)] :: []) _ := M38
              refine WS.nil [(2, _)] rfl ?_
              refine WC.ret ?_
              refine ⟨[_], (res_cellN [_, _, _, _, _, _, _, _, _, _, _, _] rfl (M38.at 0 rfl) (Nat.le_of_ble_eq_true rfl) rfl res_nil), ?_⟩
              rw [bare_4 (c := c) (by omega)]
              exact ⟨_, fun _ q => q, rfl, M38.bare.take 0⟩
            · skip
              refine WS.op rfl rfl (WS.nil [(1, _), (2, _), (4, _), (18, _)] rfl ?_)
              refine WC.condF rfl ?_
              refine WC.seq ?_
              refine WC.run ?_
              refine WS.eqlN (a := (c.op).toNat) (b := 5) rfl rfl rfl (fun e24 => ?_) (fun e24 => ?_)
              · skip
                refine WS.op rfl rfl (WS.nil [(1, _), (2, _), (4, _), (23, _)] rfl ?_)
                refine WC.condT rfl ?_
                refine WC.run ?_
                refine WS.op rfl rfl ?_
                refine WS.st1 (M6.focus 1 rfl) [_] [_, _, _, _, _, _, _, _, _, _, _, _] rfl rfl rfl rfl rfl (Nat.le_of_ble_eq_true rfl) (Nat.le_of_ble_eq_true rfl) rfl rfl ?_
                intro h39 M40
                replace M40 : Mem _ _ ([(p1, _)] :: [(p4, _)] :: []) _ := M40
                refine WS.nil [(1, _), (2, _)] rfl ?_
                refine WC.seq ?_
                refine WC.run ?_
                refine WS.op rfl (op_lds [_, _, _, _, _, _, _, _, _, _, _, _] (M40.at 0 rfl) rfl (Nat.le_of_ble_eq_true rfl) rfl) ?_
                refine WS.st1 (M40.focus 1 rfl) [_, _, _, _, _, _, _, _, _, _, _, _] [_, _, _, _, _, _, _, _, _, _, _, _] rfl rfl rfl rfl rfl (Nat.le_of_ble_eq_true rfl) (Nat.le_of_ble_eq_true rfl) rfl rfl ?_
                intro h41 M42
                replace M42 : Mem _ _ ([(p4, _)] :: [(p1, _)] :: []) _ := M42
                refine WS.nil [(2, _)] rfl ?_
                refine WC.ret ?_
                refine ⟨[_], (res_cellN [_, _, _, _, _, _, _, _, _, _, _, _] rfl (M42.at 0 rfl) (Nat.le_of_ble_eq_true rfl) rfl res_nil), ?_⟩
                rw [bare_5 (c := c) (by omega)]
                exact ⟨_, fun _ _ => .nil, rfl, M42.bare.take 0⟩
              · skip
                refine WS.op rfl rfl (WS.nil [(1, _), (2, _), (4, _), (23, _)] rfl ?_)
                refine WC.condF rfl ?_
                refine WC.seq ?_
                refine WC.run ?_
                refine WS.eqlN (a := (c.op).toNat) (b := 7) rfl rfl rfl (fun e27 => ?_) (fun e27 => ?_)
                · skip
                  refine WS.op rfl rfl (WS.nil [(1, _), (2, _), (4, _), (26, _)] rfl ?_)
                  refine WC.condT rfl ?_
                  refine WC.run ?_
                  refine WS.op rfl rfl ?_
                  refine WS.st1 (M6.focus 1 rfl) [_] [_, _, _, _, _, _, _, _, _, _, _, _] rfl rfl rfl rfl rfl (Nat.le_of_ble_eq_true rfl) (Nat.le_of_ble_eq_true rfl) rfl rfl ?_
                  intro h43 M44
                  replace M44 : Mem _ _ ([(p1, _)] :: [(p4, _)] :: []) _ := M44
                  refine WS.nil [(1, _), (2, _)] rfl ?_
                  refine WC.seq ?_
                  refine WC.run ?_
                  refine WS.op rfl (op_lds [_, _, _, _, _, _, _, _, _, _, _, _] (M44.at 0 rfl) rfl (Nat.le_of_ble_eq_true rfl) rfl) ?_
                  refine WS.st1 (M44.focus 1 rfl) [_, _, _, _, _, _, _, _, _, _, _, _] [_, _, _, _, _, _, _, _, _, _, _, _] rfl rfl rfl rfl rfl (Nat.le_of_ble_eq_true rfl) (Nat.le_of_ble_eq_true rfl) rfl rfl ?_
                  intro h45 M46
                  replace M46 : Mem _ _ ([(p4, _)] :: [(p1, _)] :: []) _ := M46
                  refine WS.nil [(2, _)] rfl ?_
                  refine WC.ret ?_
                  refine ⟨[_], (res_cellN [_, _, _, _, _, _, _, _, _, _, _, _] rfl (M46.at 0 rfl) (Nat.le_of_ble_eq_true rfl) rfl res_nil), ?_⟩
                  rw [bare_7 (c := c) (by omega)]
                  exact ⟨_, fun _ q => q, rfl, M46.bare.take 0⟩
                · skip
                  refine WS.op rfl rfl (WS.nil [(1, _), (2, _), (4, _), (26, _)] rfl ?_)
                  refine WC.condF rfl ?_
                  refine WC.seq ?_
                  refine WC.run ?_
                  refine WS.eqlN (a := (c.op).toNat) (b := 9) rfl rfl rfl (fun e30 => ?_) (fun e30 => ?_)
                  · skip
                    refine WS.op rfl rfl (WS.nil [(1, _), (2, _), (29, _)] rfl ?_)
                    refine WC.condT rfl ?_
                    refine WC.run ?_
                    refine WS.op rfl rfl ?_
                    refine WS.st1 (M6.focus 1 rfl) [_] [_, _, _, _, _, _, _, _, _, _, _, _] rfl rfl rfl rfl rfl (Nat.le_of_ble_eq_true rfl) (Nat.le_of_ble_eq_true rfl) rfl rfl ?_
                    intro h47 M48
                    replace M48 : Mem _ _ ([(p1, _)] :: [(p4, _)] :: []) _ := M48
                    refine WS.op rfl rfl ?_
                    refine WS.st1 (M48.focus 0 rfl) [_] [_, _, _, _, _, _, _, _, _, _, _, _] rfl rfl rfl rfl rfl (Nat.le_of_ble_eq_true rfl) (Nat.le_of_ble_eq_true rfl) rfl rfl ?_
                    intro h49 M50
                    replace M50 : Mem _ _ ([(p1, _)] :: [(p4, _)] :: []) _ := M50
                    refine WS.op rfl rfl ?_
                    refine WS.st1 (M50.focus 0 rfl) [_] [_, _, _, _, _, _, _, _, _, _, _, _] rfl rfl rfl rfl rfl (Nat.le_of_ble_eq_true rfl) (Nat.le_of_ble_eq_true rfl) rfl rfl ?_
                    intro h51 M52
                    replace M52 : Mem _ _ ([(p1, _)] :: [(p4, _)] :: []) _ := M52
                    refine WS.nil [(1, _), (2, _)] rfl ?_
                    refine WC.seq ?_
                    refine WC.run ?_
                    refine WS.op rfl (op_lds [_, _, _, _, _, _, _, _, _, _, _, _] (M52.at 0 rfl) rfl (Nat.le_of_ble_eq_true rfl) rfl) ?_
                    refine WS.st1 (M52.focus 1 rfl) [_, _, _, _, _, _, _, _, _, _, _, _] [_, _, _, _, _, _, _, _, _, _, _, _] rfl rfl rfl rfl rfl (Nat.le_of_ble_eq_true rfl) (Nat.le_of_ble_eq_true rfl) rfl rfl ?_
                    intro h53 M54
                    replace M54 : Mem _ _ ([(p4, _)] :: [(p1, _)] :: []) _ := M54
                    refine WS.nil [(2, _)] rfl ?_
                    refine WC.ret ?_
                    refine ⟨[_], (res_cellN [_, _, _, _, _, _, _, _, _, _, _, _] rfl (M54.at 0 rfl) (Nat.le_of_ble_eq_true rfl) rfl res_nil), ?_⟩
                    rw [bare_9 (c := c) (by omega)]
                    exact ⟨_, fun _ q => q, rfl, M54.bare.take 0⟩
                  · skip
                    refine WS.op rfl rfl (WS.nil [(1, _), (2, _), (29, _)] rfl ?_)
                    refine WC.condF rfl ?_
                    refine WC.skip ?_
                    refine WC.seq ?_
                    refine WC.run ?_
                    refine WS.op rfl (op_lds [_, _, _, _, _, _, _, _, _, _, _, _] (M6.at 1 rfl) rfl (Nat.le_of_ble_eq_true rfl) rfl) ?_
                    refine WS.st1 (M6.focus 0 rfl) [_, _, _, _, _, _, _, _, _, _, _, _] [_, _, _, _, _, _, _, _, _, _, _, _] rfl rfl rfl rfl rfl (Nat.le_of_ble_eq_true rfl) (Nat.le_of_ble_eq_true rfl) rfl rfl ?_
                    intro h55 M56
                    replace M56 : Mem _ _ ([(p4, _)] :: [(p1, _)] :: []) _ := M56
                    refine WS.nil [(2, _)] rfl ?_
                    refine WC.ret ?_
                    refine ⟨[_], (res_cellN [_, _, _, _, _, _, _, _, _, _, _, _] rfl (M56.at 0 rfl) (Nat.le_of_ble_eq_true rfl) rfl res_nil), ?_⟩
                    rw [bare_0 (c := c) (by omega)]
                    exact ⟨_, fun _ q => q, rfl, M56.bare.take 0⟩
theorem may1_ran (W : Mem h h [] []) {p : Part} : Cll tab0 57 [.agg (Part.cells p).toArray] h (fun v h2 => v = .bool (badP p) ∧ Mem h h2 [] []) := by
  refine Cll.code rfl rfl ?_
  refine WC.env [(0, _)] rfl ?_
  refine WC.seq ?_
  refine WC.run ?_
  refine WS.box W [_, _, _] rfl rfl rfl rfl ?_
  intro p1 h2 M3
  refine WS.op rfl rfl (WS.nil [(1, _)] rfl ?_)
  refine WC.seq ?_
  refine WC.run ?_
  refine WS.op rfl rfl (WS.op rfl (op_ld (M3.at 0 rfl) rfl rfl) ?_)
  refine WS.neqN (a := (p.op).toNat) (b := 2) rfl rfl rfl (fun e5 => ?_) (fun e5 => ?_)
  · skip
    refine WS.op rfl rfl (WS.op rfl rfl (WS.op rfl (op_ld (M3.at 0 rfl) rfl rfl) ?_))
    refine WS.neqN (a := (p.op).toNat) (b := 3) rfl rfl rfl (fun e9 => ?_) (fun e9 => ?_)
    · skip
      refine WS.op rfl rfl (WS.off rfl (WS.off rfl (WS.off rfl (WS.op rfl rfl (WS.op rfl rfl (WS.op rfl rfl (WS.nil [(2, _)] rfl ?_)))))))
      refine WC.ret ?_
      refine ⟨[_], (res_tmp rfl res_nil), ?_⟩
      exact ⟨by unfold badP; rw [decide_eq_false (by unfold GoodP; rintro (q | ⟨q, q2⟩); omega; first | omega | exact absurd q2 (by assumption))]; rfl, M3.bare.take 0⟩
    · skip
      refine WS.op rfl rfl (WS.op rfl rfl (WS.op rfl (op_ld (M3.at 0 rfl) rfl rfl) ?_))
      refine WS.sneq (l := p.va) (m := []) rfl rfl rfl (fun e13 => ?_) (fun e13 => ?_)
      · skip
        refine WS.op rfl rfl (WS.op rfl rfl (WS.op rfl rfl (WS.nil [(2, _)] rfl ?_)))
        refine WC.ret ?_
        refine ⟨[_], (res_tmp rfl res_nil), ?_⟩
        exact ⟨by unfold badP; rw [decide_eq_false (by unfold GoodP; rintro (q | ⟨q, q2⟩); omega; first | omega | exact absurd q2 (by assumption))]; rfl, M3.bare.take 0⟩
      · skip
        refine WS.op rfl rfl (WS.op rfl rfl (WS.op rfl rfl (WS.nil [(2, _)] rfl ?_)))
        refine WC.ret ?_
        refine ⟨[_], (res_tmp rfl res_nil), ?_⟩
        exact ⟨by unfold badP; rw [decide_eq_true (by unfold GoodP; first | (left; omega) | (right; exact ⟨by omega, by assumption⟩))]; rfl, M3.bare.take 0⟩
  · skip
    refine WS.op rfl rfl (WS.off rfl (WS.off rfl (WS.off rfl (WS.off rfl (WS.off rfl (WS.off rfl (WS.off rfl (WS.off rfl (WS.op rfl rfl ?_)))))))))
    refine WS.op rfl rfl (WS.nil [(2, _)] rfl ?_)
    refine WC.ret ?_
    refine ⟨[_], (res_tmp rfl res_nil), ?_⟩
    exact ⟨by unfold badP; rw [decide_eq_true (by unfold GoodP; first | (left; omega) | (right; exact ⟨by omega, by assumption⟩))]; rfl, M3.bare.take 0⟩
theorem idxP_ran (W : Mem h h [] []) {V : Value} {ps : List Part} (A : KPart.Sl h V ps) (hl : ps.length < 9223372036854775808) : Cll tab0 67 [V, .func (.func 57) #[] #[]] h (fun v h2 => (∃ z, v = .int .i64 z ∧ (0 ≤ z ↔ ¬ AllG ps)) ∧ Mem h h2 [] []) := by
  refine Cll.code rfl rfl ?_
  refine WC.env [(0, _), (1, _)] rfl ?_
  refine WC.seq ?_
  refine WC.run ?_
  refine WS.op rfl rfl (WS.nil [(0, _), (1, _)] rfl ?_)
  refine WC.seq ?_
  refine WC.seq ?_
  refine WC.run ?_
  refine WS.op rfl rfl (WS.op rfl (op_lenVS A rfl) (WS.op rfl rfl (WS.nil [(0, _), (1, _), (7, _), (8, _)] rfl ?_)))
  refine WC.block ?_
  obtain ⟨L1, eL3, M2⟩ := Mem.name W.bare
  refine WC.loop (σ := Nat) (fun (i) => [(0, V), (1, (.func (.func 57) #[] #[])), (7, (.int .i64 (((ps).length : Nat) : Int))), (8, (.int .i64 ((i : Nat) : Int)))]) (fun (i) hh => Mem h hh (L1) [] ∧ AllG (ps.take i) ∧ i ≤ ps.length) (fun (i) => ps.length - i) (0) rfl ⟨M2, ?_⟩ ?_
  · exact ⟨by intro e he; simp at he, by omega⟩
  · rintro i h4 ⟨M5, ⟨hO, hi1⟩⟩
    subst eL3
    refine WC.env [(0, _), (1, _), (7, _), (8, _)] rfl ?_
    refine WC.seq ?_
    refine WC.run ?_
    refine WS.lssN (a := i) (b := (ps).length) rfl rfl rfl (fun e9 => ?_) (fun e9 => ?_)
    · skip
      refine WS.nil [(0, _), (1, _), (7, _), (8, _), (9, _)] rfl ?_
      refine WC.seq ?_
      refine WC.condT rfl ?_
      refine WC.skip ?_
      refine WC.seq ?_
      refine WC.block ?_
      refine WC.seq ?_
      refine WC.run ?_
      refine WS.op rfl rfl (WS.op rfl rfl (WS.nil [(0, _), (1, _), (5, _), (7, _), (8, _)] rfl ?_))
      refine WC.seq ?_
      refine WC.run ?_
      refine WS.op rfl rfl (WS.op rfl rfl (WS.op rfl rfl ?_))
      obtain ⟨y14, hy14⟩ : ∃ y, (ps)[i]? = some y := ⟨_, List.getElem?_eq_getElem (show i < (ps).length by first | omega | (simp only [List.length_drop, List.length_take, List.length_append, List.length_cons, List.length_nil, List.length_singleton]; omega) | (simp only [List.length_drop, List.length_take, List.length_append, List.length_cons, List.length_nil, List.length_singleton] at *; omega))⟩
      refine WS.iaVS A i hy14 rfl rfl rfl rfl ?_
      intro b14_ o14_ ha14
      refine WS.op rfl (op_ldAt rfl (ha14.mono M5.sub) rfl) ?_
      refine WS.call rfl rfl rfl (may1_ran M5.here (p := y14)) ?_
      rintro _ h6 ⟨rfl, N7⟩
      have M8 := M5.trans N7
      refine WS.nil [(0, _), (1, _), (5, _), (7, _), (8, _), (16, _)] rfl ?_
      cases hb1 : (badP y14)
      · skip
        refine WC.condF rfl ?_
        refine WC.skip ?_
        refine WC.run ?_
        refine WS.opV (.int .i64 (((i + 1) : Nat) : Int)) rfl rfl (add_i64 (a := i) (b := 1) (by omega)) (WS.op rfl rfl (WS.nil [(0, _), (1, _), (7, _), (8, _)] rfl ?_))
        refine ⟨i + 1, rfl, ⟨(M8.bare.take 0), ?_⟩, ?_⟩
        · exact ⟨AllG_snoc hO hy14 (by have q := hb1; unfold badP at q; simpa using q), by omega⟩
        · simp only []; omega
      · skip
        refine WC.condT rfl ?_
        refine WC.seq ?_
        refine WC.run ?_
        refine WS.op rfl rfl (WS.op rfl rfl (WS.nil [(4, _)] rfl ?_))
        refine WC.ret ?_
        refine ⟨[_], (res_tmp rfl res_nil), ?_⟩
        refine ⟨⟨_, rfl, ?_⟩, M8.bare.take 0⟩
        have : ¬ GoodP y14 := by have q := hb1; unfold badP at q; simpa using q
        exact ⟨fun _ q => this (q _ (List.mem_of_getElem? hy14)), fun _ => by omega⟩
    · skip
      refine WS.nil [(0, _), (1, _), (7, _), (8, _), (9, _)] rfl ?_
      refine WC.seq ?_
      refine WC.condF rfl ?_
      refine WC.exit ?_
      refine WC.seq ?_
      refine WC.run ?_
      refine WS.op rfl rfl (WS.nil [(4, _)] rfl ?_)
      refine WC.ret ?_
      refine ⟨[_], (res_tmp rfl res_nil), ?_⟩
      refine ⟨⟨_, rfl, ?_⟩, M5.bare.take 0⟩
      rw [List.take_of_length_le (by omega)] at hO
      exact ⟨fun q => by omega, fun q => absurd hO q⟩
theorem contP_ran (W : Mem h h [] []) {V : Value} {ps : List Part} (A : KPart.Sl h V ps) (hl : ps.length < 9223372036854775808) : Cll tab0 58 [V, .func (.func 57) #[] #[]] h (fun v h2 => v = .bool (!(decide (AllG ps))) ∧ Mem h h2 [] []) := by
  refine Cll.code rfl rfl ?_
  refine WC.env [(0, _), (1, _)] rfl ?_
  refine WC.seq ?_
  refine WC.run ?_
  refine WS.op rfl rfl (WS.nil [(0, _), (1, _)] rfl ?_)
  refine WC.seq ?_
  refine WC.run ?_
  refine WS.op rfl rfl (WS.op rfl rfl ?_)
  refine WS.call rfl rfl rfl (idxP_ran W.here (A.mono W.sub) (by omega)) ?_
  rintro _ h1 ⟨⟨z7, rfl, hz7⟩, N2⟩
  have M3 := W.trans N2
  refine WS.geq (a := z7) (b := (0 : Int)) rfl rfl rfl (fun e8 => ?_) (fun e8 => ?_)
  · skip
    refine WS.op rfl rfl (WS.nil [(4, _)] rfl ?_)
    refine WC.ret ?_
    refine ⟨[_], (res_tmp rfl res_nil), ?_⟩
    refine ⟨?_, M3.bare.take 0⟩
    have hq : decide (AllG ps) = false := decide_eq_false (hz7.1 (by omega))
    rw [hq]; rfl
  · skip
    refine WS.op rfl rfl (WS.nil [(4, _)] rfl ?_)
    refine WC.ret ?_
    refine ⟨[_], (res_tmp rfl res_nil), ?_⟩
    refine ⟨?_, M3.bare.take 0⟩
    have hq : decide (AllG ps) = true := decide_eq_true (by by_cases q : AllG ps; exact q; have := hz7.2 q; omega)
    rw [hq]; rfl
def Zero (b : Cmd) : Prop := (((b.ky ++ b.va) ++ b.ex) ++ b.fr) ++ b.to = [] ∧ b.li.toNat = 0 ∧ b.le.toNat = 0 ∧ b.tt.toNat = 0 ∧ b.ps.length = 0
theorem u8_0 {a : UInt8} (h : a.toNat = 0) : a = 0 := u8_inj h
theorem u64_0 {a : UInt64} (h : a.toNat = 0) : a = 0 := u64_inj h
theorem zero_iff {c : Cmd} : Zero (bareC c) ↔ c = plain c := by
  have key : ∀ k, c.op.toNat = k ∨ True → (Zero (bareC c) ↔ c = plain c) := by
    intro k _
    obtain ⟨op, se, sq, ky, va, ex, fr, to, li, le, tt, ps⟩ := c
    by_cases h1 : op.toNat = 1 ∨ op.toNat = 6
    · rw [bare_1 h1, (enc_1 h1).1]; simp only [Zero, blank, List.append_eq_nil_iff, List.length_eq_zero_iff, Cmd.mk.injEq, true_and, and_true]
      constructor
      · rintro ⟨⟨⟨⟨⟨a, b⟩, c⟩, d⟩, e⟩, f, g, _, i⟩; exact ⟨a, b, c, d, e, u8_0 f, u64_0 g, i⟩
      · rintro ⟨a, b, c, d, e, f, g, i⟩; subst f; subst g; exact ⟨⟨⟨⟨⟨a, b⟩, c⟩, d⟩, e⟩, rfl, rfl, rfl, i⟩
    by_cases h2 : op.toNat = 2
    · rw [bare_2 h2, (enc_2 h2).1]; simp only [Zero, blank, List.append_eq_nil_iff, List.length_eq_zero_iff, Cmd.mk.injEq, true_and, and_true]
      constructor
      · rintro ⟨⟨⟨c, d⟩, e⟩, f, _, g, i⟩; exact ⟨c, d, e, u8_0 f, u64_0 g, i⟩
      · rintro ⟨c, d, e, f, g, i⟩; subst f; subst g; exact ⟨⟨⟨c, d⟩, e⟩, rfl, rfl, rfl, i⟩
    by_cases h3 : op.toNat = 3 ∨ op.toNat = 8
    · rw [bare_3 h3, (enc_3 h3).1]; simp only [Zero, blank, List.append_eq_nil_iff, List.length_eq_zero_iff, Cmd.mk.injEq, true_and, and_true]
      constructor
      · rintro ⟨⟨⟨⟨b, c⟩, d⟩, e⟩, f, g, j, i⟩; exact ⟨b, c, d, e, u8_0 f, u64_0 g, u64_0 j, i⟩
      · rintro ⟨b, c, d, e, f, g, j, i⟩; subst f; subst g; subst j; exact ⟨⟨⟨⟨b, c⟩, d⟩, e⟩, rfl, rfl, rfl, i⟩
    by_cases h4 : op.toNat = 4
    · rw [bare_4 h4, (enc_4 h4).1]; simp only [Zero, blank, List.append_eq_nil_iff, List.length_eq_zero_iff, Cmd.mk.injEq, true_and, and_true]
      constructor
      · rintro ⟨⟨d, e⟩, f, g, j, i⟩; exact ⟨d, e, u8_0 f, u64_0 g, u64_0 j, i⟩
      · rintro ⟨d, e, f, g, j, i⟩; subst f; subst g; subst j; exact ⟨⟨d, e⟩, rfl, rfl, rfl, i⟩
    by_cases h5 : op.toNat = 5
    · rw [bare_5 h5, (enc_5 h5).1]; simp only [Zero, blank, List.append_eq_nil_iff, List.length_eq_zero_iff, Cmd.mk.injEq, true_and, and_true]
      constructor
      · rintro ⟨⟨⟨⟨⟨a, b⟩, c⟩, d⟩, e⟩, f, g, j⟩; exact ⟨a, b, c, d, e, u8_0 f, u64_0 g, u64_0 j⟩
      · rintro ⟨a, b, c, d, e, f, g, j⟩; subst f; subst g; subst j; exact ⟨⟨⟨⟨⟨a, b⟩, c⟩, d⟩, e⟩, rfl, rfl, rfl⟩
    by_cases h7 : op.toNat = 7
    · rw [bare_7 h7, (enc_7 h7).1]; simp only [Zero, blank, List.append_eq_nil_iff, List.length_eq_zero_iff, Cmd.mk.injEq, true_and, and_true]
      constructor
      · rintro ⟨⟨⟨⟨⟨a, b⟩, c⟩, d⟩, e⟩, f, _, g, i⟩; exact ⟨a, b, c, d, e, u8_0 f, u64_0 g, i⟩
      · rintro ⟨a, b, c, d, e, f, g, i⟩; subst f; subst g; exact ⟨⟨⟨⟨⟨a, b⟩, c⟩, d⟩, e⟩, rfl, rfl, rfl, i⟩
    by_cases h9 : op.toNat = 9
    · rw [bare_9 h9, (enc_9 h9).1]; simp only [Zero, blank, List.append_eq_nil_iff, List.length_eq_zero_iff, Cmd.mk.injEq, true_and, and_true]
      constructor
      · rintro ⟨⟨⟨a, b⟩, c⟩, _, f, g, i⟩; exact ⟨a, b, c, u64_0 f, u64_0 g, i⟩
      · rintro ⟨a, b, c, f, g, i⟩; subst f; subst g; exact ⟨⟨⟨a, b⟩, c⟩, rfl, rfl, rfl, i⟩
    have h0 : ¬ (1 ≤ op.toNat ∧ op.toNat ≤ 9) := by omega
    rw [bare_0 h0, (enc_0 h0).1]; simp only [Zero, blank, List.append_eq_nil_iff, List.length_eq_zero_iff, Cmd.mk.injEq, true_and, and_true]
    constructor
    · rintro ⟨⟨⟨⟨⟨a, b⟩, c⟩, d⟩, e⟩, f, g, j, i⟩; exact ⟨a, b, c, d, e, u8_0 f, u64_0 g, u64_0 j, i⟩
    · rintro ⟨a, b, c, d, e, f, g, j, i⟩; subst f; subst g; subst j; exact ⟨⟨⟨⟨⟨a, b⟩, c⟩, d⟩, e⟩, rfl, rfl, rfl, i⟩
  exact key 0 (.inr trivial)
theorem plain_ps {c : Cmd} (h : c = plain c) (h5 : c.op.toNat ≠ 5) : c.ps = [] := by
  rw [h]; unfold plain
  repeat' split
  all_goals first | rfl | (exfalso; omega)
theorem bare_lens {c : Cmd} (hf : Fit c) : (bareC c).ky.length ≤ 5000 ∧ (bareC c).va.length ≤ 5000 ∧ (bareC c).ex.length ≤ 5000 ∧ (bareC c).fr.length ≤ 5000 ∧ (bareC c).to.length ≤ 5000 ∧ (bareC c).ps.length ≤ 40 := by
  obtain ⟨f1, f2, f3, f4, f5, f6, f7⟩ := hf
  unfold bareC
  repeat' split
  all_goals first | omega | (dsimp only [List.length_nil]; omega)
set_option maxRecDepth 8000 in
theorem may_ran (W : Mem h h [] []) {c : Cmd} {V : Value} (A : KPart.Sl h V c.ps) (hf : Fit c) : Cll tab0 33 [c.val V] h (fun v h2 => v = .bool (mayB c) ∧ Mem h h2 [] []) := by
  obtain ⟨P, n, rfl⟩ := A.shape
  have f6 := hf.2.2.2.2.2.1
  obtain ⟨b1, b2, b3, b4, b5, b6⟩ := bare_lens hf
  refine Cll.code rfl rfl ?_
  refine WC.env [(0, _)] rfl ?_
  refine WC.seq ?_
  refine WC.run ?_
  refine WS.box W [_, _, _, _, _, _, _, _, _, _, _, _] rfl rfl rfl rfl ?_
  intro p1 h2 M3
  refine WS.op rfl rfl (WS.nil [(1, _)] rfl ?_)
  refine WC.seq ?_
  refine WC.run ?_
  refine WS.op rfl (op_lds [_, _, _, _, _, _, _, _, _, _, _, _] (M3.at 0 rfl) rfl (Nat.le_of_ble_eq_true rfl) rfl) ?_
  refine WS.call rfl rfl rfl (bare_ran M3.here (c := c) (A.mono M3.sub)) ?_
  rintro _ h4 ⟨V7, A8, rfl, N5⟩
  replace A8 := A8 _ A
  obtain ⟨P9, c10, rfl⟩ := A8.shape
  have M6 := M3.trans N5
  refine WS.new M6 rfl ?_
  intro p11 h12 M13
  refine WS.st1 (M13.focus 0 rfl) [_, _, _, _, _, _, _, _, _, _, _, _] [_, _, _, _, _, _, _, _, _, _, _, _] rfl rfl rfl rfl rfl (Nat.le_of_ble_eq_true rfl) (Nat.le_of_ble_eq_true rfl) rfl rfl ?_
  intro h14 M15
  replace M15 : Mem _ _ ([(p11, _)] :: [(p1, _)] :: []) _ := M15
  refine WS.nil [(1, _), (3, _)] rfl ?_
  refine WC.seq ?_
  obtain ⟨L16, eL18, M17⟩ := Mem.name M15.bare
  refine WC.joinB (base := h) (fun b => [(1, (.pointer (some ⟨p1, 0, none⟩))), (4, .bool b)]) L16 (Zero (bareC c)) (¬ Zero (bareC c)) ?_ ?_ ?_
  · subst eL18
    refine WS.op rfl rfl (WS.op rfl (op_ld (M17.at 0 rfl) rfl rfl) (WS.op rfl rfl (WS.op rfl (op_ld (M17.at 0 rfl) rfl rfl) (WS.op rfl (op_sadd (l := (bareC c).ky) (m := (bareC c).va) rfl rfl (by first | omega | (simp only [List.length_append]; omega))) (WS.op rfl rfl (WS.op rfl (op_ld (M17.at 0 rfl) rfl rfl) (WS.op rfl (op_sadd (l := ((bareC c).ky ++ (bareC c).va)) (m := (bareC c).ex) rfl rfl (by first | omega | (simp only [List.length_append]; omega))) (WS.op rfl rfl (WS.op rfl (op_ld (M17.at 0 rfl) rfl rfl) ?_)))))))))
    refine WS.op rfl (op_sadd (l := (((bareC c).ky ++ (bareC c).va) ++ (bareC c).ex)) (m := (bareC c).fr) rfl rfl (by first | omega | (simp only [List.length_append]; omega))) (WS.op rfl rfl (WS.op rfl (op_ld (M17.at 0 rfl) rfl rfl) (WS.op rfl (op_sadd (l := ((((bareC c).ky ++ (bareC c).va) ++ (bareC c).ex) ++ (bareC c).fr)) (m := (bareC c).to) rfl rfl (by first | omega | (simp only [List.length_append]; omega))) ?_)))
    refine WS.seql (l := (((((bareC c).ky ++ (bareC c).va) ++ (bareC c).ex) ++ (bareC c).fr) ++ (bareC c).to)) (m := []) rfl rfl rfl (fun e22 => ?_) (fun e22 => ?_)
    · skip
      refine WS.op rfl rfl (WS.op rfl rfl (WS.op rfl (op_ld (M17.at 0 rfl) rfl rfl) ?_))
      refine WS.eqlN (a := ((bareC c).li).toNat) (b := 0) rfl rfl rfl (fun e26 => ?_) (fun e26 => ?_)
      · skip
        refine WS.op rfl rfl (WS.op rfl rfl (WS.op rfl rfl (WS.op rfl (op_ld (M17.at 0 rfl) rfl rfl) ?_)))
        refine WS.eqlN (a := ((bareC c).le).toNat) (b := 0) rfl rfl rfl (fun e31 => ?_) (fun e31 => ?_)
        · skip
          refine WS.op rfl rfl (WS.op rfl rfl (WS.op rfl rfl (WS.op rfl (op_ld (M17.at 0 rfl) rfl rfl) ?_)))
          refine WS.eqlN (a := ((bareC c).tt).toNat) (b := 0) rfl rfl rfl (fun e36 => ?_) (fun e36 => ?_)
          · skip
            refine WS.op rfl rfl (WS.op rfl rfl (WS.op rfl rfl (WS.op rfl (op_ld (M17.at 0 rfl) rfl rfl) (WS.op rfl (op_lenVS A8 rfl) ?_))))
            refine WS.eqlN (a := ((bareC c).ps).length) (b := 0) rfl rfl rfl (fun e42 => ?_) (fun e42 => ?_)
            · skip
              refine WS.op rfl rfl (WS.op rfl rfl ?_)
              refine WS.nil' ⟨true, rfl, (((M17.bare.focus 1 rfl).focus 1 rfl).take 2), fun _ => ?_, fun hh => ?_⟩
              · exact ⟨e22, e26, e31, e36, e42⟩
              · cases hh
            · skip
              refine WS.op rfl rfl (WS.op rfl rfl ?_)
              refine WS.nil' ⟨false, rfl, (((M17.bare.focus 1 rfl).focus 1 rfl).take 2), fun hh => ?_, fun _ => ?_⟩
              · cases hh
              · rintro ⟨q1, q2, q3, q4, q5⟩; first | exact e22 q1 | exact e26 q2 | exact e31 q3 | exact e36 q4 | exact e42 q5
          · skip
            refine WS.op rfl rfl (WS.op rfl rfl (WS.off rfl (WS.off rfl (WS.off rfl (WS.off rfl (WS.op rfl rfl (WS.op rfl rfl ?_)))))))
            refine WS.nil' ⟨false, rfl, (((M17.bare.focus 1 rfl).focus 1 rfl).take 2), fun hh => ?_, fun _ => ?_⟩
            · cases hh
            · rintro ⟨q1, q2, q3, q4, q5⟩; first | exact e22 q1 | exact e26 q2 | exact e31 q3 | exact e36 q4 | exact e42 q5
        · skip
          refine WS.op rfl rfl (WS.op rfl rfl (WS.off rfl (WS.off rfl (WS.off rfl (WS.op rfl rfl (WS.op rfl rfl (WS.off rfl (WS.off rfl (WS.off rfl ?_)))))))))
          refine WS.off rfl (WS.op rfl rfl (WS.op rfl rfl ?_))
          refine WS.nil' ⟨false, rfl, (((M17.bare.focus 1 rfl).focus 1 rfl).take 2), fun hh => ?_, fun _ => ?_⟩
          · cases hh
          · rintro ⟨q1, q2, q3, q4, q5⟩; first | exact e22 q1 | exact e26 q2 | exact e31 q3 | exact e36 q4 | exact e42 q5
      · skip
        refine WS.op rfl rfl (WS.op rfl rfl (WS.off rfl (WS.off rfl (WS.off rfl (WS.op rfl rfl (WS.op rfl rfl (WS.off rfl (WS.off rfl (WS.off rfl ?_)))))))))
        refine WS.op rfl rfl (WS.op rfl rfl (WS.off rfl (WS.off rfl (WS.off rfl (WS.off rfl (WS.op rfl rfl (WS.op rfl rfl ?_)))))))
        refine WS.nil' ⟨false, rfl, (((M17.bare.focus 1 rfl).focus 1 rfl).take 2), fun hh => ?_, fun _ => ?_⟩
        · cases hh
        · rintro ⟨q1, q2, q3, q4, q5⟩; first | exact e22 q1 | exact e26 q2 | exact e31 q3 | exact e36 q4 | exact e42 q5
    · skip
      refine WS.op rfl rfl (WS.off rfl (WS.off rfl (WS.off rfl (WS.op rfl rfl (WS.op rfl rfl (WS.off rfl (WS.off rfl (WS.off rfl (WS.op rfl rfl ?_)))))))))
      refine WS.op rfl rfl (WS.off rfl (WS.off rfl (WS.off rfl (WS.op rfl rfl (WS.op rfl rfl (WS.off rfl (WS.off rfl (WS.off rfl (WS.off rfl ?_)))))))))
      refine WS.op rfl rfl (WS.op rfl rfl ?_)
      refine WS.nil' ⟨false, rfl, (((M17.bare.focus 1 rfl).focus 1 rfl).take 2), fun hh => ?_, fun _ => ?_⟩
      · cases hh
      · rintro ⟨q1, q2, q3, q4, q5⟩; first | exact e22 q1 | exact e26 q2 | exact e31 q3 | exact e36 q4 | exact e42 q5
  · intro h19 M20 hp4
    subst eL18
    refine WC.seq ?_
    refine WC.seq ?_
    refine WC.run ?_
    refine WS.op rfl rfl (WS.op rfl (op_ld (M20.at 1 rfl) rfl rfl) ?_)
    refine WS.lssN (a := (c.op).toNat) (b := 1) rfl rfl rfl (fun e46 => ?_) (fun e46 => ?_)
    · skip
      refine WS.op rfl rfl (WS.off rfl (WS.off rfl (WS.off rfl (WS.op rfl rfl (WS.op rfl rfl (WS.off rfl (WS.off rfl (WS.op rfl rfl (WS.nil [(1, _), (55, _)] rfl ?_)))))))))
      refine WC.condT rfl ?_
      refine WC.seq ?_
      refine WC.run ?_
      refine WS.op rfl rfl (WS.nil [(2, _)] rfl ?_)
      refine WC.ret ?_
      refine ⟨[_], (res_tmp rfl res_nil), ?_⟩
      exact ⟨mayB_f (by rintro ⟨q1, q2, q3, q4⟩; first | omega | exact absurd (zero_iff.2 q2) hp4 | (have q5 := q3 (by omega); omega) | (have q := hb1; simp at q; exact absurd q4 q)), M20.bare.take 0⟩
    · skip
      refine WS.op rfl rfl (WS.op rfl rfl (WS.op rfl (op_ld (M20.at 1 rfl) rfl rfl) ?_))
      refine WS.gtrN (a := (c.op).toNat) (b := 11) rfl rfl rfl (fun e50 => ?_) (fun e50 => ?_)
      · skip
        refine WS.op rfl rfl (WS.op rfl rfl (WS.off rfl (WS.off rfl (WS.op rfl rfl (WS.nil [(1, _), (55, _)] rfl ?_)))))
        refine WC.condT rfl ?_
        refine WC.seq ?_
        refine WC.run ?_
        refine WS.op rfl rfl (WS.nil [(2, _)] rfl ?_)
        refine WC.ret ?_
        refine ⟨[_], (res_tmp rfl res_nil), ?_⟩
        exact ⟨mayB_f (by rintro ⟨q1, q2, q3, q4⟩; first | omega | exact absurd (zero_iff.2 q2) hp4 | (have q5 := q3 (by omega); omega) | (have q := hb1; simp at q; exact absurd q4 q)), M20.bare.take 0⟩
      · skip
        refine WS.op rfl rfl (WS.op rfl rfl (WS.op rfl rfl (WS.opV (.bool false) rfl rfl rfl (WS.op rfl rfl (WS.nil [(1, _), (55, _)] rfl ?_)))))
        refine WC.condF rfl ?_
        refine WC.skip ?_
        refine WC.seq ?_
        refine WC.run ?_
        refine WS.op rfl rfl (WS.nil [(1, _), (5, _)] rfl ?_)
        refine WC.seq ?_
        refine WC.run ?_
        refine WS.op rfl rfl (WS.op rfl (op_ld (M20.at 1 rfl) rfl rfl) ?_)
        refine WS.neqN (a := (c.op).toNat) (b := 5) rfl rfl rfl (fun e58 => ?_) (fun e58 => ?_)
        · skip
          refine WS.op rfl rfl (WS.off rfl (WS.off rfl (WS.off rfl (WS.off rfl (WS.off rfl (WS.off rfl (WS.off rfl (WS.off rfl (WS.off rfl ?_)))))))))
          refine WS.off rfl (WS.off rfl (WS.off rfl (WS.off rfl (WS.off rfl (WS.offC rfl (WS.off rfl (WS.off rfl (WS.op rfl rfl (WS.op rfl rfl ?_)))))))))
          refine WS.nil [(2, _)] rfl ?_
          refine WC.ret ?_
          refine ⟨[_], (res_tmp rfl res_nil), ?_⟩
          have hz := zero_iff.1 hp4
          exact ⟨mayB_t ⟨by omega, hz, fun q => by omega, by first | (rw [plain_ps hz (by omega)]; intro p hp; cases hp) | (have q := hb1; simpa using q) | (have q := hb2; simpa using q)⟩, M20.bare.take 0⟩
        · skip
          refine WS.op rfl rfl (WS.op rfl rfl (WS.op rfl (op_ld (M20.at 1 rfl) rfl rfl) (WS.op rfl (op_lenVS A rfl) ?_)))
          refine WS.geqN (a := (c.ps).length) (b := 1) rfl rfl rfl (fun e63 => ?_) (fun e63 => ?_)
          · skip
            refine WS.op rfl rfl (WS.op rfl rfl (WS.op rfl (op_ld (M20.at 1 rfl) rfl rfl) (WS.op rfl (op_lenVS A rfl) ?_)))
            refine WS.leqN (a := (c.ps).length) (b := 4) rfl rfl rfl (fun e68 => ?_) (fun e68 => ?_)
            · skip
              refine WS.op rfl rfl (WS.op rfl rfl (WS.op rfl rfl (WS.op rfl (op_ld (M20.at 1 rfl) rfl rfl) (WS.op rfl rfl ?_))))
              refine WS.call rfl rfl rfl (contP_ran M20.here (A.mono M20.sub) (by omega)) ?_
              rintro _ h21 ⟨rfl, N22⟩
              have M23 := M20.trans N22
              cases hb1 : (!(decide (AllG c.ps)))
              · skip
                refine WS.opV (.bool true) rfl rfl rfl (WS.op rfl rfl (WS.op rfl rfl (WS.op rfl rfl (WS.nil [(2, _)] rfl ?_))))
                refine WC.ret ?_
                refine ⟨[_], (res_tmp rfl res_nil), ?_⟩
                have hz := zero_iff.1 hp4
                exact ⟨mayB_t ⟨by omega, hz, fun q => by omega, by first | (rw [plain_ps hz (by omega)]; intro p hp; cases hp) | (have q := hb1; simpa using q) | (have q := hb2; simpa using q)⟩, M23.bare.take 0⟩
              · skip
                refine WS.opV (.bool false) rfl rfl rfl (WS.op rfl rfl (WS.op rfl rfl (WS.op rfl rfl (WS.nil [(2, _)] rfl ?_))))
                refine WC.ret ?_
                refine ⟨[_], (res_tmp rfl res_nil), ?_⟩
                exact ⟨mayB_f (by rintro ⟨q1, q2, q3, q4⟩; first | omega | exact absurd (zero_iff.2 q2) hp4 | (have q5 := q3 (by omega); omega) | (have q := hb1; simp at q; exact absurd q4 q)), M23.bare.take 0⟩
            · skip
              refine WS.op rfl rfl (WS.op rfl rfl (WS.off rfl (WS.off rfl (WS.off rfl (WS.offC rfl (WS.off rfl (WS.op rfl rfl (WS.op rfl rfl (WS.op rfl rfl ?_)))))))))
              refine WS.nil [(2, _)] rfl ?_
              refine WC.ret ?_
              refine ⟨[_], (res_tmp rfl res_nil), ?_⟩
              exact ⟨mayB_f (by rintro ⟨q1, q2, q3, q4⟩; first | omega | exact absurd (zero_iff.2 q2) hp4 | (have q5 := q3 (by omega); omega) | (have q := hb1; simp at q; exact absurd q4 q)), M20.bare.take 0⟩
          · skip
            refine WS.op rfl rfl (WS.off rfl (WS.off rfl (WS.off rfl (WS.off rfl (WS.op rfl rfl (WS.op rfl rfl (WS.off rfl (WS.off rfl (WS.off rfl ?_)))))))))
            refine WS.offC rfl (WS.off rfl (WS.op rfl rfl (WS.op rfl rfl (WS.op rfl rfl (WS.nil [(2, _)] rfl ?_)))))
            refine WC.ret ?_
            refine ⟨[_], (res_tmp rfl res_nil), ?_⟩
            exact ⟨mayB_f (by rintro ⟨q1, q2, q3, q4⟩; first | omega | exact absurd (zero_iff.2 q2) hp4 | (have q5 := q3 (by omega); omega) | (have q := hb1; simp at q; exact absurd q4 q)), M20.bare.take 0⟩
  · intro h24 M25 hp4
    subst eL18
    refine WC.seq ?_
    refine WC.seq ?_
    refine WC.run ?_
    refine WS.op rfl rfl (WS.op rfl (op_ld (M25.at 1 rfl) rfl rfl) ?_)
    refine WS.lssN (a := (c.op).toNat) (b := 1) rfl rfl rfl (fun e46 => ?_) (fun e46 => ?_)
    · skip
      refine WS.op rfl rfl (WS.off rfl (WS.off rfl (WS.off rfl (WS.op rfl rfl (WS.op rfl rfl (WS.off rfl (WS.off rfl (WS.op rfl rfl (WS.nil [(1, _), (55, _)] rfl ?_)))))))))
      refine WC.condT rfl ?_
      refine WC.seq ?_
      refine WC.run ?_
      refine WS.op rfl rfl (WS.nil [(2, _)] rfl ?_)
      refine WC.ret ?_
      refine ⟨[_], (res_tmp rfl res_nil), ?_⟩
      exact ⟨mayB_f (by rintro ⟨q1, q2, q3, q4⟩; first | omega | exact absurd (zero_iff.2 q2) hp4 | (have q5 := q3 (by omega); omega) | (have q := hb1; simp at q; exact absurd q4 q)), M25.bare.take 0⟩
    · skip
      refine WS.op rfl rfl (WS.op rfl rfl (WS.op rfl (op_ld (M25.at 1 rfl) rfl rfl) ?_))
      refine WS.gtrN (a := (c.op).toNat) (b := 11) rfl rfl rfl (fun e50 => ?_) (fun e50 => ?_)
      · skip
        refine WS.op rfl rfl (WS.op rfl rfl (WS.off rfl (WS.off rfl (WS.op rfl rfl (WS.nil [(1, _), (55, _)] rfl ?_)))))
        refine WC.condT rfl ?_
        refine WC.seq ?_
        refine WC.run ?_
        refine WS.op rfl rfl (WS.nil [(2, _)] rfl ?_)
        refine WC.ret ?_
        refine ⟨[_], (res_tmp rfl res_nil), ?_⟩
        exact ⟨mayB_f (by rintro ⟨q1, q2, q3, q4⟩; first | omega | exact absurd (zero_iff.2 q2) hp4 | (have q5 := q3 (by omega); omega) | (have q := hb1; simp at q; exact absurd q4 q)), M25.bare.take 0⟩
      · skip
        refine WS.op rfl rfl (WS.op rfl rfl (WS.op rfl rfl (WS.opV (.bool true) rfl rfl rfl (WS.op rfl rfl (WS.nil [(1, _), (55, _)] rfl ?_)))))
        refine WC.condT rfl ?_
        refine WC.seq ?_
        refine WC.run ?_
        refine WS.op rfl rfl (WS.nil [(2, _)] rfl ?_)
        refine WC.ret ?_
        refine ⟨[_], (res_tmp rfl res_nil), ?_⟩
        exact ⟨mayB_f (by rintro ⟨q1, q2, q3, q4⟩; first | omega | exact absurd (zero_iff.2 q2) hp4 | (have q5 := q3 (by omega); omega) | (have q := hb1; simp at q; exact absurd q4 q)), M25.bare.take 0⟩
end Go.Proofs.Ytncpdahappmhkaa.Wt
