/- A function that hands out a new row of plain cells, run by itself, hands it out wherever it is called; arguments that come in as read-only blocks. -/
import Derived.Test.YtncpdahappmhkaaAmU
namespace Go.Proofs.Ytncpdahappmhkaa.Am
open Go
set_option linter.unusedVariables false
set_option linter.unusedSimpArgs false
variable {P : Program} {tab : Nat → Option FD}
theorem Fr.belowB {base : Nat} {r r' : Rho} {h h' : H} {w w' : World} (R : Rel base r h w) (F : Fr base r h w r' h' w') : Go.RowKit.Below base w w' := F.below R
/-- The function is run over a memory of its own making (of blocks that are never written) and tells a slice of a row that it has made itself: whole from its first cell on, of plain cells. -/
theorem SoundF.fresh (hD : DrawOK P) (ht : TabOK P tab) {f : Nat} {g : List Value → H → Option (Value × H)}
    (hg : ∀ us h v h2, g us h = some (v, h2) → ∃ (n c k : Nat) (B : Blk) (us0 : List Value) (h0 h3 : H) (m : Nat → Nat), v = .slice (some ⟨h.next, 0, none⟩) n c ∧ h2 = h.alloc B ∧ B.ro = false ∧ B.cells.all plain1 = true ∧ 0 < n ∧
      Ran tab f us0 h0 (.slice (some ⟨k, 0, none⟩) n c) h3 ∧ h3.get k = some B ∧
      (∀ k, h0.next ≤ k → h0.get k = none) ∧ (∀ k B, h0.get k = some B → B.ro = true ∧ ∃ B', h.get (m k) = some B' ∧ B'.es = B.es ∧ B'.cells = B.cells ∧ B.cells.all plain1 = true) ∧
      (∀ r us', VL r us us' → VL (fun k => if (h0.get k).isSome then r (m k) else none) us0 us')) : SoundF P f g := by
  intro base r h w us us' v h2 E hv R
  obtain ⟨n, c, k, B, us0, h0, h3, m, rfl, rfl, hro, hpl, hn, ⟨fuel, hrun⟩, hB, e1, e2, e3⟩ := hg us h v h2 E
  have R0 : Rel w.heap.size (fun k => if (h0.get k).isSome then r (m k) else none) h0 w := by
    refine ⟨fun k B hB => ?_, fun k j Bk Bj L M q1 q2 q3 q4 => ?_, fun k hk => by simp [e1 k hk], Nat.le_refl _, fun k B L hB hro hL => ?_⟩
    · obtain ⟨hro, B', g1, g2, g3, g4⟩ := e2 k B hB
      obtain ⟨L, c, el, fz, k1, k2, k3, k4, k5, k6, k7⟩ := R.cells _ B' g1
      refine ⟨L, c, el, fz, by simp [hB, k1], k2, by rw [k3, g2], by rw [← g3]; exact k4, k5, fun q => by (rw [hro] at q; cases q), fun i u hu => ?_⟩
      rw [← g3] at hu
      obtain ⟨j1, u', j2, j3⟩ := k7 i u hu
      have hpu := List.all_eq_true.1 g4 u (by rw [← g3]; exact List.mem_of_getElem? hu)
      rw [VR.plain1_inv hpu j3] at j2
      exact ⟨j1, u, j2, VR.of_plain1 hpu⟩
    · rw [(e2 k Bk q1).1] at q4; cases q4
    · obtain ⟨_, B', g1, _⟩ := e2 k B hB
      obtain ⟨L', c, el, fz, k1, k2, _⟩ := R.cells _ B' g1
      simp only [hB, Option.isSome_some, if_true] at hL
      rw [hL] at k1; cases k1
      exact (Array.getElem?_eq_some_iff.1 k2).1
  obtain ⟨hc, hcalls⟩ := run_table hD ht fuel f w.heap.size _ h0 w us0 us' _ h3 hrun (e3 r us' hv) R0
  refine ⟨hc, hcalls.mono fun x w2 hx => ?_⟩
  obtain ⟨r2, v', rfl, hvv, R3, F, _⟩ := hx
  have bel := F.below R0
  obtain ⟨B1, B2⟩ := R.below bel
  obtain ⟨L, cc, el, fz, q1, q2, q3, q4, q5, q6, q7⟩ := R3.cells k B hB
  obtain ⟨q8, q9⟩ := q6 hro
  have hnone : r h.next = none := R.new _ (Nat.le_refl _)
  have hlt : ∀ n B M, h.get n = some B → r n = some M → M.b < w.heap.size := fun n B M g1 g2 => by
    obtain ⟨M', _, _, _, k1, k2, _⟩ := R.cells n B g1
    rw [g2] at k1; cases k1; exact (Array.getElem?_eq_some_iff.1 k2).1
  have hle : r.le (r.put h.next L) := Rho.le_put hnone
  have old : ∀ n B, (h.alloc B).get n = some B → True := fun _ _ _ => trivial
  refine ⟨r.put h.next L, v', rfl, ?_, ⟨fun a A hA => ?_, fun a b A Bb M N g1 g2 hne gro g3 g4 => ?_, fun a ha => ?_, B1.size, fun a A M g1 gro g2 => ?_⟩, ⟨hle, by show h.next ≤ h.next + 1; omega, bel.size, bel.os, bel.tape, bel.output, fun b hb _ => bel.block b hb, fun a A M g1 gro g2 hl => ?_⟩, fun a ha _ hr => ?_⟩
  · cases hvv with
    | sl g g1 g2 g3 g4 =>
      refine .sl (g.imp (fun g => ?_) id) g1 g2 g3 (fun q => ?_)
      · obtain ⟨_, M, m1, m2⟩ := g
        rw [q1] at m1; cases m1
        exact ⟨rfl, L, Rho.put_same .., m2⟩
      · obtain ⟨M, m1, m2⟩ := g4 q
        rw [q1] at m1; cases m1
        exact ⟨L, Rho.put_same .., m2⟩
  · rw [H.get_alloc] at hA
    split at hA
    · rename_i e; subst e; cases hA
      refine ⟨L, cc, el, fz, Rho.put_same .., q2, q3, q4, q5, fun _ => ⟨by have := R.size; omega, q9⟩, fun i u hu => ?_⟩
      obtain ⟨j1, u', j2, j3⟩ := q7 i u hu
      have hpu := List.all_eq_true.1 hpl u (List.mem_of_getElem? hu)
      rw [VR.plain1_inv hpu j3] at j2
      exact ⟨j1, u, j2, VR.of_plain1 hpu⟩
    · rename_i e
      obtain ⟨M, c', el', fz', k1, k2, k3, k4, k5, k6, k7⟩ := B1.cells a A hA
      refine ⟨M, c', el', fz', hle _ _ k1, k2, k3, k4, k5, k6, fun i u hu => ?_⟩
      obtain ⟨j1, u', j2, j3⟩ := k7 i u hu
      exact ⟨j1, u', j2, j3.mono hle⟩
  · rw [H.get_alloc] at g1 g2
    by_cases ea : a = h.next
    · rw [if_neg (fun q => hne (ea.trans q.symm))] at g2
      rw [ea, Rho.put_same] at g3; cases g3
      rw [Rho.put_ne _ _ (fun q => hne (ea.trans q.symm))] at g4
      have := hlt b Bb N g2 g4; omega
    · rw [if_neg ea] at g1; rw [Rho.put_ne _ _ ea] at g3
      by_cases eb : b = h.next
      · rw [eb, Rho.put_same] at g4; cases g4
        have := hlt a A M g1 g3; omega
      · rw [if_neg eb] at g2; rw [Rho.put_ne _ _ eb] at g4
        exact R.inj a b A Bb M N g1 g2 hne gro g3 g4
  · have : h.next + 1 ≤ a := ha
    rw [Rho.put_ne _ _ (by omega)]; exact R.new a (by omega)
  · rw [H.get_alloc] at g1
    split at g1
    · cases g1; rw [hro] at gro; cases gro
    · rename_i e; rw [Rho.put_ne _ _ e] at g2; exact R.ro a A M g1 gro g2
  · rw [H.get_alloc] at g1
    split at g1
    · rename_i e; subst e; rw [Rho.put_same] at g2; cases g2; omega
    · rename_i e; rw [Rho.put_ne _ _ e] at g2; exact ⟨a, A, M, g1, gro, g2, rfl⟩
  · rw [Rho.put_ne _ _ (by omega)]; exact hr
end Go.Proofs.Ytncpdahappmhkaa.Am
