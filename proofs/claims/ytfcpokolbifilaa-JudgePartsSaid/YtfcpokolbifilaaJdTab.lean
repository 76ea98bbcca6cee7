/- What the functions that the law 'JudgeParts' runs come to wherever they are called. -/
import Derived.Test.YtfcpokolbifilaaJd
import Derived.KernelRfl
namespace Go.Proofs.Ytfcpokolbifilaa.Jd
open Go Go.Proofs.Ytfcpokolbifilaa.Am Go.Proofs.Ytfcpokolbifilaa.IrJudgeParts
set_option linter.unusedVariables false
set_option linter.unusedSimpArgs false
variable {tab : Nat → Option FD}
/-! ### What the functions are wherever they are called -/
def gCmp (us : List Value) : Option Value := match us with | [.agg ⟨[.int .i64 a, .int .i64 t, .int .u64 s, .bool r]⟩, .agg ⟨[.int .i64 a', .int .i64 t', .int .u64 s', .bool r']⟩] => some (.int .i64 (cmpO ⟨a, t, s, r⟩ ⟨a', t', s', r'⟩)) | _ => none
theorem ahead_ran (t13 : tab 13 = some (.code ir13)) (t19 : tab 19 = some (.spec (pureG gCmp))) (x y : JOp) : ∃ h3, Ran tab 13 [x.val, y.val] ⟨.leaf, 0⟩ (.bool (decide (cmpO x y < 0))) h3 := by
  obtain ⟨a, t, s, r⟩ := x
  obtain ⟨a', t', s', r'⟩ := y
  refine Ran.codeR' [.bool (decide (cmpO ⟨a, t, s, r⟩ ⟨a', t', s', r'⟩ < 0))] [(4, .bool (decide (cmpO ⟨a, t, s, r⟩ ⟨a', t', s', r'⟩ < 0)))] t13 rfl ?_ (fun _ => rfl)
  exact ⟨_, (.seq (.run [(2, _), (3, _)] (.op rfl (op_box 0 rfl rfl rfl rfl) (.op rfl (op_box 1 rfl rfl rfl rfl) (.op rfl rfl .nil))) rfl) (.seq (.run [(4, _)] (.op rfl rfl (.op rfl rfl (.call rfl rfl rfl (Ran.spec t19 rfl) (.op rfl rfl (.op rfl rfl .nil))))) rfl) .ret))⟩
def tab0 : Nat → Option FD
  | 6 => some (.code ir6)
  | 7 => some (.code ir7)
  | 9 => some (.code ir9)
  | 11 => some (.code ir11)
  | 13 => some (.code ir13)
  | 15 => some (.code ir15)
  | 16 => some (.code ir16)
  | 17 => some (.code ir17)
  | 18 => some (.code ir18)
  | 19 => some (.code ir19)
  | 20 => some (.code ir20)
  | 21 => some (.code ir21)
  | 22 => some (.code ir22)
  | 23 => some (.code ir23)
  | 24 => some (.code ir24)
  | 25 => some (.code ir25)
  | 26 => some (.code ir26)
  | 27 => some (.code ir27)
  | 28 => some (.code ir28)
  | 29 => some (.code ir29)
  | 30 => some (.code ir30)
  | _ => none
theorem tab0OK : TabOK Try.prog tab0 := by
  intro f d h
  unfold tab0 at h
  split at h
  · cases h; exact ⟨hi6, ok6⟩
  · cases h; exact ⟨hi7, ok7⟩
  · cases h; exact ⟨hi9, ok9⟩
  · cases h; exact ⟨hi11, ok11⟩
  · cases h; exact ⟨hi13, ok13⟩
  · cases h; exact ⟨hi15, ok15⟩
  · cases h; exact ⟨hi16, ok16⟩
  · cases h; exact ⟨hi17, ok17⟩
  · cases h; exact ⟨hi18, ok18⟩
  · cases h; exact ⟨hi19, ok19⟩
  · cases h; exact ⟨hi20, ok20⟩
  · cases h; exact ⟨hi21, ok21⟩
  · cases h; exact ⟨hi22, ok22⟩
  · cases h; exact ⟨hi23, ok23⟩
  · cases h; exact ⟨hi24, ok24⟩
  · cases h; exact ⟨hi25, ok25⟩
  · cases h; exact ⟨hi26, ok26⟩
  · cases h; exact ⟨hi27, ok27⟩
  · cases h; exact ⟨hi28, ok28⟩
  · cases h; exact ⟨hi29, ok29⟩
  · cases h; exact ⟨hi30, ok30⟩
  · cases h

theorem mixed : Try.prog.follows .mixedOrders = true := by kernel_rfl
theorem dOK : DrawOK Try.prog := drawOK mixed
theorem s22 : SoundF Try.prog 22 (pureG g64) := SoundF.plain dOK tab0OK fun us v h => by
  unfold g64 at h
  split at h
  · rename_i x y; cases h; exact ⟨rfl, rfl, _, compare64 rfl rfl x y _⟩
  · cases h
theorem s23 : SoundF Try.prog 23 (pureG gI) := SoundF.plain dOK tab0OK fun us v h => by
  unfold gI at h
  split at h
  · rename_i x y; cases h; exact ⟨rfl, rfl, _, compareI rfl rfl x y _⟩
  · cases h
theorem s24 : SoundF Try.prog 24 (pureG gLate) := SoundF.plain dOK tab0OK fun us v h => by
  unfold gLate at h
  split at h
  · cases h; exact ⟨rfl, rfl, _, late rfl _ _ _ _ _⟩
  · cases h
def tab1 : Nat → Option FD := fun f => if f = 22 then some (.spec (pureG g64)) else if f = 23 then some (.spec (pureG gI)) else if f = 24 then some (.spec (pureG gLate)) else tab0 f
theorem tab1OK : TabOK Try.prog tab1 := by
  intro f d h
  unfold tab1 at h
  split at h
  · rename_i e; subst e; cases h; exact s22
  · split at h
    · rename_i e; subst e; cases h; exact s23
    · split at h
      · rename_i e; subst e; cases h; exact s24
      · exact tab0OK f d h
theorem s19 : SoundF Try.prog 19 (pureG gCmp) := SoundF.plain dOK tab1OK fun us v h => by
  unfold gCmp at h
  split at h
  · rename_i a t s r a' t' s' r'; cases h; exact ⟨rfl, rfl, compare_ran ⟨rfl, rfl, rfl, rfl, rfl, rfl⟩ ⟨a, t, s, r⟩ ⟨a', t', s', r'⟩⟩
  · cases h
def tab2 : Nat → Option FD := fun f => if f = 19 then some (.spec (pureG gCmp)) else tab0 f
theorem tab2OK : TabOK Try.prog tab2 := by
  intro f d h
  unfold tab2 at h
  split at h
  · rename_i e; subst e; cases h; exact s19
  · exact tab0OK f d h
theorem s13 : SoundF Try.prog 13 (pureG gAhead) := SoundF.plain dOK tab2OK fun us v h => by
  unfold gAhead at h
  split at h
  · rename_i a t s r a' t' s' r'; cases h; exact ⟨rfl, rfl, ahead_ran rfl rfl ⟨a, t, s, r⟩ ⟨a', t', s', r'⟩⟩
  · cases h
def tab3 : Nat → Option FD := fun f => if f = 13 then some (.spec (pureG gAhead)) else tab0 f
theorem tab3OK : TabOK Try.prog tab3 := by
  intro f d h
  unfold tab3 at h
  split at h
  · rename_i e; subst e; cases h; exact s13
  · exact tab0OK f d h
theorem flat_plain (l : List JOp) : (flat l).all plain1 = true := by
  induction l with
  | nil => rfl
  | cons x l ih => have : flat (x :: l) = x.cells ++ flat l := rfl
                   rw [this, List.all_append, ih]; rfl
theorem leaf_get (n k : Nat) : H.get ⟨.leaf, n⟩ k = none := rfl
theorem s11 : SoundF Try.prog 11 gR := SoundF.quiet dOK tab3OK fun us h v h2 E => by
  have T : Tr11 tab3 := ⟨rfl, rfl⟩
  unfold gR at E
  split at E
  · split at E
    · rename_i n c hc; cases E; obtain ⟨rfl, rfl⟩ := hc
      obtain ⟨h3, hr⟩ := right_nil T none 0 ⟨.leaf, 0⟩
      refine ⟨rfl, rfl, [.slice none 0 0], ⟨.leaf, 0⟩, h3, id, hr, fun k _ => rfl, fun k B q => by (rw [leaf_get] at q; cases q), fun r us' hv => ?_⟩
      refine ⟨hv.1, fun i v v' q1 q2 => ?_⟩
      have := hv.2 i v v' q1 q2
      cases i with
      | zero => simp at q1; subst q1; cases this; exact .sl0
      | succ i => simp at q1
    · cases E
  · rename_i a n c
    split at E
    · rename_i hc; cases E; obtain ⟨rfl, rfl⟩ := hc
      obtain ⟨h3, hr⟩ := right_nil T (some a) 1 ⟨.leaf, 0⟩
      refine ⟨rfl, rfl, [.slice (some a) 0 1], ⟨.leaf, 0⟩, h3, id, hr, fun k _ => rfl, fun k B q => by (rw [leaf_get] at q; cases q), fun r us' hv => ?_⟩
      refine ⟨hv.1, fun i v v' q1 q2 => ?_⟩
      have := hv.2 i v v' q1 q2
      cases i with
      | zero =>
        simp at q1; subst q1
        cases this with
        | sl g g1 g2 g3 g4 =>
          have := g3 rfl
          exact .sl (.inr this) g1 g2 g3 (fun q => by omega)
      | succ i => simp at q1
    · split at E
      · rename_i B hB
        split at E
        · rename_i l hl
          split at E
          · rename_i hc; cases E
            obtain ⟨c1, c2, c3, c4, c5⟩ := hc
            have hcl := parse_inv _ _ l (Nat.le_refl _) hl
            obtain ⟨h3, hr⟩ := right_ran T (l := l) (c := c) (by omega) (h := (⟨.leaf, 1⟩ : H).set 0 (some ⟨flat l, 4, true⟩)) ⟨H.get_set_same .., by (rw [H.next_set]; decide)⟩
            rw [c4] at hr
            refine ⟨rfl, rfl, _, _, h3, fun _ => a.block, hr, fun k hk => ?_, fun k B' q => ?_, fun r us' hv => ?_⟩
            · rw [H.get_set, if_neg (by have : 1 ≤ k := hk; omega)]; rfl
            · rw [H.get_set] at q
              split at q
              · cases q; exact ⟨rfl, B, hB, c3, hcl, flat_plain l⟩
              · rw [leaf_get] at q; cases q
            · refine ⟨hv.1, fun i v v' q1 q2 => ?_⟩
              cases i with
              | zero =>
                have hh := hv.2 0 _ v' rfl q2
                simp at q1; subst q1
                obtain ⟨ab, ao, asp⟩ := a
                simp only at c1 c2; subst c1 c2
                have hs : (((⟨.leaf, 1⟩ : H).set 0 (some ⟨flat l, 4, true⟩)).get 0).isSome = true := by rw [H.get_set_same]; rfl
                cases hh with
                | sl g g1 g2 g3 g4 =>
                  refine .sl (g.imp (fun g => ?_) id) g1 g2 g3 (fun q => ?_)
                  · obtain ⟨_, L, e1, e2⟩ := g
                    exact ⟨rfl, L, by simp only [hs, if_true]; exact e1, e2⟩
                  · obtain ⟨L, e1, e2⟩ := g4 q
                    exact ⟨L, by simp only [hs, if_true]; exact e1, e2⟩
              | succ i => simp at q1
          · cases E
        · cases E
      · cases E
  · cases E
def isT : Option (Value × H) → Bool
  | some (.bool true, _) => true
  | _ => false
theorem isT_some {x : Option (Value × H)} (h : isT x = true) : ∃ h2, x = some (.bool true, h2) := by
  unfold isT at h
  split at h
  · exact ⟨_, rfl⟩
  · cases h
theorem awake_ran : isT (runE tab0 4000 7 [] ⟨.leaf, 0⟩) = true := by decide +kernel
theorem s7 : SoundF Try.prog 7 (fun us h => if us = [] then some (.bool true, h) else none) := by
  obtain ⟨h2, hr⟩ := isT_some awake_ran
  exact SoundF.closed dOK tab0OK rfl ⟨4000, hr⟩
def tab4 : Nat → Option FD := fun f => if f = 11 then some (.spec gR) else if f = 7 then some (.spec (fun us h => if us = [] then some (.bool true, h) else none)) else tab0 f
theorem tab4OK : TabOK Try.prog tab4 := by
  intro f d h
  unfold tab4 at h
  split at h
  · rename_i e; subst e; cases h; exact s11
  · split at h
    · rename_i e; subst e; cases h; exact s7
    · exact tab0OK f d h
theorem T4 : Tl tab4 := ⟨rfl, rfl, rfl⟩
end Go.Proofs.Ytfcpokolbifilaa.Jd

