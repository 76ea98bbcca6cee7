/- What the printed function Right of the reference of entry comes to. -/
import Derived.Test.YtimfgflcflhfcaaSpecEntW
import Derived.Test.YtimfgflcflhfcaaSpecRef
import Derived.Test.YtimfgflcflhfcaaSpecS
import Derived.Test.YtimfgflcflhfcaaPx13
namespace Go.Proofs.Ytimfgflcflhfcaa.P
set_option linter.unusedVariables false
set_option linter.unusedSimpArgs false
open Go.RowKit Go.Proofs.YtimfgflcflhfcaaW.PrintWords Go.Proofs.YtimfgflcflhfcaaW.PrintLast Go.Proofs.YtimfgflcflhfcaaW.PrintMore Go.Proofs.Ytimfgflcflhfcaa.Num
theorem plain_spec (ix tm kd sl : Nat) (c0 c1 c2 c3 c4 c5 c6 c7 : UInt8) (b : ByteArray) :
    wapentakeref04_plain.f (ix : Int) (tm : Int) (kd : Int) (sl : Int) (c0.toNat : Int) (c1.toNat : Int) (c2.toNat : Int) (c3.toNat : Int) (c4.toNat : Int) (c5.toNat : Int) (c6.toNat : Int) (c7.toNat : Int) b =
      some (decide (sl = 0) && [c0, c1, c2, c3, c4, c5, c6, c7].all (· == 0)) := by
  unfold wapentakeref04_plain.f
  congr 1
  have hz : ∀ c : UInt8, ((c.toNat : Int) = 0) ↔ (c == 0) = true := fun c => by rw [← u8z, beq_iff_eq]
  rw [Bool.eq_iff_iff, decide_eq_true_eq]
  simp only [hz, List.all_cons, List.all_nil, Bool.and_true, Bool.and_eq_true, decide_eq_true_eq]
  constructor
  · rintro ⟨h0, h1, h2, h3, h4, h5, h6, h7, h8⟩
    exact ⟨by omega, h0, h1, h2, h3, h4, h5, h6, h7⟩
  · rintro ⟨h8, h0, h1, h2, h3, h4, h5, h6, h7⟩
    exact ⟨h0, h1, h2, h3, h4, h5, h6, h7, by omega⟩
theorem refRight_spec (ix tm kd sl : Nat) (c0 c1 c2 c3 c4 c5 c6 c7 : UInt8) (b : List UInt8) (k : Nat) (hk : 2 ≤ k) :
    wapentakeref04_Right.f k (ix : Int) (tm : Int) (kd : Int) (sl : Int) (c0.toNat : Int) (c1.toNat : Int) (c2.toNat : Int) (c3.toNat : Int) (c4.toNat : Int) (c5.toNat : Int) (c6.toNat : Int) (c7.toNat : Int) (mkB b) =
      some (Ent.rightB ⟨ix, tm, kd, sl, [c0, c1, c2, c3, c4, c5, c6, c7], b⟩) := by
  obtain ⟨k, rfl⟩ : ∃ m, k = m + 2 := ⟨k - 2, by omega⟩
  generalize ht : [c0, c1, c2, c3, c4, c5, c6, c7].all (· == 0) = z
  have hp := plain_spec ix tm kd sl c0 c1 c2 c3 c4 c5 c6 c7 (mkB b)
  rw [ht] at hp
  have tail : ∀ x13 : Bool, (x13 = true ↔ (kd = 1 ∨ kd = 5)) →
      wapentakeref04_Right.j1 (k + 1) (kd : Int) x13 (ix : Int) (tm : Int) (kd : Int) (sl : Int) (c0.toNat : Int) (c1.toNat : Int) (c2.toNat : Int) (c3.toNat : Int) (c4.toNat : Int) (c5.toNat : Int) (c6.toNat : Int) (c7.toNat : Int) (mkB b) =
        some (if kd = 3 then decide (sl ≤ 3) else decide (sl = 0) && (z && (if kd = 1 ∨ kd = 5 then b.isEmpty else if kd = 2 then oneB b else decide (kd = 4)))) := by
    intro x13 hx
    simp only [wapentakeref04_Right.j1]
    rw [hp]
    by_cases h1 : kd = 1 ∨ kd = 5
    · rw [if_pos (hx.2 h1), if_neg (show ¬ kd = 3 by omega), if_pos h1, Option.bind_some, ← Bool.and_assoc]
      cases hz : (decide (sl = 0) && z) with
      | true =>
        rw [if_pos rfl, Bool.true_and, mkB_size]
        congr 1
        cases b with
        | nil => rfl
        | cons c r => rw [List.isEmpty_cons]; exact beq_eq_false_iff_ne.2 (by simp only [List.length_cons]; omega)
      | false => rw [if_neg (by decide)]; rfl
    · rw [if_neg (fun h => h1 (hx.1 h)), if_neg h1]
      by_cases h2 : kd = 2
      · rw [if_pos (show (kd : Int) = 2 by omega), if_neg (show ¬ kd = 3 by omega), if_pos h2, Option.bind_some, ← Bool.and_assoc]
        cases hz : (decide (sl = 0) && z) with
        | true =>
          rw [if_pos rfl, Bool.true_and, mkB_size]
          match b with
          | [] => rw [if_neg (by simp)]; rfl
          | [c] =>
            have e : (([c] : List UInt8)[(0 : Int).toNat]'(by simp)) = c := rfl
            rw [if_pos (by simp), if_pos (by simp), bt_mkB _ _ (by simp), e]
            simp only [oneB]
            by_cases h5 : 1 ≤ c.toNat
            · rw [if_pos (show (c.toNat : Int) > 0 by omega), decide_eq_true h5, Bool.true_and]
              congr 1
              rw [Bool.eq_iff_iff, decide_eq_true_eq, decide_eq_true_eq]; omega
            · rw [if_neg (show ¬ (c.toNat : Int) > 0 by omega), decide_eq_false h5]; rfl
          | c :: d :: r =>
            rw [if_neg (by simp only [List.length_cons]; omega)]; rfl
        | false => rw [if_neg (by decide)]; rfl
      · rw [if_neg (show ¬ (kd : Int) = 2 by omega), if_neg h2]
        by_cases h3 : kd = 3
        · rw [if_pos (show (kd : Int) = 3 by omega), if_pos h3]
          congr 1
          rw [Bool.eq_iff_iff, decide_eq_true_eq, decide_eq_true_eq]; omega
        · rw [if_neg (show ¬ (kd : Int) = 3 by omega), if_neg h3]
          by_cases h4 : kd = 4
          · rw [if_pos (show (kd : Int) = 4 by omega), Option.bind_some, decide_eq_true h4, Bool.and_true]
          · rw [if_neg (show ¬ (kd : Int) = 4 by omega), decide_eq_false h4, Bool.and_false, Bool.and_false]
  have mid : ∀ x10 : Bool, (x10 = true ↔ ¬ (1 ≤ ix ∧ 1 ≤ tm)) →
      wapentakeref04_Right.j0 (k + 1 + 1) x10 (ix : Int) (tm : Int) (kd : Int) (sl : Int) (c0.toNat : Int) (c1.toNat : Int) (c2.toNat : Int) (c3.toNat : Int) (c4.toNat : Int) (c5.toNat : Int) (c6.toNat : Int) (c7.toNat : Int) (mkB b) =
        some (Ent.rightB ⟨ix, tm, kd, sl, [c0, c1, c2, c3, c4, c5, c6, c7], b⟩) := by
    intro x10 hx
    simp only [wapentakeref04_Right.j0]
    unfold Ent.rightB
    dsimp only
    rw [ht]
    by_cases h0 : 1 ≤ ix ∧ 1 ≤ tm
    · rw [if_neg (fun h => hx.1 h h0), decide_eq_true h0.1, decide_eq_true h0.2, Bool.true_and, Bool.true_and]
      by_cases h1 : kd = 1
      · rw [if_pos (show (kd : Int) = 1 by omega)]
        exact tail _ (by rw [beq_iff_eq]; omega)
      · rw [if_neg (show ¬ (kd : Int) = 1 by omega)]
        exact tail _ (by rw [beq_iff_eq]; omega)
    · rw [if_pos (hx.2 h0)]
      congr 1
      symm
      by_cases h1 : 1 ≤ ix
      · rw [decide_eq_true h1, decide_eq_false (fun h => h0 ⟨h1, h⟩)]; rfl
      · rw [decide_eq_false h1]; rfl
  unfold wapentakeref04_Right.f
  by_cases h : (ix : Int) = 0
  · rw [if_pos h]; exact mid _ (by simp; omega)
  · rw [if_neg h]; exact mid _ (by simp; omega)
end Go.Proofs.Ytimfgflcflhfcaa.P
