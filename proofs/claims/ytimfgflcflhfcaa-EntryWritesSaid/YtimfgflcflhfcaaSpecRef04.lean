/- What the printed functions Right and Write of the reference of entry come to. -/
import Derived.Test.YtimfgflcflhfcaaSpecEntW
import Derived.Test.YtimfgflcflhfcaaSpecRef
import Derived.Test.YtimfgflcflhfcaaSpecS
import Derived.Test.YtimfgflcflhfcaaPx15
namespace Go.Proofs.Ytimfgflcflhfcaa.P
set_option linter.unusedVariables false
set_option linter.unusedSimpArgs false
open Go.RowKit Go.Proofs.YtimfgflcflhfcaaW.PrintWords Go.Proofs.YtimfgflcflhfcaaW.PrintLast Go.Proofs.YtimfgflcflhfcaaW.PrintMore Go.Proofs.Ytimfgflcflhfcaa.Num
theorem plain_spec (ix tm kd sl : Nat) (c0 c1 c2 c3 c4 c5 c6 c7 : UInt8) (b : ByteArray) :
    wapentakeref04_plain.f (ix : Int) (tm : Int) (kd : Int) (sl : Int) (c0.toNat : Int) (c1.toNat : Int) (c2.toNat : Int) (c3.toNat : Int) (c4.toNat : Int) (c5.toNat : Int) (c6.toNat : Int) (c7.toNat : Int) b =
      some (decide (sl = 0) && [c0, c1, c2, c3, c4, c5, c6, c7].all (· == 0)) := by
  unfold wapentakeref04_plain.f
  congr 1
  have hz : ∀ c : UInt8, ((c.toNat : Int) = 0) ↔ (c == 0) = true := fun c => by rw [← u8z, beq_iff_eq]
  rw [Bool.eq_iff_iff, decide_eq_true_eq]
  simp only [hz, List.all_cons, List.all_nil, Bool.and_true, Bool.and_eq_true, decide_eq_true_eq]
  constructor
  · rintro ⟨h0, h1, h2, h3, h4, h5, h6, h7, h8⟩
    exact ⟨by omega, h0, h1, h2, h3, h4, h5, h6, h7⟩
  · rintro ⟨h8, h0, h1, h2, h3, h4, h5, h6, h7⟩
    exact ⟨h0, h1, h2, h3, h4, h5, h6, h7, by omega⟩
theorem refRight_spec (ix tm kd sl : Nat) (c0 c1 c2 c3 c4 c5 c6 c7 : UInt8) (b : List UInt8) (k : Nat) (hk : 2 ≤ k) :
    wapentakeref04_Right.f k (ix : Int) (tm : Int) (kd : Int) (sl : Int) (c0.toNat : Int) (c1.toNat : Int) (c2.toNat : Int) (c3.toNat : Int) (c4.toNat : Int) (c5.toNat : Int) (c6.toNat : Int) (c7.toNat : Int) (mkB b) =
      some (Ent.rightB ⟨ix, tm, kd, sl, [c0, c1, c2, c3, c4, c5, c6, c7], b⟩) := by
  obtain ⟨k, rfl⟩ : ∃ m, k = m + 2 := ⟨k - 2, by omega⟩
  generalize ht : [c0, c1, c2, c3, c4, c5, c6, c7].all (· == 0) = z
  have hp := plain_spec ix tm kd sl c0 c1 c2 c3 c4 c5 c6 c7 (mkB b)
  rw [ht] at hp
  have tail : ∀ x13 : Bool, (x13 = true ↔ (kd = 1 ∨ kd = 5)) →
      wapentakeref04_Right.j1 (k + 1) (kd : Int) x13 (ix : Int) (tm : Int) (kd : Int) (sl : Int) (c0.toNat : Int) (c1.toNat : Int) (c2.toNat : Int) (c3.toNat : Int) (c4.toNat : Int) (c5.toNat : Int) (c6.toNat : Int) (c7.toNat : Int) (mkB b) =
        some (if kd = 3 then decide (sl ≤ 3) else decide (sl = 0) && (z && (if kd = 1 ∨ kd = 5 then b.isEmpty else if kd = 2 then oneB b else decide (kd = 4)))) := by
    intro x13 hx
    simp only [wapentakeref04_Right.j1]
    rw [hp]
    by_cases h1 : kd = 1 ∨ kd = 5
    · rw [if_pos (hx.2 h1), if_neg (show ¬ kd = 3 by omega), if_pos h1, Option.bind_some, ← Bool.and_assoc]
      cases hz : (decide (sl = 0) && z) with
      | true =>
        rw [if_pos rfl, Bool.true_and, mkB_size]
        congr 1
        cases b with
        | nil => rfl
        | cons c r => rw [List.isEmpty_cons]; exact beq_eq_false_iff_ne.2 (by simp only [List.length_cons]; omega)
      | false => rw [if_neg (by decide)]; rfl
    · rw [if_neg (fun h => h1 (hx.1 h)), if_neg h1]
      by_cases h2 : kd = 2
      · rw [if_pos (show (kd : Int) = 2 by omega), if_neg (show ¬ kd = 3 by omega), if_pos h2, Option.bind_some, ← Bool.and_assoc]
        cases hz : (decide (sl = 0) && z) with
        | true =>
          rw [if_pos rfl, Bool.true_and, mkB_size]
          match b with
          | [] => rw [if_neg (by simp)]; rfl
          | [c] =>
            have e : (([c] : List UInt8)[(0 : Int).toNat]'(by simp)) = c := rfl
            rw [if_pos (by simp), if_pos (by simp), bt_mkB _ _ (by simp), e]
            simp only [oneB]
            by_cases h5 : 1 ≤ c.toNat
            · rw [if_pos (show (c.toNat : Int) > 0 by omega), decide_eq_true h5, Bool.true_and]
              congr 1
              rw [Bool.eq_iff_iff, decide_eq_true_eq, decide_eq_true_eq]; omega
            · rw [if_neg (show ¬ (c.toNat : Int) > 0 by omega), decide_eq_false h5]; rfl
          | c :: d :: r =>
            rw [if_neg (by simp only [List.length_cons]; omega)]; rfl
        | false => rw [if_neg (by decide)]; rfl
      · rw [if_neg (show ¬ (kd : Int) = 2 by omega), if_neg h2]
        by_cases h3 : kd = 3
        · rw [if_pos (show (kd : Int) = 3 by omega), if_pos h3]
          congr 1
          rw [Bool.eq_iff_iff, decide_eq_true_eq, decide_eq_true_eq]; omega
        · rw [if_neg (show ¬ (kd : Int) = 3 by omega), if_neg h3]
          by_cases h4 : kd = 4
          · rw [if_pos (show (kd : Int) = 4 by omega), Option.bind_some, decide_eq_true h4, Bool.and_true]
          · rw [if_neg (show ¬ (kd : Int) = 4 by omega), decide_eq_false h4, Bool.and_false, Bool.and_false]
  have mid : ∀ x10 : Bool, (x10 = true ↔ ¬ (1 ≤ ix ∧ 1 ≤ tm)) →
      wapentakeref04_Right.j0 (k + 1 + 1) x10 (ix : Int) (tm : Int) (kd : Int) (sl : Int) (c0.toNat : Int) (c1.toNat : Int) (c2.toNat : Int) (c3.toNat : Int) (c4.toNat : Int) (c5.toNat : Int) (c6.toNat : Int) (c7.toNat : Int) (mkB b) =
        some (Ent.rightB ⟨ix, tm, kd, sl, [c0, c1, c2, c3, c4, c5, c6, c7], b⟩) := by
    intro x10 hx
    simp only [wapentakeref04_Right.j0]
    unfold Ent.rightB
    dsimp only
    rw [ht]
    by_cases h0 : 1 ≤ ix ∧ 1 ≤ tm
    · rw [if_neg (fun h => hx.1 h h0), decide_eq_true h0.1, decide_eq_true h0.2, Bool.true_and, Bool.true_and]
      by_cases h1 : kd = 1
      · rw [if_pos (show (kd : Int) = 1 by omega)]
        exact tail _ (by rw [beq_iff_eq]; omega)
      · rw [if_neg (show ¬ (kd : Int) = 1 by omega)]
        exact tail _ (by rw [beq_iff_eq]; omega)
    · rw [if_pos (hx.2 h0)]
      congr 1
      symm
      by_cases h1 : 1 ≤ ix
      · rw [decide_eq_true h1, decide_eq_false (fun h => h0 ⟨h1, h⟩)]; rfl
      · rw [decide_eq_false h1]; rfl
  unfold wapentakeref04_Right.f
  by_cases h : (ix : Int) = 0
  · rw [if_pos h]; exact mid _ (by simp; omega)
  · rw [if_neg h]; exact mid _ (by simp; omega)
theorem refS_one (b : List UInt8) (hb : b.length ≤ 1000000000) (k : Nat) (hk : 13 ≤ k) : wapentakeref01_S.f k [mkB b] = some (mkB (rowS b)) := by
  have h := refS_spec [b] k (by simp) (by simp [total]; omega) (by simpa using hk)
  simpa [numS] using h
theorem one_u8 (c : UInt8) : strOfNums [(c.toNat : Int)] = mkB [c] := by rw [strOf_mkB]; simp [by_]
theorem refWrite_tok (ix tm kd sl : Nat) (c0 c1 c2 c3 c4 c5 c6 c7 : UInt8) (b : List UInt8) (s : List UInt8) (k : Nat) (hs : s.length ≤ 100) (hb : b.length ≤ 1000000000) (hk : 13 ≤ k) :
    wapentakeref04_Write.l0 (k + 9) (mkB s) 0 (ix : Int) (tm : Int) (kd : Int) (sl : Int) (c0.toNat : Int) (c1.toNat : Int) (c2.toNat : Int) (c3.toNat : Int) (c4.toNat : Int) (c5.toNat : Int) (c6.toNat : Int) (c7.toNat : Int) (mkB b) =
      some (mkB (s ++ ([c0, c1, c2, c3, c4, c5, c6, c7] ++ rowS b))) := by
  have hl := rowS_length b (by omega)
  have w1 : wrap64 (0 + 1) = 1 := by unfold wrap64; omega
  have w2 : wrap64 (1 + 1) = 2 := by unfold wrap64; omega
  have w3 : wrap64 (2 + 1) = 3 := by unfold wrap64; omega
  have w4 : wrap64 (3 + 1) = 4 := by unfold wrap64; omega
  have w5 : wrap64 (4 + 1) = 5 := by unfold wrap64; omega
  have w6 : wrap64 (5 + 1) = 6 := by unfold wrap64; omega
  have w7 : wrap64 (6 + 1) = 7 := by unfold wrap64; omega
  have w8 : wrap64 (7 + 1) = 8 := by unfold wrap64; omega
  have hz : ∀ (t : List UInt8) (c : UInt8), t.length ≤ 200 → (mkB t).size + (mkB [c]).size ≤ 9223372036854775807 := fun t c h => by rw [mkB_size, mkB_size]; simp only [List.length_cons, List.length_nil]; omega
  have L : ∀ (t : List UInt8) (c : UInt8), (t ++ [c]).length = t.length + 1 := fun t c => by simp
  rw [wapentakeref04_Write.l0, if_pos (by decide), if_pos (by decide), if_pos rfl, Option.bind_some, one_u8, if_pos (hz _ _ (by omega)), mkB_append, w1]
  rw [wapentakeref04_Write.l0, if_pos (by decide), if_pos (by decide), if_neg (by decide), if_pos rfl, Option.bind_some, one_u8, if_pos (hz _ _ (by simp only [L]; omega)), mkB_append, w2]
  rw [wapentakeref04_Write.l0, if_pos (by decide), if_pos (by decide), if_neg (by decide), if_neg (by decide), if_pos rfl, Option.bind_some, one_u8, if_pos (hz _ _ (by simp only [L]; omega)), mkB_append, w3]
  rw [wapentakeref04_Write.l0, if_pos (by decide), if_pos (by decide), if_neg (by decide), if_neg (by decide), if_neg (by decide), if_pos rfl, Option.bind_some, one_u8, if_pos (hz _ _ (by simp only [L]; omega)), mkB_append, w4]
  rw [wapentakeref04_Write.l0, if_pos (by decide), if_pos (by decide), if_neg (by decide), if_neg (by decide), if_neg (by decide), if_neg (by decide), if_pos rfl, Option.bind_some, one_u8, if_pos (hz _ _ (by simp only [L]; omega)), mkB_append, w5]
  rw [wapentakeref04_Write.l0, if_pos (by decide), if_pos (by decide), if_neg (by decide), if_neg (by decide), if_neg (by decide), if_neg (by decide), if_neg (by decide), if_pos rfl, Option.bind_some, one_u8, if_pos (hz _ _ (by simp only [L]; omega)), mkB_append, w6]
  rw [wapentakeref04_Write.l0, if_pos (by decide), if_pos (by decide), if_neg (by decide), if_neg (by decide), if_neg (by decide), if_neg (by decide), if_neg (by decide), if_neg (by decide), if_pos rfl, Option.bind_some, one_u8, if_pos (hz _ _ (by simp only [L]; omega)), mkB_append, w7]
  rw [wapentakeref04_Write.l0, if_pos (by decide), if_pos (by decide), if_neg (by decide), if_neg (by decide), if_neg (by decide), if_neg (by decide), if_neg (by decide), if_neg (by decide), if_neg (by decide), if_pos rfl, Option.bind_some, one_u8, if_pos (hz _ _ (by simp only [L]; omega)), mkB_append, w8]
  rw [wapentakeref04_Write.l0, if_neg (by decide), refS_one b hb k hk, Option.bind_some, mkB_size, mkB_size, if_pos (by simp only [L]; omega), mkB_append]
  congr 2
  simp only [List.append_assoc, List.cons_append, List.nil_append]
theorem refWrite_spec (ix tm kd sl : Nat) (c0 c1 c2 c3 c4 c5 c6 c7 : UInt8) (b : List UInt8) (k : Nat) (hix : ix < 18446744073709551616) (htm : tm < 18446744073709551616) (hb : b.length ≤ 1000000000) (hk : 40 ≤ k) :
    wapentakeref04_Write.f k (ix : Int) (tm : Int) (kd : Int) (sl : Int) (c0.toNat : Int) (c1.toNat : Int) (c2.toNat : Int) (c3.toNat : Int) (c4.toNat : Int) (c5.toNat : Int) (c6.toNat : Int) (c7.toNat : Int) (mkB b) =
      some (mkB (Ent.out ⟨ix, tm, kd, sl, [c0, c1, c2, c3, c4, c5, c6, c7], b⟩)) := by
  obtain ⟨k, rfl⟩ : ∃ m, k = m + 13 + 9 + 1 := ⟨k - 23, by omega⟩
  unfold wapentakeref04_Write.f
  rw [refRight_spec ix tm kd sl c0 c1 c2 c3 c4 c5 c6 c7 b _ (by omega), Option.bind_some]
  unfold Ent.out
  by_cases hr : Ent.rightB ⟨ix, tm, kd, sl, [c0, c1, c2, c3, c4, c5, c6, c7], b⟩ = true
  · have hkd : strOfNums [(kd : Int)] = mkB [by_ kd] := rfl
    have hsl : strOfNums [(sl : Int)] = mkB [by_ sl] := rfl
    have hg1 := grp_len_le hix
    have hg2 := grp_len_le htm
    have hl := rowS_length b (by omega)
    have L1 : ([by_ kd] ++ grp ix).length = 1 + (grp ix).length := by simp; omega
    have L2 : ([by_ kd] ++ grp ix ++ grp tm).length = 1 + (grp ix).length + (grp tm).length := by simp; omega
    rw [if_pos hr, if_pos hr, Option.bind_some, one_spec ix _ hix (by omega), Option.bind_some, hkd, mkB_size, mkB_size, if_pos (by simp only [List.length_cons, List.length_nil]; omega), one_spec tm _ htm (by omega), Option.bind_some,
      mkB_append, mkB_size, mkB_size, if_pos (by rw [L1]; omega), mkB_append]
    have key : ∀ x22 : Bool, (x22 = true ↔ (kd = 2 ∨ kd = 4)) →
        wapentakeref04_Write.j0 (k + 13 + 9 + 1) (mkB ([by_ kd] ++ grp ix ++ grp tm)) (kd : Int) x22 (ix : Int) (tm : Int) (kd : Int) (sl : Int) (c0.toNat : Int) (c1.toNat : Int) (c2.toNat : Int) (c3.toNat : Int) (c4.toNat : Int) (c5.toNat : Int) (c6.toNat : Int) (c7.toNat : Int) (mkB b) =
          some (mkB (Ent.bytes ⟨ix, tm, kd, sl, [c0, c1, c2, c3, c4, c5, c6, c7], b⟩)) := by
      intro x22 hx
      rw [wapentakeref04_Write.j0]
      unfold Ent.bytes
      dsimp only
      by_cases h2 : kd = 2 ∨ kd = 4
      · rw [if_pos (hx.2 h2), refS_one b hb _ (by omega), Option.bind_some, mkB_size, mkB_size, if_pos (by rw [L2]; omega), mkB_append, if_neg (show ¬ kd = 3 by omega), if_neg (show ¬ (kd = 1 ∨ kd = 5) by omega)]
        congr 2
        simp only [List.append_assoc, List.cons_append, List.nil_append]
      · rw [if_neg (fun h => h2 (hx.1 h))]
        by_cases h3 : kd = 3
        · rw [if_pos (show (kd : Int) = 3 by omega), if_pos h3, if_neg (show ¬ (kd = 1 ∨ kd = 5) by omega), Option.bind_some, hsl, mkB_size, mkB_size, if_pos (by rw [L2]; simp only [List.length_cons, List.length_nil]; omega), mkB_append,
            refWrite_tok ix tm kd sl c0 c1 c2 c3 c4 c5 c6 c7 b _ (k + 13) (by rw [List.length_append, L2]; simp only [List.length_cons, List.length_nil]; omega) hb (by omega)]
          congr 2
          simp only [List.append_assoc, List.cons_append, List.nil_append]
        · rw [if_neg (show ¬ (kd : Int) = 3 by omega), if_neg h3]
          have h15 : kd = 1 ∨ kd = 5 := by
            have h := hr
            unfold Ent.rightB at h
            dsimp only at h
            rw [if_neg h3] at h
            simp only [Bool.and_eq_true] at h
            have h := h.2.2.2.2
            by_cases q : kd = 1 ∨ kd = 5
            · exact q
            · rw [if_neg q, if_neg (fun h => h2 (.inl h)), decide_eq_true_eq] at h
              exact absurd h (fun h => h2 (.inr h))
          rw [if_pos h15]
          congr 2
          simp only [List.append_assoc, List.cons_append, List.nil_append, List.append_nil]
    by_cases h2 : kd = 2
    · rw [if_pos (show (kd : Int) = 2 by omega)]; exact key _ (by rw [beq_iff_eq]; omega)
    · rw [if_neg (show ¬ (kd : Int) = 2 by omega)]; exact key _ (by rw [beq_iff_eq]; omega)
  · rw [if_neg hr, if_neg hr]; rfl
end Go.Proofs.Ytimfgflcflhfcaa.P
