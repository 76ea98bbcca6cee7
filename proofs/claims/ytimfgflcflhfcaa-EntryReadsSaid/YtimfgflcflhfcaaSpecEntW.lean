/- What the printed functions Right and Write of package entry come to. -/
import Derived.Test.YtimfgflcflhfcaaSpecEnt
import Derived.Test.YtimfgflcflhfcaaSpecS
import Derived.Test.YtimfgflcflhfcaaPx5
namespace Go.Proofs.Ytimfgflcflhfcaa.P
set_option linter.unusedVariables false
set_option linter.unusedSimpArgs false
open Go.RowKit Go.Proofs.YtimfgflcflhfcaaW.PrintWords Go.Proofs.YtimfgflcflhfcaaW.PrintLast Go.Proofs.YtimfgflcflhfcaaW.PrintMore Go.Proofs.Ytimfgflcflhfcaa.Num
theorem up_rounds {α : Type} {g : Nat → Option α} (hm : ∀ k, LeO (g k) (g (k + 1))) {k : Nat} {r : α} (h : g k = some r) : ∀ m, k ≤ m → g m = some r := by
  intro m hkm
  obtain ⟨d, rfl⟩ : ∃ d, m = k + d := ⟨m - k, by omega⟩
  clear hkm
  induction d with
  | zero => exact h
  | succ d ih => exact hm (k + d) r ih
theorem strOf_mkB (xs : List Int) : strOfNums xs = mkB (xs.map fun n => by_ n.toNat) := rfl
theorem u8z (c : UInt8) : ((c.toNat : Int) == 0) = (c == 0) := by
  rw [Bool.eq_iff_iff, beq_iff_eq, beq_iff_eq]
  constructor
  · intro h; apply UInt8.toNat_inj.1; show c.toNat = 0; omega
  · rintro rfl; rfl
theorem map_by (c0 c1 c2 c3 c4 c5 c6 c7 : UInt8) : ([(c0.toNat : Int), (c1.toNat : Int), (c2.toNat : Int), (c3.toNat : Int), (c4.toNat : Int), (c5.toNat : Int), (c6.toNat : Int), (c7.toNat : Int)].map fun n => by_ n.toNat) = [c0, c1, c2, c3, c4, c5, c6, c7] := by
  simp [by_]
/-- what is asked of a body of one byte -/
def oneB (l : List UInt8) : Bool := match l with
  | [b] => decide (1 ≤ b.toNat) && decide (b.toNat ≤ 31)
  | _ => false
def Ent.rightB (e : Ent) : Bool :=
  decide (1 ≤ e.ix) && (decide (1 ≤ e.tm) && (if e.kd = 3 then decide (e.sl ≤ 3) else decide (e.sl = 0) && (e.tk.all (· == 0) &&
    (if e.kd = 1 ∨ e.kd = 5 then e.body.isEmpty else if e.kd = 2 then oneB e.body else decide (e.kd = 4)))))
theorem all_zero (l : List UInt8) : l.all (· == 0) = true ↔ l = List.replicate l.length 0 := by
  induction l with
  | nil => simp
  | cons a l ih =>
    simp only [List.all_cons, Bool.and_eq_true, beq_iff_eq, List.length_cons, List.replicate_succ, List.cons.injEq, ih]
theorem oneB_iff (l : List UInt8) : oneB l = true ↔ ∃ b : UInt8, l = [b] ∧ 1 ≤ b.toNat ∧ b.toNat ≤ 31 := by
  match l with
  | [] => simp [oneB]
  | [b] => simp [oneB]
  | _ :: _ :: _ => simp [oneB]
theorem Ent.rightB_iff (e : Ent) (h : e.tk.length = 8) : e.rightB = true ↔ e.right := by
  unfold Ent.rightB Ent.right
  simp only [Bool.and_eq_true, decide_eq_true_eq]
  refine and_congr_right fun _ => and_congr_right fun _ => ?_
  by_cases h3 : e.kd = 3
  · rw [if_pos h3, if_pos h3, decide_eq_true_eq]
  · rw [if_neg h3, if_neg h3, Bool.and_eq_true, Bool.and_eq_true, decide_eq_true_eq, all_zero, h]
    refine and_congr_right fun _ => and_congr_right fun _ => ?_
    by_cases h1 : e.kd = 1 ∨ e.kd = 5
    · rw [if_pos h1, if_pos h1, List.isEmpty_iff]
    · rw [if_neg h1, if_neg h1]
      by_cases h2 : e.kd = 2
      · rw [if_pos h2, if_pos h2, oneB_iff]
      · rw [if_neg h2, if_neg h2, decide_eq_true_eq]
theorem entRight_spec (ix tm kd sl : Nat) (c0 c1 c2 c3 c4 c5 c6 c7 : UInt8) (b : List UInt8) (k : Nat) (hk : 3 ≤ k) :
    entry_Right.f k (ix : Int) (tm : Int) (kd : Int) (sl : Int) (c0.toNat : Int) (c1.toNat : Int) (c2.toNat : Int) (c3.toNat : Int) (c4.toNat : Int) (c5.toNat : Int) (c6.toNat : Int) (c7.toNat : Int) (mkB b) =
      some (Ent.rightB ⟨ix, tm, kd, sl, [c0, c1, c2, c3, c4, c5, c6, c7], b⟩) := by
  obtain ⟨k, rfl⟩ : ∃ m, k = m + 3 := ⟨k - 3, by omega⟩
  have tail : ∀ x25 : Bool, x25 = !([c0, c1, c2, c3, c4, c5, c6, c7].all (· == 0) && decide (sl = 0)) → kd ≠ 3 →
      entry_Right.j1 (k + 1 + 1) x25 (ix : Int) (tm : Int) (kd : Int) (sl : Int) (c0.toNat : Int) (c1.toNat : Int) (c2.toNat : Int) (c3.toNat : Int) (c4.toNat : Int) (c5.toNat : Int) (c6.toNat : Int) (c7.toNat : Int) (mkB b) =
        some (decide (sl = 0) && ([c0, c1, c2, c3, c4, c5, c6, c7].all (· == 0) && (if kd = 1 ∨ kd = 5 then b.isEmpty else if kd = 2 then oneB b else decide (kd = 4)))) := by
    intro x25 hx h3
    simp only [entry_Right.j1]
    by_cases hz : ([c0, c1, c2, c3, c4, c5, c6, c7].all (· == 0) && decide (sl = 0)) = true
    · rw [hz] at hx
      subst hx
      rw [Bool.and_eq_true] at hz
      rw [if_neg (by decide), hz.1, hz.2]
      have key : ∀ x28 : Bool, (x28 = true ↔ (kd = 1 ∨ kd = 5)) →
          entry_Right.j2 (k + 1) (kd : Int) x28 (ix : Int) (tm : Int) (kd : Int) (sl : Int) (c0.toNat : Int) (c1.toNat : Int) (c2.toNat : Int) (c3.toNat : Int) (c4.toNat : Int) (c5.toNat : Int) (c6.toNat : Int) (c7.toNat : Int) (mkB b) =
            some (if kd = 1 ∨ kd = 5 then b.isEmpty else if kd = 2 then oneB b else decide (kd = 4)) := by
        intro x28 hx
        simp only [entry_Right.j2]
        by_cases h1 : kd = 1 ∨ kd = 5
        · rw [if_pos (hx.2 h1), if_pos h1, mkB_toList]
        · rw [if_neg (fun h => h1 (hx.1 h)), if_neg h1]
          by_cases h2 : kd = 2
          · rw [if_pos (show (kd : Int) = 2 by omega), if_pos h2, mkB_size]
            match b with
            | [] => rw [if_neg (by simp)]; rfl
            | [c] =>
              have e : (([c] : List UInt8)[(0 : Int).toNat]'(by simp)) = c := rfl
              rw [if_pos (by simp), if_pos (by simp), bt_mkB _ _ (by simp), e]
              simp only [oneB]
              by_cases h5 : 1 ≤ c.toNat
              · rw [if_pos (show (c.toNat : Int) ≥ 1 by omega), decide_eq_true h5, Bool.true_and]
                congr 1
                rw [Bool.eq_iff_iff, decide_eq_true_eq, decide_eq_true_eq]; omega
              · rw [if_neg (show ¬ (c.toNat : Int) ≥ 1 by omega), decide_eq_false h5]; rfl
            | c :: d :: r =>
              rw [if_neg (by simp only [List.length_cons]; omega)]; rfl
          · rw [if_neg (by omega), if_neg h2]
            congr 1
            rw [Bool.eq_iff_iff, decide_eq_true_eq, beq_iff_eq]; omega
      simp only [Bool.true_and]
      by_cases h1 : kd = 1
      · rw [if_pos (by omega)]
        exact key _ (by rw [beq_iff_eq]; omega)
      · rw [if_neg (by omega)]
        exact key _ (by rw [beq_iff_eq]; omega)
    · rw [Bool.not_eq_true] at hz
      rw [hz] at hx
      subst hx
      rw [if_pos (by rfl)]
      congr 1
      symm
      rw [← Bool.and_assoc, Bool.and_comm (decide (sl = 0)), hz]; rfl
  have mid : ∀ x10 : Bool, (x10 = true ↔ ¬ (1 ≤ ix ∧ 1 ≤ tm)) →
      entry_Right.j0 (k + 1 + 1 + 1) x10 (ix : Int) (tm : Int) (kd : Int) (sl : Int) (c0.toNat : Int) (c1.toNat : Int) (c2.toNat : Int) (c3.toNat : Int) (c4.toNat : Int) (c5.toNat : Int) (c6.toNat : Int) (c7.toNat : Int) (mkB b) =
        some (Ent.rightB ⟨ix, tm, kd, sl, [c0, c1, c2, c3, c4, c5, c6, c7], b⟩) := by
    intro x10 hx
    simp only [entry_Right.j0]
    unfold Ent.rightB
    dsimp only
    by_cases h0 : 1 ≤ ix ∧ 1 ≤ tm
    · rw [if_neg (fun h => hx.1 h h0), decide_eq_true h0.1, decide_eq_true h0.2, Bool.true_and, Bool.true_and]
      by_cases h3 : kd = 3
      · rw [if_pos (by omega), if_pos h3]
        congr 1
        rw [Bool.eq_iff_iff, decide_eq_true_eq, decide_eq_true_eq]; omega
      · rw [if_neg (by omega), if_neg h3]
        by_cases hs : sl = 0
        · rw [if_pos (by omega)]
          refine tail _ ?_ h3
          simp only [u8z, List.all_cons, List.all_nil, hs, decide_true, Bool.and_true, Bool.not_and]
        · rw [if_neg (by omega)]
          refine tail _ ?_ h3
          rw [decide_eq_false hs, Bool.and_false]; rfl
    · rw [if_pos (hx.2 h0)]
      congr 1
      symm
      by_cases h1 : 1 ≤ ix
      · rw [decide_eq_true h1, decide_eq_false (fun h => h0 ⟨h1, h⟩)]; rfl
      · rw [decide_eq_false h1]; rfl
  unfold entry_Right.f
  by_cases h : (ix : Int) < 1
  · rw [if_pos h]; exact mid _ (by simp; omega)
  · rw [if_neg h]; exact mid _ (by simp; omega)
theorem V_two (n m : Nat) (hn : n < 18446744073709551616) (hm : m < 18446744073709551616) : num_V.f [(n : Int), (m : Int)] = some (mkB (grp n ++ grp m)) := by
  rw [V_spec _ (by simp) (by simp; omega)]
  simp [numV]
theorem numS_one (b : List UInt8) (hb : b.length ≤ 1000000000) (k : Nat) (hk : 2 ≤ k) : num_S.f k [mkB b] = some (mkB (rowS b)) := by
  have h := numS_spec [b] k (by simp) (by simp [total]; omega) (by simpa using hk)
  simpa [numS] using h
/-- the bytes that Write tells -/
def Ent.out (e : Ent) : List UInt8 := if e.rightB = true then e.bytes else []
theorem entWrite_spec (ix tm kd sl : Nat) (c0 c1 c2 c3 c4 c5 c6 c7 : UInt8) (b : List UInt8) (k : Nat) (hix : ix < 18446744073709551616) (htm : tm < 18446744073709551616) (hb : b.length ≤ 1000000000) (hk : 4 ≤ k) :
    entry_Write.f k (ix : Int) (tm : Int) (kd : Int) (sl : Int) (c0.toNat : Int) (c1.toNat : Int) (c2.toNat : Int) (c3.toNat : Int) (c4.toNat : Int) (c5.toNat : Int) (c6.toNat : Int) (c7.toNat : Int) (mkB b) =
      some (mkB (Ent.out ⟨ix, tm, kd, sl, [c0, c1, c2, c3, c4, c5, c6, c7], b⟩)) := by
  unfold entry_Write.f
  rw [entRight_spec ix tm kd sl c0 c1 c2 c3 c4 c5 c6 c7 b k (by omega), Option.bind_some]
  unfold Ent.out
  by_cases hr : Ent.rightB ⟨ix, tm, kd, sl, [c0, c1, c2, c3, c4, c5, c6, c7], b⟩ = true
  · rw [if_pos hr, if_pos hr, Option.bind_some, V_two ix tm hix htm, Option.bind_some]
    have hg1 := grp_len_le hix
    have hg2 := grp_len_le htm
    have tail : ∀ s : List UInt8, s.length ≤ 100 → entry_Write.j0 k (mkB s) (ix : Int) (tm : Int) (kd : Int) (sl : Int) (c0.toNat : Int) (c1.toNat : Int) (c2.toNat : Int) (c3.toNat : Int) (c4.toNat : Int) (c5.toNat : Int) (c6.toNat : Int) (c7.toNat : Int) (mkB b) =
        some (mkB (s ++ if kd = 1 ∨ kd = 5 then [] else rowS b)) := by
      intro s hs
      obtain ⟨k, rfl⟩ : ∃ m, k = m + 1 := ⟨k - 1, by omega⟩
      simp only [entry_Write.j0]
      by_cases h1 : kd = 1
      · rw [if_pos (by omega), if_pos (.inl h1), List.append_nil]
      · rw [if_neg (by omega)]
        by_cases h5 : kd = 5
        · rw [if_pos (by omega), if_pos (.inr h5), List.append_nil]
        · have hl := rowS_length b (by omega)
          rw [if_neg (by omega), if_neg (by omega), numS_one b hb k (by omega), Option.bind_some, mkB_size, mkB_size, if_pos (by omega), mkB_append]
    have hkd : strOfNums [(kd : Int)] = mkB [by_ kd] := rfl
    have hsl : strOfNums [(sl : Int)] = mkB [by_ sl] := rfl
    have htk : strOfNums [(c0.toNat : Int), (c1.toNat : Int), (c2.toNat : Int), (c3.toNat : Int), (c4.toNat : Int), (c5.toNat : Int), (c6.toNat : Int), (c7.toNat : Int)] = mkB [c0, c1, c2, c3, c4, c5, c6, c7] := by rw [strOf_mkB, map_by]
    rw [hkd, mkB_size, mkB_size, if_pos (by simp only [List.length_append, List.length_cons, List.length_nil]; omega), mkB_append]
    unfold Ent.bytes
    dsimp only
    by_cases h3 : kd = 3
    · rw [if_pos (by omega), if_pos h3, Option.bind_some, hsl, htk, mkB_size, mkB_size, if_pos (by simp only [List.length_cons, List.length_nil]; omega), mkB_append, mkB_size, mkB_size,
        if_pos (by simp only [List.length_append, List.length_cons, List.length_nil]; omega), mkB_append, tail _ (by simp only [List.length_append, List.length_cons, List.length_nil]; omega)]
      simp only [List.append_assoc, List.cons_append, List.nil_append]
    · rw [if_neg (by omega), if_neg h3, tail _ (by simp only [List.length_append, List.length_cons, List.length_nil]; omega)]
      simp only [List.append_assoc, List.cons_append, List.nil_append]
  · rw [if_neg hr, if_neg hr]; rfl
end Go.Proofs.Ytimfgflcflhfcaa.P
