/- What the printed functions One, V, ReadV of the reference of num come to. -/
import Derived.Test.YtimfgflcflhfcaaSpecNum
import Derived.Test.YtimfgflcflhfcaaPx14
import Derived.Test.YtimfgflcflhfcaaPx17
namespace Go.Proofs.Ytimfgflcflhfcaa.P
set_option linter.unusedVariables false
set_option linter.unusedSimpArgs false
open Go.RowKit Go.Proofs.YtimfgflcflhfcaaW.PrintWords Go.Proofs.YtimfgflcflhfcaaW.PrintLast Go.Proofs.YtimfgflcflhfcaaW.PrintMore Go.Proofs.Ytimfgflcflhfcaa.Num
theorem one_byte (n : Nat) (hn : n < 256) : strOfNums [(n : Int)] = mkB [by_ n] := by
  simp [strOfNums, mkB, by_]
theorem one_loop (d : Nat) : ∀ (n k : Nat) (t : List UInt8), n < 128 ^ (d + 1) → n < 18446744073709551616 → t.length + d ≤ 1000 → d + 1 ≤ k →
    wapentakeref01_One.l0 k (n : Int) (mkB t) = some (mkB (pre_ (n / 128) ++ t)) := by
  induction d with
  | zero =>
    intro n k t hn h64 ht hk
    obtain ⟨k, rfl⟩ : ∃ m, k = m + 1 := ⟨k - 1, by omega⟩
    have hn' : n < 128 := by simpa using hn
    simp only [wapentakeref01_One.l0]
    rw [if_neg (by omega), show n / 128 = 0 from by omega, pre_zero]; rfl
  | succ d ih =>
    intro n k t hn h64 ht hk
    obtain ⟨k, rfl⟩ : ∃ m, k = m + 1 := ⟨k - 1, by omega⟩
    simp only [wapentakeref01_One.l0]
    by_cases h : n ≤ 127
    · rw [if_neg (by omega), show n / 128 = 0 from by omega, pre_zero]; rfl
    · rw [if_pos (by omega)]
      have e1 : Int.tdiv (n : Int) 128 = ((n / 128 : Nat) : Int) := by rw [Int.tdiv_eq_ediv_of_nonneg (by omega)]; omega
      have e2 : IntKind.u64.wrap (Int.tdiv (n : Int) 128) = ((n / 128 : Nat) : Int) := by rw [e1, wrap_u64_id (by omega) (by omega)]
      rw [e2]
      clear e1 e2
      have e3 : Int.tmod ((n / 128 : Nat) : Int) 128 = ((n / 128 % 128 : Nat) : Int) := by rw [Int.tmod_eq_emod_of_nonneg (by omega)]; omega
      rw [e3]
      clear e3
      have e4 : IntKind.u64.wrap (128 + ((n / 128 % 128 : Nat) : Int)) % 256 = ((128 + n / 128 % 128 : Nat) : Int) := by rw [wrap_u64_id (by omega) (by omega)]; omega
      rw [e4]
      clear e4
      simp only [Option.bind_some]
      rw [one_byte _ (by omega), mkB_size, mkB_size, if_pos (by simp; omega), mkB_append]
      have hp : (128 : Nat) ^ (d + 1 + 1) = 128 * 128 ^ (d + 1) := by rw [Nat.pow_succ, Nat.mul_comm]
      rw [ih (n / 128) k _ (by omega) (by omega) (by rw [List.length_append, List.length_singleton]; omega) (by omega), pre_pos (show n / 128 ≠ 0 by omega), List.append_assoc]
theorem one_spec (n k : Nat) (hn : n < 18446744073709551616) (hk : 11 ≤ k) : wapentakeref01_One.f k (n : Int) = some (mkB (grp n)) := by
  unfold wapentakeref01_One.f
  have e : Int.tmod (n : Int) 128 % 256 = ((n % 128 : Nat) : Int) := by rw [Int.tmod_eq_emod_of_nonneg (by omega)]; omega
  rw [e, one_byte _ (by omega)]
  exact one_loop 9 n k _ (by have : (128 : Nat) ^ (9 + 1) = 1180591620717411303424 := by decide
                             omega) hn (by simp) (by omega)

theorem rd_at (l : List Int) (i : Nat) (h : i < l.length) : rd l (i : Int) = l[i] := by
  simp [rd, List.getD_eq_getElem?_getD, List.getElem?_eq_getElem h]
theorem numV_drop (l : List Int) (i : Nat) (h : i < l.length) : numV (l.drop i) = grp (l[i]).toNat ++ numV (l.drop (i + 1)) := by
  rw [List.drop_eq_getElem_cons h]; simp only [numV, List.flatMap_cons]
/-- the first byte that ends a number, and what is read up to it -/
def term : Nat → Nat → List UInt8 → Option (Nat × Nat)
  | _, _, [] => none
  | n, i, c :: s => if 10 ≤ i then none else if c.toNat < 128 then some ((n * 128 + c.toNat % 128) % 18446744073709551616, i + 1) else term ((n * 128 + c.toNat % 128) % 18446744073709551616) (i + 1) s
theorem term_of_rdv : ∀ (s : List UInt8) (n i : Nat) (r : Nat × Nat), rdv n i s = some r → term n i s = some r
  | [], n, i, r, h => by simp [rdv] at h
  | c :: s, n, i, r, h => by
    have hc := c.toNat_lt
    rw [rdv] at h
    rw [term]
    by_cases h1 : 10 ≤ i
    · rw [if_pos h1] at h; cases h
    · rw [if_neg h1] at h ⊢
      by_cases h2 : (i = 0 ∧ c.toNat = 128) ∨ 144115188075855872 ≤ n
      · rw [if_pos h2] at h; cases h
      · rw [if_neg h2] at h
        rw [Nat.mod_eq_of_lt (show n * 128 + c.toNat % 128 < 18446744073709551616 by omega)]
        by_cases h3 : c.toNat < 128
        · rw [if_pos h3] at h ⊢; exact h
        · rw [if_neg h3] at h ⊢; exact term_of_rdv s _ _ r h
theorem term_lt : ∀ (s : List UInt8) (n i m j : Nat), term n i s = some (m, j) → m < 18446744073709551616 ∧ i < j ∧ j ≤ i + s.length ∧ j ≤ 10
  | [], n, i, m, j, h => by simp [term] at h
  | c :: s, n, i, m, j, h => by
    rw [term] at h
    by_cases h1 : 10 ≤ i
    · rw [if_pos h1] at h; cases h
    · rw [if_neg h1] at h
      by_cases h3 : c.toNat < 128
      · rw [if_pos h3] at h
        simp only [Option.some.injEq, Prod.mk.injEq] at h
        obtain ⟨rfl, rfl⟩ := h
        exact ⟨Nat.mod_lt _ (by omega), by omega, by simp, by omega⟩
      · rw [if_neg h3] at h
        have := term_lt s _ _ m j h
        simp only [List.length_cons]
        omega
/-- reading by writing -/
def readT (s : List UInt8) : Option (Nat × Nat) :=
  match term 0 0 s with
  | none => none
  | some (n, j) => if grp n = s.take j then some (n, j) else none
theorem readT_eq (s : List UInt8) : readT s = readV s := by
  unfold readT
  cases h : readV s with
  | some p =>
    obtain ⟨m, k⟩ := p
    have h1 := readV_some h
    rw [term_of_rdv s 0 0 (m, k) h]
    simp only
    rw [if_pos h1.2.2.2.2.symm]
  | none =>
    cases ht : term 0 0 s with
    | none => rfl
    | some p =>
      obtain ⟨n, j⟩ := p
      simp only
      by_cases hg : grp n = s.take j
      · exfalso
        have hl := term_lt s 0 0 n j ht
        have := readV_grp n hl.1 (s.drop j)
        rw [hg, List.take_append_drop, h] at this
        cases this
      · rw [if_neg hg]
theorem toList_eq_iff (a b : List UInt8) : ((mkB a).toList = (mkB b).toList) = (a = b) := by rw [mkB_toList, mkB_toList]
theorem refReadV_loop (s : List UInt8) (hs : s.length ≤ 4611686018427387904) (d : Nat) : ∀ (n i k : Nat), s.length - i ≤ d → i ≤ s.length → n < 18446744073709551616 → 2 * d + 13 ≤ k →
    wapentakeref01_ReadV.l0 k (mkB s) (n : Int) (i : Int) = some (encV (match term n i (s.drop i) with | none => none | some (m, j) => if grp m = s.take j then some (m, j) else none)) := by
  induction d with
  | zero =>
    intro n i k hd hi hn hk
    obtain ⟨k, rfl⟩ : ∃ m, k = m + 2 := ⟨k - 2, by omega⟩
    simp only [wapentakeref01_ReadV.l0, mkB_size]
    rw [if_neg (by omega)]
    simp only [wapentakeref01_ReadV.j1]
    rw [List.drop_of_length_le (by omega), term]; rfl
  | succ d ih =>
    intro n i k hd hi hn hk
    obtain ⟨k, rfl⟩ : ∃ m, k = m + 2 := ⟨k - 2, by omega⟩
    simp only [wapentakeref01_ReadV.l0, mkB_size]
    by_cases h1 : i < s.length
    · rw [if_pos (by omega)]
      simp only [wapentakeref01_ReadV.j1]
      have hb := bt_mkB s (i : Int) (by simpa using h1)
      simp only [Int.toNat_natCast] at hb
      rw [List.drop_eq_getElem_cons h1, term]
      by_cases h2 : i < 10
      · rw [if_pos (by simp; omega), if_pos (by omega), if_pos (by rw [mkB_size]; omega), if_neg (show ¬ 10 ≤ i by omega), hb]
        generalize s[i] = c
        have hc := c.toNat_lt
        have e1 : Int.tmod (c.toNat : Int) 128 = ((c.toNat % 128 : Nat) : Int) := by rw [Int.tmod_eq_emod_of_nonneg (by omega)]; omega
        have e2 : IntKind.u64.wrap (IntKind.u64.wrap (128 * (n : Int)) + IntKind.u64.wrap (Int.tmod (c.toNat : Int) 128)) = (((n * 128 + c.toNat % 128) % 18446744073709551616 : Nat) : Int) := by
          rw [e1]; simp [IntKind.wrap, IntKind.bits, IntKind.signed]; omega
        rw [e2]
        clear e1 e2
        have e3 : wrap64 ((i : Int) + 1) = ((i + 1 : Nat) : Int) := by rw [wrap64_id (by omega) (by omega)]; omega
        rw [e3]
        clear e3
        have hm : (n * 128 + c.toNat % 128) % 18446744073709551616 < 18446744073709551616 := Nat.mod_lt _ (by omega)
        generalize (n * 128 + c.toNat % 128) % 18446744073709551616 = m at hm ⊢
        by_cases h3 : c.toNat < 128
        · rw [if_pos (by omega), if_pos h3, one_spec m k hm (by omega)]
          simp only [Option.bind_some]
          rw [if_pos (by omega), if_pos (by rw [mkB_size]; omega), mkB_extract, Int.toNat_natCast, List.drop_zero, Nat.sub_zero, mkB_toList, mkB_toList]
          by_cases h4 : grp m = s.take (i + 1)
          · rw [if_pos h4, if_pos h4]; rfl
          · rw [if_neg h4, if_neg h4]; rfl
        · rw [if_neg (by omega), if_neg h3]
          exact ih _ _ _ (by omega) (by omega) hm (by omega)
      · rw [if_neg (by simp; omega), if_pos (by omega)]; rfl
    · rw [if_neg (by omega)]
      simp only [wapentakeref01_ReadV.j1]
      rw [List.drop_of_length_le (by omega), term]; rfl
theorem refReadV_spec (s : List UInt8) (k : Nat) (hs : s.length ≤ 4611686018427387904) (hk : 2 * s.length + 13 ≤ k) : wapentakeref01_ReadV.f k (mkB s) = some (encV (readV s)) := by
  unfold wapentakeref01_ReadV.f
  have h := refReadV_loop s hs s.length 0 0 k (by omega) (by omega) (by omega) (by omega)
  rw [List.drop_zero] at h
  rw [← readT_eq]
  exact h
end Go.Proofs.Ytimfgflcflhfcaa.P
