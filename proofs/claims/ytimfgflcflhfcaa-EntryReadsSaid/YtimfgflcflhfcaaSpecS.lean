/- What the printed functions S and ReadS of num and of its reference, and Great, come to. -/
import Derived.Test.YtimfgflcflhfcaaSpecRef
import Derived.Test.YtimfgflcflhfcaaSpecReadS
import Derived.Test.YtimfgflcflhfcaaPx4
import Derived.Test.YtimfgflcflhfcaaPx14
import Derived.Test.YtimfgflcflhfcaaPx17
namespace Go.Proofs.Ytimfgflcflhfcaa.P
set_option linter.unusedVariables false
set_option linter.unusedSimpArgs false
open Go.RowKit Go.Proofs.YtimfgflcflhfcaaW.PrintWords Go.Proofs.YtimfgflcflhfcaaW.PrintLast Go.Proofs.YtimfgflcflhfcaaW.PrintMore Go.Proofs.Ytimfgflcflhfcaa.Num
theorem map_eta (l : List ByteArray) : ∃ ls : List (List UInt8), l = ls.map mkB := by
  refine ⟨l.map fun s => s.data.toList, ?_⟩
  rw [List.map_map]
  have e : ∀ s : ByteArray, (mkB ∘ fun s => s.data.toList) s = s := fun s => by simp [mkB]
  calc l = l.map id := by simp
    _ = _ := List.map_congr_left fun s _ => (e s).symm
theorem rdOf_at (ls : List (List UInt8)) (i : Nat) (h : i < ls.length) : rdOf ByteArray.empty (ls.map mkB) (i : Int) = mkB ls[i] := by
  simp [rdOf, List.getD_eq_getElem?_getD, List.getElem?_eq_getElem h]
/-- how many bytes texts have -/
def total (ls : List (List UInt8)) : Nat := (ls.map List.length).sum
theorem total_drop (ls : List (List UInt8)) (i : Nat) (h : i < ls.length) : total (ls.drop i) = ls[i].length + total (ls.drop (i + 1)) := by
  rw [List.drop_eq_getElem_cons h]; simp only [total, List.map_cons, List.sum_cons]
theorem numS_drop (ls : List (List UInt8)) (i : Nat) (h : i < ls.length) : numS (ls.drop i) = rowS ls[i] ++ numS (ls.drop (i + 1)) := by
  rw [List.drop_eq_getElem_cons h]; simp only [numS, List.flatMap_cons]
theorem rowS_length (s : List UInt8) (hs : s.length < 18446744073709551616) : (rowS s).length ≤ 10 + s.length := by
  have := grp_len_le hs
  rw [rowS, List.length_append]; omega
theorem numS_loop (ls : List (List UInt8)) (hl : ls.length ≤ 10000000000000) (d : Nat) : ∀ (i k : Nat) (t : List UInt8), ls.length - i ≤ d → i ≤ ls.length → t.length + total (ls.drop i) ≤ 1000000000000000 + 10 * i → d + 1 ≤ k →
    num_S.l0 k (mkB t) (ls.map mkB) (ls.length : Int) (i : Int) = some (mkB (t ++ numS (ls.drop i))) := by
  induction d with
  | zero =>
    intro i k t hd hi ht hk
    obtain ⟨k, rfl⟩ : ∃ m, k = m + 1 := ⟨k - 1, by omega⟩
    simp only [num_S.l0]
    rw [if_neg (by omega), List.drop_of_length_le (by omega)]
    simp [numS]
  | succ d ih =>
    intro i k t hd hi ht hk
    obtain ⟨k, rfl⟩ : ∃ m, k = m + 1 := ⟨k - 1, by omega⟩
    simp only [num_S.l0]
    by_cases h : i < ls.length
    · rw [total_drop ls i h] at ht
      have hg := grp_len_le (n := ls[i].length) (by omega)
      rw [if_pos (by omega), if_pos (by omega), if_pos (by rw [List.length_map]; omega), rdOf_at ls i h, mkB_size, wrap_u64_id (by omega) (by omega), V_one _ (by omega)]
      simp only [Option.bind_some]
      rw [mkB_size, mkB_size, if_pos (by omega), mkB_append]
      simp only [mkB_size]
      rw [if_pos (by rw [List.length_append]; omega), mkB_append, wrap64_id (by omega) (by omega), show ((i : Int) + 1) = ((i + 1 : Nat) : Int) from by omega,
        ih (i + 1) k _ (by omega) (by omega) (by rw [List.length_append, List.length_append]; omega) (by omega), numS_drop ls i h, rowS]
      simp only [List.append_assoc]
    · rw [if_neg (by omega), List.drop_of_length_le (by omega)]
      simp [numS]
theorem numS_spec (ls : List (List UInt8)) (k : Nat) (hl : ls.length ≤ 10000000000000) (ht : total ls ≤ 1000000000000000) (hk : ls.length + 1 ≤ k) : num_S.f k (ls.map mkB) = some (mkB (numS ls)) := by
  unfold num_S.f
  have h := numS_loop ls hl ls.length 0 k [] (by omega) (by omega) (by rw [List.drop_zero]; simpa using ht) (by omega)
  rw [List.drop_zero, List.nil_append] at h
  rw [List.length_map]
  exact h
theorem refS_loop (ls : List (List UInt8)) (hl : ls.length ≤ 10000000000000) (d : Nat) : ∀ (i k : Nat) (t : List UInt8), ls.length - i ≤ d → i ≤ ls.length → t.length + total (ls.drop i) ≤ 1000000000000000 + 10 * i → d + 12 ≤ k →
    wapentakeref01_S.l0 k (ls.map mkB) (mkB t) (i : Int) = some (mkB (t ++ numS (ls.drop i))) := by
  induction d with
  | zero =>
    intro i k t hd hi ht hk
    obtain ⟨k, rfl⟩ : ∃ m, k = m + 1 := ⟨k - 1, by omega⟩
    simp only [wapentakeref01_S.l0, List.length_map]
    rw [if_neg (by omega), List.drop_of_length_le (by omega)]
    simp [numS]
  | succ d ih =>
    intro i k t hd hi ht hk
    obtain ⟨k, rfl⟩ : ∃ m, k = m + 1 := ⟨k - 1, by omega⟩
    simp only [wapentakeref01_S.l0, List.length_map]
    by_cases h : i < ls.length
    · rw [total_drop ls i h] at ht
      have hg := grp_len_le (n := ls[i].length) (by omega)
      rw [if_pos (by omega), if_pos (by omega), rdOf_at ls i h, mkB_size, wrap_u64_id (by omega) (by omega), one_spec _ k (by omega) (by omega)]
      simp only [Option.bind_some]
      rw [mkB_size, mkB_size, if_pos (by omega), mkB_append]
      simp only [mkB_size]
      rw [if_pos (by rw [List.length_append]; omega), mkB_append, wrap64_id (by omega) (by omega), show ((i : Int) + 1) = ((i + 1 : Nat) : Int) from by omega,
        ih (i + 1) k _ (by omega) (by omega) (by rw [List.length_append, List.length_append]; omega) (by omega), numS_drop ls i h, rowS]
      simp only [List.append_assoc]
    · rw [if_neg (by omega), List.drop_of_length_le (by omega)]
      simp [numS]
theorem refS_spec (ls : List (List UInt8)) (k : Nat) (hl : ls.length ≤ 10000000000000) (ht : total ls ≤ 1000000000000000) (hk : ls.length + 12 ≤ k) : wapentakeref01_S.f k (ls.map mkB) = some (mkB (numS ls)) := by
  unfold wapentakeref01_S.f
  have h := refS_loop ls hl ls.length 0 k [] (by omega) (by omega) (by rw [List.drop_zero]; simpa using ht) (by omega)
  rw [List.drop_zero, List.nil_append] at h
  exact h
theorem refReadS_spec (s : List UInt8) (k : Nat) (hs : s.length ≤ 4611686018427387904) (hk : 2 * s.length + 13 ≤ k) : wapentakeref01_ReadS.f k (mkB s) = some (encS (readS s)) := by
  unfold wapentakeref01_ReadS.f readS
  have e := refReadV_spec s k hs hk
  cases h : readV s with
  | none => rw [h] at e; rw [e]; rfl
  | some p =>
    obtain ⟨n, j⟩ := p
    obtain ⟨h1, h2, h3, h4, _⟩ := readV_some h
    rw [h] at e
    rw [e]
    simp only [encV, Option.bind_some]
    rw [if_pos trivial, mkB_size, wrap_u64_id (show 0 ≤ (s.length : Int) by omega) (by omega)]
    by_cases h0 : n ≤ s.length
    · rw [if_neg (by omega), wrap64_id (show -9223372036854775808 ≤ (n : Int) by omega) (by omega), wrap64_id (show -9223372036854775808 ≤ (j : Int) + (n : Int) by omega) (by omega)]
      by_cases h5 : n ≤ s.length - j
      · rw [if_pos h5, if_neg (by omega), if_pos (by omega), if_pos (by omega), if_pos (by omega), mkB_extract]
        simp only [encS]
        rw [show (((j : Int) + (n : Int)).toNat - (j : Int).toNat) = n from by omega, Int.toNat_natCast]
        congr 2
      · rw [if_neg h5, if_pos (by omega)]; rfl
    · rw [if_pos (by omega), if_neg (by omega)]; rfl
end Go.Proofs.Ytimfgflcflhfcaa.P
