/- What the printed function ReadS of package num comes to; rows of texts. -/
import Derived.Test.YtimfgflcflhfcaaSpecNum
import Derived.Test.YtimfgflcflhfcaaPx6
namespace Go.Proofs.Ytimfgflcflhfcaa.P
set_option linter.unusedVariables false
set_option linter.unusedSimpArgs false
open Go.RowKit Go.Proofs.YtimfgflcflhfcaaW.PrintWords Go.Proofs.YtimfgflcflhfcaaW.PrintLast Go.Proofs.YtimfgflcflhfcaaW.PrintMore Go.Proofs.Ytimfgflcflhfcaa.Num
/-- a text whose row a text begins with -/
def readS (s : List UInt8) : Option (List UInt8 × Nat) :=
  match readV s with
  | none => none
  | some (n, k) => if n ≤ s.length - k then some ((s.drop k).take n, k + n) else none
def encS : Option (List UInt8 × Nat) → ByteArray × Int × Bool
  | none => (mkB [], 0, false)
  | some (t, k) => (mkB t, (k : Int), true)
theorem readS_spec (s : List UInt8) (k : Nat) (hs : s.length ≤ 4611686018427387904) (hk : 3 * s.length + 3 ≤ k) : num_ReadS.f k (mkB s) = some (encS (readS s)) := by
  unfold num_ReadS.f readS
  have e := readV_spec s k hk
  cases h : readV s with
  | none => rw [h] at e; rw [e]; rfl
  | some p =>
    obtain ⟨n, j⟩ := p
    obtain ⟨h1, h2, h3, h4, _⟩ := readV_some h
    rw [h] at e
    rw [e]
    simp only [encV, Option.bind_some]
    rw [if_pos trivial, mkB_size, wrap64_id (show -9223372036854775808 ≤ ((s.length : Int) - (j : Int)) by omega) (by omega), wrap_u64_id (show 0 ≤ ((s.length : Int) - (j : Int)) by omega) (by omega)]
    by_cases h5 : n ≤ s.length - j
    · rw [if_pos h5, if_neg (by omega), if_pos (by omega), wrap64_id (show -9223372036854775808 ≤ (n : Int) by omega) (by omega), wrap64_id (show -9223372036854775808 ≤ (j : Int) + (n : Int) by omega) (by omega), if_pos (by omega), if_pos (by omega), mkB_extract]
      simp only [encS]
      rw [show (((j : Int) + (n : Int)).toNat - (j : Int).toNat) = n from by omega, Int.toNat_natCast]
      congr 2
    · rw [if_neg h5, if_pos (by omega)]; rfl
/-- rows of texts -/
def rowS (s : List UInt8) : List UInt8 := grp s.length ++ s
def numS (l : List (List UInt8)) : List UInt8 := l.flatMap rowS
theorem readS_row (s t : List UInt8) (hs : s.length < 18446744073709551616) : readS (rowS s ++ t) = some (s, (rowS s).length) := by
  unfold readS rowS
  rw [List.append_assoc, readV_grp _ hs]
  simp only [List.length_append]
  rw [if_pos (by omega)]
  congr 2
  rw [List.drop_left, List.take_left]
theorem readS_some {s t : List UInt8} {k : Nat} (h : readS s = some (t, k)) : k ≤ s.length ∧ s.take k = rowS t ∧ t.length < 18446744073709551616 ∧ t.length < k := by
  unfold readS at h
  cases hv : readV s with
  | none => rw [hv] at h; cases h
  | some p =>
    obtain ⟨n, j⟩ := p
    obtain ⟨h1, h2, h3, h4, h5⟩ := readV_some hv
    rw [hv] at h
    simp only at h
    by_cases h6 : n ≤ s.length - j
    · rw [if_pos h6] at h
      simp only [Option.some.injEq, Prod.mk.injEq] at h
      obtain ⟨rfl, rfl⟩ := h
      have hl : ((s.drop j).take n).length = n := by rw [List.length_take, List.length_drop]; omega
      refine ⟨by omega, ?_, by omega, by omega⟩
      unfold rowS
      rw [hl, ← h5, List.take_add]
    · rw [if_neg h6] at h; cases h
end Go.Proofs.Ytimfgflcflhfcaa.P
