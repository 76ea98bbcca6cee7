/- What the printed functions of package num, and of its reference, come to: numbers and lists of bytes alone. -/
import Derived.Test.YtimfgflcflhfcaaPx6
import Derived.Test.YtimfgflcflhfcaaPx4
import Derived.Laws.Strings
namespace Go.Proofs.Ytimfgflcflhfcaa.P
open Go.RowKit Go.Proofs.YtimfgflcflhfcaaW.PrintWords Go.Proofs.YtimfgflcflhfcaaW.PrintLast Go.Proofs.YtimfgflcflhfcaaW.PrintMore Go.Proofs.Ytimfgflcflhfcaa.Num

/-- a text of these bytes -/
def mkB (l : List UInt8) : ByteArray := ⟨l.toArray⟩
theorem mkB_toList (l : List UInt8) : (mkB l).toList = l := by rw [ByteArray.toList_eq]; rfl
theorem mkB_size (l : List UInt8) : (mkB l).size = l.length := by simp [mkB, ByteArray.size]
theorem mkB_append (a b : List UInt8) : mkB a ++ mkB b = mkB (a ++ b) := by
  apply ByteArray.ext
  simp [mkB]
theorem mkB_eta (s : ByteArray) : ∃ l, s = mkB l := ⟨s.data.toList, by simp [mkB]⟩
theorem mkB_inj {a b : List UInt8} (h : mkB a = mkB b) : a = b := by
  have := congrArg ByteArray.toList h
  rwa [mkB_toList, mkB_toList] at this
theorem mkB_extract (l : List UInt8) (i j : Nat) : (mkB l).extract i j = mkB ((l.drop i).take (j - i)) := by
  apply ByteArray.ext
  simp [mkB, ByteArray.data_extract, List.extract_eq_take_drop]
theorem bt_mkB (l : List UInt8) (i : Int) (h : i.toNat < l.length) : bt (mkB l) i = ((l[i.toNat]).toNat : Int) := by
  have h' : i.toNat < (mkB l).size := by rw [mkB_size]; exact h
  simp only [bt, h', dif_pos]
  rfl
theorem and128_zero (c : UInt8) : (Go.bits .and .u8 (c.toNat : Int) 128 = 0) ↔ c.toNat < 128 := by
  have hc := c.toNat_lt
  have h := (bits_nat .u8 8 (by decide) wraps_u8 c.toNat 128 (by omega) (by decide)).1
  have h' : Go.bits .and .u8 (c.toNat : Int) 128 = ((c.toNat &&& 128 : Nat) : Int) := h
  rw [h']
  have e : c.toNat &&& 128 = if c.toNat < 128 then 0 else 128 := by
    have : ∀ n : Fin 256, n.val &&& 128 = if n.val < 128 then 0 else 128 := by decide +kernel
    exact this ⟨c.toNat, by omega⟩
  rw [e]
  split <;> simp <;> omega
theorem and127_u8 (c : UInt8) : Go.bits .and .u8 (c.toNat : Int) 127 = ((c.toNat % 128 : Nat) : Int) := by
  have hc := c.toNat_lt
  have h := bits_mask .u8 8 (by decide) wraps_u8 7 (by decide) (c.toNat : Int) (by omega) (by omega)
  have h' : Go.bits .and .u8 (c.toNat : Int) 127 = (c.toNat : Int) % 128 := h
  rw [h']; omega
theorem wrap_u64_id {n : Int} (h0 : 0 ≤ n) (h1 : n < 18446744073709551616) : IntKind.u64.wrap n = n := by
  simp [IntKind.wrap, IntKind.bits, IntKind.signed]; omega
theorem wrap64_id {n : Int} (h0 : -9223372036854775808 ≤ n) (h1 : n ≤ 9223372036854775807) : wrap64 n = n := by unfold wrap64; omega
theorem or_u64 (n c : Nat) (hn : n < 144115188075855872) (hc : c < 128) : Go.bits .or .u64 ((n * 128 : Nat) : Int) (c : Int) = ((n * 128 + c : Nat) : Int) := by
  have h := bits_join .u64 64 (by decide) (fun n a b => wrap_u64_id a (by omega)) 7 ((n * 128 : Nat) : Int) (c : Int) (by omega) (by omega) (by omega) (by omega) (by omega) (by omega)
  have h' : Go.bits .or .u64 ((n * 128 : Nat) : Int) (c : Int) = ((n * 128 : Nat) : Int) + (c : Int) := h
  rw [h']; omega

/-- a reading as the printed function tells it -/
def encV : Option (Nat × Nat) → Int × Int × Bool
  | none => (0, 0, false)
  | some (n, k) => ((n : Int), (k : Int), true)
theorem readV_loop (s : List UInt8) (d : Nat) : ∀ (n size k : Nat), s.length - size ≤ d → size ≤ s.length → n < 18446744073709551616 → 3 * d + 3 ≤ k →
    num_ReadV.l0 k (mkB s) (n : Int) (size : Int) = some (encV (rdv n size (s.drop size))) := by
  induction d with
  | zero =>
    intro n size k hd hs hn hk
    obtain ⟨k, rfl⟩ : ∃ m, k = m + 3 := ⟨k - 3, by omega⟩
    simp only [num_ReadV.l0, mkB_size]
    rw [if_neg (by omega)]
    simp only [num_ReadV.j1]
    rw [List.drop_of_length_le (by omega), rdv]; rfl
  | succ d ih =>
    intro n size k hd hs hn hk
    obtain ⟨k, rfl⟩ : ∃ m, k = m + 3 := ⟨k - 3, by omega⟩
    simp only [num_ReadV.l0, mkB_size]
    by_cases h1 : size < s.length
    · rw [if_pos (by omega)]
      simp only [num_ReadV.j1]
      have hb := bt_mkB s (size : Int) (by simpa using h1)
      simp only [Int.toNat_natCast] at hb
      have e : s.drop size = s[size] :: s.drop (size + 1) := List.drop_eq_getElem_cons h1
      rw [e, rdv]
      by_cases h2 : size < 10
      · rw [if_pos (by simp; omega), if_pos (by omega), if_pos (by rw [mkB_size]; omega), if_neg (show ¬ 10 ≤ size by omega), hb]
        generalize s[size] = c
        have hc := c.toNat_lt
        have key : ∀ b : Bool, (b = true ↔ ((size = 0 ∧ c.toNat = 128) ∨ 144115188075855872 ≤ n)) →
            num_ReadV.j2 (k + 1) (mkB s) (n : Int) (size : Int) (c.toNat : Int) b = some (encV (if (size = 0 ∧ c.toNat = 128) ∨ 144115188075855872 ≤ n then none
              else if c.toNat < 128 then some (n * 128 + c.toNat % 128, size + 1) else rdv (n * 128 + c.toNat % 128) (size + 1) (s.drop (size + 1)))) := by
          intro b hb2
          simp only [num_ReadV.j2]
          by_cases h3 : (size = 0 ∧ c.toNat = 128) ∨ 144115188075855872 ≤ n
          · rw [if_pos (hb2.2 h3), if_pos h3]; rfl
          · rw [if_neg (fun h => h3 (hb2.1 h)), if_neg h3]
            have e1 : IntKind.u64.wrap ((n : Int) * 128) = ((n * 128 : Nat) : Int) := by rw [wrap_u64_id (by omega) (by omega)]; omega
            have e2 : IntKind.u64.wrap (Go.bits .and .u8 (c.toNat : Int) 127) = ((c.toNat % 128 : Nat) : Int) := by rw [and127_u8, wrap_u64_id (by omega) (by omega)]
            have e3 : wrap64 ((size : Int) + 1) = ((size + 1 : Nat) : Int) := by rw [wrap64_id (by omega) (by omega)]; omega
            rw [e1, e2, e3]
            clear e1 e2 e3
            rw [or_u64 _ _ (by omega) (by omega)]
            by_cases h4 : c.toNat < 128
            · rw [if_pos ((and128_zero c).2 h4), if_pos h4]; rfl
            · rw [if_neg (fun h => h4 ((and128_zero c).1 h)), if_neg h4]
              exact ih _ _ _ (by omega) (by omega) (by omega) (by omega)
        by_cases h5 : size = 0
        · subst h5
          rw [if_pos (show ((0 : Nat) : Int) = 0 from rfl)]
          by_cases h6 : (c.toNat : Int) = 128
          · rw [if_pos h6]; exact key true (by simp; omega)
          · rw [if_neg h6]; exact key _ (by simp; omega)
        · rw [if_neg (by omega)]; exact key _ (by simp; omega)
      · rw [if_neg (by simp; omega), if_pos (by omega)]; rfl
    · rw [if_neg (by omega)]
      simp only [num_ReadV.j1]
      rw [List.drop_of_length_le (by omega), rdv]; rfl
theorem readV_spec (s : List UInt8) (k : Nat) (hk : 3 * s.length + 3 ≤ k) : num_ReadV.f k (mkB s) = some (encV (readV s)) := by
  unfold num_ReadV.f readV
  have := readV_loop s s.length 0 0 k (by omega) (by omega) (by decide) (by omega)
  simpa using this

/-- what is printed of V, where it answers -/
theorem V_spec (l : List Int) (h : l.length ≤ 10000000000000) (hb : ∀ x ∈ l, 0 ≤ x ∧ x < 18446744073709551616) : num_V.f l = some (mkB (numV l)) := by
  unfold num_V.f
  rw [if_pos ⟨h, hb⟩]; rfl
theorem V_one (n : Nat) (hn : n < 18446744073709551616) : num_V.f [(n : Int)] = some (mkB (grp n)) := by
  rw [V_spec _ (by simp) (by simp; omega)]
  simp [numV]
end Go.Proofs.Ytimfgflcflhfcaa.P
