/- NumWide, the plain law: a number of a width is read again, whatever stands behind it, as its lowest bits; numbers that fit stand in their order. No condition. -/
import Derived.Test.YthdjecgiefednaaSpecAwake01
import Derived.Test.YthdjecgiefednaaPx11
import Derived.OpenShut
namespace Go.Proofs.Ythdjecgiefednaa.Pure
set_option linter.unusedVariables false
set_option linter.unusedSimpArgs false
open Go.RowKit Go.Proofs.Ythdjecgiefednaa.P Go.Proofs.YthdjecgiefednaaW.PrintWords Go.Proofs.YthdjecgiefednaaW.PrintLast Go.Proofs.YthdjecgiefednaaW.PrintMore Go.Proofs.Ythdjecgiefednaa.Num
theorem mask_bits (n w : Nat) (hn : n < 18446744073709551616) (h1 : 1 ≤ w) (h8 : w ≤ 8) :
    Go.bits .and .u64 (n : Int) (shr .u64 18446744073709551615 (IntKind.u64.wrap (64 - (IntKind.u64.wrap (8 * (IntKind.u64.wrap (w : Int))))))) = ((n % 256 ^ w : Nat) : Int) := by
  have e : shr .u64 18446744073709551615 (IntKind.u64.wrap (64 - (IntKind.u64.wrap (8 * (IntKind.u64.wrap (w : Int)))))) = (2 : Int) ^ (8 * w) - 1 := by
    rw [wrap_u64_id (show 0 ≤ (w : Int) by omega) (by omega), wrap_u64_id (show 0 ≤ 8 * (w : Int) by omega) (by omega), wrap_u64_id (show 0 ≤ 64 - 8 * (w : Int) by omega) (by omega)]
    unfold shr
    have : ∀ v : Fin 9, 1 ≤ v.val → (18446744073709551615 : Int) / 2 ^ (min (64 - 8 * (v.val : Int)).toNat IntKind.u64.bits) = (2 : Int) ^ (8 * v.val) - 1 := by decide +kernel
    exact this ⟨w, by omega⟩ h1
  rw [e]
  have h := bits_mask .u64 64 (by decide) (fun n a b => wrap_u64_id a (by omega)) (8 * w) (by omega) (n : Int) (by omega) (by omega)
  have h' : Go.bits .and .u64 (n : Int) ((2 : Int) ^ (8 * w) - 1) = (n : Int) % 2 ^ (8 * w) := h
  rw [h', show (256 : Nat) ^ w = 2 ^ (8 * w) from by rw [Nat.pow_mul]]
  simp
theorem wide_j0 (A B w k : Nat) (t : List UInt8) (hA : A < 18446744073709551616) (hB : B < 18446744073709551616) (h1 : 1 ≤ w) (h8 : w ≤ 8) (ht : t.length ≤ 100) (hk : 60 ≤ k) :
    wapentakelaw01_NumWide.j0 k (A : Int) (B : Int) (w : Int) (mkB t) (mkB (wide A w)) (mkB (wide B w)) false = some true := by
  obtain ⟨k, rfl⟩ : ∃ m, k = m + 1 := ⟨k - 1, by omega⟩
  simp only [wapentakelaw01_NumWide.j0]
  rw [if_neg (by decide), mask_bits A w hA h1 h8, mask_bits B w hB h1 h8, awake_spec k (by omega), if_pos, mkB_size, mkB_size, wide_length, if_pos (by omega), mkB_append, ReadU_spec _ k w (by omega)]
  · have hr : readU (wide A w ++ t) (w : Int) = (((A % 256 ^ w : Nat) : Int), true) := by
      unfold readU
      rw [if_neg (by rw [List.length_append, wide_length]; omega), Int.toNat_natCast, List.take_left' (wide_length w A), wide_val]
    rw [hr]
    simp only [Option.bind_some, mkB_size, mkB_toList, wide_length]
    rw [less_val _ _ (by rw [wide_length, wide_length]), wide_val, wide_val]
    have hd : decide (((A % 256 ^ w : Nat) : Int) < ((B % 256 ^ w : Nat) : Int)) = decide (A % 256 ^ w < B % 256 ^ w) := by
      by_cases h : A % 256 ^ w < B % 256 ^ w
      · rw [decide_eq_true h, decide_eq_true (by omega)]
      · rw [decide_eq_false h, decide_eq_false (by omega)]
    rw [hd]
    simp
  · rw [wrap_u64_id (show 0 ≤ (w : Int) by omega) (by omega), wrap_u64_id (show 0 ≤ 8 * (w : Int) by omega) (by omega), wrap_u64_id (show 0 ≤ 64 - 8 * (w : Int) by omega) (by omega)]
    omega
theorem wide_j0_none (a b w : Int) (k : Nat) (t : ByteArray) (hk : 60 ≤ k) : wapentakelaw01_NumWide.j0 k a b w t (mkB []) (mkB []) true = some true := by
  obtain ⟨k, rfl⟩ : ∃ m, k = m + 1 := ⟨k - 1, by omega⟩
  simp only [wapentakelaw01_NumWide.j0, mkB_toList, awake_spec k (by omega)]
  simp
theorem NumWide : wapentakelaw01_NumWide.Pure := by
  intro a b w t ha hb hw ht
  have ha := Go.bounds_u64 ha
  have hb := Go.bounds_u64 hb
  obtain ⟨A, rfl⟩ := Int.eq_ofNat_of_zero_le ha.1
  obtain ⟨B, rfl⟩ := Int.eq_ofNat_of_zero_le hb.1
  obtain ⟨s, rfl⟩ := mkB_eta t
  refine ⟨60, ?_⟩
  unfold wapentakelaw01_NumWide.f
  rw [mkB_size, awake_spec 60 (by omega)]
  by_cases h : (s.length : Int) > 100
  · rw [if_pos h]; rfl
  · rw [if_neg h, U_spec A 60 w (by omega), U_spec B 60 w (by omega)]
    simp only [Option.bind_some]
    by_cases h1 : w < 1
    · rw [if_pos h1]
      unfold wideI
      rw [if_pos (.inl h1), if_pos (.inl h1)]
      exact wide_j0_none _ _ _ _ _ (by omega)
    · rw [if_neg h1]
      unfold wideI
      by_cases h2 : w > 8
      · rw [if_pos (.inr h2), if_pos (.inr h2), decide_eq_true h2]
        exact wide_j0_none _ _ _ _ _ (by omega)
      · obtain ⟨v, rfl⟩ := Int.eq_ofNat_of_zero_le (show 0 ≤ w by omega)
        rw [if_neg (by omega), if_neg (by omega), decide_eq_false h2, Int.toNat_natCast]
        exact wide_j0 A B v 60 s (by omega) (by omega) (by omega) (by omega) (by omega) (by omega)
end Go.Proofs.Ythdjecgiefednaa.Pure
