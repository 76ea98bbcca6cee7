/- NumPuts, the plain law: numbers of a width, groups and texts' rows are the document's. No condition. -/
import Derived.Test.YthdjecgiefednaaSpecAwake01
import Derived.Test.YthdjecgiefednaaPx7
import Derived.Test.YthdjecgiefednaaPx5
import Derived.OpenShut
namespace Go.Proofs.Ythdjecgiefednaa.Pure
set_option linter.unusedVariables false
set_option linter.unusedSimpArgs false
open Go.RowKit Go.Proofs.Ythdjecgiefednaa.P Go.Proofs.YthdjecgiefednaaW.PrintWords Go.Proofs.YthdjecgiefednaaW.PrintLast Go.Proofs.Ythdjecgiefednaa.Num
theorem great_loop (ls : List (List UInt8)) (hl : ls.length ≤ 120) (hz : ∀ s ∈ ls, s.length ≤ 9223372036854775807) (d : Nat) : ∀ (i n k : Nat), ls.length - i ≤ d → i ≤ ls.length → n ≤ 20000 * i → d + 1 ≤ k →
    ∃ b, wapentakelaw01_Great.l0 k (ls.map mkB) (n : Int) (i : Int) = some b ∧ (b = false → n + total (ls.drop i) ≤ 20000) := by
  induction d with
  | zero =>
    intro i n k hd hi hn hk
    obtain ⟨k, rfl⟩ : ∃ m, k = m + 1 := ⟨k - 1, by omega⟩
    simp only [wapentakelaw01_Great.l0, List.length_map]
    rw [if_neg (by omega), List.drop_of_length_le (by omega)]
    refine ⟨_, rfl, fun h => ?_⟩
    have := of_decide_eq_false h
    simp [total]; omega
  | succ d ih =>
    intro i n k hd hi hn hk
    obtain ⟨k, rfl⟩ : ∃ m, k = m + 1 := ⟨k - 1, by omega⟩
    simp only [wapentakelaw01_Great.l0, List.length_map]
    by_cases h : i < ls.length
    · rw [if_pos (by omega), if_pos (by omega), rdOf_at ls i h, mkB_size]
      have hs := hz ls[i] (List.getElem_mem h)
      by_cases h2 : (ls[i].length : Int) > 20000
      · rw [if_pos h2]; exact ⟨true, rfl, fun h => by cases h⟩
      · rw [if_neg h2, wrap64_id (by omega) (by omega), wrap64_id (by omega) (by omega), show ((i : Int) + 1) = ((i + 1 : Nat) : Int) from by omega, show (n : Int) + (ls[i].length : Int) = ((n + ls[i].length : Nat) : Int) from by omega]
        obtain ⟨b, hb, hf⟩ := ih (i + 1) (n + ls[i].length) k (by omega) (by omega) (by omega) (by omega)
        exact ⟨b, hb, fun h3 => by have := hf h3; rw [total_drop ls i h]; omega⟩
    · rw [if_neg (by omega), List.drop_of_length_le (by omega)]
      refine ⟨_, rfl, fun h => ?_⟩
      have := of_decide_eq_false h
      simp [total]; omega
theorem great_spec (ls : List (List UInt8)) (hz : ∀ s ∈ ls, s.length ≤ 9223372036854775807) (k : Nat) (hk : 130 ≤ k) :
    ∃ b, wapentakelaw01_Great.f k (ls.map mkB) = some b ∧ (b = false → ls.length ≤ 120 ∧ total ls ≤ 20000) := by
  unfold wapentakelaw01_Great.f
  rw [List.length_map]
  by_cases h : (ls.length : Int) > 120
  · rw [if_pos h]; exact ⟨true, rfl, fun h => by cases h⟩
  · rw [if_neg h]
    obtain ⟨b, hb, hf⟩ := great_loop ls (by omega) hz ls.length 0 0 k (by omega) (by omega) (by omega) (by omega)
    exact ⟨b, hb, fun h3 => ⟨by omega, by have := hf h3; rw [List.drop_zero] at this; omega⟩⟩
theorem puts_true (a : List Int) (b : List ByteArray) (c d : Int) (k : Nat) (hk : 50 ≤ k) : wapentakelaw01_NumPuts.j0 k a b c d true = some true := by
  obtain ⟨k, rfl⟩ : ∃ m, k = m + 1 := ⟨k - 1, by omega⟩
  simp only [wapentakelaw01_NumPuts.j0]
  rw [if_pos trivial, awake_spec k (by omega)]; rfl
theorem puts_false (l : List Int) (ls : List (List UInt8)) (n : Nat) (w : Int) (k : Nat) (hn : n < 18446744073709551616) (hl : l.length ≤ 120) (hb : ∀ x ∈ l, 0 ≤ x ∧ x < 18446744073709551616) (hls : ls.length ≤ 120) (ht : total ls ≤ 20000) (hk : 1000 ≤ k) :
    wapentakelaw01_NumPuts.j0 k l (ls.map mkB) (n : Int) w false = some true := by
  obtain ⟨k, rfl⟩ : ∃ m, k = m + 1 := ⟨k - 1, by omega⟩
  simp only [wapentakelaw01_NumPuts.j0]
  rw [if_neg (by decide), V_spec l (by omega) hb, refV_spec l k hb (by omega) (by omega), numS_spec ls k (by omega) (by omega) (by omega), refS_spec ls k (by omega) (by omega) (by omega), U_spec n k w (by omega), refU_spec n k w hn (by omega), awake_spec k (by omega)]
  simp
theorem NumPuts : wapentakelaw01_NumPuts.Pure := by
  intro l l1 a w hl hl1 ha hw
  obtain ⟨ls, rfl⟩ := map_eta l1
  have ha := Go.bounds_u64 ha
  obtain ⟨n, rfl⟩ := Int.eq_ofNat_of_zero_le ha.1
  refine ⟨1000, ?_⟩
  unfold wapentakelaw01_NumPuts.f
  by_cases h : (l.length : Int) > 120
  · rw [if_pos h]; exact puts_true _ _ _ _ _ (by omega)
  · rw [if_neg h]
    obtain ⟨b, hb, hf⟩ := great_spec ls (fun s hs => by have := hl1.2 (mkB s) (List.mem_map_of_mem hs); rwa [mkB_size] at this) 1000 (by omega)
    rw [hb]
    simp only [Option.bind_some]
    cases b with
    | true => exact puts_true _ _ _ _ _ (by omega)
    | false =>
      obtain ⟨h1, h2⟩ := hf rfl
      exact puts_false l ls n w 1000 (by omega) (by omega) (fun x hx => by have := Go.bounds_u64 (hl.2 x hx); omega) h1 h2 (by omega)
end Go.Proofs.Ythdjecgiefednaa.Pure
