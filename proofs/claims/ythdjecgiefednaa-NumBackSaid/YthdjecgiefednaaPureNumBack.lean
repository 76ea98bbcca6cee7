/- NumBack, the plain law: numbers and texts that are put are read again, whatever stands behind them; what is read of any text, put again, is what was read. No condition. -/
import Derived.Test.YthdjecgiefednaaSpecAwake01
import Derived.Test.YthdjecgiefednaaPx8
import Derived.Test.YthdjecgiefednaaPx5
import Derived.OpenShut
namespace Go.Proofs.Ythdjecgiefednaa.Pure
set_option linter.unusedVariables false
set_option linter.unusedSimpArgs false
open Go.RowKit Go.Proofs.Ythdjecgiefednaa.P Go.Proofs.YthdjecgiefednaaW.PrintWords Go.Proofs.YthdjecgiefednaaW.PrintLast Go.Proofs.Ythdjecgiefednaa.Num
theorem great_loop (ls : List (List UInt8)) (hl : ls.length ≤ 120) (hz : ∀ s ∈ ls, s.length ≤ 9223372036854775807) (d : Nat) : ∀ (i n k : Nat), ls.length - i ≤ d → i ≤ ls.length → n ≤ 20000 * i → d + 1 ≤ k →
    ∃ b, wapentakelaw01_Great.l0 k (ls.map mkB) (n : Int) (i : Int) = some b ∧ (b = false → n + total (ls.drop i) ≤ 20000) := by
  induction d with
  | zero =>
    intro i n k hd hi hn hk
    obtain ⟨k, rfl⟩ : ∃ m, k = m + 1 := ⟨k - 1, by omega⟩
    simp only [wapentakelaw01_Great.l0, List.length_map]
    rw [if_neg (by omega), List.drop_of_length_le (by omega)]
    refine ⟨_, rfl, fun h => ?_⟩
    have := of_decide_eq_false h
    simp [total]; omega
  | succ d ih =>
    intro i n k hd hi hn hk
    obtain ⟨k, rfl⟩ : ∃ m, k = m + 1 := ⟨k - 1, by omega⟩
    simp only [wapentakelaw01_Great.l0, List.length_map]
    by_cases h : i < ls.length
    · rw [if_pos (by omega), if_pos (by omega), rdOf_at ls i h, mkB_size]
      have hs := hz ls[i] (List.getElem_mem h)
      by_cases h2 : (ls[i].length : Int) > 20000
      · rw [if_pos h2]; exact ⟨true, rfl, fun h => by cases h⟩
      · rw [if_neg h2, wrap64_id (by omega) (by omega), wrap64_id (by omega) (by omega), show ((i : Int) + 1) = ((i + 1 : Nat) : Int) from by omega, show (n : Int) + (ls[i].length : Int) = ((n + ls[i].length : Nat) : Int) from by omega]
        obtain ⟨b, hb, hf⟩ := ih (i + 1) (n + ls[i].length) k (by omega) (by omega) (by omega) (by omega)
        exact ⟨b, hb, fun h3 => by have := hf h3; rw [total_drop ls i h]; omega⟩
    · rw [if_neg (by omega), List.drop_of_length_le (by omega)]
      refine ⟨_, rfl, fun h => ?_⟩
      have := of_decide_eq_false h
      simp [total]; omega
theorem great_spec (ls : List (List UInt8)) (hz : ∀ s ∈ ls, s.length ≤ 9223372036854775807) (k : Nat) (hk : 130 ≤ k) :
    ∃ b, wapentakelaw01_Great.f k (ls.map mkB) = some b ∧ (b = false → ls.length ≤ 120 ∧ total ls ≤ 20000) := by
  unfold wapentakelaw01_Great.f
  rw [List.length_map]
  by_cases h : (ls.length : Int) > 120
  · rw [if_pos h]; exact ⟨true, rfl, fun h => by cases h⟩
  · rw [if_neg h]
    obtain ⟨b, hb, hf⟩ := great_loop ls (by omega) hz ls.length 0 0 k (by omega) (by omega) (by omega) (by omega)
    exact ⟨b, hb, fun h3 => ⟨by omega, by have := hf h3; rw [List.drop_zero] at this; omega⟩⟩
theorem mkB_from (s : List UInt8) (i : Nat) : (mkB s).extract i (mkB s).size = mkB (s.drop i) := by
  rw [mkB_extract, mkB_size, List.take_of_length_le (by rw [List.length_drop]; omega)]
theorem numV_len (l : List Int) (hb : ∀ x ∈ l, 0 ≤ x ∧ x < 18446744073709551616) : (numV l).length ≤ 10 * l.length := by
  induction l with
  | nil => simp [numV]
  | cons x l ih =>
    have hx := hb x (by simp)
    have h1 := grp_len_le (n := x.toNat) (by omega)
    have h2 := ih fun y hy => hb y (by simp [hy])
    simp only [numV, List.flatMap_cons, List.length_append, List.length_cons] at h2 ⊢
    omega
theorem numS_len (ls : List (List UInt8)) (ht : total ls ≤ 20000) : (numS ls).length ≤ 10 * ls.length + total ls := by
  induction ls with
  | nil => simp [numS]
  | cons s l ih =>
    have e : total (s :: l) = s.length + total l := by simp [total]
    have h1 := rowS_length s (by omega)
    have h2 := ih (by omega)
    simp only [numS, List.flatMap_cons, List.length_append, List.length_cons] at h2 ⊢
    omega
theorem readS_back {s t : List UInt8} {n : Nat} (h : readS s = some (t, n)) : n ≤ s.length ∧ t.length ≤ s.length ∧ s.take n = rowS t := by
  unfold readS at h
  cases hV : readV s with
  | none => rw [hV] at h; cases h
  | some p =>
    obtain ⟨m, j⟩ := p
    rw [hV] at h
    simp only at h
    obtain ⟨_, _, _, h4, h5⟩ := readV_some hV
    by_cases hm : m ≤ s.length - j
    · rw [if_pos hm] at h
      injection h with h
      injection h with e1 e2
      subst e2
      have hl : t.length = m := by rw [← e1, List.length_take, List.length_drop]; omega
      refine ⟨by omega, by omega, ?_⟩
      rw [rowS, hl, ← h5, List.take_add, e1]
    · rw [if_neg hm] at h; cases h
theorem back_end (s : List UInt8) (k : Nat) (hs : s.length ≤ 20000) (hk : 100000 ≤ k) (ls : List (List UInt8)) :
    wapentakelaw01_NumBack.l1 (k + 1) (ls.map mkB) (mkB s) (mkB s) (ls.length : Int) = some true := by
  simp only [wapentakelaw01_NumBack.l1]
  rw [if_neg (by rw [List.length_map]; omega), if_pos trivial, readV_spec s k (by omega), readS_spec s k (by omega) (by omega), awake_spec k (by omega)]
  have tail : ∀ b : Bool, (if (encS (readS s)).2.2 = true then (if (encS (readS s)).2.1 ≤ ((mkB s).size : Int) then ((num_S.f k ([(encS (readS s)).1] : List ByteArray)).bind fun t188 => if 0 ≤ (encS (readS s)).2.1 then (if t188.toList = ((mkB s).extract 0 ((encS (readS s)).2.1).toNat).toList then ((some true : Option Bool).bind fun t189 => some t189) else some false) else none) else some false) else (if (encS (readS s)).1.toList = ([] : List UInt8) then (if (encS (readS s)).2.1 = 0 then ((some true : Option Bool).bind fun t190 => some t190) else some false) else some false)) = some true := by
    intro b
    cases hS : readS s with
    | none => simp [encS, mkB_toList]
    | some p =>
      obtain ⟨t, n⟩ := p
      obtain ⟨h1, h2, h3⟩ := readS_back hS
      have e := numS_spec [t] k (by simp) (by simp [total]; omega) (by simp; omega)
      rw [List.map_cons, List.map_nil] at e
      have e' : num_S.f k [(encS (some (t, n))).1] = some (mkB (numS [t])) := e
      refine (if_pos (rfl : true = true)).trans ?_
      refine (if_pos (show (n : Int) ≤ ((mkB s).size : Int) by rw [mkB_size]; omega)).trans ?_
      rw [e']
      simp only [Option.bind_some]
      refine (if_pos (show 0 ≤ (n : Int) by omega)).trans ?_
      refine (if_pos ?_).trans rfl
      show (mkB (numS [t])).toList = ((mkB s).extract 0 ((n : Int)).toNat).toList
      rw [Int.toNat_natCast, mkB_extract, mkB_toList, mkB_toList, List.drop_zero, Nat.sub_zero, h3]
      simp [numS]
  cases hV : readV s with
  | none =>
    simp only [encV, Option.bind_some]
    rw [if_neg (by decide), if_pos trivial, if_pos trivial]
    exact tail true
  | some p =>
    obtain ⟨m, j⟩ := p
    obtain ⟨h1, h2, h3, h4, h5⟩ := readV_some hV
    simp only [encV, Option.bind_some, if_true]
    rw [if_neg (by omega), if_neg (by rw [mkB_size]; omega), V_one m h1]
    simp only [Option.bind_some]
    rw [if_pos (by omega), if_pos (by rw [mkB_size]; omega), if_pos]
    · exact tail true
    · rw [Int.toNat_natCast, mkB_extract, mkB_toList, mkB_toList, List.drop_zero, Nat.sub_zero, h5]
theorem back_S (s : List UInt8) (k : Nat) (hs : s.length ≤ 20000) (hk : 200000 ≤ k) (ls : List (List UInt8)) (hl : ls.length ≤ 120) (ht : total ls ≤ 20000) :
    ∀ (d i : Nat), i + d = ls.length → wapentakelaw01_NumBack.l1 (k + d + 1) (ls.map mkB) (mkB s) (mkB (numS (ls.drop i) ++ s)) (i : Int) = some true := by
  intro d
  induction d with
  | zero =>
    intro i hi
    rw [List.drop_of_length_le (by omega), show (i : Int) = (ls.length : Int) from by omega]
    exact back_end s (k + 0) hs (by omega) ls
  | succ d ih =>
    intro i hi
    have h : i < ls.length := by omega
    have hd : total (ls.drop i) ≤ 20000 := by
      have e : total ls = total (ls.take i) + total (ls.drop i) := by rw [total, total, total, ← List.sum_append, ← List.map_append, List.take_append_drop]
      omega
    have hlen := numS_len (ls.drop i) hd
    rw [List.length_drop] at hlen
    have e1 := total_drop ls i h
    rw [show k + (d + 1) + 1 = (k + d + 1) + 1 from by omega]
    simp only [wapentakelaw01_NumBack.l1]
    rw [if_pos (by rw [List.length_map]; omega), readS_spec _ (k + d + 1) (by rw [List.length_append]; omega) (by rw [List.length_append]; omega), numS_drop ls i h, List.append_assoc, readS_row _ _ (by omega)]
    simp only [encS, Option.bind_some, if_true]
    have hr : (rowS ls[i]).length = (grp ls[i].length).length + ls[i].length := by rw [rowS, List.length_append]
    have hg : 0 < (grp ls[i].length).length := by rw [grp_length]; omega
    rw [if_pos (by omega), rdOf_at ls i h, if_pos rfl, if_neg (by rw [mkB_size]; omega), if_neg (by rw [mkB_size, List.length_append]; omega), if_pos (by omega), if_pos (by rw [mkB_size, List.length_append]; omega), Int.toNat_natCast, mkB_from, List.drop_left, wrap64_id (by omega) (by omega), show (i : Int) + 1 = ((i + 1 : Nat) : Int) from by omega]
    exact ih (i + 1) (by omega)
theorem back_V (s : List UInt8) (k : Nat) (hs : s.length ≤ 20000) (hk : 200000 ≤ k) (l : List Int) (ls : List (List UInt8)) (hll : l.length ≤ 120) (hb : ∀ x ∈ l, 0 ≤ x ∧ x < 18446744073709551616) (hl : ls.length ≤ 120) (ht : total ls ≤ 20000) :
    ∀ (d i : Nat), i + d = l.length → wapentakelaw01_NumBack.l0 (k + ls.length + 1 + d + 1) l (ls.map mkB) (mkB s) (mkB (numV (l.drop i) ++ (numS ls ++ s))) (i : Int) = some true := by
  intro d
  have hsl := numS_len ls ht
  induction d with
  | zero =>
    intro i hi
    simp only [wapentakelaw01_NumBack.l0]
    rw [if_neg (by omega), List.drop_of_length_le (by omega)]
    have := back_S s k hs hk ls hl ht ls.length 0 (by omega)
    rw [List.drop_zero] at this
    simpa [numV] using this
  | succ d ih =>
    intro i hi
    have h : i < l.length := by omega
    have hx := hb l[i] (List.getElem_mem h)
    have hlen := numV_len (l.drop i) fun x hx => hb x (List.mem_of_mem_drop hx)
    rw [List.length_drop] at hlen
    rw [show k + ls.length + 1 + (d + 1) + 1 = (k + ls.length + 1 + d + 1) + 1 from by omega]
    simp only [wapentakelaw01_NumBack.l0]
    rw [if_pos (by omega), readV_spec _ (k + ls.length + 1 + d + 1) (by rw [List.length_append, List.length_append]; omega), numV_drop l i h, List.append_assoc, readV_grp _ (by omega)]
    simp only [encV, Option.bind_some, if_true]
    have hg : 0 < (grp (l[i]).toNat).length := by rw [grp_length]; omega
    rw [if_pos (by omega), rd_at l i h, if_pos (by omega), if_neg (by omega), if_neg (by rw [mkB_size, List.length_append]; omega), if_pos (by omega), if_pos (by rw [mkB_size, List.length_append]; omega), Int.toNat_natCast, mkB_from, List.drop_left, wrap64_id (by omega) (by omega), show (i : Int) + 1 = ((i + 1 : Nat) : Int) from by omega]
    exact ih (i + 1) (by omega)
theorem back_j1 (s : List UInt8) (hs : s.length ≤ 20000) (l : List Int) (ls : List (List UInt8)) (hll : l.length ≤ 120) (hb : ∀ x ∈ l, 0 ≤ x ∧ x < 18446744073709551616) (hl : ls.length ≤ 120) (ht : total ls ≤ 20000) :
    wapentakelaw01_NumBack.j1 (200000 + ls.length + 1 + l.length + 1 + 1) l (ls.map mkB) (mkB s) = some true := by
  simp only [wapentakelaw01_NumBack.j1]
  have h1 := numV_len l hb
  have h2 := numS_len ls ht
  rw [V_spec l (by omega) hb, numS_spec ls _ (by omega) (by omega) (by omega)]
  simp only [Option.bind_some]
  rw [if_pos (by rw [mkB_size, mkB_size]; omega), mkB_append, if_pos (by rw [mkB_size, mkB_size, List.length_append]; omega), mkB_append, List.append_assoc]
  have := back_V s 200000 hs (by omega) l ls hll hb hl ht l.length 0 (by omega)
  rw [List.drop_zero] at this
  exact this
theorem NumBack : wapentakelaw01_NumBack.Pure := by
  intro l l1 a2 hl hl1 ha
  obtain ⟨ls, rfl⟩ := map_eta l1
  obtain ⟨s, rfl⟩ := mkB_eta a2
  rw [mkB_size] at ha
  have hz : ∀ s ∈ ls, s.length ≤ 9223372036854775807 := fun s h => by have := hl1.2 (mkB s) (List.mem_map_of_mem h); rwa [mkB_size] at this
  have hb : ∀ x ∈ l, 0 ≤ x ∧ x < 18446744073709551616 := fun x h => by have := Go.bounds_u64 (hl.2 x h); omega
  obtain ⟨b, hg, hf⟩ := great_spec ls hz (200000 + ls.length + 1 + l.length + 1 + 1 + 1) (by omega)
  have ends : ∀ k, 40 ≤ k → wapentakelaw01_NumBack.j0 (k + 1) l (ls.map mkB) (mkB s) true = some true := fun k hk => by
    simp only [wapentakelaw01_NumBack.j0]
    rw [if_pos trivial, awake_spec k hk]; rfl
  refine ⟨200000 + ls.length + 1 + l.length + 1 + 1 + 1, ?_⟩
  unfold wapentakelaw01_NumBack.f
  by_cases hc : (l.length : Int) > 120
  · rw [if_pos hc]; exact ends _ (by omega)
  · rw [if_neg hc, hg]
    simp only [Option.bind_some]
    cases b with
    | true => exact ends _ (by omega)
    | false =>
      obtain ⟨h1, h2⟩ := hf rfl
      simp only [wapentakelaw01_NumBack.j0]
      rw [if_neg (by decide), mkB_size]
      by_cases h3 : (s.length : Int) > 20000
      · rw [if_pos h3, if_pos (by omega), if_pos (by omega), mkB_extract]
        exact back_j1 _ (by rw [List.length_take]; omega) l ls (by omega) hb h1 h2
      · rw [if_neg h3]
        exact back_j1 _ (by omega) l ls (by omega) hb h1 h2
end Go.Proofs.Ythdjecgiefednaa.Pure
