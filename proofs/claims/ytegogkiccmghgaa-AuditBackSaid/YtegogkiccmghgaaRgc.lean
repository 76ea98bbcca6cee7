/- Reading rings: what a row of bytes says, and the two readers walked. -/
import Derived.Test.YtegogkiccmghgaaRgb
namespace Go.Proofs.Ytegogkiccmghgaa.Wt
open Go Go.Proofs.Ytegogkiccmghgaa.Am Go.Proofs.Ytegogkiccmghgaa.IrAll
set_option linter.unusedVariables false
set_option linter.unusedSimpArgs false
variable {h base : H} {L : List Seg} {R : List Nat}
def cont (l : List Rw) (o : Option (List Rw × List UInt8)) : Option (List Rw × List UInt8) := match o with
  | none => none
  | some p => some (l ++ p.1, p.2)
def rdRows : Nat → List UInt8 → Option (List Rw × List UInt8)
  | 0, s => some ([], s)
  | n + 1, a :: b :: c0 :: c1 :: c2 :: c3 :: c4 :: c5 :: c6 :: c7 :: s => match getV s with
    | none => none
    | some p => cont [⟨a, b, c0, c1, c2, c3, c4, c5, c6, c7, UInt64.ofNat p.1⟩] (rdRows n (s.drop p.2))
  | _ + 1, _ => none
theorem ten {s : List UInt8} (h : 10 ≤ s.length) : ∃ a b c0 c1 c2 c3 c4 c5 c6 c7 t, s = a :: b :: c0 :: c1 :: c2 :: c3 :: c4 :: c5 :: c6 :: c7 :: t := by
  match s, h with
  | a :: b :: c0 :: c1 :: c2 :: c3 :: c4 :: c5 :: c6 :: c7 :: t, _ => exact ⟨a, b, c0, c1, c2, c3, c4, c5, c6, c7, t, rfl⟩
theorem rdRows_short {n : Nat} {s : List UInt8} (h : s.length < 10) : rdRows (n + 1) s = none := by
  rw [rdRows]
  intro a b c0 c1 c2 c3 c4 c5 c6 c7 t e
  subst e; simp at h; omega
theorem rdRows_none {n : Nat} {s : List UInt8} (h : getV (s.drop 10) = none) : rdRows (n + 1) s = none := by
  by_cases c : s.length < 10
  · exact rdRows_short c
  · obtain ⟨a, b, c0, c1, c2, c3, c4, c5, c6, c7, t, rfl⟩ := ten (by omega : 10 ≤ s.length)
    have h2 : getV t = none := h
    rw [rdRows, h2]
theorem cont_nil (o : Option (List Rw × List UInt8)) : cont [] o = o := by cases o <;> rfl
theorem cont_cont (l m : List Rw) (o : Option (List Rw × List UInt8)) : cont l (cont m o) = cont (l ++ m) o := by
  cases o with
  | none => rfl
  | some p => simp [cont]
theorem rdRows_at {n p q k : Nat} {s : List UInt8} {a b c0 c1 c2 c3 c4 c5 c6 c7 : UInt8} (ha : s[p]? = some a) (hb : s[p + 1]? = some b) (h0 : s[p + 2 + 0]? = some c0) (h1 : s[p + 2 + 1]? = some c1) (h2 : s[p + 2 + 2]? = some c2) (h3 : s[p + 2 + 3]? = some c3) (h4 : s[p + 2 + 4]? = some c4) (h5 : s[p + 2 + 5]? = some c5) (h6 : s[p + 2 + 6]? = some c6) (h7 : s[p + 2 + 7]? = some c7)
    (hq : getV (s.drop (p + 10)) = some (q, k)) : rdRows (n + 1) (s.drop p) = cont [⟨a, b, c0, c1, c2, c3, c4, c5, c6, c7, UInt64.ofNat q⟩] (rdRows n (s.drop (p + 10 + k))) := by
  rw [drop_cons ha, drop_cons hb, drop_cons h0, drop_cons h1, drop_cons h2, drop_cons h3, drop_cons h4, drop_cons h5, drop_cons h6, drop_cons h7, rdRows]
  rw [show p + 2 + 7 + 1 = p + 10 by omega, hq]
  simp only [List.drop_drop]
theorem rdRows_at0 {n q k : Nat} {s : List UInt8} {a b c0 c1 c2 c3 c4 c5 c6 c7 : UInt8} (ha : s[0]? = some a) (hb : s[1]? = some b) (h8 : (s.drop 2).take 8 = [c0, c1, c2, c3, c4, c5, c6, c7])
    (hq : getV (s.drop 10) = some (q, k)) : rdRows (n + 1) s = cont [⟨a, b, c0, c1, c2, c3, c4, c5, c6, c7, UInt64.ofNat q⟩] (rdRows n (s.drop (10 + k))) := by
  have e1 : s = a :: s.drop 1 := by have := drop_cons ha; simpa using this
  have e2 := drop_cons hb
  have e3 : s.drop 2 = [c0, c1, c2, c3, c4, c5, c6, c7] ++ s.drop 10 := by rw [← h8, show s.drop 10 = (s.drop 2).drop 8 by rw [List.drop_drop], List.take_append_drop]
  rw [show rdRows (n + 1) s = rdRows (n + 1) (a :: b :: ([c0, c1, c2, c3, c4, c5, c6, c7] ++ s.drop 10)) by rw [← e3, ← e2, ← e1]]
  show rdRows (n + 1) (a :: b :: c0 :: c1 :: c2 :: c3 :: c4 :: c5 :: c6 :: c7 :: s.drop 10) = _
  rw [rdRows, hq]
  simp only [List.drop_drop]
def rd (s : List UInt8) : Option (Nat × List Rw) := match getV s with
  | none => none
  | some p => match rdRows (min p.1 8) (s.drop p.2) with
    | none => none
    | some q => if q.2 = [] then some (p.1, q.1) else none
theorem getV_yes {s : List UInt8} (h : rvOK s = true) : getV s = some (rvN s, rvK s) := by rw [getV_eq, h]; rfl
theorem getV_no {s : List UInt8} (h : rvOK s = false) : getV s = none := by rw [getV_eq, h]; rfl
theorem rd_no {s : List UInt8} (h : rvOK s = false) : rd s = none := by unfold rd; rw [getV_no h]
theorem rd_yes {s : List UInt8} {l : List Rw} (h : rvOK s = true) (h2 : rdRows (min (rvN s) 8) (s.drop (rvK s)) = some (l, [])) : rd s = some (rvN s, l) := by
  unfold rd; rw [getV_yes h]; simp only [h2]; rfl
theorem rd_bad {s : List UInt8} (h : rvOK s = true) (h2 : rdRows (min (rvN s) 8) (s.drop (rvK s)) = none) : rd s = none := by
  unfold rd; rw [getV_yes h]; simp only [h2]
theorem rd_rest {s r : List UInt8} {l : List Rw} (h : rvOK s = true) (h2 : rdRows (min (rvN s) 8) (s.drop (rvK s)) = some (l, r)) (hr : r ≠ []) : rd s = none := by
  unfold rd; rw [getV_yes h]; simp only [h2]; rw [if_neg hr]
theorem addv_lt {l : List Rw} (x : Rw) (h : l.length < 8) : addv l x = l ++ [x] := by unfold addv; rw [if_pos h]
theorem inv_bad {X : Option (List Rw × List UInt8)} {l : List Rw} {s : List UInt8} {K i : Nat} (h : X = cont l (rdRows (K - i) s)) (hi : i < K) (h2 : rdRows (K - i - 1 + 1) s = none) : X = none := by
  rw [h, show K - i = K - i - 1 + 1 by omega, h2]; rfl
theorem inv_end {X : Option (List Rw × List UInt8)} {l : List Rw} {s : List UInt8} {K i : Nat} (h : X = cont l (rdRows (K - i) s)) (hi : K ≤ i) : X = some (l, s) := by
  rw [h, show K - i = 0 by omega]; simp [rdRows, cont]
theorem inv_step {X : Option (List Rw × List UInt8)} {l : List Rw} {s t : List UInt8} {K i : Nat} {x : Rw} (h : X = cont l (rdRows (K - i) s)) (hi : i < K) (h2 : rdRows (K - i - 1 + 1) s = cont [x] (rdRows (K - i - 1) t)) : X = cont (l ++ [x]) (rdRows (K - (i + 1)) t) := by
  rw [h, show K - i = K - i - 1 + 1 by omega, h2, cont_cont, show K - (i + 1) = K - i - 1 by omega]
set_option maxRecDepth 8000 in
theorem ring_Read_ran (W : Mem h h [] []) {s : List UInt8} (hl : s.length ≤ 100000) : Cll tab0 18 [.string (bs s)] h (fun v h2 => (rd s = none ∧ v = .tuple #[.pointer none, .bool false] ∧ Mem h h2 [] []) ∨ (∃ n l p cs, rd s = some (n, l) ∧ Ring cs l n ∧ v = .tuple #[.pointer (some ⟨p, 0, none⟩), .bool true] ∧ Mem h h2 [[(p, ⟨cs, 0, false⟩)]] [])) := by
  have hk := rvK_le s
  have hn64 := rvN_lt s
  refine Cll.code rfl rfl ?_
  refine WC.env [(0, _)] rfl ?_
  refine WC.seq ?_
  refine WC.run ?_
  refine WS.op rfl rfl (WS.op rfl rfl (WS.nil [(0, _)] rfl ?_))
  refine WC.seq ?_
  refine WC.run ?_
  refine WS.op rfl rfl ?_
  refine WS.call rfl rfl rfl (num_ReadV_ran W.here (l := s) (by first | omega | (simp only [List.length_drop, List.length_take, List.length_append, List.length_cons, List.length_nil, List.length_singleton]; omega) | (simp only [List.length_drop, List.length_take, List.length_append, List.length_cons, List.length_nil, List.length_singleton] at *; omega))) ?_
  rintro _ h1 ⟨rfl, N2⟩
  have M3 := W.trans N2
  refine WS.op rfl rfl (WS.op rfl rfl (WS.op rfl rfl (WS.op rfl rfl (WS.op rfl rfl (WS.op rfl rfl (WS.op rfl rfl (WS.nil [(0, _), (4, _), (5, _), (6, _)] rfl ?_)))))))
  refine WC.seq ?_
  refine WC.seq ?_
  refine WC.run ?_
  refine WS.op rfl rfl ?_
  cases hb1 : (rvOK s)
  · skip
    refine WS.opV (.bool true) rfl rfl rfl (WS.nil [(0, _), (4, _), (5, _), (20, _)] rfl ?_)
    refine WC.condT rfl ?_
    refine WC.seq ?_
    refine WC.run ?_
    refine WS.op rfl rfl (WS.op rfl rfl (WS.nil [(2, _), (3, _)] rfl ?_))
    refine WC.ret ?_
    refine ⟨[_, _], (res_tmp rfl (res_tmp rfl res_nil)), ?_⟩
    exact .inl ⟨by first | exact rd_no (by assumption) | exact rd_bad (by assumption) (inv_bad hX (by omega) (rdRows_short (by omega))) | exact rd_bad (by assumption) (inv_bad hX (by omega) (rdRows_none (getV_no (by assumption)))) | exact rd_rest (by assumption) (inv_end hX (by omega)) (by assumption), rfl, M3.bare.take 0⟩
  · skip
    refine WS.opV (.bool false) rfl rfl rfl (WS.nil [(0, _), (4, _), (5, _), (20, _)] rfl ?_)
    refine WC.condF rfl ?_
    refine WC.skip ?_
    refine WC.seq ?_
    refine WC.run ?_
    refine WS.call rfl rfl rfl (ring_New_ran M3.here) ?_
    rintro _ h5 ⟨p8, cs9, G10, rfl, N6⟩
    have M7 := M3.trans N6
    replace M7 : Mem _ _ ([(p8, _)] :: []) _ := M7
    refine WS.op rfl rfl (WS.nil [(0, _), (4, _), (5, _), (7, _)] rfl ?_)
    refine WC.seq ?_
    refine WC.run ?_
    refine WS.op rfl rfl (WS.op rfl rfl (WS.op rfl (op_slS0 (l := s) (rvK s) rfl rfl (by first | omega | (simp only [List.length_drop, List.length_take, List.length_append, List.length_cons, List.length_nil, List.length_singleton]; omega) | (simp only [List.length_drop, List.length_take, List.length_append, List.length_cons, List.length_nil, List.length_singleton] at *; omega))) (WS.op rfl rfl (WS.nil [(4, _), (7, _), (8, _)] rfl ?_))))
    refine WC.seq ?_
    refine WC.seq ?_
    refine WC.run ?_
    refine WS.op rfl rfl (WS.opV (.int .u64 (((min (rvN s) 8) : Nat) : Int)) rfl rfl (mm_min (a := (rvN s)) (b := 8)) (WS.op rfl rfl (WS.nil [(4, _), (7, _), (8, _), (26, _), (27, _)] rfl ?_)))
    refine WC.block ?_
    obtain ⟨L11, eL13, M12⟩ := Mem.name1 (M7.bare.focus 0 rfl)
    refine WC.loop (σ := List UInt8 × List Value × List Rw × Nat × Nat) (fun ((rest, cs, l, t, i)) => [(4, (.int .u64 (((rvN s) : Nat) : Int))), (7, (.pointer (some ⟨p8, 0, none⟩))), (8, (.string (bs rest))), (26, (.int .u64 (((min (rvN s) 8) : Nat) : Int))), (27, (.int .u64 ((i : Nat) : Int)))]) (fun ((rest, cs, l, t, i)) hh => Mem h hh ([(p8, ⟨cs, 0, false⟩)] :: L11) [] ∧ Ring cs l t ∧ rdRows (min (rvN s) 8) (s.drop (rvK s)) = cont l (rdRows (min (rvN s) 8 - i) rest) ∧ i ≤ min (rvN s) 8 ∧ l.length = i ∧ rest.length ≤ s.length) (fun ((rest, cs, l, t, i)) => min (rvN s) 8 - i) (s.drop (rvK s), cs9, [], 0, 0) rfl ⟨(by exact M12), ?_⟩ ?_
    · exact ⟨by assumption, by rw [cont_nil]; rfl, by omega, rfl, by rw [List.length_drop]; omega⟩
    · rintro ⟨rest, cs, l, t, i⟩ h14 ⟨M15, ⟨G, hX, hi1, hli, hrl⟩⟩
      subst eL13
      refine WC.env [(4, _), (7, _), (8, _), (26, _), (27, _)] rfl ?_
      refine WC.seq ?_
      refine WC.run ?_
      refine WS.lssN (a := i) (b := (min (rvN s) 8)) rfl rfl rfl (fun e28 => ?_) (fun e28 => ?_)
      · skip
        refine WS.nil [(4, _), (7, _), (8, _), (26, _), (27, _), (28, _)] rfl ?_
        refine WC.seq ?_
        refine WC.condT rfl ?_
        refine WC.skip ?_
        refine WC.seq ?_
        refine WC.block ?_
        refine WC.seq ?_
        refine WC.seq ?_
        refine WC.run ?_
        refine WS.op rfl rfl (WS.op rfl (op_lenS (l := rest) rfl) ?_)
        refine WS.lssN (a := (rest).length) (b := 10) rfl rfl rfl (fun e31 => ?_) (fun e31 => ?_)
        · skip
          refine WS.nil [(4, _), (7, _), (8, _), (26, _), (27, _), (31, _)] rfl ?_
          refine WC.condT rfl ?_
          refine WC.seq ?_
          refine WC.run ?_
          refine WS.op rfl rfl (WS.op rfl rfl (WS.nil [(2, _), (3, _)] rfl ?_))
          refine WC.ret ?_
          refine ⟨[_, _], (res_tmp rfl (res_tmp rfl res_nil)), ?_⟩
          exact .inl ⟨by first | exact rd_no (by assumption) | exact rd_bad (by assumption) (inv_bad hX (by omega) (rdRows_short (by omega))) | exact rd_bad (by assumption) (inv_bad hX (by omega) (rdRows_none (getV_no (by assumption)))) | exact rd_rest (by assumption) (inv_end hX (by omega)) (by assumption), rfl, M15.bare.take 0⟩
        · skip
          refine WS.nil [(4, _), (7, _), (8, _), (26, _), (27, _), (31, _)] rfl ?_
          refine WC.condF rfl ?_
          refine WC.skip ?_
          refine WC.seq ?_
          refine WC.draw M15 [5] rfl ?_
          intro rb16 h17 M18
          refine WS.op rfl rfl ?_
          obtain ⟨ca, hca⟩ : ∃ c, (rest)[0]? = some c := ⟨_, List.getElem?_eq_getElem (show 0 < (rest).length by first | omega | (simp only [List.length_drop, List.length_take, List.length_append, List.length_cons, List.length_nil, List.length_singleton]; omega) | (simp only [List.length_drop, List.length_take, List.length_append, List.length_cons, List.length_nil, List.length_singleton] at *; omega))⟩
          refine WS.op rfl (op_ixS 0 rfl rfl hca) (WS.op rfl rfl ?_)
          obtain ⟨cb, hcb⟩ : ∃ c, (rest)[1]? = some c := ⟨_, List.getElem?_eq_getElem (show 1 < (rest).length by first | omega | (simp only [List.length_drop, List.length_take, List.length_append, List.length_cons, List.length_nil, List.length_singleton]; omega) | (simp only [List.length_drop, List.length_take, List.length_append, List.length_cons, List.length_nil, List.length_singleton] at *; omega))⟩
          refine WS.op rfl (op_ixS 1 rfl rfl hcb) (WS.opV (.agg #[(.int .u8 (((ca).toNat : Nat) : Int)), (.int .u8 (((cb).toNat : Nat) : Int)), (.int .u8 (0 : Int)), (.int .u8 (0 : Int)), (.int .u8 (0 : Int)), (.int .u8 (0 : Int)), (.int .u8 (0 : Int)), (.int .u8 (0 : Int)), (.int .u8 (0 : Int)), (.int .u8 (0 : Int)), (.int .u64 (0 : Int))]) rfl rfl rfl ?_)
          refine WS.newA M18 0 rfl rfl ?_
          intro h20 M21
          refine WS.st1 (M21.focus 0 rfl) [_, _, _, _, _, _, _, _, _, _, _] [_, _, _, _, _, _, _, _, _, _, _] rfl rfl rfl rfl rfl (Nat.le_of_ble_eq_true rfl) (Nat.le_of_ble_eq_true rfl) rfl rfl ?_
          intro h22 M23
          replace M23 : Mem _ _ ([((rb16 + 5), _)] :: [(p8, _)] :: []) _ := M23
          refine WS.nil [(4, _), (7, _), (8, _), (9, _), (26, _), (27, _)] rfl ?_
          refine WC.seq ?_
          refine WC.draw M23.bare [] rfl ?_
          intro rb24 h25 M26
          refine WS.op rfl rfl (WS.opV (.slice (some ⟨(rb16 + 5), 2, none⟩) 8 17) rfl rfl rfl (WS.op rfl rfl (WS.op rfl (op_slS0 (l := rest) 2 rfl rfl (by first | omega | (simp only [List.length_drop, List.length_take, List.length_append, List.length_cons, List.length_nil, List.length_singleton]; omega) | (simp only [List.length_drop, List.length_take, List.length_append, List.length_cons, List.length_nil, List.length_singleton] at *; omega))) ?_)))
          obtain ⟨c27, c28, c29, c30, c31, c32, c33, c34, h8_35⟩ := take8 (l := ((rest).drop 2)) (by first | omega | (simp only [List.length_drop, List.length_take, List.length_append, List.length_cons, List.length_nil, List.length_singleton]; omega) | (simp only [List.length_drop, List.length_take, List.length_append, List.length_cons, List.length_nil, List.length_singleton] at *; omega))
          refine WS.cpyS (l := ((rest).drop 2)) (M26.focus 0 rfl) [(.int .u8 (((c27).toNat : Nat) : Int)), (.int .u8 (((c28).toNat : Nat) : Int)), (.int .u8 (((c29).toNat : Nat) : Int)), (.int .u8 (((c30).toNat : Nat) : Int)), (.int .u8 (((c31).toNat : Nat) : Int)), (.int .u8 (((c32).toNat : Nat) : Int)), (.int .u8 (((c33).toNat : Nat) : Int)), (.int .u8 (((c34).toNat : Nat) : Int))] [_, _, _, _, _, _, _, _, _, _, _] rfl rfl rfl rfl (by rw [h8_35]; rfl) rfl (Nat.le_of_ble_eq_true rfl) (Nat.le_of_ble_eq_true rfl) rfl rfl ?_
          intro h36 M37
          replace M37 : Mem _ _ ([((rb16 + 5), _)] :: [(p8, _)] :: []) _ := M37
          refine WS.nil [(4, _), (7, _), (8, _), (9, _), (26, _), (27, _)] rfl ?_
          refine WC.seq ?_
          refine WC.run ?_
          have hk2 := rvK_le (rest.drop 10)
          refine WS.op rfl rfl (WS.op rfl (op_slS0 (l := rest) 10 rfl rfl (by first | omega | (simp only [List.length_drop, List.length_take, List.length_append, List.length_cons, List.length_nil, List.length_singleton]; omega) | (simp only [List.length_drop, List.length_take, List.length_append, List.length_cons, List.length_nil, List.length_singleton] at *; omega))) ?_)
          refine WS.call rfl rfl rfl (num_ReadV_ran M37.bare.here (l := ((rest).drop 10)) (by first | omega | (simp only [List.length_drop, List.length_take, List.length_append, List.length_cons, List.length_nil, List.length_singleton]; omega) | (simp only [List.length_drop, List.length_take, List.length_append, List.length_cons, List.length_nil, List.length_singleton] at *; omega))) ?_
          rintro _ h38 ⟨rfl, N39⟩
          have M40 := M37.bare.trans N39
          refine WS.op rfl rfl (WS.opV (.int .u64 (((UInt64.ofNat (rvN ((rest).drop 10))).toNat : Nat) : Int)) rfl rfl (u64_ofNat (n := (rvN ((rest).drop 10))) (by have := rvN_lt ((rest).drop 10); omega)) (WS.op rfl rfl (WS.op rfl rfl (WS.op rfl rfl (WS.op rfl rfl (WS.op rfl rfl (WS.nil [(4, _), (7, _), (8, _), (9, _), (10, _), (11, _), (12, _), (26, _), (27, _)] rfl ?_)))))))
          refine WC.seq ?_
          refine WC.seq ?_
          refine WC.run ?_
          refine WS.op rfl rfl ?_
          cases hb2 : (rvOK ((rest).drop 10))
          · skip
            refine WS.opV (.bool true) rfl rfl rfl (WS.nil [(4, _), (7, _), (8, _), (9, _), (10, _), (11, _), (26, _), (27, _), (50, _)] rfl ?_)
            refine WC.condT rfl ?_
            refine WC.seq ?_
            refine WC.run ?_
            refine WS.op rfl rfl (WS.op rfl rfl (WS.nil [(2, _), (3, _)] rfl ?_))
            refine WC.ret ?_
            refine ⟨[_, _], (res_tmp rfl (res_tmp rfl res_nil)), ?_⟩
            exact .inl ⟨by first | exact rd_no (by assumption) | exact rd_bad (by assumption) (inv_bad hX (by omega) (rdRows_short (by omega))) | exact rd_bad (by assumption) (inv_bad hX (by omega) (rdRows_none (getV_no (by assumption)))) | exact rd_rest (by assumption) (inv_end hX (by omega)) (by assumption), rfl, M40.bare.take 0⟩
          · skip
            refine WS.opV (.bool false) rfl rfl rfl (WS.nil [(4, _), (7, _), (8, _), (9, _), (10, _), (11, _), (26, _), (27, _), (50, _)] rfl ?_)
            refine WC.condF rfl ?_
            refine WC.skip ?_
            refine WC.seq ?_
            refine WC.run ?_
            refine WS.op rfl rfl (WS.op rfl rfl ?_)
            refine WS.st1 (M40.focus 0 rfl) [_] [_, _, _, _, _, _, _, _, _, _, _] rfl rfl rfl rfl rfl (Nat.le_of_ble_eq_true rfl) (Nat.le_of_ble_eq_true rfl) rfl rfl ?_
            intro h42 M43
            replace M43 : Mem _ _ ([((rb16 + 5), _)] :: [(p8, _)] :: []) _ := M43
            refine WS.nil [(4, _), (7, _), (8, _), (9, _), (11, _), (26, _), (27, _)] rfl ?_
            refine WC.seq ?_
            refine WC.run ?_
            refine WS.op rfl rfl (WS.op rfl rfl (WS.opV (.int .i64 (((10 + (rvK ((rest).drop 10))) : Nat) : Int)) rfl rfl (add_i64 (a := 10) (b := (rvK ((rest).drop 10))) (by have := rvK_le ((rest).drop 10); omega)) (WS.op rfl (op_slS0 (l := rest) (10 + (rvK ((rest).drop 10))) rfl rfl (by first | omega | (simp only [List.length_drop, List.length_take, List.length_append, List.length_cons, List.length_nil, List.length_singleton]; omega) | (simp only [List.length_drop, List.length_take, List.length_append, List.length_cons, List.length_nil, List.length_singleton] at *; omega))) (WS.op rfl rfl (WS.nil [(4, _), (7, _), (8, _), (9, _), (26, _), (27, _)] rfl ?_)))))
            refine WC.run ?_
            refine WS.op rfl rfl (WS.op rfl (op_lds [_, _, _, _, _, _, _, _, _, _, _] (M43.at 0 rfl) rfl (Nat.le_of_ble_eq_true rfl) rfl) ?_)
            refine WS.call rfl rfl rfl (ring_Add_ran (x := (⟨ca, cb, c27, c28, c29, c30, c31, c32, c33, c34, (UInt64.ofNat (rvN ((rest).drop 10)))⟩ : Rw)) G (M43.focus 1 rfl)) ?_
            rintro _ h44 ⟨cs46, G47, rfl, M45⟩
            replace M45 : Mem _ _ ([(p8, _)] :: [((rb16 + 5), _)] :: []) _ := M45
            refine WS.nil [(4, _), (7, _), (8, _), (26, _), (27, _)] rfl ?_
            refine WC.run ?_
            refine WS.opV (.int .u64 (((i + 1) : Nat) : Int)) rfl rfl (add_u64 (a := i) (b := 1) (by omega)) (WS.op rfl rfl (WS.nil [(4, _), (7, _), (8, _), (26, _), (27, _)] rfl ?_))
            refine ⟨(((rest).drop (10 + (rvK ((rest).drop 10)))), cs46, (addv l (⟨ca, cb, c27, c28, c29, c30, c31, c32, c33, c34, (UInt64.ofNat (rvN ((rest).drop 10)))⟩ : Rw)), (addt t), i + 1), rfl, ⟨((M45.bare.focus 0 rfl).take 1), ?_⟩, ?_⟩
            · exact ⟨G47, by rw [addv_lt _ (by omega)]; exact inv_step hX (by omega) (rdRows_at0 hca hcb h8_35 (getV_yes (by assumption))), by omega, by rw [addv_lt _ (by omega)]; simp [hli], by rw [List.length_drop]; omega⟩
            · simp only []; omega
      · skip
        refine WS.nil [(4, _), (7, _), (8, _), (26, _), (27, _), (28, _)] rfl ?_
        refine WC.seq ?_
        refine WC.condF rfl ?_
        refine WC.exit ?_
        refine WC.seq ?_
        refine WC.run ?_
        refine WS.op rfl rfl (WS.op rfl rfl (WS.op rfl rfl (WS.op rfl rfl ?_)))
        obtain ⟨cs48, hs50, hle51, G49⟩ := Ring.tot G (rvN_lt s)
        refine WS.st1 (M15.focus 0 rfl) [.int .u64 ((rvN s : Nat) : Int)] cs48 rfl rfl rfl rfl rfl (Nat.le_of_ble_eq_true rfl) hle51 rfl hs50 ?_
        intro h52 M53
        replace M53 : Mem _ _ ([(p8, _)] :: []) _ := M53
        refine WS.nil [(7, _), (8, _)] rfl ?_
        refine WC.seq ?_
        refine WC.seq ?_
        refine WC.run ?_
        refine WS.op rfl rfl ?_
        refine WS.sneq (l := rest) (m := []) rfl rfl rfl (fun e66 => ?_) (fun e66 => ?_)
        · skip
          refine WS.nil [(7, _), (66, _)] rfl ?_
          refine WC.condT rfl ?_
          refine WC.seq ?_
          refine WC.run ?_
          refine WS.op rfl rfl (WS.op rfl rfl (WS.nil [(2, _), (3, _)] rfl ?_))
          refine WC.ret ?_
          refine ⟨[_, _], (res_tmp rfl (res_tmp rfl res_nil)), ?_⟩
          exact .inl ⟨by first | exact rd_no (by assumption) | exact rd_bad (by assumption) (inv_bad hX (by omega) (rdRows_short (by omega))) | exact rd_bad (by assumption) (inv_bad hX (by omega) (rdRows_none (getV_no (by assumption)))) | exact rd_rest (by assumption) (inv_end hX (by omega)) (by assumption), rfl, M53.bare.take 0⟩
        · skip
          refine WS.nil [(7, _), (66, _)] rfl ?_
          refine WC.condF rfl ?_
          refine WC.skip ?_
          refine WC.seq ?_
          refine WC.run ?_
          refine WS.op rfl rfl (WS.op rfl rfl (WS.op rfl rfl (WS.nil [(2, _), (3, _)] rfl ?_)))
          refine WC.ret ?_
          refine ⟨[_, _], (res_tmp rfl (res_tmp rfl res_nil)), ?_⟩
          exact .inr ⟨_, l, _, _, rd_yes (by assumption) ((inv_end hX (by omega)).trans (by rw [(by assumption : rest = [])])), G49, rfl, ((M53.bare.focus 0 rfl).take 1)⟩
set_option maxRecDepth 8000 in
theorem ref19_Read_ran (W : Mem h h [] []) {s : List UInt8} (hl : s.length ≤ 100000) : Cll tab0 19 [.string (bs s)] h (fun v h2 => ∃ V S l, ∃ n : Nat, ∃ ok, KRw.Own V l S ∧ v = .tuple #[.agg #[V, .int .u64 (n : Int)], .bool ok] ∧ n < 18446744073709551616 ∧ (ok = true → rd s = some (n, l)) ∧ (ok = false → rd s = none) ∧ Mem h h2 [S] []) := by
  have hk := rvK_le s
  have hn64 := rvN_lt s
  refine Cll.code rfl rfl ?_
  refine WC.env [(0, _)] rfl ?_
  refine WC.seq ?_
  refine WC.run ?_
  refine WS.new W rfl ?_
  intro p1 h2 M3
  refine WS.op rfl rfl (WS.nil [(0, _), (2, _)] rfl ?_)
  refine WC.seq ?_
  refine WC.run ?_
  refine WS.op rfl rfl ?_
  refine WS.call rfl rfl rfl (ref_ReadV_ran M3.here (l := s) (by first | omega | (simp only [List.length_drop, List.length_take, List.length_append, List.length_cons, List.length_nil, List.length_singleton]; omega) | (simp only [List.length_drop, List.length_take, List.length_append, List.length_cons, List.length_nil, List.length_singleton] at *; omega))) ?_
  rintro _ h4 ⟨rfl, N5⟩
  have M6 := M3.trans N5
  refine WS.op rfl rfl (WS.op rfl rfl (WS.op rfl rfl (WS.op rfl rfl (WS.op rfl rfl (WS.op rfl rfl (WS.op rfl rfl (WS.nil [(0, _), (2, _), (4, _), (5, _), (6, _)] rfl ?_)))))))
  refine WC.seq ?_
  refine WC.seq ?_
  refine WC.run ?_
  refine WS.op rfl rfl ?_
  cases hb1 : (rvOK s)
  · skip
    refine WS.opV (.bool true) rfl rfl rfl (WS.nil [(0, _), (2, _), (4, _), (5, _), (21, _)] rfl ?_)
    refine WC.condT rfl ?_
    refine WC.seq ?_
    refine WC.run ?_
    refine WS.opV (.agg #[(.slice none 0 0), (.int .u64 (0 : Int))]) rfl rfl rfl ?_
    refine WS.st1 (M6.focus 0 rfl) [_, _] [_, _] rfl rfl rfl rfl rfl (Nat.le_of_ble_eq_true rfl) (Nat.le_of_ble_eq_true rfl) rfl rfl ?_
    intro h8 M9
    replace M9 : Mem _ _ ([(p1, _)] :: []) _ := M9
    refine WS.op rfl rfl (WS.nil [(2, _), (3, _)] rfl ?_)
    refine WC.ret ?_
    refine ⟨[_, _], (res_cellN [_, _] rfl (M9.at 0 rfl) (Nat.le_of_ble_eq_true rfl) rfl (res_tmp rfl res_nil)), ?_⟩
    exact ⟨_, _, _, 0, false, .nil, rfl, by omega, (fun q => nomatch q), (fun _ => by first | exact rd_no (by assumption) | exact rd_bad (by assumption) (inv_bad hX (by omega) (rdRows_short (by rw [List.length_drop]; omega))) | exact rd_bad (by assumption) (inv_bad hX (by omega) (rdRows_none (by rw [List.drop_drop]; exact getV_no (by assumption)))) | exact rd_rest (by assumption) (inv_end hX (by omega)) (by intro q; have := congrArg List.length q; rw [List.length_drop] at this; simp at this; omega)), ((M9.bare.take 0).nils)⟩
  · skip
    refine WS.opV (.bool false) rfl rfl rfl (WS.nil [(0, _), (2, _), (4, _), (5, _), (21, _)] rfl ?_)
    refine WC.condF rfl ?_
    refine WC.skip ?_
    refine WC.seq ?_
    refine WC.run ?_
    refine WS.op rfl rfl (WS.opV (.agg #[(.slice none 0 0), (.int .u64 (((rvN s) : Nat) : Int))]) rfl rfl rfl ?_)
    refine WS.new M6 rfl ?_
    intro p10 h11 M12
    refine WS.st1 (M12.focus 0 rfl) [_, _] [_, _] rfl rfl rfl rfl rfl (Nat.le_of_ble_eq_true rfl) (Nat.le_of_ble_eq_true rfl) rfl rfl ?_
    intro h13 M14
    replace M14 : Mem _ _ ([(p10, _)] :: [(p1, _)] :: []) _ := M14
    refine WS.nil [(0, _), (2, _), (4, _), (5, _), (7, _)] rfl ?_
    refine WC.seq ?_
    refine WC.seq ?_
    refine WC.run ?_
    refine WS.op rfl rfl (WS.nil [(0, _), (2, _), (4, _), (5, _), (7, _), (8, _)] rfl ?_)
    refine WC.block ?_
    obtain ⟨L15, eL17, M16⟩ := Mem.name2 (((M14.bare.focus 0 rfl)).nils)
    refine WC.loop (σ := Value × Seg × Nat × List Rw × Nat) (fun ((Vw, S, at_, l, i)) => [(0, (.string (bs s))), (2, (.pointer (some ⟨p1, 0, none⟩))), (4, (.int .u64 (((rvN s) : Nat) : Int))), (5, (.int .i64 ((at_ : Nat) : Int))), (7, (.pointer (some ⟨p10, 0, none⟩))), (8, (.int .u64 ((i : Nat) : Int)))]) (fun ((Vw, S, at_, l, i)) hh => Mem h hh (S :: [(p10, ⟨[Vw, (.int .u64 (((rvN s) : Nat) : Int))], 0, false⟩)] :: L15) [] ∧ KRw.Own Vw l S ∧ rdRows (min (rvN s) 8) (s.drop (rvK s)) = cont l (rdRows (min (rvN s) 8 - i) (s.drop at_)) ∧ i ≤ min (rvN s) 8 ∧ l.length = i ∧ at_ ≤ s.length) (fun ((Vw, S, at_, l, i)) => min (rvN s) 8 - i) (.slice none 0 0, [], rvK s, [], 0) rfl ⟨(by exact M16), ?_⟩ ?_
    · exact ⟨.nil, by rw [cont_nil]; rfl, by omega, rfl, by omega⟩
    · rintro ⟨Vw, S, at_, l, i⟩ h18 ⟨M19, ⟨hO, hX, hi1, hli, hat⟩⟩
      subst eL17
      refine WC.env [(0, _), (2, _), (4, _), (5, _), (7, _), (8, _)] rfl ?_
      refine WC.seq ?_
      refine WC.seq ?_
      refine WC.run ?_
      refine WS.op rfl rfl (WS.op rfl rfl ?_)
      refine WS.lssN (a := i) (b := (rvN s)) rfl rfl rfl (fun e27 => ?_) (fun e27 => ?_)
      · skip
        refine WS.op rfl rfl (WS.op rfl rfl ?_)
        refine WS.lssN (a := i) (b := 8) rfl rfl rfl (fun e30 => ?_) (fun e30 => ?_)
        · skip
          refine WS.op rfl rfl (WS.nil [(0, _), (2, _), (4, _), (5, _), (7, _), (8, _), (31, _)] rfl ?_)
          refine WC.condT rfl ?_
          refine WC.skip ?_
          refine WC.seq ?_
          refine WC.block ?_
          refine WC.seq ?_
          refine WC.seq ?_
          refine WC.run ?_
          refine WS.op rfl rfl (WS.opV (.int .i64 (((at_ + 10) : Nat) : Int)) rfl rfl (add_i64 (a := at_) (b := 10) (by omega)) (WS.op rfl rfl (WS.op rfl (op_lenS (l := s) rfl) ?_)))
          refine WS.gtrN (a := (at_ + 10)) (b := (s).length) rfl rfl rfl (fun e38 => ?_) (fun e38 => ?_)
          · skip
            refine WS.nil [(0, _), (2, _), (4, _), (5, _), (7, _), (8, _), (38, _)] rfl ?_
            refine WC.condT rfl ?_
            refine WC.seq ?_
            refine WC.run ?_
            refine WS.opV (.agg #[(.slice none 0 0), (.int .u64 (0 : Int))]) rfl rfl rfl ?_
            refine WS.st1 (M19.focus 2 rfl) [_, _] [_, _] rfl rfl rfl rfl rfl (Nat.le_of_ble_eq_true rfl) (Nat.le_of_ble_eq_true rfl) rfl rfl ?_
            intro h20 M21
            replace M21 : Mem _ _ ([(p1, _)] :: S :: [(p10, _)] :: []) _ := M21
            refine WS.op rfl rfl (WS.nil [(2, _), (3, _)] rfl ?_)
            refine WC.ret ?_
            refine ⟨[_, _], (res_cellN [_, _] rfl (M21.at 0 rfl) (Nat.le_of_ble_eq_true rfl) rfl (res_tmp rfl res_nil)), ?_⟩
            exact ⟨_, _, _, 0, false, .nil, rfl, by omega, (fun q => nomatch q), (fun _ => by first | exact rd_no (by assumption) | exact rd_bad (by assumption) (inv_bad hX (by omega) (rdRows_short (by rw [List.length_drop]; omega))) | exact rd_bad (by assumption) (inv_bad hX (by omega) (rdRows_none (by rw [List.drop_drop]; exact getV_no (by assumption)))) | exact rd_rest (by assumption) (inv_end hX (by omega)) (by intro q; have := congrArg List.length q; rw [List.length_drop] at this; simp at this; omega)), ((M21.bare.take 0).nils)⟩
          · skip
            refine WS.nil [(0, _), (2, _), (4, _), (5, _), (7, _), (8, _), (38, _)] rfl ?_
            refine WC.condF rfl ?_
            refine WC.skip ?_
            refine WC.seq ?_
            refine WC.draw M19 [8] rfl ?_
            intro rb22 h23 M24
            refine WS.op rfl rfl (WS.op rfl rfl ?_)
            obtain ⟨ca, hca⟩ : ∃ c, (s)[at_]? = some c := ⟨_, List.getElem?_eq_getElem (show at_ < (s).length by first | omega | (simp only [List.length_drop, List.length_take, List.length_append, List.length_cons, List.length_nil, List.length_singleton]; omega) | (simp only [List.length_drop, List.length_take, List.length_append, List.length_cons, List.length_nil, List.length_singleton] at *; omega))⟩
            refine WS.op rfl (op_ixS at_ rfl rfl hca) (WS.op rfl rfl (WS.op rfl rfl (WS.opV (.int .i64 (((at_ + 1) : Nat) : Int)) rfl rfl (add_i64 (a := at_) (b := 1) (by omega)) ?_)))
            obtain ⟨cb, hcb⟩ : ∃ c, (s)[(at_ + 1)]? = some c := ⟨_, List.getElem?_eq_getElem (show (at_ + 1) < (s).length by first | omega | (simp only [List.length_drop, List.length_take, List.length_append, List.length_cons, List.length_nil, List.length_singleton]; omega) | (simp only [List.length_drop, List.length_take, List.length_append, List.length_cons, List.length_nil, List.length_singleton] at *; omega))⟩
            refine WS.op rfl (op_ixS (at_ + 1) rfl rfl hcb) (WS.opV (.agg #[(.int .u8 (((ca).toNat : Nat) : Int)), (.int .u8 (((cb).toNat : Nat) : Int)), (.int .u8 (0 : Int)), (.int .u8 (0 : Int)), (.int .u8 (0 : Int)), (.int .u8 (0 : Int)), (.int .u8 (0 : Int)), (.int .u8 (0 : Int)), (.int .u8 (0 : Int)), (.int .u8 (0 : Int)), (.int .u64 (0 : Int))]) rfl rfl rfl ?_)
            refine WS.newA M24 0 rfl rfl ?_
            intro h26 M27
            refine WS.st1 (M27.focus 0 rfl) [_, _, _, _, _, _, _, _, _, _, _] [_, _, _, _, _, _, _, _, _, _, _] rfl rfl rfl rfl rfl (Nat.le_of_ble_eq_true rfl) (Nat.le_of_ble_eq_true rfl) rfl rfl ?_
            intro h28 M29
            replace M29 : Mem _ _ ([((rb22 + 8), _)] :: S :: [(p10, _)] :: [(p1, _)] :: []) _ := M29
            refine WS.nil [(0, _), (2, _), (4, _), (5, _), (7, _), (8, _), (9, _)] rfl ?_
            refine WC.seq ?_
            refine WC.seq ?_
            refine WC.run ?_
            refine WS.op rfl rfl (WS.nil [(0, _), (2, _), (4, _), (5, _), (7, _), (8, _), (9, _), (10, _)] rfl ?_)
            refine WC.block ?_
            refine WC.unroll [(0, _), (2, _), (4, _), (5, _), (7, _), (8, _), (9, _), (10, _)] rfl ?_
            refine WC.seq ?_
            refine WC.seq ?_
            refine WC.run ?_
            refine WS.op rfl rfl (WS.opV (.bool true) rfl rfl rfl (WS.nil [(0, _), (2, _), (4, _), (5, _), (7, _), (8, _), (9, _), (10, _), (49, _)] rfl ?_))
            refine WC.condT rfl ?_
            refine WC.skip ?_
            refine WC.seq ?_
            refine WC.block ?_
            refine WC.run ?_
            refine WS.op rfl rfl (WS.op rfl rfl (WS.op rfl rfl (WS.opV (.int .i64 (((at_ + 2) : Nat) : Int)) rfl rfl (add_i64 (a := at_) (b := 2) (by omega)) (WS.op rfl rfl (WS.opV (.int .i64 ((((at_ + 2) + 0) : Nat) : Int)) rfl rfl (add_i64 (a := (at_ + 2)) (b := 0) (by omega)) ?_)))))
            obtain ⟨c30, hc31⟩ : ∃ c, (s)[((at_ + 2) + 0)]? = some c := ⟨_, List.getElem?_eq_getElem (show ((at_ + 2) + 0) < (s).length by first | omega | (simp only [List.length_drop, List.length_take, List.length_append, List.length_cons, List.length_nil, List.length_singleton]; omega) | (simp only [List.length_drop, List.length_take, List.length_append, List.length_cons, List.length_nil, List.length_singleton] at *; omega))⟩
            refine WS.op rfl (op_ixS ((at_ + 2) + 0) rfl rfl hc31) (WS.op rfl rfl (WS.op rfl rfl ?_))
            refine WS.st1 (M29.bare.focus 0 rfl) [_] [_, _, _, _, _, _, _, _, _, _, _] rfl rfl rfl rfl rfl (Nat.le_of_ble_eq_true rfl) (Nat.le_of_ble_eq_true rfl) rfl rfl ?_
            intro h32 M33
            replace M33 : Mem _ _ ([((rb22 + 8), _)] :: S :: [(p10, _)] :: [(p1, _)] :: []) _ := M33
            refine WS.nil [(0, _), (2, _), (4, _), (5, _), (7, _), (8, _), (9, _), (10, _)] rfl ?_
            refine WC.run ?_
            refine WS.op rfl rfl (WS.opV (.int .i64 1) rfl rfl rfl (WS.op rfl rfl (WS.nil [(0, _), (2, _), (4, _), (5, _), (7, _), (8, _), (9, _), (10, _)] rfl ?_)))
            refine WC.unroll [(0, _), (2, _), (4, _), (5, _), (7, _), (8, _), (9, _), (10, _)] rfl ?_
            refine WC.seq ?_
            refine WC.seq ?_
            refine WC.run ?_
            refine WS.op rfl rfl (WS.opV (.bool true) rfl rfl rfl (WS.nil [(0, _), (2, _), (4, _), (5, _), (7, _), (8, _), (9, _), (10, _), (49, _)] rfl ?_))
            refine WC.condT rfl ?_
            refine WC.skip ?_
            refine WC.seq ?_
            refine WC.block ?_
            refine WC.run ?_
            refine WS.op rfl rfl (WS.op rfl rfl (WS.op rfl rfl (WS.opV (.int .i64 (((at_ + 2) : Nat) : Int)) rfl rfl (add_i64 (a := at_) (b := 2) (by omega)) (WS.op rfl rfl (WS.opV (.int .i64 ((((at_ + 2) + 1) : Nat) : Int)) rfl rfl (add_i64 (a := (at_ + 2)) (b := 1) (by omega)) ?_)))))
            obtain ⟨c34, hc35⟩ : ∃ c, (s)[((at_ + 2) + 1)]? = some c := ⟨_, List.getElem?_eq_getElem (show ((at_ + 2) + 1) < (s).length by first | omega | (simp only [List.length_drop, List.length_take, List.length_append, List.length_cons, List.length_nil, List.length_singleton]; omega) | (simp only [List.length_drop, List.length_take, List.length_append, List.length_cons, List.length_nil, List.length_singleton] at *; omega))⟩
            refine WS.op rfl (op_ixS ((at_ + 2) + 1) rfl rfl hc35) (WS.op rfl rfl (WS.op rfl rfl ?_))
            refine WS.st1 (M33.focus 0 rfl) [_] [_, _, _, _, _, _, _, _, _, _, _] rfl rfl rfl rfl rfl (Nat.le_of_ble_eq_true rfl) (Nat.le_of_ble_eq_true rfl) rfl rfl ?_
            intro h36 M37
            replace M37 : Mem _ _ ([((rb22 + 8), _)] :: S :: [(p10, _)] :: [(p1, _)] :: []) _ := M37
            refine WS.nil [(0, _), (2, _), (4, _), (5, _), (7, _), (8, _), (9, _), (10, _)] rfl ?_
            refine WC.run ?_
            refine WS.op rfl rfl (WS.opV (.int .i64 2) rfl rfl rfl (WS.op rfl rfl (WS.nil [(0, _), (2, _), (4, _), (5, _), (7, _), (8, _), (9, _), (10, _)] rfl ?_)))
            refine WC.unroll [(0, _), (2, _), (4, _), (5, _), (7, _), (8, _), (9, _), (10, _)] rfl ?_
            refine WC.seq ?_
            refine WC.seq ?_
            refine WC.run ?_
            refine WS.op rfl rfl (WS.opV (.bool true) rfl rfl rfl (WS.nil [(0, _), (2, _), (4, _), (5, _), (7, _), (8, _), (9, _), (10, _), (49, _)] rfl ?_))
            refine WC.condT rfl ?_
            refine WC.skip ?_
            refine WC.seq ?_
            refine WC.block ?_
            refine WC.run ?_
            refine WS.op rfl rfl (WS.op rfl rfl (WS.op rfl rfl (WS.opV (.int .i64 (((at_ + 2) : Nat) : Int)) rfl rfl (add_i64 (a := at_) (b := 2) (by omega)) (WS.op rfl rfl (WS.opV (.int .i64 ((((at_ + 2) + 2) : Nat) : Int)) rfl rfl (add_i64 (a := (at_ + 2)) (b := 2) (by omega)) ?_)))))
            obtain ⟨c38, hc39⟩ : ∃ c, (s)[((at_ + 2) + 2)]? = some c := ⟨_, List.getElem?_eq_getElem (show ((at_ + 2) + 2) < (s).length by first | omega | (simp only [List.length_drop, List.length_take, List.length_append, List.length_cons, List.length_nil, List.length_singleton]; omega) | (simp only [List.length_drop, List.length_take, List.length_append, List.length_cons, List.length_nil, List.length_singleton] at *; omega))⟩
            refine WS.op rfl (op_ixS ((at_ + 2) + 2) rfl rfl hc39) (WS.op rfl rfl (WS.op rfl rfl ?_))
            refine WS.st1 (M37.focus 0 rfl) [_] [_, _, _, _, _, _, _, _, _, _, _] rfl rfl rfl rfl rfl (Nat.le_of_ble_eq_true rfl) (Nat.le_of_ble_eq_true rfl) rfl rfl ?_
            intro h40 M41
            replace M41 : Mem _ _ ([((rb22 + 8), _)] :: S :: [(p10, _)] :: [(p1, _)] :: []) _ := M41
            refine WS.nil [(0, _), (2, _), (4, _), (5, _), (7, _), (8, _), (9, _), (10, _)] rfl ?_
            refine WC.run ?_
            refine WS.op rfl rfl (WS.opV (.int .i64 3) rfl rfl rfl (WS.op rfl rfl (WS.nil [(0, _), (2, _), (4, _), (5, _), (7, _), (8, _), (9, _), (10, _)] rfl ?_)))
            refine WC.unroll [(0, _), (2, _), (4, _), (5, _), (7, _), (8, _), (9, _), (10, _)] rfl ?_
            refine WC.seq ?_
            refine WC.seq ?_
            refine WC.run ?_
            refine WS.op rfl rfl (WS.opV (.bool true) rfl rfl rfl (WS.nil [(0, _), (2, _), (4, _), (5, _), (7, _), (8, _), (9, _), (10, _), (49, _)] rfl ?_))
            refine WC.condT rfl ?_
            refine WC.skip ?_
            refine WC.seq ?_
            refine WC.block ?_
            refine WC.run ?_
            refine WS.op rfl rfl (WS.op rfl rfl (WS.op rfl rfl (WS.opV (.int .i64 (((at_ + 2) : Nat) : Int)) rfl rfl (add_i64 (a := at_) (b := 2) (by omega)) (WS.op rfl rfl (WS.opV (.int .i64 ((((at_ + 2) + 3) : Nat) : Int)) rfl rfl (add_i64 (a := (at_ + 2)) (b := 3) (by omega)) ?_)))))
            obtain ⟨c42, hc43⟩ : ∃ c, (s)[((at_ + 2) + 3)]? = some c := ⟨_, List.getElem?_eq_getElem (show ((at_ + 2) + 3) < (s).length by first | omega | (simp only [List.length_drop, List.length_take, List.length_append, List.length_cons, List.length_nil, List.length_singleton]; omega) | (simp only [List.length_drop, List.length_take, List.length_append, List.length_cons, List.length_nil, List.length_singleton] at *; omega))⟩
            refine WS.op rfl (op_ixS ((at_ + 2) + 3) rfl rfl hc43) (WS.op rfl rfl (WS.op rfl rfl ?_))
            refine WS.st1 (M41.focus 0 rfl) [_] [_, _, _, _, _, _, _, _, _, _, _] rfl rfl rfl rfl rfl (Nat.le_of_ble_eq_true rfl) (Nat.le_of_ble_eq_true rfl) rfl rfl ?_
            intro h44 M45
            replace M45 : Mem _ _ ([((rb22 + 8), _)] :: S :: [(p10, _)] :: [(p1, _)] :: []) _ := M45
            refine WS.nil [(0, _), (2, _), (4, _), (5, _), (7, _), (8, _), (9, _), (10, _)] rfl ?_
            refine WC.run ?_
            refine WS.op rfl rfl (WS.opV (.int .i64 4) rfl rfl rfl (WS.op rfl rfl (WS.nil [(0, _), (2, _), (4, _), (5, _), (7, _), (8, _), (9, _), (10, _)] rfl ?_)))
            refine WC.unroll [(0, _), (2, _), (4, _), (5, _), (7, _), (8, _), (9, _), (10, _)] rfl ?_
            refine WC.seq ?_
            refine WC.seq ?_
            refine WC.run ?_
            refine WS.op rfl rfl (WS.opV (.bool true) rfl rfl rfl (WS.nil [(0, _), (2, _), (4, _), (5, _), (7, _), (8, _), (9, _), (10, _), (49, _)] rfl ?_))
            refine WC.condT rfl ?_
            refine WC.skip ?_
            refine WC.seq ?_
            refine WC.block ?_
            refine WC.run ?_
            refine WS.op rfl rfl (WS.op rfl rfl (WS.op rfl rfl (WS.opV (.int .i64 (((at_ + 2) : Nat) : Int)) rfl rfl (add_i64 (a := at_) (b := 2) (by omega)) (WS.op rfl rfl (WS.opV (.int .i64 ((((at_ + 2) + 4) : Nat) : Int)) rfl rfl (add_i64 (a := (at_ + 2)) (b := 4) (by omega)) ?_)))))
            obtain ⟨c46, hc47⟩ : ∃ c, (s)[((at_ + 2) + 4)]? = some c := ⟨_, List.getElem?_eq_getElem (show ((at_ + 2) + 4) < (s).length by first | omega | (simp only [List.length_drop, List.length_take, List.length_append, List.length_cons, List.length_nil, List.length_singleton]; omega) | (simp only [List.length_drop, List.length_take, List.length_append, List.length_cons, List.length_nil, List.length_singleton] at *; omega))⟩
            refine WS.op rfl (op_ixS ((at_ + 2) + 4) rfl rfl hc47) (WS.op rfl rfl (WS.op rfl rfl ?_))
            refine WS.st1 (M45.focus 0 rfl) [_] [_, _, _, _, _, _, _, _, _, _, _] rfl rfl rfl rfl rfl (Nat.le_of_ble_eq_true rfl) (Nat.le_of_ble_eq_true rfl) rfl rfl ?_
            intro h48 M49
            replace M49 : Mem _ _ ([((rb22 + 8), _)] :: S :: [(p10, _)] :: [(p1, _)] :: []) _ := M49
            refine WS.nil [(0, _), (2, _), (4, _), (5, _), (7, _), (8, _), (9, _), (10, _)] rfl ?_
            refine WC.run ?_
            refine WS.op rfl rfl (WS.opV (.int .i64 5) rfl rfl rfl (WS.op rfl rfl (WS.nil [(0, _), (2, _), (4, _), (5, _), (7, _), (8, _), (9, _), (10, _)] rfl ?_)))
            refine WC.unroll [(0, _), (2, _), (4, _), (5, _), (7, _), (8, _), (9, _), (10, _)] rfl ?_
            refine WC.seq ?_
            refine WC.seq ?_
            refine WC.run ?_
            refine WS.op rfl rfl (WS.opV (.bool true) rfl rfl rfl (WS.nil [(0, _), (2, _), (4, _), (5, _), (7, _), (8, _), (9, _), (10, _), (49, _)] rfl ?_))
            refine WC.condT rfl ?_
            refine WC.skip ?_
            refine WC.seq ?_
            refine WC.block ?_
            refine WC.run ?_
            refine WS.op rfl rfl (WS.op rfl rfl (WS.op rfl rfl (WS.opV (.int .i64 (((at_ + 2) : Nat) : Int)) rfl rfl (add_i64 (a := at_) (b := 2) (by omega)) (WS.op rfl rfl (WS.opV (.int .i64 ((((at_ + 2) + 5) : Nat) : Int)) rfl rfl (add_i64 (a := (at_ + 2)) (b := 5) (by omega)) ?_)))))
            obtain ⟨c50, hc51⟩ : ∃ c, (s)[((at_ + 2) + 5)]? = some c := ⟨_, List.getElem?_eq_getElem (show ((at_ + 2) + 5) < (s).length by first | omega | (simp only [List.length_drop, List.length_take, List.length_append, List.length_cons, List.length_nil, List.length_singleton]; omega) | (simp only [List.length_drop, List.length_take, List.length_append, List.length_cons, List.length_nil, List.length_singleton] at *; omega))⟩
            refine WS.op rfl (op_ixS ((at_ + 2) + 5) rfl rfl hc51) (WS.op rfl rfl (WS.op rfl rfl ?_))
            refine WS.st1 (M49.focus 0 rfl) [_] [_, _, _, _, _, _, _, _, _, _, _] rfl rfl rfl rfl rfl (Nat.le_of_ble_eq_true rfl) (Nat.le_of_ble_eq_true rfl) rfl rfl ?_
            intro h52 M53
            replace M53 : Mem _ _ ([((rb22 + 8), _)] :: S :: [(p10, _)] :: [(p1, _)] :: []) _ := M53
            refine WS.nil [(0, _), (2, _), (4, _), (5, _), (7, _), (8, _), (9, _), (10, _)] rfl ?_
            refine WC.run ?_
            refine WS.op rfl rfl (WS.opV (.int .i64 6) rfl rfl rfl (WS.op rfl rfl (WS.nil [(0, _), (2, _), (4, _), (5, _), (7, _), (8, _), (9, _), (10, _)] rfl ?_)))
            refine WC.unroll [(0, _), (2, _), (4, _), (5, _), (7, _), (8, _), (9, _), (10, _)] rfl ?_
            refine WC.seq ?_
            refine WC.seq ?_
            refine WC.run ?_
            refine WS.op rfl rfl (WS.opV (.bool true) rfl rfl rfl (WS.nil [(0, _), (2, _), (4, _), (5, _), (7, _), (8, _), (9, _), (10, _), (49, _)] rfl ?_))
            refine WC.condT rfl ?_
            refine WC.skip ?_
            refine WC.seq ?_
            refine WC.block ?_
            refine WC.run ?_
            refine WS.op rfl rfl (WS.op rfl rfl (WS.op rfl rfl (WS.opV (.int .i64 (((at_ + 2) : Nat) : Int)) rfl rfl (add_i64 (a := at_) (b := 2) (by omega)) (WS.op rfl rfl (WS.opV (.int .i64 ((((at_ + 2) + 6) : Nat) : Int)) rfl rfl (add_i64 (a := (at_ + 2)) (b := 6) (by omega)) ?_)))))
            obtain ⟨c54, hc55⟩ : ∃ c, (s)[((at_ + 2) + 6)]? = some c := ⟨_, List.getElem?_eq_getElem (show ((at_ + 2) + 6) < (s).length by first | omega | (simp only [List.length_drop, List.length_take, List.length_append, List.length_cons, List.length_nil, List.length_singleton]; omega) | (simp only [List.length_drop, List.length_take, List.length_append, List.length_cons, List.length_nil, List.length_singleton] at *; omega))⟩
            refine WS.op rfl (op_ixS ((at_ + 2) + 6) rfl rfl hc55) (WS.op rfl rfl (WS.op rfl rfl ?_))
            refine WS.st1 (M53.focus 0 rfl) [_] [_, _, _, _, _, _, _, _, _, _, _] rfl rfl rfl rfl rfl (Nat.le_of_ble_eq_true rfl) (Nat.le_of_ble_eq_true rfl) rfl rfl ?_
            intro h56 M57
            replace M57 : Mem _ _ ([((rb22 + 8), _)] :: S :: [(p10, _)] :: [(p1, _)] :: []) _ := M57
            refine WS.nil [(0, _), (2, _), (4, _), (5, _), (7, _), (8, _), (9, _), (10, _)] rfl ?_
            refine WC.run ?_
            refine WS.op rfl rfl (WS.opV (.int .i64 7) rfl rfl rfl (WS.op rfl rfl (WS.nil [(0, _), (2, _), (4, _), (5, _), (7, _), (8, _), (9, _), (10, _)] rfl ?_)))
            refine WC.unroll [(0, _), (2, _), (4, _), (5, _), (7, _), (8, _), (9, _), (10, _)] rfl ?_
            refine WC.seq ?_
            refine WC.seq ?_
            refine WC.run ?_
            refine WS.op rfl rfl (WS.opV (.bool true) rfl rfl rfl (WS.nil [(0, _), (2, _), (4, _), (5, _), (7, _), (8, _), (9, _), (10, _), (49, _)] rfl ?_))
            refine WC.condT rfl ?_
            refine WC.skip ?_
            refine WC.seq ?_
            refine WC.block ?_
            refine WC.run ?_
            refine WS.op rfl rfl (WS.op rfl rfl (WS.op rfl rfl (WS.opV (.int .i64 (((at_ + 2) : Nat) : Int)) rfl rfl (add_i64 (a := at_) (b := 2) (by omega)) (WS.op rfl rfl (WS.opV (.int .i64 ((((at_ + 2) + 7) : Nat) : Int)) rfl rfl (add_i64 (a := (at_ + 2)) (b := 7) (by omega)) ?_)))))
            obtain ⟨c58, hc59⟩ : ∃ c, (s)[((at_ + 2) + 7)]? = some c := ⟨_, List.getElem?_eq_getElem (show ((at_ + 2) + 7) < (s).length by first | omega | (simp only [List.length_drop, List.length_take, List.length_append, List.length_cons, List.length_nil, List.length_singleton]; omega) | (simp only [List.length_drop, List.length_take, List.length_append, List.length_cons, List.length_nil, List.length_singleton] at *; omega))⟩
            refine WS.op rfl (op_ixS ((at_ + 2) + 7) rfl rfl hc59) (WS.op rfl rfl (WS.op rfl rfl ?_))
            refine WS.st1 (M57.focus 0 rfl) [_] [_, _, _, _, _, _, _, _, _, _, _] rfl rfl rfl rfl rfl (Nat.le_of_ble_eq_true rfl) (Nat.le_of_ble_eq_true rfl) rfl rfl ?_
            intro h60 M61
            replace M61 : Mem _ _ ([((rb22 + 8), _)] :: S :: [(p10, _)] :: [(p1, _)] :: []) _ := M61
            refine WS.nil [(0, _), (2, _), (4, _), (5, _), (7, _), (8, _), (9, _), (10, _)] rfl ?_
            refine WC.run ?_
            refine WS.op rfl rfl (WS.opV (.int .i64 8) rfl rfl rfl (WS.op rfl rfl (WS.nil [(0, _), (2, _), (4, _), (5, _), (7, _), (8, _), (9, _), (10, _)] rfl ?_)))
            refine WC.unroll [(0, _), (2, _), (4, _), (5, _), (7, _), (8, _), (9, _), (10, _)] rfl ?_
            refine WC.seq ?_
            refine WC.seq ?_
            refine WC.run ?_
            refine WS.op rfl rfl (WS.opV (.bool false) rfl rfl rfl (WS.nil [(0, _), (2, _), (4, _), (5, _), (7, _), (8, _), (9, _), (10, _), (49, _)] rfl ?_))
            refine WC.condF rfl ?_
            refine WC.exit ?_
            refine WC.seq ?_
            refine WC.run ?_
            have hk2 := rvK_le (s.drop (at_ + 10))
            refine WS.op rfl rfl (WS.op rfl rfl (WS.opV (.int .i64 (((at_ + 10) : Nat) : Int)) rfl rfl (add_i64 (a := at_) (b := 10) (by omega)) (WS.op rfl (op_slS0 (l := s) (at_ + 10) rfl rfl (by first | omega | (simp only [List.length_drop, List.length_take, List.length_append, List.length_cons, List.length_nil, List.length_singleton]; omega) | (simp only [List.length_drop, List.length_take, List.length_append, List.length_cons, List.length_nil, List.length_singleton] at *; omega))) ?_)))
            refine WS.call rfl rfl rfl (ref_ReadV_ran M61.here (l := ((s).drop (at_ + 10))) (by first | omega | (simp only [List.length_drop, List.length_take, List.length_append, List.length_cons, List.length_nil, List.length_singleton]; omega) | (simp only [List.length_drop, List.length_take, List.length_append, List.length_cons, List.length_nil, List.length_singleton] at *; omega))) ?_
            rintro _ h62 ⟨rfl, N63⟩
            have M64 := M61.trans N63
            refine WS.op rfl rfl (WS.opV (.int .u64 (((UInt64.ofNat (rvN ((s).drop (at_ + 10)))).toNat : Nat) : Int)) rfl rfl (u64_ofNat (n := (rvN ((s).drop (at_ + 10)))) (by have := rvN_lt ((s).drop (at_ + 10)); omega)) (WS.op rfl rfl (WS.op rfl rfl (WS.op rfl rfl (WS.op rfl rfl (WS.op rfl rfl (WS.nil [(0, _), (2, _), (4, _), (5, _), (7, _), (8, _), (9, _), (11, _), (12, _), (13, _)] rfl ?_)))))))
            refine WC.seq ?_
            refine WC.seq ?_
            refine WC.run ?_
            refine WS.op rfl rfl ?_
            cases hb2 : (rvOK ((s).drop (at_ + 10)))
            · skip
              refine WS.opV (.bool true) rfl rfl rfl (WS.nil [(0, _), (2, _), (4, _), (5, _), (7, _), (8, _), (9, _), (11, _), (12, _), (71, _)] rfl ?_)
              refine WC.condT rfl ?_
              refine WC.seq ?_
              refine WC.run ?_
              refine WS.opV (.agg #[(.slice none 0 0), (.int .u64 (0 : Int))]) rfl rfl rfl ?_
              refine WS.st1 (M64.focus 3 rfl) [_, _] [_, _] rfl rfl rfl rfl rfl (Nat.le_of_ble_eq_true rfl) (Nat.le_of_ble_eq_true rfl) rfl rfl ?_
              intro h66 M67
              replace M67 : Mem _ _ ([(p1, _)] :: [((rb22 + 8), _)] :: S :: [(p10, _)] :: []) _ := M67
              refine WS.op rfl rfl (WS.nil [(2, _), (3, _)] rfl ?_)
              refine WC.ret ?_
              refine ⟨[_, _], (res_cellN [_, _] rfl (M67.at 0 rfl) (Nat.le_of_ble_eq_true rfl) rfl (res_tmp rfl res_nil)), ?_⟩
              exact ⟨_, _, _, 0, false, .nil, rfl, by omega, (fun q => nomatch q), (fun _ => by first | exact rd_no (by assumption) | exact rd_bad (by assumption) (inv_bad hX (by omega) (rdRows_short (by rw [List.length_drop]; omega))) | exact rd_bad (by assumption) (inv_bad hX (by omega) (rdRows_none (by rw [List.drop_drop]; exact getV_no (by assumption)))) | exact rd_rest (by assumption) (inv_end hX (by omega)) (by intro q; have := congrArg List.length q; rw [List.length_drop] at this; simp at this; omega)), ((M67.bare.take 0).nils)⟩
            · skip
              refine WS.opV (.bool false) rfl rfl rfl (WS.nil [(0, _), (2, _), (4, _), (5, _), (7, _), (8, _), (9, _), (11, _), (12, _), (71, _)] rfl ?_)
              refine WC.condF rfl ?_
              refine WC.skip ?_
              refine WC.seq ?_
              refine WC.run ?_
              refine WS.op rfl rfl (WS.op rfl rfl ?_)
              refine WS.st1 (M64.focus 0 rfl) [_] [_, _, _, _, _, _, _, _, _, _, _] rfl rfl rfl rfl rfl (Nat.le_of_ble_eq_true rfl) (Nat.le_of_ble_eq_true rfl) rfl rfl ?_
              intro h68 M69
              replace M69 : Mem _ _ ([((rb22 + 8), _)] :: S :: [(p10, _)] :: [(p1, _)] :: []) _ := M69
              refine WS.nil [(0, _), (2, _), (4, _), (5, _), (7, _), (8, _), (9, _), (12, _)] rfl ?_
              refine WC.seq ?_
              refine WC.run ?_
              refine WS.op rfl rfl (WS.opV (.int .i64 (((at_ + 10) : Nat) : Int)) rfl rfl (add_i64 (a := at_) (b := 10) (by omega)) (WS.op rfl rfl (WS.opV (.int .i64 ((((at_ + 10) + (rvK ((s).drop (at_ + 10)))) : Nat) : Int)) rfl rfl (add_i64 (a := (at_ + 10)) (b := (rvK ((s).drop (at_ + 10)))) (by have := rvK_le ((s).drop (at_ + 10)); omega)) (WS.op rfl rfl (WS.nil [(0, _), (2, _), (4, _), (5, _), (7, _), (8, _), (9, _)] rfl ?_)))))
              refine WC.run ?_
              refine WS.op rfl rfl (WS.op rfl (op_ld (M69.at 2 rfl) rfl rfl) (WS.op rfl (op_lds [_, _, _, _, _, _, _, _, _, _, _] (M69.at 0 rfl) rfl (Nat.le_of_ble_eq_true rfl) rfl) ?_))
              refine WS.bsl M69 [_, _, _, _, _, _, _, _, _, _, _] rfl rfl rfl rfl ?_
              intro p70 h71 M72
              refine WS.app (l := l) (m := [(⟨ca, cb, c30, c34, c38, c42, c46, c50, c54, c58, (UInt64.ofNat (rvN ((s).drop (at_ + 10))))⟩ : Rw)]) (hO) (M72.focus 2 rfl) (Row.Src.one (K := KRw) (m := [(⟨ca, cb, c30, c34, c38, c42, c46, c50, c54, c58, (UInt64.ofNat (rvN ((s).drop (at_ + 10))))⟩ : Rw)]) (M72.at 0 rfl)) rfl (by simp only [List.length_cons, List.length_nil]; omega) (by simp only [List.length_cons, List.length_nil]; omega) rfl rfl rfl ?_
              intro V73 S74 h75 O76 M77
              obtain ⟨P78, rfl⟩ := Row.Own.shape O76
              refine WS.op rfl rfl ?_
              refine WS.st1 (M77.focus 3 rfl) [_] [_, _] rfl rfl rfl rfl rfl (Nat.le_of_ble_eq_true rfl) (Nat.le_of_ble_eq_true rfl) rfl rfl ?_
              intro h79 M80
              replace M80 : Mem _ _ ([(p10, _)] :: S74 :: [(p70, _)] :: [((rb22 + 8), _)] :: [(p1, _)] :: []) _ := M80
              refine WS.nil [(0, _), (2, _), (4, _), (5, _), (7, _), (8, _)] rfl ?_
              refine WC.run ?_
              refine WS.op rfl rfl (WS.opV (.int .u64 (((i + 1) : Nat) : Int)) rfl rfl (add_u64 (a := i) (b := 1) (by omega)) (WS.op rfl rfl (WS.nil [(0, _), (2, _), (4, _), (5, _), (7, _), (8, _)] rfl ?_)))
              refine ⟨((.slice P78 ((l ++ [(⟨ca, cb, c30, c34, c38, c42, c46, c50, c54, c58, (UInt64.ofNat (rvN ((s).drop (at_ + 10))))⟩ : Rw)])).length (2 * ((l ++ [(⟨ca, cb, c30, c34, c38, c42, c46, c50, c54, c58, (UInt64.ofNat (rvN ((s).drop (at_ + 10))))⟩ : Rw)])).length)), S74, ((at_ + 10) + (rvK ((s).drop (at_ + 10)))), (l ++ [(⟨ca, cb, c30, c34, c38, c42, c46, c50, c54, c58, (UInt64.ofNat (rvN ((s).drop (at_ + 10))))⟩ : Rw)]), i + 1), rfl, ⟨((((M80.bare.focus 4 rfl).focus 1 rfl).focus 2 rfl).take 3), ?_⟩, ?_⟩
              · exact ⟨by assumption, inv_step hX (by omega) (rdRows_at hca hcb hc31 hc35 hc39 hc43 hc47 hc51 hc55 hc59 (getV_yes (by assumption))), by omega, by simp [hli], by rw [List.length_drop] at hk2; omega⟩
              · simp only []; omega
        · skip
          refine WS.op rfl rfl (WS.nil [(0, _), (2, _), (4, _), (5, _), (7, _), (8, _), (31, _)] rfl ?_)
          refine WC.condF rfl ?_
          refine WC.exit ?_
          refine WC.seq ?_
          refine WC.run ?_
          obtain ⟨P_, rfl⟩ := hO.shape
          refine WS.op rfl (op_lds [_, _] (M19.at 1 rfl) rfl (Nat.le_of_ble_eq_true rfl) rfl) (WS.op rfl rfl (WS.op rfl rfl (WS.op rfl (op_lenS (l := s) rfl) ?_)))
          refine WS.eqlN (a := at_) (b := (s).length) rfl rfl rfl (fun e89 => ?_) (fun e89 => ?_)
          · skip
            refine WS.st1 (M19.focus 2 rfl) [_, _] [_, _] rfl rfl rfl rfl rfl (Nat.le_of_ble_eq_true rfl) (Nat.le_of_ble_eq_true rfl) rfl rfl ?_
            intro h81 M82
            replace M82 : Mem _ _ ([(p1, _)] :: S :: [(p10, _)] :: []) _ := M82
            refine WS.op rfl rfl (WS.nil [(2, _), (3, _)] rfl ?_)
            refine WC.ret ?_
            refine ⟨[_, _], (res_cellN [_, _] rfl (M82.at 0 rfl) (Nat.le_of_ble_eq_true rfl) rfl (res_tmp rfl res_nil)), ?_⟩
            exact ⟨_, _, _, rvN s, true, hO, rfl, by omega, (fun _ => rd_yes (by assumption) ((inv_end hX (by omega)).trans (by rw [List.drop_eq_nil_of_le (by omega)]))), (fun q => nomatch q), ((M82.bare.focus 1 rfl).take 1)⟩
          · skip
            refine WS.st1 (M19.focus 2 rfl) [_, _] [_, _] rfl rfl rfl rfl rfl (Nat.le_of_ble_eq_true rfl) (Nat.le_of_ble_eq_true rfl) rfl rfl ?_
            intro h83 M84
            replace M84 : Mem _ _ ([(p1, _)] :: S :: [(p10, _)] :: []) _ := M84
            refine WS.op rfl rfl (WS.nil [(2, _), (3, _)] rfl ?_)
            refine WC.ret ?_
            refine ⟨[_, _], (res_cellN [_, _] rfl (M84.at 0 rfl) (Nat.le_of_ble_eq_true rfl) rfl (res_tmp rfl res_nil)), ?_⟩
            exact ⟨_, _, _, rvN s, false, hO, rfl, by omega, (fun q => nomatch q), (fun _ => by first | exact rd_no (by assumption) | exact rd_bad (by assumption) (inv_bad hX (by omega) (rdRows_short (by rw [List.length_drop]; omega))) | exact rd_bad (by assumption) (inv_bad hX (by omega) (rdRows_none (by rw [List.drop_drop]; exact getV_no (by assumption)))) | exact rd_rest (by assumption) (inv_end hX (by omega)) (by intro q; have := congrArg List.length q; rw [List.length_drop] at this; simp at this; omega)), ((M84.bare.focus 1 rfl).take 1)⟩
      · skip
        refine WS.op rfl rfl (WS.off rfl (WS.off rfl (WS.op rfl rfl (WS.nil [(0, _), (2, _), (4, _), (5, _), (7, _), (8, _), (31, _)] rfl ?_))))
        refine WC.condF rfl ?_
        refine WC.exit ?_
        refine WC.seq ?_
        refine WC.run ?_
        obtain ⟨P_, rfl⟩ := hO.shape
        refine WS.op rfl (op_lds [_, _] (M19.at 1 rfl) rfl (Nat.le_of_ble_eq_true rfl) rfl) (WS.op rfl rfl (WS.op rfl rfl (WS.op rfl (op_lenS (l := s) rfl) ?_)))
        refine WS.eqlN (a := at_) (b := (s).length) rfl rfl rfl (fun e89 => ?_) (fun e89 => ?_)
        · skip
          refine WS.st1 (M19.focus 2 rfl) [_, _] [_, _] rfl rfl rfl rfl rfl (Nat.le_of_ble_eq_true rfl) (Nat.le_of_ble_eq_true rfl) rfl rfl ?_
          intro h85 M86
          replace M86 : Mem _ _ ([(p1, _)] :: S :: [(p10, _)] :: []) _ := M86
          refine WS.op rfl rfl (WS.nil [(2, _), (3, _)] rfl ?_)
          refine WC.ret ?_
          refine ⟨[_, _], (res_cellN [_, _] rfl (M86.at 0 rfl) (Nat.le_of_ble_eq_true rfl) rfl (res_tmp rfl res_nil)), ?_⟩
          exact ⟨_, _, _, rvN s, true, hO, rfl, by omega, (fun _ => rd_yes (by assumption) ((inv_end hX (by omega)).trans (by rw [List.drop_eq_nil_of_le (by omega)]))), (fun q => nomatch q), ((M86.bare.focus 1 rfl).take 1)⟩
        · skip
          refine WS.st1 (M19.focus 2 rfl) [_, _] [_, _] rfl rfl rfl rfl rfl (Nat.le_of_ble_eq_true rfl) (Nat.le_of_ble_eq_true rfl) rfl rfl ?_
          intro h87 M88
          replace M88 : Mem _ _ ([(p1, _)] :: S :: [(p10, _)] :: []) _ := M88
          refine WS.op rfl rfl (WS.nil [(2, _), (3, _)] rfl ?_)
          refine WC.ret ?_
          refine ⟨[_, _], (res_cellN [_, _] rfl (M88.at 0 rfl) (Nat.le_of_ble_eq_true rfl) rfl (res_tmp rfl res_nil)), ?_⟩
          exact ⟨_, _, _, rvN s, false, hO, rfl, by omega, (fun q => nomatch q), (fun _ => by first | exact rd_no (by assumption) | exact rd_bad (by assumption) (inv_bad hX (by omega) (rdRows_short (by rw [List.length_drop]; omega))) | exact rd_bad (by assumption) (inv_bad hX (by omega) (rdRows_none (by rw [List.drop_drop]; exact getV_no (by assumption)))) | exact rd_rest (by assumption) (inv_end hX (by omega)) (by intro q; have := congrArg List.length q; rw [List.length_drop] at this; simp at this; omega)), ((M88.bare.focus 1 rfl).take 1)⟩
end Go.Proofs.Ytegogkiccmghgaa.Wt
