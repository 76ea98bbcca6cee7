/- The reader of chapter 03: its methods, walked. -/
import Derived.Test.YtncpdahappmhkaaCs
namespace Go.Proofs.Ytncpdahappmhkaa.Wt
open Go Go.Proofs.Ytncpdahappmhkaa.Am Go.Proofs.Ytncpdahappmhkaa.IrAll
set_option linter.unusedVariables false
set_option linter.unusedSimpArgs false
variable {h base : H} {L : List Seg} {R : List Nat}
theorem splice_set {cells : List Value} {k : Nat} {v : Value} (h : k < cells.length) : splice cells k [v] = cells.set k v := by
  unfold splice; rw [List.set_eq_take_append_cons_drop, if_pos h]; simp
theorem set_same {α : Type} {l : List α} {i : Nat} {y : α} (hy : l[i]? = some y) : l.set i y = l := by
  apply List.ext_getElem?
  intro j
  rw [List.getElem?_set]
  split
  · rename_i e; subst e; rw [if_pos (List.getElem?_eq_some_iff.1 hy).1, hy]
  · rfl
theorem flat_at0 {α : Type} {K : Row α} {l : List α} {j k : Nat} {y : α} {v : Value} (hy : l[j]? = some y) (hk : (K.cells y)[k]? = some v) : (K.flat l)[0 + j * K.n + k]? = some v := by
  rw [Nat.zero_add]; exact K.flat_at hy hk
theorem flat_set0 {α : Type} {K : Row α} {l : List α} {j k : Nat} {y y' : α} {v : Value} (hy : l[j]? = some y) (hk : k < K.n) (hs : (K.cells y).set k v = K.cells y') : (K.flat l).set (0 + j * K.n + k) v = K.flat (l.set j y') := by
  have hj := (List.getElem?_eq_some_iff.1 hy).1
  have := Nat.mul_le_mul_right K.n (show j + 1 ≤ l.length by omega)
  rw [Nat.add_mul, Nat.one_mul] at this
  rw [Nat.zero_add, ← splice_set (by rw [K.flat_length]; omega)]; exact Row.flat_set hy hk hs
theorem r_skip_ran {r n : Nat} {s : List UInt8} {b ok : Bool} (M : Mem base h ([(r, ⟨[.string (bs s), .bool b], 0, false⟩)] :: L) []) (hl : s.length ≤ 100000) : Cll tab0 96 [.pointer (some ⟨r, 0, none⟩), .int .i64 (n : Int), .bool ok] h (fun v h2 => ∃ s' b', v = .bool (!b') ∧ Mem base h2 ([(r, ⟨[.string (bs s'), .bool b'], 0, false⟩)] :: L) [] ∧ (b' = false → b = false ∧ ok = true ∧ n ≤ s.length ∧ s' = s.drop n) ∧ (b' = true → s' = s)) := by
  refine Cll.code rfl rfl ?_
  refine WC.env [(0, _), (1, _), (2, _)] rfl ?_
  refine WC.seq ?_
  refine WC.run ?_
  refine WS.op rfl rfl (WS.nil [(0, _), (1, _), (2, _)] rfl ?_)
  refine WC.seq ?_
  refine WC.seq ?_
  refine WC.run ?_
  refine WS.op rfl rfl (WS.op rfl rfl (WS.op rfl rfl (WS.op rfl rfl (WS.op rfl (op_ld (M.at 0 rfl) rfl rfl) (WS.op rfl rfl ?_)))))
  cases hb1 : b
  · skip
    refine WS.op rfl rfl ?_
    cases hb2 : ok
    · skip
      refine WS.opV (.bool true) rfl rfl rfl (WS.op rfl rfl (WS.op rfl rfl (WS.off rfl (WS.off rfl (WS.off rfl (WS.off rfl (WS.off rfl (WS.off rfl (WS.off rfl ?_)))))))))
      refine WS.op rfl rfl (WS.op rfl rfl (WS.op rfl rfl ?_))
      refine WS.st1 (M.focus 0 rfl) [_] [_, _] rfl rfl rfl rfl rfl (Nat.le_of_ble_eq_true rfl) (Nat.le_of_ble_eq_true rfl) rfl rfl ?_
      intro h1 M2
      replace M2 : Mem _ _ ([(r, _)] :: L) _ := M2
      refine WS.nil [(0, _), (1, _)] rfl ?_
      refine WC.seq ?_
      refine WC.run ?_
      refine WS.op rfl rfl (WS.op rfl rfl (WS.op rfl rfl (WS.op rfl (op_ld (M2.at 0 rfl) rfl rfl) (WS.nil [(0, _), (1, _), (30, _)] rfl ?_))))
      refine WC.condT rfl ?_
      refine WC.seq ?_
      refine WC.run ?_
      refine WS.op rfl rfl (WS.nil [(6, _)] rfl ?_)
      refine WC.ret ?_
      refine ⟨[_], (res_tmp rfl res_nil), ?_⟩
      exact ⟨_, true, rfl, M2, fun q => (nomatch q), fun _ => rfl⟩
    · skip
      refine WS.opV (.bool false) rfl rfl rfl (WS.op rfl rfl (WS.op rfl rfl (WS.op rfl rfl (WS.op rfl rfl (WS.op rfl rfl (WS.op rfl rfl (WS.op rfl (op_ld (M.at 0 rfl) rfl rfl) (WS.op rfl (op_lenS (l := s) rfl) ?_))))))))
      refine WS.gtrN (a := n) (b := (s).length) rfl rfl rfl (fun e23 => ?_) (fun e23 => ?_)
      · skip
        refine WS.op rfl rfl (WS.op rfl rfl (WS.op rfl rfl ?_))
        refine WS.st1 (M.focus 0 rfl) [_] [_, _] rfl rfl rfl rfl rfl (Nat.le_of_ble_eq_true rfl) (Nat.le_of_ble_eq_true rfl) rfl rfl ?_
        intro h3 M4
        replace M4 : Mem _ _ ([(r, _)] :: L) _ := M4
        refine WS.nil [(0, _), (1, _)] rfl ?_
        refine WC.seq ?_
        refine WC.run ?_
        refine WS.op rfl rfl (WS.op rfl rfl (WS.op rfl rfl (WS.op rfl (op_ld (M4.at 0 rfl) rfl rfl) (WS.nil [(0, _), (1, _), (30, _)] rfl ?_))))
        refine WC.condT rfl ?_
        refine WC.seq ?_
        refine WC.run ?_
        refine WS.op rfl rfl (WS.nil [(6, _)] rfl ?_)
        refine WC.ret ?_
        refine ⟨[_], (res_tmp rfl res_nil), ?_⟩
        exact ⟨_, true, rfl, M4, fun q => (nomatch q), fun _ => rfl⟩
      · skip
        refine WS.op rfl rfl (WS.op rfl rfl (WS.op rfl rfl ?_))
        refine WS.st1 (M.focus 0 rfl) [_] [_, _] rfl rfl rfl rfl rfl (Nat.le_of_ble_eq_true rfl) (Nat.le_of_ble_eq_true rfl) rfl rfl ?_
        intro h5 M6
        replace M6 : Mem _ _ ([(r, _)] :: L) _ := M6
        refine WS.nil [(0, _), (1, _)] rfl ?_
        refine WC.seq ?_
        refine WC.run ?_
        refine WS.op rfl rfl (WS.op rfl rfl (WS.op rfl rfl (WS.op rfl (op_ld (M6.at 0 rfl) rfl rfl) (WS.nil [(0, _), (1, _), (30, _)] rfl ?_))))
        refine WC.condF rfl ?_
        refine WC.skip ?_
        refine WC.seq ?_
        refine WC.run ?_
        refine WS.op rfl rfl (WS.op rfl rfl (WS.op rfl rfl (WS.op rfl rfl (WS.op rfl (op_ld (M6.at 0 rfl) rfl rfl) (WS.op rfl rfl (WS.op rfl (op_slS0 (l := s) n rfl rfl (by first | omega | (simp only [List.length_drop, List.length_take, List.length_append, List.length_cons, List.length_nil, List.length_singleton]; omega) | (simp only [List.length_drop, List.length_take, List.length_append, List.length_cons, List.length_nil, List.length_singleton] at *; omega))) (WS.op rfl rfl (WS.op rfl rfl ?_))))))))
        refine WS.st1 (M6.focus 0 rfl) [_] [_, _] rfl rfl rfl rfl rfl (Nat.le_of_ble_eq_true rfl) (Nat.le_of_ble_eq_true rfl) rfl rfl ?_
        intro h7 M8
        replace M8 : Mem _ _ ([(r, _)] :: L) _ := M8
        refine WS.nil [] rfl ?_
        refine WC.seq ?_
        refine WC.run ?_
        refine WS.op rfl rfl (WS.nil [(6, _)] rfl ?_)
        refine WC.ret ?_
        refine ⟨[_], (res_tmp rfl res_nil), ?_⟩
        exact ⟨_, false, rfl, M8, fun _ => ⟨by first | assumption | rfl, by first | assumption | rfl, by omega, rfl⟩, fun q => (nomatch q)⟩
  · skip
    refine WS.off rfl (WS.off rfl (WS.op rfl rfl (WS.op rfl rfl (WS.off rfl (WS.off rfl (WS.off rfl (WS.off rfl (WS.off rfl (WS.off rfl ?_)))))))))
    refine WS.off rfl (WS.op rfl rfl (WS.op rfl rfl (WS.op rfl rfl ?_)))
    refine WS.st1 (M.focus 0 rfl) [_] [_, _] rfl rfl rfl rfl rfl (Nat.le_of_ble_eq_true rfl) (Nat.le_of_ble_eq_true rfl) rfl rfl ?_
    intro h9 M10
    replace M10 : Mem _ _ ([(r, _)] :: L) _ := M10
    refine WS.nil [(0, _), (1, _)] rfl ?_
    refine WC.seq ?_
    refine WC.run ?_
    refine WS.op rfl rfl (WS.op rfl rfl (WS.op rfl rfl (WS.op rfl (op_ld (M10.at 0 rfl) rfl rfl) (WS.nil [(0, _), (1, _), (30, _)] rfl ?_))))
    refine WC.condT rfl ?_
    refine WC.seq ?_
    refine WC.run ?_
    refine WS.op rfl rfl (WS.nil [(6, _)] rfl ?_)
    refine WC.ret ?_
    refine ⟨[_], (res_tmp rfl res_nil), ?_⟩
    exact ⟨_, true, rfl, M10, fun q => (nomatch q), fun _ => rfl⟩
theorem r_byte_ran {r q k es : Nat} {s : List UInt8} {b : Bool} {cells : List Value} {old : UInt8} (M : Mem base h ([(r, ⟨[.string (bs s), .bool b], 0, false⟩)] :: [(q, ⟨cells, es, false⟩)] :: L) []) (hk : cells[k]? = some (.int .u8 ((old.toNat : Nat) : Int))) (hl : s.length ≤ 100000) :
    Cll tab0 92 [.pointer (some ⟨r, 0, none⟩), .pointer (some ⟨q, k, none⟩)] h (fun v h2 => ∃ s' b' c, v = .tuple #[] ∧ Mem base h2 ([(r, ⟨[.string (bs s'), .bool b'], 0, false⟩)] :: [(q, ⟨cells.set k (.int .u8 ((UInt8.toNat c : Nat) : Int)), es, false⟩)] :: L) [] ∧ s'.length ≤ s.length ∧ (b' = false → b = false ∧ s = c :: s')) := by
  have hkl := (List.getElem?_eq_some_iff.1 hk).1
  refine Cll.code rfl rfl ?_
  refine WC.env [(0, _), (1, _)] rfl ?_
  refine WC.seq ?_
  refine WC.run ?_
  refine WS.op rfl rfl (WS.op rfl rfl (WS.op rfl rfl (WS.op rfl (op_ld (M.at 0 rfl) rfl rfl) (WS.op rfl rfl (WS.nil [(0, _), (1, _), (4, _)] rfl ?_)))))
  refine WC.seq ?_
  refine WC.run ?_
  refine WS.op rfl rfl ?_
  refine WS.call rfl rfl rfl (r_skip_ran (s := s) (b := b) (n := 1) (ok := true) (M.focus 0 rfl) (by omega)) ?_
  rintro _ h1 ⟨s', b', rfl, M2, q1, q2⟩
  replace M2 : Mem _ _ ([(r, _)] :: [(q, _)] :: L) _ := M2
  refine WS.nil [(1, _), (4, _), (10, _)] rfl ?_
  cases hb1 : (!b')
  · skip
    refine WC.condF rfl ?_
    refine WC.skip ?_
    refine ⟨[], res_nil, ?_⟩
    have g0 : b' = true := by simpa using hb1
    exact ⟨_, _, old, rfl, by rw [set_same hk]; exact M2, by rw [q2 g0]; exact Nat.le_refl _, fun q => by rw [g0] at q; exact absurd q (by decide)⟩
  · skip
    refine WC.condT rfl ?_
    refine WC.run ?_
    refine WS.op rfl rfl (WS.op rfl rfl ?_)
    obtain ⟨g1, g2, g3, g4⟩ := q1 (by simpa using hb1)
    obtain ⟨c, hc⟩ : ∃ c, (s)[0]? = some c := ⟨_, List.getElem?_eq_getElem (show 0 < (s).length by first | omega | (simp only [List.length_drop, List.length_take, List.length_append, List.length_cons, List.length_nil, List.length_singleton]; omega) | (simp only [List.length_drop, List.length_take, List.length_append, List.length_cons, List.length_nil, List.length_singleton] at *; omega))⟩
    refine WS.op rfl (op_ixS 0 rfl rfl hc) (WS.op rfl rfl ?_)
    refine WS.st1 (M2.focus 1 rfl) [(.int .u8 (((c).toNat : Nat) : Int))] (cells.set k (.int .u8 (((c).toNat : Nat) : Int))) rfl rfl rfl rfl rfl (Nat.le_of_ble_eq_true rfl) (by exact hkl) rfl (splice_set hkl) ?_
    intro h3 M4
    replace M4 : Mem _ _ ([(q, _)] :: [(r, _)] :: L) _ := M4
    refine WS.nil [] rfl ?_
    refine ⟨[], res_nil, ?_⟩
    exact ⟨_, _, c, rfl, ((M4.focus 0 rfl).focus 1 rfl), by rw [g4, List.length_drop]; omega, fun q => ⟨g1, by rw [g4]; simpa using drop_cons hc⟩⟩
theorem r_number_ran {r q k es : Nat} {s : List UInt8} {b : Bool} {cells : List Value} {old : UInt64} (M : Mem base h ([(r, ⟨[.string (bs s), .bool b], 0, false⟩)] :: [(q, ⟨cells, es, false⟩)] :: L) []) (hk : cells[k]? = some (.int .u64 ((old.toNat : Nat) : Int))) (hl : s.length ≤ 100000) :
    Cll tab0 93 [.pointer (some ⟨r, 0, none⟩), .pointer (some ⟨q, k, none⟩)] h (fun v h2 => ∃ s' b' c, v = .tuple #[] ∧ Mem base h2 ([(r, ⟨[.string (bs s'), .bool b'], 0, false⟩)] :: [(q, ⟨cells.set k (.int .u64 ((UInt64.toNat c : Nat) : Int)), es, false⟩)] :: L) [] ∧ s'.length ≤ s.length ∧ (b' = false → b = false ∧ s = vb c.toNat ++ s')) := by
  have hkl := (List.getElem?_eq_some_iff.1 hk).1
  refine Cll.code rfl rfl ?_
  refine WC.env [(0, _), (1, _)] rfl ?_
  refine WC.seq ?_
  refine WC.run ?_
  refine WS.op rfl rfl (WS.op rfl rfl (WS.op rfl rfl (WS.op rfl (op_ld (M.at 0 rfl) rfl rfl) ?_)))
  refine WS.call rfl rfl rfl (num_ReadV_ran M.here (l := s) (by first | omega | (simp only [List.length_drop, List.length_take, List.length_append, List.length_cons, List.length_nil, List.length_singleton]; omega) | (simp only [List.length_drop, List.length_take, List.length_append, List.length_cons, List.length_nil, List.length_singleton] at *; omega))) ?_
  rintro _ h1 ⟨rfl, N2⟩
  have M3 := M.trans N2
  refine WS.op rfl rfl (WS.opV (.int .u64 (((UInt64.ofNat (rvN s)).toNat : Nat) : Int)) rfl rfl (u64_ofNat (n := (rvN s)) (by have := rvN_lt s; omega)) (WS.op rfl rfl (WS.op rfl rfl (WS.op rfl rfl (WS.op rfl rfl (WS.op rfl rfl (WS.nil [(0, _), (1, _), (4, _), (5, _), (6, _)] rfl ?_)))))))
  refine WC.seq ?_
  refine WC.run ?_
  refine WS.op rfl rfl (WS.op rfl rfl (WS.op rfl rfl ?_))
  refine WS.call rfl rfl rfl (r_skip_ran (s := s) (b := b) (n := (rvK s)) (ok := (rvOK s)) (M3.focus 0 rfl) (by omega)) ?_
  rintro _ h5 ⟨s', b', rfl, M6, q1, q2⟩
  replace M6 : Mem _ _ ([(r, _)] :: [(q, _)] :: L) _ := M6
  refine WS.nil [(1, _), (4, _), (19, _)] rfl ?_
  cases hb1 : (!b')
  · skip
    refine WC.condF rfl ?_
    refine WC.skip ?_
    refine ⟨[], res_nil, ?_⟩
    have g0 : b' = true := by first | simpa using hb1 | simpa using hb2
    exact ⟨_, _, old, rfl, by rw [set_same hk]; exact M6, by rw [q2 g0]; exact Nat.le_refl _, fun q => by rw [g0] at q; exact absurd q (by decide)⟩
  · skip
    refine WC.condT rfl ?_
    refine WC.run ?_
    refine WS.op rfl rfl (WS.op rfl rfl (WS.op rfl rfl ?_))
    refine WS.st1 (M6.focus 1 rfl) [(.int .u64 (((UInt64.ofNat (rvN s)).toNat : Nat) : Int))] (cells.set k (.int .u64 (((UInt64.ofNat (rvN s)).toNat : Nat) : Int))) rfl rfl rfl rfl rfl (Nat.le_of_ble_eq_true rfl) (by exact hkl) rfl (splice_set hkl) ?_
    intro h7 M8
    replace M8 : Mem _ _ ([(q, _)] :: [(r, _)] :: L) _ := M8
    refine WS.nil [] rfl ?_
    refine ⟨[], res_nil, ?_⟩
    have g0 : b' = false := by first | simpa using hb1 | simpa using hb2
    obtain ⟨g1, g2, g3, g4⟩ := q1 g0
    exact ⟨_, _, UInt64.ofNat (rvN s), rfl, ((M8.focus 0 rfl).focus 1 rfl), by rw [g4, List.length_drop]; omega, fun q => ⟨g1, by rw [n64 (rvN_lt s), g4]; exact (getV_some (show getV s = some (rvN s, rvK s) by rw [getV_eq, g2]; rfl)).1⟩⟩
theorem r_text_ran {r q k es : Nat} {s : List UInt8} {b : Bool} {cells : List Value} {old : List UInt8} (M : Mem base h ([(r, ⟨[.string (bs s), .bool b], 0, false⟩)] :: [(q, ⟨cells, es, false⟩)] :: L) []) (hk : cells[k]? = some (.string (bs old))) (hl : s.length ≤ 100000) (ho : old = []) :
    Cll tab0 94 [.pointer (some ⟨r, 0, none⟩), .pointer (some ⟨q, k, none⟩)] h (fun v h2 => ∃ s' b' c, v = .tuple #[] ∧ Mem base h2 ([(r, ⟨[.string (bs s'), .bool b'], 0, false⟩)] :: [(q, ⟨cells.set k (.string (bs c)), es, false⟩)] :: L) [] ∧ s'.length ≤ s.length ∧ c.length ≤ s.length ∧ (b' = false → b = false ∧ s = sb c ++ s')) := by
  have hkl := (List.getElem?_eq_some_iff.1 hk).1
  have hrs := rsT_le s
  refine Cll.code rfl rfl ?_
  refine WC.env [(0, _), (1, _)] rfl ?_
  refine WC.seq ?_
  refine WC.run ?_
  refine WS.op rfl rfl (WS.op rfl rfl (WS.op rfl rfl (WS.op rfl (op_ld (M.at 0 rfl) rfl rfl) ?_)))
  refine WS.call rfl rfl rfl (num_ReadS_ran M.here (l := s) (by first | omega | (simp only [List.length_drop, List.length_take, List.length_append, List.length_cons, List.length_nil, List.length_singleton]; omega) | (simp only [List.length_drop, List.length_take, List.length_append, List.length_cons, List.length_nil, List.length_singleton] at *; omega))) ?_
  rintro _ h1 ⟨rfl, N2⟩
  have M3 := M.trans N2
  refine WS.op rfl rfl (WS.op rfl rfl (WS.op rfl rfl (WS.op rfl rfl (WS.op rfl rfl (WS.op rfl rfl (WS.op rfl rfl (WS.nil [(0, _), (1, _), (4, _), (5, _), (6, _)] rfl ?_)))))))
  refine WC.seq ?_
  refine WC.run ?_
  refine WS.op rfl rfl (WS.op rfl rfl (WS.op rfl rfl ?_))
  refine WS.call rfl rfl rfl (r_skip_ran (s := s) (b := b) (n := (rsK s)) (ok := (rsOK s)) (M3.focus 0 rfl) (by omega)) ?_
  rintro _ h5 ⟨s', b', rfl, M6, q1, q2⟩
  replace M6 : Mem _ _ ([(r, _)] :: [(q, _)] :: L) _ := M6
  refine WS.nil [(1, _), (4, _), (19, _)] rfl ?_
  cases hb1 : (!b')
  · skip
    refine WC.condF rfl ?_
    refine WC.skip ?_
    refine ⟨[], res_nil, ?_⟩
    have g0 : b' = true := by first | simpa using hb1 | simpa using hb2
    exact ⟨_, _, old, rfl, by rw [set_same hk]; exact M6, by rw [q2 g0]; exact Nat.le_refl _, by subst ho; exact Nat.zero_le _, fun q => by rw [g0] at q; exact absurd q (by decide)⟩
  · skip
    refine WC.condT rfl ?_
    refine WC.run ?_
    refine WS.op rfl rfl (WS.op rfl rfl (WS.op rfl rfl ?_))
    refine WS.st1 (M6.focus 1 rfl) [(.string (bs (rsT s)))] (cells.set k (.string (bs (rsT s)))) rfl rfl rfl rfl rfl (Nat.le_of_ble_eq_true rfl) (by exact hkl) rfl (splice_set hkl) ?_
    intro h7 M8
    replace M8 : Mem _ _ ([(q, _)] :: [(r, _)] :: L) _ := M8
    refine WS.nil [] rfl ?_
    refine ⟨[], res_nil, ?_⟩
    have g0 : b' = false := by first | simpa using hb1 | simpa using hb2
    obtain ⟨g1, g2, g3, g4⟩ := q1 g0
    exact ⟨_, _, rsT s, rfl, ((M8.focus 0 rfl).focus 1 rfl), by rw [g4, List.length_drop]; omega, hrs, fun q => ⟨g1, by rw [g4]; exact (getS_some (show getS s = some (rsT s, rsK s) by rw [getS_eq, g2]; rfl)).1⟩⟩
theorem well_ran (W : Mem h h [] []) {r : Nat} {s : List UInt8} {b : Bool} (hp : h.get r = some ⟨[.string (bs s), .bool b], 0, false⟩) : Cll tab0 35 [.pointer (some ⟨r, 0, none⟩)] h (fun v h2 => v = .bool (decide (b = false ∧ s = [])) ∧ Mem h h2 [] []) := by
  refine Cll.code rfl rfl ?_
  refine WC.env [(0, _)] rfl ?_
  refine WC.seq ?_
  refine WC.run ?_
  refine WS.op rfl rfl (WS.nil [(0, _)] rfl ?_)
  refine WC.seq ?_
  refine WC.run ?_
  refine WS.op rfl rfl (WS.op rfl rfl (WS.op rfl rfl (WS.op rfl (op_ld (W.sub _ _ hp) rfl rfl) ?_)))
  cases hb1 : b
  · skip
    refine WS.opV (.bool true) rfl rfl rfl (WS.op rfl rfl (WS.op rfl rfl (WS.op rfl rfl (WS.op rfl rfl (WS.op rfl (op_ld (W.sub _ _ hp) rfl rfl) ?_)))))
    refine WS.seql (l := s) (m := []) rfl rfl rfl (fun e13 => ?_) (fun e13 => ?_)
    · skip
      refine WS.op rfl rfl (WS.op rfl rfl (WS.nil [(2, _)] rfl ?_))
      refine WC.ret ?_
      refine ⟨[_], (res_tmp rfl res_nil), ?_⟩
      exact ⟨by rw [decide_eq_true ⟨by first | assumption | rfl, by assumption⟩]; rfl, W.bare.take 0⟩
    · skip
      refine WS.op rfl rfl (WS.op rfl rfl (WS.nil [(2, _)] rfl ?_))
      refine WC.ret ?_
      refine ⟨[_], (res_tmp rfl res_nil), ?_⟩
      exact ⟨by rw [decide_eq_false (by rintro ⟨q1, q2⟩; first | exact absurd q2 (by assumption) | (cases q1; done) | (rw [hb1] at q1; cases q1))]; rfl, W.bare.take 0⟩
  · skip
    refine WS.opV (.bool false) rfl rfl rfl (WS.op rfl rfl (WS.off rfl (WS.off rfl (WS.off rfl (WS.off rfl (WS.off rfl (WS.op rfl rfl (WS.op rfl rfl (WS.nil [(2, _)] rfl ?_)))))))))
    refine WC.ret ?_
    refine ⟨[_], (res_tmp rfl res_nil), ?_⟩
    exact ⟨by rw [decide_eq_false (by rintro ⟨q1, q2⟩; first | exact absurd q2 (by assumption) | (cases q1; done) | (rw [hb1] at q1; cases q1))]; rfl, W.bare.take 0⟩
theorem own_block {α : Type} {K : Row α} {V : Value} {l : List α} {S : Seg} (O : K.Own V l S) (hne : l ≠ []) : ∃ p, V = .slice (some ⟨p, 0, none⟩) l.length (2 * l.length) ∧ S = [(p, ⟨K.flat l, K.n, false⟩)] := by
  cases O with
  | nil => exact absurd rfl hne
  | row p l h => exact ⟨p, rfl, rfl⟩
theorem FitP_set {l : List Part} {i : Nat} {y : Part} (h : FitP l) (hy : y.ky.length ≤ 5000 ∧ y.va.length ≤ 5000) : FitP (l.set i y) := by
  intro p hp
  rcases List.mem_or_eq_of_mem_set hp with q | q
  · exact h p q
  · subst q; exact hy
theorem FitP_app {l : List Part} (h : FitP l) : FitP (l ++ [⟨0, [], []⟩]) := by
  intro p hp
  rcases List.mem_append.1 hp with q | q
  · exact h p q
  · rw [List.mem_singleton] at q; subst q; exact ⟨Nat.zero_le _, Nat.zero_le _⟩
set_option maxRecDepth 8000 in
theorem partsR_ran {r p : Nat} {s : List UInt8} {b : Bool} {c : Cmd} (M : Mem base h ([(r, ⟨[.string (bs s), .bool b], 0, false⟩)] :: [(p, ⟨c.cells (.slice none 0 0), 0, false⟩)] :: L) []) (hl : s.length ≤ 5000) : Cll tab0 59 [.iface 69 (.pointer (some ⟨r, 0, none⟩)), .pointer (some ⟨p, 0, none⟩)] h (fun v h2 => ∃ s' b' V ps S, v = .tuple #[] ∧ KPart.Own V ps S ∧ ps.length ≤ 40 ∧ FitP ps ∧ Mem base h2 (S :: [(r, ⟨[.string (bs s'), .bool b'], 0, false⟩)] :: [(p, ⟨c.cells V, 0, false⟩)] :: L) []) := by
  refine Cll.code rfl rfl ?_
  refine WC.env [(0, _), (1, _)] rfl ?_
  refine WC.seq ?_
  refine WC.run ?_
  refine WS.op rfl rfl (WS.op rfl rfl (WS.op rfl rfl (WS.op rfl (op_ld (M.at 1 rfl) rfl rfl) (WS.op rfl rfl (WS.opV (.int .u8 0) rfl rfl rfl ?_)))))
  refine WS.new M rfl ?_
  intro p1 h2 M3
  refine WS.st1 (M3.focus 0 rfl) [_] [_] rfl rfl rfl rfl rfl (Nat.le_of_ble_eq_true rfl) (Nat.le_of_ble_eq_true rfl) rfl rfl ?_
  intro h4 M5
  replace M5 : Mem _ _ ([(p1, _)] :: [(r, _)] :: [(p, _)] :: L) _ := M5
  refine WS.nil [(0, _), (1, _), (4, _)] rfl ?_
  refine WC.seq ?_
  refine WC.run ?_
  refine WS.op rfl rfl ?_
  refine WS.call rfl rfl rfl (r_byte_ran (s := s) (b := b) (k := 0) (old := 0) ((M5.focus 0 rfl).focus 1 rfl) rfl (by omega)) ?_
  rintro _ h6 ⟨s6_, b6_, m6_, rfl, M7, R6_⟩
  have R6_l := R6_.1
  replace M7 : Mem _ _ ([(r, _)] :: [(p1, _)] :: [(p, _)] :: L) _ := M7
  refine WS.nil [(0, _), (1, _), (4, _)] rfl ?_
  refine WC.seq ?_
  refine WC.run ?_
  refine WS.op rfl (op_ld (M7.at 1 rfl) rfl rfl) (WS.opV (.int .i64 (((m6_).toNat : Nat) : Int)) rfl rfl (cv_i64 (n := (m6_).toNat) (by have := UInt8.toNat_lt (m6_); omega)) (WS.opV (.int .i64 (((min ((m6_).toNat) 4) : Nat) : Int)) rfl rfl (mm_min (a := (m6_).toNat) (b := 4)) (WS.op rfl rfl (WS.nil [(0, _), (1, _), (17, _), (18, _)] rfl ?_))))
  refine WC.block ?_
  obtain ⟨L8, eL10, M9⟩ := Mem.name3 ((((M7.bare.focus 2 rfl).focus 1 rfl)).nils)
  refine WC.loop (σ := List UInt8 × Bool × List Part × Value × Seg × Nat) (fun ((s_, b_, ps, V_, S_, i)) => [(0, (.iface 69 (.pointer (some ⟨r, 0, none⟩)))), (1, (.pointer (some ⟨p, 0, none⟩))), (17, (.int .i64 (((min ((m6_).toNat) 4) : Nat) : Int))), (18, (.int .i64 ((i : Nat) : Int)))]) (fun ((s_, b_, ps, V_, S_, i)) hh => Mem base hh (S_ :: [(r, ⟨[(.string (bs s_)), (.bool b_)], 0, false⟩)] :: [(p, ⟨[(.int .u8 (((c.op).toNat : Nat) : Int)), (.int .u64 (((c.se).toNat : Nat) : Int)), (.int .u64 (((c.sq).toNat : Nat) : Int)), (.string (bs c.ky)), (.string (bs c.va)), (.string (bs c.ex)), (.string (bs c.fr)), (.string (bs c.to)), (.int .u8 (((c.li).toNat : Nat) : Int)), (.int .u64 (((c.le).toNat : Nat) : Int)), (.int .u64 (((c.tt).toNat : Nat) : Int)), V_], 0, false⟩)] :: L8) [] ∧ KPart.Own V_ ps S_ ∧ ps.length = i ∧ i ≤ 4 ∧ s_.length ≤ s.length ∧ FitP ps) (fun ((s_, b_, ps, V_, S_, i)) => 4 - i) (s6_, b6_, [], .slice none 0 0, [], 0) rfl ⟨(by exact M9), ?_⟩ ?_
  · exact ⟨.nil, rfl, by omega, by omega, by intro p hp; cases hp⟩
  · rintro ⟨s_, b_, ps, V_, S_, i⟩ h11 ⟨M12, ⟨hO, hlen, hi1, hsl, hF⟩⟩
    subst eL10
    refine WC.env [(0, _), (1, _), (17, _), (18, _)] rfl ?_
    obtain ⟨P_, rfl⟩ := hO.shape
    refine WC.seq ?_
    refine WC.run ?_
    refine WS.lssN (a := i) (b := (min ((m6_).toNat) 4)) rfl rfl rfl (fun e19 => ?_) (fun e19 => ?_)
    · skip
      refine WS.nil [(0, _), (1, _), (17, _), (18, _), (19, _)] rfl ?_
      refine WC.seq ?_
      refine WC.condT rfl ?_
      refine WC.skip ?_
      refine WC.seq ?_
      refine WC.block ?_
      refine WC.seq ?_
      refine WC.run ?_
      refine WS.op rfl rfl (WS.op rfl rfl (WS.nil [(0, _), (1, _), (5, _), (17, _), (18, _)] rfl ?_))
      refine WC.seq ?_
      refine WC.seq ?_
      refine WC.run ?_
      refine WS.op rfl rfl (WS.op rfl rfl (WS.op rfl rfl (WS.op rfl rfl (WS.op rfl (op_ld (M12.at 2 rfl) rfl rfl) (WS.op rfl (op_lenVO hO rfl) ?_)))))
      refine WS.eqlN (a := i) (b := (ps).length) rfl rfl rfl (fun e27 => ?_) (fun e27 => ?_)
      · skip
        refine WS.nil [(0, _), (1, _), (5, _), (17, _), (18, _), (27, _)] rfl ?_
        refine WC.condT rfl ?_
        refine WC.run ?_
        refine WS.op rfl rfl (WS.op rfl rfl (WS.op rfl rfl (WS.op rfl rfl (WS.op rfl (op_ld (M12.at 2 rfl) rfl rfl) (WS.opV (.agg #[(.int .u8 (0 : Int)), (.string (bs ([]))), (.string (bs ([])))]) rfl rfl rfl ?_)))))
        refine WS.bsl M12 [_, _, _] rfl rfl rfl rfl ?_
        intro p13 h14 M15
        refine WS.app (l := ps) (m := [(⟨0, [], []⟩ : Part)]) (hO) (M15.focus 1 rfl) (Row.Src.one (K := KPart) (m := [(⟨0, [], []⟩ : Part)]) (M15.at 0 rfl)) rfl (by simp only [List.length_cons, List.length_nil]; omega) (by simp only [List.length_cons, List.length_nil]; omega) rfl rfl rfl ?_
        intro V16 S17 h18 O19 M20
        obtain ⟨P21, rfl⟩ := Row.Own.shape O19
        refine WS.op rfl rfl (WS.op rfl rfl ?_)
        refine WS.st1 (M20.focus 3 rfl) [_] [_, _, _, _, _, _, _, _, _, _, _, _] rfl rfl rfl rfl rfl (Nat.le_of_ble_eq_true rfl) (Nat.le_of_ble_eq_true rfl) rfl rfl ?_
        intro h22 M23
        replace M23 : Mem _ _ ([(p, _)] :: S17 :: [(p13, _)] :: [(r, _)] :: [(p1, _)] :: L) _ := M23
        refine WS.nil [(0, _), (1, _), (5, _), (17, _), (18, _)] rfl ?_
        refine WC.seq ?_
        refine WC.run ?_
        refine WS.op rfl rfl (WS.op rfl rfl (WS.op rfl rfl (WS.op rfl (op_ld (M23.at 0 rfl) rfl rfl) (WS.op rfl rfl ?_))))
        obtain ⟨pp, hV_, rfl⟩ := own_block O19 (by simp)
        cases hV_
        have hy43 : ((ps ++ [(⟨0, [], []⟩ : Part)]))[i]? = some (⟨0, [], []⟩ : Part) := by rw [← hlen]; simp
        refine WS.op rfl (op_iaV2 i rfl rfl (by simp only [List.length_append, List.length_cons, List.length_nil]; omega)) (WS.op rfl rfl (WS.nil [(0, _), (1, _), (6, _), (17, _), (18, _)] rfl ?_))
        refine WC.seq ?_
        refine WC.draw M23 [] rfl ?_
        intro rb24 h25 M26
        refine WS.op rfl rfl (WS.op rfl rfl (WS.op rfl rfl (WS.op rfl rfl (WS.op rfl rfl (WS.op rfl rfl (WS.op rfl rfl ?_))))))
        refine WS.call rfl rfl rfl (r_byte_ran (s := s_) (b := b_) (k := 0 + i * 3 + 0) (old := ((⟨0, [], []⟩ : Part).op)) ((M26.focus 1 rfl).focus 3 rfl) (flat_at0 hy43 rfl) (by omega)) ?_
        rintro _ h27 ⟨s27_, b27_, m27_, rfl, M28, R27_⟩
        have R27_l := R27_.1
        rw [show (KPart.flat (ps ++ [(⟨0, [], []⟩ : Part)])).set (0 + i * 3 + 0) (.int .u8 (((m27_).toNat : Nat) : Int)) = KPart.flat ((ps ++ [(⟨0, [], []⟩ : Part)]).set i (⟨m27_, [], []⟩ : Part)) from flat_set0 (K := KPart) (k := 0) hy43 (by decide) rfl] at M28
        have hyh27 : ((ps ++ [(⟨0, [], []⟩ : Part)]).set i (⟨m27_, [], []⟩ : Part))[i]? = some (⟨m27_, [], []⟩ : Part) := List.getElem?_set_self (List.getElem?_eq_some_iff.1 hy43).1
        replace M28 : Mem _ _ ([(r, _)] :: [(pp, _)] :: [(p, _)] :: [(p13, _)] :: [(p1, _)] :: L) _ := M28
        refine WS.nil [(0, _), (1, _), (6, _), (17, _), (18, _)] rfl ?_
        refine WC.seq ?_
        refine WC.draw M28.bare [] rfl ?_
        intro rb29 h30 M31
        refine WS.op rfl rfl (WS.op rfl rfl (WS.op rfl rfl (WS.op rfl rfl (WS.op rfl rfl (WS.op rfl rfl (WS.op rfl rfl ?_))))))
        refine WS.call rfl rfl rfl (r_text_ran (s := s27_) (b := b27_) (k := 0 + i * 3 + 1) ((M31.focus 1 rfl).focus 1 rfl) (flat_at0 hyh27 rfl) (by omega) rfl) ?_
        rintro _ h32 ⟨s32_, b32_, m32_, rfl, M33, R32_⟩
        have R32_l := R32_.1
        have R32_t := R32_.2.1
        rw [show (KPart.flat ((ps ++ [(⟨0, [], []⟩ : Part)]).set i (⟨m27_, [], []⟩ : Part))).set (0 + i * 3 + 1) (.string (bs m32_)) = KPart.flat (((ps ++ [(⟨0, [], []⟩ : Part)]).set i (⟨m27_, [], []⟩ : Part)).set i (⟨m27_, m32_, []⟩ : Part)) from flat_set0 (K := KPart) (k := 1) hyh27 (by decide) rfl] at M33
        have hyh32 : (((ps ++ [(⟨0, [], []⟩ : Part)]).set i (⟨m27_, [], []⟩ : Part)).set i (⟨m27_, m32_, []⟩ : Part))[i]? = some (⟨m27_, m32_, []⟩ : Part) := List.getElem?_set_self (List.getElem?_eq_some_iff.1 hyh27).1
        replace M33 : Mem _ _ ([(r, _)] :: [(pp, _)] :: [(p, _)] :: [(p13, _)] :: [(p1, _)] :: L) _ := M33
        refine WS.nil [(0, _), (1, _), (6, _), (17, _), (18, _)] rfl ?_
        refine WC.seq ?_
        refine WC.run ?_
        refine WS.op rfl rfl (WS.op rfl rfl (WS.op rfl rfl (WS.op rfl (op_ldH rfl (Row.ld (K := KPart) (k := 0) (M33.bare.at 1 rfl) hyh32 rfl)) ?_)))
        refine WS.eqlN (a := ((⟨m27_, m32_, []⟩ : Part).op).toNat) (b := 2) rfl rfl rfl (fun e64 => ?_) (fun e64 => ?_)
        · skip
          refine WS.nil [(0, _), (1, _), (6, _), (17, _), (18, _), (64, _)] rfl ?_
          refine WC.condT rfl ?_
          refine WC.draw M33.bare [] rfl ?_
          intro rb34 h35 M36
          refine WS.op rfl rfl (WS.op rfl rfl (WS.op rfl rfl (WS.op rfl rfl (WS.op rfl rfl (WS.op rfl rfl (WS.op rfl rfl ?_))))))
          refine WS.call rfl rfl rfl (r_text_ran (s := s32_) (b := b32_) (k := 0 + i * 3 + 2) ((M36.focus 1 rfl).focus 1 rfl) (flat_at0 hyh32 rfl) (by omega) rfl) ?_
          rintro _ h37 ⟨s37_, b37_, m37_, rfl, M38, R37_⟩
          have R37_l := R37_.1
          have R37_t := R37_.2.1
          rw [show (KPart.flat (((ps ++ [(⟨0, [], []⟩ : Part)]).set i (⟨m27_, [], []⟩ : Part)).set i (⟨m27_, m32_, []⟩ : Part))).set (0 + i * 3 + 2) (.string (bs m37_)) = KPart.flat ((((ps ++ [(⟨0, [], []⟩ : Part)]).set i (⟨m27_, [], []⟩ : Part)).set i (⟨m27_, m32_, []⟩ : Part)).set i (⟨m27_, m32_, m37_⟩ : Part)) from flat_set0 (K := KPart) (k := 2) hyh32 (by decide) rfl] at M38
          have hyh37 : ((((ps ++ [(⟨0, [], []⟩ : Part)]).set i (⟨m27_, [], []⟩ : Part)).set i (⟨m27_, m32_, []⟩ : Part)).set i (⟨m27_, m32_, m37_⟩ : Part))[i]? = some (⟨m27_, m32_, m37_⟩ : Part) := List.getElem?_set_self (List.getElem?_eq_some_iff.1 hyh32).1
          replace M38 : Mem _ _ ([(r, _)] :: [(pp, _)] :: [(p, _)] :: [(p13, _)] :: [(p1, _)] :: L) _ := M38
          refine WS.nil [(0, _), (1, _), (17, _), (18, _)] rfl ?_
          refine WC.run ?_
          refine WS.opV (.int .i64 (((i + 1) : Nat) : Int)) rfl rfl (add_i64 (a := i) (b := 1) (by omega)) (WS.op rfl rfl (WS.nil [(0, _), (1, _), (17, _), (18, _)] rfl ?_))
          refine ⟨(s37_, b37_, ((((ps ++ [(⟨0, [], []⟩ : Part)]).set i (⟨m27_, [], []⟩ : Part)).set i (⟨m27_, m32_, []⟩ : Part)).set i (⟨m27_, m32_, m37_⟩ : Part)), (.slice (some ⟨pp, 0, none⟩) ((ps ++ [(⟨0, [], []⟩ : Part)])).length (2 * ((ps ++ [(⟨0, [], []⟩ : Part)])).length)), [(pp, ⟨KPart.flat ((((ps ++ [(⟨0, [], []⟩ : Part)]).set i (⟨m27_, [], []⟩ : Part)).set i (⟨m27_, m32_, []⟩ : Part)).set i (⟨m27_, m32_, m37_⟩ : Part)), 3, false⟩)], i + 1), rfl, ⟨((((((M38.bare.focus 3 rfl).drop).focus 3 rfl).focus 3 rfl).focus 2 rfl).focus 3 rfl), ?_⟩, ?_⟩
          · exact ⟨(by have q_ := Row.Own.row (K := KPart) pp ((((ps ++ [(⟨0, [], []⟩ : Part)]).set i (⟨m27_, [], []⟩ : Part)).set i (⟨m27_, m32_, []⟩ : Part)).set i (⟨m27_, m32_, m37_⟩ : Part)) (by intro q; have := congrArg List.length q; simp at this); rw [show (((((ps ++ [(⟨0, [], []⟩ : Part)]).set i (⟨m27_, [], []⟩ : Part)).set i (⟨m27_, m32_, []⟩ : Part)).set i (⟨m27_, m32_, m37_⟩ : Part))).length = ((ps ++ [(⟨0, [], []⟩ : Part)])).length by simp] at q_; exact q_), by simp [hlen], by omega, by omega, by (repeat' (first | exact FitP_app hF | refine FitP_set ?_ ⟨by dsimp only; first | omega | simp, by dsimp only; first | omega | simp⟩))⟩
          · simp only []; omega
        · skip
          refine WS.nil [(0, _), (1, _), (6, _), (17, _), (18, _), (64, _)] rfl ?_
          refine WC.condF rfl ?_
          refine WC.skip ?_
          refine WC.run ?_
          refine WS.opV (.int .i64 (((i + 1) : Nat) : Int)) rfl rfl (add_i64 (a := i) (b := 1) (by omega)) (WS.op rfl rfl (WS.nil [(0, _), (1, _), (17, _), (18, _)] rfl ?_))
          refine ⟨(s32_, b32_, (((ps ++ [(⟨0, [], []⟩ : Part)]).set i (⟨m27_, [], []⟩ : Part)).set i (⟨m27_, m32_, []⟩ : Part)), (.slice (some ⟨pp, 0, none⟩) ((ps ++ [(⟨0, [], []⟩ : Part)])).length (2 * ((ps ++ [(⟨0, [], []⟩ : Part)])).length)), [(pp, ⟨KPart.flat (((ps ++ [(⟨0, [], []⟩ : Part)]).set i (⟨m27_, [], []⟩ : Part)).set i (⟨m27_, m32_, []⟩ : Part)), 3, false⟩)], i + 1), rfl, ⟨((((((M33.bare.focus 3 rfl).drop).focus 3 rfl).focus 3 rfl).focus 2 rfl).focus 3 rfl), ?_⟩, ?_⟩
          · exact ⟨(by have q_ := Row.Own.row (K := KPart) pp (((ps ++ [(⟨0, [], []⟩ : Part)]).set i (⟨m27_, [], []⟩ : Part)).set i (⟨m27_, m32_, []⟩ : Part)) (by intro q; have := congrArg List.length q; simp at this); rw [show ((((ps ++ [(⟨0, [], []⟩ : Part)]).set i (⟨m27_, [], []⟩ : Part)).set i (⟨m27_, m32_, []⟩ : Part))).length = ((ps ++ [(⟨0, [], []⟩ : Part)])).length by simp] at q_; exact q_), by simp [hlen], by omega, by omega, by (repeat' (first | exact FitP_app hF | refine FitP_set ?_ ⟨by dsimp only; first | omega | simp, by dsimp only; first | omega | simp⟩))⟩
          · simp only []; omega
      · skip
        exact absurd hlen.symm e27
    · skip
      refine WS.nil [(0, _), (1, _), (17, _), (18, _), (19, _)] rfl ?_
      refine WC.seq ?_
      refine WC.condF rfl ?_
      refine WC.exit ?_
      refine ⟨[], res_nil, ?_⟩
      exact ⟨_, _, _, _, _, rfl, hO, by omega, hF, (M12.focus 3 rfl).drop⟩
end Go.Proofs.Ytncpdahappmhkaa.Wt
