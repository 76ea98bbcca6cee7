/- The ring of chapter 19: its cells, its rows, and its functions walked. -/
import Derived.Test.YtegogkiccmghgaaNm
namespace Go.Proofs.Ytegogkiccmghgaa.Wt
open Go Go.Proofs.Ytegogkiccmghgaa.Am Go.Proofs.Ytegogkiccmghgaa.IrAll
set_option linter.unusedVariables false
set_option linter.unusedSimpArgs false
structure Rw where
  op : UInt8
  cd : UInt8
  t0 : UInt8
  t1 : UInt8
  t2 : UInt8
  t3 : UInt8
  t4 : UInt8
  t5 : UInt8
  t6 : UInt8
  t7 : UInt8
  sq : UInt64
  deriving DecidableEq
def Rw.cells (x : Rw) : List Value := [(.int .u8 (((x.op).toNat : Nat) : Int)), (.int .u8 (((x.cd).toNat : Nat) : Int)), (.int .u8 (((x.t0).toNat : Nat) : Int)), (.int .u8 (((x.t1).toNat : Nat) : Int)), (.int .u8 (((x.t2).toNat : Nat) : Int)), (.int .u8 (((x.t3).toNat : Nat) : Int)), (.int .u8 (((x.t4).toNat : Nat) : Int)), (.int .u8 (((x.t5).toNat : Nat) : Int)), (.int .u8 (((x.t6).toNat : Nat) : Int)), (.int .u8 (((x.t7).toNat : Nat) : Int)), (.int .u64 (((x.sq).toNat : Nat) : Int))]
def KRw : Row Rw := ⟨Rw.cells, 11, fun _ => rfl, by decide, fun _ => rfl⟩

theorem u8_inj {a b : UInt8} (h : a.toNat = b.toNat) : a = b := UInt8.toNat_inj.1 h
theorem u64_inj {a b : UInt64} (h : a.toNat = b.toNat) : a = b := UInt64.toNat_inj.1 h
theorem Rw_eqV (x y : Rw) : eqV (.agg [(0, 1), (1, 1), (2, 1), (3, 1), (4, 1), (5, 1), (6, 1), (7, 1), (8, 1), (9, 1), (10, 1)]) (.agg (Rw.cells x).toArray) (.agg (Rw.cells y).toArray) = some (decide (x = y)) := by
  have e : eqV (.agg [(0, 1), (1, 1), (2, 1), (3, 1), (4, 1), (5, 1), (6, 1), (7, 1), (8, 1), (9, 1), (10, 1)]) (.agg (Rw.cells x).toArray) (.agg (Rw.cells y).toArray) = some (((((x.op.toNat : Nat) : Int) == ((y.op.toNat : Nat) : Int)) && ((((x.cd.toNat : Nat) : Int) == ((y.cd.toNat : Nat) : Int)) && ((((x.t0.toNat : Nat) : Int) == ((y.t0.toNat : Nat) : Int)) && ((((x.t1.toNat : Nat) : Int) == ((y.t1.toNat : Nat) : Int)) && ((((x.t2.toNat : Nat) : Int) == ((y.t2.toNat : Nat) : Int)) && ((((x.t3.toNat : Nat) : Int) == ((y.t3.toNat : Nat) : Int)) && ((((x.t4.toNat : Nat) : Int) == ((y.t4.toNat : Nat) : Int)) && ((((x.t5.toNat : Nat) : Int) == ((y.t5.toNat : Nat) : Int)) && ((((x.t6.toNat : Nat) : Int) == ((y.t6.toNat : Nat) : Int)) && ((((x.t7.toNat : Nat) : Int) == ((y.t7.toNat : Nat) : Int)) && ((((x.sq.toNat : Nat) : Int) == ((y.sq.toNat : Nat) : Int)) && true)))))))))))) := rfl
  rw [e]; congr 1
  rw [Bool.eq_iff_iff]
  simp only [Bool.and_eq_true, beq_iff_eq, bs_toList, decide_eq_true_eq, Bool.and_true, and_true]
  constructor
  · intro h
    obtain ⟨h0, h1, h2, h3, h4, h5, h6, h7, h8, h9, h10⟩ := h
    obtain ⟨⟩ := x; obtain ⟨⟩ := y
    simp only at *
    rw [u8_inj (Int.ofNat.inj h0), u8_inj (Int.ofNat.inj h1), u8_inj (Int.ofNat.inj h2), u8_inj (Int.ofNat.inj h3), u8_inj (Int.ofNat.inj h4), u8_inj (Int.ofNat.inj h5), u8_inj (Int.ofNat.inj h6), u8_inj (Int.ofNat.inj h7), u8_inj (Int.ofNat.inj h8), u8_inj (Int.ofNat.inj h9), u64_inj (Int.ofNat.inj h10)]
  · intro h; subst h; exact ⟨rfl, rfl, rfl, rfl, rfl, rfl, rfl, rfl, rfl, rfl, rfl⟩

variable {h base : H} {L : List Seg} {R : List Nat}
/-! ### Cells -/
def rg (rs : List Rw) (a m t : Nat) : List Value := KRw.flat rs ++ [.int .i64 (a : Int), .int .i64 (m : Int), .int .u64 (t : Int)]
theorem flat8 {rs : List Rw} (hl : rs.length = 8) : (KRw.flat rs).length = 88 := by rw [Row.flat_length, hl]; rfl
theorem splice_mid {A Y B X : List Value} {n : Nat} (hn : A.length = n) (h : X.length = Y.length) : splice (A ++ (Y ++ B)) n X = A ++ (X ++ B) := by
  subst hn
  unfold splice
  rw [List.take_left, h, ← List.length_append, ← List.append_assoc, List.drop_left, List.append_assoc]
section
variable {rs : List Rw} {a m t : Nat} (hl : rs.length = 8)
include hl
theorem rg_len : (rg rs a m t).length = 91 := by unfold rg; rw [List.length_append, flat8 hl]; rfl
theorem rg88 : (rg rs a m t)[88]? = some (.int .i64 (a : Int)) := by unfold rg; rw [List.getElem?_append_right (by rw [flat8 hl]; omega), flat8 hl]; rfl
theorem rg89 : (rg rs a m t)[89]? = some (.int .i64 (m : Int)) := by unfold rg; rw [List.getElem?_append_right (by rw [flat8 hl]; omega), flat8 hl]; rfl
theorem rg90 : (rg rs a m t)[90]? = some (.int .u64 (t : Int)) := by unfold rg; rw [List.getElem?_append_right (by rw [flat8 hl]; omega), flat8 hl]; rfl
theorem rg_row {j : Nat} {y : Rw} (hy : rs[j]? = some y) : ((rg rs a m t).drop (0 + j * 11)).take 11 = Rw.cells y := by
  have hj := (List.getElem?_eq_some_iff.1 hy).1
  have hf := flat8 hl
  unfold rg
  rw [Nat.zero_add, List.drop_append_of_le_length (by omega), List.take_append_of_le_length (by rw [List.length_drop]; omega)]
  exact KRw.flat_get rs j y hy
theorem rg_set {j : Nat} (hj : j < 8) (x : Rw) : splice (rg rs a m t) (0 + j * 11) (Rw.cells x) = rg (rs.set j x) a m t := by
  have e : rs = rs.take j ++ (rs[j] :: rs.drop (j + 1)) := by rw [← List.drop_eq_getElem_cons, List.take_append_drop]
  have e2 : rs.set j x = rs.take j ++ (x :: rs.drop (j + 1)) := List.set_eq_take_append_cons_drop.trans (if_pos (by omega))
  unfold rg
  rw [e2]
  conv => lhs; rw [e]
  rw [Row.flat_append, Row.flat_cons, Row.flat_append, Row.flat_cons, List.append_assoc, List.append_assoc, List.append_assoc, List.append_assoc]
  exact splice_mid (by rw [Row.flat_length, List.length_take, Nat.min_eq_left (by omega), Nat.zero_add]; rfl) (by rw [Row.len]; rfl)
theorem rgs88 {b : Nat} : splice (rg rs a m t) 88 [.int .i64 (b : Int)] = rg rs b m t :=
  splice_mid (A := KRw.flat rs) (Y := [.int .i64 (a : Int)]) (B := [.int .i64 (m : Int), .int .u64 (t : Int)]) (flat8 hl) rfl
theorem rgs89 {b : Nat} : splice (rg rs a m t) 89 [.int .i64 (b : Int)] = rg rs a b t := by
  have := splice_mid (A := KRw.flat rs ++ [.int .i64 (a : Int)]) (Y := [.int .i64 (m : Int)]) (B := [.int .u64 (t : Int)]) (X := [.int .i64 (b : Int)]) (n := 89) (by rw [List.length_append, flat8 hl]; rfl) rfl
  simpa [rg] using this
theorem rgs90 {b : Nat} : splice (rg rs a m t) 90 [.int .u64 (b : Int)] = rg rs a m b := by
  have := splice_mid (A := KRw.flat rs ++ [.int .i64 (a : Int), .int .i64 (m : Int)]) (Y := [.int .u64 (t : Int)]) (B := []) (X := [.int .u64 (b : Int)]) (n := 90) (by rw [List.length_append, flat8 hl]; rfl) rfl
  simpa [rg] using this
end
theorem op_iaAg {e : Env} {x y : Operand} {p n es o : Nat} {k : IntKind} (j : Nat) (hx : ev e x = some (.pointer (some ⟨p, o, none⟩))) (hy : ev e y = some (.int k (j : Int))) (hj : j < n) : opE (.iaA n es x y) e h none = some (.pointer (some ⟨p, o + j * es, none⟩), h) := by
  simp only [opE, hx, hy]; rw [if_pos ⟨by omega, by omega⟩]; simp
theorem mm_min {k : IntKind} {a b : Nat} : Value.int k (if true = true then (if (b : Int) < (a : Int) then (b : Int) else (a : Int)) else (if (b : Int) > (a : Int) then (b : Int) else (a : Int))) = .int k ((min a b : Nat) : Int) := by
  congr 1
  rw [if_pos rfl]
  split <;> omega
/-! ### What it says -/
def view (rs : List Rw) (a m : Nat) : List Rw := ((rs ++ rs).drop a).take m
def addv (l : List Rw) (x : Rw) : List Rw := if l.length < 8 then l ++ [x] else l.drop 1 ++ [x]
def addt (t : Nat) : Nat := if t < 18446744073709551615 then t + 1 else t
theorem addt_lt {t : Nat} (h : t < 18446744073709551616) : addt t < 18446744073709551616 := by unfold addt; split <;> omega
theorem addv_le {l : List Rw} (x : Rw) (h : l.length ≤ 8) : (addv l x).length ≤ 8 := by
  unfold addv; split
  · simp; omega
  · simp; omega
theorem addv_pos (l : List Rw) (x : Rw) : 0 < (addv l x).length := by unfold addv; split <;> simp
theorem addv_ne (l : List Rw) (x : Rw) : addv l x ≠ [] := List.length_pos_iff.1 (addv_pos l x)
theorem view_len {rs : List Rw} {a m : Nat} (hl : rs.length = 8) (ha : a < 8) (hm : m ≤ 8) : (view rs a m).length = m := by
  simp [view, hl]; omega
theorem view_get {rs : List Rw} {a m i : Nat} (hl : rs.length = 8) (ha : a < 8) (hi : i < m) (hm : m ≤ 8) : (view rs a m)[i]? = rs[(a + i) % 8]? := by
  unfold view
  rw [List.getElem?_take, if_pos hi, List.getElem?_drop]
  by_cases c : a + i < 8
  · rw [List.getElem?_append_left (by omega), Nat.mod_eq_of_lt c]
  · rw [List.getElem?_append_right (by omega), hl, show (a + i) % 8 = a + i - 8 by omega]
theorem view_add {rs : List Rw} {a m : Nat} (x : Rw) (hl : rs.length = 8) (ha : a < 8) (hm : m < 8) : view (rs.set ((a + m) % 8) x) a (m + 1) = addv (view rs a m) x := by
  have hl2 : (rs.set ((a + m) % 8) x).length = 8 := by rw [List.length_set]; exact hl
  have hv := view_len hl ha (show m ≤ 8 by omega)
  unfold addv; rw [if_pos (by omega)]
  apply List.ext_getElem?
  intro i
  by_cases c : i < m
  · rw [view_get hl2 ha (by omega) (by omega), List.getElem?_append_left (by omega), view_get hl ha c (by omega), List.getElem?_set, if_neg (by omega)]
  · by_cases d : i = m
    · subst d; rw [view_get hl2 ha (by omega) (by omega), List.getElem?_append_right (by omega), hv, List.getElem?_set, if_pos rfl, if_pos (by omega)]; simp
    · rw [List.getElem?_eq_none (by rw [view_len hl2 ha (by omega)]; omega), List.getElem?_eq_none (by rw [List.length_append, hv]; simp; omega)]
theorem view_roll {rs : List Rw} {a : Nat} (x : Rw) (hl : rs.length = 8) (ha : a < 8) : view (rs.set ((a + 8) % 8) x) ((a + 1) % 8) 8 = addv (view rs a 8) x := by
  have hl2 : (rs.set ((a + 8) % 8) x).length = 8 := by rw [List.length_set]; exact hl
  have hv := view_len hl ha (show 8 ≤ 8 by omega)
  unfold addv; rw [if_neg (by omega)]
  apply List.ext_getElem?
  intro i
  by_cases c : i < 7
  · rw [view_get hl2 (by omega) (by omega) (by omega), List.getElem?_append_left (by rw [List.length_drop]; omega), List.getElem?_drop, view_get hl ha (by omega) (by omega), List.getElem?_set, if_neg (by omega)]
    congr 1; omega
  · by_cases d : i = 7
    · subst d; rw [view_get hl2 (by omega) (by omega) (by omega), List.getElem?_append_right (by rw [List.length_drop]; omega), List.length_drop, hv, List.getElem?_set, if_pos (by omega), if_pos (by omega)]; simp
    · rw [List.getElem?_eq_none (by rw [view_len hl2 (by omega) (by omega)]; omega), List.getElem?_eq_none (by rw [List.length_append, List.length_drop, hv]; simp; omega)]
def Ring (cs : List Value) (l : List Rw) (t : Nat) : Prop := ∃ rs a m, rs.length = 8 ∧ a < 8 ∧ m ≤ 8 ∧ t < 18446744073709551616 ∧ cs = rg rs a m t ∧ l = view rs a m
theorem Ring.lt {cs : List Value} {l : List Rw} {t : Nat} (G : Ring cs l t) : t < 18446744073709551616 := by obtain ⟨_, _, _, _, _, _, ht, _⟩ := G; exact ht
theorem Ring.le {cs : List Value} {l : List Rw} {t : Nat} (G : Ring cs l t) : l.length ≤ 8 := by obtain ⟨rs, a, m, hl, ha, hm, _, _, rfl⟩ := G; rw [view_len hl ha hm]; exact hm
theorem ring0 : Ring (rg (List.replicate 8 ⟨0, 0, 0, 0, 0, 0, 0, 0, 0, 0, 0⟩) 0 0 0) [] 0 := ⟨_, 0, 0, rfl, by omega, by omega, by omega, rfl, rfl⟩
theorem Ring.tot {cs : List Value} {l : List Rw} {t n : Nat} (G : Ring cs l t) (hn : n < 18446744073709551616) : ∃ cs2, splice cs 90 [.int .u64 (n : Int)] = cs2 ∧ 90 + 1 ≤ cs.length ∧ Ring cs2 l n := by
  obtain ⟨rs, a, m, hl, ha, hm, ht, rfl, rfl⟩ := G
  exact ⟨_, rgs90 hl, by rw [rg_len hl]; omega, rs, a, m, hl, ha, hm, hn, rfl, rfl⟩
/-! ### Walks -/
set_option maxRecDepth 8000 in
theorem ring_New_ran (W : Mem h h [] []) : Cll tab0 9 [] h (fun v h2 => ∃ p cs, Ring cs [] 0 ∧ v = .pointer (some ⟨p, 0, none⟩) ∧ Mem h h2 [[(p, ⟨cs, 0, false⟩)]] []) := by
  refine Cll.code rfl rfl ?_
  refine WC.env [] rfl ?_
  refine WC.seq ?_
  refine WC.run ?_
  refine WS.op rfl rfl (WS.nil [] rfl ?_)
  refine WC.seq ?_
  refine WC.run ?_
  refine WS.opV (.agg #[(.int .u8 (0 : Int)), (.int .u8 (0 : Int)), (.int .u8 (0 : Int)), (.int .u8 (0 : Int)), (.int .u8 (0 : Int)), (.int .u8 (0 : Int)), (.int .u8 (0 : Int)), (.int .u8 (0 : Int)), (.int .u8 (0 : Int)), (.int .u8 (0 : Int)), (.int .u64 (0 : Int)), (.int .u8 (0 : Int)), (.int .u8 (0 : Int)), (.int .u8 (0 : Int)), (.int .u8 (0 : Int)), (.int .u8 (0 : Int)), (.int .u8 (0 : Int)), (.int .u8 (0 : Int)), (.int .u8 (0 : Int)), (.int .u8 (0 : Int)), (.int .u8 (0 : Int)), (.int .u64 (0 : Int)), (.int .u8 (0 : Int)), (.int .u8 (0 : Int)), (.int .u8 (0 : Int)), (.int .u8 (0 : Int)), (.int .u8 (0 : Int)), (.int .u8 (0 : Int)), (.int .u8 (0 : Int)), (.int .u8 (0 : Int)), (.int .u8 (0 : Int)), (.int .u8 (0 : Int)), (.int .u64 (0 : Int)), (.int .u8 (0 : Int)), (.int .u8 (0 : Int)), (.int .u8 (0 : Int)), (.int .u8 (0 : Int)), (.int .u8 (0 : Int)), (.int .u8 (0 : Int)), (.int .u8 (0 : Int)), (.int .u8 (0 : Int)), (.int .u8 (0 : Int)), (.int .u8 (0 : Int)), (.int .u64 (0 : Int)), (.int .u8 (0 : Int)), (.int .u8 (0 : Int)), (.int .u8 (0 : Int)), (.int .u8 (0 : Int)), (.int .u8 (0 : Int)), (.int .u8 (0 : Int)), (.int .u8 (0 : Int)), (.int .u8 (0 : Int)), (.int .u8 (0 : Int)), (.int .u8 (0 : Int)), (.int .u64 (0 : Int)), (.int .u8 (0 : Int)), (.int .u8 (0 : Int)), (.int .u8 (0 : Int)), (.int .u8 (0 : Int)), (.int .u8 (0 : Int)), (.int .u8 (0 : Int)), (.int .u8 (0 : Int)), (.int .u8 (0 : Int)), (.int .u8 (0 : Int)), (.int .u8 (0 : Int)), (.int .u64 (0 : Int)), (.int .u8 (0 : Int)), (.int .u8 (0 : Int)), (.int .u8 (0 : Int)), (.int .u8 (0 : Int)), (.int .u8 (0 : Int)), (.int .u8 (0 : Int)), (.int .u8 (0 : Int)), (.int .u8 (0 : Int)), (.int .u8 (0 : Int)), (.int .u8 (0 : Int)), (.int .u64 (0 : Int)), (.int .u8 (0 : Int)), (.int .u8 (0 : Int)), (.int .u8 (0 : Int)), (.int .u8 (0 : Int)), (.int .u8 (0 : Int)), (.int .u8 (0 : Int)), (.int .u8 (0 : Int)), (.int .u8 (0 : Int)), (.int .u8 (0 : Int)), (.int .u8 (0 : Int)), (.int .u64 (0 : Int)), (.int .i64 (0 : Int)), (.int .i64 (0 : Int)), (.int .u64 (0 : Int))]) rfl rfl rfl ?_
  refine WS.box W [_, _, _, _, _, _, _, _, _, _, _, _, _, _, _, _, _, _, _, _, _, _, _, _, _, _, _, _, _, _, _, _, _, _, _, _, _, _, _, _, _, _, _, _, _, _, _, _, _, _, _, _, _, _, _, _, _, _, _, _, _, _, _, _, _, _, _, _, _, _, _, _, _, _, _, _, _, _, _, _, _, _, _, _, _, _, _, _, _, _, _] rfl rfl rfl rfl ?_
  intro p1 h2 M3
  refine WS.op rfl rfl (WS.nil [(0, _)] rfl ?_)
  refine WC.ret ?_
  refine ⟨[_], (res_tmp rfl res_nil), ?_⟩
  exact ⟨_, _, ring0, rfl, M3⟩
set_option maxRecDepth 8000 in
theorem ring_Add_ran {p t : Nat} {cs : List Value} {l : List Rw} {x : Rw} (G : Ring cs l t) (M : Mem base h ([(p, ⟨cs, 0, false⟩)] :: L) []) : Cll tab0 10 [.pointer (some ⟨p, 0, none⟩), .agg (Rw.cells x).toArray] h (fun v h2 => ∃ cs2, Ring cs2 (addv l x) (addt t) ∧ v = .tuple #[] ∧ Mem base h2 ([(p, ⟨cs2, 0, false⟩)] :: L) []) := by
  obtain ⟨rs, a, m, hl, ha, hm, ht, rfl, rfl⟩ := G
  refine Cll.code rfl rfl ?_
  refine WC.env [(0, _), (1, _)] rfl ?_
  refine WC.seq ?_
  refine WC.run ?_
  refine WS.box M [_, _, _, _, _, _, _, _, _, _, _] rfl rfl rfl rfl ?_
  intro p1 h2 M3
  refine WS.nil [(0, _), (3, _)] rfl ?_
  refine WC.seq ?_
  refine WC.seq ?_
  refine WC.run ?_
  refine WS.op rfl rfl (WS.opV (.bool false) rfl rfl rfl (WS.nil [(0, _), (3, _), (5, _)] rfl ?_))
  refine WC.condF rfl ?_
  refine WC.skip ?_
  refine WC.seq ?_
  refine WC.draw M3 [] rfl ?_
  intro rb4 h5 M6
  refine WS.op rfl rfl (WS.op rfl rfl (WS.op rfl rfl (WS.op rfl rfl (WS.op rfl (op_ld (M6.at 1 rfl) rfl (rg88 hl)) (WS.op rfl rfl (WS.op rfl rfl (WS.op rfl rfl (WS.op rfl (op_ld (M6.at 1 rfl) rfl (rg89 hl)) (WS.opV (.int .i64 (((a + m) : Nat) : Int)) rfl rfl (add_i64 (a := a) (b := m) (by omega)) ?_)))))))))
  refine WS.opV (.int .i64 ((((a + m) % 8) : Nat) : Int)) rfl rfl (rem_k (a := (a + m)) (b := 8)) (WS.op rfl (op_lds [_, _, _, _, _, _, _, _, _, _, _] (M6.at 0 rfl) rfl (Nat.le_of_ble_eq_true rfl) rfl) (WS.op rfl rfl (WS.op rfl rfl ?_)))
  obtain ⟨y20, hy20⟩ : ∃ y, (rs)[((a + m) % 8)]? = some y := ⟨_, List.getElem?_eq_getElem (show ((a + m) % 8) < (rs).length by omega)⟩
  refine WS.op rfl (op_iaAg ((a + m) % 8) rfl rfl (by omega)) ?_
  have hl9 : ((rs.set ((a + m) % 8) x)).length = 8 := by rw [List.length_set]; exact hl
  refine WS.st1 (M6.focus 1 rfl) (Rw.cells x) (rg (rs.set ((a + m) % 8) x) a m t) rfl rfl rfl rfl rfl (Nat.le_of_ble_eq_true rfl) (by rw [rg_len hl]; show 0 + _ * 11 + 11 ≤ 91; omega) rfl (rg_set hl (by omega) x) ?_
  intro h7 M8
  replace M8 : Mem _ _ ([(p, _)] :: [(p1, _)] :: L) _ := M8
  refine WS.nil [(0, _)] rfl ?_
  refine WC.seq ?_
  refine WC.seq ?_
  refine WC.run ?_
  refine WS.op rfl rfl (WS.op rfl rfl (WS.op rfl rfl (WS.op rfl (op_ld (M8.bare.at 0 rfl) rfl (rg89 hl9)) ?_)))
  refine WS.lssN (a := m) (b := 8) rfl rfl rfl (fun e25 => ?_) (fun e25 => ?_)
  · skip
    refine WS.nil [(0, _), (25, _)] rfl ?_
    refine WC.condT rfl ?_
    refine WC.run ?_
    refine WS.op rfl rfl (WS.op rfl rfl (WS.op rfl rfl (WS.op rfl (op_ld (M8.bare.at 0 rfl) rfl (rg89 hl9)) (WS.opV (.int .i64 (((m + 1) : Nat) : Int)) rfl rfl (add_i64 (a := m) (b := 1) (by omega)) (WS.op rfl rfl (WS.op rfl rfl ?_))))))
    refine WS.st1 (M8.bare.focus 0 rfl) [(.int .i64 (((m + 1) : Nat) : Int))] (rg (rs.set ((a + m) % 8) x) a (m + 1) t) rfl rfl rfl rfl rfl (Nat.le_of_ble_eq_true rfl) (by rw [rg_len hl9]; exact Nat.le_of_ble_eq_true rfl) rfl (rgs89 hl9) ?_
    intro h10 M11
    replace M11 : Mem _ _ ([(p, _)] :: [(p1, _)] :: L) _ := M11
    refine WS.nil [(0, _)] rfl ?_
    refine WC.seq ?_
    refine WC.run ?_
    refine WS.op rfl rfl (WS.op rfl rfl (WS.op rfl rfl (WS.op rfl (op_ld (M11.at 0 rfl) rfl (rg90 hl9)) ?_)))
    refine WS.lssN (a := t) (b := 18446744073709551615) rfl rfl rfl (fun e46 => ?_) (fun e46 => ?_)
    · skip
      refine WS.nil [(0, _), (46, _)] rfl ?_
      refine WC.condT rfl ?_
      refine WC.run ?_
      refine WS.op rfl rfl (WS.op rfl rfl (WS.op rfl rfl (WS.op rfl (op_ld (M11.at 0 rfl) rfl (rg90 hl9)) (WS.opV (.int .u64 (((t + 1) : Nat) : Int)) rfl rfl (add_u64 (a := t) (b := 1) (by have := ht; omega)) (WS.op rfl rfl (WS.op rfl rfl ?_))))))
      refine WS.st1 (M11.focus 0 rfl) [(.int .u64 (((t + 1) : Nat) : Int))] (rg (rs.set ((a + m) % 8) x) a (m + 1) (t + 1)) rfl rfl rfl rfl rfl (Nat.le_of_ble_eq_true rfl) (by rw [rg_len hl9]; exact Nat.le_of_ble_eq_true rfl) rfl (rgs90 hl9) ?_
      intro h13 M14
      replace M14 : Mem _ _ ([(p, _)] :: [(p1, _)] :: L) _ := M14
      refine WS.nil [] rfl ?_
      refine ⟨[], res_nil, ?_⟩
      refine ⟨_, ⟨(rs.set ((a + m) % 8) x), a, (m + 1), hl9, by omega, by omega, addt_lt ht, ?_, by exact (view_add x hl ha (by omega)).symm⟩, rfl, (M14.focus 1 rfl).drop⟩
      unfold addt; first | rw [if_pos (by omega)] | rw [if_neg (by omega)]
    · skip
      refine WS.nil [(0, _), (46, _)] rfl ?_
      refine WC.condF rfl ?_
      refine WC.skip ?_
      refine ⟨[], res_nil, ?_⟩
      refine ⟨_, ⟨(rs.set ((a + m) % 8) x), a, (m + 1), hl9, by omega, by omega, addt_lt ht, ?_, by exact (view_add x hl ha (by omega)).symm⟩, rfl, (M11.focus 1 rfl).drop⟩
      unfold addt; first | rw [if_pos (by omega)] | rw [if_neg (by omega)]
  · skip
    refine WS.nil [(0, _), (25, _)] rfl ?_
    refine WC.condF rfl ?_
    refine WC.run ?_
    refine WS.op rfl rfl (WS.op rfl rfl (WS.op rfl rfl (WS.op rfl rfl (WS.op rfl (op_ld (M8.bare.at 0 rfl) rfl (rg88 hl9)) (WS.opV (.int .i64 (((a + 1) : Nat) : Int)) rfl rfl (add_i64 (a := a) (b := 1) (by omega)) (WS.opV (.int .i64 ((((a + 1) % 8) : Nat) : Int)) rfl rfl (rem_k (a := (a + 1)) (b := 8)) (WS.op rfl rfl (WS.op rfl rfl ?_))))))))
    refine WS.st1 (M8.bare.focus 0 rfl) [(.int .i64 ((((a + 1) % 8) : Nat) : Int))] (rg (rs.set ((a + m) % 8) x) ((a + 1) % 8) m t) rfl rfl rfl rfl rfl (Nat.le_of_ble_eq_true rfl) (by rw [rg_len hl9]; exact Nat.le_of_ble_eq_true rfl) rfl (rgs88 hl9) ?_
    intro h16 M17
    replace M17 : Mem _ _ ([(p, _)] :: [(p1, _)] :: L) _ := M17
    refine WS.nil [(0, _)] rfl ?_
    refine WC.seq ?_
    refine WC.run ?_
    refine WS.op rfl rfl (WS.op rfl rfl (WS.op rfl rfl (WS.op rfl (op_ld (M17.at 0 rfl) rfl (rg90 hl9)) ?_)))
    refine WS.lssN (a := t) (b := 18446744073709551615) rfl rfl rfl (fun e46 => ?_) (fun e46 => ?_)
    · skip
      refine WS.nil [(0, _), (46, _)] rfl ?_
      refine WC.condT rfl ?_
      refine WC.run ?_
      refine WS.op rfl rfl (WS.op rfl rfl (WS.op rfl rfl (WS.op rfl (op_ld (M17.at 0 rfl) rfl (rg90 hl9)) (WS.opV (.int .u64 (((t + 1) : Nat) : Int)) rfl rfl (add_u64 (a := t) (b := 1) (by have := ht; omega)) (WS.op rfl rfl (WS.op rfl rfl ?_))))))
      refine WS.st1 (M17.focus 0 rfl) [(.int .u64 (((t + 1) : Nat) : Int))] (rg (rs.set ((a + m) % 8) x) ((a + 1) % 8) m (t + 1)) rfl rfl rfl rfl rfl (Nat.le_of_ble_eq_true rfl) (by rw [rg_len hl9]; exact Nat.le_of_ble_eq_true rfl) rfl (rgs90 hl9) ?_
      intro h19 M20
      replace M20 : Mem _ _ ([(p, _)] :: [(p1, _)] :: L) _ := M20
      refine WS.nil [] rfl ?_
      refine ⟨[], res_nil, ?_⟩
      refine ⟨_, ⟨(rs.set ((a + m) % 8) x), ((a + 1) % 8), m, hl9, by omega, by omega, addt_lt ht, ?_, by (have hm8 : m = 8 := by omega); subst hm8; exact (view_roll x hl ha).symm⟩, rfl, (M20.focus 1 rfl).drop⟩
      unfold addt; first | rw [if_pos (by omega)] | rw [if_neg (by omega)]
    · skip
      refine WS.nil [(0, _), (46, _)] rfl ?_
      refine WC.condF rfl ?_
      refine WC.skip ?_
      refine ⟨[], res_nil, ?_⟩
      refine ⟨_, ⟨(rs.set ((a + m) % 8) x), ((a + 1) % 8), m, hl9, by omega, by omega, addt_lt ht, ?_, by (have hm8 : m = 8 := by omega); subst hm8; exact (view_roll x hl ha).symm⟩, rfl, (M17.focus 1 rfl).drop⟩
      unfold addt; first | rw [if_pos (by omega)] | rw [if_neg (by omega)]
theorem own_block {α : Type} {K : Row α} {V : Value} {l : List α} {S : Seg} (O : K.Own V l S) (hne : l ≠ []) : ∃ p, V = .slice (some ⟨p, 0, none⟩) l.length (2 * l.length) ∧ S = [(p, ⟨K.flat l, K.n, false⟩)] := by
  cases O with
  | nil => exact absurd rfl hne
  | row p l h => exact ⟨p, rfl, rfl⟩
theorem ring_Total_ran (W : Mem h h [] []) {p t : Nat} {cs : List Value} {l : List Rw} (hp : h.get p = some ⟨cs, 0, false⟩) (G : Ring cs l t) : Cll tab0 15 [.pointer (some ⟨p, 0, none⟩)] h (fun v h2 => v = .int .u64 (t : Int) ∧ Mem h h2 [] []) := by
  obtain ⟨rs, a, m, hl, ha, hm, ht, rfl, rfl⟩ := G
  refine Cll.code rfl rfl ?_
  refine WC.env [(0, _)] rfl ?_
  refine WC.seq ?_
  refine WC.run ?_
  refine WS.op rfl rfl (WS.nil [(0, _)] rfl ?_)
  refine WC.seq ?_
  refine WC.seq ?_
  refine WC.run ?_
  refine WS.op rfl rfl (WS.opV (.bool false) rfl rfl rfl (WS.nil [(0, _), (4, _)] rfl ?_))
  refine WC.condF rfl ?_
  refine WC.skip ?_
  refine WC.seq ?_
  refine WC.run ?_
  refine WS.op rfl rfl (WS.op rfl rfl (WS.op rfl rfl (WS.op rfl (op_ld (W.sub _ _ hp) rfl (rg90 hl)) (WS.op rfl rfl (WS.nil [(2, _)] rfl ?_)))))
  refine WC.ret ?_
  refine ⟨[_], (res_tmp rfl res_nil), ?_⟩
  exact ⟨rfl, W.bare.take 0⟩
theorem ring_Rows_ran (W : Mem h h [] []) {p t : Nat} {cs : List Value} {l : List Rw} (hp : h.get p = some ⟨cs, 0, false⟩) (G : Ring cs l t) : Cll tab0 13 [.pointer (some ⟨p, 0, none⟩)] h (fun v h2 => ∃ V S, KRw.Own V l S ∧ v = V ∧ Mem h h2 [S] []) := by
  obtain ⟨rs, a, m, hl, ha, hm, ht, rfl, rfl⟩ := G
  have hv := view_len hl ha hm
  refine Cll.code rfl rfl ?_
  refine WC.env [(0, _)] rfl ?_
  refine WC.seq ?_
  refine WC.run ?_
  refine WS.op rfl rfl (WS.nil [(0, _)] rfl ?_)
  refine WC.seq ?_
  refine WC.seq ?_
  refine WC.run ?_
  refine WS.op rfl rfl (WS.opV (.bool false) rfl rfl rfl (WS.nil [(0, _), (6, _)] rfl ?_))
  refine WC.condF rfl ?_
  refine WC.skip ?_
  refine WC.seq ?_
  refine WC.run ?_
  refine WS.op rfl rfl (WS.nil [(0, _), (3, _)] rfl ?_)
  refine WC.seq ?_
  refine WC.seq ?_
  refine WC.run ?_
  refine WS.op rfl rfl (WS.op rfl rfl (WS.op rfl rfl (WS.op rfl (op_ld (W.sub _ _ hp) rfl (rg89 hl)) (WS.op rfl rfl (WS.nil [(0, _), (3, _), (10, _), (11, _)] rfl ?_)))))
  refine WC.block ?_
  obtain ⟨L1, eL3, M2⟩ := Mem.name1 ((W.bare).nils)
  refine WC.loop (σ := Value × Seg × Nat) (fun ((Vw, S, i)) => [(0, (.pointer (some ⟨p, 0, none⟩))), (3, Vw), (10, (.int .i64 ((m : Nat) : Int))), (11, (.int .i64 ((i : Nat) : Int)))]) (fun ((Vw, S, i)) hh => Mem h hh (S :: L1) [] ∧ KRw.Own Vw ((view rs a m).take i) S ∧ i ≤ m) (fun ((Vw, S, i)) => m - i) (.slice none 0 0, [], 0) rfl ⟨M2, ?_⟩ ?_
  · exact ⟨.nil, by omega⟩
  · rintro ⟨Vw, S, i⟩ h4 ⟨M5, ⟨hO, hi1⟩⟩
    subst eL3
    refine WC.env [(0, _), (3, _), (10, _), (11, _)] rfl ?_
    refine WC.seq ?_
    refine WC.run ?_
    refine WS.lssN (a := i) (b := m) rfl rfl rfl (fun e12 => ?_) (fun e12 => ?_)
    · skip
      refine WS.nil [(0, _), (3, _), (10, _), (11, _), (12, _)] rfl ?_
      refine WC.seq ?_
      refine WC.condT rfl ?_
      refine WC.skip ?_
      refine WC.seq ?_
      refine WC.block ?_
      refine WC.seq ?_
      refine WC.run ?_
      refine WS.op rfl rfl (WS.op rfl rfl (WS.nil [(0, _), (3, _), (4, _), (10, _), (11, _)] rfl ?_))
      refine WC.draw M5 [13] rfl ?_
      intro rb6 h7 M8
      refine WS.op rfl rfl (WS.op rfl rfl (WS.op rfl rfl (WS.op rfl rfl (WS.op rfl rfl (WS.op rfl (op_ld (M8.sub _ _ hp) rfl (rg88 hl)) (WS.op rfl rfl (WS.opV (.int .i64 (((a + i) : Nat) : Int)) rfl rfl (add_i64 (a := a) (b := i) (by omega)) (WS.opV (.int .i64 ((((a + i) % 8) : Nat) : Int)) rfl rfl (rem_k (a := (a + i)) (b := 8)) (WS.op rfl rfl ?_)))))))))
      refine WS.op rfl rfl ?_
      obtain ⟨y25, hy25⟩ : ∃ y, (rs)[((a + i) % 8)]? = some y := ⟨_, List.getElem?_eq_getElem (show ((a + i) % 8) < (rs).length by omega)⟩
      refine WS.op rfl (op_iaAg ((a + i) % 8) rfl rfl (by omega)) (WS.op rfl (op_lds (Rw.cells y25) (M8.sub _ _ hp) rfl (by rw [rg_len hl]; show 0 + _ * 11 + 11 ≤ 91; omega) (rg_row hl hy25)) ?_)
      refine WS.bslA M8 [_, _, _, _, _, _, _, _, _, _, _] 0 rfl rfl rfl rfl rfl ?_
      intro h10 M11
      refine WS.app (l := (view rs a m).take i) (m := [y25]) (hO) (M11.focus 1 rfl) (Row.Src.one (K := KRw) (m := [y25]) (M11.at 0 rfl)) rfl (by rw [List.length_take]; simp only [List.length_cons, List.length_nil]; omega) (by rw [List.length_take]; simp only [List.length_cons, List.length_nil]; omega) rfl rfl rfl ?_
      intro V12 S13 h14 O15 M16
      replace O15 : Row.Own KRw V12 ((view rs a m).take (i + 1)) S13 := by rw [List.take_add_one, view_get hl ha (by omega) hm, hy25]; exact O15
      obtain ⟨P17, rfl⟩ := Row.Own.shape O15
      refine WS.op rfl rfl (WS.nil [(0, _), (3, _), (10, _), (11, _)] rfl ?_)
      refine WC.run ?_
      refine WS.opV (.int .i64 (((i + 1) : Nat) : Int)) rfl rfl (add_i64 (a := i) (b := 1) (by omega)) (WS.op rfl rfl (WS.nil [(0, _), (3, _), (10, _), (11, _)] rfl ?_))
      refine ⟨((.slice P17 ((view rs a m).take (i + 1)).length (2 * ((view rs a m).take (i + 1)).length)), S13, i + 1), rfl, ⟨((M16.bare.bare.focus 0 rfl).take 1), ?_⟩, ?_⟩
      · exact ⟨by assumption, by omega⟩
      · simp only []; omega
    · skip
      refine WS.nil [(0, _), (3, _), (10, _), (11, _), (12, _)] rfl ?_
      refine WC.seq ?_
      refine WC.condF rfl ?_
      refine WC.exit ?_
      refine WC.seq ?_
      refine WC.run ?_
      refine WS.op rfl rfl (WS.op rfl rfl (WS.nil [(2, _)] rfl ?_))
      refine WC.ret ?_
      refine ⟨[_], (res_tmp rfl res_nil), ?_⟩
      rw [List.take_of_length_le (by omega)] at hO
      exact ⟨_, _, hO, rfl, ((M5.bare.focus 0 rfl).take 1)⟩
end Go.Proofs.Ytegogkiccmghgaa.Wt
