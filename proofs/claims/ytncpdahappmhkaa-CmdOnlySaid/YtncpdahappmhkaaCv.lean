/- Operators' commands that are read; the statement CmdOnly, walked. -/
import Derived.Test.YtncpdahappmhkaaCu
namespace Go.Proofs.Ytncpdahappmhkaa.Wt
open Go Go.Proofs.Ytncpdahappmhkaa.Am Go.Proofs.Ytncpdahappmhkaa.IrAll
set_option linter.unusedVariables false
set_option linter.unusedSimpArgs false
def zeroO2 : Oper := ⟨0, 0, 0, 0, 0, 0, 0, 0, 0, 0, 0, 0, 0, 0, 0, 0⟩
def tokd (o : Oper) (c0 c1 c2 c3 c4 c5 c6 c7 : UInt8) : Oper := ⟨o.op, o.sl, c0, c1, c2, c3, c4, c5, c6, c7, o.ro, o.ks, o.bt, o.ra, o.bu, o.nd⟩
def zcells : List Value := [.int .u8 0, .int .u8 0, .int .u8 0, .int .u8 0, .int .u8 0, .int .u8 0, .int .u8 0, .int .u8 0, .int .u8 0, .int .u8 0, .int .u8 0, .int .i64 0, .int .i64 0, .int .i64 0, .int .i64 0, .int .u8 0]
variable {h base : H} {L : List Seg} {R : List Nat}
theorem r_token_ran {r q : Nat} {s : List UInt8} {b : Bool} {o : Oper} (M : Mem base h ([(r, ⟨[.string (bs s), .bool b], 0, false⟩)] :: [(q, ⟨Oper.cells o, 0, false⟩)] :: L) []) (hl : s.length ≤ 5000) :
    Cll tab0 95 [.pointer (some ⟨r, 0, none⟩), .pointer (some ⟨q, 2, none⟩)] h (fun v h2 => ∃ c0 c1 c2 c3 c4 c5 c6 c7 s' b', v = .tuple #[] ∧ Mem base h2 ([(r, ⟨[.string (bs s'), .bool b'], 0, false⟩)] :: [(q, ⟨Oper.cells (tokd o c0 c1 c2 c3 c4 c5 c6 c7), 0, false⟩)] :: L) [] ∧ s'.length ≤ s.length) := by
  refine Cll.code rfl rfl ?_
  refine WC.env [(0, _), (1, _)] rfl ?_
  refine WC.seq ?_
  refine WC.run ?_
  refine WS.op rfl rfl (WS.op rfl rfl (WS.op rfl rfl (WS.op rfl (op_ld (M.at 0 rfl) rfl rfl) (WS.op rfl rfl (WS.nil [(0, _), (1, _), (4, _)] rfl ?_)))))
  refine WC.seq ?_
  refine WC.run ?_
  refine WS.op rfl rfl ?_
  refine WS.call rfl rfl rfl (r_skip_ran (s := s) (b := b) (n := 8) (ok := true) (M.focus 0 rfl) (by omega)) ?_
  rintro _ h1 ⟨s', b', rfl, M2, q1, q2⟩
  replace M2 : Mem _ _ ([(r, _)] :: [(q, _)] :: L) _ := M2
  refine WS.nil [(1, _), (4, _), (10, _)] rfl ?_
  cases hb1 : (!b')
  · skip
    refine WC.condF rfl ?_
    refine WC.skip ?_
    refine ⟨[], res_nil, ?_⟩
    have g0 : b' = true := by simpa using hb1
    exact ⟨o.t0, o.t1, o.t2, o.t3, o.t4, o.t5, o.t6, o.t7, _, _, rfl, M2, by rw [q2 g0]; exact Nat.le_refl _⟩
  · skip
    refine WC.condT rfl ?_
    refine WC.run ?_
    refine WS.op rfl rfl (WS.op rfl rfl ?_)
    obtain ⟨g1, g2, g3, g4⟩ := q1 (by simpa using hb1)
    refine WS.opV (.slice (some ⟨q, 2, none⟩) 8 17) rfl rfl rfl (WS.op rfl rfl ?_)
    obtain ⟨c3, c4, c5, c6, c7, c8, c9, c10, h8_11⟩ := take8 (l := s) (by first | omega | (simp only [List.length_drop, List.length_take, List.length_append, List.length_cons, List.length_nil, List.length_singleton]; omega) | (simp only [List.length_drop, List.length_take, List.length_append, List.length_cons, List.length_nil, List.length_singleton] at *; omega))
    refine WS.cpyS (l := s) (M2.focus 1 rfl) [(.int .u8 (((c3).toNat : Nat) : Int)), (.int .u8 (((c4).toNat : Nat) : Int)), (.int .u8 (((c5).toNat : Nat) : Int)), (.int .u8 (((c6).toNat : Nat) : Int)), (.int .u8 (((c7).toNat : Nat) : Int)), (.int .u8 (((c8).toNat : Nat) : Int)), (.int .u8 (((c9).toNat : Nat) : Int)), (.int .u8 (((c10).toNat : Nat) : Int))] [_, _, _, _, _, _, _, _, _, _, _, _, _, _, _, _] rfl rfl rfl rfl (by rw [h8_11]; rfl) rfl (Nat.le_of_ble_eq_true rfl) (Nat.le_of_ble_eq_true rfl) rfl rfl ?_
    intro h12 M13
    replace M13 : Mem _ _ ([(q, _)] :: [(r, _)] :: L) _ := M13
    refine WS.nil [] rfl ?_
    refine ⟨[], res_nil, ?_⟩
    exact ⟨c3, c4, c5, c6, c7, c8, c9, c10, s', b', rfl, ((M13.focus 0 rfl).focus 1 rfl), by rw [g4, List.length_drop]; omega⟩
def iz (m : UInt64) : Int64 := Int64.ofInt ((min m.toNat 4294967296 : Nat) : Int)
theorem cvZ {m : UInt64} : Value.int .i64 (IntKind.i64.wrap ((min m.toNat 4294967296 : Nat) : Int)) = .int .i64 (iz m).toInt := by
  have e : (iz m).toInt = ((min m.toNat 4294967296 : Nat) : Int) := by
    unfold iz; rw [Int64.toInt_ofInt_of_le (by omega) (by omega)]
  rw [e]; exact cv_i64 (by omega)
set_option maxRecDepth 8000 in
theorem walkOR_ran {r p : Nat} {s : List UInt8} (M : Mem base h ([(r, ⟨[.string (bs s), .bool false], 0, false⟩)] :: [(p, ⟨zcells, 0, false⟩)] :: L) []) (hl : s.length ≤ 5000) :
    Cll tab0 42 [.iface 69 (.pointer (some ⟨r, 0, none⟩)), .pointer (some ⟨p, 0, none⟩)] h (fun v h2 => ∃ o s' b', v = .tuple #[] ∧ Mem base h2 ([(r, ⟨[.string (bs s'), .bool b'], 0, false⟩)] :: [(p, ⟨Oper.cells o, 0, false⟩)] :: L) []) := by
  refine Cll.code rfl rfl ?_
  refine WC.env [(0, _), (1, _)] rfl ?_
  refine WC.seq ?_
  refine WC.draw M [] rfl ?_
  intro rb1 h2 M3
  refine WS.op rfl rfl (WS.op rfl rfl (WS.op rfl rfl (WS.op rfl rfl (WS.op rfl rfl (WS.op rfl rfl (WS.op rfl rfl ?_))))))
  refine WS.call rfl rfl rfl (r_byte_ran (s := s) (b := false) (k := 0) (old := 0) ((M3.focus 1 rfl).focus 1 rfl) rfl (by omega)) ?_
  rintro _ h4 ⟨s4_, b4_, m4_, rfl, M5, R4_⟩
  have R4_l := R4_.1
  replace M5 : Mem _ _ ([(r, _)] :: [(p, _)] :: L) _ := M5
  refine WS.nil [(0, _), (1, _)] rfl ?_
  refine WC.seq ?_
  refine WC.run ?_
  refine WS.op rfl rfl (WS.op rfl rfl (WS.op rfl rfl (WS.op rfl (op_ld (M5.bare.at 1 rfl) rfl rfl) (WS.nil [(0, _), (1, _), (18, _)] rfl ?_))))
  refine WC.block ?_
  refine WC.seq ?_
  refine WC.run ?_
  refine WS.eqlN (a := (m4_).toNat) (b := 1) rfl rfl rfl (fun e20 => ?_) (fun e20 => ?_)
  · skip
    refine WS.op rfl rfl (WS.nil [(0, _), (1, _), (18, _), (19, _)] rfl ?_)
    refine WC.condT rfl ?_
    refine WC.seq ?_
    refine WC.draw M5.bare [] rfl ?_
    intro rb6 h7 M8
    refine WS.op rfl rfl (WS.op rfl rfl (WS.op rfl rfl (WS.op rfl rfl (WS.op rfl rfl (WS.op rfl rfl (WS.op rfl rfl ?_))))))
    refine WS.call rfl rfl rfl (r_byte_ran (s := s4_) (b := b4_) (k := 1) (old := 0) ((M8.focus 1 rfl).focus 1 rfl) rfl (by omega)) ?_
    rintro _ h9 ⟨s9_, b9_, m9_, rfl, M10, R9_⟩
    have R9_l := R9_.1
    replace M10 : Mem _ _ ([(r, _)] :: [(p, _)] :: L) _ := M10
    refine WS.nil [(0, _), (1, _)] rfl ?_
    refine WC.seq ?_
    refine WC.draw M10.bare [12] rfl ?_
    intro rb11 h12 M13
    refine WS.op rfl rfl (WS.op rfl rfl (WS.op rfl rfl (WS.op rfl rfl (WS.op rfl rfl (WS.op rfl rfl (WS.op rfl rfl (WS.op rfl rfl (WS.op rfl rfl (WS.op rfl rfl ?_)))))))))
    refine WS.op rfl rfl (WS.op rfl rfl (WS.op rfl rfl ?_))
    refine WS.bslA M13 [_, _, _, _] 0 rfl rfl rfl rfl rfl ?_
    intro h15 M16
    refine WS.op rfl rfl (WS.nil [(0, _), (41, _), (42, _), (43, _)] rfl ?_)
    refine WC.block ?_
    refine WC.unroll [(0, _), (41, _), (42, _), (43, _)] rfl ?_
    refine WC.seq ?_
    refine WC.run ?_
    refine WS.opV (.bool true) rfl rfl rfl (WS.nil [(0, _), (41, _), (42, _), (43, _), (44, _)] rfl ?_)
    refine WC.seq ?_
    refine WC.condT rfl ?_
    refine WC.skip ?_
    refine WC.seq ?_
    refine WC.block ?_
    refine WC.seq ?_
    refine WC.run ?_
    refine WS.op rfl rfl (WS.op rfl (op_ld (M16.bare.at 0 rfl) rfl rfl) (WS.op rfl rfl (WS.nil [(0, _), (5, _), (41, _), (42, _), (43, _)] rfl ?_)))
    refine WC.seq ?_
    refine WC.run ?_
    refine WS.op rfl rfl (WS.op rfl rfl (WS.op rfl (op_ld (M16.bare.at 2 rfl) rfl rfl) (WS.opV (.int .u64 0) rfl rfl rfl ?_)))
    refine WS.new M16.bare rfl ?_
    intro p17 h18 M19
    refine WS.st1 (M19.focus 0 rfl) [_] [_] rfl rfl rfl rfl rfl (Nat.le_of_ble_eq_true rfl) (Nat.le_of_ble_eq_true rfl) rfl rfl ?_
    intro h20 M21
    replace M21 : Mem _ _ ([(p17, _)] :: [((rb11 + 12), _)] :: [(r, _)] :: [(p, _)] :: L) _ := M21
    refine WS.nil [(0, _), (5, _), (6, _), (41, _), (42, _), (43, _)] rfl ?_
    refine WC.seq ?_
    refine WC.run ?_
    refine WS.op rfl rfl ?_
    refine WS.call rfl rfl rfl (r_number_ran (s := s9_) (b := b9_) (k := 0) (old := 0) ((M21.focus 0 rfl).focus 2 rfl) rfl (by omega)) ?_
    rintro _ h22 ⟨s22_, b22_, m22_, rfl, M23, R22_⟩
    have R22_l := R22_.1
    replace M23 : Mem _ _ ([(r, _)] :: [(p17, _)] :: [((rb11 + 12), _)] :: [(p, _)] :: L) _ := M23
    refine WS.nil [(0, _), (5, _), (6, _), (41, _), (42, _), (43, _)] rfl ?_
    refine WC.run ?_
    refine WS.op rfl rfl (WS.op rfl (op_ld (M23.at 1 rfl) rfl rfl) (WS.opV (.int .u64 (((min ((m22_).toNat) 4294967296) : Nat) : Int)) rfl rfl (mm_min (a := (m22_).toNat) (b := 4294967296)) (WS.opV (.int .i64 (iz m22_).toInt) rfl rfl (cvZ (m := m22_)) (WS.op rfl rfl ?_))))
    refine WS.st1 (M23.focus 3 rfl) [_] [_, _, _, _, _, _, _, _, _, _, _, _, _, _, _, _] rfl rfl rfl rfl rfl (Nat.le_of_ble_eq_true rfl) (Nat.le_of_ble_eq_true rfl) rfl rfl ?_
    intro h24 M25
    replace M25 : Mem _ _ ([(p, _)] :: [(r, _)] :: [(p17, _)] :: [((rb11 + 12), _)] :: L) _ := M25
    refine WS.nil [(0, _), (41, _), (42, _), (43, _)] rfl ?_
    refine WC.run ?_
    refine WS.opV (.int .i64 1) rfl rfl rfl (WS.op rfl rfl (WS.nil [(0, _), (41, _), (42, _), (43, _)] rfl ?_))
    refine WC.unroll [(0, _), (41, _), (42, _), (43, _)] rfl ?_
    refine WC.seq ?_
    refine WC.run ?_
    refine WS.opV (.bool true) rfl rfl rfl (WS.nil [(0, _), (41, _), (42, _), (43, _), (44, _)] rfl ?_)
    refine WC.seq ?_
    refine WC.condT rfl ?_
    refine WC.skip ?_
    refine WC.seq ?_
    refine WC.block ?_
    refine WC.seq ?_
    refine WC.run ?_
    refine WS.op rfl rfl (WS.op rfl (op_ld (M25.at 3 rfl) rfl rfl) (WS.op rfl rfl (WS.nil [(0, _), (5, _), (41, _), (42, _), (43, _)] rfl ?_)))
    refine WC.seq ?_
    refine WC.run ?_
    refine WS.op rfl rfl (WS.op rfl rfl (WS.op rfl (op_ld (M25.at 0 rfl) rfl rfl) (WS.opV (.int .u64 0) rfl rfl rfl ?_)))
    refine WS.new M25 rfl ?_
    intro p26 h27 M28
    refine WS.st1 (M28.focus 0 rfl) [_] [_] rfl rfl rfl rfl rfl (Nat.le_of_ble_eq_true rfl) (Nat.le_of_ble_eq_true rfl) rfl rfl ?_
    intro h29 M30
    replace M30 : Mem _ _ ([(p26, _)] :: [(p, _)] :: [(r, _)] :: [(p17, _)] :: [((rb11 + 12), _)] :: L) _ := M30
    refine WS.nil [(0, _), (5, _), (6, _), (41, _), (42, _), (43, _)] rfl ?_
    refine WC.seq ?_
    refine WC.run ?_
    refine WS.op rfl rfl ?_
    refine WS.call rfl rfl rfl (r_number_ran (s := s22_) (b := b22_) (k := 0) (old := 0) ((M30.focus 0 rfl).focus 2 rfl) rfl (by omega)) ?_
    rintro _ h31 ⟨s31_, b31_, m31_, rfl, M32, R31_⟩
    have R31_l := R31_.1
    replace M32 : Mem _ _ ([(r, _)] :: [(p26, _)] :: [(p, _)] :: [(p17, _)] :: [((rb11 + 12), _)] :: L) _ := M32
    refine WS.nil [(0, _), (5, _), (6, _), (41, _), (42, _), (43, _)] rfl ?_
    refine WC.run ?_
    refine WS.op rfl rfl (WS.op rfl (op_ld (M32.at 1 rfl) rfl rfl) (WS.opV (.int .u64 (((min ((m31_).toNat) 4294967296) : Nat) : Int)) rfl rfl (mm_min (a := (m31_).toNat) (b := 4294967296)) (WS.opV (.int .i64 (iz m31_).toInt) rfl rfl (cvZ (m := m31_)) (WS.op rfl rfl ?_))))
    refine WS.st1 (M32.focus 2 rfl) [_] [_, _, _, _, _, _, _, _, _, _, _, _, _, _, _, _] rfl rfl rfl rfl rfl (Nat.le_of_ble_eq_true rfl) (Nat.le_of_ble_eq_true rfl) rfl rfl ?_
    intro h33 M34
    replace M34 : Mem _ _ ([(p, _)] :: [(r, _)] :: [(p26, _)] :: [(p17, _)] :: [((rb11 + 12), _)] :: L) _ := M34
    refine WS.nil [(0, _), (41, _), (42, _), (43, _)] rfl ?_
    refine WC.run ?_
    refine WS.opV (.int .i64 2) rfl rfl rfl (WS.op rfl rfl (WS.nil [(0, _), (41, _), (42, _), (43, _)] rfl ?_))
    refine WC.unroll [(0, _), (41, _), (42, _), (43, _)] rfl ?_
    refine WC.seq ?_
    refine WC.run ?_
    refine WS.opV (.bool true) rfl rfl rfl (WS.nil [(0, _), (41, _), (42, _), (43, _), (44, _)] rfl ?_)
    refine WC.seq ?_
    refine WC.condT rfl ?_
    refine WC.skip ?_
    refine WC.seq ?_
    refine WC.block ?_
    refine WC.seq ?_
    refine WC.run ?_
    refine WS.op rfl rfl (WS.op rfl (op_ld (M34.at 4 rfl) rfl rfl) (WS.op rfl rfl (WS.nil [(0, _), (5, _), (41, _), (42, _), (43, _)] rfl ?_)))
    refine WC.seq ?_
    refine WC.run ?_
    refine WS.op rfl rfl (WS.op rfl rfl (WS.op rfl (op_ld (M34.at 0 rfl) rfl rfl) (WS.opV (.int .u64 0) rfl rfl rfl ?_)))
    refine WS.new M34 rfl ?_
    intro p35 h36 M37
    refine WS.st1 (M37.focus 0 rfl) [_] [_] rfl rfl rfl rfl rfl (Nat.le_of_ble_eq_true rfl) (Nat.le_of_ble_eq_true rfl) rfl rfl ?_
    intro h38 M39
    replace M39 : Mem _ _ ([(p35, _)] :: [(p, _)] :: [(r, _)] :: [(p26, _)] :: [(p17, _)] :: [((rb11 + 12), _)] :: L) _ := M39
    refine WS.nil [(0, _), (5, _), (6, _), (41, _), (42, _), (43, _)] rfl ?_
    refine WC.seq ?_
    refine WC.run ?_
    refine WS.op rfl rfl ?_
    refine WS.call rfl rfl rfl (r_number_ran (s := s31_) (b := b31_) (k := 0) (old := 0) ((M39.focus 0 rfl).focus 2 rfl) rfl (by omega)) ?_
    rintro _ h40 ⟨s40_, b40_, m40_, rfl, M41, R40_⟩
    have R40_l := R40_.1
    replace M41 : Mem _ _ ([(r, _)] :: [(p35, _)] :: [(p, _)] :: [(p26, _)] :: [(p17, _)] :: [((rb11 + 12), _)] :: L) _ := M41
    refine WS.nil [(0, _), (5, _), (6, _), (41, _), (42, _), (43, _)] rfl ?_
    refine WC.run ?_
    refine WS.op rfl rfl (WS.op rfl (op_ld (M41.at 1 rfl) rfl rfl) (WS.opV (.int .u64 (((min ((m40_).toNat) 4294967296) : Nat) : Int)) rfl rfl (mm_min (a := (m40_).toNat) (b := 4294967296)) (WS.opV (.int .i64 (iz m40_).toInt) rfl rfl (cvZ (m := m40_)) (WS.op rfl rfl ?_))))
    refine WS.st1 (M41.focus 2 rfl) [_] [_, _, _, _, _, _, _, _, _, _, _, _, _, _, _, _] rfl rfl rfl rfl rfl (Nat.le_of_ble_eq_true rfl) (Nat.le_of_ble_eq_true rfl) rfl rfl ?_
    intro h42 M43
    replace M43 : Mem _ _ ([(p, _)] :: [(r, _)] :: [(p35, _)] :: [(p26, _)] :: [(p17, _)] :: [((rb11 + 12), _)] :: L) _ := M43
    refine WS.nil [(0, _), (41, _), (42, _), (43, _)] rfl ?_
    refine WC.run ?_
    refine WS.opV (.int .i64 3) rfl rfl rfl (WS.op rfl rfl (WS.nil [(0, _), (41, _), (42, _), (43, _)] rfl ?_))
    refine WC.unroll [(0, _), (41, _), (42, _), (43, _)] rfl ?_
    refine WC.seq ?_
    refine WC.run ?_
    refine WS.opV (.bool true) rfl rfl rfl (WS.nil [(0, _), (41, _), (42, _), (43, _), (44, _)] rfl ?_)
    refine WC.seq ?_
    refine WC.condT rfl ?_
    refine WC.skip ?_
    refine WC.seq ?_
    refine WC.block ?_
    refine WC.seq ?_
    refine WC.run ?_
    refine WS.op rfl rfl (WS.op rfl (op_ld (M43.at 5 rfl) rfl rfl) (WS.op rfl rfl (WS.nil [(0, _), (5, _), (41, _), (42, _), (43, _)] rfl ?_)))
    refine WC.seq ?_
    refine WC.run ?_
    refine WS.op rfl rfl (WS.op rfl rfl (WS.op rfl (op_ld (M43.at 0 rfl) rfl rfl) (WS.opV (.int .u64 0) rfl rfl rfl ?_)))
    refine WS.new M43 rfl ?_
    intro p44 h45 M46
    refine WS.st1 (M46.focus 0 rfl) [_] [_] rfl rfl rfl rfl rfl (Nat.le_of_ble_eq_true rfl) (Nat.le_of_ble_eq_true rfl) rfl rfl ?_
    intro h47 M48
    replace M48 : Mem _ _ ([(p44, _)] :: [(p, _)] :: [(r, _)] :: [(p35, _)] :: [(p26, _)] :: [(p17, _)] :: [((rb11 + 12), _)] :: L) _ := M48
    refine WS.nil [(0, _), (5, _), (6, _), (41, _), (42, _), (43, _)] rfl ?_
    refine WC.seq ?_
    refine WC.run ?_
    refine WS.op rfl rfl ?_
    refine WS.call rfl rfl rfl (r_number_ran (s := s40_) (b := b40_) (k := 0) (old := 0) ((M48.focus 0 rfl).focus 2 rfl) rfl (by omega)) ?_
    rintro _ h49 ⟨s49_, b49_, m49_, rfl, M50, R49_⟩
    have R49_l := R49_.1
    replace M50 : Mem _ _ ([(r, _)] :: [(p44, _)] :: [(p, _)] :: [(p35, _)] :: [(p26, _)] :: [(p17, _)] :: [((rb11 + 12), _)] :: L) _ := M50
    refine WS.nil [(0, _), (5, _), (6, _), (41, _), (42, _), (43, _)] rfl ?_
    refine WC.run ?_
    refine WS.op rfl rfl (WS.op rfl (op_ld (M50.at 1 rfl) rfl rfl) (WS.opV (.int .u64 (((min ((m49_).toNat) 4294967296) : Nat) : Int)) rfl rfl (mm_min (a := (m49_).toNat) (b := 4294967296)) (WS.opV (.int .i64 (iz m49_).toInt) rfl rfl (cvZ (m := m49_)) (WS.op rfl rfl ?_))))
    refine WS.st1 (M50.focus 2 rfl) [_] [_, _, _, _, _, _, _, _, _, _, _, _, _, _, _, _] rfl rfl rfl rfl rfl (Nat.le_of_ble_eq_true rfl) (Nat.le_of_ble_eq_true rfl) rfl rfl ?_
    intro h51 M52
    replace M52 : Mem _ _ ([(p, _)] :: [(r, _)] :: [(p44, _)] :: [(p35, _)] :: [(p26, _)] :: [(p17, _)] :: [((rb11 + 12), _)] :: L) _ := M52
    refine WS.nil [(0, _), (41, _), (42, _), (43, _)] rfl ?_
    refine WC.run ?_
    refine WS.opV (.int .i64 4) rfl rfl rfl (WS.op rfl rfl (WS.nil [(0, _), (41, _), (42, _), (43, _)] rfl ?_))
    refine WC.unroll [(0, _), (41, _), (42, _), (43, _)] rfl ?_
    refine WC.seq ?_
    refine WC.run ?_
    refine WS.opV (.bool false) rfl rfl rfl (WS.nil [(0, _), (41, _), (42, _), (43, _), (44, _)] rfl ?_)
    refine WC.seq ?_
    refine WC.condF rfl ?_
    refine WC.exit ?_
    refine ⟨[], res_nil, ?_⟩
    exact ⟨(⟨m4_, m9_, 0, 0, 0, 0, 0, 0, 0, 0, 0, iz m22_, iz m31_, iz m40_, iz m49_, 0⟩ : Oper), _, _, rfl, ((((((((((((M52.focus 2 rfl).drop).focus 2 rfl).drop).focus 2 rfl).drop).focus 2 rfl).drop).focus 2 rfl).drop).focus 0 rfl).focus 1 rfl)⟩
  · skip
    refine WS.op rfl rfl (WS.nil [(0, _), (1, _), (18, _), (19, _)] rfl ?_)
    refine WC.condF rfl ?_
    refine WC.seq ?_
    refine WC.run ?_
    refine WS.eqlN (a := (m4_).toNat) (b := 2) rfl rfl rfl (fun e60 => ?_) (fun e60 => ?_)
    · skip
      refine WS.op rfl rfl (WS.nil [(0, _), (1, _), (18, _), (59, _)] rfl ?_)
      refine WC.condT rfl ?_
      refine WC.seq ?_
      refine WC.draw M5.bare [] rfl ?_
      intro rb53 h54 M55
      refine WS.op rfl rfl (WS.op rfl rfl (WS.op rfl rfl (WS.op rfl rfl (WS.op rfl rfl (WS.op rfl rfl (WS.op rfl rfl ?_))))))
      refine WS.call rfl rfl rfl (r_byte_ran (s := s4_) (b := b4_) (k := 1) (old := 0) ((M55.focus 1 rfl).focus 1 rfl) rfl (by omega)) ?_
      rintro _ h56 ⟨s56_, b56_, m56_, rfl, M57, R56_⟩
      have R56_l := R56_.1
      replace M57 : Mem _ _ ([(r, _)] :: [(p, _)] :: L) _ := M57
      refine WS.nil [(0, _), (1, _)] rfl ?_
      refine WC.seq ?_
      refine WC.draw M57.bare [] rfl ?_
      intro rb58 h59 M60
      refine WS.op rfl rfl (WS.op rfl rfl (WS.op rfl rfl (WS.op rfl rfl (WS.op rfl rfl (WS.op rfl rfl (WS.op rfl rfl ?_))))))
      refine WS.call rfl rfl rfl (r_token_ran (s := s56_) (b := b56_) (o := (⟨m4_, m56_, 0, 0, 0, 0, 0, 0, 0, 0, 0, 0, 0, 0, 0, 0⟩ : Oper)) ((M60.focus 1 rfl).focus 1 rfl) (by omega)) ?_
      rintro _ h61 ⟨kh61_0, kh61_1, kh61_2, kh61_3, kh61_4, kh61_5, kh61_6, kh61_7, sh61_, bh61_, rfl, M62, Rh61_⟩
      replace M62 : Mem _ _ ([(r, _)] :: [(p, _)] :: L) _ := M62
      refine WS.nil [(0, _), (1, _)] rfl ?_
      refine WC.draw M62.bare [] rfl ?_
      intro rb63 h64 M65
      refine WS.op rfl rfl (WS.op rfl rfl (WS.op rfl rfl (WS.op rfl rfl (WS.op rfl rfl (WS.op rfl rfl (WS.op rfl rfl ?_))))))
      refine WS.call rfl rfl rfl (r_byte_ran (s := sh61_) (b := bh61_) (k := 10) (old := 0) ((M65.focus 1 rfl).focus 1 rfl) rfl (by omega)) ?_
      rintro _ h66 ⟨s66_, b66_, m66_, rfl, M67, R66_⟩
      have R66_l := R66_.1
      replace M67 : Mem _ _ ([(r, _)] :: [(p, _)] :: L) _ := M67
      refine WS.nil [] rfl ?_
      refine ⟨[], res_nil, ?_⟩
      exact ⟨(⟨m4_, m56_, kh61_0, kh61_1, kh61_2, kh61_3, kh61_4, kh61_5, kh61_6, kh61_7, m66_, 0, 0, 0, 0, 0⟩ : Oper), _, _, rfl, (M67.bare)⟩
    · skip
      refine WS.op rfl rfl (WS.nil [(0, _), (1, _), (18, _), (59, _)] rfl ?_)
      refine WC.condF rfl ?_
      refine WC.seq ?_
      refine WC.run ?_
      refine WS.eqlN (a := (m4_).toNat) (b := 3) rfl rfl rfl (fun e86 => ?_) (fun e86 => ?_)
      · skip
        refine WS.op rfl rfl (WS.nil [(0, _), (1, _), (18, _), (85, _)] rfl ?_)
        refine WC.condT rfl ?_
        refine WC.draw M5.bare [] rfl ?_
        intro rb68 h69 M70
        refine WS.op rfl rfl (WS.op rfl rfl (WS.op rfl rfl (WS.op rfl rfl (WS.op rfl rfl (WS.op rfl rfl (WS.op rfl rfl ?_))))))
        refine WS.call rfl rfl rfl (r_token_ran (s := s4_) (b := b4_) (o := (⟨m4_, 0, 0, 0, 0, 0, 0, 0, 0, 0, 0, 0, 0, 0, 0, 0⟩ : Oper)) ((M70.focus 1 rfl).focus 1 rfl) (by omega)) ?_
        rintro _ h71 ⟨kh71_0, kh71_1, kh71_2, kh71_3, kh71_4, kh71_5, kh71_6, kh71_7, sh71_, bh71_, rfl, M72, Rh71_⟩
        replace M72 : Mem _ _ ([(r, _)] :: [(p, _)] :: L) _ := M72
        refine WS.nil [] rfl ?_
        refine ⟨[], res_nil, ?_⟩
        exact ⟨(⟨m4_, 0, kh71_0, kh71_1, kh71_2, kh71_3, kh71_4, kh71_5, kh71_6, kh71_7, 0, 0, 0, 0, 0, 0⟩ : Oper), _, _, rfl, (M72.bare)⟩
      · skip
        refine WS.op rfl rfl (WS.nil [(0, _), (1, _), (18, _), (85, _)] rfl ?_)
        refine WC.condF rfl ?_
        refine WC.seq ?_
        refine WC.run ?_
        refine WS.eqlN (a := (m4_).toNat) (b := 4) rfl rfl rfl (fun e96 => ?_) (fun e96 => ?_)
        · skip
          refine WS.op rfl rfl (WS.nil [(0, _), (1, _), (18, _), (95, _)] rfl ?_)
          refine WC.condT rfl ?_
          refine WC.draw M5.bare [] rfl ?_
          intro rb73 h74 M75
          refine WS.op rfl rfl (WS.op rfl rfl (WS.op rfl rfl (WS.op rfl rfl (WS.op rfl rfl (WS.op rfl rfl (WS.op rfl rfl ?_))))))
          refine WS.call rfl rfl rfl (r_byte_ran (s := s4_) (b := b4_) (k := 1) (old := 0) ((M75.focus 1 rfl).focus 1 rfl) rfl (by omega)) ?_
          rintro _ h76 ⟨s76_, b76_, m76_, rfl, M77, R76_⟩
          have R76_l := R76_.1
          replace M77 : Mem _ _ ([(r, _)] :: [(p, _)] :: L) _ := M77
          refine WS.nil [] rfl ?_
          refine ⟨[], res_nil, ?_⟩
          exact ⟨(⟨m4_, m76_, 0, 0, 0, 0, 0, 0, 0, 0, 0, 0, 0, 0, 0, 0⟩ : Oper), _, _, rfl, (M77.bare)⟩
        · skip
          refine WS.op rfl rfl (WS.nil [(0, _), (1, _), (18, _), (95, _)] rfl ?_)
          refine WC.condF rfl ?_
          refine WC.seq ?_
          refine WC.seq ?_
          refine WC.run ?_
          refine WS.eqlN (a := (m4_).toNat) (b := 5) rfl rfl rfl (fun e106 => ?_) (fun e106 => ?_)
          · skip
            refine WS.op rfl rfl (WS.nil [(0, _), (1, _), (18, _), (105, _)] rfl ?_)
            refine WC.condT rfl ?_
            refine WC.skip ?_
            refine WC.condT rfl ?_
            refine WC.draw M5.bare [] rfl ?_
            intro rb78 h79 M80
            refine WS.op rfl rfl (WS.op rfl rfl (WS.op rfl rfl (WS.op rfl rfl (WS.op rfl rfl (WS.op rfl rfl (WS.op rfl rfl ?_))))))
            refine WS.call rfl rfl rfl (r_byte_ran (s := s4_) (b := b4_) (k := 15) (old := 0) ((M80.focus 1 rfl).focus 1 rfl) rfl (by omega)) ?_
            rintro _ h81 ⟨s81_, b81_, m81_, rfl, M82, R81_⟩
            have R81_l := R81_.1
            replace M82 : Mem _ _ ([(r, _)] :: [(p, _)] :: L) _ := M82
            refine WS.nil [] rfl ?_
            refine ⟨[], res_nil, ?_⟩
            exact ⟨(⟨m4_, 0, 0, 0, 0, 0, 0, 0, 0, 0, 0, 0, 0, 0, 0, m81_⟩ : Oper), _, _, rfl, (M82.bare)⟩
          · skip
            refine WS.op rfl rfl (WS.nil [(0, _), (1, _), (18, _), (105, _)] rfl ?_)
            refine WC.condF rfl ?_
            refine WC.seq ?_
            refine WC.run ?_
            refine WS.eqlN (a := (m4_).toNat) (b := 6) rfl rfl rfl (fun e107 => ?_) (fun e107 => ?_)
            · skip
              refine WS.op rfl rfl (WS.nil [(0, _), (1, _), (18, _), (105, _)] rfl ?_)
              refine WC.condT rfl ?_
              refine WC.skip ?_
              refine WC.condT rfl ?_
              refine WC.draw M5.bare [] rfl ?_
              intro rb83 h84 M85
              refine WS.op rfl rfl (WS.op rfl rfl (WS.op rfl rfl (WS.op rfl rfl (WS.op rfl rfl (WS.op rfl rfl (WS.op rfl rfl ?_))))))
              refine WS.call rfl rfl rfl (r_byte_ran (s := s4_) (b := b4_) (k := 15) (old := 0) ((M85.focus 1 rfl).focus 1 rfl) rfl (by omega)) ?_
              rintro _ h86 ⟨s86_, b86_, m86_, rfl, M87, R86_⟩
              have R86_l := R86_.1
              replace M87 : Mem _ _ ([(r, _)] :: [(p, _)] :: L) _ := M87
              refine WS.nil [] rfl ?_
              refine ⟨[], res_nil, ?_⟩
              exact ⟨(⟨m4_, 0, 0, 0, 0, 0, 0, 0, 0, 0, 0, 0, 0, 0, 0, m86_⟩ : Oper), _, _, rfl, (M87.bare)⟩
            · skip
              refine WS.op rfl rfl (WS.nil [(0, _), (1, _), (18, _), (105, _)] rfl ?_)
              refine WC.condF rfl ?_
              refine WC.run ?_
              refine WS.eqlN (a := (m4_).toNat) (b := 7) rfl rfl rfl (fun e108 => ?_) (fun e108 => ?_)
              · skip
                refine WS.op rfl rfl (WS.nil [(0, _), (1, _), (105, _)] rfl ?_)
                refine WC.condT rfl ?_
                refine WC.draw M5.bare [] rfl ?_
                intro rb88 h89 M90
                refine WS.op rfl rfl (WS.op rfl rfl (WS.op rfl rfl (WS.op rfl rfl (WS.op rfl rfl (WS.op rfl rfl (WS.op rfl rfl ?_))))))
                refine WS.call rfl rfl rfl (r_byte_ran (s := s4_) (b := b4_) (k := 15) (old := 0) ((M90.focus 1 rfl).focus 1 rfl) rfl (by omega)) ?_
                rintro _ h91 ⟨s91_, b91_, m91_, rfl, M92, R91_⟩
                have R91_l := R91_.1
                replace M92 : Mem _ _ ([(r, _)] :: [(p, _)] :: L) _ := M92
                refine WS.nil [] rfl ?_
                refine ⟨[], res_nil, ?_⟩
                exact ⟨(⟨m4_, 0, 0, 0, 0, 0, 0, 0, 0, 0, 0, 0, 0, 0, 0, m91_⟩ : Oper), _, _, rfl, (M92.bare)⟩
              · skip
                refine WS.op rfl rfl (WS.nil [(0, _), (1, _), (105, _)] rfl ?_)
                refine WC.condF rfl ?_
                refine WC.skip ?_
                refine ⟨[], res_nil, ?_⟩
                exact ⟨(⟨m4_, 0, 0, 0, 0, 0, 0, 0, 0, 0, 0, 0, 0, 0, 0, 0⟩ : Oper), _, _, rfl, (M5.bare)⟩
set_option maxRecDepth 8000 in
theorem ReadO_ran (W : Mem h h [] []) {s : List UInt8} (hl : s.length ≤ 5000) : Cll tab0 26 [.string (bs s)] h (fun v h2 => ∃ o ok, v = .tuple #[.agg (Oper.cells o).toArray, .bool ok] ∧ (ok = true → (if mayOB o then encO o else []) = s) ∧ (ok = false → o = zeroO2) ∧ Mem h h2 [] []) := by
  refine Cll.code rfl rfl ?_
  refine WC.env [(0, _)] rfl ?_
  refine WC.seq ?_
  refine WC.run ?_
  refine WS.new W rfl ?_
  intro p1 h2 M3
  refine WS.op rfl rfl (WS.nil [(0, _), (2, _)] rfl ?_)
  refine WC.seq ?_
  refine WC.run ?_
  refine WS.new M3 rfl ?_
  intro p4 h5 M6
  refine WS.nil [(0, _), (2, _), (4, _)] rfl ?_
  refine WC.seq ?_
  refine WC.run ?_
  refine WS.op rfl rfl (WS.opV (.agg #[(.string (bs s)), (.bool false)]) rfl rfl rfl ?_)
  refine WS.box M6 [_, _] rfl rfl rfl rfl ?_
  intro p7 h8 M9
  refine WS.op rfl rfl (WS.nil [(0, _), (2, _), (4, _), (5, _)] rfl ?_)
  refine WC.seq ?_
  refine WC.run ?_
  refine WS.op rfl rfl (WS.op rfl rfl ?_)
  refine WS.call rfl rfl rfl (walkOR_ran (s := s) ((M9.focus 1 rfl).focus 1 rfl) (by omega)) ?_
  rintro _ h10 ⟨ro, so, bo, rfl, M11⟩
  replace M11 : Mem _ _ ([(p7, _)] :: [(p4, _)] :: [(p1, _)] :: []) _ := M11
  refine WS.nil [(0, _), (2, _), (4, _), (5, _)] rfl ?_
  refine WC.seq ?_
  refine WC.seq ?_
  refine WC.run ?_
  refine WS.op rfl rfl ?_
  refine WS.call rfl rfl rfl (well_ran M11.here (s := so) (b := bo) (M11.at 0 rfl)) ?_
  rintro _ h12 ⟨rfl, N13⟩
  have M14 := M11.trans N13
  cases hb1 : (decide (bo = false ∧ so = []))
  · skip
    refine WS.opV (.bool true) rfl rfl rfl (WS.op rfl rfl (WS.off rfl (WS.offC rfl (WS.off rfl (WS.off rfl (WS.op rfl rfl (WS.nil [(2, _), (4, _), (20, _)] rfl ?_)))))))
    refine WC.condT rfl ?_
    refine WC.seq ?_
    refine WC.run ?_
    refine WS.opV (.agg #[(.int .u8 (0 : Int)), (.int .u8 (0 : Int)), (.int .u8 (0 : Int)), (.int .u8 (0 : Int)), (.int .u8 (0 : Int)), (.int .u8 (0 : Int)), (.int .u8 (0 : Int)), (.int .u8 (0 : Int)), (.int .u8 (0 : Int)), (.int .u8 (0 : Int)), (.int .u8 (0 : Int)), (.int .i64 (0 : Int)), (.int .i64 (0 : Int)), (.int .i64 (0 : Int)), (.int .i64 (0 : Int)), (.int .u8 (0 : Int))]) rfl rfl rfl ?_
    refine WS.st1 (M14.focus 2 rfl) [_, _, _, _, _, _, _, _, _, _, _, _, _, _, _, _] [_, _, _, _, _, _, _, _, _, _, _, _, _, _, _, _] rfl rfl rfl rfl rfl (Nat.le_of_ble_eq_true rfl) (Nat.le_of_ble_eq_true rfl) rfl rfl ?_
    intro h15 M16
    replace M16 : Mem _ _ ([(p1, _)] :: [(p7, _)] :: [(p4, _)] :: []) _ := M16
    refine WS.op rfl rfl (WS.nil [(2, _), (3, _)] rfl ?_)
    refine WC.ret ?_
    refine ⟨[_, _], (res_cellN [_, _, _, _, _, _, _, _, _, _, _, _, _, _, _, _] rfl (M16.at 0 rfl) (Nat.le_of_ble_eq_true rfl) rfl (res_tmp rfl res_nil)), ?_⟩
    exact ⟨zeroO2, false, rfl, (fun q => nomatch q), fun _ => rfl, M16.bare.take 0⟩
  · skip
    refine WS.opV (.bool false) rfl rfl rfl (WS.op rfl rfl (WS.op rfl (op_lds [_, _, _, _, _, _, _, _, _, _, _, _, _, _, _, _] (M14.at 1 rfl) rfl (Nat.le_of_ble_eq_true rfl) rfl) ?_))
    refine WS.call rfl rfl rfl (WriteO_ran M14.here (o := ro)) ?_
    rintro _ h17 ⟨rfl, N18⟩
    have M19 := M14.trans N18
    refine WS.op rfl rfl ?_
    refine WS.sneq (l := (if mayOB ro then encO ro else [])) (m := s) rfl rfl rfl (fun e19 => ?_) (fun e19 => ?_)
    · skip
      refine WS.op rfl rfl (WS.nil [(2, _), (4, _), (20, _)] rfl ?_)
      refine WC.condT rfl ?_
      refine WC.seq ?_
      refine WC.run ?_
      refine WS.opV (.agg #[(.int .u8 (0 : Int)), (.int .u8 (0 : Int)), (.int .u8 (0 : Int)), (.int .u8 (0 : Int)), (.int .u8 (0 : Int)), (.int .u8 (0 : Int)), (.int .u8 (0 : Int)), (.int .u8 (0 : Int)), (.int .u8 (0 : Int)), (.int .u8 (0 : Int)), (.int .u8 (0 : Int)), (.int .i64 (0 : Int)), (.int .i64 (0 : Int)), (.int .i64 (0 : Int)), (.int .i64 (0 : Int)), (.int .u8 (0 : Int))]) rfl rfl rfl ?_
      refine WS.st1 (M19.focus 2 rfl) [_, _, _, _, _, _, _, _, _, _, _, _, _, _, _, _] [_, _, _, _, _, _, _, _, _, _, _, _, _, _, _, _] rfl rfl rfl rfl rfl (Nat.le_of_ble_eq_true rfl) (Nat.le_of_ble_eq_true rfl) rfl rfl ?_
      intro h20 M21
      replace M21 : Mem _ _ ([(p1, _)] :: [(p7, _)] :: [(p4, _)] :: []) _ := M21
      refine WS.op rfl rfl (WS.nil [(2, _), (3, _)] rfl ?_)
      refine WC.ret ?_
      refine ⟨[_, _], (res_cellN [_, _, _, _, _, _, _, _, _, _, _, _, _, _, _, _] rfl (M21.at 0 rfl) (Nat.le_of_ble_eq_true rfl) rfl (res_tmp rfl res_nil)), ?_⟩
      exact ⟨zeroO2, false, rfl, (fun q => nomatch q), fun _ => rfl, M21.bare.take 0⟩
    · skip
      refine WS.op rfl rfl (WS.nil [(2, _), (4, _), (20, _)] rfl ?_)
      refine WC.condF rfl ?_
      refine WC.skip ?_
      refine WC.seq ?_
      refine WC.run ?_
      refine WS.op rfl (op_lds [_, _, _, _, _, _, _, _, _, _, _, _, _, _, _, _] (M19.at 1 rfl) rfl (Nat.le_of_ble_eq_true rfl) rfl) ?_
      refine WS.st1 (M19.focus 2 rfl) [_, _, _, _, _, _, _, _, _, _, _, _, _, _, _, _] [_, _, _, _, _, _, _, _, _, _, _, _, _, _, _, _] rfl rfl rfl rfl rfl (Nat.le_of_ble_eq_true rfl) (Nat.le_of_ble_eq_true rfl) rfl rfl ?_
      intro h22 M23
      replace M23 : Mem _ _ ([(p1, _)] :: [(p7, _)] :: [(p4, _)] :: []) _ := M23
      refine WS.op rfl rfl (WS.nil [(2, _), (3, _)] rfl ?_)
      refine WC.ret ?_
      refine ⟨[_, _], (res_cellN [_, _, _, _, _, _, _, _, _, _, _, _, _, _, _, _] rfl (M23.at 0 rfl) (Nat.le_of_ble_eq_true rfl) rfl (res_tmp rfl res_nil)), ?_⟩
      exact ⟨ro, true, rfl, fun _ => by assumption, (fun q => nomatch q), M23.bare.take 0⟩
def SameRH (a b : Res) : Prop := a.cd.toNat = b.cd.toNat ∧ a.n.toNat = b.n.toNat ∧ a.va = b.va ∧ a.rs.length = b.rs.length
theorem sameR_yes {a b : Res} (q : SameRH a b) (hp : a.rs = b.rs) : a = b := by
  obtain ⟨q1, q2, q3, _⟩ := q
  obtain ⟨⟩ := a; obtain ⟨⟩ := b
  simp only at *
  rw [u8_inj q1, u64_inj q2, q3, hp]
theorem sameR_no {a b : Res} (q : ¬ SameRH a b) : a ≠ b := fun e => q (by subst e; exact ⟨rfl, rfl, rfl, rfl⟩)
theorem SameR_ran (W : Mem h h [] []) {a b : Res} {V V2 : Value} (A : KRrow.Sl h V a.rs) (B : KRrow.Sl h V2 b.rs) (hl : a.rs.length ≤ 1000000) : Cll tab0 30 [a.val V, b.val V2] h (fun v h2 => v = .bool (decide (a = b)) ∧ Mem h h2 [] []) := by
  obtain ⟨P, n, rfl⟩ := A.shape
  obtain ⟨P2, n2, rfl⟩ := B.shape
  refine Cll.code rfl rfl ?_
  refine WC.env [(0, _), (1, _)] rfl ?_
  refine WC.seq ?_
  refine WC.run ?_
  refine WS.box W [_, _, _, _] rfl rfl rfl rfl ?_
  intro p1 h2 M3
  refine WS.box M3 [_, _, _, _] rfl rfl rfl rfl ?_
  intro p4 h5 M6
  refine WS.op rfl rfl (WS.nil [(2, _), (3, _)] rfl ?_)
  refine WC.seq ?_
  refine WC.seq ?_
  obtain ⟨L7, eL9, M8⟩ := Mem.name M6.bare
  refine WC.joinB (base := h) (fun b => [(2, (.pointer (some ⟨p1, 0, none⟩))), (3, (.pointer (some ⟨p4, 0, none⟩))), (33, .bool b)]) L7 (¬ SameRH a b) (SameRH a b) ?_ ?_ ?_
  · subst eL9
    refine WS.op rfl rfl (WS.op rfl (op_ld (M8.at 1 rfl) rfl rfl) (WS.op rfl rfl (WS.op rfl (op_ld (M8.at 0 rfl) rfl rfl) ?_)))
    refine WS.neqN (a := (a.cd).toNat) (b := (b.cd).toNat) rfl rfl rfl (fun e10 => ?_) (fun e10 => ?_)
    · skip
      refine WS.op rfl rfl (WS.off rfl (WS.off rfl (WS.off rfl (WS.off rfl (WS.off rfl (WS.op rfl rfl (WS.op rfl rfl (WS.off rfl (WS.off rfl ?_)))))))))
      refine WS.off rfl (WS.off rfl (WS.off rfl (WS.op rfl rfl (WS.op rfl rfl (WS.off rfl (WS.off rfl (WS.off rfl (WS.off rfl (WS.off rfl ?_)))))))))
      refine WS.off rfl (WS.off rfl (WS.op rfl rfl ?_))
      refine WS.nil' ⟨true, rfl, (((M8.bare.focus 1 rfl).focus 1 rfl).take 2), fun _ => ?_, fun hh => ?_⟩
      · rintro ⟨q0, q1, q2, q3⟩; first | exact e10 q0 | exact e16 q1 | exact e23 q2 | exact e32 q3
      · cases hh
    · skip
      refine WS.op rfl rfl (WS.op rfl rfl (WS.op rfl (op_ld (M8.at 1 rfl) rfl rfl) (WS.op rfl rfl (WS.op rfl (op_ld (M8.at 0 rfl) rfl rfl) ?_))))
      refine WS.neqN (a := (a.n).toNat) (b := (b.n).toNat) rfl rfl rfl (fun e16 => ?_) (fun e16 => ?_)
      · skip
        refine WS.op rfl rfl (WS.op rfl rfl (WS.off rfl (WS.off rfl (WS.off rfl (WS.off rfl (WS.off rfl (WS.op rfl rfl (WS.op rfl rfl (WS.off rfl ?_)))))))))
        refine WS.off rfl (WS.off rfl (WS.off rfl (WS.off rfl (WS.off rfl (WS.off rfl (WS.op rfl rfl ?_))))))
        refine WS.nil' ⟨true, rfl, (((M8.bare.focus 1 rfl).focus 1 rfl).take 2), fun _ => ?_, fun hh => ?_⟩
        · rintro ⟨q0, q1, q2, q3⟩; first | exact e10 q0 | exact e16 q1 | exact e23 q2 | exact e32 q3
        · cases hh
      · skip
        refine WS.op rfl rfl (WS.op rfl rfl (WS.op rfl rfl (WS.op rfl (op_ld (M8.at 1 rfl) rfl rfl) (WS.op rfl rfl (WS.op rfl (op_ld (M8.at 0 rfl) rfl rfl) ?_)))))
        refine WS.sneq (l := a.va) (m := b.va) rfl rfl rfl (fun e23 => ?_) (fun e23 => ?_)
        · skip
          refine WS.op rfl rfl (WS.op rfl rfl (WS.off rfl (WS.off rfl (WS.off rfl (WS.off rfl (WS.off rfl (WS.off rfl (WS.off rfl (WS.op rfl rfl ?_)))))))))
          refine WS.nil' ⟨true, rfl, (((M8.bare.focus 1 rfl).focus 1 rfl).take 2), fun _ => ?_, fun hh => ?_⟩
          · rintro ⟨q0, q1, q2, q3⟩; first | exact e10 q0 | exact e16 q1 | exact e23 q2 | exact e32 q3
          · cases hh
        · skip
          refine WS.op rfl rfl (WS.op rfl rfl (WS.op rfl rfl (WS.op rfl (op_ld (M8.at 1 rfl) rfl rfl) (WS.op rfl (op_lenVS A rfl) (WS.op rfl rfl (WS.op rfl (op_ld (M8.at 0 rfl) rfl rfl) (WS.op rfl (op_lenVS B rfl) ?_)))))))
          refine WS.neqN (a := (a.rs).length) (b := (b.rs).length) rfl rfl rfl (fun e32 => ?_) (fun e32 => ?_)
          · skip
            refine WS.op rfl rfl ?_
            refine WS.nil' ⟨true, rfl, (((M8.bare.focus 1 rfl).focus 1 rfl).take 2), fun _ => ?_, fun hh => ?_⟩
            · rintro ⟨q0, q1, q2, q3⟩; first | exact e10 q0 | exact e16 q1 | exact e23 q2 | exact e32 q3
            · cases hh
          · skip
            refine WS.op rfl rfl ?_
            refine WS.nil' ⟨false, rfl, (((M8.bare.focus 1 rfl).focus 1 rfl).take 2), fun hh => ?_, fun _ => ?_⟩
            · cases hh
            · exact ⟨e10, e16, e23, e32⟩
  · intro h10 M11 hp33
    subst eL9
    refine WC.condT rfl ?_
    refine WC.seq ?_
    refine WC.run ?_
    refine WS.op rfl rfl (WS.nil [(4, _)] rfl ?_)
    refine WC.ret ?_
    refine ⟨[_], (res_tmp rfl res_nil), ?_⟩
    exact ⟨by rw [decide_eq_false (sameR_no hp33)]; rfl, M11.bare.take 0⟩
  · intro h12 M13 hp33
    subst eL9
    refine WC.condF rfl ?_
    refine WC.skip ?_
    refine WC.seq ?_
    refine WC.seq ?_
    refine WC.run ?_
    refine WS.op rfl rfl (WS.nil [(2, _), (3, _), (5, _)] rfl ?_)
    refine WC.block ?_
    obtain ⟨L14, eL16, M15⟩ := Mem.name M13.bare
    refine WC.loop (σ := Nat) (fun (i) => [(2, (.pointer (some ⟨p1, 0, none⟩))), (3, (.pointer (some ⟨p4, 0, none⟩))), (5, (.int .i64 ((i : Nat) : Int)))]) (fun (i) hh => Mem h hh (L14) [] ∧ a.rs.take i = b.rs.take i ∧ i ≤ a.rs.length) (fun (i) => a.rs.length - i) (0) rfl ⟨M15, ?_⟩ ?_
    · exact ⟨rfl, by omega⟩
    · rintro i h17 ⟨M18, ⟨hO, hi1⟩⟩
      subst eL16
      refine WC.env [(2, _), (3, _), (5, _)] rfl ?_
      refine WC.seq ?_
      refine WC.seq ?_
      refine WC.run ?_
      refine WS.op rfl rfl (WS.op rfl rfl (WS.op rfl (op_ld (M18.at 1 rfl) rfl rfl) (WS.op rfl (op_lenVS A rfl) ?_)))
      refine WS.lssN (a := i) (b := (a.rs).length) rfl rfl rfl (fun e38 => ?_) (fun e38 => ?_)
      · skip
        refine WS.nil [(2, _), (3, _), (5, _), (38, _)] rfl ?_
        refine WC.condT rfl ?_
        refine WC.skip ?_
        refine WC.seq ?_
        refine WC.block ?_
        refine WC.seq ?_
        refine WC.draw M18 [] rfl ?_
        intro rb19 h20 M21
        refine WS.op rfl rfl (WS.op rfl (op_ld (M21.at 1 rfl) rfl rfl) (WS.op rfl rfl ?_))
        obtain ⟨y44, hy44⟩ : ∃ y, (a.rs)[i]? = some y := ⟨_, List.getElem?_eq_getElem (show i < (a.rs).length by first | omega | (simp only [List.length_drop, List.length_take, List.length_append, List.length_cons, List.length_nil, List.length_singleton]; omega) | (simp only [List.length_drop, List.length_take, List.length_append, List.length_cons, List.length_nil, List.length_singleton] at *; omega))⟩
        refine WS.iaVS A i hy44 rfl rfl rfl rfl ?_
        intro b44_ o44_ ha44
        refine WS.op rfl (op_ldAt rfl (ha44.mono M21.sub) rfl) (WS.op rfl rfl (WS.op rfl (op_ld (M21.at 0 rfl) rfl rfl) (WS.op rfl rfl ?_)))
        obtain ⟨y49, hy49⟩ : ∃ y, (b.rs)[i]? = some y := ⟨_, List.getElem?_eq_getElem (show i < (b.rs).length by have := hp33.2.2.2; omega)⟩
        refine WS.iaVS B i hy49 rfl rfl rfl rfl ?_
        intro b49_ o49_ ha49
        refine WS.op rfl (op_ldAt rfl (ha49.mono M21.sub) rfl) ?_
        refine WS.eqqDn (p := y44 = y49) rfl rfl rfl (Rrow_eqV _ _) (fun e51 => ?_) (fun e51 => ?_)
        · skip
          refine WS.nil [(2, _), (3, _), (5, _), (51, _)] rfl ?_
          refine WC.condT rfl ?_
          refine WC.seq ?_
          refine WC.run ?_
          refine WS.op rfl rfl (WS.nil [(4, _)] rfl ?_)
          refine WC.ret ?_
          refine ⟨[_], (res_tmp rfl res_nil), ?_⟩
          exact ⟨by rw [decide_eq_false (fun q => ne_of_get hy44 hy49 e51 (congrArg Res.rs q))]; rfl, M21.bare.bare.take 0⟩
        · skip
          refine WS.nil [(2, _), (3, _), (5, _), (51, _)] rfl ?_
          refine WC.condF rfl ?_
          refine WC.skip ?_
          refine WC.run ?_
          refine WS.op rfl rfl (WS.opV (.int .i64 (((i + 1) : Nat) : Int)) rfl rfl (add_i64 (a := i) (b := 1) (by omega)) (WS.op rfl rfl (WS.nil [(2, _), (3, _), (5, _)] rfl ?_)))
          refine ⟨i + 1, rfl, ⟨(((M21.bare.bare.focus 1 rfl).focus 1 rfl).take 2), ?_⟩, ?_⟩
          · exact ⟨eq_take_step hO hy44 hy49 (by assumption), by omega⟩
          · simp only []; omega
      · skip
        refine WS.nil [(2, _), (3, _), (5, _), (38, _)] rfl ?_
        refine WC.condF rfl ?_
        refine WC.exit ?_
        refine WC.seq ?_
        refine WC.run ?_
        refine WS.op rfl rfl (WS.nil [(4, _)] rfl ?_)
        refine WC.ret ?_
        refine ⟨[_], (res_tmp rfl res_nil), ?_⟩
        have hln := hp33.2.2.2
        rw [List.take_of_length_le (by omega), List.take_of_length_le (by omega)] at hO
        exact ⟨by rw [decide_eq_true (sameR_yes hp33 hO)]; rfl, M18.bare.take 0⟩
set_option maxRecDepth 8000 in
theorem law_CmdOnly (W : Mem h h [] []) {s : List UInt8} {u0 : Value} (l0 : layStr h s [u0]) (k0 : s.length < 9223372036854775808) : Cll tab0 9 [u0] h (fun v _ => v = .bool true) := by
  have l0 : [u0] = [_] := l0
  cases l0
  refine Cll.code rfl rfl ?_
  refine WC.env [(0, _)] rfl ?_
  refine WC.seq ?_
  refine WC.run ?_
  refine WS.op rfl rfl (WS.nil [(0, _)] rfl ?_)
  refine WC.seq ?_
  refine WC.seq ?_
  refine WC.run ?_
  refine WS.op rfl rfl (WS.op rfl (op_lenS (l := s) rfl) ?_)
  refine WS.gtrN (a := (s).length) (b := 4000) rfl rfl rfl (fun e11 => ?_) (fun e11 => ?_)
  · skip
    refine WS.nil [(0, _), (11, _)] rfl ?_
    refine WC.condT rfl ?_
    refine WC.run ?_
    refine WS.op rfl rfl (WS.op rfl (op_slS1 (l := s) 4000 rfl rfl (by first | omega | (simp only [List.length_drop, List.length_take, List.length_append, List.length_cons, List.length_nil, List.length_singleton]; omega) | (simp only [List.length_drop, List.length_take, List.length_append, List.length_cons, List.length_nil, List.length_singleton] at *; omega))) (WS.op rfl rfl (WS.nil [(0, _)] rfl ?_)))
    refine WC.seq ?_
    refine WC.run ?_
    refine WS.op rfl rfl ?_
    refine WS.call rfl rfl rfl (Read_ran W.here (s := ((s).take 4000)) (by first | omega | (simp only [List.length_drop, List.length_take, List.length_append, List.length_cons, List.length_nil, List.length_singleton]; omega) | (simp only [List.length_drop, List.length_take, List.length_append, List.length_cons, List.length_nil, List.length_singleton] at *; omega))) ?_
    rintro _ h1 ⟨c16, V4, S5, ok16, O6, rfl, hF16, hy16, hn16, N2⟩
    obtain ⟨P7, rfl⟩ := O6.shape
    have M3 := W.trans N2
    replace M3 : Mem _ _ (S5 :: []) _ := M3
    refine WS.op rfl rfl (WS.op rfl rfl (WS.op rfl rfl ?_))
    refine WS.new M3 rfl ?_
    intro p8 h9 M10
    refine WS.st1 (M10.focus 0 rfl) [_, _, _, _, _, _, _, _, _, _, _, _] [_, _, _, _, _, _, _, _, _, _, _, _] rfl rfl rfl rfl rfl (Nat.le_of_ble_eq_true rfl) (Nat.le_of_ble_eq_true rfl) rfl rfl ?_
    intro h11 M12
    replace M12 : Mem _ _ ([(p8, _)] :: S5 :: []) _ := M12
    refine WS.op rfl rfl (WS.nil [(0, _), (3, _), (4, _)] rfl ?_)
    refine WC.seq ?_
    refine WC.run ?_
    refine WS.op rfl rfl ?_
    refine WS.call rfl rfl rfl (ReadO_ran M12.here (s := ((s).take 4000)) (by first | omega | (simp only [List.length_drop, List.length_take, List.length_append, List.length_cons, List.length_nil, List.length_singleton]; omega) | (simp only [List.length_drop, List.length_take, List.length_append, List.length_cons, List.length_nil, List.length_singleton] at *; omega))) ?_
    rintro _ h13 ⟨o21, ok21, rfl, hy21, hn21, N14⟩
    have M15 := M12.trans N14
    refine WS.op rfl rfl (WS.op rfl rfl (WS.op rfl rfl ?_))
    refine WS.new M15 rfl ?_
    intro p16 h17 M18
    refine WS.st1 (M18.focus 0 rfl) [_, _, _, _, _, _, _, _, _, _, _, _, _, _, _, _] [_, _, _, _, _, _, _, _, _, _, _, _, _, _, _, _] rfl rfl rfl rfl rfl (Nat.le_of_ble_eq_true rfl) (Nat.le_of_ble_eq_true rfl) rfl rfl ?_
    intro h19 M20
    replace M20 : Mem _ _ ([(p16, _)] :: [(p8, _)] :: S5 :: []) _ := M20
    refine WS.op rfl rfl (WS.nil [(0, _), (3, _), (4, _), (5, _), (6, _)] rfl ?_)
    refine WC.seq ?_
    refine WC.run ?_
    refine WS.op rfl rfl ?_
    refine WS.call rfl rfl rfl (ReadR_ran M20.here (s := ((s).take 4000)) (by first | omega | (simp only [List.length_drop, List.length_take, List.length_append, List.length_cons, List.length_nil, List.length_singleton]; omega) | (simp only [List.length_drop, List.length_take, List.length_append, List.length_cons, List.length_nil, List.length_singleton] at *; omega))) ?_
    rintro _ h21 ⟨r26, V24, S25, ok26, O26, rfl, hF26, hy26, hn26, N22⟩
    obtain ⟨P27, rfl⟩ := O26.shape
    have M23 := M20.trans N22
    replace M23 : Mem _ _ (S25 :: [(p16, _)] :: [(p8, _)] :: S5 :: []) _ := M23
    refine WS.op rfl rfl (WS.op rfl rfl (WS.op rfl rfl ?_))
    refine WS.new M23 rfl ?_
    intro p28 h29 M30
    refine WS.st1 (M30.focus 0 rfl) [_, _, _, _] [_, _, _, _] rfl rfl rfl rfl rfl (Nat.le_of_ble_eq_true rfl) (Nat.le_of_ble_eq_true rfl) rfl rfl ?_
    intro h31 M32
    replace M32 : Mem _ _ ([(p28, _)] :: S25 :: [(p16, _)] :: [(p8, _)] :: S5 :: []) _ := M32
    refine WS.op rfl rfl (WS.nil [(0, _), (3, _), (4, _), (5, _), (6, _), (7, _), (8, _)] rfl ?_)
    refine WC.seq ?_
    refine WC.seq ?_
    refine WC.run ?_
    refine WS.op rfl rfl (WS.op rfl rfl ?_)
    cases hb1 : ok16
    · skip
      refine WS.off rfl (WS.offC rfl (WS.off rfl (WS.off rfl (WS.op rfl rfl (WS.op rfl rfl (WS.op rfl rfl (WS.opV (.bool true) rfl rfl rfl (WS.op rfl rfl (WS.op rfl (op_lds [_, _, _, _, _, _, _, _, _, _, _, _] (M32.at 3 rfl) rfl (Nat.le_of_ble_eq_true rfl) rfl) ?_)))))))))
      refine WS.opV (.agg #[(.int .u8 (0 : Int)), (.int .u64 (0 : Int)), (.int .u64 (0 : Int)), (.string (bs ([]))), (.string (bs ([]))), (.string (bs ([]))), (.string (bs ([]))), (.string (bs ([]))), (.int .u8 (0 : Int)), (.int .u64 (0 : Int)), (.int .u64 (0 : Int)), (.slice none 0 0)]) rfl rfl rfl ?_
      refine WS.call rfl rfl rfl (Same_ran M32.here (a := c16) (b := (⟨0, 0, 0, ([]), ([]), ([]), ([]), ([]), 0, 0, 0, []⟩ : Cmd)) (Row.Own.sl O6 (Mem.owni M32 4 rfl)) Row.Sl.nil (by first | (have := hF16.2.2.2.2.2.1; omega) | (have := hF26.2.1; omega))) ?_
      rintro _ h33 ⟨rfl, N34⟩
      have M35 := M32.trans N34
      cases hb2 : (decide (c16 = (⟨0, 0, 0, ([]), ([]), ([]), ([]), ([]), 0, 0, 0, []⟩ : Cmd)))
      · skip
        refine WS.opV (.bool true) rfl rfl rfl (WS.op rfl rfl (WS.op rfl rfl (WS.op rfl rfl (WS.off rfl (WS.off rfl (WS.off rfl (WS.offC rfl (WS.off rfl (WS.off rfl ?_)))))))))
        refine WS.off rfl (WS.op rfl rfl (WS.op rfl rfl (WS.off rfl (WS.off rfl (WS.off rfl (WS.off rfl (WS.off rfl (WS.off rfl (WS.off rfl ?_)))))))))
        refine WS.op rfl rfl (WS.nil [(0, _), (7, _), (8, _), (63, _)] rfl ?_)
        refine WC.condT rfl ?_
        refine WC.seq ?_
        refine WC.run ?_
        refine WS.op rfl rfl (WS.nil [(2, _)] rfl ?_)
        refine WC.ret ?_
        refine ⟨[_], (res_tmp rfl res_nil), ?_⟩
        exfalso; first | exact absurd (hn16 (by assumption)) (of_decide_eq_false (by assumption)) | exact absurd (hn26 (by assumption)) (of_decide_eq_false (by assumption))
      · skip
        refine WS.opV (.bool false) rfl rfl rfl (WS.op rfl rfl (WS.op rfl rfl (WS.op rfl rfl (WS.op rfl rfl (WS.op rfl rfl ?_)))))
        cases hb3 : ok21
        · skip
          refine WS.off rfl (WS.offC rfl (WS.off rfl (WS.off rfl (WS.op rfl rfl (WS.op rfl rfl (WS.op rfl rfl (WS.op rfl rfl (WS.opV (.bool true) rfl rfl rfl (WS.op rfl rfl ?_)))))))))
          refine WS.op rfl (op_lds [_, _, _, _, _, _, _, _, _, _, _, _, _, _, _, _] (M35.at 2 rfl) rfl (Nat.le_of_ble_eq_true rfl) rfl) (WS.opV (.agg #[(.int .u8 (0 : Int)), (.int .u8 (0 : Int)), (.int .u8 (0 : Int)), (.int .u8 (0 : Int)), (.int .u8 (0 : Int)), (.int .u8 (0 : Int)), (.int .u8 (0 : Int)), (.int .u8 (0 : Int)), (.int .u8 (0 : Int)), (.int .u8 (0 : Int)), (.int .u8 (0 : Int)), (.int .i64 (0 : Int)), (.int .i64 (0 : Int)), (.int .i64 (0 : Int)), (.int .i64 (0 : Int)), (.int .u8 (0 : Int))]) rfl rfl rfl ?_)
          refine WS.eqqDn (p := o21 = (⟨0, 0, 0, 0, 0, 0, 0, 0, 0, 0, 0, 0, 0, 0, 0, 0⟩ : Oper)) rfl rfl rfl (Oper_eqV o21 (⟨0, 0, 0, 0, 0, 0, 0, 0, 0, 0, 0, 0, 0, 0, 0, 0⟩ : Oper)) (fun e61 => ?_) (fun e61 => ?_)
          · skip
            exact absurd (hn21 (by first | assumption | rfl)) e61
          · skip
            refine WS.op rfl rfl (WS.op rfl rfl (WS.nil [(0, _), (7, _), (8, _), (63, _)] rfl ?_))
            refine WC.condF rfl ?_
            refine WC.skip ?_
            refine WC.seq ?_
            refine WC.run ?_
            refine WS.op rfl rfl (WS.op rfl rfl ?_)
            cases hb4 : ok26
            · skip
              refine WS.off rfl (WS.offC rfl (WS.off rfl (WS.off rfl (WS.op rfl rfl (WS.op rfl rfl (WS.op rfl rfl (WS.opV (.bool true) rfl rfl rfl (WS.op rfl rfl (WS.op rfl (op_lds [_, _, _, _] (M35.at 0 rfl) rfl (Nat.le_of_ble_eq_true rfl) rfl) ?_)))))))))
              refine WS.opV (.agg #[(.int .u8 (0 : Int)), (.int .u64 (0 : Int)), (.string (bs ([]))), (.slice none 0 0)]) rfl rfl rfl ?_
              refine WS.call rfl rfl rfl (SameR_ran M35.here (a := r26) (b := (⟨0, 0, ([]), []⟩ : Res)) (Row.Own.sl O26 (Mem.owni M35 1 rfl)) Row.Sl.nil (by first | (have := hF16.2.2.2.2.2.1; omega) | (have := hF26.2.1; omega))) ?_
              rintro _ h36 ⟨rfl, N37⟩
              have M38 := M35.trans N37
              refine WS.op rfl rfl (WS.op rfl rfl (WS.op rfl rfl ?_))
              cases hb5 : (decide (r26 = (⟨0, 0, ([]), []⟩ : Res)))
              · skip
                refine WS.offC rfl (WS.op rfl rfl (WS.op rfl rfl (WS.nil [(2, _)] rfl ?_)))
                refine WC.ret ?_
                refine ⟨[_], (res_tmp rfl res_nil), ?_⟩
                exfalso; first | exact absurd (hn16 (by assumption)) (of_decide_eq_false (by assumption)) | exact absurd (hn26 (by assumption)) (of_decide_eq_false (by assumption))
              · skip
                refine WS.call rfl rfl rfl (awake_ran M38.here ) ?_
                rintro _ h39 ⟨rfl, N40⟩
                have M41 := M38.trans N40
                refine WS.op rfl rfl (WS.op rfl rfl (WS.nil [(2, _)] rfl ?_))
                refine WC.ret ?_
                refine ⟨[_], (res_tmp rfl res_nil), ?_⟩
                rfl
            · skip
              refine WS.op rfl (op_lds [_, _, _, _] (M35.at 0 rfl) rfl (Nat.le_of_ble_eq_true rfl) rfl) ?_
              refine WS.call rfl rfl rfl (WriteR_ran M35.here (r := r26) (Row.Own.sl O26 (Mem.owni M35 1 rfl)) (by exact hF26)) ?_
              rintro _ h42 ⟨rfl, N43⟩
              have M44 := M35.trans N43
              refine WS.op rfl rfl ?_
              refine WS.seql (l := (encR r26)) (m := ((s).take 4000)) rfl rfl rfl (fun e69 => ?_) (fun e69 => ?_)
              · skip
                refine WS.op rfl rfl (WS.op rfl rfl (WS.off rfl (WS.off rfl (WS.off rfl (WS.off rfl (WS.off rfl (WS.offC rfl (WS.off rfl (WS.op rfl rfl ?_)))))))))
                refine WS.op rfl rfl ?_
                refine WS.call rfl rfl rfl (awake_ran M44.here ) ?_
                rintro _ h45 ⟨rfl, N46⟩
                have M47 := M44.trans N46
                refine WS.op rfl rfl (WS.op rfl rfl (WS.nil [(2, _)] rfl ?_))
                refine WC.ret ?_
                refine ⟨[_], (res_tmp rfl res_nil), ?_⟩
                rfl
              · skip
                exact absurd (hy26 (by first | assumption | rfl)) e69
        · skip
          refine WS.op rfl (op_lds [_, _, _, _, _, _, _, _, _, _, _, _, _, _, _, _] (M35.at 2 rfl) rfl (Nat.le_of_ble_eq_true rfl) rfl) ?_
          refine WS.call rfl rfl rfl (WriteO_ran M35.here (o := o21)) ?_
          rintro _ h48 ⟨rfl, N49⟩
          have M50 := M35.trans N49
          refine WS.op rfl rfl ?_
          refine WS.sneq (l := (if mayOB o21 then encO o21 else [])) (m := ((s).take 4000)) rfl rfl rfl (fun e52 => ?_) (fun e52 => ?_)
          · skip
            exact absurd (hy21 (by first | assumption | rfl)) e52
          · skip
            refine WS.op rfl rfl (WS.op rfl rfl (WS.op rfl rfl (WS.op rfl rfl (WS.opV (.bool false) rfl rfl rfl (WS.op rfl rfl (WS.off rfl (WS.off rfl (WS.off rfl (WS.op rfl rfl ?_)))))))))
            refine WS.op rfl rfl (WS.nil [(0, _), (7, _), (8, _), (63, _)] rfl ?_)
            refine WC.condF rfl ?_
            refine WC.skip ?_
            refine WC.seq ?_
            refine WC.run ?_
            refine WS.op rfl rfl (WS.op rfl rfl ?_)
            cases hb4 : ok26
            · skip
              refine WS.off rfl (WS.offC rfl (WS.off rfl (WS.off rfl (WS.op rfl rfl (WS.op rfl rfl (WS.op rfl rfl (WS.opV (.bool true) rfl rfl rfl (WS.op rfl rfl (WS.op rfl (op_lds [_, _, _, _] (M50.at 0 rfl) rfl (Nat.le_of_ble_eq_true rfl) rfl) ?_)))))))))
              refine WS.opV (.agg #[(.int .u8 (0 : Int)), (.int .u64 (0 : Int)), (.string (bs ([]))), (.slice none 0 0)]) rfl rfl rfl ?_
              refine WS.call rfl rfl rfl (SameR_ran M50.here (a := r26) (b := (⟨0, 0, ([]), []⟩ : Res)) (Row.Own.sl O26 (Mem.owni M50 1 rfl)) Row.Sl.nil (by first | (have := hF16.2.2.2.2.2.1; omega) | (have := hF26.2.1; omega))) ?_
              rintro _ h51 ⟨rfl, N52⟩
              have M53 := M50.trans N52
              refine WS.op rfl rfl (WS.op rfl rfl (WS.op rfl rfl ?_))
              cases hb5 : (decide (r26 = (⟨0, 0, ([]), []⟩ : Res)))
              · skip
                refine WS.offC rfl (WS.op rfl rfl (WS.op rfl rfl (WS.nil [(2, _)] rfl ?_)))
                refine WC.ret ?_
                refine ⟨[_], (res_tmp rfl res_nil), ?_⟩
                exfalso; first | exact absurd (hn16 (by assumption)) (of_decide_eq_false (by assumption)) | exact absurd (hn26 (by assumption)) (of_decide_eq_false (by assumption))
              · skip
                refine WS.call rfl rfl rfl (awake_ran M53.here ) ?_
                rintro _ h54 ⟨rfl, N55⟩
                have M56 := M53.trans N55
                refine WS.op rfl rfl (WS.op rfl rfl (WS.nil [(2, _)] rfl ?_))
                refine WC.ret ?_
                refine ⟨[_], (res_tmp rfl res_nil), ?_⟩
                rfl
            · skip
              refine WS.op rfl (op_lds [_, _, _, _] (M50.at 0 rfl) rfl (Nat.le_of_ble_eq_true rfl) rfl) ?_
              refine WS.call rfl rfl rfl (WriteR_ran M50.here (r := r26) (Row.Own.sl O26 (Mem.owni M50 1 rfl)) (by exact hF26)) ?_
              rintro _ h57 ⟨rfl, N58⟩
              have M59 := M50.trans N58
              refine WS.op rfl rfl ?_
              refine WS.seql (l := (encR r26)) (m := ((s).take 4000)) rfl rfl rfl (fun e69 => ?_) (fun e69 => ?_)
              · skip
                refine WS.op rfl rfl (WS.op rfl rfl (WS.off rfl (WS.off rfl (WS.off rfl (WS.off rfl (WS.off rfl (WS.offC rfl (WS.off rfl (WS.op rfl rfl ?_)))))))))
                refine WS.op rfl rfl ?_
                refine WS.call rfl rfl rfl (awake_ran M59.here ) ?_
                rintro _ h60 ⟨rfl, N61⟩
                have M62 := M59.trans N61
                refine WS.op rfl rfl (WS.op rfl rfl (WS.nil [(2, _)] rfl ?_))
                refine WC.ret ?_
                refine ⟨[_], (res_tmp rfl res_nil), ?_⟩
                rfl
              · skip
                exact absurd (hy26 (by first | assumption | rfl)) e69
    · skip
      refine WS.op rfl (op_lds [_, _, _, _, _, _, _, _, _, _, _, _] (M32.at 3 rfl) rfl (Nat.le_of_ble_eq_true rfl) rfl) ?_
      refine WS.call rfl rfl rfl (Write_ran M32.here (c := c16) (Row.Own.sl O6 (Mem.owni M32 4 rfl)) (by exact hF16)) ?_
      rintro _ h63 ⟨rfl, N64⟩
      have M65 := M32.trans N64
      refine WS.op rfl rfl ?_
      refine WS.sneq (l := (if mayB c16 then encC c16 else [])) (m := ((s).take 4000)) rfl rfl rfl (fun e34 => ?_) (fun e34 => ?_)
      · skip
        exact absurd (hy16 (by first | assumption | rfl)) e34
      · skip
        refine WS.op rfl rfl (WS.op rfl rfl (WS.op rfl rfl (WS.opV (.bool false) rfl rfl rfl (WS.op rfl rfl (WS.off rfl (WS.off rfl (WS.offC rfl (WS.off rfl (WS.op rfl rfl ?_)))))))))
        refine WS.op rfl rfl (WS.op rfl rfl (WS.op rfl rfl (WS.op rfl rfl ?_)))
        cases hb3 : ok21
        · skip
          refine WS.off rfl (WS.offC rfl (WS.off rfl (WS.off rfl (WS.op rfl rfl (WS.op rfl rfl (WS.op rfl rfl (WS.op rfl rfl (WS.opV (.bool true) rfl rfl rfl (WS.op rfl rfl ?_)))))))))
          refine WS.op rfl (op_lds [_, _, _, _, _, _, _, _, _, _, _, _, _, _, _, _] (M65.at 2 rfl) rfl (Nat.le_of_ble_eq_true rfl) rfl) (WS.opV (.agg #[(.int .u8 (0 : Int)), (.int .u8 (0 : Int)), (.int .u8 (0 : Int)), (.int .u8 (0 : Int)), (.int .u8 (0 : Int)), (.int .u8 (0 : Int)), (.int .u8 (0 : Int)), (.int .u8 (0 : Int)), (.int .u8 (0 : Int)), (.int .u8 (0 : Int)), (.int .u8 (0 : Int)), (.int .i64 (0 : Int)), (.int .i64 (0 : Int)), (.int .i64 (0 : Int)), (.int .i64 (0 : Int)), (.int .u8 (0 : Int))]) rfl rfl rfl ?_)
          refine WS.eqqDn (p := o21 = (⟨0, 0, 0, 0, 0, 0, 0, 0, 0, 0, 0, 0, 0, 0, 0, 0⟩ : Oper)) rfl rfl rfl (Oper_eqV o21 (⟨0, 0, 0, 0, 0, 0, 0, 0, 0, 0, 0, 0, 0, 0, 0, 0⟩ : Oper)) (fun e61 => ?_) (fun e61 => ?_)
          · skip
            exact absurd (hn21 (by first | assumption | rfl)) e61
          · skip
            refine WS.op rfl rfl (WS.op rfl rfl (WS.nil [(0, _), (7, _), (8, _), (63, _)] rfl ?_))
            refine WC.condF rfl ?_
            refine WC.skip ?_
            refine WC.seq ?_
            refine WC.run ?_
            refine WS.op rfl rfl (WS.op rfl rfl ?_)
            cases hb4 : ok26
            · skip
              refine WS.off rfl (WS.offC rfl (WS.off rfl (WS.off rfl (WS.op rfl rfl (WS.op rfl rfl (WS.op rfl rfl (WS.opV (.bool true) rfl rfl rfl (WS.op rfl rfl (WS.op rfl (op_lds [_, _, _, _] (M65.at 0 rfl) rfl (Nat.le_of_ble_eq_true rfl) rfl) ?_)))))))))
              refine WS.opV (.agg #[(.int .u8 (0 : Int)), (.int .u64 (0 : Int)), (.string (bs ([]))), (.slice none 0 0)]) rfl rfl rfl ?_
              refine WS.call rfl rfl rfl (SameR_ran M65.here (a := r26) (b := (⟨0, 0, ([]), []⟩ : Res)) (Row.Own.sl O26 (Mem.owni M65 1 rfl)) Row.Sl.nil (by first | (have := hF16.2.2.2.2.2.1; omega) | (have := hF26.2.1; omega))) ?_
              rintro _ h66 ⟨rfl, N67⟩
              have M68 := M65.trans N67
              refine WS.op rfl rfl (WS.op rfl rfl (WS.op rfl rfl ?_))
              cases hb5 : (decide (r26 = (⟨0, 0, ([]), []⟩ : Res)))
              · skip
                refine WS.offC rfl (WS.op rfl rfl (WS.op rfl rfl (WS.nil [(2, _)] rfl ?_)))
                refine WC.ret ?_
                refine ⟨[_], (res_tmp rfl res_nil), ?_⟩
                exfalso; first | exact absurd (hn16 (by assumption)) (of_decide_eq_false (by assumption)) | exact absurd (hn26 (by assumption)) (of_decide_eq_false (by assumption))
              · skip
                refine WS.call rfl rfl rfl (awake_ran M68.here ) ?_
                rintro _ h69 ⟨rfl, N70⟩
                have M71 := M68.trans N70
                refine WS.op rfl rfl (WS.op rfl rfl (WS.nil [(2, _)] rfl ?_))
                refine WC.ret ?_
                refine ⟨[_], (res_tmp rfl res_nil), ?_⟩
                rfl
            · skip
              refine WS.op rfl (op_lds [_, _, _, _] (M65.at 0 rfl) rfl (Nat.le_of_ble_eq_true rfl) rfl) ?_
              refine WS.call rfl rfl rfl (WriteR_ran M65.here (r := r26) (Row.Own.sl O26 (Mem.owni M65 1 rfl)) (by exact hF26)) ?_
              rintro _ h72 ⟨rfl, N73⟩
              have M74 := M65.trans N73
              refine WS.op rfl rfl ?_
              refine WS.seql (l := (encR r26)) (m := ((s).take 4000)) rfl rfl rfl (fun e69 => ?_) (fun e69 => ?_)
              · skip
                refine WS.op rfl rfl (WS.op rfl rfl (WS.off rfl (WS.off rfl (WS.off rfl (WS.off rfl (WS.off rfl (WS.offC rfl (WS.off rfl (WS.op rfl rfl ?_)))))))))
                refine WS.op rfl rfl ?_
                refine WS.call rfl rfl rfl (awake_ran M74.here ) ?_
                rintro _ h75 ⟨rfl, N76⟩
                have M77 := M74.trans N76
                refine WS.op rfl rfl (WS.op rfl rfl (WS.nil [(2, _)] rfl ?_))
                refine WC.ret ?_
                refine ⟨[_], (res_tmp rfl res_nil), ?_⟩
                rfl
              · skip
                exact absurd (hy26 (by first | assumption | rfl)) e69
        · skip
          refine WS.op rfl (op_lds [_, _, _, _, _, _, _, _, _, _, _, _, _, _, _, _] (M65.at 2 rfl) rfl (Nat.le_of_ble_eq_true rfl) rfl) ?_
          refine WS.call rfl rfl rfl (WriteO_ran M65.here (o := o21)) ?_
          rintro _ h78 ⟨rfl, N79⟩
          have M80 := M65.trans N79
          refine WS.op rfl rfl ?_
          refine WS.sneq (l := (if mayOB o21 then encO o21 else [])) (m := ((s).take 4000)) rfl rfl rfl (fun e52 => ?_) (fun e52 => ?_)
          · skip
            exact absurd (hy21 (by first | assumption | rfl)) e52
          · skip
            refine WS.op rfl rfl (WS.op rfl rfl (WS.op rfl rfl (WS.op rfl rfl (WS.opV (.bool false) rfl rfl rfl (WS.op rfl rfl (WS.off rfl (WS.off rfl (WS.off rfl (WS.op rfl rfl ?_)))))))))
            refine WS.op rfl rfl (WS.nil [(0, _), (7, _), (8, _), (63, _)] rfl ?_)
            refine WC.condF rfl ?_
            refine WC.skip ?_
            refine WC.seq ?_
            refine WC.run ?_
            refine WS.op rfl rfl (WS.op rfl rfl ?_)
            cases hb4 : ok26
            · skip
              refine WS.off rfl (WS.offC rfl (WS.off rfl (WS.off rfl (WS.op rfl rfl (WS.op rfl rfl (WS.op rfl rfl (WS.opV (.bool true) rfl rfl rfl (WS.op rfl rfl (WS.op rfl (op_lds [_, _, _, _] (M80.at 0 rfl) rfl (Nat.le_of_ble_eq_true rfl) rfl) ?_)))))))))
              refine WS.opV (.agg #[(.int .u8 (0 : Int)), (.int .u64 (0 : Int)), (.string (bs ([]))), (.slice none 0 0)]) rfl rfl rfl ?_
              refine WS.call rfl rfl rfl (SameR_ran M80.here (a := r26) (b := (⟨0, 0, ([]), []⟩ : Res)) (Row.Own.sl O26 (Mem.owni M80 1 rfl)) Row.Sl.nil (by first | (have := hF16.2.2.2.2.2.1; omega) | (have := hF26.2.1; omega))) ?_
              rintro _ h81 ⟨rfl, N82⟩
              have M83 := M80.trans N82
              refine WS.op rfl rfl (WS.op rfl rfl (WS.op rfl rfl ?_))
              cases hb5 : (decide (r26 = (⟨0, 0, ([]), []⟩ : Res)))
              · skip
                refine WS.offC rfl (WS.op rfl rfl (WS.op rfl rfl (WS.nil [(2, _)] rfl ?_)))
                refine WC.ret ?_
                refine ⟨[_], (res_tmp rfl res_nil), ?_⟩
                exfalso; first | exact absurd (hn16 (by assumption)) (of_decide_eq_false (by assumption)) | exact absurd (hn26 (by assumption)) (of_decide_eq_false (by assumption))
              · skip
                refine WS.call rfl rfl rfl (awake_ran M83.here ) ?_
                rintro _ h84 ⟨rfl, N85⟩
                have M86 := M83.trans N85
                refine WS.op rfl rfl (WS.op rfl rfl (WS.nil [(2, _)] rfl ?_))
                refine WC.ret ?_
                refine ⟨[_], (res_tmp rfl res_nil), ?_⟩
                rfl
            · skip
              refine WS.op rfl (op_lds [_, _, _, _] (M80.at 0 rfl) rfl (Nat.le_of_ble_eq_true rfl) rfl) ?_
              refine WS.call rfl rfl rfl (WriteR_ran M80.here (r := r26) (Row.Own.sl O26 (Mem.owni M80 1 rfl)) (by exact hF26)) ?_
              rintro _ h87 ⟨rfl, N88⟩
              have M89 := M80.trans N88
              refine WS.op rfl rfl ?_
              refine WS.seql (l := (encR r26)) (m := ((s).take 4000)) rfl rfl rfl (fun e69 => ?_) (fun e69 => ?_)
              · skip
                refine WS.op rfl rfl (WS.op rfl rfl (WS.off rfl (WS.off rfl (WS.off rfl (WS.off rfl (WS.off rfl (WS.offC rfl (WS.off rfl (WS.op rfl rfl ?_)))))))))
                refine WS.op rfl rfl ?_
                refine WS.call rfl rfl rfl (awake_ran M89.here ) ?_
                rintro _ h90 ⟨rfl, N91⟩
                have M92 := M89.trans N91
                refine WS.op rfl rfl (WS.op rfl rfl (WS.nil [(2, _)] rfl ?_))
                refine WC.ret ?_
                refine ⟨[_], (res_tmp rfl res_nil), ?_⟩
                rfl
              · skip
                exact absurd (hy26 (by first | assumption | rfl)) e69
  · skip
    refine WS.nil [(0, _), (11, _)] rfl ?_
    refine WC.condF rfl ?_
    refine WC.skip ?_
    refine WC.seq ?_
    refine WC.run ?_
    refine WS.op rfl rfl ?_
    refine WS.call rfl rfl rfl (Read_ran W.here (s := s) (by first | omega | (simp only [List.length_drop, List.length_take, List.length_append, List.length_cons, List.length_nil, List.length_singleton]; omega) | (simp only [List.length_drop, List.length_take, List.length_append, List.length_cons, List.length_nil, List.length_singleton] at *; omega))) ?_
    rintro _ h93 ⟨c16, V96, S97, ok16, O98, rfl, hF16, hy16, hn16, N94⟩
    obtain ⟨P99, rfl⟩ := O98.shape
    have M95 := W.trans N94
    replace M95 : Mem _ _ (S97 :: []) _ := M95
    refine WS.op rfl rfl (WS.op rfl rfl (WS.op rfl rfl ?_))
    refine WS.new M95 rfl ?_
    intro p100 h101 M102
    refine WS.st1 (M102.focus 0 rfl) [_, _, _, _, _, _, _, _, _, _, _, _] [_, _, _, _, _, _, _, _, _, _, _, _] rfl rfl rfl rfl rfl (Nat.le_of_ble_eq_true rfl) (Nat.le_of_ble_eq_true rfl) rfl rfl ?_
    intro h103 M104
    replace M104 : Mem _ _ ([(p100, _)] :: S97 :: []) _ := M104
    refine WS.op rfl rfl (WS.nil [(0, _), (3, _), (4, _)] rfl ?_)
    refine WC.seq ?_
    refine WC.run ?_
    refine WS.op rfl rfl ?_
    refine WS.call rfl rfl rfl (ReadO_ran M104.here (s := s) (by first | omega | (simp only [List.length_drop, List.length_take, List.length_append, List.length_cons, List.length_nil, List.length_singleton]; omega) | (simp only [List.length_drop, List.length_take, List.length_append, List.length_cons, List.length_nil, List.length_singleton] at *; omega))) ?_
    rintro _ h105 ⟨o21, ok21, rfl, hy21, hn21, N106⟩
    have M107 := M104.trans N106
    refine WS.op rfl rfl (WS.op rfl rfl (WS.op rfl rfl ?_))
    refine WS.new M107 rfl ?_
    intro p108 h109 M110
    refine WS.st1 (M110.focus 0 rfl) [_, _, _, _, _, _, _, _, _, _, _, _, _, _, _, _] [_, _, _, _, _, _, _, _, _, _, _, _, _, _, _, _] rfl rfl rfl rfl rfl (Nat.le_of_ble_eq_true rfl) (Nat.le_of_ble_eq_true rfl) rfl rfl ?_
    intro h111 M112
    replace M112 : Mem _ _ ([(p108, _)] :: [(p100, _)] :: S97 :: []) _ := M112
    refine WS.op rfl rfl (WS.nil [(0, _), (3, _), (4, _), (5, _), (6, _)] rfl ?_)
    refine WC.seq ?_
    refine WC.run ?_
    refine WS.op rfl rfl ?_
    refine WS.call rfl rfl rfl (ReadR_ran M112.here (s := s) (by first | omega | (simp only [List.length_drop, List.length_take, List.length_append, List.length_cons, List.length_nil, List.length_singleton]; omega) | (simp only [List.length_drop, List.length_take, List.length_append, List.length_cons, List.length_nil, List.length_singleton] at *; omega))) ?_
    rintro _ h113 ⟨r26, V116, S117, ok26, O118, rfl, hF26, hy26, hn26, N114⟩
    obtain ⟨P119, rfl⟩ := O118.shape
    have M115 := M112.trans N114
    replace M115 : Mem _ _ (S117 :: [(p108, _)] :: [(p100, _)] :: S97 :: []) _ := M115
    refine WS.op rfl rfl (WS.op rfl rfl (WS.op rfl rfl ?_))
    refine WS.new M115 rfl ?_
    intro p120 h121 M122
    refine WS.st1 (M122.focus 0 rfl) [_, _, _, _] [_, _, _, _] rfl rfl rfl rfl rfl (Nat.le_of_ble_eq_true rfl) (Nat.le_of_ble_eq_true rfl) rfl rfl ?_
    intro h123 M124
    replace M124 : Mem _ _ ([(p120, _)] :: S117 :: [(p108, _)] :: [(p100, _)] :: S97 :: []) _ := M124
    refine WS.op rfl rfl (WS.nil [(0, _), (3, _), (4, _), (5, _), (6, _), (7, _), (8, _)] rfl ?_)
    refine WC.seq ?_
    refine WC.seq ?_
    refine WC.run ?_
    refine WS.op rfl rfl (WS.op rfl rfl ?_)
    cases hb1 : ok16
    · skip
      refine WS.off rfl (WS.offC rfl (WS.off rfl (WS.off rfl (WS.op rfl rfl (WS.op rfl rfl (WS.op rfl rfl (WS.opV (.bool true) rfl rfl rfl (WS.op rfl rfl (WS.op rfl (op_lds [_, _, _, _, _, _, _, _, _, _, _, _] (M124.at 3 rfl) rfl (Nat.le_of_ble_eq_true rfl) rfl) ?_)))))))))
      refine WS.opV (.agg #[(.int .u8 (0 : Int)), (.int .u64 (0 : Int)), (.int .u64 (0 : Int)), (.string (bs ([]))), (.string (bs ([]))), (.string (bs ([]))), (.string (bs ([]))), (.string (bs ([]))), (.int .u8 (0 : Int)), (.int .u64 (0 : Int)), (.int .u64 (0 : Int)), (.slice none 0 0)]) rfl rfl rfl ?_
      refine WS.call rfl rfl rfl (Same_ran M124.here (a := c16) (b := (⟨0, 0, 0, ([]), ([]), ([]), ([]), ([]), 0, 0, 0, []⟩ : Cmd)) (Row.Own.sl O98 (Mem.owni M124 4 rfl)) Row.Sl.nil (by first | (have := hF16.2.2.2.2.2.1; omega) | (have := hF26.2.1; omega))) ?_
      rintro _ h125 ⟨rfl, N126⟩
      have M127 := M124.trans N126
      cases hb2 : (decide (c16 = (⟨0, 0, 0, ([]), ([]), ([]), ([]), ([]), 0, 0, 0, []⟩ : Cmd)))
      · skip
        refine WS.opV (.bool true) rfl rfl rfl (WS.op rfl rfl (WS.op rfl rfl (WS.op rfl rfl (WS.off rfl (WS.off rfl (WS.off rfl (WS.offC rfl (WS.off rfl (WS.off rfl ?_)))))))))
        refine WS.off rfl (WS.op rfl rfl (WS.op rfl rfl (WS.off rfl (WS.off rfl (WS.off rfl (WS.off rfl (WS.off rfl (WS.off rfl (WS.off rfl ?_)))))))))
        refine WS.op rfl rfl (WS.nil [(0, _), (7, _), (8, _), (63, _)] rfl ?_)
        refine WC.condT rfl ?_
        refine WC.seq ?_
        refine WC.run ?_
        refine WS.op rfl rfl (WS.nil [(2, _)] rfl ?_)
        refine WC.ret ?_
        refine ⟨[_], (res_tmp rfl res_nil), ?_⟩
        exfalso; first | exact absurd (hn16 (by assumption)) (of_decide_eq_false (by assumption)) | exact absurd (hn26 (by assumption)) (of_decide_eq_false (by assumption))
      · skip
        refine WS.opV (.bool false) rfl rfl rfl (WS.op rfl rfl (WS.op rfl rfl (WS.op rfl rfl (WS.op rfl rfl (WS.op rfl rfl ?_)))))
        cases hb3 : ok21
        · skip
          refine WS.off rfl (WS.offC rfl (WS.off rfl (WS.off rfl (WS.op rfl rfl (WS.op rfl rfl (WS.op rfl rfl (WS.op rfl rfl (WS.opV (.bool true) rfl rfl rfl (WS.op rfl rfl ?_)))))))))
          refine WS.op rfl (op_lds [_, _, _, _, _, _, _, _, _, _, _, _, _, _, _, _] (M127.at 2 rfl) rfl (Nat.le_of_ble_eq_true rfl) rfl) (WS.opV (.agg #[(.int .u8 (0 : Int)), (.int .u8 (0 : Int)), (.int .u8 (0 : Int)), (.int .u8 (0 : Int)), (.int .u8 (0 : Int)), (.int .u8 (0 : Int)), (.int .u8 (0 : Int)), (.int .u8 (0 : Int)), (.int .u8 (0 : Int)), (.int .u8 (0 : Int)), (.int .u8 (0 : Int)), (.int .i64 (0 : Int)), (.int .i64 (0 : Int)), (.int .i64 (0 : Int)), (.int .i64 (0 : Int)), (.int .u8 (0 : Int))]) rfl rfl rfl ?_)
          refine WS.eqqDn (p := o21 = (⟨0, 0, 0, 0, 0, 0, 0, 0, 0, 0, 0, 0, 0, 0, 0, 0⟩ : Oper)) rfl rfl rfl (Oper_eqV o21 (⟨0, 0, 0, 0, 0, 0, 0, 0, 0, 0, 0, 0, 0, 0, 0, 0⟩ : Oper)) (fun e61 => ?_) (fun e61 => ?_)
          · skip
            exact absurd (hn21 (by first | assumption | rfl)) e61
          · skip
            refine WS.op rfl rfl (WS.op rfl rfl (WS.nil [(0, _), (7, _), (8, _), (63, _)] rfl ?_))
            refine WC.condF rfl ?_
            refine WC.skip ?_
            refine WC.seq ?_
            refine WC.run ?_
            refine WS.op rfl rfl (WS.op rfl rfl ?_)
            cases hb4 : ok26
            · skip
              refine WS.off rfl (WS.offC rfl (WS.off rfl (WS.off rfl (WS.op rfl rfl (WS.op rfl rfl (WS.op rfl rfl (WS.opV (.bool true) rfl rfl rfl (WS.op rfl rfl (WS.op rfl (op_lds [_, _, _, _] (M127.at 0 rfl) rfl (Nat.le_of_ble_eq_true rfl) rfl) ?_)))))))))
              refine WS.opV (.agg #[(.int .u8 (0 : Int)), (.int .u64 (0 : Int)), (.string (bs ([]))), (.slice none 0 0)]) rfl rfl rfl ?_
              refine WS.call rfl rfl rfl (SameR_ran M127.here (a := r26) (b := (⟨0, 0, ([]), []⟩ : Res)) (Row.Own.sl O118 (Mem.owni M127 1 rfl)) Row.Sl.nil (by first | (have := hF16.2.2.2.2.2.1; omega) | (have := hF26.2.1; omega))) ?_
              rintro _ h128 ⟨rfl, N129⟩
              have M130 := M127.trans N129
              refine WS.op rfl rfl (WS.op rfl rfl (WS.op rfl rfl ?_))
              cases hb5 : (decide (r26 = (⟨0, 0, ([]), []⟩ : Res)))
              · skip
                refine WS.offC rfl (WS.op rfl rfl (WS.op rfl rfl (WS.nil [(2, _)] rfl ?_)))
                refine WC.ret ?_
                refine ⟨[_], (res_tmp rfl res_nil), ?_⟩
                exfalso; first | exact absurd (hn16 (by assumption)) (of_decide_eq_false (by assumption)) | exact absurd (hn26 (by assumption)) (of_decide_eq_false (by assumption))
              · skip
                refine WS.call rfl rfl rfl (awake_ran M130.here ) ?_
                rintro _ h131 ⟨rfl, N132⟩
                have M133 := M130.trans N132
                refine WS.op rfl rfl (WS.op rfl rfl (WS.nil [(2, _)] rfl ?_))
                refine WC.ret ?_
                refine ⟨[_], (res_tmp rfl res_nil), ?_⟩
                rfl
            · skip
              refine WS.op rfl (op_lds [_, _, _, _] (M127.at 0 rfl) rfl (Nat.le_of_ble_eq_true rfl) rfl) ?_
              refine WS.call rfl rfl rfl (WriteR_ran M127.here (r := r26) (Row.Own.sl O118 (Mem.owni M127 1 rfl)) (by exact hF26)) ?_
              rintro _ h134 ⟨rfl, N135⟩
              have M136 := M127.trans N135
              refine WS.op rfl rfl ?_
              refine WS.seql (l := (encR r26)) (m := s) rfl rfl rfl (fun e69 => ?_) (fun e69 => ?_)
              · skip
                refine WS.op rfl rfl (WS.op rfl rfl (WS.off rfl (WS.off rfl (WS.off rfl (WS.off rfl (WS.off rfl (WS.offC rfl (WS.off rfl (WS.op rfl rfl ?_)))))))))
                refine WS.op rfl rfl ?_
                refine WS.call rfl rfl rfl (awake_ran M136.here ) ?_
                rintro _ h137 ⟨rfl, N138⟩
                have M139 := M136.trans N138
                refine WS.op rfl rfl (WS.op rfl rfl (WS.nil [(2, _)] rfl ?_))
                refine WC.ret ?_
                refine ⟨[_], (res_tmp rfl res_nil), ?_⟩
                rfl
              · skip
                exact absurd (hy26 (by first | assumption | rfl)) e69
        · skip
          refine WS.op rfl (op_lds [_, _, _, _, _, _, _, _, _, _, _, _, _, _, _, _] (M127.at 2 rfl) rfl (Nat.le_of_ble_eq_true rfl) rfl) ?_
          refine WS.call rfl rfl rfl (WriteO_ran M127.here (o := o21)) ?_
          rintro _ h140 ⟨rfl, N141⟩
          have M142 := M127.trans N141
          refine WS.op rfl rfl ?_
          refine WS.sneq (l := (if mayOB o21 then encO o21 else [])) (m := s) rfl rfl rfl (fun e52 => ?_) (fun e52 => ?_)
          · skip
            exact absurd (hy21 (by first | assumption | rfl)) e52
          · skip
            refine WS.op rfl rfl (WS.op rfl rfl (WS.op rfl rfl (WS.op rfl rfl (WS.opV (.bool false) rfl rfl rfl (WS.op rfl rfl (WS.off rfl (WS.off rfl (WS.off rfl (WS.op rfl rfl ?_)))))))))
            refine WS.op rfl rfl (WS.nil [(0, _), (7, _), (8, _), (63, _)] rfl ?_)
            refine WC.condF rfl ?_
            refine WC.skip ?_
            refine WC.seq ?_
            refine WC.run ?_
            refine WS.op rfl rfl (WS.op rfl rfl ?_)
            cases hb4 : ok26
            · skip
              refine WS.off rfl (WS.offC rfl (WS.off rfl (WS.off rfl (WS.op rfl rfl (WS.op rfl rfl (WS.op rfl rfl (WS.opV (.bool true) rfl rfl rfl (WS.op rfl rfl (WS.op rfl (op_lds [_, _, _, _] (M142.at 0 rfl) rfl (Nat.le_of_ble_eq_true rfl) rfl) ?_)))))))))
              refine WS.opV (.agg #[(.int .u8 (0 : Int)), (.int .u64 (0 : Int)), (.string (bs ([]))), (.slice none 0 0)]) rfl rfl rfl ?_
              refine WS.call rfl rfl rfl (SameR_ran M142.here (a := r26) (b := (⟨0, 0, ([]), []⟩ : Res)) (Row.Own.sl O118 (Mem.owni M142 1 rfl)) Row.Sl.nil (by first | (have := hF16.2.2.2.2.2.1; omega) | (have := hF26.2.1; omega))) ?_
              rintro _ h143 ⟨rfl, N144⟩
              have M145 := M142.trans N144
              refine WS.op rfl rfl (WS.op rfl rfl (WS.op rfl rfl ?_))
              cases hb5 : (decide (r26 = (⟨0, 0, ([]), []⟩ : Res)))
              · skip
                refine WS.offC rfl (WS.op rfl rfl (WS.op rfl rfl (WS.nil [(2, _)] rfl ?_)))
                refine WC.ret ?_
                refine ⟨[_], (res_tmp rfl res_nil), ?_⟩
                exfalso; first | exact absurd (hn16 (by assumption)) (of_decide_eq_false (by assumption)) | exact absurd (hn26 (by assumption)) (of_decide_eq_false (by assumption))
              · skip
                refine WS.call rfl rfl rfl (awake_ran M145.here ) ?_
                rintro _ h146 ⟨rfl, N147⟩
                have M148 := M145.trans N147
                refine WS.op rfl rfl (WS.op rfl rfl (WS.nil [(2, _)] rfl ?_))
                refine WC.ret ?_
                refine ⟨[_], (res_tmp rfl res_nil), ?_⟩
                rfl
            · skip
              refine WS.op rfl (op_lds [_, _, _, _] (M142.at 0 rfl) rfl (Nat.le_of_ble_eq_true rfl) rfl) ?_
              refine WS.call rfl rfl rfl (WriteR_ran M142.here (r := r26) (Row.Own.sl O118 (Mem.owni M142 1 rfl)) (by exact hF26)) ?_
              rintro _ h149 ⟨rfl, N150⟩
              have M151 := M142.trans N150
              refine WS.op rfl rfl ?_
              refine WS.seql (l := (encR r26)) (m := s) rfl rfl rfl (fun e69 => ?_) (fun e69 => ?_)
              · skip
                refine WS.op rfl rfl (WS.op rfl rfl (WS.off rfl (WS.off rfl (WS.off rfl (WS.off rfl (WS.off rfl (WS.offC rfl (WS.off rfl (WS.op rfl rfl ?_)))))))))
                refine WS.op rfl rfl ?_
                refine WS.call rfl rfl rfl (awake_ran M151.here ) ?_
                rintro _ h152 ⟨rfl, N153⟩
                have M154 := M151.trans N153
                refine WS.op rfl rfl (WS.op rfl rfl (WS.nil [(2, _)] rfl ?_))
                refine WC.ret ?_
                refine ⟨[_], (res_tmp rfl res_nil), ?_⟩
                rfl
              · skip
                exact absurd (hy26 (by first | assumption | rfl)) e69
    · skip
      refine WS.op rfl (op_lds [_, _, _, _, _, _, _, _, _, _, _, _] (M124.at 3 rfl) rfl (Nat.le_of_ble_eq_true rfl) rfl) ?_
      refine WS.call rfl rfl rfl (Write_ran M124.here (c := c16) (Row.Own.sl O98 (Mem.owni M124 4 rfl)) (by exact hF16)) ?_
      rintro _ h155 ⟨rfl, N156⟩
      have M157 := M124.trans N156
      refine WS.op rfl rfl ?_
      refine WS.sneq (l := (if mayB c16 then encC c16 else [])) (m := s) rfl rfl rfl (fun e34 => ?_) (fun e34 => ?_)
      · skip
        exact absurd (hy16 (by first | assumption | rfl)) e34
      · skip
        refine WS.op rfl rfl (WS.op rfl rfl (WS.op rfl rfl (WS.opV (.bool false) rfl rfl rfl (WS.op rfl rfl (WS.off rfl (WS.off rfl (WS.offC rfl (WS.off rfl (WS.op rfl rfl ?_)))))))))
        refine WS.op rfl rfl (WS.op rfl rfl (WS.op rfl rfl (WS.op rfl rfl ?_)))
        cases hb3 : ok21
        · skip
          refine WS.off rfl (WS.offC rfl (WS.off rfl (WS.off rfl (WS.op rfl rfl (WS.op rfl rfl (WS.op rfl rfl (WS.op rfl rfl (WS.opV (.bool true) rfl rfl rfl (WS.op rfl rfl ?_)))))))))
          refine WS.op rfl (op_lds [_, _, _, _, _, _, _, _, _, _, _, _, _, _, _, _] (M157.at 2 rfl) rfl (Nat.le_of_ble_eq_true rfl) rfl) (WS.opV (.agg #[(.int .u8 (0 : Int)), (.int .u8 (0 : Int)), (.int .u8 (0 : Int)), (.int .u8 (0 : Int)), (.int .u8 (0 : Int)), (.int .u8 (0 : Int)), (.int .u8 (0 : Int)), (.int .u8 (0 : Int)), (.int .u8 (0 : Int)), (.int .u8 (0 : Int)), (.int .u8 (0 : Int)), (.int .i64 (0 : Int)), (.int .i64 (0 : Int)), (.int .i64 (0 : Int)), (.int .i64 (0 : Int)), (.int .u8 (0 : Int))]) rfl rfl rfl ?_)
          refine WS.eqqDn (p := o21 = (⟨0, 0, 0, 0, 0, 0, 0, 0, 0, 0, 0, 0, 0, 0, 0, 0⟩ : Oper)) rfl rfl rfl (Oper_eqV o21 (⟨0, 0, 0, 0, 0, 0, 0, 0, 0, 0, 0, 0, 0, 0, 0, 0⟩ : Oper)) (fun e61 => ?_) (fun e61 => ?_)
          · skip
            exact absurd (hn21 (by first | assumption | rfl)) e61
          · skip
            refine WS.op rfl rfl (WS.op rfl rfl (WS.nil [(0, _), (7, _), (8, _), (63, _)] rfl ?_))
            refine WC.condF rfl ?_
            refine WC.skip ?_
            refine WC.seq ?_
            refine WC.run ?_
            refine WS.op rfl rfl (WS.op rfl rfl ?_)
            cases hb4 : ok26
            · skip
              refine WS.off rfl (WS.offC rfl (WS.off rfl (WS.off rfl (WS.op rfl rfl (WS.op rfl rfl (WS.op rfl rfl (WS.opV (.bool true) rfl rfl rfl (WS.op rfl rfl (WS.op rfl (op_lds [_, _, _, _] (M157.at 0 rfl) rfl (Nat.le_of_ble_eq_true rfl) rfl) ?_)))))))))
              refine WS.opV (.agg #[(.int .u8 (0 : Int)), (.int .u64 (0 : Int)), (.string (bs ([]))), (.slice none 0 0)]) rfl rfl rfl ?_
              refine WS.call rfl rfl rfl (SameR_ran M157.here (a := r26) (b := (⟨0, 0, ([]), []⟩ : Res)) (Row.Own.sl O118 (Mem.owni M157 1 rfl)) Row.Sl.nil (by first | (have := hF16.2.2.2.2.2.1; omega) | (have := hF26.2.1; omega))) ?_
              rintro _ h158 ⟨rfl, N159⟩
              have M160 := M157.trans N159
              refine WS.op rfl rfl (WS.op rfl rfl (WS.op rfl rfl ?_))
              cases hb5 : (decide (r26 = (⟨0, 0, ([]), []⟩ : Res)))
              · skip
                refine WS.offC rfl (WS.op rfl rfl (WS.op rfl rfl (WS.nil [(2, _)] rfl ?_)))
                refine WC.ret ?_
                refine ⟨[_], (res_tmp rfl res_nil), ?_⟩
                exfalso; first | exact absurd (hn16 (by assumption)) (of_decide_eq_false (by assumption)) | exact absurd (hn26 (by assumption)) (of_decide_eq_false (by assumption))
              · skip
                refine WS.call rfl rfl rfl (awake_ran M160.here ) ?_
                rintro _ h161 ⟨rfl, N162⟩
                have M163 := M160.trans N162
                refine WS.op rfl rfl (WS.op rfl rfl (WS.nil [(2, _)] rfl ?_))
                refine WC.ret ?_
                refine ⟨[_], (res_tmp rfl res_nil), ?_⟩
                rfl
            · skip
              refine WS.op rfl (op_lds [_, _, _, _] (M157.at 0 rfl) rfl (Nat.le_of_ble_eq_true rfl) rfl) ?_
              refine WS.call rfl rfl rfl (WriteR_ran M157.here (r := r26) (Row.Own.sl O118 (Mem.owni M157 1 rfl)) (by exact hF26)) ?_
              rintro _ h164 ⟨rfl, N165⟩
              have M166 := M157.trans N165
              refine WS.op rfl rfl ?_
              refine WS.seql (l := (encR r26)) (m := s) rfl rfl rfl (fun e69 => ?_) (fun e69 => ?_)
              · skip
                refine WS.op rfl rfl (WS.op rfl rfl (WS.off rfl (WS.off rfl (WS.off rfl (WS.off rfl (WS.off rfl (WS.offC rfl (WS.off rfl (WS.op rfl rfl ?_)))))))))
                refine WS.op rfl rfl ?_
                refine WS.call rfl rfl rfl (awake_ran M166.here ) ?_
                rintro _ h167 ⟨rfl, N168⟩
                have M169 := M166.trans N168
                refine WS.op rfl rfl (WS.op rfl rfl (WS.nil [(2, _)] rfl ?_))
                refine WC.ret ?_
                refine ⟨[_], (res_tmp rfl res_nil), ?_⟩
                rfl
              · skip
                exact absurd (hy26 (by first | assumption | rfl)) e69
        · skip
          refine WS.op rfl (op_lds [_, _, _, _, _, _, _, _, _, _, _, _, _, _, _, _] (M157.at 2 rfl) rfl (Nat.le_of_ble_eq_true rfl) rfl) ?_
          refine WS.call rfl rfl rfl (WriteO_ran M157.here (o := o21)) ?_
          rintro _ h170 ⟨rfl, N171⟩
          have M172 := M157.trans N171
          refine WS.op rfl rfl ?_
          refine WS.sneq (l := (if mayOB o21 then encO o21 else [])) (m := s) rfl rfl rfl (fun e52 => ?_) (fun e52 => ?_)
          · skip
            exact absurd (hy21 (by first | assumption | rfl)) e52
          · skip
            refine WS.op rfl rfl (WS.op rfl rfl (WS.op rfl rfl (WS.op rfl rfl (WS.opV (.bool false) rfl rfl rfl (WS.op rfl rfl (WS.off rfl (WS.off rfl (WS.off rfl (WS.op rfl rfl ?_)))))))))
            refine WS.op rfl rfl (WS.nil [(0, _), (7, _), (8, _), (63, _)] rfl ?_)
            refine WC.condF rfl ?_
            refine WC.skip ?_
            refine WC.seq ?_
            refine WC.run ?_
            refine WS.op rfl rfl (WS.op rfl rfl ?_)
            cases hb4 : ok26
            · skip
              refine WS.off rfl (WS.offC rfl (WS.off rfl (WS.off rfl (WS.op rfl rfl (WS.op rfl rfl (WS.op rfl rfl (WS.opV (.bool true) rfl rfl rfl (WS.op rfl rfl (WS.op rfl (op_lds [_, _, _, _] (M172.at 0 rfl) rfl (Nat.le_of_ble_eq_true rfl) rfl) ?_)))))))))
              refine WS.opV (.agg #[(.int .u8 (0 : Int)), (.int .u64 (0 : Int)), (.string (bs ([]))), (.slice none 0 0)]) rfl rfl rfl ?_
              refine WS.call rfl rfl rfl (SameR_ran M172.here (a := r26) (b := (⟨0, 0, ([]), []⟩ : Res)) (Row.Own.sl O118 (Mem.owni M172 1 rfl)) Row.Sl.nil (by first | (have := hF16.2.2.2.2.2.1; omega) | (have := hF26.2.1; omega))) ?_
              rintro _ h173 ⟨rfl, N174⟩
              have M175 := M172.trans N174
              refine WS.op rfl rfl (WS.op rfl rfl (WS.op rfl rfl ?_))
              cases hb5 : (decide (r26 = (⟨0, 0, ([]), []⟩ : Res)))
              · skip
                refine WS.offC rfl (WS.op rfl rfl (WS.op rfl rfl (WS.nil [(2, _)] rfl ?_)))
                refine WC.ret ?_
                refine ⟨[_], (res_tmp rfl res_nil), ?_⟩
                exfalso; first | exact absurd (hn16 (by assumption)) (of_decide_eq_false (by assumption)) | exact absurd (hn26 (by assumption)) (of_decide_eq_false (by assumption))
              · skip
                refine WS.call rfl rfl rfl (awake_ran M175.here ) ?_
                rintro _ h176 ⟨rfl, N177⟩
                have M178 := M175.trans N177
                refine WS.op rfl rfl (WS.op rfl rfl (WS.nil [(2, _)] rfl ?_))
                refine WC.ret ?_
                refine ⟨[_], (res_tmp rfl res_nil), ?_⟩
                rfl
            · skip
              refine WS.op rfl (op_lds [_, _, _, _] (M172.at 0 rfl) rfl (Nat.le_of_ble_eq_true rfl) rfl) ?_
              refine WS.call rfl rfl rfl (WriteR_ran M172.here (r := r26) (Row.Own.sl O118 (Mem.owni M172 1 rfl)) (by exact hF26)) ?_
              rintro _ h179 ⟨rfl, N180⟩
              have M181 := M172.trans N180
              refine WS.op rfl rfl ?_
              refine WS.seql (l := (encR r26)) (m := s) rfl rfl rfl (fun e69 => ?_) (fun e69 => ?_)
              · skip
                refine WS.op rfl rfl (WS.op rfl rfl (WS.off rfl (WS.off rfl (WS.off rfl (WS.off rfl (WS.off rfl (WS.offC rfl (WS.off rfl (WS.op rfl rfl ?_)))))))))
                refine WS.op rfl rfl ?_
                refine WS.call rfl rfl rfl (awake_ran M181.here ) ?_
                rintro _ h182 ⟨rfl, N183⟩
                have M184 := M181.trans N183
                refine WS.op rfl rfl (WS.op rfl rfl (WS.nil [(2, _)] rfl ?_))
                refine WC.ret ?_
                refine ⟨[_], (res_tmp rfl res_nil), ?_⟩
                rfl
              · skip
                exact absurd (hy26 (by first | assumption | rfl)) e69
end Go.Proofs.Ytncpdahappmhkaa.Wt
