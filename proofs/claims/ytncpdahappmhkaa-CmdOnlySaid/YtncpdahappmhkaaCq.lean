/- Operators' commands: their bytes, walked. -/
import Derived.Test.YtncpdahappmhkaaCp
namespace Go.Proofs.Ytncpdahappmhkaa.Wt
open Go Go.Proofs.Ytncpdahappmhkaa.Am Go.Proofs.Ytncpdahappmhkaa.IrAll
set_option linter.unusedVariables false
set_option linter.unusedSimpArgs false
theorem mayO_1 {o : Oper} (h : o.op.toNat = 1) : MayO o ↔ o.sl.toNat < 4 ∧ B4 o ∧ (⟨0, 0, o.t0, o.t1, o.t2, o.t3, o.t4, o.t5, o.t6, o.t7, o.ro, 0, 0, 0, 0, o.nd⟩ : Oper) = (⟨0, 0, 0, 0, 0, 0, 0, 0, 0, 0, 0, 0, 0, 0, 0, 0⟩ : Oper) := by
  obtain ⟨op, sl, t0, t1, t2, t3, t4, t5, t6, t7, ro, ks, bt, ra, bu, nd⟩ := o
  simp only at h
  have hop : op = 1 := u8_inj h
  subst hop
  unfold MayO B4
  have hp : plainO ⟨1, sl, t0, t1, t2, t3, t4, t5, t6, t7, ro, ks, bt, ra, bu, nd⟩ = ⟨1, sl, 0, 0, 0, 0, 0, 0, 0, 0, 0, ks, bt, ra, bu, 0⟩ := by unfold plainO; simp
  rw [hp]
  simp only [Oper.mk.injEq, true_and, and_true]
  have s0 : Sm (Int64.toInt 0) := by decide
  have s1 : (UInt8.toNat 0) = 0 := rfl
  have s2 : (UInt8.toNat 1) = 1 := rfl
  constructor
  · rintro ⟨q1, ⟨e0, e1, e2, e3, e4, e5, e6, e7, e8, e9⟩, q3, q4, q5, q6, q7, q8, q9⟩
    exact ⟨by omega, ⟨q6, q7, q8, q9⟩, e0, e1, e2, e3, e4, e5, e6, e7, e8, e9⟩
  · rintro ⟨q3, ⟨q6, q7, q8, q9⟩, e0, e1, e2, e3, e4, e5, e6, e7, e8, e9⟩
    subst e0 e1 e2 e3 e4 e5 e6 e7 e8 e9
    exact ⟨by omega, ⟨rfl, rfl, rfl, rfl, rfl, rfl, rfl, rfl, rfl, rfl⟩, by omega, fun q => by omega, fun q => by omega, q6, q7, q8, q9⟩
theorem mayO_2 {o : Oper} (h : o.op.toNat = 2) : MayO o ↔ o.sl.toNat < 4 ∧ (1 ≤ o.ro.toNat ∧ o.ro.toNat ≤ 3) ∧ (⟨0, 0, 0, 0, 0, 0, 0, 0, 0, 0, 0, o.ks, o.bt, o.ra, o.bu, o.nd⟩ : Oper) = (⟨0, 0, 0, 0, 0, 0, 0, 0, 0, 0, 0, 0, 0, 0, 0, 0⟩ : Oper) := by
  obtain ⟨op, sl, t0, t1, t2, t3, t4, t5, t6, t7, ro, ks, bt, ra, bu, nd⟩ := o
  simp only at h
  have hop : op = 2 := u8_inj h
  subst hop
  unfold MayO B4
  have hp : plainO ⟨2, sl, t0, t1, t2, t3, t4, t5, t6, t7, ro, ks, bt, ra, bu, nd⟩ = ⟨2, sl, t0, t1, t2, t3, t4, t5, t6, t7, ro, 0, 0, 0, 0, 0⟩ := by unfold plainO; simp
  rw [hp]
  simp only [Oper.mk.injEq, true_and, and_true]
  have s0 : Sm (Int64.toInt 0) := by decide
  have s1 : (UInt8.toNat 0) = 0 := rfl
  have s2 : (UInt8.toNat 2) = 2 := rfl
  constructor
  · rintro ⟨q1, ⟨e0, e1, e2, e3, e4⟩, q3, q4, q5, q6, q7, q8, q9⟩
    exact ⟨by omega, q4 rfl, e0, e1, e2, e3, e4⟩
  · rintro ⟨q3, q4, e0, e1, e2, e3, e4⟩
    subst e0 e1 e2 e3 e4
    exact ⟨by omega, ⟨rfl, rfl, rfl, rfl, rfl⟩, by omega, fun _ => q4, fun q => by omega, s0, s0, s0, s0⟩
theorem mayO_3 {o : Oper} (h : o.op.toNat = 3) : MayO o ↔ (⟨0, o.sl, 0, 0, 0, 0, 0, 0, 0, 0, o.ro, o.ks, o.bt, o.ra, o.bu, o.nd⟩ : Oper) = (⟨0, 0, 0, 0, 0, 0, 0, 0, 0, 0, 0, 0, 0, 0, 0, 0⟩ : Oper) := by
  obtain ⟨op, sl, t0, t1, t2, t3, t4, t5, t6, t7, ro, ks, bt, ra, bu, nd⟩ := o
  simp only at h
  have hop : op = 3 := u8_inj h
  subst hop
  unfold MayO B4
  have hp : plainO ⟨3, sl, t0, t1, t2, t3, t4, t5, t6, t7, ro, ks, bt, ra, bu, nd⟩ = ⟨3, 0, t0, t1, t2, t3, t4, t5, t6, t7, 0, 0, 0, 0, 0, 0⟩ := by unfold plainO; simp
  rw [hp]
  simp only [Oper.mk.injEq, true_and, and_true]
  have s0 : Sm (Int64.toInt 0) := by decide
  have s1 : (UInt8.toNat 0) = 0 := rfl
  have s2 : (UInt8.toNat 3) = 3 := rfl
  constructor
  · rintro ⟨q1, ⟨e0, e1, e2, e3, e4, e5, e6⟩, q3, q4, q5, q6, q7, q8, q9⟩
    exact ⟨e0, e1, e2, e3, e4, e5, e6⟩
  · rintro ⟨e0, e1, e2, e3, e4, e5, e6⟩
    subst e0 e1 e2 e3 e4 e5 e6
    exact ⟨by omega, ⟨rfl, rfl, rfl, rfl, rfl, rfl, rfl⟩, by omega, fun q => by omega, fun q => by omega, s0, s0, s0, s0⟩
theorem mayO_4 {o : Oper} (h : o.op.toNat = 4) : MayO o ↔ o.sl.toNat < 4 ∧ (⟨0, 0, o.t0, o.t1, o.t2, o.t3, o.t4, o.t5, o.t6, o.t7, o.ro, o.ks, o.bt, o.ra, o.bu, o.nd⟩ : Oper) = (⟨0, 0, 0, 0, 0, 0, 0, 0, 0, 0, 0, 0, 0, 0, 0, 0⟩ : Oper) := by
  obtain ⟨op, sl, t0, t1, t2, t3, t4, t5, t6, t7, ro, ks, bt, ra, bu, nd⟩ := o
  simp only at h
  have hop : op = 4 := u8_inj h
  subst hop
  unfold MayO B4
  have hp : plainO ⟨4, sl, t0, t1, t2, t3, t4, t5, t6, t7, ro, ks, bt, ra, bu, nd⟩ = ⟨4, sl, 0, 0, 0, 0, 0, 0, 0, 0, 0, 0, 0, 0, 0, 0⟩ := by unfold plainO; simp
  rw [hp]
  simp only [Oper.mk.injEq, true_and, and_true]
  have s0 : Sm (Int64.toInt 0) := by decide
  have s1 : (UInt8.toNat 0) = 0 := rfl
  have s2 : (UInt8.toNat 4) = 4 := rfl
  constructor
  · rintro ⟨q1, ⟨e0, e1, e2, e3, e4, e5, e6, e7, e8, e9, e10, e11, e12, e13⟩, q3, q4, q5, q6, q7, q8, q9⟩
    exact ⟨by omega, e0, e1, e2, e3, e4, e5, e6, e7, e8, e9, e10, e11, e12, e13⟩
  · rintro ⟨q3, e0, e1, e2, e3, e4, e5, e6, e7, e8, e9, e10, e11, e12, e13⟩
    subst e0 e1 e2 e3 e4 e5 e6 e7 e8 e9 e10 e11 e12 e13
    exact ⟨by omega, ⟨rfl, rfl, rfl, rfl, rfl, rfl, rfl, rfl, rfl, rfl, rfl, rfl, rfl, rfl⟩, by omega, fun q => by omega, fun q => by omega, s0, s0, s0, s0⟩
theorem mayO_5 {o : Oper} (h : 5 ≤ o.op.toNat ∧ o.op.toNat ≤ 7) : MayO o ↔ (1 ≤ o.nd.toNat ∧ o.nd.toNat ≤ 5) ∧ (⟨0, o.sl, o.t0, o.t1, o.t2, o.t3, o.t4, o.t5, o.t6, o.t7, o.ro, o.ks, o.bt, o.ra, o.bu, 0⟩ : Oper) = (⟨0, 0, 0, 0, 0, 0, 0, 0, 0, 0, 0, 0, 0, 0, 0, 0⟩ : Oper) := by
  obtain ⟨op, sl, t0, t1, t2, t3, t4, t5, t6, t7, ro, ks, bt, ra, bu, nd⟩ := o
  simp only at h
  unfold MayO B4
  have hp : plainO ⟨op, sl, t0, t1, t2, t3, t4, t5, t6, t7, ro, ks, bt, ra, bu, nd⟩ = ⟨op, 0, 0, 0, 0, 0, 0, 0, 0, 0, 0, 0, 0, 0, 0, nd⟩ := by unfold plainO; simp only; rw [if_neg (by omega), if_neg (by omega), if_neg (by omega), if_neg (by omega)]
  rw [hp]
  simp only [Oper.mk.injEq, true_and, and_true]
  have s0 : Sm (Int64.toInt 0) := by decide
  have s1 : (UInt8.toNat 0) = 0 := rfl
  skip
  constructor
  · rintro ⟨q1, ⟨e0, e1, e2, e3, e4, e5, e6, e7, e8, e9, e10, e11, e12, e13⟩, q3, q4, q5, q6, q7, q8, q9⟩
    exact ⟨q5 (by omega), e0, e1, e2, e3, e4, e5, e6, e7, e8, e9, e10, e11, e12, e13⟩
  · rintro ⟨q5, e0, e1, e2, e3, e4, e5, e6, e7, e8, e9, e10, e11, e12, e13⟩
    subst e0 e1 e2 e3 e4 e5 e6 e7 e8 e9 e10 e11 e12 e13
    exact ⟨by omega, ⟨rfl, rfl, rfl, rfl, rfl, rfl, rfl, rfl, rfl, rfl, rfl, rfl, rfl, rfl⟩, by omega, fun q => by omega, fun _ => q5, s0, s0, s0, s0⟩
variable {h base : H} {L : List Seg} {R : List Nat}
theorem AllS4 {o : Oper} : AllS [o.ks.toInt, o.bt.toInt, o.ra.toInt, o.bu.toInt] ↔ B4 o := by
  unfold AllS B4
  simp
set_option maxRecDepth 8000 in
theorem mayO_ran (W : Mem h h [] []) {o : Oper} : Cll tab0 41 [.agg (Oper.cells o).toArray] h (fun v h2 => v = .bool (mayOB o) ∧ Mem h h2 [] []) := by
  refine Cll.code rfl rfl ?_
  refine WC.env [(0, _)] rfl ?_
  refine WC.seq ?_
  refine WC.run ?_
  refine WS.box W [_, _, _, _, _, _, _, _, _, _, _, _, _, _, _, _] rfl rfl rfl rfl ?_
  intro p1 h2 M3
  refine WS.op rfl rfl (WS.nil [(1, _)] rfl ?_)
  refine WC.seq ?_
  refine WC.run ?_
  refine WS.op rfl (op_lds [_, _, _, _, _, _, _, _, _, _, _, _, _, _, _, _] (M3.at 0 rfl) rfl (Nat.le_of_ble_eq_true rfl) rfl) ?_
  refine WS.new M3 rfl ?_
  intro p4 h5 M6
  refine WS.st1 (M6.focus 0 rfl) [_, _, _, _, _, _, _, _, _, _, _, _, _, _, _, _] [_, _, _, _, _, _, _, _, _, _, _, _, _, _, _, _] rfl rfl rfl rfl rfl (Nat.le_of_ble_eq_true rfl) (Nat.le_of_ble_eq_true rfl) rfl rfl ?_
  intro h7 M8
  replace M8 : Mem _ _ ([(p4, _)] :: [(p1, _)] :: []) _ := M8
  refine WS.nil [(1, _), (3, _)] rfl ?_
  refine WC.seq ?_
  refine WC.run ?_
  refine WS.op rfl rfl ?_
  refine WS.st1 (M8.focus 0 rfl) [_] [_, _, _, _, _, _, _, _, _, _, _, _, _, _, _, _] rfl rfl rfl rfl rfl (Nat.le_of_ble_eq_true rfl) (Nat.le_of_ble_eq_true rfl) rfl rfl ?_
  intro h9 M10
  replace M10 : Mem _ _ ([(p4, _)] :: [(p1, _)] :: []) _ := M10
  refine WS.nil [(1, _), (3, _)] rfl ?_
  refine WC.seq ?_
  refine WC.run ?_
  refine WS.op rfl rfl (WS.nil [(1, _), (3, _), (4, _)] rfl ?_)
  refine WC.seq ?_
  refine WC.seq ?_
  refine WC.run ?_
  refine WS.op rfl rfl (WS.op rfl (op_ld (M10.at 1 rfl) rfl rfl) (WS.nil [(1, _), (3, _), (4, _), (8, _)] rfl ?_))
  refine WC.block ?_
  refine WC.seq ?_
  refine WC.run ?_
  refine WS.eqlN (a := (o.op).toNat) (b := 1) rfl rfl rfl (fun e10 => ?_) (fun e10 => ?_)
  · skip
    refine WS.op rfl rfl (WS.nil [(1, _), (3, _), (4, _), (8, _), (9, _)] rfl ?_)
    refine WC.condT rfl ?_
    refine WC.seq ?_
    refine WC.run ?_
    refine WS.op rfl rfl (WS.op rfl (op_ld (M10.at 1 rfl) rfl rfl) ?_)
    refine WS.lssN (a := (o.sl).toNat) (b := 4) rfl rfl rfl (fun e13 => ?_) (fun e13 => ?_)
    · skip
      refine WS.op rfl rfl (WS.op rfl rfl (WS.op rfl (op_ld (M10.at 1 rfl) rfl rfl) (WS.op rfl rfl (WS.op rfl (op_ld (M10.at 1 rfl) rfl rfl) (WS.op rfl rfl (WS.op rfl (op_ld (M10.at 1 rfl) rfl rfl) (WS.op rfl rfl (WS.op rfl (op_ld (M10.at 1 rfl) rfl rfl) ?_))))))))
      refine WS.bsl M10 [_, _, _, _] rfl rfl rfl rfl ?_
      intro p11 h12 M13
      refine WS.call rfl rfl rfl (small_ran M13.here (l := [(o.ks).toInt, (o.bt).toInt, (o.ra).toInt, (o.bu).toInt]) (Row.Sl.own (K := KInt) (l := [(o.ks).toInt, (o.bt).toInt, (o.ra).toInt, (o.bu).toInt]) (M13.at 0 rfl)) (by simp)) ?_
      rintro _ h14 ⟨rfl, N15⟩
      have M16 := M13.trans N15
      refine WS.op rfl rfl (WS.op rfl rfl (WS.nil [(3, _), (4, _)] rfl ?_))
      refine WC.run ?_
      refine WS.op rfl rfl ?_
      refine WS.st1 (M16.focus 1 rfl) [_] [_, _, _, _, _, _, _, _, _, _, _, _, _, _, _, _] rfl rfl rfl rfl rfl (Nat.le_of_ble_eq_true rfl) (Nat.le_of_ble_eq_true rfl) rfl rfl ?_
      intro h17 M18
      replace M18 : Mem _ _ ([(p4, _)] :: [(p11, _)] :: [(p1, _)] :: []) _ := M18
      refine WS.op rfl rfl ?_
      refine WS.st1 (M18.focus 0 rfl) [_] [_, _, _, _, _, _, _, _, _, _, _, _, _, _, _, _] rfl rfl rfl rfl rfl (Nat.le_of_ble_eq_true rfl) (Nat.le_of_ble_eq_true rfl) rfl rfl ?_
      intro h19 M20
      replace M20 : Mem _ _ ([(p4, _)] :: [(p11, _)] :: [(p1, _)] :: []) _ := M20
      refine WS.op rfl rfl ?_
      refine WS.st1 (M20.focus 0 rfl) [_] [_, _, _, _, _, _, _, _, _, _, _, _, _, _, _, _] rfl rfl rfl rfl rfl (Nat.le_of_ble_eq_true rfl) (Nat.le_of_ble_eq_true rfl) rfl rfl ?_
      intro h21 M22
      replace M22 : Mem _ _ ([(p4, _)] :: [(p11, _)] :: [(p1, _)] :: []) _ := M22
      refine WS.op rfl rfl ?_
      refine WS.st1 (M22.focus 0 rfl) [_] [_, _, _, _, _, _, _, _, _, _, _, _, _, _, _, _] rfl rfl rfl rfl rfl (Nat.le_of_ble_eq_true rfl) (Nat.le_of_ble_eq_true rfl) rfl rfl ?_
      intro h23 M24
      replace M24 : Mem _ _ ([(p4, _)] :: [(p11, _)] :: [(p1, _)] :: []) _ := M24
      refine WS.op rfl rfl ?_
      refine WS.st1 (M24.focus 0 rfl) [_] [_, _, _, _, _, _, _, _, _, _, _, _, _, _, _, _] rfl rfl rfl rfl rfl (Nat.le_of_ble_eq_true rfl) (Nat.le_of_ble_eq_true rfl) rfl rfl ?_
      intro h25 M26
      replace M26 : Mem _ _ ([(p4, _)] :: [(p11, _)] :: [(p1, _)] :: []) _ := M26
      refine WS.nil [(3, _), (4, _)] rfl ?_
      refine WC.seq ?_
      refine WC.run ?_
      refine WS.op rfl rfl (WS.op rfl rfl ?_)
      cases hb1 : (decide (AllS [(o.ks).toInt, (o.bt).toInt, (o.ra).toInt, (o.bu).toInt]))
      · skip
        refine WS.off rfl (WS.off rfl (WS.off rfl (WS.op rfl rfl (WS.op rfl rfl (WS.nil [(2, _)] rfl ?_)))))
        refine WC.ret ?_
        refine ⟨[_], (res_tmp rfl res_nil), ?_⟩
        first | exact ⟨mayOB_f (fun q => by have q2 := (mayO_1 (by omega)).1 q; first | omega | exact absurd q2 (by assumption) | exact absurd q2.2 (by assumption) | exact absurd q2.2.2 (by assumption) | exact absurd (AllS4.2 q2.2.1) (of_decide_eq_false (by assumption))), M26.bare.take 0⟩ | exact ⟨mayOB_f (fun q => by have q2 := (mayO_2 (by omega)).1 q; first | omega | exact absurd q2 (by assumption) | exact absurd q2.2 (by assumption) | exact absurd q2.2.2 (by assumption) | exact absurd (AllS4.2 q2.2.1) (of_decide_eq_false (by assumption))), M26.bare.take 0⟩ | exact ⟨mayOB_f (fun q => by have q2 := (mayO_3 (by omega)).1 q; first | omega | exact absurd q2 (by assumption) | exact absurd q2.2 (by assumption) | exact absurd q2.2.2 (by assumption) | exact absurd (AllS4.2 q2.2.1) (of_decide_eq_false (by assumption))), M26.bare.take 0⟩ | exact ⟨mayOB_f (fun q => by have q2 := (mayO_4 (by omega)).1 q; first | omega | exact absurd q2 (by assumption) | exact absurd q2.2 (by assumption) | exact absurd q2.2.2 (by assumption) | exact absurd (AllS4.2 q2.2.1) (of_decide_eq_false (by assumption))), M26.bare.take 0⟩ | exact ⟨mayOB_f (fun q => by have q2 := (mayO_5 (by omega)).1 q; first | omega | exact absurd q2 (by assumption) | exact absurd q2.2 (by assumption) | exact absurd q2.2.2 (by assumption) | exact absurd (AllS4.2 q2.2.1) (of_decide_eq_false (by assumption))), M26.bare.take 0⟩ | exact ⟨mayOB_f (fun q => by have q2 := q.1; omega), M26.bare.take 0⟩
      · skip
        refine WS.op rfl (op_lds [_, _, _, _, _, _, _, _, _, _, _, _, _, _, _, _] (M26.at 0 rfl) rfl (Nat.le_of_ble_eq_true rfl) rfl) (WS.opV (.agg #[(.int .u8 (0 : Int)), (.int .u8 (0 : Int)), (.int .u8 (0 : Int)), (.int .u8 (0 : Int)), (.int .u8 (0 : Int)), (.int .u8 (0 : Int)), (.int .u8 (0 : Int)), (.int .u8 (0 : Int)), (.int .u8 (0 : Int)), (.int .u8 (0 : Int)), (.int .u8 (0 : Int)), (.int .i64 (0 : Int)), (.int .i64 (0 : Int)), (.int .i64 (0 : Int)), (.int .i64 (0 : Int)), (.int .u8 (0 : Int))]) rfl rfl rfl ?_)
        refine WS.eqqD (p := (⟨0, 0, o.t0, o.t1, o.t2, o.t3, o.t4, o.t5, o.t6, o.t7, o.ro, 0, 0, 0, 0, o.nd⟩ : Oper) = (⟨0, 0, 0, 0, 0, 0, 0, 0, 0, 0, 0, 0, 0, 0, 0, 0⟩ : Oper)) rfl rfl rfl (Oper_eqV (⟨0, 0, o.t0, o.t1, o.t2, o.t3, o.t4, o.t5, o.t6, o.t7, o.ro, 0, 0, 0, 0, o.nd⟩ : Oper) (⟨0, 0, 0, 0, 0, 0, 0, 0, 0, 0, 0, 0, 0, 0, 0, 0⟩ : Oper)) (fun e77 => ?_) (fun e77 => ?_)
        · skip
          refine WS.op rfl rfl (WS.op rfl rfl (WS.nil [(2, _)] rfl ?_))
          refine WC.ret ?_
          refine ⟨[_], (res_tmp rfl res_nil), ?_⟩
          first | exact ⟨mayOB_t ((mayO_1 (by omega)).2 ⟨by omega, AllS4.1 (of_decide_eq_true (by assumption)), by assumption⟩), M26.bare.take 0⟩ | exact ⟨mayOB_t ((mayO_2 (by omega)).2 ⟨by omega, by omega, by assumption⟩), M26.bare.take 0⟩ | exact ⟨mayOB_t ((mayO_3 (by omega)).2 (by assumption)), M26.bare.take 0⟩ | exact ⟨mayOB_t ((mayO_4 (by omega)).2 ⟨by omega, by assumption⟩), M26.bare.take 0⟩ | exact ⟨mayOB_t ((mayO_5 (by omega)).2 ⟨by omega, by assumption⟩), M26.bare.take 0⟩
        · skip
          refine WS.op rfl rfl (WS.op rfl rfl (WS.nil [(2, _)] rfl ?_))
          refine WC.ret ?_
          refine ⟨[_], (res_tmp rfl res_nil), ?_⟩
          first | exact ⟨mayOB_f (fun q => by have q2 := (mayO_1 (by omega)).1 q; first | omega | exact absurd q2 (by assumption) | exact absurd q2.2 (by assumption) | exact absurd q2.2.2 (by assumption) | exact absurd (AllS4.2 q2.2.1) (of_decide_eq_false (by assumption))), M26.bare.take 0⟩ | exact ⟨mayOB_f (fun q => by have q2 := (mayO_2 (by omega)).1 q; first | omega | exact absurd q2 (by assumption) | exact absurd q2.2 (by assumption) | exact absurd q2.2.2 (by assumption) | exact absurd (AllS4.2 q2.2.1) (of_decide_eq_false (by assumption))), M26.bare.take 0⟩ | exact ⟨mayOB_f (fun q => by have q2 := (mayO_3 (by omega)).1 q; first | omega | exact absurd q2 (by assumption) | exact absurd q2.2 (by assumption) | exact absurd q2.2.2 (by assumption) | exact absurd (AllS4.2 q2.2.1) (of_decide_eq_false (by assumption))), M26.bare.take 0⟩ | exact ⟨mayOB_f (fun q => by have q2 := (mayO_4 (by omega)).1 q; first | omega | exact absurd q2 (by assumption) | exact absurd q2.2 (by assumption) | exact absurd q2.2.2 (by assumption) | exact absurd (AllS4.2 q2.2.1) (of_decide_eq_false (by assumption))), M26.bare.take 0⟩ | exact ⟨mayOB_f (fun q => by have q2 := (mayO_5 (by omega)).1 q; first | omega | exact absurd q2 (by assumption) | exact absurd q2.2 (by assumption) | exact absurd q2.2.2 (by assumption) | exact absurd (AllS4.2 q2.2.1) (of_decide_eq_false (by assumption))), M26.bare.take 0⟩ | exact ⟨mayOB_f (fun q => by have q2 := q.1; omega), M26.bare.take 0⟩
    · skip
      refine WS.op rfl rfl (WS.off rfl (WS.off rfl (WS.off rfl (WS.off rfl (WS.off rfl (WS.off rfl (WS.off rfl (WS.off rfl (WS.off rfl ?_)))))))))
      refine WS.offC rfl (WS.op rfl rfl (WS.op rfl rfl (WS.nil [(3, _), (4, _)] rfl ?_)))
      refine WC.run ?_
      refine WS.op rfl rfl ?_
      refine WS.st1 (M10.focus 0 rfl) [_] [_, _, _, _, _, _, _, _, _, _, _, _, _, _, _, _] rfl rfl rfl rfl rfl (Nat.le_of_ble_eq_true rfl) (Nat.le_of_ble_eq_true rfl) rfl rfl ?_
      intro h27 M28
      replace M28 : Mem _ _ ([(p4, _)] :: [(p1, _)] :: []) _ := M28
      refine WS.op rfl rfl ?_
      refine WS.st1 (M28.focus 0 rfl) [_] [_, _, _, _, _, _, _, _, _, _, _, _, _, _, _, _] rfl rfl rfl rfl rfl (Nat.le_of_ble_eq_true rfl) (Nat.le_of_ble_eq_true rfl) rfl rfl ?_
      intro h29 M30
      replace M30 : Mem _ _ ([(p4, _)] :: [(p1, _)] :: []) _ := M30
      refine WS.op rfl rfl ?_
      refine WS.st1 (M30.focus 0 rfl) [_] [_, _, _, _, _, _, _, _, _, _, _, _, _, _, _, _] rfl rfl rfl rfl rfl (Nat.le_of_ble_eq_true rfl) (Nat.le_of_ble_eq_true rfl) rfl rfl ?_
      intro h31 M32
      replace M32 : Mem _ _ ([(p4, _)] :: [(p1, _)] :: []) _ := M32
      refine WS.op rfl rfl ?_
      refine WS.st1 (M32.focus 0 rfl) [_] [_, _, _, _, _, _, _, _, _, _, _, _, _, _, _, _] rfl rfl rfl rfl rfl (Nat.le_of_ble_eq_true rfl) (Nat.le_of_ble_eq_true rfl) rfl rfl ?_
      intro h33 M34
      replace M34 : Mem _ _ ([(p4, _)] :: [(p1, _)] :: []) _ := M34
      refine WS.op rfl rfl ?_
      refine WS.st1 (M34.focus 0 rfl) [_] [_, _, _, _, _, _, _, _, _, _, _, _, _, _, _, _] rfl rfl rfl rfl rfl (Nat.le_of_ble_eq_true rfl) (Nat.le_of_ble_eq_true rfl) rfl rfl ?_
      intro h35 M36
      replace M36 : Mem _ _ ([(p4, _)] :: [(p1, _)] :: []) _ := M36
      refine WS.nil [(3, _), (4, _)] rfl ?_
      refine WC.seq ?_
      refine WC.run ?_
      refine WS.op rfl rfl (WS.op rfl rfl (WS.off rfl (WS.off rfl (WS.off rfl (WS.op rfl rfl (WS.op rfl rfl (WS.nil [(2, _)] rfl ?_)))))))
      refine WC.ret ?_
      refine ⟨[_], (res_tmp rfl res_nil), ?_⟩
      first | exact ⟨mayOB_f (fun q => by have q2 := (mayO_1 (by omega)).1 q; first | omega | exact absurd q2 (by assumption) | exact absurd q2.2 (by assumption) | exact absurd q2.2.2 (by assumption) | exact absurd (AllS4.2 q2.2.1) (of_decide_eq_false (by assumption))), M36.bare.take 0⟩ | exact ⟨mayOB_f (fun q => by have q2 := (mayO_2 (by omega)).1 q; first | omega | exact absurd q2 (by assumption) | exact absurd q2.2 (by assumption) | exact absurd q2.2.2 (by assumption) | exact absurd (AllS4.2 q2.2.1) (of_decide_eq_false (by assumption))), M36.bare.take 0⟩ | exact ⟨mayOB_f (fun q => by have q2 := (mayO_3 (by omega)).1 q; first | omega | exact absurd q2 (by assumption) | exact absurd q2.2 (by assumption) | exact absurd q2.2.2 (by assumption) | exact absurd (AllS4.2 q2.2.1) (of_decide_eq_false (by assumption))), M36.bare.take 0⟩ | exact ⟨mayOB_f (fun q => by have q2 := (mayO_4 (by omega)).1 q; first | omega | exact absurd q2 (by assumption) | exact absurd q2.2 (by assumption) | exact absurd q2.2.2 (by assumption) | exact absurd (AllS4.2 q2.2.1) (of_decide_eq_false (by assumption))), M36.bare.take 0⟩ | exact ⟨mayOB_f (fun q => by have q2 := (mayO_5 (by omega)).1 q; first | omega | exact absurd q2 (by assumption) | exact absurd q2.2 (by assumption) | exact absurd q2.2.2 (by assumption) | exact absurd (AllS4.2 q2.2.1) (of_decide_eq_false (by assumption))), M36.bare.take 0⟩ | exact ⟨mayOB_f (fun q => by have q2 := q.1; omega), M36.bare.take 0⟩
  · skip
    refine WS.op rfl rfl (WS.nil [(1, _), (3, _), (4, _), (8, _), (9, _)] rfl ?_)
    refine WC.condF rfl ?_
    refine WC.seq ?_
    refine WC.run ?_
    refine WS.eqlN (a := (o.op).toNat) (b := 2) rfl rfl rfl (fun e32 => ?_) (fun e32 => ?_)
    · skip
      refine WS.op rfl rfl (WS.nil [(1, _), (3, _), (4, _), (8, _), (31, _)] rfl ?_)
      refine WC.condT rfl ?_
      refine WC.seq ?_
      refine WC.run ?_
      refine WS.op rfl rfl (WS.op rfl (op_ld (M10.at 1 rfl) rfl rfl) ?_)
      refine WS.lssN (a := (o.sl).toNat) (b := 4) rfl rfl rfl (fun e35 => ?_) (fun e35 => ?_)
      · skip
        refine WS.op rfl rfl (WS.op rfl rfl (WS.op rfl (op_ld (M10.at 1 rfl) rfl rfl) ?_))
        refine WS.geqN (a := (o.ro).toNat) (b := 1) rfl rfl rfl (fun e39 => ?_) (fun e39 => ?_)
        · skip
          refine WS.op rfl rfl (WS.op rfl rfl (WS.op rfl rfl (WS.op rfl (op_ld (M10.at 1 rfl) rfl rfl) ?_)))
          refine WS.leqN (a := (o.ro).toNat) (b := 3) rfl rfl rfl (fun e44 => ?_) (fun e44 => ?_)
          · skip
            refine WS.op rfl rfl (WS.op rfl rfl (WS.nil [(3, _), (4, _)] rfl ?_))
            refine WC.run ?_
            refine WS.opV (.agg #[(.int .u8 (0 : Int)), (.int .u8 (0 : Int)), (.int .u8 (0 : Int)), (.int .u8 (0 : Int)), (.int .u8 (0 : Int)), (.int .u8 (0 : Int)), (.int .u8 (0 : Int)), (.int .u8 (0 : Int))]) rfl rfl rfl (WS.op rfl rfl ?_)
            refine WS.st1 (M10.focus 0 rfl) [_] [_, _, _, _, _, _, _, _, _, _, _, _, _, _, _, _] rfl rfl rfl rfl rfl (Nat.le_of_ble_eq_true rfl) (Nat.le_of_ble_eq_true rfl) rfl rfl ?_
            intro h37 M38
            replace M38 : Mem _ _ ([(p4, _)] :: [(p1, _)] :: []) _ := M38
            refine WS.op rfl rfl ?_
            refine WS.st1 (M38.focus 0 rfl) [_, _, _, _, _, _, _, _] [_, _, _, _, _, _, _, _, _, _, _, _, _, _, _, _] rfl rfl rfl rfl rfl (Nat.le_of_ble_eq_true rfl) (Nat.le_of_ble_eq_true rfl) rfl rfl ?_
            intro h39 M40
            replace M40 : Mem _ _ ([(p4, _)] :: [(p1, _)] :: []) _ := M40
            refine WS.op rfl rfl ?_
            refine WS.st1 (M40.focus 0 rfl) [_] [_, _, _, _, _, _, _, _, _, _, _, _, _, _, _, _] rfl rfl rfl rfl rfl (Nat.le_of_ble_eq_true rfl) (Nat.le_of_ble_eq_true rfl) rfl rfl ?_
            intro h41 M42
            replace M42 : Mem _ _ ([(p4, _)] :: [(p1, _)] :: []) _ := M42
            refine WS.nil [(3, _), (4, _)] rfl ?_
            refine WC.seq ?_
            refine WC.run ?_
            refine WS.op rfl rfl (WS.op rfl rfl (WS.op rfl (op_lds [_, _, _, _, _, _, _, _, _, _, _, _, _, _, _, _] (M42.at 0 rfl) rfl (Nat.le_of_ble_eq_true rfl) rfl) (WS.opV (.agg #[(.int .u8 (0 : Int)), (.int .u8 (0 : Int)), (.int .u8 (0 : Int)), (.int .u8 (0 : Int)), (.int .u8 (0 : Int)), (.int .u8 (0 : Int)), (.int .u8 (0 : Int)), (.int .u8 (0 : Int)), (.int .u8 (0 : Int)), (.int .u8 (0 : Int)), (.int .u8 (0 : Int)), (.int .i64 (0 : Int)), (.int .i64 (0 : Int)), (.int .i64 (0 : Int)), (.int .i64 (0 : Int)), (.int .u8 (0 : Int))]) rfl rfl rfl ?_)))
            refine WS.eqqD (p := (⟨0, 0, 0, 0, 0, 0, 0, 0, 0, 0, 0, o.ks, o.bt, o.ra, o.bu, o.nd⟩ : Oper) = (⟨0, 0, 0, 0, 0, 0, 0, 0, 0, 0, 0, 0, 0, 0, 0, 0⟩ : Oper)) rfl rfl rfl (Oper_eqV (⟨0, 0, 0, 0, 0, 0, 0, 0, 0, 0, 0, o.ks, o.bt, o.ra, o.bu, o.nd⟩ : Oper) (⟨0, 0, 0, 0, 0, 0, 0, 0, 0, 0, 0, 0, 0, 0, 0, 0⟩ : Oper)) (fun e77 => ?_) (fun e77 => ?_)
            · skip
              refine WS.op rfl rfl (WS.op rfl rfl (WS.nil [(2, _)] rfl ?_))
              refine WC.ret ?_
              refine ⟨[_], (res_tmp rfl res_nil), ?_⟩
              first | exact ⟨mayOB_t ((mayO_1 (by omega)).2 ⟨by omega, AllS4.1 (of_decide_eq_true (by assumption)), by assumption⟩), M42.bare.take 0⟩ | exact ⟨mayOB_t ((mayO_2 (by omega)).2 ⟨by omega, by omega, by assumption⟩), M42.bare.take 0⟩ | exact ⟨mayOB_t ((mayO_3 (by omega)).2 (by assumption)), M42.bare.take 0⟩ | exact ⟨mayOB_t ((mayO_4 (by omega)).2 ⟨by omega, by assumption⟩), M42.bare.take 0⟩ | exact ⟨mayOB_t ((mayO_5 (by omega)).2 ⟨by omega, by assumption⟩), M42.bare.take 0⟩
            · skip
              refine WS.op rfl rfl (WS.op rfl rfl (WS.nil [(2, _)] rfl ?_))
              refine WC.ret ?_
              refine ⟨[_], (res_tmp rfl res_nil), ?_⟩
              first | exact ⟨mayOB_f (fun q => by have q2 := (mayO_1 (by omega)).1 q; first | omega | exact absurd q2 (by assumption) | exact absurd q2.2 (by assumption) | exact absurd q2.2.2 (by assumption) | exact absurd (AllS4.2 q2.2.1) (of_decide_eq_false (by assumption))), M42.bare.take 0⟩ | exact ⟨mayOB_f (fun q => by have q2 := (mayO_2 (by omega)).1 q; first | omega | exact absurd q2 (by assumption) | exact absurd q2.2 (by assumption) | exact absurd q2.2.2 (by assumption) | exact absurd (AllS4.2 q2.2.1) (of_decide_eq_false (by assumption))), M42.bare.take 0⟩ | exact ⟨mayOB_f (fun q => by have q2 := (mayO_3 (by omega)).1 q; first | omega | exact absurd q2 (by assumption) | exact absurd q2.2 (by assumption) | exact absurd q2.2.2 (by assumption) | exact absurd (AllS4.2 q2.2.1) (of_decide_eq_false (by assumption))), M42.bare.take 0⟩ | exact ⟨mayOB_f (fun q => by have q2 := (mayO_4 (by omega)).1 q; first | omega | exact absurd q2 (by assumption) | exact absurd q2.2 (by assumption) | exact absurd q2.2.2 (by assumption) | exact absurd (AllS4.2 q2.2.1) (of_decide_eq_false (by assumption))), M42.bare.take 0⟩ | exact ⟨mayOB_f (fun q => by have q2 := (mayO_5 (by omega)).1 q; first | omega | exact absurd q2 (by assumption) | exact absurd q2.2 (by assumption) | exact absurd q2.2.2 (by assumption) | exact absurd (AllS4.2 q2.2.1) (of_decide_eq_false (by assumption))), M42.bare.take 0⟩ | exact ⟨mayOB_f (fun q => by have q2 := q.1; omega), M42.bare.take 0⟩
          · skip
            refine WS.op rfl rfl (WS.op rfl rfl (WS.nil [(3, _), (4, _)] rfl ?_))
            refine WC.run ?_
            refine WS.opV (.agg #[(.int .u8 (0 : Int)), (.int .u8 (0 : Int)), (.int .u8 (0 : Int)), (.int .u8 (0 : Int)), (.int .u8 (0 : Int)), (.int .u8 (0 : Int)), (.int .u8 (0 : Int)), (.int .u8 (0 : Int))]) rfl rfl rfl (WS.op rfl rfl ?_)
            refine WS.st1 (M10.focus 0 rfl) [_] [_, _, _, _, _, _, _, _, _, _, _, _, _, _, _, _] rfl rfl rfl rfl rfl (Nat.le_of_ble_eq_true rfl) (Nat.le_of_ble_eq_true rfl) rfl rfl ?_
            intro h43 M44
            replace M44 : Mem _ _ ([(p4, _)] :: [(p1, _)] :: []) _ := M44
            refine WS.op rfl rfl ?_
            refine WS.st1 (M44.focus 0 rfl) [_, _, _, _, _, _, _, _] [_, _, _, _, _, _, _, _, _, _, _, _, _, _, _, _] rfl rfl rfl rfl rfl (Nat.le_of_ble_eq_true rfl) (Nat.le_of_ble_eq_true rfl) rfl rfl ?_
            intro h45 M46
            replace M46 : Mem _ _ ([(p4, _)] :: [(p1, _)] :: []) _ := M46
            refine WS.op rfl rfl ?_
            refine WS.st1 (M46.focus 0 rfl) [_] [_, _, _, _, _, _, _, _, _, _, _, _, _, _, _, _] rfl rfl rfl rfl rfl (Nat.le_of_ble_eq_true rfl) (Nat.le_of_ble_eq_true rfl) rfl rfl ?_
            intro h47 M48
            replace M48 : Mem _ _ ([(p4, _)] :: [(p1, _)] :: []) _ := M48
            refine WS.nil [(3, _), (4, _)] rfl ?_
            refine WC.seq ?_
            refine WC.run ?_
            refine WS.op rfl rfl (WS.op rfl rfl (WS.off rfl (WS.off rfl (WS.off rfl (WS.op rfl rfl (WS.op rfl rfl (WS.nil [(2, _)] rfl ?_)))))))
            refine WC.ret ?_
            refine ⟨[_], (res_tmp rfl res_nil), ?_⟩
            first | exact ⟨mayOB_f (fun q => by have q2 := (mayO_1 (by omega)).1 q; first | omega | exact absurd q2 (by assumption) | exact absurd q2.2 (by assumption) | exact absurd q2.2.2 (by assumption) | exact absurd (AllS4.2 q2.2.1) (of_decide_eq_false (by assumption))), M48.bare.take 0⟩ | exact ⟨mayOB_f (fun q => by have q2 := (mayO_2 (by omega)).1 q; first | omega | exact absurd q2 (by assumption) | exact absurd q2.2 (by assumption) | exact absurd q2.2.2 (by assumption) | exact absurd (AllS4.2 q2.2.1) (of_decide_eq_false (by assumption))), M48.bare.take 0⟩ | exact ⟨mayOB_f (fun q => by have q2 := (mayO_3 (by omega)).1 q; first | omega | exact absurd q2 (by assumption) | exact absurd q2.2 (by assumption) | exact absurd q2.2.2 (by assumption) | exact absurd (AllS4.2 q2.2.1) (of_decide_eq_false (by assumption))), M48.bare.take 0⟩ | exact ⟨mayOB_f (fun q => by have q2 := (mayO_4 (by omega)).1 q; first | omega | exact absurd q2 (by assumption) | exact absurd q2.2 (by assumption) | exact absurd q2.2.2 (by assumption) | exact absurd (AllS4.2 q2.2.1) (of_decide_eq_false (by assumption))), M48.bare.take 0⟩ | exact ⟨mayOB_f (fun q => by have q2 := (mayO_5 (by omega)).1 q; first | omega | exact absurd q2 (by assumption) | exact absurd q2.2 (by assumption) | exact absurd q2.2.2 (by assumption) | exact absurd (AllS4.2 q2.2.1) (of_decide_eq_false (by assumption))), M48.bare.take 0⟩ | exact ⟨mayOB_f (fun q => by have q2 := q.1; omega), M48.bare.take 0⟩
        · skip
          refine WS.op rfl rfl (WS.op rfl rfl (WS.off rfl (WS.off rfl (WS.off rfl (WS.op rfl rfl (WS.op rfl rfl (WS.nil [(3, _), (4, _)] rfl ?_)))))))
          refine WC.run ?_
          refine WS.opV (.agg #[(.int .u8 (0 : Int)), (.int .u8 (0 : Int)), (.int .u8 (0 : Int)), (.int .u8 (0 : Int)), (.int .u8 (0 : Int)), (.int .u8 (0 : Int)), (.int .u8 (0 : Int)), (.int .u8 (0 : Int))]) rfl rfl rfl (WS.op rfl rfl ?_)
          refine WS.st1 (M10.focus 0 rfl) [_] [_, _, _, _, _, _, _, _, _, _, _, _, _, _, _, _] rfl rfl rfl rfl rfl (Nat.le_of_ble_eq_true rfl) (Nat.le_of_ble_eq_true rfl) rfl rfl ?_
          intro h49 M50
          replace M50 : Mem _ _ ([(p4, _)] :: [(p1, _)] :: []) _ := M50
          refine WS.op rfl rfl ?_
          refine WS.st1 (M50.focus 0 rfl) [_, _, _, _, _, _, _, _] [_, _, _, _, _, _, _, _, _, _, _, _, _, _, _, _] rfl rfl rfl rfl rfl (Nat.le_of_ble_eq_true rfl) (Nat.le_of_ble_eq_true rfl) rfl rfl ?_
          intro h51 M52
          replace M52 : Mem _ _ ([(p4, _)] :: [(p1, _)] :: []) _ := M52
          refine WS.op rfl rfl ?_
          refine WS.st1 (M52.focus 0 rfl) [_] [_, _, _, _, _, _, _, _, _, _, _, _, _, _, _, _] rfl rfl rfl rfl rfl (Nat.le_of_ble_eq_true rfl) (Nat.le_of_ble_eq_true rfl) rfl rfl ?_
          intro h53 M54
          replace M54 : Mem _ _ ([(p4, _)] :: [(p1, _)] :: []) _ := M54
          refine WS.nil [(3, _), (4, _)] rfl ?_
          refine WC.seq ?_
          refine WC.run ?_
          refine WS.op rfl rfl (WS.op rfl rfl (WS.off rfl (WS.off rfl (WS.off rfl (WS.op rfl rfl (WS.op rfl rfl (WS.nil [(2, _)] rfl ?_)))))))
          refine WC.ret ?_
          refine ⟨[_], (res_tmp rfl res_nil), ?_⟩
          first | exact ⟨mayOB_f (fun q => by have q2 := (mayO_1 (by omega)).1 q; first | omega | exact absurd q2 (by assumption) | exact absurd q2.2 (by assumption) | exact absurd q2.2.2 (by assumption) | exact absurd (AllS4.2 q2.2.1) (of_decide_eq_false (by assumption))), M54.bare.take 0⟩ | exact ⟨mayOB_f (fun q => by have q2 := (mayO_2 (by omega)).1 q; first | omega | exact absurd q2 (by assumption) | exact absurd q2.2 (by assumption) | exact absurd q2.2.2 (by assumption) | exact absurd (AllS4.2 q2.2.1) (of_decide_eq_false (by assumption))), M54.bare.take 0⟩ | exact ⟨mayOB_f (fun q => by have q2 := (mayO_3 (by omega)).1 q; first | omega | exact absurd q2 (by assumption) | exact absurd q2.2 (by assumption) | exact absurd q2.2.2 (by assumption) | exact absurd (AllS4.2 q2.2.1) (of_decide_eq_false (by assumption))), M54.bare.take 0⟩ | exact ⟨mayOB_f (fun q => by have q2 := (mayO_4 (by omega)).1 q; first | omega | exact absurd q2 (by assumption) | exact absurd q2.2 (by assumption) | exact absurd q2.2.2 (by assumption) | exact absurd (AllS4.2 q2.2.1) (of_decide_eq_false (by assumption))), M54.bare.take 0⟩ | exact ⟨mayOB_f (fun q => by have q2 := (mayO_5 (by omega)).1 q; first | omega | exact absurd q2 (by assumption) | exact absurd q2.2 (by assumption) | exact absurd q2.2.2 (by assumption) | exact absurd (AllS4.2 q2.2.1) (of_decide_eq_false (by assumption))), M54.bare.take 0⟩ | exact ⟨mayOB_f (fun q => by have q2 := q.1; omega), M54.bare.take 0⟩
      · skip
        refine WS.op rfl rfl (WS.off rfl (WS.off rfl (WS.off rfl (WS.op rfl rfl (WS.op rfl rfl (WS.off rfl (WS.off rfl (WS.off rfl (WS.op rfl rfl ?_)))))))))
        refine WS.op rfl rfl (WS.nil [(3, _), (4, _)] rfl ?_)
        refine WC.run ?_
        refine WS.opV (.agg #[(.int .u8 (0 : Int)), (.int .u8 (0 : Int)), (.int .u8 (0 : Int)), (.int .u8 (0 : Int)), (.int .u8 (0 : Int)), (.int .u8 (0 : Int)), (.int .u8 (0 : Int)), (.int .u8 (0 : Int))]) rfl rfl rfl (WS.op rfl rfl ?_)
        refine WS.st1 (M10.focus 0 rfl) [_] [_, _, _, _, _, _, _, _, _, _, _, _, _, _, _, _] rfl rfl rfl rfl rfl (Nat.le_of_ble_eq_true rfl) (Nat.le_of_ble_eq_true rfl) rfl rfl ?_
        intro h55 M56
        replace M56 : Mem _ _ ([(p4, _)] :: [(p1, _)] :: []) _ := M56
        refine WS.op rfl rfl ?_
        refine WS.st1 (M56.focus 0 rfl) [_, _, _, _, _, _, _, _] [_, _, _, _, _, _, _, _, _, _, _, _, _, _, _, _] rfl rfl rfl rfl rfl (Nat.le_of_ble_eq_true rfl) (Nat.le_of_ble_eq_true rfl) rfl rfl ?_
        intro h57 M58
        replace M58 : Mem _ _ ([(p4, _)] :: [(p1, _)] :: []) _ := M58
        refine WS.op rfl rfl ?_
        refine WS.st1 (M58.focus 0 rfl) [_] [_, _, _, _, _, _, _, _, _, _, _, _, _, _, _, _] rfl rfl rfl rfl rfl (Nat.le_of_ble_eq_true rfl) (Nat.le_of_ble_eq_true rfl) rfl rfl ?_
        intro h59 M60
        replace M60 : Mem _ _ ([(p4, _)] :: [(p1, _)] :: []) _ := M60
        refine WS.nil [(3, _), (4, _)] rfl ?_
        refine WC.seq ?_
        refine WC.run ?_
        refine WS.op rfl rfl (WS.op rfl rfl (WS.off rfl (WS.off rfl (WS.off rfl (WS.op rfl rfl (WS.op rfl rfl (WS.nil [(2, _)] rfl ?_)))))))
        refine WC.ret ?_
        refine ⟨[_], (res_tmp rfl res_nil), ?_⟩
        first | exact ⟨mayOB_f (fun q => by have q2 := (mayO_1 (by omega)).1 q; first | omega | exact absurd q2 (by assumption) | exact absurd q2.2 (by assumption) | exact absurd q2.2.2 (by assumption) | exact absurd (AllS4.2 q2.2.1) (of_decide_eq_false (by assumption))), M60.bare.take 0⟩ | exact ⟨mayOB_f (fun q => by have q2 := (mayO_2 (by omega)).1 q; first | omega | exact absurd q2 (by assumption) | exact absurd q2.2 (by assumption) | exact absurd q2.2.2 (by assumption) | exact absurd (AllS4.2 q2.2.1) (of_decide_eq_false (by assumption))), M60.bare.take 0⟩ | exact ⟨mayOB_f (fun q => by have q2 := (mayO_3 (by omega)).1 q; first | omega | exact absurd q2 (by assumption) | exact absurd q2.2 (by assumption) | exact absurd q2.2.2 (by assumption) | exact absurd (AllS4.2 q2.2.1) (of_decide_eq_false (by assumption))), M60.bare.take 0⟩ | exact ⟨mayOB_f (fun q => by have q2 := (mayO_4 (by omega)).1 q; first | omega | exact absurd q2 (by assumption) | exact absurd q2.2 (by assumption) | exact absurd q2.2.2 (by assumption) | exact absurd (AllS4.2 q2.2.1) (of_decide_eq_false (by assumption))), M60.bare.take 0⟩ | exact ⟨mayOB_f (fun q => by have q2 := (mayO_5 (by omega)).1 q; first | omega | exact absurd q2 (by assumption) | exact absurd q2.2 (by assumption) | exact absurd q2.2.2 (by assumption) | exact absurd (AllS4.2 q2.2.1) (of_decide_eq_false (by assumption))), M60.bare.take 0⟩ | exact ⟨mayOB_f (fun q => by have q2 := q.1; omega), M60.bare.take 0⟩
    · skip
      refine WS.op rfl rfl (WS.nil [(1, _), (3, _), (4, _), (8, _), (31, _)] rfl ?_)
      refine WC.condF rfl ?_
      refine WC.seq ?_
      refine WC.run ?_
      refine WS.eqlN (a := (o.op).toNat) (b := 3) rfl rfl rfl (fun e51 => ?_) (fun e51 => ?_)
      · skip
        refine WS.op rfl rfl (WS.nil [(1, _), (3, _), (4, _), (8, _), (50, _)] rfl ?_)
        refine WC.condT rfl ?_
        refine WC.run ?_
        refine WS.opV (.agg #[(.int .u8 (0 : Int)), (.int .u8 (0 : Int)), (.int .u8 (0 : Int)), (.int .u8 (0 : Int)), (.int .u8 (0 : Int)), (.int .u8 (0 : Int)), (.int .u8 (0 : Int)), (.int .u8 (0 : Int))]) rfl rfl rfl (WS.op rfl rfl ?_)
        refine WS.st1 (M10.focus 0 rfl) [_, _, _, _, _, _, _, _] [_, _, _, _, _, _, _, _, _, _, _, _, _, _, _, _] rfl rfl rfl rfl rfl (Nat.le_of_ble_eq_true rfl) (Nat.le_of_ble_eq_true rfl) rfl rfl ?_
        intro h61 M62
        replace M62 : Mem _ _ ([(p4, _)] :: [(p1, _)] :: []) _ := M62
        refine WS.nil [(3, _), (4, _)] rfl ?_
        refine WC.seq ?_
        refine WC.run ?_
        refine WS.op rfl rfl (WS.op rfl rfl (WS.op rfl (op_lds [_, _, _, _, _, _, _, _, _, _, _, _, _, _, _, _] (M62.at 0 rfl) rfl (Nat.le_of_ble_eq_true rfl) rfl) (WS.opV (.agg #[(.int .u8 (0 : Int)), (.int .u8 (0 : Int)), (.int .u8 (0 : Int)), (.int .u8 (0 : Int)), (.int .u8 (0 : Int)), (.int .u8 (0 : Int)), (.int .u8 (0 : Int)), (.int .u8 (0 : Int)), (.int .u8 (0 : Int)), (.int .u8 (0 : Int)), (.int .u8 (0 : Int)), (.int .i64 (0 : Int)), (.int .i64 (0 : Int)), (.int .i64 (0 : Int)), (.int .i64 (0 : Int)), (.int .u8 (0 : Int))]) rfl rfl rfl ?_)))
        refine WS.eqqD (p := (⟨0, o.sl, 0, 0, 0, 0, 0, 0, 0, 0, o.ro, o.ks, o.bt, o.ra, o.bu, o.nd⟩ : Oper) = (⟨0, 0, 0, 0, 0, 0, 0, 0, 0, 0, 0, 0, 0, 0, 0, 0⟩ : Oper)) rfl rfl rfl (Oper_eqV (⟨0, o.sl, 0, 0, 0, 0, 0, 0, 0, 0, o.ro, o.ks, o.bt, o.ra, o.bu, o.nd⟩ : Oper) (⟨0, 0, 0, 0, 0, 0, 0, 0, 0, 0, 0, 0, 0, 0, 0, 0⟩ : Oper)) (fun e77 => ?_) (fun e77 => ?_)
        · skip
          refine WS.op rfl rfl (WS.op rfl rfl (WS.nil [(2, _)] rfl ?_))
          refine WC.ret ?_
          refine ⟨[_], (res_tmp rfl res_nil), ?_⟩
          first | exact ⟨mayOB_t ((mayO_1 (by omega)).2 ⟨by omega, AllS4.1 (of_decide_eq_true (by assumption)), by assumption⟩), M62.bare.take 0⟩ | exact ⟨mayOB_t ((mayO_2 (by omega)).2 ⟨by omega, by omega, by assumption⟩), M62.bare.take 0⟩ | exact ⟨mayOB_t ((mayO_3 (by omega)).2 (by assumption)), M62.bare.take 0⟩ | exact ⟨mayOB_t ((mayO_4 (by omega)).2 ⟨by omega, by assumption⟩), M62.bare.take 0⟩ | exact ⟨mayOB_t ((mayO_5 (by omega)).2 ⟨by omega, by assumption⟩), M62.bare.take 0⟩
        · skip
          refine WS.op rfl rfl (WS.op rfl rfl (WS.nil [(2, _)] rfl ?_))
          refine WC.ret ?_
          refine ⟨[_], (res_tmp rfl res_nil), ?_⟩
          first | exact ⟨mayOB_f (fun q => by have q2 := (mayO_1 (by omega)).1 q; first | omega | exact absurd q2 (by assumption) | exact absurd q2.2 (by assumption) | exact absurd q2.2.2 (by assumption) | exact absurd (AllS4.2 q2.2.1) (of_decide_eq_false (by assumption))), M62.bare.take 0⟩ | exact ⟨mayOB_f (fun q => by have q2 := (mayO_2 (by omega)).1 q; first | omega | exact absurd q2 (by assumption) | exact absurd q2.2 (by assumption) | exact absurd q2.2.2 (by assumption) | exact absurd (AllS4.2 q2.2.1) (of_decide_eq_false (by assumption))), M62.bare.take 0⟩ | exact ⟨mayOB_f (fun q => by have q2 := (mayO_3 (by omega)).1 q; first | omega | exact absurd q2 (by assumption) | exact absurd q2.2 (by assumption) | exact absurd q2.2.2 (by assumption) | exact absurd (AllS4.2 q2.2.1) (of_decide_eq_false (by assumption))), M62.bare.take 0⟩ | exact ⟨mayOB_f (fun q => by have q2 := (mayO_4 (by omega)).1 q; first | omega | exact absurd q2 (by assumption) | exact absurd q2.2 (by assumption) | exact absurd q2.2.2 (by assumption) | exact absurd (AllS4.2 q2.2.1) (of_decide_eq_false (by assumption))), M62.bare.take 0⟩ | exact ⟨mayOB_f (fun q => by have q2 := (mayO_5 (by omega)).1 q; first | omega | exact absurd q2 (by assumption) | exact absurd q2.2 (by assumption) | exact absurd q2.2.2 (by assumption) | exact absurd (AllS4.2 q2.2.1) (of_decide_eq_false (by assumption))), M62.bare.take 0⟩ | exact ⟨mayOB_f (fun q => by have q2 := q.1; omega), M62.bare.take 0⟩
      · skip
        refine WS.op rfl rfl (WS.nil [(1, _), (3, _), (4, _), (8, _), (50, _)] rfl ?_)
        refine WC.condF rfl ?_
        refine WC.seq ?_
        refine WC.run ?_
        refine WS.eqlN (a := (o.op).toNat) (b := 4) rfl rfl rfl (fun e55 => ?_) (fun e55 => ?_)
        · skip
          refine WS.op rfl rfl (WS.nil [(1, _), (3, _), (8, _), (54, _)] rfl ?_)
          refine WC.condT rfl ?_
          refine WC.seq ?_
          refine WC.run ?_
          refine WS.op rfl rfl (WS.op rfl (op_ld (M10.at 1 rfl) rfl rfl) ?_)
          refine WS.lssN (a := (o.sl).toNat) (b := 4) rfl rfl rfl (fun e58 => ?_) (fun e58 => ?_)
          · skip
            refine WS.op rfl rfl (WS.nil [(3, _), (4, _)] rfl ?_)
            refine WC.run ?_
            refine WS.op rfl rfl ?_
            refine WS.st1 (M10.focus 0 rfl) [_] [_, _, _, _, _, _, _, _, _, _, _, _, _, _, _, _] rfl rfl rfl rfl rfl (Nat.le_of_ble_eq_true rfl) (Nat.le_of_ble_eq_true rfl) rfl rfl ?_
            intro h63 M64
            replace M64 : Mem _ _ ([(p4, _)] :: [(p1, _)] :: []) _ := M64
            refine WS.nil [(3, _), (4, _)] rfl ?_
            refine WC.seq ?_
            refine WC.run ?_
            refine WS.op rfl rfl (WS.op rfl rfl (WS.op rfl (op_lds [_, _, _, _, _, _, _, _, _, _, _, _, _, _, _, _] (M64.at 0 rfl) rfl (Nat.le_of_ble_eq_true rfl) rfl) (WS.opV (.agg #[(.int .u8 (0 : Int)), (.int .u8 (0 : Int)), (.int .u8 (0 : Int)), (.int .u8 (0 : Int)), (.int .u8 (0 : Int)), (.int .u8 (0 : Int)), (.int .u8 (0 : Int)), (.int .u8 (0 : Int)), (.int .u8 (0 : Int)), (.int .u8 (0 : Int)), (.int .u8 (0 : Int)), (.int .i64 (0 : Int)), (.int .i64 (0 : Int)), (.int .i64 (0 : Int)), (.int .i64 (0 : Int)), (.int .u8 (0 : Int))]) rfl rfl rfl ?_)))
            refine WS.eqqD (p := (⟨0, 0, o.t0, o.t1, o.t2, o.t3, o.t4, o.t5, o.t6, o.t7, o.ro, o.ks, o.bt, o.ra, o.bu, o.nd⟩ : Oper) = (⟨0, 0, 0, 0, 0, 0, 0, 0, 0, 0, 0, 0, 0, 0, 0, 0⟩ : Oper)) rfl rfl rfl (Oper_eqV (⟨0, 0, o.t0, o.t1, o.t2, o.t3, o.t4, o.t5, o.t6, o.t7, o.ro, o.ks, o.bt, o.ra, o.bu, o.nd⟩ : Oper) (⟨0, 0, 0, 0, 0, 0, 0, 0, 0, 0, 0, 0, 0, 0, 0, 0⟩ : Oper)) (fun e77 => ?_) (fun e77 => ?_)
            · skip
              refine WS.op rfl rfl (WS.op rfl rfl (WS.nil [(2, _)] rfl ?_))
              refine WC.ret ?_
              refine ⟨[_], (res_tmp rfl res_nil), ?_⟩
              first | exact ⟨mayOB_t ((mayO_1 (by omega)).2 ⟨by omega, AllS4.1 (of_decide_eq_true (by assumption)), by assumption⟩), M64.bare.take 0⟩ | exact ⟨mayOB_t ((mayO_2 (by omega)).2 ⟨by omega, by omega, by assumption⟩), M64.bare.take 0⟩ | exact ⟨mayOB_t ((mayO_3 (by omega)).2 (by assumption)), M64.bare.take 0⟩ | exact ⟨mayOB_t ((mayO_4 (by omega)).2 ⟨by omega, by assumption⟩), M64.bare.take 0⟩ | exact ⟨mayOB_t ((mayO_5 (by omega)).2 ⟨by omega, by assumption⟩), M64.bare.take 0⟩
            · skip
              refine WS.op rfl rfl (WS.op rfl rfl (WS.nil [(2, _)] rfl ?_))
              refine WC.ret ?_
              refine ⟨[_], (res_tmp rfl res_nil), ?_⟩
              first | exact ⟨mayOB_f (fun q => by have q2 := (mayO_1 (by omega)).1 q; first | omega | exact absurd q2 (by assumption) | exact absurd q2.2 (by assumption) | exact absurd q2.2.2 (by assumption) | exact absurd (AllS4.2 q2.2.1) (of_decide_eq_false (by assumption))), M64.bare.take 0⟩ | exact ⟨mayOB_f (fun q => by have q2 := (mayO_2 (by omega)).1 q; first | omega | exact absurd q2 (by assumption) | exact absurd q2.2 (by assumption) | exact absurd q2.2.2 (by assumption) | exact absurd (AllS4.2 q2.2.1) (of_decide_eq_false (by assumption))), M64.bare.take 0⟩ | exact ⟨mayOB_f (fun q => by have q2 := (mayO_3 (by omega)).1 q; first | omega | exact absurd q2 (by assumption) | exact absurd q2.2 (by assumption) | exact absurd q2.2.2 (by assumption) | exact absurd (AllS4.2 q2.2.1) (of_decide_eq_false (by assumption))), M64.bare.take 0⟩ | exact ⟨mayOB_f (fun q => by have q2 := (mayO_4 (by omega)).1 q; first | omega | exact absurd q2 (by assumption) | exact absurd q2.2 (by assumption) | exact absurd q2.2.2 (by assumption) | exact absurd (AllS4.2 q2.2.1) (of_decide_eq_false (by assumption))), M64.bare.take 0⟩ | exact ⟨mayOB_f (fun q => by have q2 := (mayO_5 (by omega)).1 q; first | omega | exact absurd q2 (by assumption) | exact absurd q2.2 (by assumption) | exact absurd q2.2.2 (by assumption) | exact absurd (AllS4.2 q2.2.1) (of_decide_eq_false (by assumption))), M64.bare.take 0⟩ | exact ⟨mayOB_f (fun q => by have q2 := q.1; omega), M64.bare.take 0⟩
          · skip
            refine WS.op rfl rfl (WS.nil [(3, _), (4, _)] rfl ?_)
            refine WC.run ?_
            refine WS.op rfl rfl ?_
            refine WS.st1 (M10.focus 0 rfl) [_] [_, _, _, _, _, _, _, _, _, _, _, _, _, _, _, _] rfl rfl rfl rfl rfl (Nat.le_of_ble_eq_true rfl) (Nat.le_of_ble_eq_true rfl) rfl rfl ?_
            intro h65 M66
            replace M66 : Mem _ _ ([(p4, _)] :: [(p1, _)] :: []) _ := M66
            refine WS.nil [(3, _), (4, _)] rfl ?_
            refine WC.seq ?_
            refine WC.run ?_
            refine WS.op rfl rfl (WS.op rfl rfl (WS.off rfl (WS.off rfl (WS.off rfl (WS.op rfl rfl (WS.op rfl rfl (WS.nil [(2, _)] rfl ?_)))))))
            refine WC.ret ?_
            refine ⟨[_], (res_tmp rfl res_nil), ?_⟩
            first | exact ⟨mayOB_f (fun q => by have q2 := (mayO_1 (by omega)).1 q; first | omega | exact absurd q2 (by assumption) | exact absurd q2.2 (by assumption) | exact absurd q2.2.2 (by assumption) | exact absurd (AllS4.2 q2.2.1) (of_decide_eq_false (by assumption))), M66.bare.take 0⟩ | exact ⟨mayOB_f (fun q => by have q2 := (mayO_2 (by omega)).1 q; first | omega | exact absurd q2 (by assumption) | exact absurd q2.2 (by assumption) | exact absurd q2.2.2 (by assumption) | exact absurd (AllS4.2 q2.2.1) (of_decide_eq_false (by assumption))), M66.bare.take 0⟩ | exact ⟨mayOB_f (fun q => by have q2 := (mayO_3 (by omega)).1 q; first | omega | exact absurd q2 (by assumption) | exact absurd q2.2 (by assumption) | exact absurd q2.2.2 (by assumption) | exact absurd (AllS4.2 q2.2.1) (of_decide_eq_false (by assumption))), M66.bare.take 0⟩ | exact ⟨mayOB_f (fun q => by have q2 := (mayO_4 (by omega)).1 q; first | omega | exact absurd q2 (by assumption) | exact absurd q2.2 (by assumption) | exact absurd q2.2.2 (by assumption) | exact absurd (AllS4.2 q2.2.1) (of_decide_eq_false (by assumption))), M66.bare.take 0⟩ | exact ⟨mayOB_f (fun q => by have q2 := (mayO_5 (by omega)).1 q; first | omega | exact absurd q2 (by assumption) | exact absurd q2.2 (by assumption) | exact absurd q2.2.2 (by assumption) | exact absurd (AllS4.2 q2.2.1) (of_decide_eq_false (by assumption))), M66.bare.take 0⟩ | exact ⟨mayOB_f (fun q => by have q2 := q.1; omega), M66.bare.take 0⟩
        · skip
          refine WS.op rfl rfl (WS.nil [(1, _), (3, _), (8, _), (54, _)] rfl ?_)
          refine WC.condF rfl ?_
          refine WC.seq ?_
          refine WC.seq ?_
          refine WC.run ?_
          refine WS.eqlN (a := (o.op).toNat) (b := 5) rfl rfl rfl (fun e61 => ?_) (fun e61 => ?_)
          · skip
            refine WS.op rfl rfl (WS.nil [(1, _), (3, _), (8, _), (60, _)] rfl ?_)
            refine WC.condT rfl ?_
            refine WC.skip ?_
            refine WC.condT rfl ?_
            refine WC.seq ?_
            refine WC.run ?_
            refine WS.op rfl rfl (WS.op rfl (op_ld (M10.at 1 rfl) rfl rfl) ?_)
            refine WS.geqN (a := (o.nd).toNat) (b := 1) rfl rfl rfl (fun e66 => ?_) (fun e66 => ?_)
            · skip
              refine WS.op rfl rfl (WS.op rfl rfl (WS.op rfl (op_ld (M10.at 1 rfl) rfl rfl) ?_))
              refine WS.leqN (a := (o.nd).toNat) (b := 5) rfl rfl rfl (fun e70 => ?_) (fun e70 => ?_)
              · skip
                refine WS.op rfl rfl (WS.op rfl rfl (WS.nil [(3, _), (4, _)] rfl ?_))
                refine WC.run ?_
                refine WS.op rfl rfl ?_
                refine WS.st1 (M10.focus 0 rfl) [_] [_, _, _, _, _, _, _, _, _, _, _, _, _, _, _, _] rfl rfl rfl rfl rfl (Nat.le_of_ble_eq_true rfl) (Nat.le_of_ble_eq_true rfl) rfl rfl ?_
                intro h67 M68
                replace M68 : Mem _ _ ([(p4, _)] :: [(p1, _)] :: []) _ := M68
                refine WS.nil [(3, _), (4, _)] rfl ?_
                refine WC.seq ?_
                refine WC.run ?_
                refine WS.op rfl rfl (WS.op rfl rfl (WS.op rfl (op_lds [_, _, _, _, _, _, _, _, _, _, _, _, _, _, _, _] (M68.at 0 rfl) rfl (Nat.le_of_ble_eq_true rfl) rfl) (WS.opV (.agg #[(.int .u8 (0 : Int)), (.int .u8 (0 : Int)), (.int .u8 (0 : Int)), (.int .u8 (0 : Int)), (.int .u8 (0 : Int)), (.int .u8 (0 : Int)), (.int .u8 (0 : Int)), (.int .u8 (0 : Int)), (.int .u8 (0 : Int)), (.int .u8 (0 : Int)), (.int .u8 (0 : Int)), (.int .i64 (0 : Int)), (.int .i64 (0 : Int)), (.int .i64 (0 : Int)), (.int .i64 (0 : Int)), (.int .u8 (0 : Int))]) rfl rfl rfl ?_)))
                refine WS.eqqD (p := (⟨0, o.sl, o.t0, o.t1, o.t2, o.t3, o.t4, o.t5, o.t6, o.t7, o.ro, o.ks, o.bt, o.ra, o.bu, 0⟩ : Oper) = (⟨0, 0, 0, 0, 0, 0, 0, 0, 0, 0, 0, 0, 0, 0, 0, 0⟩ : Oper)) rfl rfl rfl (Oper_eqV (⟨0, o.sl, o.t0, o.t1, o.t2, o.t3, o.t4, o.t5, o.t6, o.t7, o.ro, o.ks, o.bt, o.ra, o.bu, 0⟩ : Oper) (⟨0, 0, 0, 0, 0, 0, 0, 0, 0, 0, 0, 0, 0, 0, 0, 0⟩ : Oper)) (fun e77 => ?_) (fun e77 => ?_)
                · skip
                  refine WS.op rfl rfl (WS.op rfl rfl (WS.nil [(2, _)] rfl ?_))
                  refine WC.ret ?_
                  refine ⟨[_], (res_tmp rfl res_nil), ?_⟩
                  first | exact ⟨mayOB_t ((mayO_1 (by omega)).2 ⟨by omega, AllS4.1 (of_decide_eq_true (by assumption)), by assumption⟩), M68.bare.take 0⟩ | exact ⟨mayOB_t ((mayO_2 (by omega)).2 ⟨by omega, by omega, by assumption⟩), M68.bare.take 0⟩ | exact ⟨mayOB_t ((mayO_3 (by omega)).2 (by assumption)), M68.bare.take 0⟩ | exact ⟨mayOB_t ((mayO_4 (by omega)).2 ⟨by omega, by assumption⟩), M68.bare.take 0⟩ | exact ⟨mayOB_t ((mayO_5 (by omega)).2 ⟨by omega, by assumption⟩), M68.bare.take 0⟩
                · skip
                  refine WS.op rfl rfl (WS.op rfl rfl (WS.nil [(2, _)] rfl ?_))
                  refine WC.ret ?_
                  refine ⟨[_], (res_tmp rfl res_nil), ?_⟩
                  first | exact ⟨mayOB_f (fun q => by have q2 := (mayO_1 (by omega)).1 q; first | omega | exact absurd q2 (by assumption) | exact absurd q2.2 (by assumption) | exact absurd q2.2.2 (by assumption) | exact absurd (AllS4.2 q2.2.1) (of_decide_eq_false (by assumption))), M68.bare.take 0⟩ | exact ⟨mayOB_f (fun q => by have q2 := (mayO_2 (by omega)).1 q; first | omega | exact absurd q2 (by assumption) | exact absurd q2.2 (by assumption) | exact absurd q2.2.2 (by assumption) | exact absurd (AllS4.2 q2.2.1) (of_decide_eq_false (by assumption))), M68.bare.take 0⟩ | exact ⟨mayOB_f (fun q => by have q2 := (mayO_3 (by omega)).1 q; first | omega | exact absurd q2 (by assumption) | exact absurd q2.2 (by assumption) | exact absurd q2.2.2 (by assumption) | exact absurd (AllS4.2 q2.2.1) (of_decide_eq_false (by assumption))), M68.bare.take 0⟩ | exact ⟨mayOB_f (fun q => by have q2 := (mayO_4 (by omega)).1 q; first | omega | exact absurd q2 (by assumption) | exact absurd q2.2 (by assumption) | exact absurd q2.2.2 (by assumption) | exact absurd (AllS4.2 q2.2.1) (of_decide_eq_false (by assumption))), M68.bare.take 0⟩ | exact ⟨mayOB_f (fun q => by have q2 := (mayO_5 (by omega)).1 q; first | omega | exact absurd q2 (by assumption) | exact absurd q2.2 (by assumption) | exact absurd q2.2.2 (by assumption) | exact absurd (AllS4.2 q2.2.1) (of_decide_eq_false (by assumption))), M68.bare.take 0⟩ | exact ⟨mayOB_f (fun q => by have q2 := q.1; omega), M68.bare.take 0⟩
              · skip
                refine WS.op rfl rfl (WS.op rfl rfl (WS.nil [(3, _), (4, _)] rfl ?_))
                refine WC.run ?_
                refine WS.op rfl rfl ?_
                refine WS.st1 (M10.focus 0 rfl) [_] [_, _, _, _, _, _, _, _, _, _, _, _, _, _, _, _] rfl rfl rfl rfl rfl (Nat.le_of_ble_eq_true rfl) (Nat.le_of_ble_eq_true rfl) rfl rfl ?_
                intro h69 M70
                replace M70 : Mem _ _ ([(p4, _)] :: [(p1, _)] :: []) _ := M70
                refine WS.nil [(3, _), (4, _)] rfl ?_
                refine WC.seq ?_
                refine WC.run ?_
                refine WS.op rfl rfl (WS.op rfl rfl (WS.off rfl (WS.off rfl (WS.off rfl (WS.op rfl rfl (WS.op rfl rfl (WS.nil [(2, _)] rfl ?_)))))))
                refine WC.ret ?_
                refine ⟨[_], (res_tmp rfl res_nil), ?_⟩
                first | exact ⟨mayOB_f (fun q => by have q2 := (mayO_1 (by omega)).1 q; first | omega | exact absurd q2 (by assumption) | exact absurd q2.2 (by assumption) | exact absurd q2.2.2 (by assumption) | exact absurd (AllS4.2 q2.2.1) (of_decide_eq_false (by assumption))), M70.bare.take 0⟩ | exact ⟨mayOB_f (fun q => by have q2 := (mayO_2 (by omega)).1 q; first | omega | exact absurd q2 (by assumption) | exact absurd q2.2 (by assumption) | exact absurd q2.2.2 (by assumption) | exact absurd (AllS4.2 q2.2.1) (of_decide_eq_false (by assumption))), M70.bare.take 0⟩ | exact ⟨mayOB_f (fun q => by have q2 := (mayO_3 (by omega)).1 q; first | omega | exact absurd q2 (by assumption) | exact absurd q2.2 (by assumption) | exact absurd q2.2.2 (by assumption) | exact absurd (AllS4.2 q2.2.1) (of_decide_eq_false (by assumption))), M70.bare.take 0⟩ | exact ⟨mayOB_f (fun q => by have q2 := (mayO_4 (by omega)).1 q; first | omega | exact absurd q2 (by assumption) | exact absurd q2.2 (by assumption) | exact absurd q2.2.2 (by assumption) | exact absurd (AllS4.2 q2.2.1) (of_decide_eq_false (by assumption))), M70.bare.take 0⟩ | exact ⟨mayOB_f (fun q => by have q2 := (mayO_5 (by omega)).1 q; first | omega | exact absurd q2 (by assumption) | exact absurd q2.2 (by assumption) | exact absurd q2.2.2 (by assumption) | exact absurd (AllS4.2 q2.2.1) (of_decide_eq_false (by assumption))), M70.bare.take 0⟩ | exact ⟨mayOB_f (fun q => by have q2 := q.1; omega), M70.bare.take 0⟩
            · skip
              refine WS.op rfl rfl (WS.off rfl (WS.off rfl (WS.off rfl (WS.op rfl rfl (WS.op rfl rfl (WS.nil [(3, _), (4, _)] rfl ?_))))))
              refine WC.run ?_
              refine WS.op rfl rfl ?_
              refine WS.st1 (M10.focus 0 rfl) [_] [_, _, _, _, _, _, _, _, _, _, _, _, _, _, _, _] rfl rfl rfl rfl rfl (Nat.le_of_ble_eq_true rfl) (Nat.le_of_ble_eq_true rfl) rfl rfl ?_
              intro h71 M72
              replace M72 : Mem _ _ ([(p4, _)] :: [(p1, _)] :: []) _ := M72
              refine WS.nil [(3, _), (4, _)] rfl ?_
              refine WC.seq ?_
              refine WC.run ?_
              refine WS.op rfl rfl (WS.op rfl rfl (WS.off rfl (WS.off rfl (WS.off rfl (WS.op rfl rfl (WS.op rfl rfl (WS.nil [(2, _)] rfl ?_)))))))
              refine WC.ret ?_
              refine ⟨[_], (res_tmp rfl res_nil), ?_⟩
              first | exact ⟨mayOB_f (fun q => by have q2 := (mayO_1 (by omega)).1 q; first | omega | exact absurd q2 (by assumption) | exact absurd q2.2 (by assumption) | exact absurd q2.2.2 (by assumption) | exact absurd (AllS4.2 q2.2.1) (of_decide_eq_false (by assumption))), M72.bare.take 0⟩ | exact ⟨mayOB_f (fun q => by have q2 := (mayO_2 (by omega)).1 q; first | omega | exact absurd q2 (by assumption) | exact absurd q2.2 (by assumption) | exact absurd q2.2.2 (by assumption) | exact absurd (AllS4.2 q2.2.1) (of_decide_eq_false (by assumption))), M72.bare.take 0⟩ | exact ⟨mayOB_f (fun q => by have q2 := (mayO_3 (by omega)).1 q; first | omega | exact absurd q2 (by assumption) | exact absurd q2.2 (by assumption) | exact absurd q2.2.2 (by assumption) | exact absurd (AllS4.2 q2.2.1) (of_decide_eq_false (by assumption))), M72.bare.take 0⟩ | exact ⟨mayOB_f (fun q => by have q2 := (mayO_4 (by omega)).1 q; first | omega | exact absurd q2 (by assumption) | exact absurd q2.2 (by assumption) | exact absurd q2.2.2 (by assumption) | exact absurd (AllS4.2 q2.2.1) (of_decide_eq_false (by assumption))), M72.bare.take 0⟩ | exact ⟨mayOB_f (fun q => by have q2 := (mayO_5 (by omega)).1 q; first | omega | exact absurd q2 (by assumption) | exact absurd q2.2 (by assumption) | exact absurd q2.2.2 (by assumption) | exact absurd (AllS4.2 q2.2.1) (of_decide_eq_false (by assumption))), M72.bare.take 0⟩ | exact ⟨mayOB_f (fun q => by have q2 := q.1; omega), M72.bare.take 0⟩
          · skip
            refine WS.op rfl rfl (WS.nil [(1, _), (3, _), (8, _), (60, _)] rfl ?_)
            refine WC.condF rfl ?_
            refine WC.seq ?_
            refine WC.run ?_
            refine WS.eqlN (a := (o.op).toNat) (b := 6) rfl rfl rfl (fun e62 => ?_) (fun e62 => ?_)
            · skip
              refine WS.op rfl rfl (WS.nil [(1, _), (3, _), (8, _), (60, _)] rfl ?_)
              refine WC.condT rfl ?_
              refine WC.skip ?_
              refine WC.condT rfl ?_
              refine WC.seq ?_
              refine WC.run ?_
              refine WS.op rfl rfl (WS.op rfl (op_ld (M10.at 1 rfl) rfl rfl) ?_)
              refine WS.geqN (a := (o.nd).toNat) (b := 1) rfl rfl rfl (fun e66 => ?_) (fun e66 => ?_)
              · skip
                refine WS.op rfl rfl (WS.op rfl rfl (WS.op rfl (op_ld (M10.at 1 rfl) rfl rfl) ?_))
                refine WS.leqN (a := (o.nd).toNat) (b := 5) rfl rfl rfl (fun e70 => ?_) (fun e70 => ?_)
                · skip
                  refine WS.op rfl rfl (WS.op rfl rfl (WS.nil [(3, _), (4, _)] rfl ?_))
                  refine WC.run ?_
                  refine WS.op rfl rfl ?_
                  refine WS.st1 (M10.focus 0 rfl) [_] [_, _, _, _, _, _, _, _, _, _, _, _, _, _, _, _] rfl rfl rfl rfl rfl (Nat.le_of_ble_eq_true rfl) (Nat.le_of_ble_eq_true rfl) rfl rfl ?_
                  intro h73 M74
                  replace M74 : Mem _ _ ([(p4, _)] :: [(p1, _)] :: []) _ := M74
                  refine WS.nil [(3, _), (4, _)] rfl ?_
                  refine WC.seq ?_
                  refine WC.run ?_
                  refine WS.op rfl rfl (WS.op rfl rfl (WS.op rfl (op_lds [_, _, _, _, _, _, _, _, _, _, _, _, _, _, _, _] (M74.at 0 rfl) rfl (Nat.le_of_ble_eq_true rfl) rfl) (WS.opV (.agg #[(.int .u8 (0 : Int)), (.int .u8 (0 : Int)), (.int .u8 (0 : Int)), (.int .u8 (0 : Int)), (.int .u8 (0 : Int)), (.int .u8 (0 : Int)), (.int .u8 (0 : Int)), (.int .u8 (0 : Int)), (.int .u8 (0 : Int)), (.int .u8 (0 : Int)), (.int .u8 (0 : Int)), (.int .i64 (0 : Int)), (.int .i64 (0 : Int)), (.int .i64 (0 : Int)), (.int .i64 (0 : Int)), (.int .u8 (0 : Int))]) rfl rfl rfl ?_)))
                  refine WS.eqqD (p := (⟨0, o.sl, o.t0, o.t1, o.t2, o.t3, o.t4, o.t5, o.t6, o.t7, o.ro, o.ks, o.bt, o.ra, o.bu, 0⟩ : Oper) = (⟨0, 0, 0, 0, 0, 0, 0, 0, 0, 0, 0, 0, 0, 0, 0, 0⟩ : Oper)) rfl rfl rfl (Oper_eqV (⟨0, o.sl, o.t0, o.t1, o.t2, o.t3, o.t4, o.t5, o.t6, o.t7, o.ro, o.ks, o.bt, o.ra, o.bu, 0⟩ : Oper) (⟨0, 0, 0, 0, 0, 0, 0, 0, 0, 0, 0, 0, 0, 0, 0, 0⟩ : Oper)) (fun e77 => ?_) (fun e77 => ?_)
                  · skip
                    refine WS.op rfl rfl (WS.op rfl rfl (WS.nil [(2, _)] rfl ?_))
                    refine WC.ret ?_
                    refine ⟨[_], (res_tmp rfl res_nil), ?_⟩
                    first | exact ⟨mayOB_t ((mayO_1 (by omega)).2 ⟨by omega, AllS4.1 (of_decide_eq_true (by assumption)), by assumption⟩), M74.bare.take 0⟩ | exact ⟨mayOB_t ((mayO_2 (by omega)).2 ⟨by omega, by omega, by assumption⟩), M74.bare.take 0⟩ | exact ⟨mayOB_t ((mayO_3 (by omega)).2 (by assumption)), M74.bare.take 0⟩ | exact ⟨mayOB_t ((mayO_4 (by omega)).2 ⟨by omega, by assumption⟩), M74.bare.take 0⟩ | exact ⟨mayOB_t ((mayO_5 (by omega)).2 ⟨by omega, by assumption⟩), M74.bare.take 0⟩
                  · skip
                    refine WS.op rfl rfl (WS.op rfl rfl (WS.nil [(2, _)] rfl ?_))
                    refine WC.ret ?_
                    refine ⟨[_], (res_tmp rfl res_nil), ?_⟩
                    first | exact ⟨mayOB_f (fun q => by have q2 := (mayO_1 (by omega)).1 q; first | omega | exact absurd q2 (by assumption) | exact absurd q2.2 (by assumption) | exact absurd q2.2.2 (by assumption) | exact absurd (AllS4.2 q2.2.1) (of_decide_eq_false (by assumption))), M74.bare.take 0⟩ | exact ⟨mayOB_f (fun q => by have q2 := (mayO_2 (by omega)).1 q; first | omega | exact absurd q2 (by assumption) | exact absurd q2.2 (by assumption) | exact absurd q2.2.2 (by assumption) | exact absurd (AllS4.2 q2.2.1) (of_decide_eq_false (by assumption))), M74.bare.take 0⟩ | exact ⟨mayOB_f (fun q => by have q2 := (mayO_3 (by omega)).1 q; first | omega | exact absurd q2 (by assumption) | exact absurd q2.2 (by assumption) | exact absurd q2.2.2 (by assumption) | exact absurd (AllS4.2 q2.2.1) (of_decide_eq_false (by assumption))), M74.bare.take 0⟩ | exact ⟨mayOB_f (fun q => by have q2 := (mayO_4 (by omega)).1 q; first | omega | exact absurd q2 (by assumption) | exact absurd q2.2 (by assumption) | exact absurd q2.2.2 (by assumption) | exact absurd (AllS4.2 q2.2.1) (of_decide_eq_false (by assumption))), M74.bare.take 0⟩ | exact ⟨mayOB_f (fun q => by have q2 := (mayO_5 (by omega)).1 q; first | omega | exact absurd q2 (by assumption) | exact absurd q2.2 (by assumption) | exact absurd q2.2.2 (by assumption) | exact absurd (AllS4.2 q2.2.1) (of_decide_eq_false (by assumption))), M74.bare.take 0⟩ | exact ⟨mayOB_f (fun q => by have q2 := q.1; omega), M74.bare.take 0⟩
                · skip
                  refine WS.op rfl rfl (WS.op rfl rfl (WS.nil [(3, _), (4, _)] rfl ?_))
                  refine WC.run ?_
                  refine WS.op rfl rfl ?_
                  refine WS.st1 (M10.focus 0 rfl) [_] [_, _, _, _, _, _, _, _, _, _, _, _, _, _, _, _] rfl rfl rfl rfl rfl (Nat.le_of_ble_eq_true rfl) (Nat.le_of_ble_eq_true rfl) rfl rfl ?_
                  intro h75 M76
                  replace M76 : Mem _ _ ([(p4, _)] :: [(p1, _)] :: []) _ := M76
                  refine WS.nil [(3, _), (4, _)] rfl ?_
                  refine WC.seq ?_
                  refine WC.run ?_
                  refine WS.op rfl rfl (WS.op rfl rfl (WS.off rfl (WS.off rfl (WS.off rfl (WS.op rfl rfl (WS.op rfl rfl (WS.nil [(2, _)] rfl ?_)))))))
                  refine WC.ret ?_
                  refine ⟨[_], (res_tmp rfl res_nil), ?_⟩
                  first | exact ⟨mayOB_f (fun q => by have q2 := (mayO_1 (by omega)).1 q; first | omega | exact absurd q2 (by assumption) | exact absurd q2.2 (by assumption) | exact absurd q2.2.2 (by assumption) | exact absurd (AllS4.2 q2.2.1) (of_decide_eq_false (by assumption))), M76.bare.take 0⟩ | exact ⟨mayOB_f (fun q => by have q2 := (mayO_2 (by omega)).1 q; first | omega | exact absurd q2 (by assumption) | exact absurd q2.2 (by assumption) | exact absurd q2.2.2 (by assumption) | exact absurd (AllS4.2 q2.2.1) (of_decide_eq_false (by assumption))), M76.bare.take 0⟩ | exact ⟨mayOB_f (fun q => by have q2 := (mayO_3 (by omega)).1 q; first | omega | exact absurd q2 (by assumption) | exact absurd q2.2 (by assumption) | exact absurd q2.2.2 (by assumption) | exact absurd (AllS4.2 q2.2.1) (of_decide_eq_false (by assumption))), M76.bare.take 0⟩ | exact ⟨mayOB_f (fun q => by have q2 := (mayO_4 (by omega)).1 q; first | omega | exact absurd q2 (by assumption) | exact absurd q2.2 (by assumption) | exact absurd q2.2.2 (by assumption) | exact absurd (AllS4.2 q2.2.1) (of_decide_eq_false (by assumption))), M76.bare.take 0⟩ | exact ⟨mayOB_f (fun q => by have q2 := (mayO_5 (by omega)).1 q; first | omega | exact absurd q2 (by assumption) | exact absurd q2.2 (by assumption) | exact absurd q2.2.2 (by assumption) | exact absurd (AllS4.2 q2.2.1) (of_decide_eq_false (by assumption))), M76.bare.take 0⟩ | exact ⟨mayOB_f (fun q => by have q2 := q.1; omega), M76.bare.take 0⟩
              · skip
                refine WS.op rfl rfl (WS.off rfl (WS.off rfl (WS.off rfl (WS.op rfl rfl (WS.op rfl rfl (WS.nil [(3, _), (4, _)] rfl ?_))))))
                refine WC.run ?_
                refine WS.op rfl rfl ?_
                refine WS.st1 (M10.focus 0 rfl) [_] [_, _, _, _, _, _, _, _, _, _, _, _, _, _, _, _] rfl rfl rfl rfl rfl (Nat.le_of_ble_eq_true rfl) (Nat.le_of_ble_eq_true rfl) rfl rfl ?_
                intro h77 M78
                replace M78 : Mem _ _ ([(p4, _)] :: [(p1, _)] :: []) _ := M78
                refine WS.nil [(3, _), (4, _)] rfl ?_
                refine WC.seq ?_
                refine WC.run ?_
                refine WS.op rfl rfl (WS.op rfl rfl (WS.off rfl (WS.off rfl (WS.off rfl (WS.op rfl rfl (WS.op rfl rfl (WS.nil [(2, _)] rfl ?_)))))))
                refine WC.ret ?_
                refine ⟨[_], (res_tmp rfl res_nil), ?_⟩
                first | exact ⟨mayOB_f (fun q => by have q2 := (mayO_1 (by omega)).1 q; first | omega | exact absurd q2 (by assumption) | exact absurd q2.2 (by assumption) | exact absurd q2.2.2 (by assumption) | exact absurd (AllS4.2 q2.2.1) (of_decide_eq_false (by assumption))), M78.bare.take 0⟩ | exact ⟨mayOB_f (fun q => by have q2 := (mayO_2 (by omega)).1 q; first | omega | exact absurd q2 (by assumption) | exact absurd q2.2 (by assumption) | exact absurd q2.2.2 (by assumption) | exact absurd (AllS4.2 q2.2.1) (of_decide_eq_false (by assumption))), M78.bare.take 0⟩ | exact ⟨mayOB_f (fun q => by have q2 := (mayO_3 (by omega)).1 q; first | omega | exact absurd q2 (by assumption) | exact absurd q2.2 (by assumption) | exact absurd q2.2.2 (by assumption) | exact absurd (AllS4.2 q2.2.1) (of_decide_eq_false (by assumption))), M78.bare.take 0⟩ | exact ⟨mayOB_f (fun q => by have q2 := (mayO_4 (by omega)).1 q; first | omega | exact absurd q2 (by assumption) | exact absurd q2.2 (by assumption) | exact absurd q2.2.2 (by assumption) | exact absurd (AllS4.2 q2.2.1) (of_decide_eq_false (by assumption))), M78.bare.take 0⟩ | exact ⟨mayOB_f (fun q => by have q2 := (mayO_5 (by omega)).1 q; first | omega | exact absurd q2 (by assumption) | exact absurd q2.2 (by assumption) | exact absurd q2.2.2 (by assumption) | exact absurd (AllS4.2 q2.2.1) (of_decide_eq_false (by assumption))), M78.bare.take 0⟩ | exact ⟨mayOB_f (fun q => by have q2 := q.1; omega), M78.bare.take 0⟩
            · skip
              refine WS.op rfl rfl (WS.nil [(1, _), (3, _), (8, _), (60, _)] rfl ?_)
              refine WC.condF rfl ?_
              refine WC.run ?_
              refine WS.eqlN (a := (o.op).toNat) (b := 7) rfl rfl rfl (fun e63 => ?_) (fun e63 => ?_)
              · skip
                refine WS.op rfl rfl (WS.nil [(1, _), (3, _), (60, _)] rfl ?_)
                refine WC.condT rfl ?_
                refine WC.seq ?_
                refine WC.run ?_
                refine WS.op rfl rfl (WS.op rfl (op_ld (M10.at 1 rfl) rfl rfl) ?_)
                refine WS.geqN (a := (o.nd).toNat) (b := 1) rfl rfl rfl (fun e66 => ?_) (fun e66 => ?_)
                · skip
                  refine WS.op rfl rfl (WS.op rfl rfl (WS.op rfl (op_ld (M10.at 1 rfl) rfl rfl) ?_))
                  refine WS.leqN (a := (o.nd).toNat) (b := 5) rfl rfl rfl (fun e70 => ?_) (fun e70 => ?_)
                  · skip
                    refine WS.op rfl rfl (WS.op rfl rfl (WS.nil [(3, _), (4, _)] rfl ?_))
                    refine WC.run ?_
                    refine WS.op rfl rfl ?_
                    refine WS.st1 (M10.focus 0 rfl) [_] [_, _, _, _, _, _, _, _, _, _, _, _, _, _, _, _] rfl rfl rfl rfl rfl (Nat.le_of_ble_eq_true rfl) (Nat.le_of_ble_eq_true rfl) rfl rfl ?_
                    intro h79 M80
                    replace M80 : Mem _ _ ([(p4, _)] :: [(p1, _)] :: []) _ := M80
                    refine WS.nil [(3, _), (4, _)] rfl ?_
                    refine WC.seq ?_
                    refine WC.run ?_
                    refine WS.op rfl rfl (WS.op rfl rfl (WS.op rfl (op_lds [_, _, _, _, _, _, _, _, _, _, _, _, _, _, _, _] (M80.at 0 rfl) rfl (Nat.le_of_ble_eq_true rfl) rfl) (WS.opV (.agg #[(.int .u8 (0 : Int)), (.int .u8 (0 : Int)), (.int .u8 (0 : Int)), (.int .u8 (0 : Int)), (.int .u8 (0 : Int)), (.int .u8 (0 : Int)), (.int .u8 (0 : Int)), (.int .u8 (0 : Int)), (.int .u8 (0 : Int)), (.int .u8 (0 : Int)), (.int .u8 (0 : Int)), (.int .i64 (0 : Int)), (.int .i64 (0 : Int)), (.int .i64 (0 : Int)), (.int .i64 (0 : Int)), (.int .u8 (0 : Int))]) rfl rfl rfl ?_)))
                    refine WS.eqqD (p := (⟨0, o.sl, o.t0, o.t1, o.t2, o.t3, o.t4, o.t5, o.t6, o.t7, o.ro, o.ks, o.bt, o.ra, o.bu, 0⟩ : Oper) = (⟨0, 0, 0, 0, 0, 0, 0, 0, 0, 0, 0, 0, 0, 0, 0, 0⟩ : Oper)) rfl rfl rfl (Oper_eqV (⟨0, o.sl, o.t0, o.t1, o.t2, o.t3, o.t4, o.t5, o.t6, o.t7, o.ro, o.ks, o.bt, o.ra, o.bu, 0⟩ : Oper) (⟨0, 0, 0, 0, 0, 0, 0, 0, 0, 0, 0, 0, 0, 0, 0, 0⟩ : Oper)) (fun e77 => ?_) (fun e77 => ?_)
                    · skip
                      refine WS.op rfl rfl (WS.op rfl rfl (WS.nil [(2, _)] rfl ?_))
                      refine WC.ret ?_
                      refine ⟨[_], (res_tmp rfl res_nil), ?_⟩
                      first | exact ⟨mayOB_t ((mayO_1 (by omega)).2 ⟨by omega, AllS4.1 (of_decide_eq_true (by assumption)), by assumption⟩), M80.bare.take 0⟩ | exact ⟨mayOB_t ((mayO_2 (by omega)).2 ⟨by omega, by omega, by assumption⟩), M80.bare.take 0⟩ | exact ⟨mayOB_t ((mayO_3 (by omega)).2 (by assumption)), M80.bare.take 0⟩ | exact ⟨mayOB_t ((mayO_4 (by omega)).2 ⟨by omega, by assumption⟩), M80.bare.take 0⟩ | exact ⟨mayOB_t ((mayO_5 (by omega)).2 ⟨by omega, by assumption⟩), M80.bare.take 0⟩
                    · skip
                      refine WS.op rfl rfl (WS.op rfl rfl (WS.nil [(2, _)] rfl ?_))
                      refine WC.ret ?_
                      refine ⟨[_], (res_tmp rfl res_nil), ?_⟩
                      first | exact ⟨mayOB_f (fun q => by have q2 := (mayO_1 (by omega)).1 q; first | omega | exact absurd q2 (by assumption) | exact absurd q2.2 (by assumption) | exact absurd q2.2.2 (by assumption) | exact absurd (AllS4.2 q2.2.1) (of_decide_eq_false (by assumption))), M80.bare.take 0⟩ | exact ⟨mayOB_f (fun q => by have q2 := (mayO_2 (by omega)).1 q; first | omega | exact absurd q2 (by assumption) | exact absurd q2.2 (by assumption) | exact absurd q2.2.2 (by assumption) | exact absurd (AllS4.2 q2.2.1) (of_decide_eq_false (by assumption))), M80.bare.take 0⟩ | exact ⟨mayOB_f (fun q => by have q2 := (mayO_3 (by omega)).1 q; first | omega | exact absurd q2 (by assumption) | exact absurd q2.2 (by assumption) | exact absurd q2.2.2 (by assumption) | exact absurd (AllS4.2 q2.2.1) (of_decide_eq_false (by assumption))), M80.bare.take 0⟩ | exact ⟨mayOB_f (fun q => by have q2 := (mayO_4 (by omega)).1 q; first | omega | exact absurd q2 (by assumption) | exact absurd q2.2 (by assumption) | exact absurd q2.2.2 (by assumption) | exact absurd (AllS4.2 q2.2.1) (of_decide_eq_false (by assumption))), M80.bare.take 0⟩ | exact ⟨mayOB_f (fun q => by have q2 := (mayO_5 (by omega)).1 q; first | omega | exact absurd q2 (by assumption) | exact absurd q2.2 (by assumption) | exact absurd q2.2.2 (by assumption) | exact absurd (AllS4.2 q2.2.1) (of_decide_eq_false (by assumption))), M80.bare.take 0⟩ | exact ⟨mayOB_f (fun q => by have q2 := q.1; omega), M80.bare.take 0⟩
                  · skip
                    refine WS.op rfl rfl (WS.op rfl rfl (WS.nil [(3, _), (4, _)] rfl ?_))
                    refine WC.run ?_
                    refine WS.op rfl rfl ?_
                    refine WS.st1 (M10.focus 0 rfl) [_] [_, _, _, _, _, _, _, _, _, _, _, _, _, _, _, _] rfl rfl rfl rfl rfl (Nat.le_of_ble_eq_true rfl) (Nat.le_of_ble_eq_true rfl) rfl rfl ?_
                    intro h81 M82
                    replace M82 : Mem _ _ ([(p4, _)] :: [(p1, _)] :: []) _ := M82
                    refine WS.nil [(3, _), (4, _)] rfl ?_
                    refine WC.seq ?_
                    refine WC.run ?_
                    refine WS.op rfl rfl (WS.op rfl rfl (WS.off rfl (WS.off rfl (WS.off rfl (WS.op rfl rfl (WS.op rfl rfl (WS.nil [(2, _)] rfl ?_)))))))
                    refine WC.ret ?_
                    refine ⟨[_], (res_tmp rfl res_nil), ?_⟩
                    first | exact ⟨mayOB_f (fun q => by have q2 := (mayO_1 (by omega)).1 q; first | omega | exact absurd q2 (by assumption) | exact absurd q2.2 (by assumption) | exact absurd q2.2.2 (by assumption) | exact absurd (AllS4.2 q2.2.1) (of_decide_eq_false (by assumption))), M82.bare.take 0⟩ | exact ⟨mayOB_f (fun q => by have q2 := (mayO_2 (by omega)).1 q; first | omega | exact absurd q2 (by assumption) | exact absurd q2.2 (by assumption) | exact absurd q2.2.2 (by assumption) | exact absurd (AllS4.2 q2.2.1) (of_decide_eq_false (by assumption))), M82.bare.take 0⟩ | exact ⟨mayOB_f (fun q => by have q2 := (mayO_3 (by omega)).1 q; first | omega | exact absurd q2 (by assumption) | exact absurd q2.2 (by assumption) | exact absurd q2.2.2 (by assumption) | exact absurd (AllS4.2 q2.2.1) (of_decide_eq_false (by assumption))), M82.bare.take 0⟩ | exact ⟨mayOB_f (fun q => by have q2 := (mayO_4 (by omega)).1 q; first | omega | exact absurd q2 (by assumption) | exact absurd q2.2 (by assumption) | exact absurd q2.2.2 (by assumption) | exact absurd (AllS4.2 q2.2.1) (of_decide_eq_false (by assumption))), M82.bare.take 0⟩ | exact ⟨mayOB_f (fun q => by have q2 := (mayO_5 (by omega)).1 q; first | omega | exact absurd q2 (by assumption) | exact absurd q2.2 (by assumption) | exact absurd q2.2.2 (by assumption) | exact absurd (AllS4.2 q2.2.1) (of_decide_eq_false (by assumption))), M82.bare.take 0⟩ | exact ⟨mayOB_f (fun q => by have q2 := q.1; omega), M82.bare.take 0⟩
                · skip
                  refine WS.op rfl rfl (WS.off rfl (WS.off rfl (WS.off rfl (WS.op rfl rfl (WS.op rfl rfl (WS.nil [(3, _), (4, _)] rfl ?_))))))
                  refine WC.run ?_
                  refine WS.op rfl rfl ?_
                  refine WS.st1 (M10.focus 0 rfl) [_] [_, _, _, _, _, _, _, _, _, _, _, _, _, _, _, _] rfl rfl rfl rfl rfl (Nat.le_of_ble_eq_true rfl) (Nat.le_of_ble_eq_true rfl) rfl rfl ?_
                  intro h83 M84
                  replace M84 : Mem _ _ ([(p4, _)] :: [(p1, _)] :: []) _ := M84
                  refine WS.nil [(3, _), (4, _)] rfl ?_
                  refine WC.seq ?_
                  refine WC.run ?_
                  refine WS.op rfl rfl (WS.op rfl rfl (WS.off rfl (WS.off rfl (WS.off rfl (WS.op rfl rfl (WS.op rfl rfl (WS.nil [(2, _)] rfl ?_)))))))
                  refine WC.ret ?_
                  refine ⟨[_], (res_tmp rfl res_nil), ?_⟩
                  first | exact ⟨mayOB_f (fun q => by have q2 := (mayO_1 (by omega)).1 q; first | omega | exact absurd q2 (by assumption) | exact absurd q2.2 (by assumption) | exact absurd q2.2.2 (by assumption) | exact absurd (AllS4.2 q2.2.1) (of_decide_eq_false (by assumption))), M84.bare.take 0⟩ | exact ⟨mayOB_f (fun q => by have q2 := (mayO_2 (by omega)).1 q; first | omega | exact absurd q2 (by assumption) | exact absurd q2.2 (by assumption) | exact absurd q2.2.2 (by assumption) | exact absurd (AllS4.2 q2.2.1) (of_decide_eq_false (by assumption))), M84.bare.take 0⟩ | exact ⟨mayOB_f (fun q => by have q2 := (mayO_3 (by omega)).1 q; first | omega | exact absurd q2 (by assumption) | exact absurd q2.2 (by assumption) | exact absurd q2.2.2 (by assumption) | exact absurd (AllS4.2 q2.2.1) (of_decide_eq_false (by assumption))), M84.bare.take 0⟩ | exact ⟨mayOB_f (fun q => by have q2 := (mayO_4 (by omega)).1 q; first | omega | exact absurd q2 (by assumption) | exact absurd q2.2 (by assumption) | exact absurd q2.2.2 (by assumption) | exact absurd (AllS4.2 q2.2.1) (of_decide_eq_false (by assumption))), M84.bare.take 0⟩ | exact ⟨mayOB_f (fun q => by have q2 := (mayO_5 (by omega)).1 q; first | omega | exact absurd q2 (by assumption) | exact absurd q2.2 (by assumption) | exact absurd q2.2.2 (by assumption) | exact absurd (AllS4.2 q2.2.1) (of_decide_eq_false (by assumption))), M84.bare.take 0⟩ | exact ⟨mayOB_f (fun q => by have q2 := q.1; omega), M84.bare.take 0⟩
              · skip
                refine WS.op rfl rfl (WS.nil [(1, _), (3, _), (60, _)] rfl ?_)
                refine WC.condF rfl ?_
                refine WC.seq ?_
                refine WC.run ?_
                refine WS.op rfl rfl (WS.nil [(2, _)] rfl ?_)
                refine WC.ret ?_
                refine ⟨[_], (res_tmp rfl res_nil), ?_⟩
                first | exact ⟨mayOB_f (fun q => by have q2 := (mayO_1 (by omega)).1 q; first | omega | exact absurd q2 (by assumption) | exact absurd q2.2 (by assumption) | exact absurd q2.2.2 (by assumption) | exact absurd (AllS4.2 q2.2.1) (of_decide_eq_false (by assumption))), M10.bare.take 0⟩ | exact ⟨mayOB_f (fun q => by have q2 := (mayO_2 (by omega)).1 q; first | omega | exact absurd q2 (by assumption) | exact absurd q2.2 (by assumption) | exact absurd q2.2.2 (by assumption) | exact absurd (AllS4.2 q2.2.1) (of_decide_eq_false (by assumption))), M10.bare.take 0⟩ | exact ⟨mayOB_f (fun q => by have q2 := (mayO_3 (by omega)).1 q; first | omega | exact absurd q2 (by assumption) | exact absurd q2.2 (by assumption) | exact absurd q2.2.2 (by assumption) | exact absurd (AllS4.2 q2.2.1) (of_decide_eq_false (by assumption))), M10.bare.take 0⟩ | exact ⟨mayOB_f (fun q => by have q2 := (mayO_4 (by omega)).1 q; first | omega | exact absurd q2 (by assumption) | exact absurd q2.2 (by assumption) | exact absurd q2.2.2 (by assumption) | exact absurd (AllS4.2 q2.2.1) (of_decide_eq_false (by assumption))), M10.bare.take 0⟩ | exact ⟨mayOB_f (fun q => by have q2 := (mayO_5 (by omega)).1 q; first | omega | exact absurd q2 (by assumption) | exact absurd q2.2 (by assumption) | exact absurd q2.2.2 (by assumption) | exact absurd (AllS4.2 q2.2.1) (of_decide_eq_false (by assumption))), M10.bare.take 0⟩ | exact ⟨mayOB_f (fun q => by have q2 := q.1; omega), M10.bare.take 0⟩
end Go.Proofs.Ytncpdahappmhkaa.Wt
