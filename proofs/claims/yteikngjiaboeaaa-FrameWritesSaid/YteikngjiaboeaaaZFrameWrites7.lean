/- The law 'FrameWrites' returns true for all arguments: what its proof stands on, part 7. -/
import Derived.Test.YteikngjiaboeaaaZFrameWrites6
namespace Go.Proofs.Yteikngjiaboeaaa.Wt
open Go Go.Proofs.Yteikngjiaboeaaa.Am Go.Proofs.Yteikngjiaboeaaa.IrAll
set_option linter.unusedVariables false
set_option linter.unusedSimpArgs false
theorem mayO_1 {o : Oper} (h : o.op.toNat = 1) : MayO o ↔ o.sl.toNat < 4 ∧ B4 o ∧ (⟨0, 0, o.t0, o.t1, o.t2, o.t3, o.t4, o.t5, o.t6, o.t7, o.ro, 0, 0, 0, 0, o.nd⟩ : Oper) = (⟨0, 0, 0, 0, 0, 0, 0, 0, 0, 0, 0, 0, 0, 0, 0, 0⟩ : Oper) := by
  obtain ⟨op, sl, t0, t1, t2, t3, t4, t5, t6, t7, ro, ks, bt, ra, bu, nd⟩ := o
  simp only at h
  have hop : op = 1 := u8_inj h
  subst hop
  unfold MayO B4
  have hp : plainO ⟨1, sl, t0, t1, t2, t3, t4, t5, t6, t7, ro, ks, bt, ra, bu, nd⟩ = ⟨1, sl, 0, 0, 0, 0, 0, 0, 0, 0, 0, ks, bt, ra, bu, 0⟩ := by unfold plainO; simp
  rw [hp]
  simp only [Oper.mk.injEq, true_and, and_true]
  have s0 : Sm (Int64.toInt 0) := by decide
  have s1 : (UInt8.toNat 0) = 0 := rfl
  have s2 : (UInt8.toNat 1) = 1 := rfl
  constructor
  · rintro ⟨q1, ⟨e0, e1, e2, e3, e4, e5, e6, e7, e8, e9⟩, q3, q4, q5, q6, q7, q8, q9⟩
    exact ⟨by omega, ⟨q6, q7, q8, q9⟩, e0, e1, e2, e3, e4, e5, e6, e7, e8, e9⟩
  · rintro ⟨q3, ⟨q6, q7, q8, q9⟩, e0, e1, e2, e3, e4, e5, e6, e7, e8, e9⟩
    subst e0 e1 e2 e3 e4 e5 e6 e7 e8 e9
    exact ⟨by omega, ⟨rfl, rfl, rfl, rfl, rfl, rfl, rfl, rfl, rfl, rfl⟩, by omega, fun q => by omega, fun q => by omega, q6, q7, q8, q9⟩
theorem mayO_2 {o : Oper} (h : o.op.toNat = 2) : MayO o ↔ o.sl.toNat < 4 ∧ (1 ≤ o.ro.toNat ∧ o.ro.toNat ≤ 3) ∧ (⟨0, 0, 0, 0, 0, 0, 0, 0, 0, 0, 0, o.ks, o.bt, o.ra, o.bu, o.nd⟩ : Oper) = (⟨0, 0, 0, 0, 0, 0, 0, 0, 0, 0, 0, 0, 0, 0, 0, 0⟩ : Oper) := by
  obtain ⟨op, sl, t0, t1, t2, t3, t4, t5, t6, t7, ro, ks, bt, ra, bu, nd⟩ := o
  simp only at h
  have hop : op = 2 := u8_inj h
  subst hop
  unfold MayO B4
  have hp : plainO ⟨2, sl, t0, t1, t2, t3, t4, t5, t6, t7, ro, ks, bt, ra, bu, nd⟩ = ⟨2, sl, t0, t1, t2, t3, t4, t5, t6, t7, ro, 0, 0, 0, 0, 0⟩ := by unfold plainO; simp
  rw [hp]
  simp only [Oper.mk.injEq, true_and, and_true]
  have s0 : Sm (Int64.toInt 0) := by decide
  have s1 : (UInt8.toNat 0) = 0 := rfl
  have s2 : (UInt8.toNat 2) = 2 := rfl
  constructor
  · rintro ⟨q1, ⟨e0, e1, e2, e3, e4⟩, q3, q4, q5, q6, q7, q8, q9⟩
    exact ⟨by omega, q4 rfl, e0, e1, e2, e3, e4⟩
  · rintro ⟨q3, q4, e0, e1, e2, e3, e4⟩
    subst e0 e1 e2 e3 e4
    exact ⟨by omega, ⟨rfl, rfl, rfl, rfl, rfl⟩, by omega, fun _ => q4, fun q => by omega, s0, s0, s0, s0⟩
theorem mayO_3 {o : Oper} (h : o.op.toNat = 3) : MayO o ↔ (⟨0, o.sl, 0, 0, 0, 0, 0, 0, 0, 0, o.ro, o.ks, o.bt, o.ra, o.bu, o.nd⟩ : Oper) = (⟨0, 0, 0, 0, 0, 0, 0, 0, 0, 0, 0, 0, 0, 0, 0, 0⟩ : Oper) := by
  obtain ⟨op, sl, t0, t1, t2, t3, t4, t5, t6, t7, ro, ks, bt, ra, bu, nd⟩ := o
  simp only at h
  have hop : op = 3 := u8_inj h
  subst hop
  unfold MayO B4
  have hp : plainO ⟨3, sl, t0, t1, t2, t3, t4, t5, t6, t7, ro, ks, bt, ra, bu, nd⟩ = ⟨3, 0, t0, t1, t2, t3, t4, t5, t6, t7, 0, 0, 0, 0, 0, 0⟩ := by unfold plainO; simp
  rw [hp]
  simp only [Oper.mk.injEq, true_and, and_true]
  have s0 : Sm (Int64.toInt 0) := by decide
  have s1 : (UInt8.toNat 0) = 0 := rfl
  have s2 : (UInt8.toNat 3) = 3 := rfl
  constructor
  · rintro ⟨q1, ⟨e0, e1, e2, e3, e4, e5, e6⟩, q3, q4, q5, q6, q7, q8, q9⟩
    exact ⟨e0, e1, e2, e3, e4, e5, e6⟩
  · rintro ⟨e0, e1, e2, e3, e4, e5, e6⟩
    subst e0 e1 e2 e3 e4 e5 e6
    exact ⟨by omega, ⟨rfl, rfl, rfl, rfl, rfl, rfl, rfl⟩, by omega, fun q => by omega, fun q => by omega, s0, s0, s0, s0⟩
theorem mayO_4 {o : Oper} (h : o.op.toNat = 4) : MayO o ↔ o.sl.toNat < 4 ∧ (⟨0, 0, o.t0, o.t1, o.t2, o.t3, o.t4, o.t5, o.t6, o.t7, o.ro, o.ks, o.bt, o.ra, o.bu, o.nd⟩ : Oper) = (⟨0, 0, 0, 0, 0, 0, 0, 0, 0, 0, 0, 0, 0, 0, 0, 0⟩ : Oper) := by
  obtain ⟨op, sl, t0, t1, t2, t3, t4, t5, t6, t7, ro, ks, bt, ra, bu, nd⟩ := o
  simp only at h
  have hop : op = 4 := u8_inj h
  subst hop
  unfold MayO B4
  have hp : plainO ⟨4, sl, t0, t1, t2, t3, t4, t5, t6, t7, ro, ks, bt, ra, bu, nd⟩ = ⟨4, sl, 0, 0, 0, 0, 0, 0, 0, 0, 0, 0, 0, 0, 0, 0⟩ := by unfold plainO; simp
  rw [hp]
  simp only [Oper.mk.injEq, true_and, and_true]
  have s0 : Sm (Int64.toInt 0) := by decide
  have s1 : (UInt8.toNat 0) = 0 := rfl
  have s2 : (UInt8.toNat 4) = 4 := rfl
  constructor
  · rintro ⟨q1, ⟨e0, e1, e2, e3, e4, e5, e6, e7, e8, e9, e10, e11, e12, e13⟩, q3, q4, q5, q6, q7, q8, q9⟩
    exact ⟨by omega, e0, e1, e2, e3, e4, e5, e6, e7, e8, e9, e10, e11, e12, e13⟩
  · rintro ⟨q3, e0, e1, e2, e3, e4, e5, e6, e7, e8, e9, e10, e11, e12, e13⟩
    subst e0 e1 e2 e3 e4 e5 e6 e7 e8 e9 e10 e11 e12 e13
    exact ⟨by omega, ⟨rfl, rfl, rfl, rfl, rfl, rfl, rfl, rfl, rfl, rfl, rfl, rfl, rfl, rfl⟩, by omega, fun q => by omega, fun q => by omega, s0, s0, s0, s0⟩
theorem mayO_5 {o : Oper} (h : 5 ≤ o.op.toNat ∧ o.op.toNat ≤ 7) : MayO o ↔ (1 ≤ o.nd.toNat ∧ o.nd.toNat ≤ 5) ∧ (⟨0, o.sl, o.t0, o.t1, o.t2, o.t3, o.t4, o.t5, o.t6, o.t7, o.ro, o.ks, o.bt, o.ra, o.bu, 0⟩ : Oper) = (⟨0, 0, 0, 0, 0, 0, 0, 0, 0, 0, 0, 0, 0, 0, 0, 0⟩ : Oper) := by
  obtain ⟨op, sl, t0, t1, t2, t3, t4, t5, t6, t7, ro, ks, bt, ra, bu, nd⟩ := o
  simp only at h
  unfold MayO B4
  have hp : plainO ⟨op, sl, t0, t1, t2, t3, t4, t5, t6, t7, ro, ks, bt, ra, bu, nd⟩ = ⟨op, 0, 0, 0, 0, 0, 0, 0, 0, 0, 0, 0, 0, 0, 0, nd⟩ := by unfold plainO; simp only; rw [if_neg (by omega), if_neg (by omega), if_neg (by omega), if_neg (by omega)]
  rw [hp]
  simp only [Oper.mk.injEq, true_and, and_true]
  have s0 : Sm (Int64.toInt 0) := by decide
  have s1 : (UInt8.toNat 0) = 0 := rfl
  skip
  constructor
  · rintro ⟨q1, ⟨e0, e1, e2, e3, e4, e5, e6, e7, e8, e9, e10, e11, e12, e13⟩, q3, q4, q5, q6, q7, q8, q9⟩
    exact ⟨q5 (by omega), e0, e1, e2, e3, e4, e5, e6, e7, e8, e9, e10, e11, e12, e13⟩
  · rintro ⟨q5, e0, e1, e2, e3, e4, e5, e6, e7, e8, e9, e10, e11, e12, e13⟩
    subst e0 e1 e2 e3 e4 e5 e6 e7 e8 e9 e10 e11 e12 e13
    exact ⟨by omega, ⟨rfl, rfl, rfl, rfl, rfl, rfl, rfl, rfl, rfl, rfl, rfl, rfl, rfl, rfl⟩, by omega, fun q => by omega, fun _ => q5, s0, s0, s0, s0⟩
variable {h base : H} {L : List Seg} {R : List Nat}
theorem AllS4 {o : Oper} : AllS [o.ks.toInt, o.bt.toInt, o.ra.toInt, o.bu.toInt] ↔ B4 o := by
  unfold AllS B4
  simp
set_option maxRecDepth 8000 in
theorem mayO_ran (W : Mem h h [] []) {o : Oper} : Cll tab0 53 [.agg (Oper.cells o).toArray] h (fun v h2 => v = .bool (mayOB o) ∧ Mem h h2 [] []) := by
  refine Cll.code rfl rfl ?_
  refine WC.env [(0, _)] rfl ?_
  refine WC.seq ?_
  refine WC.run ?_
  refine WS.box W [_, _, _, _, _, _, _, _, _, _, _, _, _, _, _, _] rfl rfl rfl rfl ?_
  intro p1 h2 M3
  refine WS.op rfl rfl (WS.nil [(1, _)] rfl ?_)
  refine WC.seq ?_
  refine WC.run ?_
  refine WS.op rfl (op_lds [_, _, _, _, _, _, _, _, _, _, _, _, _, _, _, _] (M3.at 0 rfl) rfl (Nat.le_of_ble_eq_true rfl) rfl) ?_
  refine WS.new M3 rfl ?_
  intro p4 h5 M6
  refine WS.st1 (M6.focus 0 rfl) [_, _, _, _, _, _, _, _, _, _, _, _, _, _, _, _] [_, _, _, _, _, _, _, _, _, _, _, _, _, _, _, _] rfl rfl rfl rfl rfl (Nat.le_of_ble_eq_true rfl) (Nat.le_of_ble_eq_true rfl) rfl rfl ?_
  intro h7 M8
  replace M8 : Mem _ _ ([(p4, _)] :: [(p1, _)] :: []) _ := M8
  refine WS.nil [(1, _), (3, _)] rfl ?_
  refine WC.seq ?_
  refine WC.run ?_
  refine WS.op rfl rfl ?_
  refine WS.st1 (M8.focus 0 rfl) [_] [_, _, _, _, _, _, _, _, _, _, _, _, _, _, _, _] rfl rfl rfl rfl rfl (Nat.le_of_ble_eq_true rfl) (Nat.le_of_ble_eq_true rfl) rfl rfl ?_
  intro h9 M10
  replace M10 : Mem _ _ ([(p4, _)] :: [(p1, _)] :: []) _ := M10
  refine WS.nil [(1, _), (3, _)] rfl ?_
  refine WC.seq ?_
  refine WC.run ?_
  refine WS.op rfl rfl (WS.nil [(1, _), (3, _), (4, _)] rfl ?_)
  refine WC.seq ?_
  refine WC.seq ?_
  refine WC.run ?_
  refine WS.op rfl rfl (WS.op rfl (op_ld (M10.at 1 rfl) rfl rfl) (WS.nil [(1, _), (3, _), (4, _), (8, _)] rfl ?_))
  refine WC.block ?_
  refine WC.seq ?_
  refine WC.run ?_
  refine WS.eqlN (a := (o.op).toNat) (b := 1) rfl rfl rfl (fun e10 => ?_) (fun e10 => ?_)
  ·
   refine WS.op rfl rfl (WS.nil [(1, _), (3, _), (4, _), (8, _), (9, _)] rfl ?_)
   refine WC.condT rfl ?_
   refine WC.seq ?_
   refine WC.run ?_
   refine WS.op rfl rfl (WS.op rfl (op_ld (M10.at 1 rfl) rfl rfl) ?_)
   refine WS.lssN (a := (o.sl).toNat) (b := 4) rfl rfl rfl (fun e13 => ?_) (fun e13 => ?_)
   ·
    refine WS.op rfl rfl (WS.op rfl rfl (WS.op rfl (op_ld (M10.at 1 rfl) rfl rfl) (WS.op rfl rfl (WS.op rfl (op_ld (M10.at 1 rfl) rfl rfl) (WS.op rfl rfl (WS.op rfl (op_ld (M10.at 1 rfl) rfl rfl) (WS.op rfl rfl (WS.op rfl (op_ld (M10.at 1 rfl) rfl rfl) ?_))))))))
    refine WS.bsl M10 [_, _, _, _] rfl rfl rfl rfl ?_
    intro p11 h12 M13
    refine WS.call rfl rfl rfl (small_ran M13.here (l := [(o.ks).toInt, (o.bt).toInt, (o.ra).toInt, (o.bu).toInt]) (Row.Sl.own (K := KInt) (l := [(o.ks).toInt, (o.bt).toInt, (o.ra).toInt, (o.bu).toInt]) (M13.at 0 rfl)) (by simp)) ?_
    rintro _ h14 ⟨rfl, N15⟩
    have M16 := M13.trans N15
    refine WS.op rfl rfl (WS.op rfl rfl (WS.nil [(3, _), (4, _)] rfl ?_))
    refine WC.run ?_
    refine WS.op rfl rfl ?_
    refine WS.st1 (M16.focus 1 rfl) [_] [_, _, _, _, _, _, _, _, _, _, _, _, _, _, _, _] rfl rfl rfl rfl rfl (Nat.le_of_ble_eq_true rfl) (Nat.le_of_ble_eq_true rfl) rfl rfl ?_
    intro h17 M18
    replace M18 : Mem _ _ ([(p4, _)] :: [(p11, _)] :: [(p1, _)] :: []) _ := M18
    refine WS.op rfl rfl ?_
    refine WS.st1 (M18.focus 0 rfl) [_] [_, _, _, _, _, _, _, _, _, _, _, _, _, _, _, _] rfl rfl rfl rfl rfl (Nat.le_of_ble_eq_true rfl) (Nat.le_of_ble_eq_true rfl) rfl rfl ?_
    intro h19 M20
    replace M20 : Mem _ _ ([(p4, _)] :: [(p11, _)] :: [(p1, _)] :: []) _ := M20
    refine WS.op rfl rfl ?_
    refine WS.st1 (M20.focus 0 rfl) [_] [_, _, _, _, _, _, _, _, _, _, _, _, _, _, _, _] rfl rfl rfl rfl rfl (Nat.le_of_ble_eq_true rfl) (Nat.le_of_ble_eq_true rfl) rfl rfl ?_
    intro h21 M22
    replace M22 : Mem _ _ ([(p4, _)] :: [(p11, _)] :: [(p1, _)] :: []) _ := M22
    refine WS.op rfl rfl ?_
    refine WS.st1 (M22.focus 0 rfl) [_] [_, _, _, _, _, _, _, _, _, _, _, _, _, _, _, _] rfl rfl rfl rfl rfl (Nat.le_of_ble_eq_true rfl) (Nat.le_of_ble_eq_true rfl) rfl rfl ?_
    intro h23 M24
    replace M24 : Mem _ _ ([(p4, _)] :: [(p11, _)] :: [(p1, _)] :: []) _ := M24
    refine WS.op rfl rfl ?_
    refine WS.st1 (M24.focus 0 rfl) [_] [_, _, _, _, _, _, _, _, _, _, _, _, _, _, _, _] rfl rfl rfl rfl rfl (Nat.le_of_ble_eq_true rfl) (Nat.le_of_ble_eq_true rfl) rfl rfl ?_
    intro h25 M26
    replace M26 : Mem _ _ ([(p4, _)] :: [(p11, _)] :: [(p1, _)] :: []) _ := M26
    refine WS.nil [(3, _), (4, _)] rfl ?_
    refine WC.seq ?_
    refine WC.run ?_
    refine WS.op rfl rfl (WS.op rfl rfl ?_)
    cases hb1 : (decide (AllS [(o.ks).toInt, (o.bt).toInt, (o.ra).toInt, (o.bu).toInt]))
    ·
     refine WS.off rfl (WS.off rfl (WS.off rfl (WS.op rfl rfl (WS.op rfl rfl (WS.nil [(2, _)] rfl ?_)))))
     refine WC.ret ?_
     refine ⟨[_], (res_tmp rfl res_nil), ?_⟩
     first | exact ⟨mayOB_f (fun q => by have q2 := (mayO_1 (by omega)).1 q; first | omega | exact absurd q2 (by assumption) | exact absurd q2.2 (by assumption) | exact absurd q2.2.2 (by assumption) | exact absurd (AllS4.2 q2.2.1) (of_decide_eq_false (by assumption))), M26.bare.take 0⟩ | exact ⟨mayOB_f (fun q => by have q2 := (mayO_2 (by omega)).1 q; first | omega | exact absurd q2 (by assumption) | exact absurd q2.2 (by assumption) | exact absurd q2.2.2 (by assumption) | exact absurd (AllS4.2 q2.2.1) (of_decide_eq_false (by assumption))), M26.bare.take 0⟩ | exact ⟨mayOB_f (fun q => by have q2 := (mayO_3 (by omega)).1 q; first | omega | exact absurd q2 (by assumption) | exact absurd q2.2 (by assumption) | exact absurd q2.2.2 (by assumption) | exact absurd (AllS4.2 q2.2.1) (of_decide_eq_false (by assumption))), M26.bare.take 0⟩ | exact ⟨mayOB_f (fun q => by have q2 := (mayO_4 (by omega)).1 q; first | omega | exact absurd q2 (by assumption) | exact absurd q2.2 (by assumption) | exact absurd q2.2.2 (by assumption) | exact absurd (AllS4.2 q2.2.1) (of_decide_eq_false (by assumption))), M26.bare.take 0⟩ | exact ⟨mayOB_f (fun q => by have q2 := (mayO_5 (by omega)).1 q; first | omega | exact absurd q2 (by assumption) | exact absurd q2.2 (by assumption) | exact absurd q2.2.2 (by assumption) | exact absurd (AllS4.2 q2.2.1) (of_decide_eq_false (by assumption))), M26.bare.take 0⟩ | exact ⟨mayOB_f (fun q => by have q2 := q.1; omega), M26.bare.take 0⟩
    ·
     refine WS.op rfl (op_lds [_, _, _, _, _, _, _, _, _, _, _, _, _, _, _, _] (M26.at 0 rfl) rfl (Nat.le_of_ble_eq_true rfl) rfl) (WS.opV (.agg #[(.int .u8 (0 : Int)), (.int .u8 (0 : Int)), (.int .u8 (0 : Int)), (.int .u8 (0 : Int)), (.int .u8 (0 : Int)), (.int .u8 (0 : Int)), (.int .u8 (0 : Int)), (.int .u8 (0 : Int)), (.int .u8 (0 : Int)), (.int .u8 (0 : Int)), (.int .u8 (0 : Int)), (.int .i64 (0 : Int)), (.int .i64 (0 : Int)), (.int .i64 (0 : Int)), (.int .i64 (0 : Int)), (.int .u8 (0 : Int))]) rfl rfl rfl ?_)
     refine WS.eqqD (p := (⟨0, 0, o.t0, o.t1, o.t2, o.t3, o.t4, o.t5, o.t6, o.t7, o.ro, 0, 0, 0, 0, o.nd⟩ : Oper) = (⟨0, 0, 0, 0, 0, 0, 0, 0, 0, 0, 0, 0, 0, 0, 0, 0⟩ : Oper)) rfl rfl rfl (Oper_eqV (⟨0, 0, o.t0, o.t1, o.t2, o.t3, o.t4, o.t5, o.t6, o.t7, o.ro, 0, 0, 0, 0, o.nd⟩ : Oper) (⟨0, 0, 0, 0, 0, 0, 0, 0, 0, 0, 0, 0, 0, 0, 0, 0⟩ : Oper)) (fun e77 => ?_) (fun e77 => ?_)
     ·
      refine WS.op rfl rfl (WS.op rfl rfl (WS.nil [(2, _)] rfl ?_))
      refine WC.ret ?_
      refine ⟨[_], (res_tmp rfl res_nil), ?_⟩
      first | exact ⟨mayOB_t ((mayO_1 (by omega)).2 ⟨by omega, AllS4.1 (of_decide_eq_true (by assumption)), by assumption⟩), M26.bare.take 0⟩ | exact ⟨mayOB_t ((mayO_2 (by omega)).2 ⟨by omega, by omega, by assumption⟩), M26.bare.take 0⟩ | exact ⟨mayOB_t ((mayO_3 (by omega)).2 (by assumption)), M26.bare.take 0⟩ | exact ⟨mayOB_t ((mayO_4 (by omega)).2 ⟨by omega, by assumption⟩), M26.bare.take 0⟩ | exact ⟨mayOB_t ((mayO_5 (by omega)).2 ⟨by omega, by assumption⟩), M26.bare.take 0⟩
     ·
      refine WS.op rfl rfl (WS.op rfl rfl (WS.nil [(2, _)] rfl ?_))
      refine WC.ret ?_
      refine ⟨[_], (res_tmp rfl res_nil), ?_⟩
      first | exact ⟨mayOB_f (fun q => by have q2 := (mayO_1 (by omega)).1 q; first | omega | exact absurd q2 (by assumption) | exact absurd q2.2 (by assumption) | exact absurd q2.2.2 (by assumption) | exact absurd (AllS4.2 q2.2.1) (of_decide_eq_false (by assumption))), M26.bare.take 0⟩ | exact ⟨mayOB_f (fun q => by have q2 := (mayO_2 (by omega)).1 q; first | omega | exact absurd q2 (by assumption) | exact absurd q2.2 (by assumption) | exact absurd q2.2.2 (by assumption) | exact absurd (AllS4.2 q2.2.1) (of_decide_eq_false (by assumption))), M26.bare.take 0⟩ | exact ⟨mayOB_f (fun q => by have q2 := (mayO_3 (by omega)).1 q; first | omega | exact absurd q2 (by assumption) | exact absurd q2.2 (by assumption) | exact absurd q2.2.2 (by assumption) | exact absurd (AllS4.2 q2.2.1) (of_decide_eq_false (by assumption))), M26.bare.take 0⟩ | exact ⟨mayOB_f (fun q => by have q2 := (mayO_4 (by omega)).1 q; first | omega | exact absurd q2 (by assumption) | exact absurd q2.2 (by assumption) | exact absurd q2.2.2 (by assumption) | exact absurd (AllS4.2 q2.2.1) (of_decide_eq_false (by assumption))), M26.bare.take 0⟩ | exact ⟨mayOB_f (fun q => by have q2 := (mayO_5 (by omega)).1 q; first | omega | exact absurd q2 (by assumption) | exact absurd q2.2 (by assumption) | exact absurd q2.2.2 (by assumption) | exact absurd (AllS4.2 q2.2.1) (of_decide_eq_false (by assumption))), M26.bare.take 0⟩ | exact ⟨mayOB_f (fun q => by have q2 := q.1; omega), M26.bare.take 0⟩
   ·
    refine WS.op rfl rfl (WS.off rfl (WS.off rfl (WS.off rfl (WS.off rfl (WS.off rfl (WS.off rfl (WS.off rfl (WS.off rfl (WS.off rfl ?_)))))))))
    refine WS.offC rfl (WS.op rfl rfl (WS.op rfl rfl (WS.nil [(3, _), (4, _)] rfl ?_)))
    refine WC.run ?_
    refine WS.op rfl rfl ?_
    refine WS.st1 (M10.focus 0 rfl) [_] [_, _, _, _, _, _, _, _, _, _, _, _, _, _, _, _] rfl rfl rfl rfl rfl (Nat.le_of_ble_eq_true rfl) (Nat.le_of_ble_eq_true rfl) rfl rfl ?_
    intro h27 M28
    replace M28 : Mem _ _ ([(p4, _)] :: [(p1, _)] :: []) _ := M28
    refine WS.op rfl rfl ?_
    refine WS.st1 (M28.focus 0 rfl) [_] [_, _, _, _, _, _, _, _, _, _, _, _, _, _, _, _] rfl rfl rfl rfl rfl (Nat.le_of_ble_eq_true rfl) (Nat.le_of_ble_eq_true rfl) rfl rfl ?_
    intro h29 M30
    replace M30 : Mem _ _ ([(p4, _)] :: [(p1, _)] :: []) _ := M30
    refine WS.op rfl rfl ?_
    refine WS.st1 (M30.focus 0 rfl) [_] [_, _, _, _, _, _, _, _, _, _, _, _, _, _, _, _] rfl rfl rfl rfl rfl (Nat.le_of_ble_eq_true rfl) (Nat.le_of_ble_eq_true rfl) rfl rfl ?_
    intro h31 M32
    replace M32 : Mem _ _ ([(p4, _)] :: [(p1, _)] :: []) _ := M32
    refine WS.op rfl rfl ?_
    refine WS.st1 (M32.focus 0 rfl) [_] [_, _, _, _, _, _, _, _, _, _, _, _, _, _, _, _] rfl rfl rfl rfl rfl (Nat.le_of_ble_eq_true rfl) (Nat.le_of_ble_eq_true rfl) rfl rfl ?_
    intro h33 M34
    replace M34 : Mem _ _ ([(p4, _)] :: [(p1, _)] :: []) _ := M34
    refine WS.op rfl rfl ?_
    refine WS.st1 (M34.focus 0 rfl) [_] [_, _, _, _, _, _, _, _, _, _, _, _, _, _, _, _] rfl rfl rfl rfl rfl (Nat.le_of_ble_eq_true rfl) (Nat.le_of_ble_eq_true rfl) rfl rfl ?_
    intro h35 M36
    replace M36 : Mem _ _ ([(p4, _)] :: [(p1, _)] :: []) _ := M36
    refine WS.nil [(3, _), (4, _)] rfl ?_
    refine WC.seq ?_
    refine WC.run ?_
    refine WS.op rfl rfl (WS.op rfl rfl (WS.off rfl (WS.off rfl (WS.off rfl (WS.op rfl rfl (WS.op rfl rfl (WS.nil [(2, _)] rfl ?_)))))))
    refine WC.ret ?_
    refine ⟨[_], (res_tmp rfl res_nil), ?_⟩
    first | exact ⟨mayOB_f (fun q => by have q2 := (mayO_1 (by omega)).1 q; first | omega | exact absurd q2 (by assumption) | exact absurd q2.2 (by assumption) | exact absurd q2.2.2 (by assumption) | exact absurd (AllS4.2 q2.2.1) (of_decide_eq_false (by assumption))), M36.bare.take 0⟩ | exact ⟨mayOB_f (fun q => by have q2 := (mayO_2 (by omega)).1 q; first | omega | exact absurd q2 (by assumption) | exact absurd q2.2 (by assumption) | exact absurd q2.2.2 (by assumption) | exact absurd (AllS4.2 q2.2.1) (of_decide_eq_false (by assumption))), M36.bare.take 0⟩ | exact ⟨mayOB_f (fun q => by have q2 := (mayO_3 (by omega)).1 q; first | omega | exact absurd q2 (by assumption) | exact absurd q2.2 (by assumption) | exact absurd q2.2.2 (by assumption) | exact absurd (AllS4.2 q2.2.1) (of_decide_eq_false (by assumption))), M36.bare.take 0⟩ | exact ⟨mayOB_f (fun q => by have q2 := (mayO_4 (by omega)).1 q; first | omega | exact absurd q2 (by assumption) | exact absurd q2.2 (by assumption) | exact absurd q2.2.2 (by assumption) | exact absurd (AllS4.2 q2.2.1) (of_decide_eq_false (by assumption))), M36.bare.take 0⟩ | exact ⟨mayOB_f (fun q => by have q2 := (mayO_5 (by omega)).1 q; first | omega | exact absurd q2 (by assumption) | exact absurd q2.2 (by assumption) | exact absurd q2.2.2 (by assumption) | exact absurd (AllS4.2 q2.2.1) (of_decide_eq_false (by assumption))), M36.bare.take 0⟩ | exact ⟨mayOB_f (fun q => by have q2 := q.1; omega), M36.bare.take 0⟩
  ·
   refine WS.op rfl rfl (WS.nil [(1, _), (3, _), (4, _), (8, _), (9, _)] rfl ?_)
   refine WC.condF rfl ?_
   refine WC.seq ?_
   refine WC.run ?_
   refine WS.eqlN (a := (o.op).toNat) (b := 2) rfl rfl rfl (fun e32 => ?_) (fun e32 => ?_)
   ·
    refine WS.op rfl rfl (WS.nil [(1, _), (3, _), (4, _), (8, _), (31, _)] rfl ?_)
    refine WC.condT rfl ?_
    refine WC.seq ?_
    refine WC.run ?_
    refine WS.op rfl rfl (WS.op rfl (op_ld (M10.at 1 rfl) rfl rfl) ?_)
    refine WS.lssN (a := (o.sl).toNat) (b := 4) rfl rfl rfl (fun e35 => ?_) (fun e35 => ?_)
    ·
     refine WS.op rfl rfl (WS.op rfl rfl (WS.op rfl (op_ld (M10.at 1 rfl) rfl rfl) ?_))
     refine WS.geqN (a := (o.ro).toNat) (b := 1) rfl rfl rfl (fun e39 => ?_) (fun e39 => ?_)
     ·
      refine WS.op rfl rfl (WS.op rfl rfl (WS.op rfl rfl (WS.op rfl (op_ld (M10.at 1 rfl) rfl rfl) ?_)))
      refine WS.leqN (a := (o.ro).toNat) (b := 3) rfl rfl rfl (fun e44 => ?_) (fun e44 => ?_)
      ·
       refine WS.op rfl rfl (WS.op rfl rfl (WS.nil [(3, _), (4, _)] rfl ?_))
       refine WC.run ?_
       refine WS.opV (.agg #[(.int .u8 (0 : Int)), (.int .u8 (0 : Int)), (.int .u8 (0 : Int)), (.int .u8 (0 : Int)), (.int .u8 (0 : Int)), (.int .u8 (0 : Int)), (.int .u8 (0 : Int)), (.int .u8 (0 : Int))]) rfl rfl rfl (WS.op rfl rfl ?_)
       refine WS.st1 (M10.focus 0 rfl) [_] [_, _, _, _, _, _, _, _, _, _, _, _, _, _, _, _] rfl rfl rfl rfl rfl (Nat.le_of_ble_eq_true rfl) (Nat.le_of_ble_eq_true rfl) rfl rfl ?_
       intro h37 M38
       replace M38 : Mem _ _ ([(p4, _)] :: [(p1, _)] :: []) _ := M38
       refine WS.op rfl rfl ?_
       refine WS.st1 (M38.focus 0 rfl) [_, _, _, _, _, _, _, _] [_, _, _, _, _, _, _, _, _, _, _, _, _, _, _, _] rfl rfl rfl rfl rfl (Nat.le_of_ble_eq_true rfl) (Nat.le_of_ble_eq_true rfl) rfl rfl ?_
       intro h39 M40
       replace M40 : Mem _ _ ([(p4, _)] :: [(p1, _)] :: []) _ := M40
       refine WS.op rfl rfl ?_
       refine WS.st1 (M40.focus 0 rfl) [_] [_, _, _, _, _, _, _, _, _, _, _, _, _, _, _, _] rfl rfl rfl rfl rfl (Nat.le_of_ble_eq_true rfl) (Nat.le_of_ble_eq_true rfl) rfl rfl ?_
       intro h41 M42
       replace M42 : Mem _ _ ([(p4, _)] :: [(p1, _)] :: []) _ := M42
       refine WS.nil [(3, _), (4, _)] rfl ?_
       refine WC.seq ?_
       refine WC.run ?_
       refine WS.op rfl rfl (WS.op rfl rfl (WS.op rfl (op_lds [_, _, _, _, _, _, _, _, _, _, _, _, _, _, _, _] (M42.at 0 rfl) rfl (Nat.le_of_ble_eq_true rfl) rfl) (WS.opV (.agg #[(.int .u8 (0 : Int)), (.int .u8 (0 : Int)), (.int .u8 (0 : Int)), (.int .u8 (0 : Int)), (.int .u8 (0 : Int)), (.int .u8 (0 : Int)), (.int .u8 (0 : Int)), (.int .u8 (0 : Int)), (.int .u8 (0 : Int)), (.int .u8 (0 : Int)), (.int .u8 (0 : Int)), (.int .i64 (0 : Int)), (.int .i64 (0 : Int)), (.int .i64 (0 : Int)), (.int .i64 (0 : Int)), (.int .u8 (0 : Int))]) rfl rfl rfl ?_)))
       refine WS.eqqD (p := (⟨0, 0, 0, 0, 0, 0, 0, 0, 0, 0, 0, o.ks, o.bt, o.ra, o.bu, o.nd⟩ : Oper) = (⟨0, 0, 0, 0, 0, 0, 0, 0, 0, 0, 0, 0, 0, 0, 0, 0⟩ : Oper)) rfl rfl rfl (Oper_eqV (⟨0, 0, 0, 0, 0, 0, 0, 0, 0, 0, 0, o.ks, o.bt, o.ra, o.bu, o.nd⟩ : Oper) (⟨0, 0, 0, 0, 0, 0, 0, 0, 0, 0, 0, 0, 0, 0, 0, 0⟩ : Oper)) (fun e77 => ?_) (fun e77 => ?_)
       ·
        refine WS.op rfl rfl (WS.op rfl rfl (WS.nil [(2, _)] rfl ?_))
        refine WC.ret ?_
        refine ⟨[_], (res_tmp rfl res_nil), ?_⟩
        first | exact ⟨mayOB_t ((mayO_1 (by omega)).2 ⟨by omega, AllS4.1 (of_decide_eq_true (by assumption)), by assumption⟩), M42.bare.take 0⟩ | exact ⟨mayOB_t ((mayO_2 (by omega)).2 ⟨by omega, by omega, by assumption⟩), M42.bare.take 0⟩ | exact ⟨mayOB_t ((mayO_3 (by omega)).2 (by assumption)), M42.bare.take 0⟩ | exact ⟨mayOB_t ((mayO_4 (by omega)).2 ⟨by omega, by assumption⟩), M42.bare.take 0⟩ | exact ⟨mayOB_t ((mayO_5 (by omega)).2 ⟨by omega, by assumption⟩), M42.bare.take 0⟩
       ·
        refine WS.op rfl rfl (WS.op rfl rfl (WS.nil [(2, _)] rfl ?_))
        refine WC.ret ?_
        refine ⟨[_], (res_tmp rfl res_nil), ?_⟩
        first | exact ⟨mayOB_f (fun q => by have q2 := (mayO_1 (by omega)).1 q; first | omega | exact absurd q2 (by assumption) | exact absurd q2.2 (by assumption) | exact absurd q2.2.2 (by assumption) | exact absurd (AllS4.2 q2.2.1) (of_decide_eq_false (by assumption))), M42.bare.take 0⟩ | exact ⟨mayOB_f (fun q => by have q2 := (mayO_2 (by omega)).1 q; first | omega | exact absurd q2 (by assumption) | exact absurd q2.2 (by assumption) | exact absurd q2.2.2 (by assumption) | exact absurd (AllS4.2 q2.2.1) (of_decide_eq_false (by assumption))), M42.bare.take 0⟩ | exact ⟨mayOB_f (fun q => by have q2 := (mayO_3 (by omega)).1 q; first | omega | exact absurd q2 (by assumption) | exact absurd q2.2 (by assumption) | exact absurd q2.2.2 (by assumption) | exact absurd (AllS4.2 q2.2.1) (of_decide_eq_false (by assumption))), M42.bare.take 0⟩ | exact ⟨mayOB_f (fun q => by have q2 := (mayO_4 (by omega)).1 q; first | omega | exact absurd q2 (by assumption) | exact absurd q2.2 (by assumption) | exact absurd q2.2.2 (by assumption) | exact absurd (AllS4.2 q2.2.1) (of_decide_eq_false (by assumption))), M42.bare.take 0⟩ | exact ⟨mayOB_f (fun q => by have q2 := (mayO_5 (by omega)).1 q; first | omega | exact absurd q2 (by assumption) | exact absurd q2.2 (by assumption) | exact absurd q2.2.2 (by assumption) | exact absurd (AllS4.2 q2.2.1) (of_decide_eq_false (by assumption))), M42.bare.take 0⟩ | exact ⟨mayOB_f (fun q => by have q2 := q.1; omega), M42.bare.take 0⟩
      ·
       refine WS.op rfl rfl (WS.op rfl rfl (WS.nil [(3, _), (4, _)] rfl ?_))
       refine WC.run ?_
       refine WS.opV (.agg #[(.int .u8 (0 : Int)), (.int .u8 (0 : Int)), (.int .u8 (0 : Int)), (.int .u8 (0 : Int)), (.int .u8 (0 : Int)), (.int .u8 (0 : Int)), (.int .u8 (0 : Int)), (.int .u8 (0 : Int))]) rfl rfl rfl (WS.op rfl rfl ?_)
       refine WS.st1 (M10.focus 0 rfl) [_] [_, _, _, _, _, _, _, _, _, _, _, _, _, _, _, _] rfl rfl rfl rfl rfl (Nat.le_of_ble_eq_true rfl) (Nat.le_of_ble_eq_true rfl) rfl rfl ?_
       intro h43 M44
       replace M44 : Mem _ _ ([(p4, _)] :: [(p1, _)] :: []) _ := M44
       refine WS.op rfl rfl ?_
       refine WS.st1 (M44.focus 0 rfl) [_, _, _, _, _, _, _, _] [_, _, _, _, _, _, _, _, _, _, _, _, _, _, _, _] rfl rfl rfl rfl rfl (Nat.le_of_ble_eq_true rfl) (Nat.le_of_ble_eq_true rfl) rfl rfl ?_
       intro h45 M46
       replace M46 : Mem _ _ ([(p4, _)] :: [(p1, _)] :: []) _ := M46
       refine WS.op rfl rfl ?_
       refine WS.st1 (M46.focus 0 rfl) [_] [_, _, _, _, _, _, _, _, _, _, _, _, _, _, _, _] rfl rfl rfl rfl rfl (Nat.le_of_ble_eq_true rfl) (Nat.le_of_ble_eq_true rfl) rfl rfl ?_
       intro h47 M48
       replace M48 : Mem _ _ ([(p4, _)] :: [(p1, _)] :: []) _ := M48
       refine WS.nil [(3, _), (4, _)] rfl ?_
       refine WC.seq ?_
       refine WC.run ?_
       refine WS.op rfl rfl (WS.op rfl rfl (WS.off rfl (WS.off rfl (WS.off rfl (WS.op rfl rfl (WS.op rfl rfl (WS.nil [(2, _)] rfl ?_)))))))
       refine WC.ret ?_
       refine ⟨[_], (res_tmp rfl res_nil), ?_⟩
       first | exact ⟨mayOB_f (fun q => by have q2 := (mayO_1 (by omega)).1 q; first | omega | exact absurd q2 (by assumption) | exact absurd q2.2 (by assumption) | exact absurd q2.2.2 (by assumption) | exact absurd (AllS4.2 q2.2.1) (of_decide_eq_false (by assumption))), M48.bare.take 0⟩ | exact ⟨mayOB_f (fun q => by have q2 := (mayO_2 (by omega)).1 q; first | omega | exact absurd q2 (by assumption) | exact absurd q2.2 (by assumption) | exact absurd q2.2.2 (by assumption) | exact absurd (AllS4.2 q2.2.1) (of_decide_eq_false (by assumption))), M48.bare.take 0⟩ | exact ⟨mayOB_f (fun q => by have q2 := (mayO_3 (by omega)).1 q; first | omega | exact absurd q2 (by assumption) | exact absurd q2.2 (by assumption) | exact absurd q2.2.2 (by assumption) | exact absurd (AllS4.2 q2.2.1) (of_decide_eq_false (by assumption))), M48.bare.take 0⟩ | exact ⟨mayOB_f (fun q => by have q2 := (mayO_4 (by omega)).1 q; first | omega | exact absurd q2 (by assumption) | exact absurd q2.2 (by assumption) | exact absurd q2.2.2 (by assumption) | exact absurd (AllS4.2 q2.2.1) (of_decide_eq_false (by assumption))), M48.bare.take 0⟩ | exact ⟨mayOB_f (fun q => by have q2 := (mayO_5 (by omega)).1 q; first | omega | exact absurd q2 (by assumption) | exact absurd q2.2 (by assumption) | exact absurd q2.2.2 (by assumption) | exact absurd (AllS4.2 q2.2.1) (of_decide_eq_false (by assumption))), M48.bare.take 0⟩ | exact ⟨mayOB_f (fun q => by have q2 := q.1; omega), M48.bare.take 0⟩
     ·
      refine WS.op rfl rfl (WS.op rfl rfl (WS.off rfl (WS.off rfl (WS.off rfl (WS.op rfl rfl (WS.op rfl rfl (WS.nil [(3, _), (4, _)] rfl ?_)))))))
      refine WC.run ?_
      refine WS.opV (.agg #[(.int .u8 (0 : Int)), (.int .u8 (0 : Int)), (.int .u8 (0 : Int)), (.int .u8 (0 : Int)), (.int .u8 (0 : Int)), (.int .u8 (0 : Int)), (.int .u8 (0 : Int)), (.int .u8 (0 : Int))]) rfl rfl rfl (WS.op rfl rfl ?_)
      refine WS.st1 (M10.focus 0 rfl) [_] [_, _, _, _, _, _, _, _, _, _, _, _, _, _, _, _] rfl rfl rfl rfl rfl (Nat.le_of_ble_eq_true rfl) (Nat.le_of_ble_eq_true rfl) rfl rfl ?_
      intro h49 M50
      replace M50 : Mem _ _ ([(p4, _)] :: [(p1, _)] :: []) _ := M50
      refine WS.op rfl rfl ?_
      refine WS.st1 (M50.focus 0 rfl) [_, _, _, _, _, _, _, _] [_, _, _, _, _, _, _, _, _, _, _, _, _, _, _, _] rfl rfl rfl rfl rfl (Nat.le_of_ble_eq_true rfl) (Nat.le_of_ble_eq_true rfl) rfl rfl ?_
      intro h51 M52
      replace M52 : Mem _ _ ([(p4, _)] :: [(p1, _)] :: []) _ := M52
      refine WS.op rfl rfl ?_
      refine WS.st1 (M52.focus 0 rfl) [_] [_, _, _, _, _, _, _, _, _, _, _, _, _, _, _, _] rfl rfl rfl rfl rfl (Nat.le_of_ble_eq_true rfl) (Nat.le_of_ble_eq_true rfl) rfl rfl ?_
      intro h53 M54
      replace M54 : Mem _ _ ([(p4, _)] :: [(p1, _)] :: []) _ := M54
      refine WS.nil [(3, _), (4, _)] rfl ?_
      refine WC.seq ?_
      refine WC.run ?_
      refine WS.op rfl rfl (WS.op rfl rfl (WS.off rfl (WS.off rfl (WS.off rfl (WS.op rfl rfl (WS.op rfl rfl (WS.nil [(2, _)] rfl ?_)))))))
      refine WC.ret ?_
      refine ⟨[_], (res_tmp rfl res_nil), ?_⟩
      first | exact ⟨mayOB_f (fun q => by have q2 := (mayO_1 (by omega)).1 q; first | omega | exact absurd q2 (by assumption) | exact absurd q2.2 (by assumption) | exact absurd q2.2.2 (by assumption) | exact absurd (AllS4.2 q2.2.1) (of_decide_eq_false (by assumption))), M54.bare.take 0⟩ | exact ⟨mayOB_f (fun q => by have q2 := (mayO_2 (by omega)).1 q; first | omega | exact absurd q2 (by assumption) | exact absurd q2.2 (by assumption) | exact absurd q2.2.2 (by assumption) | exact absurd (AllS4.2 q2.2.1) (of_decide_eq_false (by assumption))), M54.bare.take 0⟩ | exact ⟨mayOB_f (fun q => by have q2 := (mayO_3 (by omega)).1 q; first | omega | exact absurd q2 (by assumption) | exact absurd q2.2 (by assumption) | exact absurd q2.2.2 (by assumption) | exact absurd (AllS4.2 q2.2.1) (of_decide_eq_false (by assumption))), M54.bare.take 0⟩ | exact ⟨mayOB_f (fun q => by have q2 := (mayO_4 (by omega)).1 q; first | omega | exact absurd q2 (by assumption) | exact absurd q2.2 (by assumption) | exact absurd q2.2.2 (by assumption) | exact absurd (AllS4.2 q2.2.1) (of_decide_eq_false (by assumption))), M54.bare.take 0⟩ | exact ⟨mayOB_f (fun q => by have q2 := (mayO_5 (by omega)).1 q; first | omega | exact absurd q2 (by assumption) | exact absurd q2.2 (by assumption) | exact absurd q2.2.2 (by assumption) | exact absurd (AllS4.2 q2.2.1) (of_decide_eq_false (by assumption))), M54.bare.take 0⟩ | exact ⟨mayOB_f (fun q => by have q2 := q.1; omega), M54.bare.take 0⟩
    ·
     refine WS.op rfl rfl (WS.off rfl (WS.off rfl (WS.off rfl (WS.op rfl rfl (WS.op rfl rfl (WS.off rfl (WS.off rfl (WS.off rfl (WS.op rfl rfl ?_)))))))))
     refine WS.op rfl rfl (WS.nil [(3, _), (4, _)] rfl ?_)
     refine WC.run ?_
     refine WS.opV (.agg #[(.int .u8 (0 : Int)), (.int .u8 (0 : Int)), (.int .u8 (0 : Int)), (.int .u8 (0 : Int)), (.int .u8 (0 : Int)), (.int .u8 (0 : Int)), (.int .u8 (0 : Int)), (.int .u8 (0 : Int))]) rfl rfl rfl (WS.op rfl rfl ?_)
     refine WS.st1 (M10.focus 0 rfl) [_] [_, _, _, _, _, _, _, _, _, _, _, _, _, _, _, _] rfl rfl rfl rfl rfl (Nat.le_of_ble_eq_true rfl) (Nat.le_of_ble_eq_true rfl) rfl rfl ?_
     intro h55 M56
     replace M56 : Mem _ _ ([(p4, _)] :: [(p1, _)] :: []) _ := M56
     refine WS.op rfl rfl ?_
     refine WS.st1 (M56.focus 0 rfl) [_, _, _, _, _, _, _, _] [_, _, _, _, _, _, _, _, _, _, _, _, _, _, _, _] rfl rfl rfl rfl rfl (Nat.le_of_ble_eq_true rfl) (Nat.le_of_ble_eq_true rfl) rfl rfl ?_
     intro h57 M58
     replace M58 : Mem _ _ ([(p4, _)] :: [(p1, _)] :: []) _ := M58
     refine WS.op rfl rfl ?_
     refine WS.st1 (M58.focus 0 rfl) [_] [_, _, _, _, _, _, _, _, _, _, _, _, _, _, _, _] rfl rfl rfl rfl rfl (Nat.le_of_ble_eq_true rfl) (Nat.le_of_ble_eq_true rfl) rfl rfl ?_
     intro h59 M60
     replace M60 : Mem _ _ ([(p4, _)] :: [(p1, _)] :: []) _ := M60
     refine WS.nil [(3, _), (4, _)] rfl ?_
     refine WC.seq ?_
     refine WC.run ?_
     refine WS.op rfl rfl (WS.op rfl rfl (WS.off rfl (WS.off rfl (WS.off rfl (WS.op rfl rfl (WS.op rfl rfl (WS.nil [(2, _)] rfl ?_)))))))
     refine WC.ret ?_
     refine ⟨[_], (res_tmp rfl res_nil), ?_⟩
     first | exact ⟨mayOB_f (fun q => by have q2 := (mayO_1 (by omega)).1 q; first | omega | exact absurd q2 (by assumption) | exact absurd q2.2 (by assumption) | exact absurd q2.2.2 (by assumption) | exact absurd (AllS4.2 q2.2.1) (of_decide_eq_false (by assumption))), M60.bare.take 0⟩ | exact ⟨mayOB_f (fun q => by have q2 := (mayO_2 (by omega)).1 q; first | omega | exact absurd q2 (by assumption) | exact absurd q2.2 (by assumption) | exact absurd q2.2.2 (by assumption) | exact absurd (AllS4.2 q2.2.1) (of_decide_eq_false (by assumption))), M60.bare.take 0⟩ | exact ⟨mayOB_f (fun q => by have q2 := (mayO_3 (by omega)).1 q; first | omega | exact absurd q2 (by assumption) | exact absurd q2.2 (by assumption) | exact absurd q2.2.2 (by assumption) | exact absurd (AllS4.2 q2.2.1) (of_decide_eq_false (by assumption))), M60.bare.take 0⟩ | exact ⟨mayOB_f (fun q => by have q2 := (mayO_4 (by omega)).1 q; first | omega | exact absurd q2 (by assumption) | exact absurd q2.2 (by assumption) | exact absurd q2.2.2 (by assumption) | exact absurd (AllS4.2 q2.2.1) (of_decide_eq_false (by assumption))), M60.bare.take 0⟩ | exact ⟨mayOB_f (fun q => by have q2 := (mayO_5 (by omega)).1 q; first | omega | exact absurd q2 (by assumption) | exact absurd q2.2 (by assumption) | exact absurd q2.2.2 (by assumption) | exact absurd (AllS4.2 q2.2.1) (of_decide_eq_false (by assumption))), M60.bare.take 0⟩ | exact ⟨mayOB_f (fun q => by have q2 := q.1; omega), M60.bare.take 0⟩
   ·
    refine WS.op rfl rfl (WS.nil [(1, _), (3, _), (4, _), (8, _), (31, _)] rfl ?_)
    refine WC.condF rfl ?_
    refine WC.seq ?_
    refine WC.run ?_
    refine WS.eqlN (a := (o.op).toNat) (b := 3) rfl rfl rfl (fun e51 => ?_) (fun e51 => ?_)
    ·
     refine WS.op rfl rfl (WS.nil [(1, _), (3, _), (4, _), (8, _), (50, _)] rfl ?_)
     refine WC.condT rfl ?_
     refine WC.run ?_
     refine WS.opV (.agg #[(.int .u8 (0 : Int)), (.int .u8 (0 : Int)), (.int .u8 (0 : Int)), (.int .u8 (0 : Int)), (.int .u8 (0 : Int)), (.int .u8 (0 : Int)), (.int .u8 (0 : Int)), (.int .u8 (0 : Int))]) rfl rfl rfl (WS.op rfl rfl ?_)
     refine WS.st1 (M10.focus 0 rfl) [_, _, _, _, _, _, _, _] [_, _, _, _, _, _, _, _, _, _, _, _, _, _, _, _] rfl rfl rfl rfl rfl (Nat.le_of_ble_eq_true rfl) (Nat.le_of_ble_eq_true rfl) rfl rfl ?_
     intro h61 M62
     replace M62 : Mem _ _ ([(p4, _)] :: [(p1, _)] :: []) _ := M62
     refine WS.nil [(3, _), (4, _)] rfl ?_
     refine WC.seq ?_
     refine WC.run ?_
     refine WS.op rfl rfl (WS.op rfl rfl (WS.op rfl (op_lds [_, _, _, _, _, _, _, _, _, _, _, _, _, _, _, _] (M62.at 0 rfl) rfl (Nat.le_of_ble_eq_true rfl) rfl) (WS.opV (.agg #[(.int .u8 (0 : Int)), (.int .u8 (0 : Int)), (.int .u8 (0 : Int)), (.int .u8 (0 : Int)), (.int .u8 (0 : Int)), (.int .u8 (0 : Int)), (.int .u8 (0 : Int)), (.int .u8 (0 : Int)), (.int .u8 (0 : Int)), (.int .u8 (0 : Int)), (.int .u8 (0 : Int)), (.int .i64 (0 : Int)), (.int .i64 (0 : Int)), (.int .i64 (0 : Int)), (.int .i64 (0 : Int)), (.int .u8 (0 : Int))]) rfl rfl rfl ?_)))
     refine WS.eqqD (p := (⟨0, o.sl, 0, 0, 0, 0, 0, 0, 0, 0, o.ro, o.ks, o.bt, o.ra, o.bu, o.nd⟩ : Oper) = (⟨0, 0, 0, 0, 0, 0, 0, 0, 0, 0, 0, 0, 0, 0, 0, 0⟩ : Oper)) rfl rfl rfl (Oper_eqV (⟨0, o.sl, 0, 0, 0, 0, 0, 0, 0, 0, o.ro, o.ks, o.bt, o.ra, o.bu, o.nd⟩ : Oper) (⟨0, 0, 0, 0, 0, 0, 0, 0, 0, 0, 0, 0, 0, 0, 0, 0⟩ : Oper)) (fun e77 => ?_) (fun e77 => ?_)
     ·
      refine WS.op rfl rfl (WS.op rfl rfl (WS.nil [(2, _)] rfl ?_))
      refine WC.ret ?_
      refine ⟨[_], (res_tmp rfl res_nil), ?_⟩
      first | exact ⟨mayOB_t ((mayO_1 (by omega)).2 ⟨by omega, AllS4.1 (of_decide_eq_true (by assumption)), by assumption⟩), M62.bare.take 0⟩ | exact ⟨mayOB_t ((mayO_2 (by omega)).2 ⟨by omega, by omega, by assumption⟩), M62.bare.take 0⟩ | exact ⟨mayOB_t ((mayO_3 (by omega)).2 (by assumption)), M62.bare.take 0⟩ | exact ⟨mayOB_t ((mayO_4 (by omega)).2 ⟨by omega, by assumption⟩), M62.bare.take 0⟩ | exact ⟨mayOB_t ((mayO_5 (by omega)).2 ⟨by omega, by assumption⟩), M62.bare.take 0⟩
     ·
      refine WS.op rfl rfl (WS.op rfl rfl (WS.nil [(2, _)] rfl ?_))
      refine WC.ret ?_
      refine ⟨[_], (res_tmp rfl res_nil), ?_⟩
      first | exact ⟨mayOB_f (fun q => by have q2 := (mayO_1 (by omega)).1 q; first | omega | exact absurd q2 (by assumption) | exact absurd q2.2 (by assumption) | exact absurd q2.2.2 (by assumption) | exact absurd (AllS4.2 q2.2.1) (of_decide_eq_false (by assumption))), M62.bare.take 0⟩ | exact ⟨mayOB_f (fun q => by have q2 := (mayO_2 (by omega)).1 q; first | omega | exact absurd q2 (by assumption) | exact absurd q2.2 (by assumption) | exact absurd q2.2.2 (by assumption) | exact absurd (AllS4.2 q2.2.1) (of_decide_eq_false (by assumption))), M62.bare.take 0⟩ | exact ⟨mayOB_f (fun q => by have q2 := (mayO_3 (by omega)).1 q; first | omega | exact absurd q2 (by assumption) | exact absurd q2.2 (by assumption) | exact absurd q2.2.2 (by assumption) | exact absurd (AllS4.2 q2.2.1) (of_decide_eq_false (by assumption))), M62.bare.take 0⟩ | exact ⟨mayOB_f (fun q => by have q2 := (mayO_4 (by omega)).1 q; first | omega | exact absurd q2 (by assumption) | exact absurd q2.2 (by assumption) | exact absurd q2.2.2 (by assumption) | exact absurd (AllS4.2 q2.2.1) (of_decide_eq_false (by assumption))), M62.bare.take 0⟩ | exact ⟨mayOB_f (fun q => by have q2 := (mayO_5 (by omega)).1 q; first | omega | exact absurd q2 (by assumption) | exact absurd q2.2 (by assumption) | exact absurd q2.2.2 (by assumption) | exact absurd (AllS4.2 q2.2.1) (of_decide_eq_false (by assumption))), M62.bare.take 0⟩ | exact ⟨mayOB_f (fun q => by have q2 := q.1; omega), M62.bare.take 0⟩
    ·
     refine WS.op rfl rfl (WS.nil [(1, _), (3, _), (4, _), (8, _), (50, _)] rfl ?_)
     refine WC.condF rfl ?_
     refine WC.seq ?_
     refine WC.run ?_
     refine WS.eqlN (a := (o.op).toNat) (b := 4) rfl rfl rfl (fun e55 => ?_) (fun e55 => ?_)
     ·
      refine WS.op rfl rfl (WS.nil [(1, _), (3, _), (8, _), (54, _)] rfl ?_)
      refine WC.condT rfl ?_
      refine WC.seq ?_
      refine WC.run ?_
      refine WS.op rfl rfl (WS.op rfl (op_ld (M10.at 1 rfl) rfl rfl) ?_)
      refine WS.lssN (a := (o.sl).toNat) (b := 4) rfl rfl rfl (fun e58 => ?_) (fun e58 => ?_)
      ·
       refine WS.op rfl rfl (WS.nil [(3, _), (4, _)] rfl ?_)
       refine WC.run ?_
       refine WS.op rfl rfl ?_
       refine WS.st1 (M10.focus 0 rfl) [_] [_, _, _, _, _, _, _, _, _, _, _, _, _, _, _, _] rfl rfl rfl rfl rfl (Nat.le_of_ble_eq_true rfl) (Nat.le_of_ble_eq_true rfl) rfl rfl ?_
       intro h63 M64
       replace M64 : Mem _ _ ([(p4, _)] :: [(p1, _)] :: []) _ := M64
       refine WS.nil [(3, _), (4, _)] rfl ?_
       refine WC.seq ?_
       refine WC.run ?_
       refine WS.op rfl rfl (WS.op rfl rfl (WS.op rfl (op_lds [_, _, _, _, _, _, _, _, _, _, _, _, _, _, _, _] (M64.at 0 rfl) rfl (Nat.le_of_ble_eq_true rfl) rfl) (WS.opV (.agg #[(.int .u8 (0 : Int)), (.int .u8 (0 : Int)), (.int .u8 (0 : Int)), (.int .u8 (0 : Int)), (.int .u8 (0 : Int)), (.int .u8 (0 : Int)), (.int .u8 (0 : Int)), (.int .u8 (0 : Int)), (.int .u8 (0 : Int)), (.int .u8 (0 : Int)), (.int .u8 (0 : Int)), (.int .i64 (0 : Int)), (.int .i64 (0 : Int)), (.int .i64 (0 : Int)), (.int .i64 (0 : Int)), (.int .u8 (0 : Int))]) rfl rfl rfl ?_)))
       refine WS.eqqD (p := (⟨0, 0, o.t0, o.t1, o.t2, o.t3, o.t4, o.t5, o.t6, o.t7, o.ro, o.ks, o.bt, o.ra, o.bu, o.nd⟩ : Oper) = (⟨0, 0, 0, 0, 0, 0, 0, 0, 0, 0, 0, 0, 0, 0, 0, 0⟩ : Oper)) rfl rfl rfl (Oper_eqV (⟨0, 0, o.t0, o.t1, o.t2, o.t3, o.t4, o.t5, o.t6, o.t7, o.ro, o.ks, o.bt, o.ra, o.bu, o.nd⟩ : Oper) (⟨0, 0, 0, 0, 0, 0, 0, 0, 0, 0, 0, 0, 0, 0, 0, 0⟩ : Oper)) (fun e77 => ?_) (fun e77 => ?_)
       ·
        refine WS.op rfl rfl (WS.op rfl rfl (WS.nil [(2, _)] rfl ?_))
        refine WC.ret ?_
        refine ⟨[_], (res_tmp rfl res_nil), ?_⟩
        first | exact ⟨mayOB_t ((mayO_1 (by omega)).2 ⟨by omega, AllS4.1 (of_decide_eq_true (by assumption)), by assumption⟩), M64.bare.take 0⟩ | exact ⟨mayOB_t ((mayO_2 (by omega)).2 ⟨by omega, by omega, by assumption⟩), M64.bare.take 0⟩ | exact ⟨mayOB_t ((mayO_3 (by omega)).2 (by assumption)), M64.bare.take 0⟩ | exact ⟨mayOB_t ((mayO_4 (by omega)).2 ⟨by omega, by assumption⟩), M64.bare.take 0⟩ | exact ⟨mayOB_t ((mayO_5 (by omega)).2 ⟨by omega, by assumption⟩), M64.bare.take 0⟩
       ·
        refine WS.op rfl rfl (WS.op rfl rfl (WS.nil [(2, _)] rfl ?_))
        refine WC.ret ?_
        refine ⟨[_], (res_tmp rfl res_nil), ?_⟩
        first | exact ⟨mayOB_f (fun q => by have q2 := (mayO_1 (by omega)).1 q; first | omega | exact absurd q2 (by assumption) | exact absurd q2.2 (by assumption) | exact absurd q2.2.2 (by assumption) | exact absurd (AllS4.2 q2.2.1) (of_decide_eq_false (by assumption))), M64.bare.take 0⟩ | exact ⟨mayOB_f (fun q => by have q2 := (mayO_2 (by omega)).1 q; first | omega | exact absurd q2 (by assumption) | exact absurd q2.2 (by assumption) | exact absurd q2.2.2 (by assumption) | exact absurd (AllS4.2 q2.2.1) (of_decide_eq_false (by assumption))), M64.bare.take 0⟩ | exact ⟨mayOB_f (fun q => by have q2 := (mayO_3 (by omega)).1 q; first | omega | exact absurd q2 (by assumption) | exact absurd q2.2 (by assumption) | exact absurd q2.2.2 (by assumption) | exact absurd (AllS4.2 q2.2.1) (of_decide_eq_false (by assumption))), M64.bare.take 0⟩ | exact ⟨mayOB_f (fun q => by have q2 := (mayO_4 (by omega)).1 q; first | omega | exact absurd q2 (by assumption) | exact absurd q2.2 (by assumption) | exact absurd q2.2.2 (by assumption) | exact absurd (AllS4.2 q2.2.1) (of_decide_eq_false (by assumption))), M64.bare.take 0⟩ | exact ⟨mayOB_f (fun q => by have q2 := (mayO_5 (by omega)).1 q; first | omega | exact absurd q2 (by assumption) | exact absurd q2.2 (by assumption) | exact absurd q2.2.2 (by assumption) | exact absurd (AllS4.2 q2.2.1) (of_decide_eq_false (by assumption))), M64.bare.take 0⟩ | exact ⟨mayOB_f (fun q => by have q2 := q.1; omega), M64.bare.take 0⟩
      ·
       refine WS.op rfl rfl (WS.nil [(3, _), (4, _)] rfl ?_)
       refine WC.run ?_
       refine WS.op rfl rfl ?_
       refine WS.st1 (M10.focus 0 rfl) [_] [_, _, _, _, _, _, _, _, _, _, _, _, _, _, _, _] rfl rfl rfl rfl rfl (Nat.le_of_ble_eq_true rfl) (Nat.le_of_ble_eq_true rfl) rfl rfl ?_
       intro h65 M66
       replace M66 : Mem _ _ ([(p4, _)] :: [(p1, _)] :: []) _ := M66
       refine WS.nil [(3, _), (4, _)] rfl ?_
       refine WC.seq ?_
       refine WC.run ?_
       refine WS.op rfl rfl (WS.op rfl rfl (WS.off rfl (WS.off rfl (WS.off rfl (WS.op rfl rfl (WS.op rfl rfl (WS.nil [(2, _)] rfl ?_)))))))
       refine WC.ret ?_
       refine ⟨[_], (res_tmp rfl res_nil), ?_⟩
       first | exact ⟨mayOB_f (fun q => by have q2 := (mayO_1 (by omega)).1 q; first | omega | exact absurd q2 (by assumption) | exact absurd q2.2 (by assumption) | exact absurd q2.2.2 (by assumption) | exact absurd (AllS4.2 q2.2.1) (of_decide_eq_false (by assumption))), M66.bare.take 0⟩ | exact ⟨mayOB_f (fun q => by have q2 := (mayO_2 (by omega)).1 q; first | omega | exact absurd q2 (by assumption) | exact absurd q2.2 (by assumption) | exact absurd q2.2.2 (by assumption) | exact absurd (AllS4.2 q2.2.1) (of_decide_eq_false (by assumption))), M66.bare.take 0⟩ | exact ⟨mayOB_f (fun q => by have q2 := (mayO_3 (by omega)).1 q; first | omega | exact absurd q2 (by assumption) | exact absurd q2.2 (by assumption) | exact absurd q2.2.2 (by assumption) | exact absurd (AllS4.2 q2.2.1) (of_decide_eq_false (by assumption))), M66.bare.take 0⟩ | exact ⟨mayOB_f (fun q => by have q2 := (mayO_4 (by omega)).1 q; first | omega | exact absurd q2 (by assumption) | exact absurd q2.2 (by assumption) | exact absurd q2.2.2 (by assumption) | exact absurd (AllS4.2 q2.2.1) (of_decide_eq_false (by assumption))), M66.bare.take 0⟩ | exact ⟨mayOB_f (fun q => by have q2 := (mayO_5 (by omega)).1 q; first | omega | exact absurd q2 (by assumption) | exact absurd q2.2 (by assumption) | exact absurd q2.2.2 (by assumption) | exact absurd (AllS4.2 q2.2.1) (of_decide_eq_false (by assumption))), M66.bare.take 0⟩ | exact ⟨mayOB_f (fun q => by have q2 := q.1; omega), M66.bare.take 0⟩
     ·
      refine WS.op rfl rfl (WS.nil [(1, _), (3, _), (8, _), (54, _)] rfl ?_)
      refine WC.condF rfl ?_
      refine WC.seq ?_
      refine WC.seq ?_
      refine WC.run ?_
      refine WS.eqlN (a := (o.op).toNat) (b := 5) rfl rfl rfl (fun e61 => ?_) (fun e61 => ?_)
      ·
       refine WS.op rfl rfl (WS.nil [(1, _), (3, _), (8, _), (60, _)] rfl ?_)
       refine WC.condT rfl ?_
       refine WC.skip ?_
       refine WC.condT rfl ?_
       refine WC.seq ?_
       refine WC.run ?_
       refine WS.op rfl rfl (WS.op rfl (op_ld (M10.at 1 rfl) rfl rfl) ?_)
       refine WS.geqN (a := (o.nd).toNat) (b := 1) rfl rfl rfl (fun e66 => ?_) (fun e66 => ?_)
       ·
        refine WS.op rfl rfl (WS.op rfl rfl (WS.op rfl (op_ld (M10.at 1 rfl) rfl rfl) ?_))
        refine WS.leqN (a := (o.nd).toNat) (b := 5) rfl rfl rfl (fun e70 => ?_) (fun e70 => ?_)
        ·
         refine WS.op rfl rfl (WS.op rfl rfl (WS.nil [(3, _), (4, _)] rfl ?_))
         refine WC.run ?_
         refine WS.op rfl rfl ?_
         refine WS.st1 (M10.focus 0 rfl) [_] [_, _, _, _, _, _, _, _, _, _, _, _, _, _, _, _] rfl rfl rfl rfl rfl (Nat.le_of_ble_eq_true rfl) (Nat.le_of_ble_eq_true rfl) rfl rfl ?_
         intro h67 M68
         replace M68 : Mem _ _ ([(p4, _)] :: [(p1, _)] :: []) _ := M68
         refine WS.nil [(3, _), (4, _)] rfl ?_
         refine WC.seq ?_
         refine WC.run ?_
         refine WS.op rfl rfl (WS.op rfl rfl (WS.op rfl (op_lds [_, _, _, _, _, _, _, _, _, _, _, _, _, _, _, _] (M68.at 0 rfl) rfl (Nat.le_of_ble_eq_true rfl) rfl) (WS.opV (.agg #[(.int .u8 (0 : Int)), (.int .u8 (0 : Int)), (.int .u8 (0 : Int)), (.int .u8 (0 : Int)), (.int .u8 (0 : Int)), (.int .u8 (0 : Int)), (.int .u8 (0 : Int)), (.int .u8 (0 : Int)), (.int .u8 (0 : Int)), (.int .u8 (0 : Int)), (.int .u8 (0 : Int)), (.int .i64 (0 : Int)), (.int .i64 (0 : Int)), (.int .i64 (0 : Int)), (.int .i64 (0 : Int)), (.int .u8 (0 : Int))]) rfl rfl rfl ?_)))
         refine WS.eqqD (p := (⟨0, o.sl, o.t0, o.t1, o.t2, o.t3, o.t4, o.t5, o.t6, o.t7, o.ro, o.ks, o.bt, o.ra, o.bu, 0⟩ : Oper) = (⟨0, 0, 0, 0, 0, 0, 0, 0, 0, 0, 0, 0, 0, 0, 0, 0⟩ : Oper)) rfl rfl rfl (Oper_eqV (⟨0, o.sl, o.t0, o.t1, o.t2, o.t3, o.t4, o.t5, o.t6, o.t7, o.ro, o.ks, o.bt, o.ra, o.bu, 0⟩ : Oper) (⟨0, 0, 0, 0, 0, 0, 0, 0, 0, 0, 0, 0, 0, 0, 0, 0⟩ : Oper)) (fun e77 => ?_) (fun e77 => ?_)
         ·
          refine WS.op rfl rfl (WS.op rfl rfl (WS.nil [(2, _)] rfl ?_))
          refine WC.ret ?_
          refine ⟨[_], (res_tmp rfl res_nil), ?_⟩
          first | exact ⟨mayOB_t ((mayO_1 (by omega)).2 ⟨by omega, AllS4.1 (of_decide_eq_true (by assumption)), by assumption⟩), M68.bare.take 0⟩ | exact ⟨mayOB_t ((mayO_2 (by omega)).2 ⟨by omega, by omega, by assumption⟩), M68.bare.take 0⟩ | exact ⟨mayOB_t ((mayO_3 (by omega)).2 (by assumption)), M68.bare.take 0⟩ | exact ⟨mayOB_t ((mayO_4 (by omega)).2 ⟨by omega, by assumption⟩), M68.bare.take 0⟩ | exact ⟨mayOB_t ((mayO_5 (by omega)).2 ⟨by omega, by assumption⟩), M68.bare.take 0⟩
         ·
          refine WS.op rfl rfl (WS.op rfl rfl (WS.nil [(2, _)] rfl ?_))
          refine WC.ret ?_
          refine ⟨[_], (res_tmp rfl res_nil), ?_⟩
          first | exact ⟨mayOB_f (fun q => by have q2 := (mayO_1 (by omega)).1 q; first | omega | exact absurd q2 (by assumption) | exact absurd q2.2 (by assumption) | exact absurd q2.2.2 (by assumption) | exact absurd (AllS4.2 q2.2.1) (of_decide_eq_false (by assumption))), M68.bare.take 0⟩ | exact ⟨mayOB_f (fun q => by have q2 := (mayO_2 (by omega)).1 q; first | omega | exact absurd q2 (by assumption) | exact absurd q2.2 (by assumption) | exact absurd q2.2.2 (by assumption) | exact absurd (AllS4.2 q2.2.1) (of_decide_eq_false (by assumption))), M68.bare.take 0⟩ | exact ⟨mayOB_f (fun q => by have q2 := (mayO_3 (by omega)).1 q; first | omega | exact absurd q2 (by assumption) | exact absurd q2.2 (by assumption) | exact absurd q2.2.2 (by assumption) | exact absurd (AllS4.2 q2.2.1) (of_decide_eq_false (by assumption))), M68.bare.take 0⟩ | exact ⟨mayOB_f (fun q => by have q2 := (mayO_4 (by omega)).1 q; first | omega | exact absurd q2 (by assumption) | exact absurd q2.2 (by assumption) | exact absurd q2.2.2 (by assumption) | exact absurd (AllS4.2 q2.2.1) (of_decide_eq_false (by assumption))), M68.bare.take 0⟩ | exact ⟨mayOB_f (fun q => by have q2 := (mayO_5 (by omega)).1 q; first | omega | exact absurd q2 (by assumption) | exact absurd q2.2 (by assumption) | exact absurd q2.2.2 (by assumption) | exact absurd (AllS4.2 q2.2.1) (of_decide_eq_false (by assumption))), M68.bare.take 0⟩ | exact ⟨mayOB_f (fun q => by have q2 := q.1; omega), M68.bare.take 0⟩
        ·
         refine WS.op rfl rfl (WS.op rfl rfl (WS.nil [(3, _), (4, _)] rfl ?_))
         refine WC.run ?_
         refine WS.op rfl rfl ?_
         refine WS.st1 (M10.focus 0 rfl) [_] [_, _, _, _, _, _, _, _, _, _, _, _, _, _, _, _] rfl rfl rfl rfl rfl (Nat.le_of_ble_eq_true rfl) (Nat.le_of_ble_eq_true rfl) rfl rfl ?_
         intro h69 M70
         replace M70 : Mem _ _ ([(p4, _)] :: [(p1, _)] :: []) _ := M70
         refine WS.nil [(3, _), (4, _)] rfl ?_
         refine WC.seq ?_
         refine WC.run ?_
         refine WS.op rfl rfl (WS.op rfl rfl (WS.off rfl (WS.off rfl (WS.off rfl (WS.op rfl rfl (WS.op rfl rfl (WS.nil [(2, _)] rfl ?_)))))))
         refine WC.ret ?_
         refine ⟨[_], (res_tmp rfl res_nil), ?_⟩
         first | exact ⟨mayOB_f (fun q => by have q2 := (mayO_1 (by omega)).1 q; first | omega | exact absurd q2 (by assumption) | exact absurd q2.2 (by assumption) | exact absurd q2.2.2 (by assumption) | exact absurd (AllS4.2 q2.2.1) (of_decide_eq_false (by assumption))), M70.bare.take 0⟩ | exact ⟨mayOB_f (fun q => by have q2 := (mayO_2 (by omega)).1 q; first | omega | exact absurd q2 (by assumption) | exact absurd q2.2 (by assumption) | exact absurd q2.2.2 (by assumption) | exact absurd (AllS4.2 q2.2.1) (of_decide_eq_false (by assumption))), M70.bare.take 0⟩ | exact ⟨mayOB_f (fun q => by have q2 := (mayO_3 (by omega)).1 q; first | omega | exact absurd q2 (by assumption) | exact absurd q2.2 (by assumption) | exact absurd q2.2.2 (by assumption) | exact absurd (AllS4.2 q2.2.1) (of_decide_eq_false (by assumption))), M70.bare.take 0⟩ | exact ⟨mayOB_f (fun q => by have q2 := (mayO_4 (by omega)).1 q; first | omega | exact absurd q2 (by assumption) | exact absurd q2.2 (by assumption) | exact absurd q2.2.2 (by assumption) | exact absurd (AllS4.2 q2.2.1) (of_decide_eq_false (by assumption))), M70.bare.take 0⟩ | exact ⟨mayOB_f (fun q => by have q2 := (mayO_5 (by omega)).1 q; first | omega | exact absurd q2 (by assumption) | exact absurd q2.2 (by assumption) | exact absurd q2.2.2 (by assumption) | exact absurd (AllS4.2 q2.2.1) (of_decide_eq_false (by assumption))), M70.bare.take 0⟩ | exact ⟨mayOB_f (fun q => by have q2 := q.1; omega), M70.bare.take 0⟩
       ·
        refine WS.op rfl rfl (WS.off rfl (WS.off rfl (WS.off rfl (WS.op rfl rfl (WS.op rfl rfl (WS.nil [(3, _), (4, _)] rfl ?_))))))
        refine WC.run ?_
        refine WS.op rfl rfl ?_
        refine WS.st1 (M10.focus 0 rfl) [_] [_, _, _, _, _, _, _, _, _, _, _, _, _, _, _, _] rfl rfl rfl rfl rfl (Nat.le_of_ble_eq_true rfl) (Nat.le_of_ble_eq_true rfl) rfl rfl ?_
        intro h71 M72
        replace M72 : Mem _ _ ([(p4, _)] :: [(p1, _)] :: []) _ := M72
        refine WS.nil [(3, _), (4, _)] rfl ?_
        refine WC.seq ?_
        refine WC.run ?_
        refine WS.op rfl rfl (WS.op rfl rfl (WS.off rfl (WS.off rfl (WS.off rfl (WS.op rfl rfl (WS.op rfl rfl (WS.nil [(2, _)] rfl ?_)))))))
        refine WC.ret ?_
        refine ⟨[_], (res_tmp rfl res_nil), ?_⟩
        first | exact ⟨mayOB_f (fun q => by have q2 := (mayO_1 (by omega)).1 q; first | omega | exact absurd q2 (by assumption) | exact absurd q2.2 (by assumption) | exact absurd q2.2.2 (by assumption) | exact absurd (AllS4.2 q2.2.1) (of_decide_eq_false (by assumption))), M72.bare.take 0⟩ | exact ⟨mayOB_f (fun q => by have q2 := (mayO_2 (by omega)).1 q; first | omega | exact absurd q2 (by assumption) | exact absurd q2.2 (by assumption) | exact absurd q2.2.2 (by assumption) | exact absurd (AllS4.2 q2.2.1) (of_decide_eq_false (by assumption))), M72.bare.take 0⟩ | exact ⟨mayOB_f (fun q => by have q2 := (mayO_3 (by omega)).1 q; first | omega | exact absurd q2 (by assumption) | exact absurd q2.2 (by assumption) | exact absurd q2.2.2 (by assumption) | exact absurd (AllS4.2 q2.2.1) (of_decide_eq_false (by assumption))), M72.bare.take 0⟩ | exact ⟨mayOB_f (fun q => by have q2 := (mayO_4 (by omega)).1 q; first | omega | exact absurd q2 (by assumption) | exact absurd q2.2 (by assumption) | exact absurd q2.2.2 (by assumption) | exact absurd (AllS4.2 q2.2.1) (of_decide_eq_false (by assumption))), M72.bare.take 0⟩ | exact ⟨mayOB_f (fun q => by have q2 := (mayO_5 (by omega)).1 q; first | omega | exact absurd q2 (by assumption) | exact absurd q2.2 (by assumption) | exact absurd q2.2.2 (by assumption) | exact absurd (AllS4.2 q2.2.1) (of_decide_eq_false (by assumption))), M72.bare.take 0⟩ | exact ⟨mayOB_f (fun q => by have q2 := q.1; omega), M72.bare.take 0⟩
      ·
       refine WS.op rfl rfl (WS.nil [(1, _), (3, _), (8, _), (60, _)] rfl ?_)
       refine WC.condF rfl ?_
       refine WC.seq ?_
       refine WC.run ?_
       refine WS.eqlN (a := (o.op).toNat) (b := 6) rfl rfl rfl (fun e62 => ?_) (fun e62 => ?_)
       ·
        refine WS.op rfl rfl (WS.nil [(1, _), (3, _), (8, _), (60, _)] rfl ?_)
        refine WC.condT rfl ?_
        refine WC.skip ?_
        refine WC.condT rfl ?_
        refine WC.seq ?_
        refine WC.run ?_
        refine WS.op rfl rfl (WS.op rfl (op_ld (M10.at 1 rfl) rfl rfl) ?_)
        refine WS.geqN (a := (o.nd).toNat) (b := 1) rfl rfl rfl (fun e66 => ?_) (fun e66 => ?_)
        ·
         refine WS.op rfl rfl (WS.op rfl rfl (WS.op rfl (op_ld (M10.at 1 rfl) rfl rfl) ?_))
         refine WS.leqN (a := (o.nd).toNat) (b := 5) rfl rfl rfl (fun e70 => ?_) (fun e70 => ?_)
         ·
          refine WS.op rfl rfl (WS.op rfl rfl (WS.nil [(3, _), (4, _)] rfl ?_))
          refine WC.run ?_
          refine WS.op rfl rfl ?_
          refine WS.st1 (M10.focus 0 rfl) [_] [_, _, _, _, _, _, _, _, _, _, _, _, _, _, _, _] rfl rfl rfl rfl rfl (Nat.le_of_ble_eq_true rfl) (Nat.le_of_ble_eq_true rfl) rfl rfl ?_
          intro h73 M74
          replace M74 : Mem _ _ ([(p4, _)] :: [(p1, _)] :: []) _ := M74
          refine WS.nil [(3, _), (4, _)] rfl ?_
          refine WC.seq ?_
          refine WC.run ?_
          refine WS.op rfl rfl (WS.op rfl rfl (WS.op rfl (op_lds [_, _, _, _, _, _, _, _, _, _, _, _, _, _, _, _] (M74.at 0 rfl) rfl (Nat.le_of_ble_eq_true rfl) rfl) (WS.opV (.agg #[(.int .u8 (0 : Int)), (.int .u8 (0 : Int)), (.int .u8 (0 : Int)), (.int .u8 (0 : Int)), (.int .u8 (0 : Int)), (.int .u8 (0 : Int)), (.int .u8 (0 : Int)), (.int .u8 (0 : Int)), (.int .u8 (0 : Int)), (.int .u8 (0 : Int)), (.int .u8 (0 : Int)), (.int .i64 (0 : Int)), (.int .i64 (0 : Int)), (.int .i64 (0 : Int)), (.int .i64 (0 : Int)), (.int .u8 (0 : Int))]) rfl rfl rfl ?_)))
          refine WS.eqqD (p := (⟨0, o.sl, o.t0, o.t1, o.t2, o.t3, o.t4, o.t5, o.t6, o.t7, o.ro, o.ks, o.bt, o.ra, o.bu, 0⟩ : Oper) = (⟨0, 0, 0, 0, 0, 0, 0, 0, 0, 0, 0, 0, 0, 0, 0, 0⟩ : Oper)) rfl rfl rfl (Oper_eqV (⟨0, o.sl, o.t0, o.t1, o.t2, o.t3, o.t4, o.t5, o.t6, o.t7, o.ro, o.ks, o.bt, o.ra, o.bu, 0⟩ : Oper) (⟨0, 0, 0, 0, 0, 0, 0, 0, 0, 0, 0, 0, 0, 0, 0, 0⟩ : Oper)) (fun e77 => ?_) (fun e77 => ?_)
          ·
           refine WS.op rfl rfl (WS.op rfl rfl (WS.nil [(2, _)] rfl ?_))
           refine WC.ret ?_
           refine ⟨[_], (res_tmp rfl res_nil), ?_⟩
           first | exact ⟨mayOB_t ((mayO_1 (by omega)).2 ⟨by omega, AllS4.1 (of_decide_eq_true (by assumption)), by assumption⟩), M74.bare.take 0⟩ | exact ⟨mayOB_t ((mayO_2 (by omega)).2 ⟨by omega, by omega, by assumption⟩), M74.bare.take 0⟩ | exact ⟨mayOB_t ((mayO_3 (by omega)).2 (by assumption)), M74.bare.take 0⟩ | exact ⟨mayOB_t ((mayO_4 (by omega)).2 ⟨by omega, by assumption⟩), M74.bare.take 0⟩ | exact ⟨mayOB_t ((mayO_5 (by omega)).2 ⟨by omega, by assumption⟩), M74.bare.take 0⟩
          ·
           refine WS.op rfl rfl (WS.op rfl rfl (WS.nil [(2, _)] rfl ?_))
           refine WC.ret ?_
           refine ⟨[_], (res_tmp rfl res_nil), ?_⟩
           first | exact ⟨mayOB_f (fun q => by have q2 := (mayO_1 (by omega)).1 q; first | omega | exact absurd q2 (by assumption) | exact absurd q2.2 (by assumption) | exact absurd q2.2.2 (by assumption) | exact absurd (AllS4.2 q2.2.1) (of_decide_eq_false (by assumption))), M74.bare.take 0⟩ | exact ⟨mayOB_f (fun q => by have q2 := (mayO_2 (by omega)).1 q; first | omega | exact absurd q2 (by assumption) | exact absurd q2.2 (by assumption) | exact absurd q2.2.2 (by assumption) | exact absurd (AllS4.2 q2.2.1) (of_decide_eq_false (by assumption))), M74.bare.take 0⟩ | exact ⟨mayOB_f (fun q => by have q2 := (mayO_3 (by omega)).1 q; first | omega | exact absurd q2 (by assumption) | exact absurd q2.2 (by assumption) | exact absurd q2.2.2 (by assumption) | exact absurd (AllS4.2 q2.2.1) (of_decide_eq_false (by assumption))), M74.bare.take 0⟩ | exact ⟨mayOB_f (fun q => by have q2 := (mayO_4 (by omega)).1 q; first | omega | exact absurd q2 (by assumption) | exact absurd q2.2 (by assumption) | exact absurd q2.2.2 (by assumption) | exact absurd (AllS4.2 q2.2.1) (of_decide_eq_false (by assumption))), M74.bare.take 0⟩ | exact ⟨mayOB_f (fun q => by have q2 := (mayO_5 (by omega)).1 q; first | omega | exact absurd q2 (by assumption) | exact absurd q2.2 (by assumption) | exact absurd q2.2.2 (by assumption) | exact absurd (AllS4.2 q2.2.1) (of_decide_eq_false (by assumption))), M74.bare.take 0⟩ | exact ⟨mayOB_f (fun q => by have q2 := q.1; omega), M74.bare.take 0⟩
         ·
          refine WS.op rfl rfl (WS.op rfl rfl (WS.nil [(3, _), (4, _)] rfl ?_))
          refine WC.run ?_
          refine WS.op rfl rfl ?_
          refine WS.st1 (M10.focus 0 rfl) [_] [_, _, _, _, _, _, _, _, _, _, _, _, _, _, _, _] rfl rfl rfl rfl rfl (Nat.le_of_ble_eq_true rfl) (Nat.le_of_ble_eq_true rfl) rfl rfl ?_
          intro h75 M76
          replace M76 : Mem _ _ ([(p4, _)] :: [(p1, _)] :: []) _ := M76
          refine WS.nil [(3, _), (4, _)] rfl ?_
          refine WC.seq ?_
          refine WC.run ?_
          refine WS.op rfl rfl (WS.op rfl rfl (WS.off rfl (WS.off rfl (WS.off rfl (WS.op rfl rfl (WS.op rfl rfl (WS.nil [(2, _)] rfl ?_)))))))
          refine WC.ret ?_
          refine ⟨[_], (res_tmp rfl res_nil), ?_⟩
          first | exact ⟨mayOB_f (fun q => by have q2 := (mayO_1 (by omega)).1 q; first | omega | exact absurd q2 (by assumption) | exact absurd q2.2 (by assumption) | exact absurd q2.2.2 (by assumption) | exact absurd (AllS4.2 q2.2.1) (of_decide_eq_false (by assumption))), M76.bare.take 0⟩ | exact ⟨mayOB_f (fun q => by have q2 := (mayO_2 (by omega)).1 q; first | omega | exact absurd q2 (by assumption) | exact absurd q2.2 (by assumption) | exact absurd q2.2.2 (by assumption) | exact absurd (AllS4.2 q2.2.1) (of_decide_eq_false (by assumption))), M76.bare.take 0⟩ | exact ⟨mayOB_f (fun q => by have q2 := (mayO_3 (by omega)).1 q; first | omega | exact absurd q2 (by assumption) | exact absurd q2.2 (by assumption) | exact absurd q2.2.2 (by assumption) | exact absurd (AllS4.2 q2.2.1) (of_decide_eq_false (by assumption))), M76.bare.take 0⟩ | exact ⟨mayOB_f (fun q => by have q2 := (mayO_4 (by omega)).1 q; first | omega | exact absurd q2 (by assumption) | exact absurd q2.2 (by assumption) | exact absurd q2.2.2 (by assumption) | exact absurd (AllS4.2 q2.2.1) (of_decide_eq_false (by assumption))), M76.bare.take 0⟩ | exact ⟨mayOB_f (fun q => by have q2 := (mayO_5 (by omega)).1 q; first | omega | exact absurd q2 (by assumption) | exact absurd q2.2 (by assumption) | exact absurd q2.2.2 (by assumption) | exact absurd (AllS4.2 q2.2.1) (of_decide_eq_false (by assumption))), M76.bare.take 0⟩ | exact ⟨mayOB_f (fun q => by have q2 := q.1; omega), M76.bare.take 0⟩
        ·
         refine WS.op rfl rfl (WS.off rfl (WS.off rfl (WS.off rfl (WS.op rfl rfl (WS.op rfl rfl (WS.nil [(3, _), (4, _)] rfl ?_))))))
         refine WC.run ?_
         refine WS.op rfl rfl ?_
         refine WS.st1 (M10.focus 0 rfl) [_] [_, _, _, _, _, _, _, _, _, _, _, _, _, _, _, _] rfl rfl rfl rfl rfl (Nat.le_of_ble_eq_true rfl) (Nat.le_of_ble_eq_true rfl) rfl rfl ?_
         intro h77 M78
         replace M78 : Mem _ _ ([(p4, _)] :: [(p1, _)] :: []) _ := M78
         refine WS.nil [(3, _), (4, _)] rfl ?_
         refine WC.seq ?_
         refine WC.run ?_
         refine WS.op rfl rfl (WS.op rfl rfl (WS.off rfl (WS.off rfl (WS.off rfl (WS.op rfl rfl (WS.op rfl rfl (WS.nil [(2, _)] rfl ?_)))))))
         refine WC.ret ?_
         refine ⟨[_], (res_tmp rfl res_nil), ?_⟩
         first | exact ⟨mayOB_f (fun q => by have q2 := (mayO_1 (by omega)).1 q; first | omega | exact absurd q2 (by assumption) | exact absurd q2.2 (by assumption) | exact absurd q2.2.2 (by assumption) | exact absurd (AllS4.2 q2.2.1) (of_decide_eq_false (by assumption))), M78.bare.take 0⟩ | exact ⟨mayOB_f (fun q => by have q2 := (mayO_2 (by omega)).1 q; first | omega | exact absurd q2 (by assumption) | exact absurd q2.2 (by assumption) | exact absurd q2.2.2 (by assumption) | exact absurd (AllS4.2 q2.2.1) (of_decide_eq_false (by assumption))), M78.bare.take 0⟩ | exact ⟨mayOB_f (fun q => by have q2 := (mayO_3 (by omega)).1 q; first | omega | exact absurd q2 (by assumption) | exact absurd q2.2 (by assumption) | exact absurd q2.2.2 (by assumption) | exact absurd (AllS4.2 q2.2.1) (of_decide_eq_false (by assumption))), M78.bare.take 0⟩ | exact ⟨mayOB_f (fun q => by have q2 := (mayO_4 (by omega)).1 q; first | omega | exact absurd q2 (by assumption) | exact absurd q2.2 (by assumption) | exact absurd q2.2.2 (by assumption) | exact absurd (AllS4.2 q2.2.1) (of_decide_eq_false (by assumption))), M78.bare.take 0⟩ | exact ⟨mayOB_f (fun q => by have q2 := (mayO_5 (by omega)).1 q; first | omega | exact absurd q2 (by assumption) | exact absurd q2.2 (by assumption) | exact absurd q2.2.2 (by assumption) | exact absurd (AllS4.2 q2.2.1) (of_decide_eq_false (by assumption))), M78.bare.take 0⟩ | exact ⟨mayOB_f (fun q => by have q2 := q.1; omega), M78.bare.take 0⟩
       ·
        refine WS.op rfl rfl (WS.nil [(1, _), (3, _), (8, _), (60, _)] rfl ?_)
        refine WC.condF rfl ?_
        refine WC.run ?_
        refine WS.eqlN (a := (o.op).toNat) (b := 7) rfl rfl rfl (fun e63 => ?_) (fun e63 => ?_)
        ·
         refine WS.op rfl rfl (WS.nil [(1, _), (3, _), (60, _)] rfl ?_)
         refine WC.condT rfl ?_
         refine WC.seq ?_
         refine WC.run ?_
         refine WS.op rfl rfl (WS.op rfl (op_ld (M10.at 1 rfl) rfl rfl) ?_)
         refine WS.geqN (a := (o.nd).toNat) (b := 1) rfl rfl rfl (fun e66 => ?_) (fun e66 => ?_)
         ·
          refine WS.op rfl rfl (WS.op rfl rfl (WS.op rfl (op_ld (M10.at 1 rfl) rfl rfl) ?_))
          refine WS.leqN (a := (o.nd).toNat) (b := 5) rfl rfl rfl (fun e70 => ?_) (fun e70 => ?_)
          ·
           refine WS.op rfl rfl (WS.op rfl rfl (WS.nil [(3, _), (4, _)] rfl ?_))
           refine WC.run ?_
           refine WS.op rfl rfl ?_
           refine WS.st1 (M10.focus 0 rfl) [_] [_, _, _, _, _, _, _, _, _, _, _, _, _, _, _, _] rfl rfl rfl rfl rfl (Nat.le_of_ble_eq_true rfl) (Nat.le_of_ble_eq_true rfl) rfl rfl ?_
           intro h79 M80
           replace M80 : Mem _ _ ([(p4, _)] :: [(p1, _)] :: []) _ := M80
           refine WS.nil [(3, _), (4, _)] rfl ?_
           refine WC.seq ?_
           refine WC.run ?_
           refine WS.op rfl rfl (WS.op rfl rfl (WS.op rfl (op_lds [_, _, _, _, _, _, _, _, _, _, _, _, _, _, _, _] (M80.at 0 rfl) rfl (Nat.le_of_ble_eq_true rfl) rfl) (WS.opV (.agg #[(.int .u8 (0 : Int)), (.int .u8 (0 : Int)), (.int .u8 (0 : Int)), (.int .u8 (0 : Int)), (.int .u8 (0 : Int)), (.int .u8 (0 : Int)), (.int .u8 (0 : Int)), (.int .u8 (0 : Int)), (.int .u8 (0 : Int)), (.int .u8 (0 : Int)), (.int .u8 (0 : Int)), (.int .i64 (0 : Int)), (.int .i64 (0 : Int)), (.int .i64 (0 : Int)), (.int .i64 (0 : Int)), (.int .u8 (0 : Int))]) rfl rfl rfl ?_)))
           refine WS.eqqD (p := (⟨0, o.sl, o.t0, o.t1, o.t2, o.t3, o.t4, o.t5, o.t6, o.t7, o.ro, o.ks, o.bt, o.ra, o.bu, 0⟩ : Oper) = (⟨0, 0, 0, 0, 0, 0, 0, 0, 0, 0, 0, 0, 0, 0, 0, 0⟩ : Oper)) rfl rfl rfl (Oper_eqV (⟨0, o.sl, o.t0, o.t1, o.t2, o.t3, o.t4, o.t5, o.t6, o.t7, o.ro, o.ks, o.bt, o.ra, o.bu, 0⟩ : Oper) (⟨0, 0, 0, 0, 0, 0, 0, 0, 0, 0, 0, 0, 0, 0, 0, 0⟩ : Oper)) (fun e77 => ?_) (fun e77 => ?_)
           ·
            refine WS.op rfl rfl (WS.op rfl rfl (WS.nil [(2, _)] rfl ?_))
            refine WC.ret ?_
            refine ⟨[_], (res_tmp rfl res_nil), ?_⟩
            first | exact ⟨mayOB_t ((mayO_1 (by omega)).2 ⟨by omega, AllS4.1 (of_decide_eq_true (by assumption)), by assumption⟩), M80.bare.take 0⟩ | exact ⟨mayOB_t ((mayO_2 (by omega)).2 ⟨by omega, by omega, by assumption⟩), M80.bare.take 0⟩ | exact ⟨mayOB_t ((mayO_3 (by omega)).2 (by assumption)), M80.bare.take 0⟩ | exact ⟨mayOB_t ((mayO_4 (by omega)).2 ⟨by omega, by assumption⟩), M80.bare.take 0⟩ | exact ⟨mayOB_t ((mayO_5 (by omega)).2 ⟨by omega, by assumption⟩), M80.bare.take 0⟩
           ·
            refine WS.op rfl rfl (WS.op rfl rfl (WS.nil [(2, _)] rfl ?_))
            refine WC.ret ?_
            refine ⟨[_], (res_tmp rfl res_nil), ?_⟩
            first | exact ⟨mayOB_f (fun q => by have q2 := (mayO_1 (by omega)).1 q; first | omega | exact absurd q2 (by assumption) | exact absurd q2.2 (by assumption) | exact absurd q2.2.2 (by assumption) | exact absurd (AllS4.2 q2.2.1) (of_decide_eq_false (by assumption))), M80.bare.take 0⟩ | exact ⟨mayOB_f (fun q => by have q2 := (mayO_2 (by omega)).1 q; first | omega | exact absurd q2 (by assumption) | exact absurd q2.2 (by assumption) | exact absurd q2.2.2 (by assumption) | exact absurd (AllS4.2 q2.2.1) (of_decide_eq_false (by assumption))), M80.bare.take 0⟩ | exact ⟨mayOB_f (fun q => by have q2 := (mayO_3 (by omega)).1 q; first | omega | exact absurd q2 (by assumption) | exact absurd q2.2 (by assumption) | exact absurd q2.2.2 (by assumption) | exact absurd (AllS4.2 q2.2.1) (of_decide_eq_false (by assumption))), M80.bare.take 0⟩ | exact ⟨mayOB_f (fun q => by have q2 := (mayO_4 (by omega)).1 q; first | omega | exact absurd q2 (by assumption) | exact absurd q2.2 (by assumption) | exact absurd q2.2.2 (by assumption) | exact absurd (AllS4.2 q2.2.1) (of_decide_eq_false (by assumption))), M80.bare.take 0⟩ | exact ⟨mayOB_f (fun q => by have q2 := (mayO_5 (by omega)).1 q; first | omega | exact absurd q2 (by assumption) | exact absurd q2.2 (by assumption) | exact absurd q2.2.2 (by assumption) | exact absurd (AllS4.2 q2.2.1) (of_decide_eq_false (by assumption))), M80.bare.take 0⟩ | exact ⟨mayOB_f (fun q => by have q2 := q.1; omega), M80.bare.take 0⟩
          ·
           refine WS.op rfl rfl (WS.op rfl rfl (WS.nil [(3, _), (4, _)] rfl ?_))
           refine WC.run ?_
           refine WS.op rfl rfl ?_
           refine WS.st1 (M10.focus 0 rfl) [_] [_, _, _, _, _, _, _, _, _, _, _, _, _, _, _, _] rfl rfl rfl rfl rfl (Nat.le_of_ble_eq_true rfl) (Nat.le_of_ble_eq_true rfl) rfl rfl ?_
           intro h81 M82
           replace M82 : Mem _ _ ([(p4, _)] :: [(p1, _)] :: []) _ := M82
           refine WS.nil [(3, _), (4, _)] rfl ?_
           refine WC.seq ?_
           refine WC.run ?_
           refine WS.op rfl rfl (WS.op rfl rfl (WS.off rfl (WS.off rfl (WS.off rfl (WS.op rfl rfl (WS.op rfl rfl (WS.nil [(2, _)] rfl ?_)))))))
           refine WC.ret ?_
           refine ⟨[_], (res_tmp rfl res_nil), ?_⟩
           first | exact ⟨mayOB_f (fun q => by have q2 := (mayO_1 (by omega)).1 q; first | omega | exact absurd q2 (by assumption) | exact absurd q2.2 (by assumption) | exact absurd q2.2.2 (by assumption) | exact absurd (AllS4.2 q2.2.1) (of_decide_eq_false (by assumption))), M82.bare.take 0⟩ | exact ⟨mayOB_f (fun q => by have q2 := (mayO_2 (by omega)).1 q; first | omega | exact absurd q2 (by assumption) | exact absurd q2.2 (by assumption) | exact absurd q2.2.2 (by assumption) | exact absurd (AllS4.2 q2.2.1) (of_decide_eq_false (by assumption))), M82.bare.take 0⟩ | exact ⟨mayOB_f (fun q => by have q2 := (mayO_3 (by omega)).1 q; first | omega | exact absurd q2 (by assumption) | exact absurd q2.2 (by assumption) | exact absurd q2.2.2 (by assumption) | exact absurd (AllS4.2 q2.2.1) (of_decide_eq_false (by assumption))), M82.bare.take 0⟩ | exact ⟨mayOB_f (fun q => by have q2 := (mayO_4 (by omega)).1 q; first | omega | exact absurd q2 (by assumption) | exact absurd q2.2 (by assumption) | exact absurd q2.2.2 (by assumption) | exact absurd (AllS4.2 q2.2.1) (of_decide_eq_false (by assumption))), M82.bare.take 0⟩ | exact ⟨mayOB_f (fun q => by have q2 := (mayO_5 (by omega)).1 q; first | omega | exact absurd q2 (by assumption) | exact absurd q2.2 (by assumption) | exact absurd q2.2.2 (by assumption) | exact absurd (AllS4.2 q2.2.1) (of_decide_eq_false (by assumption))), M82.bare.take 0⟩ | exact ⟨mayOB_f (fun q => by have q2 := q.1; omega), M82.bare.take 0⟩
         ·
          refine WS.op rfl rfl (WS.off rfl (WS.off rfl (WS.off rfl (WS.op rfl rfl (WS.op rfl rfl (WS.nil [(3, _), (4, _)] rfl ?_))))))
          refine WC.run ?_
          refine WS.op rfl rfl ?_
          refine WS.st1 (M10.focus 0 rfl) [_] [_, _, _, _, _, _, _, _, _, _, _, _, _, _, _, _] rfl rfl rfl rfl rfl (Nat.le_of_ble_eq_true rfl) (Nat.le_of_ble_eq_true rfl) rfl rfl ?_
          intro h83 M84
          replace M84 : Mem _ _ ([(p4, _)] :: [(p1, _)] :: []) _ := M84
          refine WS.nil [(3, _), (4, _)] rfl ?_
          refine WC.seq ?_
          refine WC.run ?_
          refine WS.op rfl rfl (WS.op rfl rfl (WS.off rfl (WS.off rfl (WS.off rfl (WS.op rfl rfl (WS.op rfl rfl (WS.nil [(2, _)] rfl ?_)))))))
          refine WC.ret ?_
          refine ⟨[_], (res_tmp rfl res_nil), ?_⟩
          first | exact ⟨mayOB_f (fun q => by have q2 := (mayO_1 (by omega)).1 q; first | omega | exact absurd q2 (by assumption) | exact absurd q2.2 (by assumption) | exact absurd q2.2.2 (by assumption) | exact absurd (AllS4.2 q2.2.1) (of_decide_eq_false (by assumption))), M84.bare.take 0⟩ | exact ⟨mayOB_f (fun q => by have q2 := (mayO_2 (by omega)).1 q; first | omega | exact absurd q2 (by assumption) | exact absurd q2.2 (by assumption) | exact absurd q2.2.2 (by assumption) | exact absurd (AllS4.2 q2.2.1) (of_decide_eq_false (by assumption))), M84.bare.take 0⟩ | exact ⟨mayOB_f (fun q => by have q2 := (mayO_3 (by omega)).1 q; first | omega | exact absurd q2 (by assumption) | exact absurd q2.2 (by assumption) | exact absurd q2.2.2 (by assumption) | exact absurd (AllS4.2 q2.2.1) (of_decide_eq_false (by assumption))), M84.bare.take 0⟩ | exact ⟨mayOB_f (fun q => by have q2 := (mayO_4 (by omega)).1 q; first | omega | exact absurd q2 (by assumption) | exact absurd q2.2 (by assumption) | exact absurd q2.2.2 (by assumption) | exact absurd (AllS4.2 q2.2.1) (of_decide_eq_false (by assumption))), M84.bare.take 0⟩ | exact ⟨mayOB_f (fun q => by have q2 := (mayO_5 (by omega)).1 q; first | omega | exact absurd q2 (by assumption) | exact absurd q2.2 (by assumption) | exact absurd q2.2.2 (by assumption) | exact absurd (AllS4.2 q2.2.1) (of_decide_eq_false (by assumption))), M84.bare.take 0⟩ | exact ⟨mayOB_f (fun q => by have q2 := q.1; omega), M84.bare.take 0⟩
        ·
         refine WS.op rfl rfl (WS.nil [(1, _), (3, _), (60, _)] rfl ?_)
         refine WC.condF rfl ?_
         refine WC.seq ?_
         refine WC.run ?_
         refine WS.op rfl rfl (WS.nil [(2, _)] rfl ?_)
         refine WC.ret ?_
         refine ⟨[_], (res_tmp rfl res_nil), ?_⟩
         first | exact ⟨mayOB_f (fun q => by have q2 := (mayO_1 (by omega)).1 q; first | omega | exact absurd q2 (by assumption) | exact absurd q2.2 (by assumption) | exact absurd q2.2.2 (by assumption) | exact absurd (AllS4.2 q2.2.1) (of_decide_eq_false (by assumption))), M10.bare.take 0⟩ | exact ⟨mayOB_f (fun q => by have q2 := (mayO_2 (by omega)).1 q; first | omega | exact absurd q2 (by assumption) | exact absurd q2.2 (by assumption) | exact absurd q2.2.2 (by assumption) | exact absurd (AllS4.2 q2.2.1) (of_decide_eq_false (by assumption))), M10.bare.take 0⟩ | exact ⟨mayOB_f (fun q => by have q2 := (mayO_3 (by omega)).1 q; first | omega | exact absurd q2 (by assumption) | exact absurd q2.2 (by assumption) | exact absurd q2.2.2 (by assumption) | exact absurd (AllS4.2 q2.2.1) (of_decide_eq_false (by assumption))), M10.bare.take 0⟩ | exact ⟨mayOB_f (fun q => by have q2 := (mayO_4 (by omega)).1 q; first | omega | exact absurd q2 (by assumption) | exact absurd q2.2 (by assumption) | exact absurd q2.2.2 (by assumption) | exact absurd (AllS4.2 q2.2.1) (of_decide_eq_false (by assumption))), M10.bare.take 0⟩ | exact ⟨mayOB_f (fun q => by have q2 := (mayO_5 (by omega)).1 q; first | omega | exact absurd q2 (by assumption) | exact absurd q2.2 (by assumption) | exact absurd q2.2.2 (by assumption) | exact absurd (AllS4.2 q2.2.1) (of_decide_eq_false (by assumption))), M10.bare.take 0⟩ | exact ⟨mayOB_f (fun q => by have q2 := q.1; omega), M10.bare.take 0⟩
end Go.Proofs.Yteikngjiaboeaaa.Wt
namespace Go.Proofs.Yteikngjiaboeaaa.Wt
open Go Go.Proofs.Yteikngjiaboeaaa.Am Go.Proofs.Yteikngjiaboeaaa.IrAll
set_option linter.unusedVariables false
set_option linter.unusedSimpArgs false
variable {h base : H} {L : List Seg} {R : List Nat}
def nu (x : Int64) : UInt64 := UInt64.ofNat x.toInt.toNat
theorem nu_nat {x : Int64} (h : Sm x.toInt) : ((nu x).toNat : Int) = x.toInt := by
  unfold Sm at h
  have e : ∀ n : Nat, n < 18446744073709551616 → (UInt64.ofNat n).toNat = n := fun n hn => by simp [UInt64.toNat_ofNat']; omega
  unfold nu; rw [e _ (by omega)]; omega
theorem cvU {x : Int64} (h : Sm x.toInt) : Value.int .u64 (IntKind.u64.wrap x.toInt) = .int .u64 (((nu x).toNat : Nat) : Int) := by
  rw [← nu_nat h]; exact cv_u64 (n := (nu x).toNat) (UInt64.toNat_lt _)
theorem cvB {x : Int64} (h : Sm x.toInt) : Value.int .i64 (IntKind.i64.wrap ((min (nu x).toNat 4294967296 : Nat) : Int)) = .int .i64 x.toInt := by
  have hn := nu_nat h
  have h2 := h
  unfold Sm at h2
  have : min (nu x).toNat 4294967296 = (nu x).toNat := by omega
  rw [this, ← hn]; exact cv_i64 (n := (nu x).toNat) (by omega)
def Oper.tok (o : Oper) : List UInt8 := [o.t0, o.t1, o.t2, o.t3, o.t4, o.t5, o.t6, o.t7]
def encO (o : Oper) : List UInt8 :=
  if o.op.toNat = 1 then ((([o.op, o.sl] ++ vb (nu o.ks).toNat) ++ vb (nu o.bt).toNat) ++ vb (nu o.ra).toNat) ++ vb (nu o.bu).toNat
  else if o.op.toNat = 2 then ([o.op, o.sl] ++ o.tok) ++ [o.ro]
  else if o.op.toNat = 3 then [o.op] ++ o.tok
  else if o.op.toNat = 4 then [o.op, o.sl]
  else [o.op, o.nd]
theorem encO_1 {o : Oper} (h : o.op.toNat = 1) : encO o = ((([o.op, o.sl] ++ vb (nu o.ks).toNat) ++ vb (nu o.bt).toNat) ++ vb (nu o.ra).toNat) ++ vb (nu o.bu).toNat := if_pos h
theorem encO_2 {o : Oper} (h : o.op.toNat = 2) : encO o = ([o.op, o.sl] ++ o.tok) ++ [o.ro] := by unfold encO; rw [if_neg (by omega), if_pos h]
theorem encO_3 {o : Oper} (h : o.op.toNat = 3) : encO o = [o.op] ++ o.tok := by unfold encO; rw [if_neg (by omega), if_neg (by omega), if_pos h]
theorem encO_4 {o : Oper} (h : o.op.toNat = 4) : encO o = [o.op, o.sl] := by unfold encO; rw [if_neg (by omega), if_neg (by omega), if_neg (by omega), if_pos h]
theorem encO_5 {o : Oper} (h : 4 < o.op.toNat) : encO o = [o.op, o.nd] := by unfold encO; rw [if_neg (by omega), if_neg (by omega), if_neg (by omega), if_neg (by omega)]
def Sees8 (base : H) (L : List Seg) (p o : Nat) (cs : List Value) : Prop := ∃ B, (base.get p = some B ∨ [(p, B)] ∈ L) ∧ o + 8 ≤ B.cells.length ∧ (B.cells.drop o).take 8 = cs
theorem Sees8.get {p o : Nat} {cs : List Value} {L' : List Seg} (S : Sees8 base L p o cs) (M : Mem base h L' R) (hs : ∀ x ∈ L, x ∈ L') : h.lds ⟨p, o, none⟩ 8 = some cs := by
  obtain ⟨B, hb, hl, hc⟩ := S
  have : h.get p = some B := by
    rcases hb with hb | hb
    · exact M.sub _ _ hb
    · exact (M.own (p, B) (List.mem_flatten.2 ⟨_, hs _ hb, List.mem_singleton.2 rfl⟩)).1
  rw [lds_at this hl, hc]
theorem src8 {p o c : Nat} {l : List UInt8} (hl : l.length = 8) (hb : h.lds ⟨p, o, none⟩ 8 = some (KU8.flat l)) : KU8.Src h (.slice (some ⟨p, o, none⟩) 8 c) l := by
  refine ⟨by rw [hl]; rfl, ?_⟩
  simp only [srcCells]; rw [hl]; exact hb
theorem w_token_ran {w p o : Nat} {l c : List UInt8} {V : Value} {S : Seg} (O : KU8.Own V l S) (M : Mem base h (S :: [(w, ⟨[V], 0, false⟩)] :: L) []) (Z : Sees8 base L p o (KU8.flat c)) (hc : c.length = 8) (hl : l.length + 8 ≤ 10000000) : Cll tab0 100 [.pointer (some ⟨w, 0, none⟩), .pointer (some ⟨p, o, none⟩)] h (fun v h2 => ∃ V2 S2, KU8.Own V2 (l ++ c) S2 ∧ v = .tuple #[] ∧ Mem base h2 (S2 :: [(w, ⟨[V2], 0, false⟩)] :: L) []) := by
  obtain ⟨P, rfl⟩ := O.shape
  refine Cll.code rfl rfl ?_
  refine WC.env [(0, _), (1, _)] rfl ?_
  refine WC.draw M [] rfl ?_
  intro rb1 h2 M3
  refine WS.op rfl rfl (WS.op rfl rfl (WS.op rfl rfl (WS.op rfl rfl (WS.op rfl (op_ld (M3.at 1 rfl) rfl rfl) (WS.op rfl rfl (WS.op rfl rfl (WS.opV (.slice (some ⟨p, o, none⟩) 8 17) rfl rfl rfl ?_)))))))
  refine WS.app (l := l) (m := c) (O) (M3.focus 0 rfl) (src8 hc (Sees8.get Z M3 (by intro x hx; simp [hx]))) rfl (by omega) (by omega) rfl rfl rfl ?_
  intro V4 S5 h6 O7 M8
  obtain ⟨P9, rfl⟩ := Row.Own.shape O7
  refine WS.op rfl rfl (WS.op rfl rfl ?_)
  refine WS.st1 (M8.focus 1 rfl) [_] [_] rfl rfl rfl rfl rfl (Nat.le_of_ble_eq_true rfl) (Nat.le_of_ble_eq_true rfl) rfl rfl ?_
  intro h10 M11
  replace M11 : Mem _ _ ([(w, _)] :: S5 :: L) _ := M11
  refine WS.nil [] rfl ?_
  refine ⟨[], res_nil, ?_⟩
  exact ⟨_, _, O7, rfl, ((M11.bare.focus 0 rfl).focus 1 rfl)⟩
set_option maxRecDepth 8000 in
theorem walkO_ran {w p : Nat} {l : List UInt8} {o : Oper} {V : Value} {S : Seg} (hm : MayO o) (O : KU8.Own V l S) (M : Mem base h (S :: [(w, ⟨[V], 0, false⟩)] :: [(p, ⟨Oper.cells o, 0, false⟩)] :: L) []) (hl : l.length ≤ 10000) : Cll tab0 54 [.iface 85 (.pointer (some ⟨w, 0, none⟩)), .pointer (some ⟨p, 0, none⟩)] h (fun v h2 => ∃ V2 S2, KU8.Own V2 (l ++ encO o) S2 ∧ v = .tuple #[] ∧ Mem base h2 (S2 :: [(w, ⟨[V2], 0, false⟩)] :: [(p, ⟨Oper.cells o, 0, false⟩)] :: L) []) := by
  obtain ⟨P, rfl⟩ := O.shape
  obtain ⟨m1, m2, m3, m4, m5, b1, b2, b3, b4⟩ := id hm
  have v1 := vb_len (nu o.ks).toNat_lt
  have v2 := vb_len (nu o.bt).toNat_lt
  have v3 := vb_len (nu o.ra).toNat_lt
  have v4 := vb_len (nu o.bu).toNat_lt
  refine Cll.code rfl rfl ?_
  refine WC.env [(0, _), (1, _)] rfl ?_
  refine WC.seq ?_
  refine WC.draw M [] rfl ?_
  intro rb1 h2 M3
  refine WS.op rfl rfl (WS.op rfl rfl (WS.op rfl rfl (WS.op rfl rfl (WS.op rfl rfl (WS.op rfl rfl (WS.op rfl rfl ?_))))))
  refine WS.call rfl rfl rfl (w_byte_ran (c := o.op) O ((M3.focus 1 rfl).focus 1 rfl) ⟨_, .inr (List.Mem.head _), rfl⟩ (by first | omega | (simp only [List.length_append, List.length_cons, List.length_nil]; omega))) ?_
  rintro _ h4 ⟨V6, S7, O8, rfl, M5⟩
  obtain ⟨P9, rfl⟩ := O8.shape
  replace M5 : Mem _ _ (S7 :: [(w, _)] :: [(p, _)] :: L) _ := M5
  refine WS.nil [(0, _), (1, _)] rfl ?_
  refine WC.seq ?_
  refine WC.run ?_
  refine WS.op rfl rfl (WS.op rfl rfl (WS.op rfl rfl (WS.op rfl (op_ld (M5.bare.at 2 rfl) rfl rfl) (WS.nil [(0, _), (1, _), (18, _)] rfl ?_))))
  refine WC.block ?_
  refine WC.seq ?_
  refine WC.run ?_
  refine WS.eqlN (a := (o.op).toNat) (b := 1) rfl rfl rfl (fun e20 => ?_) (fun e20 => ?_)
  ·
   refine WS.op rfl rfl (WS.nil [(0, _), (1, _), (18, _), (19, _)] rfl ?_)
   refine WC.condT rfl ?_
   refine WC.seq ?_
   refine WC.draw M5.bare [] rfl ?_
   intro rb10 h11 M12
   refine WS.op rfl rfl (WS.op rfl rfl (WS.op rfl rfl (WS.op rfl rfl (WS.op rfl rfl (WS.op rfl rfl (WS.op rfl rfl ?_))))))
   refine WS.call rfl rfl rfl (w_byte_ran (c := o.sl) O8 ((M12.focus 1 rfl).focus 1 rfl) ⟨_, .inr (List.Mem.head _), rfl⟩ (by first | omega | (simp only [List.length_append, List.length_cons, List.length_nil]; omega))) ?_
   rintro _ h13 ⟨V15, S16, O17, rfl, M14⟩
   obtain ⟨P18, rfl⟩ := O17.shape
   replace M14 : Mem _ _ (S16 :: [(w, _)] :: [(p, _)] :: L) _ := M14
   refine WS.nil [(0, _), (1, _)] rfl ?_
   refine WC.seq ?_
   refine WC.draw M14.bare [12] rfl ?_
   intro rb19 h20 M21
   refine WS.op rfl rfl (WS.op rfl rfl (WS.op rfl rfl (WS.op rfl rfl (WS.op rfl rfl (WS.op rfl rfl (WS.op rfl rfl (WS.op rfl rfl (WS.op rfl rfl (WS.op rfl rfl ?_)))))))))
   refine WS.op rfl rfl (WS.op rfl rfl (WS.op rfl rfl ?_))
   refine WS.bslA M21 [_, _, _, _] 0 rfl rfl rfl rfl rfl ?_
   intro h23 M24
   refine WS.op rfl rfl (WS.nil [(0, _), (41, _), (42, _), (43, _)] rfl ?_)
   refine WC.block ?_
   refine WC.unroll [(0, _), (41, _), (42, _), (43, _)] rfl ?_
   refine WC.seq ?_
   refine WC.run ?_
   refine WS.opV (.bool true) rfl rfl rfl (WS.nil [(0, _), (41, _), (42, _), (43, _), (44, _)] rfl ?_)
   refine WC.seq ?_
   refine WC.condT rfl ?_
   refine WC.skip ?_
   refine WC.seq ?_
   refine WC.block ?_
   refine WC.seq ?_
   refine WC.run ?_
   refine WS.op rfl rfl (WS.op rfl (op_ld (M24.bare.at 0 rfl) rfl rfl) (WS.op rfl rfl (WS.nil [(0, _), (5, _), (41, _), (42, _), (43, _)] rfl ?_)))
   refine WC.seq ?_
   refine WC.run ?_
   refine WS.op rfl rfl (WS.op rfl rfl (WS.op rfl (op_ld (M24.bare.at 3 rfl) rfl rfl) (WS.opV (.int .u64 (((nu o.ks).toNat : Nat) : Int)) rfl rfl (cvU (by assumption)) ?_)))
   refine WS.new M24.bare rfl ?_
   intro p25 h26 M27
   refine WS.st1 (M27.focus 0 rfl) [_] [_] rfl rfl rfl rfl rfl (Nat.le_of_ble_eq_true rfl) (Nat.le_of_ble_eq_true rfl) rfl rfl ?_
   intro h28 M29
   replace M29 : Mem _ _ ([(p25, _)] :: [((rb19 + 12), _)] :: S16 :: [(w, _)] :: [(p, _)] :: L) _ := M29
   refine WS.nil [(0, _), (5, _), (6, _), (41, _), (42, _), (43, _)] rfl ?_
   refine WC.seq ?_
   refine WC.run ?_
   refine WS.op rfl rfl ?_
   refine WS.call rfl rfl rfl (w_number_ran (c := (nu o.ks)) O17 ((M29.focus 3 rfl).focus 3 rfl) ⟨_, .inr (List.Mem.head _), rfl⟩ (by first | omega | (simp only [List.length_append, List.length_cons, List.length_nil]; omega))) ?_
   rintro _ h30 ⟨V32, S33, O34, rfl, M31⟩
   obtain ⟨P35, rfl⟩ := O34.shape
   replace M31 : Mem _ _ (S33 :: [(w, _)] :: [(p25, _)] :: [((rb19 + 12), _)] :: [(p, _)] :: L) _ := M31
   refine WS.nil [(0, _), (5, _), (6, _), (41, _), (42, _), (43, _)] rfl ?_
   refine WC.run ?_
   refine WS.op rfl rfl (WS.op rfl (op_ld (M31.at 2 rfl) rfl rfl) (WS.opV (.int .u64 (((min ((nu o.ks).toNat) 4294967296) : Nat) : Int)) rfl rfl (mm_min (a := (nu o.ks).toNat) (b := 4294967296)) (WS.opV (.int .i64 o.ks.toInt) rfl rfl (cvB (by assumption)) (WS.op rfl rfl ?_))))
   refine WS.st1 (M31.focus 4 rfl) [_] [_, _, _, _, _, _, _, _, _, _, _, _, _, _, _, _] rfl rfl rfl rfl rfl (Nat.le_of_ble_eq_true rfl) (Nat.le_of_ble_eq_true rfl) rfl rfl ?_
   intro h36 M37
   replace M37 : Mem _ _ ([(p, _)] :: S33 :: [(w, _)] :: [(p25, _)] :: [((rb19 + 12), _)] :: L) _ := M37
   refine WS.nil [(0, _), (41, _), (42, _), (43, _)] rfl ?_
   refine WC.run ?_
   refine WS.opV (.int .i64 1) rfl rfl rfl (WS.op rfl rfl (WS.nil [(0, _), (41, _), (42, _), (43, _)] rfl ?_))
   refine WC.unroll [(0, _), (41, _), (42, _), (43, _)] rfl ?_
   refine WC.seq ?_
   refine WC.run ?_
   refine WS.opV (.bool true) rfl rfl rfl (WS.nil [(0, _), (41, _), (42, _), (43, _), (44, _)] rfl ?_)
   refine WC.seq ?_
   refine WC.condT rfl ?_
   refine WC.skip ?_
   refine WC.seq ?_
   refine WC.block ?_
   refine WC.seq ?_
   refine WC.run ?_
   refine WS.op rfl rfl (WS.op rfl (op_ld (M37.at 4 rfl) rfl rfl) (WS.op rfl rfl (WS.nil [(0, _), (5, _), (41, _), (42, _), (43, _)] rfl ?_)))
   refine WC.seq ?_
   refine WC.run ?_
   refine WS.op rfl rfl (WS.op rfl rfl (WS.op rfl (op_ld (M37.at 0 rfl) rfl rfl) (WS.opV (.int .u64 (((nu o.bt).toNat : Nat) : Int)) rfl rfl (cvU (by assumption)) ?_)))
   refine WS.new M37 rfl ?_
   intro p38 h39 M40
   refine WS.st1 (M40.focus 0 rfl) [_] [_] rfl rfl rfl rfl rfl (Nat.le_of_ble_eq_true rfl) (Nat.le_of_ble_eq_true rfl) rfl rfl ?_
   intro h41 M42
   replace M42 : Mem _ _ ([(p38, _)] :: [(p, _)] :: S33 :: [(w, _)] :: [(p25, _)] :: [((rb19 + 12), _)] :: L) _ := M42
   refine WS.nil [(0, _), (5, _), (6, _), (41, _), (42, _), (43, _)] rfl ?_
   refine WC.seq ?_
   refine WC.run ?_
   refine WS.op rfl rfl ?_
   refine WS.call rfl rfl rfl (w_number_ran (c := (nu o.bt)) O34 ((M42.focus 3 rfl).focus 3 rfl) ⟨_, .inr (List.Mem.head _), rfl⟩ (by first | omega | (simp only [List.length_append, List.length_cons, List.length_nil]; omega))) ?_
   rintro _ h43 ⟨V45, S46, O47, rfl, M44⟩
   obtain ⟨P48, rfl⟩ := O47.shape
   replace M44 : Mem _ _ (S46 :: [(w, _)] :: [(p38, _)] :: [(p, _)] :: [(p25, _)] :: [((rb19 + 12), _)] :: L) _ := M44
   refine WS.nil [(0, _), (5, _), (6, _), (41, _), (42, _), (43, _)] rfl ?_
   refine WC.run ?_
   refine WS.op rfl rfl (WS.op rfl (op_ld (M44.at 2 rfl) rfl rfl) (WS.opV (.int .u64 (((min ((nu o.bt).toNat) 4294967296) : Nat) : Int)) rfl rfl (mm_min (a := (nu o.bt).toNat) (b := 4294967296)) (WS.opV (.int .i64 o.bt.toInt) rfl rfl (cvB (by assumption)) (WS.op rfl rfl ?_))))
   refine WS.st1 (M44.focus 3 rfl) [_] [_, _, _, _, _, _, _, _, _, _, _, _, _, _, _, _] rfl rfl rfl rfl rfl (Nat.le_of_ble_eq_true rfl) (Nat.le_of_ble_eq_true rfl) rfl rfl ?_
   intro h49 M50
   replace M50 : Mem _ _ ([(p, _)] :: S46 :: [(w, _)] :: [(p38, _)] :: [(p25, _)] :: [((rb19 + 12), _)] :: L) _ := M50
   refine WS.nil [(0, _), (41, _), (42, _), (43, _)] rfl ?_
   refine WC.run ?_
   refine WS.opV (.int .i64 2) rfl rfl rfl (WS.op rfl rfl (WS.nil [(0, _), (41, _), (42, _), (43, _)] rfl ?_))
   refine WC.unroll [(0, _), (41, _), (42, _), (43, _)] rfl ?_
   refine WC.seq ?_
   refine WC.run ?_
   refine WS.opV (.bool true) rfl rfl rfl (WS.nil [(0, _), (41, _), (42, _), (43, _), (44, _)] rfl ?_)
   refine WC.seq ?_
   refine WC.condT rfl ?_
   refine WC.skip ?_
   refine WC.seq ?_
   refine WC.block ?_
   refine WC.seq ?_
   refine WC.run ?_
   refine WS.op rfl rfl (WS.op rfl (op_ld (M50.at 5 rfl) rfl rfl) (WS.op rfl rfl (WS.nil [(0, _), (5, _), (41, _), (42, _), (43, _)] rfl ?_)))
   refine WC.seq ?_
   refine WC.run ?_
   refine WS.op rfl rfl (WS.op rfl rfl (WS.op rfl (op_ld (M50.at 0 rfl) rfl rfl) (WS.opV (.int .u64 (((nu o.ra).toNat : Nat) : Int)) rfl rfl (cvU (by assumption)) ?_)))
   refine WS.new M50 rfl ?_
   intro p51 h52 M53
   refine WS.st1 (M53.focus 0 rfl) [_] [_] rfl rfl rfl rfl rfl (Nat.le_of_ble_eq_true rfl) (Nat.le_of_ble_eq_true rfl) rfl rfl ?_
   intro h54 M55
   replace M55 : Mem _ _ ([(p51, _)] :: [(p, _)] :: S46 :: [(w, _)] :: [(p38, _)] :: [(p25, _)] :: [((rb19 + 12), _)] :: L) _ := M55
   refine WS.nil [(0, _), (5, _), (6, _), (41, _), (42, _), (43, _)] rfl ?_
   refine WC.seq ?_
   refine WC.run ?_
   refine WS.op rfl rfl ?_
   refine WS.call rfl rfl rfl (w_number_ran (c := (nu o.ra)) O47 ((M55.focus 3 rfl).focus 3 rfl) ⟨_, .inr (List.Mem.head _), rfl⟩ (by first | omega | (simp only [List.length_append, List.length_cons, List.length_nil]; omega))) ?_
   rintro _ h56 ⟨V58, S59, O60, rfl, M57⟩
   obtain ⟨P61, rfl⟩ := O60.shape
   replace M57 : Mem _ _ (S59 :: [(w, _)] :: [(p51, _)] :: [(p, _)] :: [(p38, _)] :: [(p25, _)] :: [((rb19 + 12), _)] :: L) _ := M57
   refine WS.nil [(0, _), (5, _), (6, _), (41, _), (42, _), (43, _)] rfl ?_
   refine WC.run ?_
   refine WS.op rfl rfl (WS.op rfl (op_ld (M57.at 2 rfl) rfl rfl) (WS.opV (.int .u64 (((min ((nu o.ra).toNat) 4294967296) : Nat) : Int)) rfl rfl (mm_min (a := (nu o.ra).toNat) (b := 4294967296)) (WS.opV (.int .i64 o.ra.toInt) rfl rfl (cvB (by assumption)) (WS.op rfl rfl ?_))))
   refine WS.st1 (M57.focus 3 rfl) [_] [_, _, _, _, _, _, _, _, _, _, _, _, _, _, _, _] rfl rfl rfl rfl rfl (Nat.le_of_ble_eq_true rfl) (Nat.le_of_ble_eq_true rfl) rfl rfl ?_
   intro h62 M63
   replace M63 : Mem _ _ ([(p, _)] :: S59 :: [(w, _)] :: [(p51, _)] :: [(p38, _)] :: [(p25, _)] :: [((rb19 + 12), _)] :: L) _ := M63
   refine WS.nil [(0, _), (41, _), (42, _), (43, _)] rfl ?_
   refine WC.run ?_
   refine WS.opV (.int .i64 3) rfl rfl rfl (WS.op rfl rfl (WS.nil [(0, _), (41, _), (42, _), (43, _)] rfl ?_))
   refine WC.unroll [(0, _), (41, _), (42, _), (43, _)] rfl ?_
   refine WC.seq ?_
   refine WC.run ?_
   refine WS.opV (.bool true) rfl rfl rfl (WS.nil [(0, _), (41, _), (42, _), (43, _), (44, _)] rfl ?_)
   refine WC.seq ?_
   refine WC.condT rfl ?_
   refine WC.skip ?_
   refine WC.seq ?_
   refine WC.block ?_
   refine WC.seq ?_
   refine WC.run ?_
   refine WS.op rfl rfl (WS.op rfl (op_ld (M63.at 6 rfl) rfl rfl) (WS.op rfl rfl (WS.nil [(0, _), (5, _), (41, _), (42, _), (43, _)] rfl ?_)))
   refine WC.seq ?_
   refine WC.run ?_
   refine WS.op rfl rfl (WS.op rfl rfl (WS.op rfl (op_ld (M63.at 0 rfl) rfl rfl) (WS.opV (.int .u64 (((nu o.bu).toNat : Nat) : Int)) rfl rfl (cvU (by assumption)) ?_)))
   refine WS.new M63 rfl ?_
   intro p64 h65 M66
   refine WS.st1 (M66.focus 0 rfl) [_] [_] rfl rfl rfl rfl rfl (Nat.le_of_ble_eq_true rfl) (Nat.le_of_ble_eq_true rfl) rfl rfl ?_
   intro h67 M68
   replace M68 : Mem _ _ ([(p64, _)] :: [(p, _)] :: S59 :: [(w, _)] :: [(p51, _)] :: [(p38, _)] :: [(p25, _)] :: [((rb19 + 12), _)] :: L) _ := M68
   refine WS.nil [(0, _), (5, _), (6, _), (41, _), (42, _), (43, _)] rfl ?_
   refine WC.seq ?_
   refine WC.run ?_
   refine WS.op rfl rfl ?_
   refine WS.call rfl rfl rfl (w_number_ran (c := (nu o.bu)) O60 ((M68.focus 3 rfl).focus 3 rfl) ⟨_, .inr (List.Mem.head _), rfl⟩ (by first | omega | (simp only [List.length_append, List.length_cons, List.length_nil]; omega))) ?_
   rintro _ h69 ⟨V71, S72, O73, rfl, M70⟩
   obtain ⟨P74, rfl⟩ := O73.shape
   replace M70 : Mem _ _ (S72 :: [(w, _)] :: [(p64, _)] :: [(p, _)] :: [(p51, _)] :: [(p38, _)] :: [(p25, _)] :: [((rb19 + 12), _)] :: L) _ := M70
   refine WS.nil [(0, _), (5, _), (6, _), (41, _), (42, _), (43, _)] rfl ?_
   refine WC.run ?_
   refine WS.op rfl rfl (WS.op rfl (op_ld (M70.at 2 rfl) rfl rfl) (WS.opV (.int .u64 (((min ((nu o.bu).toNat) 4294967296) : Nat) : Int)) rfl rfl (mm_min (a := (nu o.bu).toNat) (b := 4294967296)) (WS.opV (.int .i64 o.bu.toInt) rfl rfl (cvB (by assumption)) (WS.op rfl rfl ?_))))
   refine WS.st1 (M70.focus 3 rfl) [_] [_, _, _, _, _, _, _, _, _, _, _, _, _, _, _, _] rfl rfl rfl rfl rfl (Nat.le_of_ble_eq_true rfl) (Nat.le_of_ble_eq_true rfl) rfl rfl ?_
   intro h75 M76
   replace M76 : Mem _ _ ([(p, _)] :: S72 :: [(w, _)] :: [(p64, _)] :: [(p51, _)] :: [(p38, _)] :: [(p25, _)] :: [((rb19 + 12), _)] :: L) _ := M76
   refine WS.nil [(0, _), (41, _), (42, _), (43, _)] rfl ?_
   refine WC.run ?_
   refine WS.opV (.int .i64 4) rfl rfl rfl (WS.op rfl rfl (WS.nil [(0, _), (41, _), (42, _), (43, _)] rfl ?_))
   refine WC.unroll [(0, _), (41, _), (42, _), (43, _)] rfl ?_
   refine WC.seq ?_
   refine WC.run ?_
   refine WS.opV (.bool false) rfl rfl rfl (WS.nil [(0, _), (41, _), (42, _), (43, _), (44, _)] rfl ?_)
   refine WC.seq ?_
   refine WC.condF rfl ?_
   refine WC.exit ?_
   refine ⟨[], res_nil, ?_⟩
   have q3 : l ++ encO o = ((((((l ++ [o.op]) ++ [o.sl]) ++ (vb (nu o.ks).toNat)) ++ (vb (nu o.bt).toNat)) ++ (vb (nu o.ra).toNat)) ++ (vb (nu o.bu).toNat)) := by rw [encO_1 (by omega)]; simp [Oper.tok]
   rw [q3]
   exact ⟨_, _, O73, rfl, (((((((((((((M76.focus 3 rfl).drop).focus 3 rfl).drop).focus 3 rfl).drop).focus 3 rfl).drop).focus 3 rfl).drop).focus 0 rfl).focus 2 rfl).focus 2 rfl)⟩
  ·
   refine WS.op rfl rfl (WS.nil [(0, _), (1, _), (18, _), (19, _)] rfl ?_)
   refine WC.condF rfl ?_
   refine WC.seq ?_
   refine WC.run ?_
   refine WS.eqlN (a := (o.op).toNat) (b := 2) rfl rfl rfl (fun e60 => ?_) (fun e60 => ?_)
   ·
    refine WS.op rfl rfl (WS.nil [(0, _), (1, _), (18, _), (59, _)] rfl ?_)
    refine WC.condT rfl ?_
    refine WC.seq ?_
    refine WC.draw M5.bare [] rfl ?_
    intro rb77 h78 M79
    refine WS.op rfl rfl (WS.op rfl rfl (WS.op rfl rfl (WS.op rfl rfl (WS.op rfl rfl (WS.op rfl rfl (WS.op rfl rfl ?_))))))
    refine WS.call rfl rfl rfl (w_byte_ran (c := o.sl) O8 ((M79.focus 1 rfl).focus 1 rfl) ⟨_, .inr (List.Mem.head _), rfl⟩ (by first | omega | (simp only [List.length_append, List.length_cons, List.length_nil]; omega))) ?_
    rintro _ h80 ⟨V82, S83, O84, rfl, M81⟩
    obtain ⟨P85, rfl⟩ := O84.shape
    replace M81 : Mem _ _ (S83 :: [(w, _)] :: [(p, _)] :: L) _ := M81
    refine WS.nil [(0, _), (1, _)] rfl ?_
    refine WC.seq ?_
    refine WC.draw M81.bare [] rfl ?_
    intro rb86 h87 M88
    refine WS.op rfl rfl (WS.op rfl rfl (WS.op rfl rfl (WS.op rfl rfl (WS.op rfl rfl (WS.op rfl rfl (WS.op rfl rfl ?_))))))
    refine WS.call rfl rfl rfl (w_token_ran (c := [o.t0, o.t1, o.t2, o.t3, o.t4, o.t5, o.t6, o.t7]) O84 ((M88.focus 1 rfl).focus 1 rfl) ⟨_, .inr (List.Mem.head _), Nat.le_of_ble_eq_true rfl, rfl⟩ rfl (by first | omega | (simp only [List.length_append, List.length_cons, List.length_nil]; omega))) ?_
    rintro _ h89 ⟨V91, S92, O93, rfl, M90⟩
    obtain ⟨P94, rfl⟩ := O93.shape
    replace M90 : Mem _ _ (S92 :: [(w, _)] :: [(p, _)] :: L) _ := M90
    refine WS.nil [(0, _), (1, _)] rfl ?_
    refine WC.draw M90.bare [] rfl ?_
    intro rb95 h96 M97
    refine WS.op rfl rfl (WS.op rfl rfl (WS.op rfl rfl (WS.op rfl rfl (WS.op rfl rfl (WS.op rfl rfl (WS.op rfl rfl ?_))))))
    refine WS.call rfl rfl rfl (w_byte_ran (c := o.ro) O93 ((M97.focus 1 rfl).focus 1 rfl) ⟨_, .inr (List.Mem.head _), rfl⟩ (by first | omega | (simp only [List.length_append, List.length_cons, List.length_nil]; omega))) ?_
    rintro _ h98 ⟨V100, S101, O102, rfl, M99⟩
    obtain ⟨P103, rfl⟩ := O102.shape
    replace M99 : Mem _ _ (S101 :: [(w, _)] :: [(p, _)] :: L) _ := M99
    refine WS.nil [] rfl ?_
    refine ⟨[], res_nil, ?_⟩
    have q3 : l ++ encO o = ((((l ++ [o.op]) ++ [o.sl]) ++ [o.t0, o.t1, o.t2, o.t3, o.t4, o.t5, o.t6, o.t7]) ++ [o.ro]) := by rw [encO_2 (by omega)]; simp [Oper.tok]
    rw [q3]
    exact ⟨_, _, O102, rfl, (M99.bare)⟩
   ·
    refine WS.op rfl rfl (WS.nil [(0, _), (1, _), (18, _), (59, _)] rfl ?_)
    refine WC.condF rfl ?_
    refine WC.seq ?_
    refine WC.run ?_
    refine WS.eqlN (a := (o.op).toNat) (b := 3) rfl rfl rfl (fun e86 => ?_) (fun e86 => ?_)
    ·
     refine WS.op rfl rfl (WS.nil [(0, _), (1, _), (18, _), (85, _)] rfl ?_)
     refine WC.condT rfl ?_
     refine WC.draw M5.bare [] rfl ?_
     intro rb104 h105 M106
     refine WS.op rfl rfl (WS.op rfl rfl (WS.op rfl rfl (WS.op rfl rfl (WS.op rfl rfl (WS.op rfl rfl (WS.op rfl rfl ?_))))))
     refine WS.call rfl rfl rfl (w_token_ran (c := [o.t0, o.t1, o.t2, o.t3, o.t4, o.t5, o.t6, o.t7]) O8 ((M106.focus 1 rfl).focus 1 rfl) ⟨_, .inr (List.Mem.head _), Nat.le_of_ble_eq_true rfl, rfl⟩ rfl (by first | omega | (simp only [List.length_append, List.length_cons, List.length_nil]; omega))) ?_
     rintro _ h107 ⟨V109, S110, O111, rfl, M108⟩
     obtain ⟨P112, rfl⟩ := O111.shape
     replace M108 : Mem _ _ (S110 :: [(w, _)] :: [(p, _)] :: L) _ := M108
     refine WS.nil [] rfl ?_
     refine ⟨[], res_nil, ?_⟩
     have q3 : l ++ encO o = ((l ++ [o.op]) ++ [o.t0, o.t1, o.t2, o.t3, o.t4, o.t5, o.t6, o.t7]) := by rw [encO_3 (by omega)]; simp [Oper.tok]
     rw [q3]
     exact ⟨_, _, O111, rfl, (M108.bare)⟩
    ·
     refine WS.op rfl rfl (WS.nil [(0, _), (1, _), (18, _), (85, _)] rfl ?_)
     refine WC.condF rfl ?_
     refine WC.seq ?_
     refine WC.run ?_
     refine WS.eqlN (a := (o.op).toNat) (b := 4) rfl rfl rfl (fun e96 => ?_) (fun e96 => ?_)
     ·
      refine WS.op rfl rfl (WS.nil [(0, _), (1, _), (18, _), (95, _)] rfl ?_)
      refine WC.condT rfl ?_
      refine WC.draw M5.bare [] rfl ?_
      intro rb113 h114 M115
      refine WS.op rfl rfl (WS.op rfl rfl (WS.op rfl rfl (WS.op rfl rfl (WS.op rfl rfl (WS.op rfl rfl (WS.op rfl rfl ?_))))))
      refine WS.call rfl rfl rfl (w_byte_ran (c := o.sl) O8 ((M115.focus 1 rfl).focus 1 rfl) ⟨_, .inr (List.Mem.head _), rfl⟩ (by first | omega | (simp only [List.length_append, List.length_cons, List.length_nil]; omega))) ?_
      rintro _ h116 ⟨V118, S119, O120, rfl, M117⟩
      obtain ⟨P121, rfl⟩ := O120.shape
      replace M117 : Mem _ _ (S119 :: [(w, _)] :: [(p, _)] :: L) _ := M117
      refine WS.nil [] rfl ?_
      refine ⟨[], res_nil, ?_⟩
      have q3 : l ++ encO o = ((l ++ [o.op]) ++ [o.sl]) := by rw [encO_4 (by omega)]; simp [Oper.tok]
      rw [q3]
      exact ⟨_, _, O120, rfl, (M117.bare)⟩
     ·
      refine WS.op rfl rfl (WS.nil [(0, _), (1, _), (18, _), (95, _)] rfl ?_)
      refine WC.condF rfl ?_
      refine WC.seq ?_
      refine WC.seq ?_
      refine WC.run ?_
      refine WS.eqlN (a := (o.op).toNat) (b := 5) rfl rfl rfl (fun e106 => ?_) (fun e106 => ?_)
      ·
       refine WS.op rfl rfl (WS.nil [(0, _), (1, _), (18, _), (105, _)] rfl ?_)
       refine WC.condT rfl ?_
       refine WC.skip ?_
       refine WC.condT rfl ?_
       refine WC.draw M5.bare [] rfl ?_
       intro rb122 h123 M124
       refine WS.op rfl rfl (WS.op rfl rfl (WS.op rfl rfl (WS.op rfl rfl (WS.op rfl rfl (WS.op rfl rfl (WS.op rfl rfl ?_))))))
       refine WS.call rfl rfl rfl (w_byte_ran (c := o.nd) O8 ((M124.focus 1 rfl).focus 1 rfl) ⟨_, .inr (List.Mem.head _), rfl⟩ (by first | omega | (simp only [List.length_append, List.length_cons, List.length_nil]; omega))) ?_
       rintro _ h125 ⟨V127, S128, O129, rfl, M126⟩
       obtain ⟨P130, rfl⟩ := O129.shape
       replace M126 : Mem _ _ (S128 :: [(w, _)] :: [(p, _)] :: L) _ := M126
       refine WS.nil [] rfl ?_
       refine ⟨[], res_nil, ?_⟩
       have q3 : l ++ encO o = ((l ++ [o.op]) ++ [o.nd]) := by rw [encO_5 (by omega)]; simp [Oper.tok]
       rw [q3]
       exact ⟨_, _, O129, rfl, (M126.bare)⟩
      ·
       refine WS.op rfl rfl (WS.nil [(0, _), (1, _), (18, _), (105, _)] rfl ?_)
       refine WC.condF rfl ?_
       refine WC.seq ?_
       refine WC.run ?_
       refine WS.eqlN (a := (o.op).toNat) (b := 6) rfl rfl rfl (fun e107 => ?_) (fun e107 => ?_)
       ·
        refine WS.op rfl rfl (WS.nil [(0, _), (1, _), (18, _), (105, _)] rfl ?_)
        refine WC.condT rfl ?_
        refine WC.skip ?_
        refine WC.condT rfl ?_
        refine WC.draw M5.bare [] rfl ?_
        intro rb131 h132 M133
        refine WS.op rfl rfl (WS.op rfl rfl (WS.op rfl rfl (WS.op rfl rfl (WS.op rfl rfl (WS.op rfl rfl (WS.op rfl rfl ?_))))))
        refine WS.call rfl rfl rfl (w_byte_ran (c := o.nd) O8 ((M133.focus 1 rfl).focus 1 rfl) ⟨_, .inr (List.Mem.head _), rfl⟩ (by first | omega | (simp only [List.length_append, List.length_cons, List.length_nil]; omega))) ?_
        rintro _ h134 ⟨V136, S137, O138, rfl, M135⟩
        obtain ⟨P139, rfl⟩ := O138.shape
        replace M135 : Mem _ _ (S137 :: [(w, _)] :: [(p, _)] :: L) _ := M135
        refine WS.nil [] rfl ?_
        refine ⟨[], res_nil, ?_⟩
        have q3 : l ++ encO o = ((l ++ [o.op]) ++ [o.nd]) := by rw [encO_5 (by omega)]; simp [Oper.tok]
        rw [q3]
        exact ⟨_, _, O138, rfl, (M135.bare)⟩
       ·
        refine WS.op rfl rfl (WS.nil [(0, _), (1, _), (18, _), (105, _)] rfl ?_)
        refine WC.condF rfl ?_
        refine WC.run ?_
        refine WS.eqlN (a := (o.op).toNat) (b := 7) rfl rfl rfl (fun e108 => ?_) (fun e108 => ?_)
        ·
         refine WS.op rfl rfl (WS.nil [(0, _), (1, _), (105, _)] rfl ?_)
         refine WC.condT rfl ?_
         refine WC.draw M5.bare [] rfl ?_
         intro rb140 h141 M142
         refine WS.op rfl rfl (WS.op rfl rfl (WS.op rfl rfl (WS.op rfl rfl (WS.op rfl rfl (WS.op rfl rfl (WS.op rfl rfl ?_))))))
         refine WS.call rfl rfl rfl (w_byte_ran (c := o.nd) O8 ((M142.focus 1 rfl).focus 1 rfl) ⟨_, .inr (List.Mem.head _), rfl⟩ (by first | omega | (simp only [List.length_append, List.length_cons, List.length_nil]; omega))) ?_
         rintro _ h143 ⟨V145, S146, O147, rfl, M144⟩
         obtain ⟨P148, rfl⟩ := O147.shape
         replace M144 : Mem _ _ (S146 :: [(w, _)] :: [(p, _)] :: L) _ := M144
         refine WS.nil [] rfl ?_
         refine ⟨[], res_nil, ?_⟩
         have q3 : l ++ encO o = ((l ++ [o.op]) ++ [o.nd]) := by rw [encO_5 (by omega)]; simp [Oper.tok]
         rw [q3]
         exact ⟨_, _, O147, rfl, (M144.bare)⟩
        ·
         refine WS.op rfl rfl (WS.nil [(0, _), (1, _), (105, _)] rfl ?_)
         refine WC.condF rfl ?_
         refine WC.skip ?_
         refine ⟨[], res_nil, ?_⟩
         omega
theorem WriteO_ran (W : Mem h h [] []) {o : Oper} : Cll tab0 27 [.agg (Oper.cells o).toArray] h (fun v h2 => v = .string (bs (if mayOB o then encO o else [])) ∧ Mem h h2 [] []) := by
  refine Cll.code rfl rfl ?_
  refine WC.env [(0, _)] rfl ?_
  refine WC.seq ?_
  refine WC.run ?_
  refine WS.box W [_, _, _, _, _, _, _, _, _, _, _, _, _, _, _, _] rfl rfl rfl rfl ?_
  intro p1 h2 M3
  refine WS.op rfl rfl (WS.nil [(1, _)] rfl ?_)
  refine WC.seq ?_
  refine WC.seq ?_
  refine WC.run ?_
  refine WS.op rfl (op_lds [_, _, _, _, _, _, _, _, _, _, _, _, _, _, _, _] (M3.at 0 rfl) rfl (Nat.le_of_ble_eq_true rfl) rfl) ?_
  refine WS.call rfl rfl rfl (mayO_ran M3.here (o := o)) ?_
  rintro _ h4 ⟨rfl, N5⟩
  have M6 := M3.trans N5
  cases hb1 : (mayOB o)
  ·
   refine WS.opV (.bool true) rfl rfl rfl (WS.nil [(1, _), (6, _)] rfl ?_)
   refine WC.condT rfl ?_
   refine WC.seq ?_
   refine WC.run ?_
   refine WS.op rfl rfl (WS.nil [(2, _)] rfl ?_)
   refine WC.ret ?_
   refine ⟨[_], (res_tmp rfl res_nil), ?_⟩
   exact ⟨rfl, M6.bare.take 0⟩
  ·
   refine WS.opV (.bool false) rfl rfl rfl (WS.nil [(1, _), (6, _)] rfl ?_)
   refine WC.condF rfl ?_
   refine WC.skip ?_
   refine WC.seq ?_
   refine WC.run ?_
   refine WS.opV (.agg #[(.slice none 0 0)]) rfl rfl rfl ?_
   refine WS.box M6 [_] rfl rfl rfl rfl ?_
   intro p7 h8 M9
   refine WS.op rfl rfl (WS.nil [(1, _), (3, _)] rfl ?_)
   refine WC.seq ?_
   refine WC.run ?_
   have hm := of_decide_eq_true (p := MayO o) hb1
   refine WS.op rfl rfl (WS.op rfl rfl ?_)
   refine WS.call rfl rfl rfl (walkO_ran (o := o) hm (Row.Own.nil (K := KU8)) ((M9.focus 1 rfl).focus 1 rfl).nils (by simp)) ?_
   rintro _ h10 ⟨V12, S13, O14, rfl, M11⟩
   rw [List.nil_append] at O14
   obtain ⟨P15, rfl⟩ := O14.shape
   replace M11 : Mem _ _ (S13 :: [(p7, _)] :: [(p1, _)] :: []) _ := M11
   refine WS.nil [(3, _)] rfl ?_
   refine WC.seq ?_
   refine WC.run ?_
   refine WS.op rfl rfl (WS.op rfl rfl (WS.op rfl rfl (WS.op rfl (op_ld (M11.at 1 rfl) rfl rfl) (WS.op rfl (op_cvBO O14 (Mem.owni M11 0 rfl) rfl) (WS.op rfl rfl (WS.nil [(2, _)] rfl ?_))))))
   refine WC.ret ?_
   refine ⟨[_], (res_tmp rfl res_nil), ?_⟩
   exact ⟨rfl, M11.bare.take 0⟩
theorem tokenOf_ran (W : Mem h h [] []) {c0 c1 c2 c3 c4 c5 c6 c7 : UInt8} : Cll tab0 63 [.agg #[.int .u8 ((c0.toNat : Nat) : Int), .int .u8 ((c1.toNat : Nat) : Int), .int .u8 ((c2.toNat : Nat) : Int), .int .u8 ((c3.toNat : Nat) : Int), .int .u8 ((c4.toNat : Nat) : Int), .int .u8 ((c5.toNat : Nat) : Int), .int .u8 ((c6.toNat : Nat) : Int), .int .u8 ((c7.toNat : Nat) : Int)]] h (fun v h2 => v = .string (bs [c0, c1, c2, c3, c4, c5, c6, c7]) ∧ Mem h h2 [] []) := by
  refine Cll.code rfl rfl ?_
  refine WC.env [(0, _)] rfl ?_
  refine WC.seq ?_
  refine WC.run ?_
  refine WS.box W [_, _, _, _, _, _, _, _] rfl rfl rfl rfl ?_
  intro p1 h2 M3
  refine WS.op rfl rfl (WS.nil [(1, _)] rfl ?_)
  refine WC.seq ?_
  refine WC.run ?_
  refine WS.op rfl rfl (WS.nil [(1, _), (3, _)] rfl ?_)
  refine WC.seq ?_
  refine WC.seq ?_
  refine WC.run ?_
  refine WS.op rfl rfl (WS.nil [(1, _), (3, _), (4, _)] rfl ?_)
  refine WC.block ?_
  refine WC.unroll [(1, _), (3, _), (4, _)] rfl ?_
  refine WC.seq ?_
  refine WC.seq ?_
  refine WC.run ?_
  refine WS.op rfl rfl (WS.opV (.bool true) rfl rfl rfl (WS.nil [(1, _), (3, _), (4, _), (6, _)] rfl ?_))
  refine WC.condT rfl ?_
  refine WC.skip ?_
  refine WC.seq ?_
  refine WC.block ?_
  refine WC.run ?_
  refine WS.op rfl rfl (WS.op rfl rfl (WS.op rfl rfl (WS.op rfl (op_ld (M3.at 0 rfl) rfl rfl) (WS.opV (.int .i64 (((c0).toNat : Nat) : Int)) rfl rfl (cv_i64 (n := (c0).toNat) (by have := UInt8.toNat_lt (c0); omega)) ?_))))
  refine WS.call rfl rfl rfl (one_ran M3.here (n := (c0).toNat) (b := c0) (by first | rfl | simp)) ?_
  rintro _ h4 ⟨rfl, N5⟩
  have M6 := M3.trans N5
  refine WS.op rfl (op_sadd (l := []) (m := [c0]) rfl rfl (by simp)) (WS.op rfl rfl (WS.nil [(1, _), (3, _), (4, _)] rfl ?_))
  refine WC.run ?_
  refine WS.op rfl rfl (WS.opV (.int .i64 1) rfl rfl rfl (WS.op rfl rfl (WS.nil [(1, _), (3, _), (4, _)] rfl ?_)))
  refine WC.unroll [(1, _), (3, _), (4, _)] rfl ?_
  refine WC.seq ?_
  refine WC.seq ?_
  refine WC.run ?_
  refine WS.op rfl rfl (WS.opV (.bool true) rfl rfl rfl (WS.nil [(1, _), (3, _), (4, _), (6, _)] rfl ?_))
  refine WC.condT rfl ?_
  refine WC.skip ?_
  refine WC.seq ?_
  refine WC.block ?_
  refine WC.run ?_
  refine WS.op rfl rfl (WS.op rfl rfl (WS.op rfl rfl (WS.op rfl (op_ld (M6.at 0 rfl) rfl rfl) (WS.opV (.int .i64 (((c1).toNat : Nat) : Int)) rfl rfl (cv_i64 (n := (c1).toNat) (by have := UInt8.toNat_lt (c1); omega)) ?_))))
  refine WS.call rfl rfl rfl (one_ran M6.here (n := (c1).toNat) (b := c1) (by first | rfl | simp)) ?_
  rintro _ h7 ⟨rfl, N8⟩
  have M9 := M6.trans N8
  refine WS.op rfl (op_sadd (l := ([] ++ [c0])) (m := [c1]) rfl rfl (by simp)) (WS.op rfl rfl (WS.nil [(1, _), (3, _), (4, _)] rfl ?_))
  refine WC.run ?_
  refine WS.op rfl rfl (WS.opV (.int .i64 2) rfl rfl rfl (WS.op rfl rfl (WS.nil [(1, _), (3, _), (4, _)] rfl ?_)))
  refine WC.unroll [(1, _), (3, _), (4, _)] rfl ?_
  refine WC.seq ?_
  refine WC.seq ?_
  refine WC.run ?_
  refine WS.op rfl rfl (WS.opV (.bool true) rfl rfl rfl (WS.nil [(1, _), (3, _), (4, _), (6, _)] rfl ?_))
  refine WC.condT rfl ?_
  refine WC.skip ?_
  refine WC.seq ?_
  refine WC.block ?_
  refine WC.run ?_
  refine WS.op rfl rfl (WS.op rfl rfl (WS.op rfl rfl (WS.op rfl (op_ld (M9.at 0 rfl) rfl rfl) (WS.opV (.int .i64 (((c2).toNat : Nat) : Int)) rfl rfl (cv_i64 (n := (c2).toNat) (by have := UInt8.toNat_lt (c2); omega)) ?_))))
  refine WS.call rfl rfl rfl (one_ran M9.here (n := (c2).toNat) (b := c2) (by first | rfl | simp)) ?_
  rintro _ h10 ⟨rfl, N11⟩
  have M12 := M9.trans N11
  refine WS.op rfl (op_sadd (l := (([] ++ [c0]) ++ [c1])) (m := [c2]) rfl rfl (by simp)) (WS.op rfl rfl (WS.nil [(1, _), (3, _), (4, _)] rfl ?_))
  refine WC.run ?_
  refine WS.op rfl rfl (WS.opV (.int .i64 3) rfl rfl rfl (WS.op rfl rfl (WS.nil [(1, _), (3, _), (4, _)] rfl ?_)))
  refine WC.unroll [(1, _), (3, _), (4, _)] rfl ?_
  refine WC.seq ?_
  refine WC.seq ?_
  refine WC.run ?_
  refine WS.op rfl rfl (WS.opV (.bool true) rfl rfl rfl (WS.nil [(1, _), (3, _), (4, _), (6, _)] rfl ?_))
  refine WC.condT rfl ?_
  refine WC.skip ?_
  refine WC.seq ?_
  refine WC.block ?_
  refine WC.run ?_
  refine WS.op rfl rfl (WS.op rfl rfl (WS.op rfl rfl (WS.op rfl (op_ld (M12.at 0 rfl) rfl rfl) (WS.opV (.int .i64 (((c3).toNat : Nat) : Int)) rfl rfl (cv_i64 (n := (c3).toNat) (by have := UInt8.toNat_lt (c3); omega)) ?_))))
  refine WS.call rfl rfl rfl (one_ran M12.here (n := (c3).toNat) (b := c3) (by first | rfl | simp)) ?_
  rintro _ h13 ⟨rfl, N14⟩
  have M15 := M12.trans N14
  refine WS.op rfl (op_sadd (l := ((([] ++ [c0]) ++ [c1]) ++ [c2])) (m := [c3]) rfl rfl (by simp)) (WS.op rfl rfl (WS.nil [(1, _), (3, _), (4, _)] rfl ?_))
  refine WC.run ?_
  refine WS.op rfl rfl (WS.opV (.int .i64 4) rfl rfl rfl (WS.op rfl rfl (WS.nil [(1, _), (3, _), (4, _)] rfl ?_)))
  refine WC.unroll [(1, _), (3, _), (4, _)] rfl ?_
  refine WC.seq ?_
  refine WC.seq ?_
  refine WC.run ?_
  refine WS.op rfl rfl (WS.opV (.bool true) rfl rfl rfl (WS.nil [(1, _), (3, _), (4, _), (6, _)] rfl ?_))
  refine WC.condT rfl ?_
  refine WC.skip ?_
  refine WC.seq ?_
  refine WC.block ?_
  refine WC.run ?_
  refine WS.op rfl rfl (WS.op rfl rfl (WS.op rfl rfl (WS.op rfl (op_ld (M15.at 0 rfl) rfl rfl) (WS.opV (.int .i64 (((c4).toNat : Nat) : Int)) rfl rfl (cv_i64 (n := (c4).toNat) (by have := UInt8.toNat_lt (c4); omega)) ?_))))
  refine WS.call rfl rfl rfl (one_ran M15.here (n := (c4).toNat) (b := c4) (by first | rfl | simp)) ?_
  rintro _ h16 ⟨rfl, N17⟩
  have M18 := M15.trans N17
  refine WS.op rfl (op_sadd (l := (((([] ++ [c0]) ++ [c1]) ++ [c2]) ++ [c3])) (m := [c4]) rfl rfl (by simp)) (WS.op rfl rfl (WS.nil [(1, _), (3, _), (4, _)] rfl ?_))
  refine WC.run ?_
  refine WS.op rfl rfl (WS.opV (.int .i64 5) rfl rfl rfl (WS.op rfl rfl (WS.nil [(1, _), (3, _), (4, _)] rfl ?_)))
  refine WC.unroll [(1, _), (3, _), (4, _)] rfl ?_
  refine WC.seq ?_
  refine WC.seq ?_
  refine WC.run ?_
  refine WS.op rfl rfl (WS.opV (.bool true) rfl rfl rfl (WS.nil [(1, _), (3, _), (4, _), (6, _)] rfl ?_))
  refine WC.condT rfl ?_
  refine WC.skip ?_
  refine WC.seq ?_
  refine WC.block ?_
  refine WC.run ?_
  refine WS.op rfl rfl (WS.op rfl rfl (WS.op rfl rfl (WS.op rfl (op_ld (M18.at 0 rfl) rfl rfl) (WS.opV (.int .i64 (((c5).toNat : Nat) : Int)) rfl rfl (cv_i64 (n := (c5).toNat) (by have := UInt8.toNat_lt (c5); omega)) ?_))))
  refine WS.call rfl rfl rfl (one_ran M18.here (n := (c5).toNat) (b := c5) (by first | rfl | simp)) ?_
  rintro _ h19 ⟨rfl, N20⟩
  have M21 := M18.trans N20
  refine WS.op rfl (op_sadd (l := ((((([] ++ [c0]) ++ [c1]) ++ [c2]) ++ [c3]) ++ [c4])) (m := [c5]) rfl rfl (by simp)) (WS.op rfl rfl (WS.nil [(1, _), (3, _), (4, _)] rfl ?_))
  refine WC.run ?_
  refine WS.op rfl rfl (WS.opV (.int .i64 6) rfl rfl rfl (WS.op rfl rfl (WS.nil [(1, _), (3, _), (4, _)] rfl ?_)))
  refine WC.unroll [(1, _), (3, _), (4, _)] rfl ?_
  refine WC.seq ?_
  refine WC.seq ?_
  refine WC.run ?_
  refine WS.op rfl rfl (WS.opV (.bool true) rfl rfl rfl (WS.nil [(1, _), (3, _), (4, _), (6, _)] rfl ?_))
  refine WC.condT rfl ?_
  refine WC.skip ?_
  refine WC.seq ?_
  refine WC.block ?_
  refine WC.run ?_
  refine WS.op rfl rfl (WS.op rfl rfl (WS.op rfl rfl (WS.op rfl (op_ld (M21.at 0 rfl) rfl rfl) (WS.opV (.int .i64 (((c6).toNat : Nat) : Int)) rfl rfl (cv_i64 (n := (c6).toNat) (by have := UInt8.toNat_lt (c6); omega)) ?_))))
  refine WS.call rfl rfl rfl (one_ran M21.here (n := (c6).toNat) (b := c6) (by first | rfl | simp)) ?_
  rintro _ h22 ⟨rfl, N23⟩
  have M24 := M21.trans N23
  refine WS.op rfl (op_sadd (l := (((((([] ++ [c0]) ++ [c1]) ++ [c2]) ++ [c3]) ++ [c4]) ++ [c5])) (m := [c6]) rfl rfl (by simp)) (WS.op rfl rfl (WS.nil [(1, _), (3, _), (4, _)] rfl ?_))
  refine WC.run ?_
  refine WS.op rfl rfl (WS.opV (.int .i64 7) rfl rfl rfl (WS.op rfl rfl (WS.nil [(1, _), (3, _), (4, _)] rfl ?_)))
  refine WC.unroll [(1, _), (3, _), (4, _)] rfl ?_
  refine WC.seq ?_
  refine WC.seq ?_
  refine WC.run ?_
  refine WS.op rfl rfl (WS.opV (.bool true) rfl rfl rfl (WS.nil [(1, _), (3, _), (4, _), (6, _)] rfl ?_))
  refine WC.condT rfl ?_
  refine WC.skip ?_
  refine WC.seq ?_
  refine WC.block ?_
  refine WC.run ?_
  refine WS.op rfl rfl (WS.op rfl rfl (WS.op rfl rfl (WS.op rfl (op_ld (M24.at 0 rfl) rfl rfl) (WS.opV (.int .i64 (((c7).toNat : Nat) : Int)) rfl rfl (cv_i64 (n := (c7).toNat) (by have := UInt8.toNat_lt (c7); omega)) ?_))))
  refine WS.call rfl rfl rfl (one_ran M24.here (n := (c7).toNat) (b := c7) (by first | rfl | simp)) ?_
  rintro _ h25 ⟨rfl, N26⟩
  have M27 := M24.trans N26
  refine WS.op rfl (op_sadd (l := ((((((([] ++ [c0]) ++ [c1]) ++ [c2]) ++ [c3]) ++ [c4]) ++ [c5]) ++ [c6])) (m := [c7]) rfl rfl (by simp)) (WS.op rfl rfl (WS.nil [(1, _), (3, _), (4, _)] rfl ?_))
  refine WC.run ?_
  refine WS.op rfl rfl (WS.opV (.int .i64 8) rfl rfl rfl (WS.op rfl rfl (WS.nil [(1, _), (3, _), (4, _)] rfl ?_)))
  refine WC.unroll [(1, _), (3, _), (4, _)] rfl ?_
  refine WC.seq ?_
  refine WC.seq ?_
  refine WC.run ?_
  refine WS.op rfl rfl (WS.opV (.bool false) rfl rfl rfl (WS.nil [(1, _), (3, _), (4, _), (6, _)] rfl ?_))
  refine WC.condF rfl ?_
  refine WC.exit ?_
  refine WC.seq ?_
  refine WC.run ?_
  refine WS.op rfl rfl (WS.op rfl rfl (WS.nil [(2, _)] rfl ?_))
  refine WC.ret ?_
  refine ⟨[_], (res_tmp rfl res_nil), ?_⟩
  exact ⟨rfl, M27.bare.take 0⟩
set_option maxRecDepth 8000 in
theorem refWriteO_ran (W : Mem h h [] []) {o : Oper} : Cll tab0 41 [.agg (Oper.cells o).toArray] h (fun v h2 => v = .string (bs (if mayOB o then encO o else [])) ∧ Mem h h2 [] []) := by
  have v1 := vb_len (nu o.ks).toNat_lt
  have v2 := vb_len (nu o.bt).toNat_lt
  have v3 := vb_len (nu o.ra).toNat_lt
  have v4 := vb_len (nu o.bu).toNat_lt
  refine Cll.code rfl rfl ?_
  refine WC.env [(0, _)] rfl ?_
  refine WC.seq ?_
  refine WC.run ?_
  refine WS.box W [_, _, _, _, _, _, _, _, _, _, _, _, _, _, _, _] rfl rfl rfl rfl ?_
  intro p1 h2 M3
  refine WS.op rfl rfl (WS.nil [(1, _)] rfl ?_)
  refine WC.seq ?_
  refine WC.seq ?_
  refine WC.run ?_
  refine WS.op rfl (op_lds [_, _, _, _, _, _, _, _, _, _, _, _, _, _, _, _] (M3.at 0 rfl) rfl (Nat.le_of_ble_eq_true rfl) rfl) ?_
  refine WS.call rfl rfl rfl (refMayO_ran M3.here (o := o)) ?_
  rintro _ h4 ⟨rfl, N5⟩
  have M6 := M3.trans N5
  cases hb1 : (mayOB o)
  ·
   refine WS.opV (.bool true) rfl rfl rfl (WS.nil [(1, _), (6, _)] rfl ?_)
   refine WC.condT rfl ?_
   refine WC.seq ?_
   refine WC.run ?_
   refine WS.op rfl rfl (WS.nil [(2, _)] rfl ?_)
   refine WC.ret ?_
   refine ⟨[_], (res_tmp rfl res_nil), ?_⟩
   exact ⟨rfl, M6.bare.take 0⟩
  ·
   refine WS.opV (.bool false) rfl rfl rfl (WS.nil [(1, _), (6, _)] rfl ?_)
   refine WC.condF rfl ?_
   refine WC.skip ?_
   refine WC.seq ?_
   refine WC.run ?_
   obtain ⟨m1, m2, m3, m4, m5, b1, b2, b3, b4⟩ := of_decide_eq_true (p := MayO o) hb1
   refine WS.op rfl rfl (WS.op rfl (op_ld (M6.at 0 rfl) rfl rfl) (WS.opV (.int .i64 (((o.op).toNat : Nat) : Int)) rfl rfl (cv_i64 (n := (o.op).toNat) (by have := UInt8.toNat_lt (o.op); omega)) ?_))
   refine WS.call rfl rfl rfl (one_ran M6.here (n := (o.op).toNat) (b := o.op) (by first | rfl | simp)) ?_
   rintro _ h7 ⟨rfl, N8⟩
   have M9 := M6.trans N8
   refine WS.op rfl rfl (WS.nil [(1, _), (3, _)] rfl ?_)
   refine WC.seq ?_
   refine WC.seq ?_
   refine WC.run ?_
   refine WS.op rfl rfl (WS.op rfl (op_ld (M9.at 0 rfl) rfl rfl) (WS.nil [(1, _), (3, _), (12, _)] rfl ?_))
   refine WC.block ?_
   refine WC.seq ?_
   refine WC.run ?_
   refine WS.eqlN (a := (o.op).toNat) (b := 1) rfl rfl rfl (fun e14 => ?_) (fun e14 => ?_)
   ·
    refine WS.op rfl rfl (WS.nil [(1, _), (3, _), (12, _), (13, _)] rfl ?_)
    refine WC.condT rfl ?_
    refine WC.seq ?_
    refine WC.draw M9 [18] rfl ?_
    intro rb10 h11 M12
    refine WS.op rfl rfl (WS.op rfl rfl (WS.op rfl (op_ld (M12.at 0 rfl) rfl rfl) (WS.opV (.int .i64 (((o.sl).toNat : Nat) : Int)) rfl rfl (cv_i64 (n := (o.sl).toNat) (by have := UInt8.toNat_lt (o.sl); omega)) (WS.op rfl rfl (WS.op rfl (op_ld (M12.at 0 rfl) rfl rfl) (WS.opV (.int .u64 (((nu o.ks).toNat : Nat) : Int)) rfl rfl (cvU (by assumption)) (WS.op rfl rfl (WS.op rfl (op_ld (M12.at 0 rfl) rfl rfl) (WS.opV (.int .u64 (((nu o.bt).toNat : Nat) : Int)) rfl rfl (cvU (by assumption)) ?_)))))))))
    refine WS.op rfl rfl (WS.op rfl (op_ld (M12.at 0 rfl) rfl rfl) (WS.opV (.int .u64 (((nu o.ra).toNat : Nat) : Int)) rfl rfl (cvU (by assumption)) (WS.op rfl rfl (WS.op rfl (op_ld (M12.at 0 rfl) rfl rfl) (WS.opV (.int .u64 (((nu o.bu).toNat : Nat) : Int)) rfl rfl (cvU (by assumption)) ?_)))))
    refine WS.call rfl rfl rfl (one_ran M12.here (n := (o.sl).toNat) (b := o.sl) (by first | rfl | simp)) ?_
    rintro _ h13 ⟨rfl, N14⟩
    have M15 := M12.trans N14
    refine WS.chk rfl (op_ld (M15.at 0 rfl) rfl rfl) rfl (sameV_refl rfl) (WS.chk rfl (op_ld (M15.at 0 rfl) rfl rfl) rfl (sameV_refl rfl) (WS.chk rfl (op_ld (M15.at 0 rfl) rfl rfl) rfl (sameV_refl rfl) (WS.chk rfl (op_ld (M15.at 0 rfl) rfl rfl) rfl (sameV_refl rfl) (WS.op rfl (op_sadd (l := [o.op]) (m := [o.sl]) rfl rfl (by first | omega | (simp only [List.length_append, List.length_cons, List.length_nil]; omega))) ?_))))
    refine WS.bslA M15 [_, _, _, _] 0 rfl rfl rfl rfl rfl ?_
    intro h17 M18
    refine WS.call rfl rfl rfl (ref_V_ran M18.here (Row.Sl.own (K := KNat) (l := [(nu o.ks).toNat, (nu o.bt).toNat, (nu o.ra).toNat, (nu o.bu).toNat]) (M18.at 0 rfl)) (by intro n hn; simp only [List.mem_cons, List.mem_nil_iff, or_false] at hn; rcases hn with rfl | rfl | rfl | rfl <;> exact UInt64.toNat_lt _) (by simp) (r := ((vb ((nu o.ks).toNat)) ++ (vb ((nu o.bt).toNat)) ++ (vb ((nu o.ra).toNat)) ++ (vb ((nu o.bu).toNat)))) (by simp [List.flatMap])) ?_
    rintro _ h19 ⟨rfl, N20⟩
    have M21 := M18.trans N20
    refine WS.op rfl (op_sadd (l := ([o.op] ++ [o.sl])) (m := ((vb ((nu o.ks).toNat)) ++ (vb ((nu o.bt).toNat)) ++ (vb ((nu o.ra).toNat)) ++ (vb ((nu o.bu).toNat)))) rfl rfl (by first | omega | (simp only [List.length_append, List.length_cons, List.length_nil]; omega))) (WS.op rfl rfl (WS.nil [(2, _)] rfl ?_))
    refine WC.ret ?_
    refine ⟨[_], (res_tmp rfl res_nil), ?_⟩
    have q3 : encO o = (([o.op] ++ [o.sl]) ++ ((vb ((nu o.ks).toNat)) ++ (vb ((nu o.bt).toNat)) ++ (vb ((nu o.ra).toNat)) ++ (vb ((nu o.bu).toNat)))) := by rw [encO_1 (by omega)]; simp [Oper.tok]
    exact ⟨by simp only [if_true]; rw [q3]; rfl, M21.bare.bare.take 0⟩
   ·
    refine WS.op rfl rfl (WS.nil [(1, _), (3, _), (12, _), (13, _)] rfl ?_)
    refine WC.condF rfl ?_
    refine WC.seq ?_
    refine WC.run ?_
    refine WS.eqlN (a := (o.op).toNat) (b := 2) rfl rfl rfl (fun e37 => ?_) (fun e37 => ?_)
    ·
     refine WS.op rfl rfl (WS.nil [(1, _), (3, _), (12, _), (36, _)] rfl ?_)
     refine WC.condT rfl ?_
     refine WC.seq ?_
     refine WC.draw M9 [] rfl ?_
     intro rb22 h23 M24
     refine WS.op rfl rfl (WS.op rfl rfl (WS.op rfl (op_ld (M24.at 0 rfl) rfl rfl) (WS.opV (.int .i64 (((o.sl).toNat : Nat) : Int)) rfl rfl (cv_i64 (n := (o.sl).toNat) (by have := UInt8.toNat_lt (o.sl); omega)) (WS.op rfl rfl (WS.op rfl (op_lds [_, _, _, _, _, _, _, _] (M24.at 0 rfl) rfl (Nat.le_of_ble_eq_true rfl) rfl) (WS.op rfl rfl (WS.op rfl (op_ld (M24.at 0 rfl) rfl rfl) (WS.opV (.int .i64 (((o.ro).toNat : Nat) : Int)) rfl rfl (cv_i64 (n := (o.ro).toNat) (by have := UInt8.toNat_lt (o.ro); omega)) ?_))))))))
     refine WS.call rfl rfl rfl (one_ran M24.here (n := (o.sl).toNat) (b := o.sl) (by first | rfl | simp)) ?_
     rintro _ h25 ⟨rfl, N26⟩
     have M27 := M24.trans N26
     refine WS.chk rfl (op_lds [_, _, _, _, _, _, _, _] (M27.at 0 rfl) rfl (Nat.le_of_ble_eq_true rfl) rfl) rfl (same_agg rfl) (WS.chk rfl (op_ld (M27.at 0 rfl) rfl rfl) rfl (sameV_refl rfl) (WS.op rfl (op_sadd (l := [o.op]) (m := [o.sl]) rfl rfl (by first | omega | (simp only [List.length_append, List.length_cons, List.length_nil]; omega))) ?_))
     refine WS.call rfl rfl rfl (tokenOf_ran M27.here (c0 := o.t0) (c1 := o.t1) (c2 := o.t2) (c3 := o.t3) (c4 := o.t4) (c5 := o.t5) (c6 := o.t6) (c7 := o.t7)) ?_
     rintro _ h28 ⟨rfl, N29⟩
     have M30 := M27.trans N29
     refine WS.chk rfl (op_ld (M30.at 0 rfl) rfl rfl) rfl (sameV_refl rfl) (WS.op rfl (op_sadd (l := ([o.op] ++ [o.sl])) (m := [o.t0, o.t1, o.t2, o.t3, o.t4, o.t5, o.t6, o.t7]) rfl rfl (by first | omega | (simp only [List.length_append, List.length_cons, List.length_nil]; omega))) ?_)
     refine WS.call rfl rfl rfl (one_ran M30.here (n := (o.ro).toNat) (b := o.ro) (by first | rfl | simp)) ?_
     rintro _ h31 ⟨rfl, N32⟩
     have M33 := M30.trans N32
     refine WS.op rfl (op_sadd (l := (([o.op] ++ [o.sl]) ++ [o.t0, o.t1, o.t2, o.t3, o.t4, o.t5, o.t6, o.t7])) (m := [o.ro]) rfl rfl (by first | omega | (simp only [List.length_append, List.length_cons, List.length_nil]; omega))) (WS.op rfl rfl (WS.nil [(2, _)] rfl ?_))
     refine WC.ret ?_
     refine ⟨[_], (res_tmp rfl res_nil), ?_⟩
     have q3 : encO o = ((([o.op] ++ [o.sl]) ++ [o.t0, o.t1, o.t2, o.t3, o.t4, o.t5, o.t6, o.t7]) ++ [o.ro]) := by rw [encO_2 (by omega)]; simp [Oper.tok]
     exact ⟨by simp only [if_true]; rw [q3]; rfl, M33.bare.bare.take 0⟩
    ·
     refine WS.op rfl rfl (WS.nil [(1, _), (3, _), (12, _), (36, _)] rfl ?_)
     refine WC.condF rfl ?_
     refine WC.seq ?_
     refine WC.run ?_
     refine WS.eqlN (a := (o.op).toNat) (b := 3) rfl rfl rfl (fun e54 => ?_) (fun e54 => ?_)
     ·
      refine WS.op rfl rfl (WS.nil [(1, _), (3, _), (12, _), (53, _)] rfl ?_)
      refine WC.condT rfl ?_
      refine WC.seq ?_
      refine WC.run ?_
      refine WS.op rfl rfl (WS.op rfl rfl (WS.op rfl (op_lds [_, _, _, _, _, _, _, _] (M9.at 0 rfl) rfl (Nat.le_of_ble_eq_true rfl) rfl) ?_))
      refine WS.call rfl rfl rfl (tokenOf_ran M9.here (c0 := o.t0) (c1 := o.t1) (c2 := o.t2) (c3 := o.t3) (c4 := o.t4) (c5 := o.t5) (c6 := o.t6) (c7 := o.t7)) ?_
      rintro _ h34 ⟨rfl, N35⟩
      have M36 := M9.trans N35
      refine WS.op rfl (op_sadd (l := [o.op]) (m := [o.t0, o.t1, o.t2, o.t3, o.t4, o.t5, o.t6, o.t7]) rfl rfl (by first | omega | (simp only [List.length_append, List.length_cons, List.length_nil]; omega))) (WS.op rfl rfl (WS.nil [(2, _)] rfl ?_))
      refine WC.ret ?_
      refine ⟨[_], (res_tmp rfl res_nil), ?_⟩
      have q3 : encO o = ([o.op] ++ [o.t0, o.t1, o.t2, o.t3, o.t4, o.t5, o.t6, o.t7]) := by rw [encO_3 (by omega)]; simp [Oper.tok]
      exact ⟨by simp only [if_true]; rw [q3]; rfl, M36.bare.take 0⟩
     ·
      refine WS.op rfl rfl (WS.nil [(1, _), (3, _), (12, _), (53, _)] rfl ?_)
      refine WC.condF rfl ?_
      refine WC.seq ?_
      refine WC.run ?_
      refine WS.eqlN (a := (o.op).toNat) (b := 4) rfl rfl rfl (fun e61 => ?_) (fun e61 => ?_)
      ·
       refine WS.op rfl rfl (WS.nil [(1, _), (3, _), (60, _)] rfl ?_)
       refine WC.condT rfl ?_
       refine WC.seq ?_
       refine WC.run ?_
       refine WS.op rfl rfl (WS.op rfl rfl (WS.op rfl (op_ld (M9.at 0 rfl) rfl rfl) (WS.opV (.int .i64 (((o.sl).toNat : Nat) : Int)) rfl rfl (cv_i64 (n := (o.sl).toNat) (by have := UInt8.toNat_lt (o.sl); omega)) ?_)))
       refine WS.call rfl rfl rfl (one_ran M9.here (n := (o.sl).toNat) (b := o.sl) (by first | rfl | simp)) ?_
       rintro _ h37 ⟨rfl, N38⟩
       have M39 := M9.trans N38
       refine WS.op rfl (op_sadd (l := [o.op]) (m := [o.sl]) rfl rfl (by first | omega | (simp only [List.length_append, List.length_cons, List.length_nil]; omega))) (WS.op rfl rfl (WS.nil [(2, _)] rfl ?_))
       refine WC.ret ?_
       refine ⟨[_], (res_tmp rfl res_nil), ?_⟩
       have q3 : encO o = ([o.op] ++ [o.sl]) := by rw [encO_4 (by omega)]; simp [Oper.tok]
       exact ⟨by simp only [if_true]; rw [q3]; rfl, M39.bare.take 0⟩
      ·
       refine WS.op rfl rfl (WS.nil [(1, _), (3, _), (60, _)] rfl ?_)
       refine WC.condF rfl ?_
       refine WC.skip ?_
       refine WC.seq ?_
       refine WC.run ?_
       refine WS.op rfl rfl (WS.op rfl rfl (WS.op rfl (op_ld (M9.at 0 rfl) rfl rfl) (WS.opV (.int .i64 (((o.nd).toNat : Nat) : Int)) rfl rfl (cv_i64 (n := (o.nd).toNat) (by have := UInt8.toNat_lt (o.nd); omega)) ?_)))
       refine WS.call rfl rfl rfl (one_ran M9.here (n := (o.nd).toNat) (b := o.nd) (by first | rfl | simp)) ?_
       rintro _ h40 ⟨rfl, N41⟩
       have M42 := M9.trans N41
       refine WS.op rfl (op_sadd (l := [o.op]) (m := [o.nd]) rfl rfl (by first | omega | (simp only [List.length_append, List.length_cons, List.length_nil]; omega))) (WS.op rfl rfl (WS.nil [(2, _)] rfl ?_))
       refine WC.ret ?_
       refine ⟨[_], (res_tmp rfl res_nil), ?_⟩
       have q3 : encO o = ([o.op] ++ [o.nd]) := by rw [encO_5 (by omega)]; simp [Oper.tok]
       exact ⟨by simp only [if_true]; rw [q3]; rfl, M42.bare.take 0⟩
end Go.Proofs.Yteikngjiaboeaaa.Wt
