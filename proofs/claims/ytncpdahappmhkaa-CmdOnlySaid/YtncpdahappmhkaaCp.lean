/- Operators' commands: which may be, walked. -/
import Derived.Test.YtncpdahappmhkaaCw
namespace Go.Proofs.Ytncpdahappmhkaa.Wt
open Go Go.Proofs.Ytncpdahappmhkaa.Am Go.Proofs.Ytncpdahappmhkaa.IrAll
set_option linter.unusedVariables false
set_option linter.unusedSimpArgs false
structure Oper where
  op : UInt8
  sl : UInt8
  t0 : UInt8
  t1 : UInt8
  t2 : UInt8
  t3 : UInt8
  t4 : UInt8
  t5 : UInt8
  t6 : UInt8
  t7 : UInt8
  ro : UInt8
  ks : Int64
  bt : Int64
  ra : Int64
  bu : Int64
  nd : UInt8
  deriving DecidableEq
def Oper.cells (x : Oper) : List Value := [(.int .u8 (((x.op).toNat : Nat) : Int)), (.int .u8 (((x.sl).toNat : Nat) : Int)), (.int .u8 (((x.t0).toNat : Nat) : Int)), (.int .u8 (((x.t1).toNat : Nat) : Int)), (.int .u8 (((x.t2).toNat : Nat) : Int)), (.int .u8 (((x.t3).toNat : Nat) : Int)), (.int .u8 (((x.t4).toNat : Nat) : Int)), (.int .u8 (((x.t5).toNat : Nat) : Int)), (.int .u8 (((x.t6).toNat : Nat) : Int)), (.int .u8 (((x.t7).toNat : Nat) : Int)), (.int .u8 (((x.ro).toNat : Nat) : Int)), (.int .i64 (x.ks).toInt), (.int .i64 (x.bt).toInt), (.int .i64 (x.ra).toInt), (.int .i64 (x.bu).toInt), (.int .u8 (((x.nd).toNat : Nat) : Int))]
def KOper : Row Oper := ⟨Oper.cells, 16, fun _ => rfl, by decide, fun _ => rfl⟩

theorem Oper_eqV (x y : Oper) : eqV (.agg [(0, 1), (1, 1), (2, 1), (3, 1), (4, 1), (5, 1), (6, 1), (7, 1), (8, 1), (9, 1), (10, 1), (11, 1), (12, 1), (13, 1), (14, 1), (15, 1)]) (.agg (Oper.cells x).toArray) (.agg (Oper.cells y).toArray) = some (decide (x = y)) := by
  have e : eqV (.agg [(0, 1), (1, 1), (2, 1), (3, 1), (4, 1), (5, 1), (6, 1), (7, 1), (8, 1), (9, 1), (10, 1), (11, 1), (12, 1), (13, 1), (14, 1), (15, 1)]) (.agg (Oper.cells x).toArray) (.agg (Oper.cells y).toArray) = some (((((x.op.toNat : Nat) : Int) == ((y.op.toNat : Nat) : Int)) && ((((x.sl.toNat : Nat) : Int) == ((y.sl.toNat : Nat) : Int)) && ((((x.t0.toNat : Nat) : Int) == ((y.t0.toNat : Nat) : Int)) && ((((x.t1.toNat : Nat) : Int) == ((y.t1.toNat : Nat) : Int)) && ((((x.t2.toNat : Nat) : Int) == ((y.t2.toNat : Nat) : Int)) && ((((x.t3.toNat : Nat) : Int) == ((y.t3.toNat : Nat) : Int)) && ((((x.t4.toNat : Nat) : Int) == ((y.t4.toNat : Nat) : Int)) && ((((x.t5.toNat : Nat) : Int) == ((y.t5.toNat : Nat) : Int)) && ((((x.t6.toNat : Nat) : Int) == ((y.t6.toNat : Nat) : Int)) && ((((x.t7.toNat : Nat) : Int) == ((y.t7.toNat : Nat) : Int)) && ((((x.ro.toNat : Nat) : Int) == ((y.ro.toNat : Nat) : Int)) && ((x.ks.toInt == y.ks.toInt) && ((x.bt.toInt == y.bt.toInt) && ((x.ra.toInt == y.ra.toInt) && ((x.bu.toInt == y.bu.toInt) && ((((x.nd.toNat : Nat) : Int) == ((y.nd.toNat : Nat) : Int)) && true))))))))))))))))) := rfl
  rw [e]; congr 1
  rw [Bool.eq_iff_iff]
  simp only [Bool.and_eq_true, beq_iff_eq, bs_toList, decide_eq_true_eq, Bool.and_true, and_true]
  constructor
  · intro h
    obtain ⟨h0, h1, h2, h3, h4, h5, h6, h7, h8, h9, h10, h11, h12, h13, h14, h15⟩ := h
    obtain ⟨⟩ := x; obtain ⟨⟩ := y
    simp only at *
    rw [u8_inj (Int.ofNat.inj h0), u8_inj (Int.ofNat.inj h1), u8_inj (Int.ofNat.inj h2), u8_inj (Int.ofNat.inj h3), u8_inj (Int.ofNat.inj h4), u8_inj (Int.ofNat.inj h5), u8_inj (Int.ofNat.inj h6), u8_inj (Int.ofNat.inj h7), u8_inj (Int.ofNat.inj h8), u8_inj (Int.ofNat.inj h9), u8_inj (Int.ofNat.inj h10), Int64.toInt_inj.1 h11, Int64.toInt_inj.1 h12, Int64.toInt_inj.1 h13, Int64.toInt_inj.1 h14, u8_inj (Int.ofNat.inj h15)]
  · intro h; subst h; exact ⟨rfl, rfl, rfl, rfl, rfl, rfl, rfl, rfl, rfl, rfl, rfl, rfl, rfl, rfl, rfl, rfl⟩

def Sm (n : Int) : Prop := 0 ≤ n ∧ n ≤ 2147483647
instance (n : Int) : Decidable (Sm n) := by unfold Sm; infer_instance
def B4 (o : Oper) : Prop := Sm o.ks.toInt ∧ Sm o.bt.toInt ∧ Sm o.ra.toInt ∧ Sm o.bu.toInt
instance (o : Oper) : Decidable (B4 o) := by unfold B4; infer_instance
def plainO (o : Oper) : Oper := if o.op.toNat = 1 then ⟨1, o.sl, 0, 0, 0, 0, 0, 0, 0, 0, 0, o.ks, o.bt, o.ra, o.bu, 0⟩ else if o.op.toNat = 2 then ⟨2, o.sl, o.t0, o.t1, o.t2, o.t3, o.t4, o.t5, o.t6, o.t7, o.ro, 0, 0, 0, 0, 0⟩ else if o.op.toNat = 3 then ⟨3, 0, o.t0, o.t1, o.t2, o.t3, o.t4, o.t5, o.t6, o.t7, 0, 0, 0, 0, 0, 0⟩ else if o.op.toNat = 4 then ⟨4, o.sl, 0, 0, 0, 0, 0, 0, 0, 0, 0, 0, 0, 0, 0, 0⟩ else ⟨o.op, 0, 0, 0, 0, 0, 0, 0, 0, 0, 0, 0, 0, 0, 0, o.nd⟩
def zeroO : Oper := ⟨0, 0, 0, 0, 0, 0, 0, 0, 0, 0, 0, 0, 0, 0, 0, 0⟩
variable {h base : H} {L : List Seg} {R : List Nat}
def MayO (o : Oper) : Prop := (1 ≤ o.op.toNat ∧ o.op.toNat ≤ 7) ∧ o = plainO o ∧ o.sl.toNat ≤ 3 ∧ (o.op.toNat = 2 → 1 ≤ o.ro.toNat ∧ o.ro.toNat ≤ 3) ∧ (4 < o.op.toNat → 1 ≤ o.nd.toNat ∧ o.nd.toNat ≤ 5) ∧ B4 o
instance (o : Oper) : Decidable (MayO o) := by unfold MayO; infer_instance
def mayOB (o : Oper) : Bool := decide (MayO o)
theorem mayOB_t {o : Oper} (q : MayO o) : packE [.bool true] = .bool (mayOB o) := by unfold mayOB; rw [decide_eq_true q]; rfl
theorem mayOB_f {o : Oper} (q : ¬ MayO o) : packE [.bool false] = .bool (mayOB o) := by unfold mayOB; rw [decide_eq_false q]; rfl
theorem plainO_ran (W : Mem h h [] []) {o : Oper} : Cll tab0 62 [.agg (Oper.cells o).toArray] h (fun v h2 => v = .agg (Oper.cells (plainO o)).toArray ∧ Mem h h2 [] []) := by
  refine Cll.code rfl rfl ?_
  refine WC.env [(0, _)] rfl ?_
  refine WC.seq ?_
  refine WC.run ?_
  refine WS.box W [_, _, _, _, _, _, _, _, _, _, _, _, _, _, _, _] rfl rfl rfl rfl ?_
  intro p1 h2 M3
  refine WS.new M3 rfl ?_
  intro p4 h5 M6
  refine WS.nil [(1, _), (2, _)] rfl ?_
  refine WC.seq ?_
  refine WC.seq ?_
  refine WC.run ?_
  refine WS.op rfl rfl (WS.op rfl (op_ld (M6.at 1 rfl) rfl rfl) (WS.nil [(1, _), (2, _), (4, _)] rfl ?_))
  refine WC.block ?_
  refine WC.seq ?_
  refine WC.run ?_
  refine WS.eqlN (a := (o.op).toNat) (b := 1) rfl rfl rfl (fun e6 => ?_) (fun e6 => ?_)
  · skip
    refine WS.op rfl rfl (WS.nil [(1, _), (2, _), (4, _), (5, _)] rfl ?_)
    refine WC.condT rfl ?_
    refine WC.seq ?_
    refine WC.run ?_
    refine WS.op rfl rfl (WS.op rfl (op_ld (M6.at 1 rfl) rfl rfl) (WS.op rfl rfl (WS.op rfl (op_ld (M6.at 1 rfl) rfl rfl) (WS.op rfl rfl (WS.op rfl (op_ld (M6.at 1 rfl) rfl rfl) (WS.op rfl rfl (WS.op rfl (op_ld (M6.at 1 rfl) rfl rfl) (WS.op rfl rfl (WS.op rfl (op_ld (M6.at 1 rfl) rfl rfl) ?_)))))))))
    refine WS.opV (.agg #[(.int .u8 (1 : Int)), (.int .u8 (((o.sl).toNat : Nat) : Int)), (.int .u8 (0 : Int)), (.int .u8 (0 : Int)), (.int .u8 (0 : Int)), (.int .u8 (0 : Int)), (.int .u8 (0 : Int)), (.int .u8 (0 : Int)), (.int .u8 (0 : Int)), (.int .u8 (0 : Int)), (.int .u8 (0 : Int)), (.int .i64 (o.ks).toInt), (.int .i64 (o.bt).toInt), (.int .i64 (o.ra).toInt), (.int .i64 (o.bu).toInt), (.int .u8 (0 : Int))]) rfl rfl rfl ?_
    refine WS.st1 (M6.focus 0 rfl) [_, _, _, _, _, _, _, _, _, _, _, _, _, _, _, _] [_, _, _, _, _, _, _, _, _, _, _, _, _, _, _, _] rfl rfl rfl rfl rfl (Nat.le_of_ble_eq_true rfl) (Nat.le_of_ble_eq_true rfl) rfl rfl ?_
    intro h7 M8
    replace M8 : Mem _ _ ([(p4, _)] :: [(p1, _)] :: []) _ := M8
    refine WS.nil [(2, _)] rfl ?_
    refine WC.ret ?_
    refine ⟨[_], (res_cellN [_, _, _, _, _, _, _, _, _, _, _, _, _, _, _, _] rfl (M8.at 0 rfl) (Nat.le_of_ble_eq_true rfl) rfl res_nil), ?_⟩
    exact ⟨by unfold plainO; rw [if_pos (show o.op.toNat = 1 by omega)]; rfl, M8.bare.take 0⟩
  · skip
    refine WS.op rfl rfl (WS.nil [(1, _), (2, _), (4, _), (5, _)] rfl ?_)
    refine WC.condF rfl ?_
    refine WC.seq ?_
    refine WC.run ?_
    refine WS.eqlN (a := (o.op).toNat) (b := 2) rfl rfl rfl (fun e19 => ?_) (fun e19 => ?_)
    · skip
      refine WS.op rfl rfl (WS.nil [(1, _), (2, _), (4, _), (18, _)] rfl ?_)
      refine WC.condT rfl ?_
      refine WC.seq ?_
      refine WC.run ?_
      refine WS.op rfl rfl (WS.op rfl (op_ld (M6.at 1 rfl) rfl rfl) (WS.op rfl rfl (WS.op rfl (op_lds [_, _, _, _, _, _, _, _] (M6.at 1 rfl) rfl (Nat.le_of_ble_eq_true rfl) rfl) (WS.op rfl rfl (WS.op rfl (op_ld (M6.at 1 rfl) rfl rfl) (WS.opV (.agg #[(.int .u8 (2 : Int)), (.int .u8 (((o.sl).toNat : Nat) : Int)), (.int .u8 (((o.t0).toNat : Nat) : Int)), (.int .u8 (((o.t1).toNat : Nat) : Int)), (.int .u8 (((o.t2).toNat : Nat) : Int)), (.int .u8 (((o.t3).toNat : Nat) : Int)), (.int .u8 (((o.t4).toNat : Nat) : Int)), (.int .u8 (((o.t5).toNat : Nat) : Int)), (.int .u8 (((o.t6).toNat : Nat) : Int)), (.int .u8 (((o.t7).toNat : Nat) : Int)), (.int .u8 (((o.ro).toNat : Nat) : Int)), (.int .i64 (0 : Int)), (.int .i64 (0 : Int)), (.int .i64 (0 : Int)), (.int .i64 (0 : Int)), (.int .u8 (0 : Int))]) rfl rfl rfl ?_))))))
      refine WS.st1 (M6.focus 0 rfl) [_, _, _, _, _, _, _, _, _, _, _, _, _, _, _, _] [_, _, _, _, _, _, _, _, _, _, _, _, _, _, _, _] rfl rfl rfl rfl rfl (Nat.le_of_ble_eq_true rfl) (Nat.le_of_ble_eq_true rfl) rfl rfl ?_
      intro h9 M10
      replace M10 : Mem _ _ ([(p4, _)] :: [(p1, _)] :: []) _ := M10
      refine WS.nil [(2, _)] rfl ?_
      refine WC.ret ?_
      refine ⟨[_], (res_cellN [_, _, _, _, _, _, _, _, _, _, _, _, _, _, _, _] rfl (M10.at 0 rfl) (Nat.le_of_ble_eq_true rfl) rfl res_nil), ?_⟩
      exact ⟨by unfold plainO; rw [if_neg (show ¬ o.op.toNat = 1 by omega), if_pos (show o.op.toNat = 2 by omega)]; rfl, M10.bare.take 0⟩
    · skip
      refine WS.op rfl rfl (WS.nil [(1, _), (2, _), (4, _), (18, _)] rfl ?_)
      refine WC.condF rfl ?_
      refine WC.seq ?_
      refine WC.run ?_
      refine WS.eqlN (a := (o.op).toNat) (b := 3) rfl rfl rfl (fun e28 => ?_) (fun e28 => ?_)
      · skip
        refine WS.op rfl rfl (WS.nil [(1, _), (2, _), (4, _), (27, _)] rfl ?_)
        refine WC.condT rfl ?_
        refine WC.seq ?_
        refine WC.run ?_
        refine WS.op rfl rfl (WS.op rfl (op_lds [_, _, _, _, _, _, _, _] (M6.at 1 rfl) rfl (Nat.le_of_ble_eq_true rfl) rfl) (WS.opV (.agg #[(.int .u8 (3 : Int)), (.int .u8 (0 : Int)), (.int .u8 (((o.t0).toNat : Nat) : Int)), (.int .u8 (((o.t1).toNat : Nat) : Int)), (.int .u8 (((o.t2).toNat : Nat) : Int)), (.int .u8 (((o.t3).toNat : Nat) : Int)), (.int .u8 (((o.t4).toNat : Nat) : Int)), (.int .u8 (((o.t5).toNat : Nat) : Int)), (.int .u8 (((o.t6).toNat : Nat) : Int)), (.int .u8 (((o.t7).toNat : Nat) : Int)), (.int .u8 (0 : Int)), (.int .i64 (0 : Int)), (.int .i64 (0 : Int)), (.int .i64 (0 : Int)), (.int .i64 (0 : Int)), (.int .u8 (0 : Int))]) rfl rfl rfl ?_))
        refine WS.st1 (M6.focus 0 rfl) [_, _, _, _, _, _, _, _, _, _, _, _, _, _, _, _] [_, _, _, _, _, _, _, _, _, _, _, _, _, _, _, _] rfl rfl rfl rfl rfl (Nat.le_of_ble_eq_true rfl) (Nat.le_of_ble_eq_true rfl) rfl rfl ?_
        intro h11 M12
        replace M12 : Mem _ _ ([(p4, _)] :: [(p1, _)] :: []) _ := M12
        refine WS.nil [(2, _)] rfl ?_
        refine WC.ret ?_
        refine ⟨[_], (res_cellN [_, _, _, _, _, _, _, _, _, _, _, _, _, _, _, _] rfl (M12.at 0 rfl) (Nat.le_of_ble_eq_true rfl) rfl res_nil), ?_⟩
        exact ⟨by unfold plainO; rw [if_neg (show ¬ o.op.toNat = 1 by omega), if_neg (show ¬ o.op.toNat = 2 by omega), if_pos (show o.op.toNat = 3 by omega)]; rfl, M12.bare.take 0⟩
      · skip
        refine WS.op rfl rfl (WS.nil [(1, _), (2, _), (4, _), (27, _)] rfl ?_)
        refine WC.condF rfl ?_
        refine WC.seq ?_
        refine WC.run ?_
        refine WS.eqlN (a := (o.op).toNat) (b := 4) rfl rfl rfl (fun e33 => ?_) (fun e33 => ?_)
        · skip
          refine WS.op rfl rfl (WS.nil [(1, _), (2, _), (32, _)] rfl ?_)
          refine WC.condT rfl ?_
          refine WC.seq ?_
          refine WC.run ?_
          refine WS.op rfl rfl (WS.op rfl (op_ld (M6.at 1 rfl) rfl rfl) (WS.opV (.agg #[(.int .u8 (4 : Int)), (.int .u8 (((o.sl).toNat : Nat) : Int)), (.int .u8 (0 : Int)), (.int .u8 (0 : Int)), (.int .u8 (0 : Int)), (.int .u8 (0 : Int)), (.int .u8 (0 : Int)), (.int .u8 (0 : Int)), (.int .u8 (0 : Int)), (.int .u8 (0 : Int)), (.int .u8 (0 : Int)), (.int .i64 (0 : Int)), (.int .i64 (0 : Int)), (.int .i64 (0 : Int)), (.int .i64 (0 : Int)), (.int .u8 (0 : Int))]) rfl rfl rfl ?_))
          refine WS.st1 (M6.focus 0 rfl) [_, _, _, _, _, _, _, _, _, _, _, _, _, _, _, _] [_, _, _, _, _, _, _, _, _, _, _, _, _, _, _, _] rfl rfl rfl rfl rfl (Nat.le_of_ble_eq_true rfl) (Nat.le_of_ble_eq_true rfl) rfl rfl ?_
          intro h13 M14
          replace M14 : Mem _ _ ([(p4, _)] :: [(p1, _)] :: []) _ := M14
          refine WS.nil [(2, _)] rfl ?_
          refine WC.ret ?_
          refine ⟨[_], (res_cellN [_, _, _, _, _, _, _, _, _, _, _, _, _, _, _, _] rfl (M14.at 0 rfl) (Nat.le_of_ble_eq_true rfl) rfl res_nil), ?_⟩
          exact ⟨by unfold plainO; rw [if_neg (show ¬ o.op.toNat = 1 by omega), if_neg (show ¬ o.op.toNat = 2 by omega), if_neg (show ¬ o.op.toNat = 3 by omega), if_pos (show o.op.toNat = 4 by omega)]; rfl, M14.bare.take 0⟩
        · skip
          refine WS.op rfl rfl (WS.nil [(1, _), (2, _), (32, _)] rfl ?_)
          refine WC.condF rfl ?_
          refine WC.skip ?_
          refine WC.seq ?_
          refine WC.run ?_
          refine WS.op rfl rfl (WS.op rfl (op_ld (M6.at 1 rfl) rfl rfl) (WS.op rfl rfl (WS.op rfl (op_ld (M6.at 1 rfl) rfl rfl) (WS.opV (.agg #[(.int .u8 (((o.op).toNat : Nat) : Int)), (.int .u8 (0 : Int)), (.int .u8 (0 : Int)), (.int .u8 (0 : Int)), (.int .u8 (0 : Int)), (.int .u8 (0 : Int)), (.int .u8 (0 : Int)), (.int .u8 (0 : Int)), (.int .u8 (0 : Int)), (.int .u8 (0 : Int)), (.int .u8 (0 : Int)), (.int .i64 (0 : Int)), (.int .i64 (0 : Int)), (.int .i64 (0 : Int)), (.int .i64 (0 : Int)), (.int .u8 (((o.nd).toNat : Nat) : Int))]) rfl rfl rfl ?_))))
          refine WS.st1 (M6.focus 0 rfl) [_, _, _, _, _, _, _, _, _, _, _, _, _, _, _, _] [_, _, _, _, _, _, _, _, _, _, _, _, _, _, _, _] rfl rfl rfl rfl rfl (Nat.le_of_ble_eq_true rfl) (Nat.le_of_ble_eq_true rfl) rfl rfl ?_
          intro h15 M16
          replace M16 : Mem _ _ ([(p4, _)] :: [(p1, _)] :: []) _ := M16
          refine WS.nil [(2, _)] rfl ?_
          refine WC.ret ?_
          refine ⟨[_], (res_cellN [_, _, _, _, _, _, _, _, _, _, _, _, _, _, _, _] rfl (M16.at 0 rfl) (Nat.le_of_ble_eq_true rfl) rfl res_nil), ?_⟩
          exact ⟨by unfold plainO; rw [if_neg (show ¬ o.op.toNat = 1 by omega), if_neg (show ¬ o.op.toNat = 2 by omega), if_neg (show ¬ o.op.toNat = 3 by omega), if_neg (show ¬ o.op.toNat = 4 by omega)]; rfl, M16.bare.take 0⟩
theorem bounded_ran (W : Mem h h [] []) {n : Int} : Cll tab0 63 [.int .i64 n] h (fun v h2 => v = .bool (decide (Sm n)) ∧ Mem h h2 [] []) := by
  refine Cll.code rfl rfl ?_
  refine WC.env [(0, _)] rfl ?_
  refine WC.seq ?_
  refine WC.run ?_
  refine WS.op rfl rfl (WS.nil [(0, _)] rfl ?_)
  refine WC.seq ?_
  refine WC.run ?_
  refine WS.op rfl rfl ?_
  refine WS.geq (a := n) (b := (0 : Int)) rfl rfl rfl (fun e4 => ?_) (fun e4 => ?_)
  · skip
    refine WS.op rfl rfl (WS.op rfl rfl ?_)
    refine WS.leq (a := n) (b := (2147483647 : Int)) rfl rfl rfl (fun e7 => ?_) (fun e7 => ?_)
    · skip
      refine WS.op rfl rfl (WS.op rfl rfl (WS.nil [(2, _)] rfl ?_))
      refine WC.ret ?_
      refine ⟨[_], (res_tmp rfl res_nil), ?_⟩
      exact ⟨vbt (by unfold Sm; omega), W.bare.take 0⟩
    · skip
      refine WS.op rfl rfl (WS.op rfl rfl (WS.nil [(2, _)] rfl ?_))
      refine WC.ret ?_
      refine ⟨[_], (res_tmp rfl res_nil), ?_⟩
      exact ⟨vbf (by unfold Sm; omega), W.bare.take 0⟩
  · skip
    refine WS.op rfl rfl (WS.off rfl (WS.off rfl (WS.op rfl rfl (WS.op rfl rfl (WS.nil [(2, _)] rfl ?_)))))
    refine WC.ret ?_
    refine ⟨[_], (res_tmp rfl res_nil), ?_⟩
    exact ⟨vbf (by unfold Sm; omega), W.bare.take 0⟩
set_option maxRecDepth 8000 in
theorem refMayO_ran (W : Mem h h [] []) {o : Oper} : Cll tab0 43 [.agg (Oper.cells o).toArray] h (fun v h2 => v = .bool (mayOB o) ∧ Mem h h2 [] []) := by
  refine Cll.code rfl rfl ?_
  refine WC.env [(0, _)] rfl ?_
  refine WC.seq ?_
  refine WC.run ?_
  refine WS.box W [_, _, _, _, _, _, _, _, _, _, _, _, _, _, _, _] rfl rfl rfl rfl ?_
  intro p1 h2 M3
  refine WS.op rfl rfl (WS.nil [(1, _)] rfl ?_)
  refine WC.seq ?_
  refine WC.seq ?_
  obtain ⟨L4, eL6, M5⟩ := Mem.name M3.bare
  refine WC.joinD M5 [] rfl (fun b => [(1, (.pointer (some ⟨p1, 0, none⟩))), (21, .bool b)]) L4 (¬ ((1 ≤ o.op.toNat ∧ o.op.toNat ≤ 7) ∧ o = plainO o ∧ o.sl.toNat ≤ 3)) ((1 ≤ o.op.toNat ∧ o.op.toNat ≤ 7) ∧ o = plainO o ∧ o.sl.toNat ≤ 3) ?_ ?_ ?_
  · subst eL6
    intro rb7 h8 M9
    refine WS.op rfl rfl (WS.op rfl (op_ld (M9.at 0 rfl) rfl rfl) ?_)
    refine WS.lssN (a := (o.op).toNat) (b := 1) rfl rfl rfl (fun e5 => ?_) (fun e5 => ?_)
    · skip
      refine WS.op rfl rfl (WS.off rfl (WS.off rfl (WS.off rfl (WS.op rfl rfl (WS.op rfl rfl (WS.off rfl (WS.off rfl (WS.offC rfl (WS.chkOff rfl ?_)))))))))
      refine WS.off rfl (WS.op rfl rfl (WS.op rfl rfl (WS.off rfl (WS.off rfl (WS.off rfl (WS.op rfl rfl ?_))))))
      refine WS.nil' ⟨true, rfl, ((M9.bare.focus 0 rfl).take 1), fun _ => ?_, fun hh => ?_⟩
      · rintro ⟨q1, q2, q3⟩; first | omega | exact e15 q2
      · cases hh
    · skip
      refine WS.op rfl rfl (WS.op rfl rfl (WS.op rfl (op_ld (M9.at 0 rfl) rfl rfl) ?_))
      refine WS.gtrN (a := (o.op).toNat) (b := 7) rfl rfl rfl (fun e9 => ?_) (fun e9 => ?_)
      · skip
        refine WS.op rfl rfl (WS.op rfl rfl (WS.off rfl (WS.off rfl (WS.offC rfl (WS.chkOff rfl (WS.off rfl (WS.op rfl rfl (WS.op rfl rfl (WS.off rfl ?_)))))))))
        refine WS.off rfl (WS.off rfl (WS.op rfl rfl ?_))
        refine WS.nil' ⟨true, rfl, ((M9.bare.focus 0 rfl).take 1), fun _ => ?_, fun hh => ?_⟩
        · rintro ⟨q1, q2, q3⟩; first | omega | exact e15 q2
        · cases hh
      · skip
        refine WS.op rfl rfl (WS.op rfl rfl (WS.op rfl (op_lds [_, _, _, _, _, _, _, _, _, _, _, _, _, _, _, _] (M9.at 0 rfl) rfl (Nat.le_of_ble_eq_true rfl) rfl) (WS.op rfl (op_lds [_, _, _, _, _, _, _, _, _, _, _, _, _, _, _, _] (M9.at 0 rfl) rfl (Nat.le_of_ble_eq_true rfl) rfl) ?_)))
        refine WS.call rfl rfl rfl (plainO_ran M9.here (o := o)) ?_
        rintro _ h10 ⟨rfl, N11⟩
        have M12 := M9.trans N11
        refine WS.chk rfl (op_lds [_, _, _, _, _, _, _, _, _, _, _, _, _, _, _, _] (M12.at 0 rfl) rfl (Nat.le_of_ble_eq_true rfl) rfl) rfl (sameV_refl rfl) ?_
        refine WS.eqqDn (p := o = (⟨((plainO o).op), ((plainO o).sl), ((plainO o).t0), ((plainO o).t1), ((plainO o).t2), ((plainO o).t3), ((plainO o).t4), ((plainO o).t5), ((plainO o).t6), ((plainO o).t7), ((plainO o).ro), (plainO o).ks, (plainO o).bt, (plainO o).ra, (plainO o).bu, ((plainO o).nd)⟩ : Oper)) rfl rfl rfl (Oper_eqV _ _) (fun e15 => ?_) (fun e15 => ?_)
        · skip
          refine WS.op rfl rfl (WS.op rfl rfl (WS.off rfl (WS.off rfl (WS.off rfl (WS.op rfl rfl ?_)))))
          refine WS.nil' ⟨true, rfl, ((M12.bare.focus 0 rfl).take 1), fun _ => ?_, fun hh => ?_⟩
          · rintro ⟨q1, q2, q3⟩; first | omega | exact e15 q2
          · cases hh
        · skip
          refine WS.op rfl rfl (WS.op rfl rfl (WS.op rfl rfl (WS.op rfl (op_ld (M12.at 0 rfl) rfl rfl) ?_)))
          refine WS.gtrN (a := (o.sl).toNat) (b := 3) rfl rfl rfl (fun e20 => ?_) (fun e20 => ?_)
          · skip
            refine WS.op rfl rfl ?_
            refine WS.nil' ⟨true, rfl, ((M12.bare.focus 0 rfl).take 1), fun _ => ?_, fun hh => ?_⟩
            · rintro ⟨q1, q2, q3⟩; first | omega | exact e15 q2
            · cases hh
          · skip
            refine WS.op rfl rfl ?_
            refine WS.nil' ⟨false, rfl, ((M12.bare.focus 0 rfl).take 1), fun hh => ?_, fun _ => ?_⟩
            · cases hh
            · exact ⟨by omega, e15, by omega⟩
  · intro h13 M14 hp21
    subst eL6
    refine WC.condT rfl ?_
    refine WC.seq ?_
    refine WC.run ?_
    refine WS.op rfl rfl (WS.nil [(2, _)] rfl ?_)
    refine WC.ret ?_
    refine ⟨[_], (res_tmp rfl res_nil), ?_⟩
    exact ⟨mayOB_f (by rintro ⟨q1, q2, q3, q4, q5, q6, q7, q8, q9⟩; first | exact hp21 ⟨q1, q2, q3⟩ | exact hp49 ⟨q4, q5⟩ | exact absurd q6 (of_decide_eq_false (by assumption)) | exact absurd q7 (of_decide_eq_false (by assumption)) | exact absurd q8 (of_decide_eq_false (by assumption)) | exact absurd q9 (of_decide_eq_false (by assumption))), M14.bare.take 0⟩
  · intro h15 M16 hp21
    subst eL6
    refine WC.condF rfl ?_
    refine WC.skip ?_
    refine WC.seq ?_
    refine WC.seq ?_
    obtain ⟨L17, eL19, M18⟩ := Mem.name M16.bare
    refine WC.joinB (base := h) (fun b => [(1, (.pointer (some ⟨p1, 0, none⟩))), (49, .bool b)]) L17 (¬ ((o.op.toNat = 2 → 1 ≤ o.ro.toNat ∧ o.ro.toNat ≤ 3) ∧ (4 < o.op.toNat → 1 ≤ o.nd.toNat ∧ o.nd.toNat ≤ 5))) (((o.op.toNat = 2 → 1 ≤ o.ro.toNat ∧ o.ro.toNat ≤ 3) ∧ (4 < o.op.toNat → 1 ≤ o.nd.toNat ∧ o.nd.toNat ≤ 5))) ?_ ?_ ?_
    · subst eL19
      refine WS.op rfl rfl (WS.op rfl (op_ld (M18.at 0 rfl) rfl rfl) ?_)
      refine WS.eqlN (a := (o.op).toNat) (b := 2) rfl rfl rfl (fun e24 => ?_) (fun e24 => ?_)
      · skip
        refine WS.op rfl rfl (WS.op rfl rfl (WS.op rfl (op_ld (M18.at 0 rfl) rfl rfl) ?_))
        refine WS.lssN (a := (o.ro).toNat) (b := 1) rfl rfl rfl (fun e28 => ?_) (fun e28 => ?_)
        · skip
          refine WS.op rfl rfl (WS.off rfl (WS.off rfl (WS.off rfl (WS.op rfl rfl (WS.op rfl rfl (WS.op rfl rfl (WS.off rfl (WS.off rfl (WS.off rfl ?_)))))))))
          refine WS.off rfl (WS.off rfl (WS.off rfl (WS.off rfl (WS.off rfl (WS.off rfl (WS.off rfl (WS.off rfl (WS.off rfl (WS.off rfl ?_)))))))))
          refine WS.op rfl rfl ?_
          refine WS.nil' ⟨true, rfl, ((M18.bare.focus 0 rfl).take 1), fun _ => ?_, fun hh => ?_⟩
          · omega
          · cases hh
        · skip
          refine WS.op rfl rfl (WS.op rfl rfl (WS.op rfl (op_ld (M18.at 0 rfl) rfl rfl) ?_))
          refine WS.gtrN (a := (o.ro).toNat) (b := 3) rfl rfl rfl (fun e32 => ?_) (fun e32 => ?_)
          · skip
            refine WS.op rfl rfl (WS.op rfl rfl (WS.op rfl rfl (WS.off rfl (WS.off rfl (WS.off rfl (WS.off rfl (WS.off rfl (WS.off rfl (WS.off rfl ?_)))))))))
            refine WS.off rfl (WS.off rfl (WS.off rfl (WS.off rfl (WS.off rfl (WS.off rfl (WS.op rfl rfl ?_))))))
            refine WS.nil' ⟨true, rfl, ((M18.bare.focus 0 rfl).take 1), fun _ => ?_, fun hh => ?_⟩
            · omega
            · cases hh
          · skip
            refine WS.op rfl rfl (WS.op rfl rfl (WS.op rfl rfl (WS.op rfl rfl (WS.op rfl (op_ld (M18.at 0 rfl) rfl rfl) ?_))))
            refine WS.gtrN (a := (o.op).toNat) (b := 4) rfl rfl rfl (fun e38 => ?_) (fun e38 => ?_)
            · skip
              refine WS.op rfl rfl (WS.op rfl rfl (WS.op rfl (op_ld (M18.at 0 rfl) rfl rfl) ?_))
              refine WS.lssN (a := (o.nd).toNat) (b := 1) rfl rfl rfl (fun e42 => ?_) (fun e42 => ?_)
              · skip
                refine WS.op rfl rfl (WS.off rfl (WS.off rfl (WS.off rfl (WS.op rfl rfl (WS.op rfl rfl (WS.op rfl rfl ?_))))))
                refine WS.nil' ⟨true, rfl, ((M18.bare.focus 0 rfl).take 1), fun _ => ?_, fun hh => ?_⟩
                · omega
                · cases hh
              · skip
                refine WS.op rfl rfl (WS.op rfl rfl (WS.op rfl (op_ld (M18.at 0 rfl) rfl rfl) ?_))
                refine WS.gtrN (a := (o.nd).toNat) (b := 5) rfl rfl rfl (fun e46 => ?_) (fun e46 => ?_)
                · skip
                  refine WS.op rfl rfl (WS.op rfl rfl (WS.op rfl rfl ?_))
                  refine WS.nil' ⟨true, rfl, ((M18.bare.focus 0 rfl).take 1), fun _ => ?_, fun hh => ?_⟩
                  · omega
                  · cases hh
                · skip
                  refine WS.op rfl rfl (WS.op rfl rfl (WS.op rfl rfl ?_))
                  refine WS.nil' ⟨false, rfl, ((M18.bare.focus 0 rfl).take 1), fun hh => ?_, fun _ => ?_⟩
                  · cases hh
                  · omega
            · skip
              refine WS.op rfl rfl (WS.off rfl (WS.off rfl (WS.off rfl (WS.off rfl (WS.off rfl (WS.off rfl (WS.off rfl (WS.off rfl (WS.op rfl rfl ?_)))))))))
              refine WS.op rfl rfl ?_
              refine WS.nil' ⟨false, rfl, ((M18.bare.focus 0 rfl).take 1), fun hh => ?_, fun _ => ?_⟩
              · cases hh
              · omega
      · skip
        refine WS.op rfl rfl (WS.off rfl (WS.off rfl (WS.off rfl (WS.off rfl (WS.off rfl (WS.off rfl (WS.off rfl (WS.off rfl (WS.op rfl rfl ?_)))))))))
        refine WS.op rfl rfl (WS.op rfl rfl (WS.op rfl (op_ld (M18.at 0 rfl) rfl rfl) ?_))
        refine WS.gtrN (a := (o.op).toNat) (b := 4) rfl rfl rfl (fun e38 => ?_) (fun e38 => ?_)
        · skip
          refine WS.op rfl rfl (WS.op rfl rfl (WS.op rfl (op_ld (M18.at 0 rfl) rfl rfl) ?_))
          refine WS.lssN (a := (o.nd).toNat) (b := 1) rfl rfl rfl (fun e42 => ?_) (fun e42 => ?_)
          · skip
            refine WS.op rfl rfl (WS.off rfl (WS.off rfl (WS.off rfl (WS.op rfl rfl (WS.op rfl rfl (WS.op rfl rfl ?_))))))
            refine WS.nil' ⟨true, rfl, ((M18.bare.focus 0 rfl).take 1), fun _ => ?_, fun hh => ?_⟩
            · omega
            · cases hh
          · skip
            refine WS.op rfl rfl (WS.op rfl rfl (WS.op rfl (op_ld (M18.at 0 rfl) rfl rfl) ?_))
            refine WS.gtrN (a := (o.nd).toNat) (b := 5) rfl rfl rfl (fun e46 => ?_) (fun e46 => ?_)
            · skip
              refine WS.op rfl rfl (WS.op rfl rfl (WS.op rfl rfl ?_))
              refine WS.nil' ⟨true, rfl, ((M18.bare.focus 0 rfl).take 1), fun _ => ?_, fun hh => ?_⟩
              · omega
              · cases hh
            · skip
              refine WS.op rfl rfl (WS.op rfl rfl (WS.op rfl rfl ?_))
              refine WS.nil' ⟨false, rfl, ((M18.bare.focus 0 rfl).take 1), fun hh => ?_, fun _ => ?_⟩
              · cases hh
              · omega
        · skip
          refine WS.op rfl rfl (WS.off rfl (WS.off rfl (WS.off rfl (WS.off rfl (WS.off rfl (WS.off rfl (WS.off rfl (WS.off rfl (WS.op rfl rfl ?_)))))))))
          refine WS.op rfl rfl ?_
          refine WS.nil' ⟨false, rfl, ((M18.bare.focus 0 rfl).take 1), fun hh => ?_, fun _ => ?_⟩
          · cases hh
          · omega
    · intro h20 M21 hp49
      subst eL19
      refine WC.condT rfl ?_
      refine WC.seq ?_
      refine WC.run ?_
      refine WS.op rfl rfl (WS.nil [(2, _)] rfl ?_)
      refine WC.ret ?_
      refine ⟨[_], (res_tmp rfl res_nil), ?_⟩
      exact ⟨mayOB_f (by rintro ⟨q1, q2, q3, q4, q5, q6, q7, q8, q9⟩; first | exact hp21 ⟨q1, q2, q3⟩ | exact hp49 ⟨q4, q5⟩ | exact absurd q6 (of_decide_eq_false (by assumption)) | exact absurd q7 (of_decide_eq_false (by assumption)) | exact absurd q8 (of_decide_eq_false (by assumption)) | exact absurd q9 (of_decide_eq_false (by assumption))), M21.bare.take 0⟩
    · intro h22 M23 hp49
      subst eL19
      refine WC.condF rfl ?_
      refine WC.skip ?_
      refine WC.seq ?_
      refine WC.run ?_
      refine WS.op rfl rfl (WS.op rfl (op_ld (M23.at 0 rfl) rfl rfl) ?_)
      refine WS.call rfl rfl rfl (bounded_ran M23.here (n := (o.ks).toInt)) ?_
      rintro _ h24 ⟨rfl, N25⟩
      have M26 := M23.trans N25
      refine WS.op rfl rfl ?_
      cases hb1 : (decide (Sm ((o.ks).toInt)))
      · skip
        refine WS.off rfl (WS.off rfl (WS.offC rfl (WS.op rfl rfl (WS.op rfl rfl (WS.off rfl (WS.off rfl (WS.offC rfl (WS.op rfl rfl (WS.op rfl rfl ?_)))))))))
        refine WS.off rfl (WS.off rfl (WS.offC rfl (WS.op rfl rfl (WS.op rfl rfl (WS.nil [(2, _)] rfl ?_)))))
        refine WC.ret ?_
        refine ⟨[_], (res_tmp rfl res_nil), ?_⟩
        exact ⟨mayOB_f (by rintro ⟨q1, q2, q3, q4, q5, q6, q7, q8, q9⟩; first | exact hp21 ⟨q1, q2, q3⟩ | exact hp49 ⟨q4, q5⟩ | exact absurd q6 (of_decide_eq_false (by assumption)) | exact absurd q7 (of_decide_eq_false (by assumption)) | exact absurd q8 (of_decide_eq_false (by assumption)) | exact absurd q9 (of_decide_eq_false (by assumption))), M26.bare.take 0⟩
      · skip
        refine WS.op rfl rfl (WS.op rfl (op_ld (M26.at 0 rfl) rfl rfl) ?_)
        refine WS.call rfl rfl rfl (bounded_ran M26.here (n := (o.bt).toInt)) ?_
        rintro _ h27 ⟨rfl, N28⟩
        have M29 := M26.trans N28
        refine WS.op rfl rfl (WS.op rfl rfl ?_)
        cases hb2 : (decide (Sm ((o.bt).toInt)))
        · skip
          refine WS.off rfl (WS.off rfl (WS.offC rfl (WS.op rfl rfl (WS.op rfl rfl (WS.off rfl (WS.off rfl (WS.offC rfl (WS.op rfl rfl (WS.op rfl rfl ?_)))))))))
          refine WS.nil [(2, _)] rfl ?_
          refine WC.ret ?_
          refine ⟨[_], (res_tmp rfl res_nil), ?_⟩
          exact ⟨mayOB_f (by rintro ⟨q1, q2, q3, q4, q5, q6, q7, q8, q9⟩; first | exact hp21 ⟨q1, q2, q3⟩ | exact hp49 ⟨q4, q5⟩ | exact absurd q6 (of_decide_eq_false (by assumption)) | exact absurd q7 (of_decide_eq_false (by assumption)) | exact absurd q8 (of_decide_eq_false (by assumption)) | exact absurd q9 (of_decide_eq_false (by assumption))), M29.bare.take 0⟩
        · skip
          refine WS.op rfl rfl (WS.op rfl (op_ld (M29.at 0 rfl) rfl rfl) ?_)
          refine WS.call rfl rfl rfl (bounded_ran M29.here (n := (o.ra).toInt)) ?_
          rintro _ h30 ⟨rfl, N31⟩
          have M32 := M29.trans N31
          refine WS.op rfl rfl (WS.op rfl rfl ?_)
          cases hb3 : (decide (Sm ((o.ra).toInt)))
          · skip
            refine WS.off rfl (WS.off rfl (WS.offC rfl (WS.op rfl rfl (WS.op rfl rfl (WS.nil [(2, _)] rfl ?_)))))
            refine WC.ret ?_
            refine ⟨[_], (res_tmp rfl res_nil), ?_⟩
            exact ⟨mayOB_f (by rintro ⟨q1, q2, q3, q4, q5, q6, q7, q8, q9⟩; first | exact hp21 ⟨q1, q2, q3⟩ | exact hp49 ⟨q4, q5⟩ | exact absurd q6 (of_decide_eq_false (by assumption)) | exact absurd q7 (of_decide_eq_false (by assumption)) | exact absurd q8 (of_decide_eq_false (by assumption)) | exact absurd q9 (of_decide_eq_false (by assumption))), M32.bare.take 0⟩
          · skip
            refine WS.op rfl rfl (WS.op rfl (op_ld (M32.at 0 rfl) rfl rfl) ?_)
            refine WS.call rfl rfl rfl (bounded_ran M32.here (n := (o.bu).toInt)) ?_
            rintro _ h33 ⟨rfl, N34⟩
            have M35 := M32.trans N34
            refine WS.op rfl rfl (WS.op rfl rfl (WS.nil [(2, _)] rfl ?_))
            refine WC.ret ?_
            cases hb4 : (decide (Sm ((o.bu).toInt)))
            · skip
              refine ⟨[_], (res_tmp rfl res_nil), ?_⟩
              exact ⟨mayOB_f (by rintro ⟨q1, q2, q3, q4, q5, q6, q7, q8, q9⟩; first | exact hp21 ⟨q1, q2, q3⟩ | exact hp49 ⟨q4, q5⟩ | exact absurd q6 (of_decide_eq_false (by assumption)) | exact absurd q7 (of_decide_eq_false (by assumption)) | exact absurd q8 (of_decide_eq_false (by assumption)) | exact absurd q9 (of_decide_eq_false (by assumption))), M35.bare.take 0⟩
            · skip
              refine ⟨[_], (res_tmp rfl res_nil), ?_⟩
              exact ⟨mayOB_t ⟨hp21.1, hp21.2.1, hp21.2.2, hp49.1, hp49.2, of_decide_eq_true (by assumption), of_decide_eq_true (by assumption), of_decide_eq_true (by assumption), of_decide_eq_true (by assumption)⟩, M35.bare.take 0⟩
/-! ### The program's -/
def AllS (l : List Int) : Prop := ∀ n ∈ l, Sm n
instance (l : List Int) : Decidable (AllS l) := by unfold AllS; infer_instance
theorem small1_ran (W : Mem h h [] []) {n : Int} : Cll tab0 69 [.int .i64 n] h (fun v h2 => v = .bool (!decide (Sm n)) ∧ Mem h h2 [] []) := by
  refine Cll.code rfl rfl ?_
  refine WC.env [(0, _)] rfl ?_
  refine WC.seq ?_
  refine WC.run ?_
  refine WS.op rfl rfl (WS.nil [(0, _)] rfl ?_)
  refine WC.seq ?_
  refine WC.run ?_
  refine WS.op rfl rfl ?_
  refine WS.lss (a := n) (b := (0 : Int)) rfl rfl rfl (fun e4 => ?_) (fun e4 => ?_)
  · skip
    refine WS.op rfl rfl (WS.off rfl (WS.off rfl (WS.op rfl rfl (WS.op rfl rfl (WS.nil [(2, _)] rfl ?_)))))
    refine WC.ret ?_
    refine ⟨[_], (res_tmp rfl res_nil), ?_⟩
    exact ⟨by rw [decide_eq_false (by unfold Sm; omega)]; rfl, W.bare.take 0⟩
  · skip
    refine WS.op rfl rfl (WS.op rfl rfl ?_)
    refine WS.gtr (a := n) (b := (2147483647 : Int)) rfl rfl rfl (fun e7 => ?_) (fun e7 => ?_)
    · skip
      refine WS.op rfl rfl (WS.op rfl rfl (WS.nil [(2, _)] rfl ?_))
      refine WC.ret ?_
      refine ⟨[_], (res_tmp rfl res_nil), ?_⟩
      exact ⟨by rw [decide_eq_false (by unfold Sm; omega)]; rfl, W.bare.take 0⟩
    · skip
      refine WS.op rfl rfl (WS.op rfl rfl (WS.nil [(2, _)] rfl ?_))
      refine WC.ret ?_
      refine ⟨[_], (res_tmp rfl res_nil), ?_⟩
      exact ⟨by rw [decide_eq_true (by unfold Sm; omega)]; rfl, W.bare.take 0⟩
theorem idxI_ran (W : Mem h h [] []) {V : Value} {l : List Int} (A : KInt.Sl h V l) (hl : l.length ≤ 1000000) : Cll tab0 70 [V, .func (.func 69) #[] #[]] h (fun v h2 => (∃ z, v = .int .i64 z ∧ (0 ≤ z ↔ ¬ AllS l)) ∧ Mem h h2 [] []) := by
  refine Cll.code rfl rfl ?_
  refine WC.env [(0, _), (1, _)] rfl ?_
  refine WC.seq ?_
  refine WC.run ?_
  refine WS.op rfl rfl (WS.nil [(0, _), (1, _)] rfl ?_)
  refine WC.seq ?_
  refine WC.seq ?_
  refine WC.run ?_
  refine WS.op rfl rfl (WS.op rfl (op_lenVS A rfl) (WS.op rfl rfl (WS.nil [(0, _), (1, _), (7, _), (8, _)] rfl ?_)))
  refine WC.block ?_
  obtain ⟨L1, eL3, M2⟩ := Mem.name W.bare
  refine WC.loop (σ := Nat) (fun (i) => [(0, V), (1, (.func (.func 69) #[] #[])), (7, (.int .i64 (((l).length : Nat) : Int))), (8, (.int .i64 ((i : Nat) : Int)))]) (fun (i) hh => Mem h hh (L1) [] ∧ AllS (l.take i) ∧ i ≤ l.length) (fun (i) => l.length - i) (0) rfl ⟨M2, ?_⟩ ?_
  · exact ⟨by intro e he; simp at he, by omega⟩
  · rintro i h4 ⟨M5, ⟨hO, hi1⟩⟩
    subst eL3
    refine WC.env [(0, _), (1, _), (7, _), (8, _)] rfl ?_
    refine WC.seq ?_
    refine WC.run ?_
    refine WS.lssN (a := i) (b := (l).length) rfl rfl rfl (fun e9 => ?_) (fun e9 => ?_)
    · skip
      refine WS.nil [(0, _), (1, _), (7, _), (8, _), (9, _)] rfl ?_
      refine WC.seq ?_
      refine WC.condT rfl ?_
      refine WC.skip ?_
      refine WC.seq ?_
      refine WC.block ?_
      refine WC.seq ?_
      refine WC.run ?_
      refine WS.op rfl rfl (WS.op rfl rfl (WS.nil [(0, _), (1, _), (5, _), (7, _), (8, _)] rfl ?_))
      refine WC.seq ?_
      refine WC.run ?_
      refine WS.op rfl rfl (WS.op rfl rfl (WS.op rfl rfl ?_))
      obtain ⟨y14, hy14⟩ : ∃ y, (l)[i]? = some y := ⟨_, List.getElem?_eq_getElem (show i < (l).length by first | omega | (simp only [List.length_drop, List.length_take, List.length_append, List.length_cons, List.length_nil, List.length_singleton]; omega) | (simp only [List.length_drop, List.length_take, List.length_append, List.length_cons, List.length_nil, List.length_singleton] at *; omega))⟩
      refine WS.iaVS A i hy14 rfl rfl rfl rfl ?_
      intro b14_ o14_ ha14
      refine WS.op rfl (op_ldH rfl (At.ld0 (ha14.mono M5.sub) rfl)) ?_
      refine WS.call rfl rfl rfl (small1_ran M5.here (n := y14)) ?_
      rintro _ h6 ⟨rfl, N7⟩
      have M8 := M5.trans N7
      refine WS.nil [(0, _), (1, _), (5, _), (7, _), (8, _), (16, _)] rfl ?_
      cases hb1 : (!decide (Sm y14))
      · skip
        refine WC.condF rfl ?_
        refine WC.skip ?_
        refine WC.run ?_
        refine WS.opV (.int .i64 (((i + 1) : Nat) : Int)) rfl rfl (add_i64 (a := i) (b := 1) (by omega)) (WS.op rfl rfl (WS.nil [(0, _), (1, _), (7, _), (8, _)] rfl ?_))
        refine ⟨i + 1, rfl, ⟨(M8.bare.take 0), ?_⟩, ?_⟩
        · exact ⟨by intro s hs; rw [List.take_add_one, hy14] at hs; simp only [Option.toList_some, List.mem_append, List.mem_singleton] at hs; rcases hs with hs | hs; exact hO s hs; subst hs; simpa using hb1, by omega⟩
        · simp only []; omega
      · skip
        refine WC.condT rfl ?_
        refine WC.seq ?_
        refine WC.run ?_
        refine WS.op rfl rfl (WS.op rfl rfl (WS.nil [(4, _)] rfl ?_))
        refine WC.ret ?_
        refine ⟨[_], (res_tmp rfl res_nil), ?_⟩
        refine ⟨⟨_, rfl, ?_⟩, M8.bare.take 0⟩
        have : ¬ Sm y14 := by simpa using hb1
        exact ⟨fun _ q => this (q _ (List.mem_of_getElem? hy14)), fun _ => by omega⟩
    · skip
      refine WS.nil [(0, _), (1, _), (7, _), (8, _), (9, _)] rfl ?_
      refine WC.seq ?_
      refine WC.condF rfl ?_
      refine WC.exit ?_
      refine WC.seq ?_
      refine WC.run ?_
      refine WS.op rfl rfl (WS.nil [(4, _)] rfl ?_)
      refine WC.ret ?_
      refine ⟨[_], (res_tmp rfl res_nil), ?_⟩
      refine ⟨⟨_, rfl, ?_⟩, M5.bare.take 0⟩
      rw [List.take_of_length_le (by omega)] at hO
      exact ⟨fun q => by omega, fun q => absurd hO q⟩
theorem contI_ran (W : Mem h h [] []) {V : Value} {l : List Int} (A : KInt.Sl h V l) (hl : l.length ≤ 1000000) : Cll tab0 68 [V, .func (.func 69) #[] #[]] h (fun v h2 => v = .bool (!(decide (AllS l))) ∧ Mem h h2 [] []) := by
  refine Cll.code rfl rfl ?_
  refine WC.env [(0, _), (1, _)] rfl ?_
  refine WC.seq ?_
  refine WC.run ?_
  refine WS.op rfl rfl (WS.nil [(0, _), (1, _)] rfl ?_)
  refine WC.seq ?_
  refine WC.run ?_
  refine WS.op rfl rfl (WS.op rfl rfl ?_)
  refine WS.call rfl rfl rfl (idxI_ran W.here (A.mono W.sub) (by omega)) ?_
  rintro _ h1 ⟨⟨z7, rfl, hz7⟩, N2⟩
  have M3 := W.trans N2
  refine WS.geq (a := z7) (b := (0 : Int)) rfl rfl rfl (fun e8 => ?_) (fun e8 => ?_)
  · skip
    refine WS.op rfl rfl (WS.nil [(4, _)] rfl ?_)
    refine WC.ret ?_
    refine ⟨[_], (res_tmp rfl res_nil), ?_⟩
    refine ⟨?_, M3.bare.take 0⟩
    have hq : decide (AllS l) = false := decide_eq_false (hz7.1 (by omega))
    rw [hq]; rfl
  · skip
    refine WS.op rfl rfl (WS.nil [(4, _)] rfl ?_)
    refine WC.ret ?_
    refine ⟨[_], (res_tmp rfl res_nil), ?_⟩
    refine ⟨?_, M3.bare.take 0⟩
    have hq : decide (AllS l) = true := decide_eq_true (by by_cases q : AllS l; exact q; have := hz7.2 q; omega)
    rw [hq]; rfl
theorem small_ran (W : Mem h h [] []) {V : Value} {l : List Int} (A : KInt.Sl h V l) (hl : l.length ≤ 1000000) : Cll tab0 61 [V] h (fun v h2 => v = .bool (decide (AllS l)) ∧ Mem h h2 [] []) := by
  refine Cll.code rfl rfl ?_
  refine WC.env [(0, _)] rfl ?_
  refine WC.seq ?_
  refine WC.run ?_
  refine WS.op rfl rfl (WS.nil [(0, _)] rfl ?_)
  refine WC.seq ?_
  refine WC.run ?_
  refine WS.op rfl rfl ?_
  refine WS.call rfl rfl rfl (contI_ran W.here (A.mono W.sub) (by omega)) ?_
  rintro _ h1 ⟨rfl, N2⟩
  have M3 := W.trans N2
  cases hb1 : (!(decide (AllS l)))
  · skip
    refine WS.opV (.bool true) rfl rfl rfl (WS.op rfl rfl (WS.nil [(2, _)] rfl ?_))
    refine WC.ret ?_
    refine ⟨[_], (res_tmp rfl res_nil), ?_⟩
    refine ⟨?_, M3.bare.take 0⟩
    have hq : decide (AllS l) = true := by simpa using hb1
    rw [hq]; rfl
  · skip
    refine WS.opV (.bool false) rfl rfl rfl (WS.op rfl rfl (WS.nil [(2, _)] rfl ?_))
    refine WC.ret ?_
    refine ⟨[_], (res_tmp rfl res_nil), ?_⟩
    refine ⟨?_, M3.bare.take 0⟩
    have hq : decide (AllS l) = false := by simpa using hb1
    rw [hq]; rfl
end Go.Proofs.Ytncpdahappmhkaa.Wt
