/- The law 'FrameOnly' returns true for all arguments: what its proof stands on, part 8. -/
import Derived.Test.YteikngjiaboeaaaZFrameOnly7
namespace Go.Proofs.Yteikngjiaboeaaa.Wt
open Go Go.Proofs.Yteikngjiaboeaaa.Am Go.Proofs.Yteikngjiaboeaaa.IrAll
set_option linter.unusedVariables false
set_option linter.unusedSimpArgs false
structure Rep where
  kd : UInt8
  se : UInt64
  sq : UInt64
  ld : UInt8
  r : Res
  deriving DecidableEq
def Rep.cells (p : Rep) (V : Value) : List Value := [(.int .u8 (((p.kd).toNat : Nat) : Int)), (.int .u64 (((p.se).toNat : Nat) : Int)), (.int .u64 (((p.sq).toNat : Nat) : Int)), (.int .u8 (((p.ld).toNat : Nat) : Int)), (.int .u8 (((p.r.cd).toNat : Nat) : Int)), (.int .u64 (((p.r.n).toNat : Nat) : Int)), (.string (bs p.r.va)), V]
def Rep.val (p : Rep) (V : Value) : Value := .agg (p.cells V).toArray
variable {h base : H} {L : List Seg} {R : List Nat}
def MayP (p : Rep) : Prop := (1 ≤ p.kd.toNat ∧ p.kd.toNat ≤ 6) ∧ (p.kd.toNat = 1 → p.se = 0 ∧ p.sq = 0) ∧ (p.kd.toNat ≠ 3 → p.ld = 0) ∧ (p.kd.toNat = 3 → p.ld.toNat ≤ 5) ∧ (p.kd.toNat ≠ 6 → p.r = zeroR)
instance (p : Rep) : Decidable (MayP p) := by unfold MayP; infer_instance
def mayPB (p : Rep) : Bool := decide (MayP p)
theorem mayPB_t {p : Rep} (q : MayP p) : packE [.bool true] = .bool (mayPB p) := by unfold mayPB; rw [decide_eq_true q]; rfl
theorem mayPB_f {p : Rep} (q : ¬ MayP p) : packE [.bool false] = .bool (mayPB p) := by unfold mayPB; rw [decide_eq_false q]; rfl
def lastP (p : Rep) : List UInt8 := if p.kd.toNat = 3 then [p.ld] else if p.kd.toNat = 6 then encR p.r else []
def encP (p : Rep) : List UInt8 := if p.kd.toNat = 1 then [p.kd] else ([p.kd] ++ (vb p.se.toNat ++ vb p.sq.toNat)) ++ lastP p
theorem encP_1 {p : Rep} (h : p.kd.toNat = 1) : encP p = [p.kd] := if_pos h
theorem encP_n {p : Rep} (h : p.kd.toNat ≠ 1) : encP p = ([p.kd] ++ (vb p.se.toNat ++ vb p.sq.toNat)) ++ lastP p := if_neg h
theorem encP_3 {p : Rep} (h : p.kd.toNat = 3) : encP p = ([p.kd] ++ (vb p.se.toNat ++ vb p.sq.toNat)) ++ [p.ld] := by rw [encP_n (by omega)]; unfold lastP; rw [if_pos h]
theorem encP_6 {p : Rep} (h : p.kd.toNat = 6) : encP p = ([p.kd] ++ (vb p.se.toNat ++ vb p.sq.toNat)) ++ encR p.r := by rw [encP_n (by omega)]; unfold lastP; rw [if_neg (by omega), if_pos h]
theorem encP_0 {p : Rep} (h : p.kd.toNat ≠ 1) (h3 : p.kd.toNat ≠ 3) (h6 : p.kd.toNat ≠ 6) : encP p = ([p.kd] ++ (vb p.se.toNat ++ vb p.sq.toNat)) ++ [] := by rw [encP_n h]; unfold lastP; rw [if_neg h3, if_neg h6]
theorem encP_cons (p : Rep) : encP p = p.kd :: (encP p).tail := by
  by_cases h : p.kd.toNat = 1
  · rw [encP_1 h]; rfl
  · rw [encP_n h]; rfl
def GoodP2 (p : Rep) : Prop := MayP p ∧ FitRes p.r
def zeroP : Rep := ⟨0, 0, 0, 0, zeroR⟩
theorem rep_eq {a b : Rep} (h1 : a.kd = b.kd) (h2 : a.se = b.se) (h3 : a.sq = b.sq) (h4 : a.ld = b.ld) (h5 : a.r = b.r) : a = b := by
  obtain ⟨⟩ := a; obtain ⟨⟩ := b
  simp only at *
  rw [h1, h2, h3, h4, h5]
theorem none_ran (W : Mem h h [] []) {r : Res} {V : Value} (A : KRrow.Sl h V r.rs) (hf : FitRes r) : Cll tab0 55 [r.val V] h (fun v h2 => v = .bool (decide (r = zeroR)) ∧ Mem h h2 [] []) := by
  obtain ⟨P, n, rfl⟩ := A.shape
  refine Cll.code rfl rfl ?_
  refine WC.env [(0, _)] rfl ?_
  refine WC.seq ?_
  refine WC.run ?_
  refine WS.box W [_, _, _, _] rfl rfl rfl rfl ?_
  intro p1 h2 M3
  refine WS.op rfl rfl (WS.nil [(1, _)] rfl ?_)
  refine WC.seq ?_
  refine WC.run ?_
  refine WS.op rfl rfl (WS.op rfl (op_ld (M3.at 0 rfl) rfl rfl) ?_)
  refine WS.eqlN (a := (r.cd).toNat) (b := 0) rfl rfl rfl (fun e5 => ?_) (fun e5 => ?_)
  ·
   refine WS.op rfl rfl (WS.op rfl rfl (WS.op rfl (op_ld (M3.at 0 rfl) rfl rfl) ?_))
   refine WS.eqlN (a := (r.n).toNat) (b := 0) rfl rfl rfl (fun e9 => ?_) (fun e9 => ?_)
   ·
    refine WS.op rfl rfl (WS.op rfl rfl (WS.op rfl rfl (WS.op rfl (op_ld (M3.at 0 rfl) rfl rfl) ?_)))
    refine WS.seql (l := r.va) (m := []) rfl rfl rfl (fun e14 => ?_) (fun e14 => ?_)
    ·
     refine WS.op rfl rfl (WS.op rfl rfl (WS.op rfl rfl (WS.op rfl (op_ld (M3.at 0 rfl) rfl rfl) (WS.op rfl (op_lenVS A rfl) ?_))))
     refine WS.eqlN (a := (r.rs).length) (b := 0) rfl rfl rfl (fun e20 => ?_) (fun e20 => ?_)
     ·
      refine WS.op rfl rfl (WS.op rfl rfl (WS.nil [(2, _)] rfl ?_))
      refine WC.ret ?_
      refine ⟨[_], (res_tmp rfl res_nil), ?_⟩
      exact ⟨vbt (by obtain ⟨a, b, c, d⟩ := r; unfold zeroR; simp only at *; rw [u8_0 e5, u64_0 e9, e14, List.eq_nil_of_length_eq_zero e20]), M3.bare.take 0⟩
     ·
      refine WS.op rfl rfl (WS.op rfl rfl (WS.nil [(2, _)] rfl ?_))
      refine WC.ret ?_
      refine ⟨[_], (res_tmp rfl res_nil), ?_⟩
      exact ⟨vbf (fun q => by subst q; first | exact absurd rfl e5 | exact absurd rfl e9 | exact absurd rfl e14 | exact absurd rfl e20), M3.bare.take 0⟩
    ·
     refine WS.op rfl rfl (WS.op rfl rfl (WS.off rfl (WS.off rfl (WS.off rfl (WS.off rfl (WS.op rfl rfl (WS.op rfl rfl (WS.nil [(2, _)] rfl ?_))))))))
     refine WC.ret ?_
     refine ⟨[_], (res_tmp rfl res_nil), ?_⟩
     exact ⟨vbf (fun q => by subst q; first | exact absurd rfl e5 | exact absurd rfl e9 | exact absurd rfl e14 | exact absurd rfl e20), M3.bare.take 0⟩
   ·
    refine WS.op rfl rfl (WS.op rfl rfl (WS.off rfl (WS.off rfl (WS.off rfl (WS.op rfl rfl (WS.op rfl rfl (WS.off rfl (WS.off rfl (WS.off rfl ?_)))))))))
    refine WS.off rfl (WS.op rfl rfl (WS.op rfl rfl (WS.nil [(2, _)] rfl ?_)))
    refine WC.ret ?_
    refine ⟨[_], (res_tmp rfl res_nil), ?_⟩
    exact ⟨vbf (fun q => by subst q; first | exact absurd rfl e5 | exact absurd rfl e9 | exact absurd rfl e14 | exact absurd rfl e20), M3.bare.take 0⟩
  ·
   refine WS.op rfl rfl (WS.off rfl (WS.off rfl (WS.off rfl (WS.op rfl rfl (WS.op rfl rfl (WS.off rfl (WS.off rfl (WS.off rfl (WS.op rfl rfl ?_)))))))))
   refine WS.op rfl rfl (WS.off rfl (WS.off rfl (WS.off rfl (WS.off rfl (WS.op rfl rfl (WS.op rfl rfl (WS.nil [(2, _)] rfl ?_)))))))
   refine WC.ret ?_
   refine ⟨[_], (res_tmp rfl res_nil), ?_⟩
   exact ⟨vbf (fun q => by subst q; first | exact absurd rfl e5 | exact absurd rfl e9 | exact absurd rfl e14 | exact absurd rfl e20), M3.bare.take 0⟩
set_option maxRecDepth 8000 in
theorem mayP_ran (W : Mem h h [] []) {p : Rep} {V : Value} (A : KRrow.Sl h V p.r.rs) (hf : FitRes p.r) : Cll tab0 28 [p.val V] h (fun v h2 => v = .bool (mayPB p) ∧ Mem h h2 [] []) := by
  obtain ⟨P, n, rfl⟩ := A.shape
  refine Cll.code rfl rfl ?_
  refine WC.env [(0, _)] rfl ?_
  refine WC.seq ?_
  refine WC.run ?_
  refine WS.box W [_, _, _, _, _, _, _, _] rfl rfl rfl rfl ?_
  intro p1 h2 M3
  refine WS.op rfl rfl (WS.nil [(1, _)] rfl ?_)
  refine WC.seq ?_
  refine WC.draw M3 [] rfl ?_
  intro rb4 h5 M6
  refine WS.op rfl rfl (WS.op rfl (op_ld (M6.at 0 rfl) rfl rfl) ?_)
  refine WS.eqlN (a := (p.ld).toNat) (b := 0) rfl rfl rfl (fun e7 => ?_) (fun e7 => ?_)
  ·
   refine WS.op rfl rfl (WS.op rfl (op_lds [_, _, _, _] (M6.at 0 rfl) rfl (Nat.le_of_ble_eq_true rfl) rfl) ?_)
   refine WS.call rfl rfl rfl (none_ran M6.here (r := p.r) (A.mono M6.sub) (by assumption)) ?_
   rintro _ h7 ⟨rfl, N8⟩
   have M9 := M6.trans N8
   refine WS.chk rfl (op_ld (M9.at 0 rfl) rfl rfl) rfl (sameV_refl rfl) (WS.op rfl rfl (WS.op rfl rfl (WS.nil [(1, _), (3, _), (4, _)] rfl ?_)))
   refine WC.seq ?_
   refine WC.seq ?_
   refine WC.run ?_
   refine WS.op rfl rfl (WS.op rfl (op_ld (M9.bare.at 0 rfl) rfl rfl) (WS.nil [(1, _), (3, _), (4, _), (12, _)] rfl ?_))
   refine WC.block ?_
   refine WC.seq ?_
   refine WC.run ?_
   refine WS.eqlN (a := (p.kd).toNat) (b := 1) rfl rfl rfl (fun e14 => ?_) (fun e14 => ?_)
   ·
    refine WS.op rfl rfl (WS.nil [(1, _), (3, _), (4, _), (12, _), (13, _)] rfl ?_)
    refine WC.condT rfl ?_
    refine WC.seq ?_
    refine WC.run ?_
    refine WS.op rfl rfl (WS.op rfl rfl (WS.op rfl rfl (WS.op rfl rfl (WS.op rfl rfl ?_))))
    cases hb1 : (decide (p.r = zeroR))
    ·
     refine WS.off rfl (WS.off rfl (WS.off rfl (WS.op rfl rfl (WS.op rfl rfl (WS.off rfl (WS.off rfl (WS.off rfl (WS.op rfl rfl (WS.op rfl rfl ?_)))))))))
     refine WS.nil [(2, _)] rfl ?_
     refine WC.ret ?_
     refine ⟨[_], (res_tmp rfl res_nil), ?_⟩
     exact ⟨mayPB_f (by rintro ⟨q1, q2, q3, q4, q5⟩; first | omega | (have := q4 (by omega); omega) | exact absurd (q5 (by omega)) (of_decide_eq_false (by assumption)) | (have := q3 (by omega); rw [this] at e7; exact absurd rfl e7) | (have := (q2 (by omega)).1; rw [this] at e22; exact absurd rfl e22) | (have := (q2 (by omega)).2; rw [this] at e27; exact absurd rfl e27)), M9.bare.bare.take 0⟩
    ·
     refine WS.op rfl rfl (WS.op rfl (op_ld (M9.bare.at 0 rfl) rfl rfl) ?_)
     refine WS.eqlN (a := (p.se).toNat) (b := 0) rfl rfl rfl (fun e22 => ?_) (fun e22 => ?_)
     ·
      refine WS.op rfl rfl (WS.op rfl rfl (WS.op rfl rfl (WS.op rfl (op_ld (M9.bare.at 0 rfl) rfl rfl) ?_)))
      refine WS.eqlN (a := (p.sq).toNat) (b := 0) rfl rfl rfl (fun e27 => ?_) (fun e27 => ?_)
      ·
       refine WS.op rfl rfl (WS.op rfl rfl (WS.nil [(2, _)] rfl ?_))
       refine WC.ret ?_
       refine ⟨[_], (res_tmp rfl res_nil), ?_⟩
       refine ⟨mayPB_t ⟨by omega, fun q => ?_, fun q => ?_, fun q => ?_, fun q => ?_⟩, M9.bare.bare.take 0⟩
       · first | (exfalso; omega) | exact ⟨u64_0 e22, u64_0 e27⟩
       · first | (exfalso; omega) | exact u8_0 (by omega)
       · omega
       · first | (exfalso; omega) | exact of_decide_eq_true (by assumption)
      ·
       refine WS.op rfl rfl (WS.op rfl rfl (WS.nil [(2, _)] rfl ?_))
       refine WC.ret ?_
       refine ⟨[_], (res_tmp rfl res_nil), ?_⟩
       exact ⟨mayPB_f (by rintro ⟨q1, q2, q3, q4, q5⟩; first | omega | (have := q4 (by omega); omega) | exact absurd (q5 (by omega)) (of_decide_eq_false (by assumption)) | (have := q3 (by omega); rw [this] at e7; exact absurd rfl e7) | (have := (q2 (by omega)).1; rw [this] at e22; exact absurd rfl e22) | (have := (q2 (by omega)).2; rw [this] at e27; exact absurd rfl e27)), M9.bare.bare.take 0⟩
     ·
      refine WS.op rfl rfl (WS.op rfl rfl (WS.off rfl (WS.off rfl (WS.off rfl (WS.op rfl rfl (WS.op rfl rfl (WS.nil [(2, _)] rfl ?_)))))))
      refine WC.ret ?_
      refine ⟨[_], (res_tmp rfl res_nil), ?_⟩
      exact ⟨mayPB_f (by rintro ⟨q1, q2, q3, q4, q5⟩; first | omega | (have := q4 (by omega); omega) | exact absurd (q5 (by omega)) (of_decide_eq_false (by assumption)) | (have := q3 (by omega); rw [this] at e7; exact absurd rfl e7) | (have := (q2 (by omega)).1; rw [this] at e22; exact absurd rfl e22) | (have := (q2 (by omega)).2; rw [this] at e27; exact absurd rfl e27)), M9.bare.bare.take 0⟩
   ·
    refine WS.op rfl rfl (WS.nil [(1, _), (3, _), (4, _), (12, _), (13, _)] rfl ?_)
    refine WC.condF rfl ?_
    refine WC.seq ?_
    refine WC.seq ?_
    refine WC.run ?_
    refine WS.eqlN (a := (p.kd).toNat) (b := 2) rfl rfl rfl (fun e30 => ?_) (fun e30 => ?_)
    ·
     refine WS.op rfl rfl (WS.nil [(1, _), (3, _), (4, _), (12, _), (29, _)] rfl ?_)
     refine WC.condT rfl ?_
     refine WC.skip ?_
     refine WC.condT rfl ?_
     refine WC.seq ?_
     refine WC.run ?_
     refine WS.op rfl rfl (WS.op rfl rfl (WS.op rfl rfl (WS.op rfl rfl (WS.op rfl rfl (WS.nil [(2, _)] rfl ?_)))))
     refine WC.ret ?_
     cases hb1 : (decide (p.r = zeroR))
     ·
      refine ⟨[_], (res_tmp rfl res_nil), ?_⟩
      exact ⟨mayPB_f (by rintro ⟨q1, q2, q3, q4, q5⟩; first | omega | (have := q4 (by omega); omega) | exact absurd (q5 (by omega)) (of_decide_eq_false (by assumption)) | (have := q3 (by omega); rw [this] at e7; exact absurd rfl e7) | (have := (q2 (by omega)).1; rw [this] at e22; exact absurd rfl e22) | (have := (q2 (by omega)).2; rw [this] at e27; exact absurd rfl e27)), M9.bare.bare.take 0⟩
     ·
      refine ⟨[_], (res_tmp rfl res_nil), ?_⟩
      refine ⟨mayPB_t ⟨by omega, fun q => ?_, fun q => ?_, fun q => ?_, fun q => ?_⟩, M9.bare.bare.take 0⟩
      · first | (exfalso; omega) | exact ⟨u64_0 e22, u64_0 e27⟩
      · first | (exfalso; omega) | exact u8_0 (by omega)
      · omega
      · first | (exfalso; omega) | exact of_decide_eq_true (by assumption)
    ·
     refine WS.op rfl rfl (WS.nil [(1, _), (3, _), (4, _), (12, _), (29, _)] rfl ?_)
     refine WC.condF rfl ?_
     refine WC.seq ?_
     refine WC.run ?_
     refine WS.eqlN (a := (p.kd).toNat) (b := 4) rfl rfl rfl (fun e31 => ?_) (fun e31 => ?_)
     ·
      refine WS.op rfl rfl (WS.nil [(1, _), (3, _), (4, _), (12, _), (29, _)] rfl ?_)
      refine WC.condT rfl ?_
      refine WC.skip ?_
      refine WC.condT rfl ?_
      refine WC.seq ?_
      refine WC.run ?_
      refine WS.op rfl rfl (WS.op rfl rfl (WS.op rfl rfl (WS.op rfl rfl (WS.op rfl rfl (WS.nil [(2, _)] rfl ?_)))))
      refine WC.ret ?_
      cases hb1 : (decide (p.r = zeroR))
      ·
       refine ⟨[_], (res_tmp rfl res_nil), ?_⟩
       exact ⟨mayPB_f (by rintro ⟨q1, q2, q3, q4, q5⟩; first | omega | (have := q4 (by omega); omega) | exact absurd (q5 (by omega)) (of_decide_eq_false (by assumption)) | (have := q3 (by omega); rw [this] at e7; exact absurd rfl e7) | (have := (q2 (by omega)).1; rw [this] at e22; exact absurd rfl e22) | (have := (q2 (by omega)).2; rw [this] at e27; exact absurd rfl e27)), M9.bare.bare.take 0⟩
      ·
       refine ⟨[_], (res_tmp rfl res_nil), ?_⟩
       refine ⟨mayPB_t ⟨by omega, fun q => ?_, fun q => ?_, fun q => ?_, fun q => ?_⟩, M9.bare.bare.take 0⟩
       · first | (exfalso; omega) | exact ⟨u64_0 e22, u64_0 e27⟩
       · first | (exfalso; omega) | exact u8_0 (by omega)
       · omega
       · first | (exfalso; omega) | exact of_decide_eq_true (by assumption)
     ·
      refine WS.op rfl rfl (WS.nil [(1, _), (3, _), (4, _), (12, _), (29, _)] rfl ?_)
      refine WC.condF rfl ?_
      refine WC.run ?_
      refine WS.eqlN (a := (p.kd).toNat) (b := 5) rfl rfl rfl (fun e32 => ?_) (fun e32 => ?_)
      ·
       refine WS.op rfl rfl (WS.nil [(1, _), (3, _), (4, _), (12, _), (29, _)] rfl ?_)
       refine WC.condT rfl ?_
       refine WC.seq ?_
       refine WC.run ?_
       refine WS.op rfl rfl (WS.op rfl rfl (WS.op rfl rfl (WS.op rfl rfl (WS.op rfl rfl (WS.nil [(2, _)] rfl ?_)))))
       refine WC.ret ?_
       cases hb1 : (decide (p.r = zeroR))
       ·
        refine ⟨[_], (res_tmp rfl res_nil), ?_⟩
        exact ⟨mayPB_f (by rintro ⟨q1, q2, q3, q4, q5⟩; first | omega | (have := q4 (by omega); omega) | exact absurd (q5 (by omega)) (of_decide_eq_false (by assumption)) | (have := q3 (by omega); rw [this] at e7; exact absurd rfl e7) | (have := (q2 (by omega)).1; rw [this] at e22; exact absurd rfl e22) | (have := (q2 (by omega)).2; rw [this] at e27; exact absurd rfl e27)), M9.bare.bare.take 0⟩
       ·
        refine ⟨[_], (res_tmp rfl res_nil), ?_⟩
        refine ⟨mayPB_t ⟨by omega, fun q => ?_, fun q => ?_, fun q => ?_, fun q => ?_⟩, M9.bare.bare.take 0⟩
        · first | (exfalso; omega) | exact ⟨u64_0 e22, u64_0 e27⟩
        · first | (exfalso; omega) | exact u8_0 (by omega)
        · omega
        · first | (exfalso; omega) | exact of_decide_eq_true (by assumption)
      ·
       refine WS.op rfl rfl (WS.nil [(1, _), (3, _), (4, _), (12, _), (29, _)] rfl ?_)
       refine WC.condF rfl ?_
       refine WC.seq ?_
       refine WC.run ?_
       refine WS.eqlN (a := (p.kd).toNat) (b := 3) rfl rfl rfl (fun e38 => ?_) (fun e38 => ?_)
       ·
        refine WS.op rfl rfl (WS.nil [(1, _), (3, _), (4, _), (37, _)] rfl ?_)
        refine WC.condT rfl ?_
        refine WC.seq ?_
        refine WC.run ?_
        refine WS.op rfl rfl (WS.op rfl (op_ld (M9.bare.at 0 rfl) rfl rfl) ?_)
        refine WS.leqN (a := (p.ld).toNat) (b := 5) rfl rfl rfl (fun e41 => ?_) (fun e41 => ?_)
        ·
         refine WS.op rfl rfl (WS.op rfl rfl (WS.op rfl rfl (WS.op rfl rfl (WS.nil [(2, _)] rfl ?_))))
         refine WC.ret ?_
         cases hb1 : (decide (p.r = zeroR))
         ·
          refine ⟨[_], (res_tmp rfl res_nil), ?_⟩
          exact ⟨mayPB_f (by rintro ⟨q1, q2, q3, q4, q5⟩; first | omega | (have := q4 (by omega); omega) | exact absurd (q5 (by omega)) (of_decide_eq_false (by assumption)) | (have := q3 (by omega); rw [this] at e7; exact absurd rfl e7) | (have := (q2 (by omega)).1; rw [this] at e22; exact absurd rfl e22) | (have := (q2 (by omega)).2; rw [this] at e27; exact absurd rfl e27)), M9.bare.bare.take 0⟩
         ·
          refine ⟨[_], (res_tmp rfl res_nil), ?_⟩
          refine ⟨mayPB_t ⟨by omega, fun q => ?_, fun q => ?_, fun q => ?_, fun q => ?_⟩, M9.bare.bare.take 0⟩
          · first | (exfalso; omega) | exact ⟨u64_0 e22, u64_0 e27⟩
          · first | (exfalso; omega) | exact u8_0 (by omega)
          · omega
          · first | (exfalso; omega) | exact of_decide_eq_true (by assumption)
        ·
         refine WS.op rfl rfl (WS.off rfl (WS.op rfl rfl (WS.op rfl rfl (WS.nil [(2, _)] rfl ?_))))
         refine WC.ret ?_
         refine ⟨[_], (res_tmp rfl res_nil), ?_⟩
         exact ⟨mayPB_f (by rintro ⟨q1, q2, q3, q4, q5⟩; first | omega | (have := q4 (by omega); omega) | exact absurd (q5 (by omega)) (of_decide_eq_false (by assumption)) | (have := q3 (by omega); rw [this] at e7; exact absurd rfl e7) | (have := (q2 (by omega)).1; rw [this] at e22; exact absurd rfl e22) | (have := (q2 (by omega)).2; rw [this] at e27; exact absurd rfl e27)), M9.bare.bare.take 0⟩
       ·
        refine WS.op rfl rfl (WS.nil [(1, _), (3, _), (4, _), (37, _)] rfl ?_)
        refine WC.condF rfl ?_
        refine WC.skip ?_
        refine WC.seq ?_
        refine WC.run ?_
        refine WS.op rfl rfl (WS.op rfl (op_ld (M9.bare.at 0 rfl) rfl rfl) ?_)
        refine WS.eqlN (a := (p.kd).toNat) (b := 6) rfl rfl rfl (fun e47 => ?_) (fun e47 => ?_)
        ·
         refine WS.op rfl rfl (WS.op rfl rfl (WS.op rfl rfl (WS.op rfl rfl (WS.nil [(2, _)] rfl ?_))))
         refine WC.ret ?_
         refine ⟨[_], (res_tmp rfl res_nil), ?_⟩
         refine ⟨mayPB_t ⟨by omega, fun q => ?_, fun q => ?_, fun q => ?_, fun q => ?_⟩, M9.bare.bare.take 0⟩
         · first | (exfalso; omega) | exact ⟨u64_0 e22, u64_0 e27⟩
         · first | (exfalso; omega) | exact u8_0 (by omega)
         · omega
         · first | (exfalso; omega) | exact of_decide_eq_true (by assumption)
        ·
         refine WS.op rfl rfl (WS.off rfl (WS.op rfl rfl (WS.op rfl rfl (WS.nil [(2, _)] rfl ?_))))
         refine WC.ret ?_
         refine ⟨[_], (res_tmp rfl res_nil), ?_⟩
         exact ⟨mayPB_f (by rintro ⟨q1, q2, q3, q4, q5⟩; first | omega | (have := q4 (by omega); omega) | exact absurd (q5 (by omega)) (of_decide_eq_false (by assumption)) | (have := q3 (by omega); rw [this] at e7; exact absurd rfl e7) | (have := (q2 (by omega)).1; rw [this] at e22; exact absurd rfl e22) | (have := (q2 (by omega)).2; rw [this] at e27; exact absurd rfl e27)), M9.bare.bare.take 0⟩
  ·
   refine WS.op rfl rfl (WS.op rfl (op_lds [_, _, _, _] (M6.at 0 rfl) rfl (Nat.le_of_ble_eq_true rfl) rfl) ?_)
   refine WS.call rfl rfl rfl (none_ran M6.here (r := p.r) (A.mono M6.sub) (by assumption)) ?_
   rintro _ h10 ⟨rfl, N11⟩
   have M12 := M6.trans N11
   refine WS.chk rfl (op_ld (M12.at 0 rfl) rfl rfl) rfl (sameV_refl rfl) (WS.op rfl rfl (WS.op rfl rfl (WS.nil [(1, _), (3, _), (4, _)] rfl ?_)))
   refine WC.seq ?_
   refine WC.seq ?_
   refine WC.run ?_
   refine WS.op rfl rfl (WS.op rfl (op_ld (M12.bare.at 0 rfl) rfl rfl) (WS.nil [(1, _), (3, _), (4, _), (12, _)] rfl ?_))
   refine WC.block ?_
   refine WC.seq ?_
   refine WC.run ?_
   refine WS.eqlN (a := (p.kd).toNat) (b := 1) rfl rfl rfl (fun e14 => ?_) (fun e14 => ?_)
   ·
    refine WS.op rfl rfl (WS.nil [(1, _), (3, _), (4, _), (12, _), (13, _)] rfl ?_)
    refine WC.condT rfl ?_
    refine WC.seq ?_
    refine WC.run ?_
    refine WS.op rfl rfl (WS.op rfl rfl (WS.off rfl (WS.op rfl rfl (WS.op rfl rfl (WS.off rfl (WS.off rfl (WS.off rfl (WS.op rfl rfl (WS.op rfl rfl ?_)))))))))
    refine WS.off rfl (WS.off rfl (WS.off rfl (WS.op rfl rfl (WS.op rfl rfl (WS.nil [(2, _)] rfl ?_)))))
    refine WC.ret ?_
    refine ⟨[_], (res_tmp rfl res_nil), ?_⟩
    exact ⟨mayPB_f (by rintro ⟨q1, q2, q3, q4, q5⟩; first | omega | (have := q4 (by omega); omega) | exact absurd (q5 (by omega)) (of_decide_eq_false (by assumption)) | (have := q3 (by omega); rw [this] at e7; exact absurd rfl e7) | (have := (q2 (by omega)).1; rw [this] at e22; exact absurd rfl e22) | (have := (q2 (by omega)).2; rw [this] at e27; exact absurd rfl e27)), M12.bare.bare.take 0⟩
   ·
    refine WS.op rfl rfl (WS.nil [(1, _), (3, _), (4, _), (12, _), (13, _)] rfl ?_)
    refine WC.condF rfl ?_
    refine WC.seq ?_
    refine WC.seq ?_
    refine WC.run ?_
    refine WS.eqlN (a := (p.kd).toNat) (b := 2) rfl rfl rfl (fun e30 => ?_) (fun e30 => ?_)
    ·
     refine WS.op rfl rfl (WS.nil [(1, _), (3, _), (4, _), (12, _), (29, _)] rfl ?_)
     refine WC.condT rfl ?_
     refine WC.skip ?_
     refine WC.condT rfl ?_
     refine WC.seq ?_
     refine WC.run ?_
     refine WS.op rfl rfl (WS.op rfl rfl (WS.off rfl (WS.op rfl rfl (WS.op rfl rfl (WS.nil [(2, _)] rfl ?_)))))
     refine WC.ret ?_
     refine ⟨[_], (res_tmp rfl res_nil), ?_⟩
     exact ⟨mayPB_f (by rintro ⟨q1, q2, q3, q4, q5⟩; first | omega | (have := q4 (by omega); omega) | exact absurd (q5 (by omega)) (of_decide_eq_false (by assumption)) | (have := q3 (by omega); rw [this] at e7; exact absurd rfl e7) | (have := (q2 (by omega)).1; rw [this] at e22; exact absurd rfl e22) | (have := (q2 (by omega)).2; rw [this] at e27; exact absurd rfl e27)), M12.bare.bare.take 0⟩
    ·
     refine WS.op rfl rfl (WS.nil [(1, _), (3, _), (4, _), (12, _), (29, _)] rfl ?_)
     refine WC.condF rfl ?_
     refine WC.seq ?_
     refine WC.run ?_
     refine WS.eqlN (a := (p.kd).toNat) (b := 4) rfl rfl rfl (fun e31 => ?_) (fun e31 => ?_)
     ·
      refine WS.op rfl rfl (WS.nil [(1, _), (3, _), (4, _), (12, _), (29, _)] rfl ?_)
      refine WC.condT rfl ?_
      refine WC.skip ?_
      refine WC.condT rfl ?_
      refine WC.seq ?_
      refine WC.run ?_
      refine WS.op rfl rfl (WS.op rfl rfl (WS.off rfl (WS.op rfl rfl (WS.op rfl rfl (WS.nil [(2, _)] rfl ?_)))))
      refine WC.ret ?_
      refine ⟨[_], (res_tmp rfl res_nil), ?_⟩
      exact ⟨mayPB_f (by rintro ⟨q1, q2, q3, q4, q5⟩; first | omega | (have := q4 (by omega); omega) | exact absurd (q5 (by omega)) (of_decide_eq_false (by assumption)) | (have := q3 (by omega); rw [this] at e7; exact absurd rfl e7) | (have := (q2 (by omega)).1; rw [this] at e22; exact absurd rfl e22) | (have := (q2 (by omega)).2; rw [this] at e27; exact absurd rfl e27)), M12.bare.bare.take 0⟩
     ·
      refine WS.op rfl rfl (WS.nil [(1, _), (3, _), (4, _), (12, _), (29, _)] rfl ?_)
      refine WC.condF rfl ?_
      refine WC.run ?_
      refine WS.eqlN (a := (p.kd).toNat) (b := 5) rfl rfl rfl (fun e32 => ?_) (fun e32 => ?_)
      ·
       refine WS.op rfl rfl (WS.nil [(1, _), (3, _), (4, _), (12, _), (29, _)] rfl ?_)
       refine WC.condT rfl ?_
       refine WC.seq ?_
       refine WC.run ?_
       refine WS.op rfl rfl (WS.op rfl rfl (WS.off rfl (WS.op rfl rfl (WS.op rfl rfl (WS.nil [(2, _)] rfl ?_)))))
       refine WC.ret ?_
       refine ⟨[_], (res_tmp rfl res_nil), ?_⟩
       exact ⟨mayPB_f (by rintro ⟨q1, q2, q3, q4, q5⟩; first | omega | (have := q4 (by omega); omega) | exact absurd (q5 (by omega)) (of_decide_eq_false (by assumption)) | (have := q3 (by omega); rw [this] at e7; exact absurd rfl e7) | (have := (q2 (by omega)).1; rw [this] at e22; exact absurd rfl e22) | (have := (q2 (by omega)).2; rw [this] at e27; exact absurd rfl e27)), M12.bare.bare.take 0⟩
      ·
       refine WS.op rfl rfl (WS.nil [(1, _), (3, _), (4, _), (12, _), (29, _)] rfl ?_)
       refine WC.condF rfl ?_
       refine WC.seq ?_
       refine WC.run ?_
       refine WS.eqlN (a := (p.kd).toNat) (b := 3) rfl rfl rfl (fun e38 => ?_) (fun e38 => ?_)
       ·
        refine WS.op rfl rfl (WS.nil [(1, _), (3, _), (4, _), (37, _)] rfl ?_)
        refine WC.condT rfl ?_
        refine WC.seq ?_
        refine WC.run ?_
        refine WS.op rfl rfl (WS.op rfl (op_ld (M12.bare.at 0 rfl) rfl rfl) ?_)
        refine WS.leqN (a := (p.ld).toNat) (b := 5) rfl rfl rfl (fun e41 => ?_) (fun e41 => ?_)
        ·
         refine WS.op rfl rfl (WS.op rfl rfl (WS.op rfl rfl (WS.op rfl rfl (WS.nil [(2, _)] rfl ?_))))
         refine WC.ret ?_
         cases hb1 : (decide (p.r = zeroR))
         ·
          refine ⟨[_], (res_tmp rfl res_nil), ?_⟩
          exact ⟨mayPB_f (by rintro ⟨q1, q2, q3, q4, q5⟩; first | omega | (have := q4 (by omega); omega) | exact absurd (q5 (by omega)) (of_decide_eq_false (by assumption)) | (have := q3 (by omega); rw [this] at e7; exact absurd rfl e7) | (have := (q2 (by omega)).1; rw [this] at e22; exact absurd rfl e22) | (have := (q2 (by omega)).2; rw [this] at e27; exact absurd rfl e27)), M12.bare.bare.take 0⟩
         ·
          refine ⟨[_], (res_tmp rfl res_nil), ?_⟩
          refine ⟨mayPB_t ⟨by omega, fun q => ?_, fun q => ?_, fun q => ?_, fun q => ?_⟩, M12.bare.bare.take 0⟩
          · first | (exfalso; omega) | exact ⟨u64_0 e22, u64_0 e27⟩
          · first | (exfalso; omega) | exact u8_0 (by omega)
          · omega
          · first | (exfalso; omega) | exact of_decide_eq_true (by assumption)
        ·
         refine WS.op rfl rfl (WS.off rfl (WS.op rfl rfl (WS.op rfl rfl (WS.nil [(2, _)] rfl ?_))))
         refine WC.ret ?_
         refine ⟨[_], (res_tmp rfl res_nil), ?_⟩
         exact ⟨mayPB_f (by rintro ⟨q1, q2, q3, q4, q5⟩; first | omega | (have := q4 (by omega); omega) | exact absurd (q5 (by omega)) (of_decide_eq_false (by assumption)) | (have := q3 (by omega); rw [this] at e7; exact absurd rfl e7) | (have := (q2 (by omega)).1; rw [this] at e22; exact absurd rfl e22) | (have := (q2 (by omega)).2; rw [this] at e27; exact absurd rfl e27)), M12.bare.bare.take 0⟩
       ·
        refine WS.op rfl rfl (WS.nil [(1, _), (3, _), (4, _), (37, _)] rfl ?_)
        refine WC.condF rfl ?_
        refine WC.skip ?_
        refine WC.seq ?_
        refine WC.run ?_
        refine WS.op rfl rfl (WS.op rfl (op_ld (M12.bare.at 0 rfl) rfl rfl) ?_)
        refine WS.eqlN (a := (p.kd).toNat) (b := 6) rfl rfl rfl (fun e47 => ?_) (fun e47 => ?_)
        ·
         refine WS.op rfl rfl (WS.op rfl rfl (WS.op rfl rfl (WS.op rfl rfl (WS.nil [(2, _)] rfl ?_))))
         refine WC.ret ?_
         refine ⟨[_], (res_tmp rfl res_nil), ?_⟩
         exact ⟨mayPB_f (by rintro ⟨q1, q2, q3, q4, q5⟩; first | omega | (have := q4 (by omega); omega) | exact absurd (q5 (by omega)) (of_decide_eq_false (by assumption)) | (have := q3 (by omega); rw [this] at e7; exact absurd rfl e7) | (have := (q2 (by omega)).1; rw [this] at e22; exact absurd rfl e22) | (have := (q2 (by omega)).2; rw [this] at e27; exact absurd rfl e27)), M12.bare.bare.take 0⟩
        ·
         refine WS.op rfl rfl (WS.off rfl (WS.op rfl rfl (WS.op rfl rfl (WS.nil [(2, _)] rfl ?_))))
         refine WC.ret ?_
         refine ⟨[_], (res_tmp rfl res_nil), ?_⟩
         exact ⟨mayPB_f (by rintro ⟨q1, q2, q3, q4, q5⟩; first | omega | (have := q4 (by omega); omega) | exact absurd (q5 (by omega)) (of_decide_eq_false (by assumption)) | (have := q3 (by omega); rw [this] at e7; exact absurd rfl e7) | (have := (q2 (by omega)).1; rw [this] at e22; exact absurd rfl e22) | (have := (q2 (by omega)).2; rw [this] at e27; exact absurd rfl e27)), M12.bare.bare.take 0⟩
set_option maxRecDepth 8000 in
theorem WriteP_ran (W : Mem h h [] []) {p : Rep} {V : Value} (A : KRrow.Sl h V p.r.rs) (hf : FitRes p.r) : Cll tab0 11 [p.val V] h (fun v h2 => v = .string (bs (if mayPB p then encP p else [])) ∧ Mem h h2 [] []) := by
  obtain ⟨P, n, rfl⟩ := A.shape
  have v1 := vb_len p.se.toNat_lt
  have v2 := vb_len p.sq.toNat_lt
  have u1 := p.se.toNat_lt
  have u2 := p.sq.toNat_lt
  have hr := encR_lenF hf
  refine Cll.code rfl rfl ?_
  refine WC.env [(0, _)] rfl ?_
  refine WC.seq ?_
  refine WC.run ?_
  refine WS.box W [_, _, _, _, _, _, _, _] rfl rfl rfl rfl ?_
  intro p1 h2 M3
  refine WS.op rfl rfl (WS.nil [(1, _)] rfl ?_)
  refine WC.seq ?_
  refine WC.seq ?_
  refine WC.run ?_
  refine WS.op rfl (op_lds [_, _, _, _, _, _, _, _] (M3.at 0 rfl) rfl (Nat.le_of_ble_eq_true rfl) rfl) ?_
  refine WS.call rfl rfl rfl (mayP_ran M3.here (p := p) (A.mono M3.sub) (by exact hf)) ?_
  rintro _ h4 ⟨rfl, N5⟩
  have M6 := M3.trans N5
  cases hb1 : (mayPB p)
  ·
   refine WS.opV (.bool true) rfl rfl rfl (WS.nil [(1, _), (6, _)] rfl ?_)
   refine WC.condT rfl ?_
   refine WC.seq ?_
   refine WC.run ?_
   refine WS.op rfl rfl (WS.nil [(2, _)] rfl ?_)
   refine WC.ret ?_
   refine ⟨[_], (res_tmp rfl res_nil), ?_⟩
   exact ⟨rfl, M6.bare.take 0⟩
  ·
   refine WS.opV (.bool false) rfl rfl rfl (WS.nil [(1, _), (6, _)] rfl ?_)
   refine WC.condF rfl ?_
   refine WC.skip ?_
   refine WC.seq ?_
   refine WC.run ?_
   refine WS.op rfl rfl (WS.op rfl (op_ld (M6.at 0 rfl) rfl rfl) ?_)
   refine WS.bsl M6 [_] rfl rfl rfl rfl ?_
   intro p7 h8 M9
   refine WS.op rfl (op_cvB (l := [p.kd]) (M9.at 0 rfl) rfl rfl (Nat.le_of_ble_eq_true rfl) rfl) (WS.op rfl rfl (WS.nil [(1, _), (3, _)] rfl ?_))
   refine WC.seq ?_
   refine WC.seq ?_
   refine WC.run ?_
   refine WS.op rfl rfl (WS.op rfl (op_ld (M9.at 1 rfl) rfl rfl) ?_)
   refine WS.eqlN (a := (p.kd).toNat) (b := 1) rfl rfl rfl (fun e13 => ?_) (fun e13 => ?_)
   ·
    refine WS.nil [(1, _), (3, _), (13, _)] rfl ?_
    refine WC.condT rfl ?_
    refine WC.seq ?_
    refine WC.run ?_
    refine WS.op rfl rfl (WS.op rfl rfl (WS.nil [(2, _)] rfl ?_))
    refine WC.ret ?_
    refine ⟨[_], (res_tmp rfl res_nil), ?_⟩
    have q3 : encP p = [p.kd] := by first | (exfalso; omega) | (rw [encP_1 (by omega)]; done) | (rw [encP_3 (by omega)]; done) | (rw [encP_6 (by omega)]; done) | (rw [encP_0 (by omega) (by omega) (by omega), List.append_nil]; done)
    exact ⟨by rw [if_pos rfl, q3]; rfl, M9.bare.take 0⟩
   ·
    refine WS.nil [(1, _), (3, _), (13, _)] rfl ?_
    refine WC.condF rfl ?_
    refine WC.skip ?_
    refine WC.seq ?_
    refine WC.run ?_
    refine WS.op rfl rfl (WS.op rfl rfl (WS.op rfl (op_ld (M9.at 1 rfl) rfl rfl) (WS.op rfl rfl (WS.op rfl (op_ld (M9.at 1 rfl) rfl rfl) ?_))))
    refine WS.bsl M9 [_, _] rfl rfl rfl rfl ?_
    intro p10 h11 M12
    refine WS.call rfl rfl rfl (num_V_ran M12.here (Row.Sl.own (K := KNat) (l := [(p.se).toNat, (p.sq).toNat]) (M12.at 0 rfl)) (by intro n hn; simp only [List.mem_cons, List.mem_nil_iff, or_false] at hn; omega) (by simp) (r := ((vb ((p.se).toNat)) ++ (vb ((p.sq).toNat)))) (by simp [List.flatMap])) ?_
    rintro _ h13 ⟨rfl, N14⟩
    have M15 := M12.trans N14
    refine WS.op rfl (op_sadd (l := [p.kd]) (m := ((vb ((p.se).toNat)) ++ (vb ((p.sq).toNat)))) rfl rfl (by first | omega | (simp only [List.length_append, List.length_cons, List.length_nil]; omega))) (WS.op rfl rfl (WS.nil [(1, _), (3, _)] rfl ?_))
    refine WC.seq ?_
    refine WC.seq ?_
    refine WC.run ?_
    refine WS.op rfl rfl (WS.op rfl (op_ld (M15.at 2 rfl) rfl rfl) (WS.nil [(1, _), (3, _), (24, _)] rfl ?_))
    refine WC.block ?_
    refine WC.seq ?_
    refine WC.run ?_
    refine WS.eqlN (a := (p.kd).toNat) (b := 3) rfl rfl rfl (fun e26 => ?_) (fun e26 => ?_)
    ·
     refine WS.op rfl rfl (WS.nil [(1, _), (3, _), (24, _), (25, _)] rfl ?_)
     refine WC.condT rfl ?_
     refine WC.run ?_
     refine WS.op rfl rfl (WS.op rfl rfl (WS.op rfl (op_ld (M15.at 2 rfl) rfl rfl) ?_))
     refine WS.bsl M15 [_] rfl rfl rfl rfl ?_
     intro p16 h17 M18
     refine WS.op rfl (op_cvB (l := [p.ld]) (M18.at 0 rfl) rfl rfl (Nat.le_of_ble_eq_true rfl) rfl) (WS.op rfl (op_sadd (l := ([p.kd] ++ ((vb ((p.se).toNat)) ++ (vb ((p.sq).toNat))))) (m := [p.ld]) rfl rfl (by first | omega | (simp only [List.length_append, List.length_cons, List.length_nil]; omega))) (WS.op rfl rfl (WS.nil [(3, _)] rfl ?_)))
     refine WC.seq ?_
     refine WC.run ?_
     refine WS.op rfl rfl (WS.op rfl rfl (WS.nil [(2, _)] rfl ?_))
     refine WC.ret ?_
     refine ⟨[_], (res_tmp rfl res_nil), ?_⟩
     have q3 : encP p = (([p.kd] ++ ((vb ((p.se).toNat)) ++ (vb ((p.sq).toNat)))) ++ [p.ld]) := by first | (exfalso; omega) | (rw [encP_1 (by omega)]; done) | (rw [encP_3 (by omega)]; done) | (rw [encP_6 (by omega)]; done) | (rw [encP_0 (by omega) (by omega) (by omega), List.append_nil]; done)
     exact ⟨by rw [if_pos rfl, q3]; rfl, M18.bare.take 0⟩
    ·
     refine WS.op rfl rfl (WS.nil [(1, _), (3, _), (24, _), (25, _)] rfl ?_)
     refine WC.condF rfl ?_
     refine WC.seq ?_
     refine WC.run ?_
     refine WS.eqlN (a := (p.kd).toNat) (b := 6) rfl rfl rfl (fun e34 => ?_) (fun e34 => ?_)
     ·
      refine WS.op rfl rfl (WS.nil [(1, _), (3, _), (33, _)] rfl ?_)
      refine WC.condT rfl ?_
      refine WC.run ?_
      refine WS.op rfl rfl (WS.op rfl rfl (WS.op rfl (op_lds [_, _, _, _] (M15.at 2 rfl) rfl (Nat.le_of_ble_eq_true rfl) rfl) ?_))
      refine WS.call rfl rfl rfl (WriteR_ran M15.here (r := p.r) (A.mono M15.sub) (by exact hf)) ?_
      rintro _ h19 ⟨rfl, N20⟩
      have M21 := M15.trans N20
      refine WS.op rfl (op_sadd (l := ([p.kd] ++ ((vb ((p.se).toNat)) ++ (vb ((p.sq).toNat))))) (m := (encR p.r)) rfl rfl (by first | omega | (simp only [List.length_append, List.length_cons, List.length_nil]; omega))) (WS.op rfl rfl (WS.nil [(3, _)] rfl ?_))
      refine WC.seq ?_
      refine WC.run ?_
      refine WS.op rfl rfl (WS.op rfl rfl (WS.nil [(2, _)] rfl ?_))
      refine WC.ret ?_
      refine ⟨[_], (res_tmp rfl res_nil), ?_⟩
      have q3 : encP p = (([p.kd] ++ ((vb ((p.se).toNat)) ++ (vb ((p.sq).toNat)))) ++ (encR p.r)) := by first | (exfalso; omega) | (rw [encP_1 (by omega)]; done) | (rw [encP_3 (by omega)]; done) | (rw [encP_6 (by omega)]; done) | (rw [encP_0 (by omega) (by omega) (by omega), List.append_nil]; done)
      exact ⟨by rw [if_pos rfl, q3]; rfl, M21.bare.take 0⟩
     ·
      refine WS.op rfl rfl (WS.nil [(1, _), (3, _), (33, _)] rfl ?_)
      refine WC.condF rfl ?_
      refine WC.skip ?_
      refine WC.seq ?_
      refine WC.run ?_
      refine WS.op rfl rfl (WS.op rfl rfl (WS.nil [(2, _)] rfl ?_))
      refine WC.ret ?_
      refine ⟨[_], (res_tmp rfl res_nil), ?_⟩
      have q3 : encP p = ([p.kd] ++ ((vb ((p.se).toNat)) ++ (vb ((p.sq).toNat)))) := by first | (exfalso; omega) | (rw [encP_1 (by omega)]; done) | (rw [encP_3 (by omega)]; done) | (rw [encP_6 (by omega)]; done) | (rw [encP_0 (by omega) (by omega) (by omega), List.append_nil]; done)
      exact ⟨by rw [if_pos rfl, q3]; rfl, M15.bare.take 0⟩
theorem SameP_ran (W : Mem h h [] []) {a b : Rep} {V V2 : Value} (A : KRrow.Sl h V a.r.rs) (B : KRrow.Sl h V2 b.r.rs) (hl : a.r.rs.length ≤ 1000000) : Cll tab0 23 [a.val V, b.val V2] h (fun v h2 => v = .bool (decide (a = b)) ∧ Mem h h2 [] []) := by
  obtain ⟨P, n, rfl⟩ := A.shape
  obtain ⟨P2, n2, rfl⟩ := B.shape
  refine Cll.code rfl rfl ?_
  refine WC.env [(0, _), (1, _)] rfl ?_
  refine WC.seq ?_
  refine WC.run ?_
  refine WS.box W [_, _, _, _, _, _, _, _] rfl rfl rfl rfl ?_
  intro p1 h2 M3
  refine WS.box M3 [_, _, _, _, _, _, _, _] rfl rfl rfl rfl ?_
  intro p4 h5 M6
  refine WS.op rfl rfl (WS.nil [(2, _), (3, _)] rfl ?_)
  refine WC.seq ?_
  refine WC.run ?_
  refine WS.op rfl rfl (WS.op rfl (op_ld (M6.at 1 rfl) rfl rfl) (WS.op rfl rfl (WS.op rfl (op_ld (M6.at 0 rfl) rfl rfl) ?_)))
  refine WS.eqlN (a := (a.kd).toNat) (b := (b.kd).toNat) rfl rfl rfl (fun e9 => ?_) (fun e9 => ?_)
  ·
   refine WS.op rfl rfl (WS.op rfl rfl (WS.op rfl (op_ld (M6.at 1 rfl) rfl rfl) (WS.op rfl rfl (WS.op rfl (op_ld (M6.at 0 rfl) rfl rfl) ?_))))
   refine WS.eqlN (a := (a.se).toNat) (b := (b.se).toNat) rfl rfl rfl (fun e15 => ?_) (fun e15 => ?_)
   ·
    refine WS.op rfl rfl (WS.op rfl rfl (WS.op rfl rfl (WS.op rfl (op_ld (M6.at 1 rfl) rfl rfl) (WS.op rfl rfl (WS.op rfl (op_ld (M6.at 0 rfl) rfl rfl) ?_)))))
    refine WS.eqlN (a := (a.sq).toNat) (b := (b.sq).toNat) rfl rfl rfl (fun e22 => ?_) (fun e22 => ?_)
    ·
     refine WS.op rfl rfl (WS.op rfl rfl (WS.op rfl rfl (WS.op rfl (op_ld (M6.at 1 rfl) rfl rfl) (WS.op rfl rfl (WS.op rfl (op_ld (M6.at 0 rfl) rfl rfl) ?_)))))
     refine WS.eqlN (a := (a.ld).toNat) (b := (b.ld).toNat) rfl rfl rfl (fun e29 => ?_) (fun e29 => ?_)
     ·
      refine WS.op rfl rfl (WS.op rfl rfl (WS.op rfl rfl (WS.op rfl (op_lds [_, _, _, _] (M6.at 1 rfl) rfl (Nat.le_of_ble_eq_true rfl) rfl) (WS.op rfl rfl (WS.op rfl (op_lds [_, _, _, _] (M6.at 0 rfl) rfl (Nat.le_of_ble_eq_true rfl) rfl) ?_)))))
      refine WS.call rfl rfl rfl (SameR_ran M6.here (a := a.r) (b := b.r) (A.mono M6.sub) (B.mono M6.sub) (by omega)) ?_
      rintro _ h7 ⟨rfl, N8⟩
      have M9 := M6.trans N8
      refine WS.op rfl rfl (WS.op rfl rfl (WS.nil [(4, _)] rfl ?_))
      refine WC.ret ?_
      cases hb1 : (decide (a.r = b.r))
      ·
       refine ⟨[_], (res_tmp rfl res_nil), ?_⟩
       exact ⟨vbf (fun q => by first | exact absurd (by rw [q]) e9 | exact absurd (by rw [q]) e15 | exact absurd (by rw [q]) e22 | exact absurd (by rw [q]) e29 | exact absurd (by rw [q]) (of_decide_eq_false (p := a.r = b.r) (by assumption))), M9.bare.take 0⟩
      ·
       refine ⟨[_], (res_tmp rfl res_nil), ?_⟩
       exact ⟨vbt (rep_eq (u8_inj e9) (u64_inj e15) (u64_inj e22) (u8_inj e29) (of_decide_eq_true (p := a.r = b.r) (by assumption))), M9.bare.take 0⟩
     ·
      refine WS.op rfl rfl (WS.op rfl rfl (WS.off rfl (WS.off rfl (WS.off rfl (WS.off rfl (WS.offC rfl (WS.op rfl rfl (WS.op rfl rfl (WS.nil [(4, _)] rfl ?_)))))))))
      refine WC.ret ?_
      refine ⟨[_], (res_tmp rfl res_nil), ?_⟩
      exact ⟨vbf (fun q => by first | exact absurd (by rw [q]) e9 | exact absurd (by rw [q]) e15 | exact absurd (by rw [q]) e22 | exact absurd (by rw [q]) e29 | exact absurd (by rw [q]) (of_decide_eq_false (p := a.r = b.r) (by assumption))), M6.bare.take 0⟩
    ·
     refine WS.op rfl rfl (WS.op rfl rfl (WS.off rfl (WS.off rfl (WS.off rfl (WS.off rfl (WS.off rfl (WS.op rfl rfl (WS.op rfl rfl (WS.off rfl ?_)))))))))
     refine WS.off rfl (WS.off rfl (WS.off rfl (WS.offC rfl (WS.op rfl rfl (WS.op rfl rfl (WS.nil [(4, _)] rfl ?_))))))
     refine WC.ret ?_
     refine ⟨[_], (res_tmp rfl res_nil), ?_⟩
     exact ⟨vbf (fun q => by first | exact absurd (by rw [q]) e9 | exact absurd (by rw [q]) e15 | exact absurd (by rw [q]) e22 | exact absurd (by rw [q]) e29 | exact absurd (by rw [q]) (of_decide_eq_false (p := a.r = b.r) (by assumption))), M6.bare.take 0⟩
   ·
    refine WS.op rfl rfl (WS.op rfl rfl (WS.off rfl (WS.off rfl (WS.off rfl (WS.off rfl (WS.off rfl (WS.op rfl rfl (WS.op rfl rfl (WS.off rfl ?_)))))))))
    refine WS.off rfl (WS.off rfl (WS.off rfl (WS.off rfl (WS.op rfl rfl (WS.op rfl rfl (WS.off rfl (WS.off rfl (WS.off rfl (WS.off rfl ?_)))))))))
    refine WS.offC rfl (WS.op rfl rfl (WS.op rfl rfl (WS.nil [(4, _)] rfl ?_)))
    refine WC.ret ?_
    refine ⟨[_], (res_tmp rfl res_nil), ?_⟩
    exact ⟨vbf (fun q => by first | exact absurd (by rw [q]) e9 | exact absurd (by rw [q]) e15 | exact absurd (by rw [q]) e22 | exact absurd (by rw [q]) e29 | exact absurd (by rw [q]) (of_decide_eq_false (p := a.r = b.r) (by assumption))), M6.bare.take 0⟩
  ·
   refine WS.op rfl rfl (WS.off rfl (WS.off rfl (WS.off rfl (WS.off rfl (WS.off rfl (WS.op rfl rfl (WS.op rfl rfl (WS.off rfl (WS.off rfl ?_)))))))))
   refine WS.off rfl (WS.off rfl (WS.off rfl (WS.op rfl rfl (WS.op rfl rfl (WS.off rfl (WS.off rfl (WS.off rfl (WS.off rfl (WS.off rfl ?_)))))))))
   refine WS.op rfl rfl (WS.op rfl rfl (WS.off rfl (WS.off rfl (WS.off rfl (WS.off rfl (WS.offC rfl (WS.op rfl rfl (WS.op rfl rfl (WS.nil [(4, _)] rfl ?_)))))))))
   refine WC.ret ?_
   refine ⟨[_], (res_tmp rfl res_nil), ?_⟩
   exact ⟨vbf (fun q => by first | exact absurd (by rw [q]) e9 | exact absurd (by rw [q]) e15 | exact absurd (by rw [q]) e22 | exact absurd (by rw [q]) e29 | exact absurd (by rw [q]) (of_decide_eq_false (p := a.r = b.r) (by assumption))), M6.bare.take 0⟩
theorem rdP_no {s : List UInt8} (h : ∀ p0, GoodP2 p0 → encP p0 ≠ s) : Rd GoodP2 encP zeroP s zeroP false := ⟨fun q => (nomatch q), fun _ => ⟨rfl, h⟩⟩
theorem rdP_yes {s : List UInt8} {p : Rep} (g : GoodP2 p) (h : encP p = s) : Rd GoodP2 encP zeroP s p true := ⟨fun _ => ⟨g, h⟩, fun q => (nomatch q)⟩
theorem encP_ne (p : Rep) : encP p ≠ [] := by rw [encP_cons]; simp
theorem wrP_t {p : Rep} (h : (if mayPB p then encP p else []) ≠ []) : MayP p := by
  cases q : mayPB p with
  | true => exact of_decide_eq_true q
  | false => rw [q] at h; exact absurd rfl h
theorem rv2 {s : List UInt8} {a b : UInt64} {t : List UInt8} (h : s.drop 1 = vb a.toNat ++ (vb b.toNat ++ t)) : rvN (s.drop 1) = a.toNat ∧ rvOK (s.drop 1) = true ∧ rvK (s.drop 1) = (vb a.toNat).length ∧ (s.drop 1).drop (rvK (s.drop 1)) = vb b.toNat ++ t ∧ rvN ((s.drop 1).drop (rvK (s.drop 1))) = b.toNat ∧ rvOK ((s.drop 1).drop (rvK (s.drop 1))) = true ∧ (s.drop 1).drop (rvK (s.drop 1) + rvK ((s.drop 1).drop (rvK (s.drop 1)))) = t := by
  obtain ⟨e1, e2, e3⟩ := rv_eq_some (show getV (s.drop 1) = some (a.toNat, (vb a.toNat).length) by rw [h]; exact getV_vb a.toNat_lt _)
  have e4 : (s.drop 1).drop (rvK (s.drop 1)) = vb b.toNat ++ t := by rw [e2, h, List.drop_left]
  obtain ⟨f1, f2, f3⟩ := rv_eq_some (show getV ((s.drop 1).drop (rvK (s.drop 1))) = some (b.toNat, (vb b.toNat).length) by rw [e4]; exact getV_vb b.toNat_lt _)
  refine ⟨e1, e3, e2, e4, f1, f3, ?_⟩
  rw [← List.drop_drop, f2, e4, List.drop_left]
set_option maxRecDepth 8000 in
theorem ReadP_ran (W : Mem h h [] []) {s : List UInt8} (hl : s.length ≤ 299000) : Cll tab0 14 [.string (bs s)] h (fun v h2 => ∃ p V S ok, KRrow.Own V (Res.rs p.r) S ∧ v = .tuple #[Rep.val p V, .bool ok] ∧ FitRes p.r ∧ Rd GoodP2 encP zeroP s p ok ∧ Mem h h2 [S] []) := by
  have hk1 := rvK_le (s.drop 1)
  have hk2 := rvK_le ((s.drop 1).drop (rvK (s.drop 1)))
  have hn1 := rvN_lt (s.drop 1)
  have hn2 := rvN_lt ((s.drop 1).drop (rvK (s.drop 1)))
  have hd1 : (s.drop 1).length = s.length - 1 := List.length_drop
  have hd2 : ((s.drop 1).drop (rvK (s.drop 1))).length = s.length - 1 - rvK (s.drop 1) := by rw [List.length_drop, hd1]
  refine Cll.code rfl rfl ?_
  refine WC.env [(0, _)] rfl ?_
  refine WC.seq ?_
  refine WC.run ?_
  refine WS.new W rfl ?_
  intro p1 h2 M3
  refine WS.op rfl rfl (WS.nil [(0, _), (2, _)] rfl ?_)
  refine WC.seq ?_
  refine WC.seq ?_
  refine WC.run ?_
  refine WS.op rfl rfl ?_
  refine WS.seql (l := s) (m := []) rfl rfl rfl (fun e13 => ?_) (fun e13 => ?_)
  ·
   refine WS.nil [(0, _), (2, _), (13, _)] rfl ?_
   refine WC.condT rfl ?_
   refine WC.seq ?_
   refine WC.run ?_
   refine WS.opV (.agg #[(.int .u8 (0 : Int)), (.int .u64 (0 : Int)), (.int .u64 (0 : Int)), (.int .u8 (0 : Int)), (.int .u8 (0 : Int)), (.int .u64 (0 : Int)), (.string (bs ([]))), (.slice none 0 0)]) rfl rfl rfl ?_
   refine WS.st1 (M3.focus 0 rfl) [_, _, _, _, _, _, _, _] [_, _, _, _, _, _, _, _] rfl rfl rfl rfl rfl (Nat.le_of_ble_eq_true rfl) (Nat.le_of_ble_eq_true rfl) rfl rfl ?_
   intro h4 M5
   replace M5 : Mem _ _ ([(p1, _)] :: []) _ := M5
   refine WS.op rfl rfl (WS.nil [(2, _), (3, _)] rfl ?_)
   refine WC.ret ?_
   refine ⟨[_, _], (res_cellN [_, _, _, _, _, _, _, _] rfl (M5.at 0 rfl) (Nat.le_of_ble_eq_true rfl) rfl (res_tmp rfl res_nil)), ?_⟩
   exact ⟨zeroP, .slice none 0 0, [], false, .nil, rfl, fitR0, rdP_no (fun p0 _ e => encP_ne p0 (by rw [e]; assumption)), (M5.bare.take 0).nils⟩
  ·
   refine WS.nil [(0, _), (2, _), (13, _)] rfl ?_
   refine WC.condF rfl ?_
   refine WC.skip ?_
   refine WC.seq ?_
   refine WC.run ?_
   refine WS.op rfl rfl ?_
   obtain ⟨a, ha⟩ : ∃ c, (s)[0]? = some c := ⟨_, List.getElem?_eq_getElem (show 0 < (s).length by exact List.length_pos_iff.2 e13)⟩
   refine WS.op rfl (op_ixS 0 rfl rfl ha) (WS.opV (.agg #[(.int .u8 (((a).toNat : Nat) : Int)), (.int .u64 (0 : Int)), (.int .u64 (0 : Int)), (.int .u8 (0 : Int)), (.int .u8 (0 : Int)), (.int .u64 (0 : Int)), (.string (bs ([]))), (.slice none 0 0)]) rfl rfl rfl ?_)
   refine WS.new M3 rfl ?_
   intro p6 h7 M8
   refine WS.st1 (M8.focus 0 rfl) [_, _, _, _, _, _, _, _] [_, _, _, _, _, _, _, _] rfl rfl rfl rfl rfl (Nat.le_of_ble_eq_true rfl) (Nat.le_of_ble_eq_true rfl) rfl rfl ?_
   intro h9 M10
   replace M10 : Mem _ _ ([(p6, _)] :: [(p1, _)] :: []) _ := M10
   refine WS.nil [(0, _), (2, _), (4, _)] rfl ?_
   refine WC.seq ?_
   refine WC.run ?_
   refine WS.op rfl rfl ?_
   have hpos := List.length_pos_iff.2 e13
   refine WS.op rfl (op_slS0 (l := s) 1 rfl rfl (by first | omega | (simp only [List.length_drop, List.length_take, List.length_append, List.length_cons, List.length_nil, List.length_singleton]; omega) | (simp only [List.length_drop, List.length_take, List.length_append, List.length_cons, List.length_nil, List.length_singleton] at *; omega))) (WS.op rfl rfl (WS.nil [(0, _), (2, _), (4, _), (5, _)] rfl ?_))
   refine WC.seq ?_
   refine WC.seq ?_
   refine WC.run ?_
   refine WS.op rfl rfl (WS.op rfl (op_ld (M10.at 0 rfl) rfl rfl) ?_)
   refine WS.neqN (a := (a).toNat) (b := 1) rfl rfl rfl (fun e22 => ?_) (fun e22 => ?_)
   ·
    refine WS.nil [(0, _), (2, _), (4, _), (5, _), (22, _)] rfl ?_
    refine WC.condT rfl ?_
    refine WC.seq ?_
    refine WC.run ?_
    refine WS.op rfl rfl ?_
    refine WS.call rfl rfl rfl (num_ReadV_ran M10.here (l := ((s).drop 1)) (by first | omega | (simp only [List.length_drop, List.length_take, List.length_append, List.length_cons, List.length_nil, List.length_singleton]; omega) | (simp only [List.length_drop, List.length_take, List.length_append, List.length_cons, List.length_nil, List.length_singleton] at *; omega))) ?_
    rintro _ h11 ⟨rfl, N12⟩
    have M13 := M10.trans N12
    refine WS.op rfl rfl (WS.opV (.int .u64 (((UInt64.ofNat (rvN ((s).drop 1))).toNat : Nat) : Int)) rfl rfl (u64_ofNat (n := (rvN ((s).drop 1))) (by have := rvN_lt ((s).drop 1); omega)) (WS.op rfl rfl (WS.op rfl rfl (WS.op rfl rfl (WS.op rfl rfl (WS.op rfl rfl (WS.nil [(0, _), (2, _), (4, _), (5, _), (6, _), (7, _)] rfl ?_)))))))
    refine WC.seq ?_
    refine WC.run ?_
    refine WS.op rfl rfl (WS.op rfl rfl (WS.op rfl (op_slS0 (l := ((s).drop 1)) (rvK ((s).drop 1)) rfl rfl (by omega)) ?_))
    refine WS.call rfl rfl rfl (num_ReadV_ran M13.here (l := ((((s).drop 1)).drop (rvK ((s).drop 1)))) (by first | omega | (simp only [List.length_drop, List.length_take, List.length_append, List.length_cons, List.length_nil, List.length_singleton]; omega) | (simp only [List.length_drop, List.length_take, List.length_append, List.length_cons, List.length_nil, List.length_singleton] at *; omega))) ?_
    rintro _ h15 ⟨rfl, N16⟩
    have M17 := M13.trans N16
    refine WS.op rfl rfl (WS.opV (.int .u64 (((UInt64.ofNat (rvN ((((s).drop 1)).drop (rvK ((s).drop 1))))).toNat : Nat) : Int)) rfl rfl (u64_ofNat (n := (rvN ((((s).drop 1)).drop (rvK ((s).drop 1))))) (by have := rvN_lt ((((s).drop 1)).drop (rvK ((s).drop 1))); omega)) (WS.op rfl rfl (WS.op rfl rfl (WS.op rfl rfl (WS.op rfl rfl (WS.op rfl rfl (WS.nil [(0, _), (2, _), (4, _), (5, _), (6, _), (7, _), (9, _), (10, _)] rfl ?_)))))))
    refine WC.draw M17 [] rfl ?_
    intro rb19 h20 M21
    refine WS.op rfl rfl (WS.op rfl rfl (WS.op rfl rfl (WS.op rfl rfl (WS.op rfl rfl (WS.opV (.int .i64 ((((rvK ((s).drop 1)) + (rvK ((((s).drop 1)).drop (rvK ((s).drop 1))))) : Nat) : Int)) rfl rfl (add_i64 (a := (rvK ((s).drop 1))) (b := (rvK ((((s).drop 1)).drop (rvK ((s).drop 1))))) (by have := rvK_le ((s).drop 1); have := rvK_le ((((s).drop 1)).drop (rvK ((s).drop 1))); omega)) (WS.op rfl (op_slS0 (l := ((s).drop 1)) ((rvK ((s).drop 1)) + (rvK ((((s).drop 1)).drop (rvK ((s).drop 1))))) rfl rfl (by omega)) (WS.op rfl rfl ?_)))))))
    refine WS.st1 (M21.focus 0 rfl) [_] [_, _, _, _, _, _, _, _] rfl rfl rfl rfl rfl (Nat.le_of_ble_eq_true rfl) (Nat.le_of_ble_eq_true rfl) rfl rfl ?_
    intro h22 M23
    replace M23 : Mem _ _ ([(p6, _)] :: [(p1, _)] :: []) _ := M23
    refine WS.op rfl rfl ?_
    refine WS.st1 (M23.focus 0 rfl) [_] [_, _, _, _, _, _, _, _] rfl rfl rfl rfl rfl (Nat.le_of_ble_eq_true rfl) (Nat.le_of_ble_eq_true rfl) rfl rfl ?_
    intro h24 M25
    replace M25 : Mem _ _ ([(p6, _)] :: [(p1, _)] :: []) _ := M25
    refine WS.op rfl rfl (WS.nil [(0, _), (2, _), (4, _), (5, _)] rfl ?_)
    refine WC.seq ?_
    refine WC.block ?_
    refine WC.seq ?_
    refine WC.run ?_
    refine WS.op rfl rfl (WS.op rfl (op_ld (M25.bare.at 0 rfl) rfl rfl) ?_)
    refine WS.eqlN (a := (a).toNat) (b := 3) rfl rfl rfl (fun e49 => ?_) (fun e49 => ?_)
    ·
     refine WS.op rfl rfl (WS.op rfl rfl ?_)
     refine WS.sneq (l := ((((s).drop 1)).drop ((rvK ((s).drop 1)) + (rvK ((((s).drop 1)).drop (rvK ((s).drop 1))))))) (m := []) rfl rfl rfl (fun e52 => ?_) (fun e52 => ?_)
     ·
      refine WS.op rfl rfl (WS.op rfl rfl (WS.nil [(0, _), (2, _), (4, _), (5, _), (46, _)] rfl ?_))
      refine WC.condT rfl ?_
      refine WC.run ?_
      refine WS.op rfl rfl ?_
      obtain ⟨b_, hb_⟩ : ∃ c, (((((s).drop 1)).drop ((rvK ((s).drop 1)) + (rvK ((((s).drop 1)).drop (rvK ((s).drop 1)))))))[0]? = some c := ⟨_, List.getElem?_eq_getElem (show 0 < (((((s).drop 1)).drop ((rvK ((s).drop 1)) + (rvK ((((s).drop 1)).drop (rvK ((s).drop 1))))))).length by exact List.length_pos_iff.2 e52)⟩
      refine WS.op rfl (op_ixS 0 rfl rfl hb_) (WS.op rfl rfl ?_)
      refine WS.st1 (M25.bare.focus 0 rfl) [_] [_, _, _, _, _, _, _, _] rfl rfl rfl rfl rfl (Nat.le_of_ble_eq_true rfl) (Nat.le_of_ble_eq_true rfl) rfl rfl ?_
      intro h26 M27
      replace M27 : Mem _ _ ([(p6, _)] :: [(p1, _)] :: []) _ := M27
      refine WS.nil [(0, _), (2, _), (4, _)] rfl ?_
      refine WC.seq ?_
      refine WC.seq ?_
      refine WC.run ?_
      refine WS.op rfl (op_lds [_, _, _, _, _, _, _, _] (M27.at 0 rfl) rfl (Nat.le_of_ble_eq_true rfl) rfl) ?_
      refine WS.call rfl rfl rfl (WriteP_ran M27.here (p := (⟨a, (UInt64.ofNat (rvN ((s).drop 1))), (UInt64.ofNat (rvN ((((s).drop 1)).drop (rvK ((s).drop 1))))), b_, (⟨0, 0, ([]), []⟩ : Res)⟩ : Rep)) Row.Sl.nil (by first | exact hF63 | exact fitR0)) ?_
      rintro _ h28 ⟨rfl, N29⟩
      have M30 := M27.trans N29
      refine WS.op rfl rfl ?_
      refine WS.sneq (l := (if mayPB (⟨a, (UInt64.ofNat (rvN ((s).drop 1))), (UInt64.ofNat (rvN ((((s).drop 1)).drop (rvK ((s).drop 1))))), b_, (⟨0, 0, ([]), []⟩ : Res)⟩ : Rep) then encP (⟨a, (UInt64.ofNat (rvN ((s).drop 1))), (UInt64.ofNat (rvN ((((s).drop 1)).drop (rvK ((s).drop 1))))), b_, (⟨0, 0, ([]), []⟩ : Res)⟩ : Rep) else [])) (m := s) rfl rfl rfl (fun e70 => ?_) (fun e70 => ?_)
      ·
       refine WS.nil [(2, _), (4, _), (70, _)] rfl ?_
       refine WC.condT rfl ?_
       refine WC.seq ?_
       refine WC.run ?_
       refine WS.opV (.agg #[(.int .u8 (0 : Int)), (.int .u64 (0 : Int)), (.int .u64 (0 : Int)), (.int .u8 (0 : Int)), (.int .u8 (0 : Int)), (.int .u64 (0 : Int)), (.string (bs ([]))), (.slice none 0 0)]) rfl rfl rfl ?_
       refine WS.st1 (M30.focus 1 rfl) [_, _, _, _, _, _, _, _] [_, _, _, _, _, _, _, _] rfl rfl rfl rfl rfl (Nat.le_of_ble_eq_true rfl) (Nat.le_of_ble_eq_true rfl) rfl rfl ?_
       intro h31 M32
       replace M32 : Mem _ _ ([(p1, _)] :: [(p6, _)] :: []) _ := M32
       refine WS.op rfl rfl (WS.nil [(2, _), (3, _)] rfl ?_)
       refine WC.ret ?_
       refine ⟨[_, _], (res_cellN [_, _, _, _, _, _, _, _] rfl (M32.at 0 rfl) (Nat.le_of_ble_eq_true rfl) rfl (res_tmp rfl res_nil)), ?_⟩
       have hno : ∀ p0, GoodP2 p0 → encP p0 ≠ s := by
         intro p0 hg he
         have hs0 : s = a :: s.drop 1 := by simpa using drop_cons ha
         have hka : p0.kd = a := by rw [hs0, encP_cons] at he; exact (List.cons.inj he).1
         have htl : (encP p0).tail = s.drop 1 := by rw [hs0, encP_cons] at he; exact (List.cons.inj he).2
         obtain ⟨⟨g1, g2, g3, g4, g5⟩, hfr⟩ := id hg
         apply absurd (show (if mayPB (⟨a, (UInt64.ofNat (rvN ((s).drop 1))), (UInt64.ofNat (rvN ((((s).drop 1)).drop (rvK ((s).drop 1))))), b_, (⟨0, 0, ([]), []⟩ : Res)⟩ : Rep) then encP (⟨a, (UInt64.ofNat (rvN ((s).drop 1))), (UInt64.ofNat (rvN ((((s).drop 1)).drop (rvK ((s).drop 1))))), b_, (⟨0, 0, ([]), []⟩ : Res)⟩ : Rep) else []) = s from ?_) (by assumption)
         have hp : (⟨a, (UInt64.ofNat (rvN ((s).drop 1))), (UInt64.ofNat (rvN ((((s).drop 1)).drop (rvK ((s).drop 1))))), b_, (⟨0, 0, ([]), []⟩ : Res)⟩ : Rep) = p0 := by
           by_cases k1 : a.toNat = 1
           · first
             | (exfalso; omega)
             | exact rep_eq hka.symm (g2 (by rw [hka]; exact k1)).1.symm (g2 (by rw [hka]; exact k1)).2.symm (by first | (exfalso; omega) | exact (g3 (by rw [hka]; omega)).symm) (by first | (exfalso; omega) | exact (g5 (by rw [hka]; omega)).symm)
           have htl2 : s.drop 1 = vb p0.se.toNat ++ (vb p0.sq.toNat ++ lastP p0) := by
             rw [← htl, encP_n (by rw [hka]; exact k1)]; simp
           obtain ⟨r1, r2, r3, r4, r5, r6, r7⟩ := rv2 htl2
           have s1 : UInt64.ofNat (rvN (s.drop 1)) = p0.se := by rw [r1]; simp
           have s2 : UInt64.ofNat (rvN ((s.drop 1).drop (rvK (s.drop 1)))) = p0.sq := by rw [r5]; simp
           first
           | (exfalso; omega)
           | exact rep_eq hka.symm s1 s2 (g3 (by rw [hka]; omega)).symm (g5 (by rw [hka]; omega)).symm
           | (have l3 : lastP p0 = [p0.ld] := if_pos (by rw [hka]; omega)
              rw [l3] at r7
              first
              | exact rep_eq hka.symm s1 s2 (by rw [r7] at hb_; simpa using hb_.symm) (g5 (by rw [hka]; omega)).symm
              | (exfalso; rw [r7] at e52; cases e52; done))
           | (have l6 : lastP p0 = encR p0.r := by (unfold lastP; rw [if_neg (by rw [hka]; omega), if_pos (by rw [hka]; omega)])
              rw [l6] at r7
              rw [r7] at hC63
              exact rep_eq hka.symm s1 s2 (g3 (by rw [hka]; omega)).symm (rd_self encR_pf hfr (hC63.rd hF63)).2)
         rw [hp, if_pos (show mayPB p0 = true from decide_eq_true hg.1)]; exact he
       exact ⟨zeroP, .slice none 0 0, [], false, .nil, rfl, fitR0, rdP_no hno, (M32.bare.take 0).nils⟩
      ·
       refine WS.nil [(2, _), (4, _), (70, _)] rfl ?_
       refine WC.condF rfl ?_
       refine WC.skip ?_
       refine WC.seq ?_
       refine WC.run ?_
       refine WS.op rfl (op_lds [_, _, _, _, _, _, _, _] (M30.at 0 rfl) rfl (Nat.le_of_ble_eq_true rfl) rfl) ?_
       refine WS.st1 (M30.focus 1 rfl) [_, _, _, _, _, _, _, _] [_, _, _, _, _, _, _, _] rfl rfl rfl rfl rfl (Nat.le_of_ble_eq_true rfl) (Nat.le_of_ble_eq_true rfl) rfl rfl ?_
       intro h33 M34
       replace M34 : Mem _ _ ([(p1, _)] :: [(p6, _)] :: []) _ := M34
       refine WS.op rfl rfl (WS.nil [(2, _), (3, _)] rfl ?_)
       refine WC.ret ?_
       refine ⟨[_, _], (res_cellN [_, _, _, _, _, _, _, _] rfl (M34.at 0 rfl) (Nat.le_of_ble_eq_true rfl) rfl (res_tmp rfl res_nil)), ?_⟩
       have e70b : (if mayPB (⟨a, (UInt64.ofNat (rvN ((s).drop 1))), (UInt64.ofNat (rvN ((((s).drop 1)).drop (rvK ((s).drop 1))))), b_, (⟨0, 0, ([]), []⟩ : Res)⟩ : Rep) then encP (⟨a, (UInt64.ofNat (rvN ((s).drop 1))), (UInt64.ofNat (rvN ((((s).drop 1)).drop (rvK ((s).drop 1))))), b_, (⟨0, 0, ([]), []⟩ : Res)⟩ : Rep) else []) = s := by assumption
       have hm : MayP (⟨a, (UInt64.ofNat (rvN ((s).drop 1))), (UInt64.ofNat (rvN ((((s).drop 1)).drop (rvK ((s).drop 1))))), b_, (⟨0, 0, ([]), []⟩ : Res)⟩ : Rep) := wrP_t (by rw [e70b]; exact e13)
       have henc : encP (⟨a, (UInt64.ofNat (rvN ((s).drop 1))), (UInt64.ofNat (rvN ((((s).drop 1)).drop (rvK ((s).drop 1))))), b_, (⟨0, 0, ([]), []⟩ : Res)⟩ : Rep) = s := by rw [if_pos (show mayPB (⟨a, (UInt64.ofNat (rvN ((s).drop 1))), (UInt64.ofNat (rvN ((((s).drop 1)).drop (rvK ((s).drop 1))))), b_, (⟨0, 0, ([]), []⟩ : Res)⟩ : Rep) = true from decide_eq_true hm)] at e70b; exact e70b
       exact ⟨(⟨a, (UInt64.ofNat (rvN ((s).drop 1))), (UInt64.ofNat (rvN ((((s).drop 1)).drop (rvK ((s).drop 1))))), b_, (⟨0, 0, ([]), []⟩ : Res)⟩ : Rep), _, _, true, .nil, rfl, (by first | exact hF63 | exact fitR0), rdP_yes ⟨hm, by first | exact hF63 | exact fitR0⟩ henc, (M34.bare.take 0).nils⟩
     ·
      refine WS.op rfl rfl (WS.op rfl rfl (WS.nil [(0, _), (2, _), (4, _), (5, _), (46, _)] rfl ?_))
      refine WC.condF rfl ?_
      refine WC.seq ?_
      refine WC.run ?_
      refine WS.op rfl rfl (WS.op rfl (op_ld (M25.bare.at 0 rfl) rfl rfl) ?_)
      refine WS.eqlN (a := (a).toNat) (b := 6) rfl rfl rfl (fun e60 => ?_) (fun e60 => ?_)
      ·
       refine WS.op rfl rfl (WS.nil [(0, _), (2, _), (4, _), (5, _), (57, _)] rfl ?_)
       refine WC.condT rfl ?_
       refine WC.run ?_
       refine WS.op rfl rfl ?_
       refine WS.call rfl rfl rfl (ReadR_ran M25.bare.here (s := ((((s).drop 1)).drop ((rvK ((s).drop 1)) + (rvK ((((s).drop 1)).drop (rvK ((s).drop 1))))))) (by first | omega | (simp only [List.length_drop]; omega))) ?_
       rintro _ h35 ⟨r63, V38, S39, ok63, O40, rfl, hF63, hy63, hn63, hC63, N36⟩
       obtain ⟨P41, rfl⟩ := O40.shape
       have M37 := M25.bare.trans N36
       replace M37 : Mem _ _ (S39 :: [(p6, _)] :: [(p1, _)] :: []) _ := M37
       refine WS.op rfl rfl (WS.op rfl rfl (WS.op rfl rfl (WS.op rfl rfl ?_)))
       refine WS.st1 (M37.focus 1 rfl) [_, _, _, _] [_, _, _, _, _, _, _, _] rfl rfl rfl rfl rfl (Nat.le_of_ble_eq_true rfl) (Nat.le_of_ble_eq_true rfl) rfl rfl ?_
       intro h42 M43
       replace M43 : Mem _ _ ([(p6, _)] :: S39 :: [(p1, _)] :: []) _ := M43
       refine WS.nil [(0, _), (2, _), (4, _)] rfl ?_
       refine WC.seq ?_
       refine WC.seq ?_
       refine WC.run ?_
       refine WS.op rfl (op_lds [_, _, _, _, _, _, _, _] (M43.at 0 rfl) rfl (Nat.le_of_ble_eq_true rfl) rfl) ?_
       refine WS.call rfl rfl rfl (WriteP_ran M43.here (p := (⟨a, (UInt64.ofNat (rvN ((s).drop 1))), (UInt64.ofNat (rvN ((((s).drop 1)).drop (rvK ((s).drop 1))))), 0, r63⟩ : Rep)) (Row.Own.sl O40 (Mem.owni M43 1 rfl)) (by first | exact hF63 | exact fitR0)) ?_
       rintro _ h44 ⟨rfl, N45⟩
       have M46 := M43.trans N45
       refine WS.op rfl rfl ?_
       refine WS.sneq (l := (if mayPB (⟨a, (UInt64.ofNat (rvN ((s).drop 1))), (UInt64.ofNat (rvN ((((s).drop 1)).drop (rvK ((s).drop 1))))), 0, r63⟩ : Rep) then encP (⟨a, (UInt64.ofNat (rvN ((s).drop 1))), (UInt64.ofNat (rvN ((((s).drop 1)).drop (rvK ((s).drop 1))))), 0, r63⟩ : Rep) else [])) (m := s) rfl rfl rfl (fun e70 => ?_) (fun e70 => ?_)
       ·
        refine WS.nil [(2, _), (4, _), (70, _)] rfl ?_
        refine WC.condT rfl ?_
        refine WC.seq ?_
        refine WC.run ?_
        refine WS.opV (.agg #[(.int .u8 (0 : Int)), (.int .u64 (0 : Int)), (.int .u64 (0 : Int)), (.int .u8 (0 : Int)), (.int .u8 (0 : Int)), (.int .u64 (0 : Int)), (.string (bs ([]))), (.slice none 0 0)]) rfl rfl rfl ?_
        refine WS.st1 (M46.focus 2 rfl) [_, _, _, _, _, _, _, _] [_, _, _, _, _, _, _, _] rfl rfl rfl rfl rfl (Nat.le_of_ble_eq_true rfl) (Nat.le_of_ble_eq_true rfl) rfl rfl ?_
        intro h47 M48
        replace M48 : Mem _ _ ([(p1, _)] :: [(p6, _)] :: S39 :: []) _ := M48
        refine WS.op rfl rfl (WS.nil [(2, _), (3, _)] rfl ?_)
        refine WC.ret ?_
        refine ⟨[_, _], (res_cellN [_, _, _, _, _, _, _, _] rfl (M48.at 0 rfl) (Nat.le_of_ble_eq_true rfl) rfl (res_tmp rfl res_nil)), ?_⟩
        have hno : ∀ p0, GoodP2 p0 → encP p0 ≠ s := by
          intro p0 hg he
          have hs0 : s = a :: s.drop 1 := by simpa using drop_cons ha
          have hka : p0.kd = a := by rw [hs0, encP_cons] at he; exact (List.cons.inj he).1
          have htl : (encP p0).tail = s.drop 1 := by rw [hs0, encP_cons] at he; exact (List.cons.inj he).2
          obtain ⟨⟨g1, g2, g3, g4, g5⟩, hfr⟩ := id hg
          apply absurd (show (if mayPB (⟨a, (UInt64.ofNat (rvN ((s).drop 1))), (UInt64.ofNat (rvN ((((s).drop 1)).drop (rvK ((s).drop 1))))), 0, r63⟩ : Rep) then encP (⟨a, (UInt64.ofNat (rvN ((s).drop 1))), (UInt64.ofNat (rvN ((((s).drop 1)).drop (rvK ((s).drop 1))))), 0, r63⟩ : Rep) else []) = s from ?_) (by assumption)
          have hp : (⟨a, (UInt64.ofNat (rvN ((s).drop 1))), (UInt64.ofNat (rvN ((((s).drop 1)).drop (rvK ((s).drop 1))))), 0, r63⟩ : Rep) = p0 := by
            by_cases k1 : a.toNat = 1
            · first
              | (exfalso; omega)
              | exact rep_eq hka.symm (g2 (by rw [hka]; exact k1)).1.symm (g2 (by rw [hka]; exact k1)).2.symm (by first | (exfalso; omega) | exact (g3 (by rw [hka]; omega)).symm) (by first | (exfalso; omega) | exact (g5 (by rw [hka]; omega)).symm)
            have htl2 : s.drop 1 = vb p0.se.toNat ++ (vb p0.sq.toNat ++ lastP p0) := by
              rw [← htl, encP_n (by rw [hka]; exact k1)]; simp
            obtain ⟨r1, r2, r3, r4, r5, r6, r7⟩ := rv2 htl2
            have s1 : UInt64.ofNat (rvN (s.drop 1)) = p0.se := by rw [r1]; simp
            have s2 : UInt64.ofNat (rvN ((s.drop 1).drop (rvK (s.drop 1)))) = p0.sq := by rw [r5]; simp
            first
            | (exfalso; omega)
            | exact rep_eq hka.symm s1 s2 (g3 (by rw [hka]; omega)).symm (g5 (by rw [hka]; omega)).symm
            | (have l3 : lastP p0 = [p0.ld] := if_pos (by rw [hka]; omega)
               rw [l3] at r7
               first
               | exact rep_eq hka.symm s1 s2 (by rw [r7] at hb_; simpa using hb_.symm) (g5 (by rw [hka]; omega)).symm
               | (exfalso; rw [r7] at e52; cases e52; done))
            | (have l6 : lastP p0 = encR p0.r := by (unfold lastP; rw [if_neg (by rw [hka]; omega), if_pos (by rw [hka]; omega)])
               rw [l6] at r7
               rw [r7] at hC63
               exact rep_eq hka.symm s1 s2 (g3 (by rw [hka]; omega)).symm (rd_self encR_pf hfr (hC63.rd hF63)).2)
          rw [hp, if_pos (show mayPB p0 = true from decide_eq_true hg.1)]; exact he
        exact ⟨zeroP, .slice none 0 0, [], false, .nil, rfl, fitR0, rdP_no hno, (M48.bare.take 0).nils⟩
       ·
        refine WS.nil [(2, _), (4, _), (70, _)] rfl ?_
        refine WC.condF rfl ?_
        refine WC.skip ?_
        refine WC.seq ?_
        refine WC.run ?_
        refine WS.op rfl (op_lds [_, _, _, _, _, _, _, _] (M46.at 0 rfl) rfl (Nat.le_of_ble_eq_true rfl) rfl) ?_
        refine WS.st1 (M46.focus 2 rfl) [_, _, _, _, _, _, _, _] [_, _, _, _, _, _, _, _] rfl rfl rfl rfl rfl (Nat.le_of_ble_eq_true rfl) (Nat.le_of_ble_eq_true rfl) rfl rfl ?_
        intro h49 M50
        replace M50 : Mem _ _ ([(p1, _)] :: [(p6, _)] :: S39 :: []) _ := M50
        refine WS.op rfl rfl (WS.nil [(2, _), (3, _)] rfl ?_)
        refine WC.ret ?_
        refine ⟨[_, _], (res_cellN [_, _, _, _, _, _, _, _] rfl (M50.at 0 rfl) (Nat.le_of_ble_eq_true rfl) rfl (res_tmp rfl res_nil)), ?_⟩
        have e70b : (if mayPB (⟨a, (UInt64.ofNat (rvN ((s).drop 1))), (UInt64.ofNat (rvN ((((s).drop 1)).drop (rvK ((s).drop 1))))), 0, r63⟩ : Rep) then encP (⟨a, (UInt64.ofNat (rvN ((s).drop 1))), (UInt64.ofNat (rvN ((((s).drop 1)).drop (rvK ((s).drop 1))))), 0, r63⟩ : Rep) else []) = s := by assumption
        have hm : MayP (⟨a, (UInt64.ofNat (rvN ((s).drop 1))), (UInt64.ofNat (rvN ((((s).drop 1)).drop (rvK ((s).drop 1))))), 0, r63⟩ : Rep) := wrP_t (by rw [e70b]; exact e13)
        have henc : encP (⟨a, (UInt64.ofNat (rvN ((s).drop 1))), (UInt64.ofNat (rvN ((((s).drop 1)).drop (rvK ((s).drop 1))))), 0, r63⟩ : Rep) = s := by rw [if_pos (show mayPB (⟨a, (UInt64.ofNat (rvN ((s).drop 1))), (UInt64.ofNat (rvN ((((s).drop 1)).drop (rvK ((s).drop 1))))), 0, r63⟩ : Rep) = true from decide_eq_true hm)] at e70b; exact e70b
        exact ⟨(⟨a, (UInt64.ofNat (rvN ((s).drop 1))), (UInt64.ofNat (rvN ((((s).drop 1)).drop (rvK ((s).drop 1))))), 0, r63⟩ : Rep), _, _, true, O40, rfl, (by first | exact hF63 | exact fitR0), rdP_yes ⟨hm, by first | exact hF63 | exact fitR0⟩ henc, ((M50.bare.focus 2 rfl).take 1)⟩
      ·
       refine WS.op rfl rfl (WS.nil [(0, _), (2, _), (4, _), (5, _), (57, _)] rfl ?_)
       refine WC.condF rfl ?_
       refine WC.skip ?_
       refine WC.seq ?_
       refine WC.seq ?_
       refine WC.run ?_
       refine WS.op rfl (op_lds [_, _, _, _, _, _, _, _] (M25.bare.at 0 rfl) rfl (Nat.le_of_ble_eq_true rfl) rfl) ?_
       refine WS.call rfl rfl rfl (WriteP_ran M25.bare.here (p := (⟨a, (UInt64.ofNat (rvN ((s).drop 1))), (UInt64.ofNat (rvN ((((s).drop 1)).drop (rvK ((s).drop 1))))), 0, (⟨0, 0, ([]), []⟩ : Res)⟩ : Rep)) Row.Sl.nil (by first | exact hF63 | exact fitR0)) ?_
       rintro _ h51 ⟨rfl, N52⟩
       have M53 := M25.bare.trans N52
       refine WS.op rfl rfl ?_
       refine WS.sneq (l := (if mayPB (⟨a, (UInt64.ofNat (rvN ((s).drop 1))), (UInt64.ofNat (rvN ((((s).drop 1)).drop (rvK ((s).drop 1))))), 0, (⟨0, 0, ([]), []⟩ : Res)⟩ : Rep) then encP (⟨a, (UInt64.ofNat (rvN ((s).drop 1))), (UInt64.ofNat (rvN ((((s).drop 1)).drop (rvK ((s).drop 1))))), 0, (⟨0, 0, ([]), []⟩ : Res)⟩ : Rep) else [])) (m := s) rfl rfl rfl (fun e70 => ?_) (fun e70 => ?_)
       ·
        refine WS.nil [(2, _), (4, _), (70, _)] rfl ?_
        refine WC.condT rfl ?_
        refine WC.seq ?_
        refine WC.run ?_
        refine WS.opV (.agg #[(.int .u8 (0 : Int)), (.int .u64 (0 : Int)), (.int .u64 (0 : Int)), (.int .u8 (0 : Int)), (.int .u8 (0 : Int)), (.int .u64 (0 : Int)), (.string (bs ([]))), (.slice none 0 0)]) rfl rfl rfl ?_
        refine WS.st1 (M53.focus 1 rfl) [_, _, _, _, _, _, _, _] [_, _, _, _, _, _, _, _] rfl rfl rfl rfl rfl (Nat.le_of_ble_eq_true rfl) (Nat.le_of_ble_eq_true rfl) rfl rfl ?_
        intro h54 M55
        replace M55 : Mem _ _ ([(p1, _)] :: [(p6, _)] :: []) _ := M55
        refine WS.op rfl rfl (WS.nil [(2, _), (3, _)] rfl ?_)
        refine WC.ret ?_
        refine ⟨[_, _], (res_cellN [_, _, _, _, _, _, _, _] rfl (M55.at 0 rfl) (Nat.le_of_ble_eq_true rfl) rfl (res_tmp rfl res_nil)), ?_⟩
        have hno : ∀ p0, GoodP2 p0 → encP p0 ≠ s := by
          intro p0 hg he
          have hs0 : s = a :: s.drop 1 := by simpa using drop_cons ha
          have hka : p0.kd = a := by rw [hs0, encP_cons] at he; exact (List.cons.inj he).1
          have htl : (encP p0).tail = s.drop 1 := by rw [hs0, encP_cons] at he; exact (List.cons.inj he).2
          obtain ⟨⟨g1, g2, g3, g4, g5⟩, hfr⟩ := id hg
          apply absurd (show (if mayPB (⟨a, (UInt64.ofNat (rvN ((s).drop 1))), (UInt64.ofNat (rvN ((((s).drop 1)).drop (rvK ((s).drop 1))))), 0, (⟨0, 0, ([]), []⟩ : Res)⟩ : Rep) then encP (⟨a, (UInt64.ofNat (rvN ((s).drop 1))), (UInt64.ofNat (rvN ((((s).drop 1)).drop (rvK ((s).drop 1))))), 0, (⟨0, 0, ([]), []⟩ : Res)⟩ : Rep) else []) = s from ?_) (by assumption)
          have hp : (⟨a, (UInt64.ofNat (rvN ((s).drop 1))), (UInt64.ofNat (rvN ((((s).drop 1)).drop (rvK ((s).drop 1))))), 0, (⟨0, 0, ([]), []⟩ : Res)⟩ : Rep) = p0 := by
            by_cases k1 : a.toNat = 1
            · first
              | (exfalso; omega)
              | exact rep_eq hka.symm (g2 (by rw [hka]; exact k1)).1.symm (g2 (by rw [hka]; exact k1)).2.symm (by first | (exfalso; omega) | exact (g3 (by rw [hka]; omega)).symm) (by first | (exfalso; omega) | exact (g5 (by rw [hka]; omega)).symm)
            have htl2 : s.drop 1 = vb p0.se.toNat ++ (vb p0.sq.toNat ++ lastP p0) := by
              rw [← htl, encP_n (by rw [hka]; exact k1)]; simp
            obtain ⟨r1, r2, r3, r4, r5, r6, r7⟩ := rv2 htl2
            have s1 : UInt64.ofNat (rvN (s.drop 1)) = p0.se := by rw [r1]; simp
            have s2 : UInt64.ofNat (rvN ((s.drop 1).drop (rvK (s.drop 1)))) = p0.sq := by rw [r5]; simp
            first
            | (exfalso; omega)
            | exact rep_eq hka.symm s1 s2 (g3 (by rw [hka]; omega)).symm (g5 (by rw [hka]; omega)).symm
            | (have l3 : lastP p0 = [p0.ld] := if_pos (by rw [hka]; omega)
               rw [l3] at r7
               first
               | exact rep_eq hka.symm s1 s2 (by rw [r7] at hb_; simpa using hb_.symm) (g5 (by rw [hka]; omega)).symm
               | (exfalso; rw [r7] at e52; cases e52; done))
            | (have l6 : lastP p0 = encR p0.r := by (unfold lastP; rw [if_neg (by rw [hka]; omega), if_pos (by rw [hka]; omega)])
               rw [l6] at r7
               rw [r7] at hC63
               exact rep_eq hka.symm s1 s2 (g3 (by rw [hka]; omega)).symm (rd_self encR_pf hfr (hC63.rd hF63)).2)
          rw [hp, if_pos (show mayPB p0 = true from decide_eq_true hg.1)]; exact he
        exact ⟨zeroP, .slice none 0 0, [], false, .nil, rfl, fitR0, rdP_no hno, (M55.bare.take 0).nils⟩
       ·
        refine WS.nil [(2, _), (4, _), (70, _)] rfl ?_
        refine WC.condF rfl ?_
        refine WC.skip ?_
        refine WC.seq ?_
        refine WC.run ?_
        refine WS.op rfl (op_lds [_, _, _, _, _, _, _, _] (M53.at 0 rfl) rfl (Nat.le_of_ble_eq_true rfl) rfl) ?_
        refine WS.st1 (M53.focus 1 rfl) [_, _, _, _, _, _, _, _] [_, _, _, _, _, _, _, _] rfl rfl rfl rfl rfl (Nat.le_of_ble_eq_true rfl) (Nat.le_of_ble_eq_true rfl) rfl rfl ?_
        intro h56 M57
        replace M57 : Mem _ _ ([(p1, _)] :: [(p6, _)] :: []) _ := M57
        refine WS.op rfl rfl (WS.nil [(2, _), (3, _)] rfl ?_)
        refine WC.ret ?_
        refine ⟨[_, _], (res_cellN [_, _, _, _, _, _, _, _] rfl (M57.at 0 rfl) (Nat.le_of_ble_eq_true rfl) rfl (res_tmp rfl res_nil)), ?_⟩
        have e70b : (if mayPB (⟨a, (UInt64.ofNat (rvN ((s).drop 1))), (UInt64.ofNat (rvN ((((s).drop 1)).drop (rvK ((s).drop 1))))), 0, (⟨0, 0, ([]), []⟩ : Res)⟩ : Rep) then encP (⟨a, (UInt64.ofNat (rvN ((s).drop 1))), (UInt64.ofNat (rvN ((((s).drop 1)).drop (rvK ((s).drop 1))))), 0, (⟨0, 0, ([]), []⟩ : Res)⟩ : Rep) else []) = s := by assumption
        have hm : MayP (⟨a, (UInt64.ofNat (rvN ((s).drop 1))), (UInt64.ofNat (rvN ((((s).drop 1)).drop (rvK ((s).drop 1))))), 0, (⟨0, 0, ([]), []⟩ : Res)⟩ : Rep) := wrP_t (by rw [e70b]; exact e13)
        have henc : encP (⟨a, (UInt64.ofNat (rvN ((s).drop 1))), (UInt64.ofNat (rvN ((((s).drop 1)).drop (rvK ((s).drop 1))))), 0, (⟨0, 0, ([]), []⟩ : Res)⟩ : Rep) = s := by rw [if_pos (show mayPB (⟨a, (UInt64.ofNat (rvN ((s).drop 1))), (UInt64.ofNat (rvN ((((s).drop 1)).drop (rvK ((s).drop 1))))), 0, (⟨0, 0, ([]), []⟩ : Res)⟩ : Rep) = true from decide_eq_true hm)] at e70b; exact e70b
        exact ⟨(⟨a, (UInt64.ofNat (rvN ((s).drop 1))), (UInt64.ofNat (rvN ((((s).drop 1)).drop (rvK ((s).drop 1))))), 0, (⟨0, 0, ([]), []⟩ : Res)⟩ : Rep), _, _, true, .nil, rfl, (by first | exact hF63 | exact fitR0), rdP_yes ⟨hm, by first | exact hF63 | exact fitR0⟩ henc, (M57.bare.take 0).nils⟩
    ·
     refine WS.op rfl rfl (WS.off rfl (WS.off rfl (WS.op rfl rfl (WS.op rfl rfl (WS.nil [(0, _), (2, _), (4, _), (5, _), (46, _)] rfl ?_)))))
     refine WC.condF rfl ?_
     refine WC.seq ?_
     refine WC.run ?_
     refine WS.op rfl rfl (WS.op rfl (op_ld (M25.bare.at 0 rfl) rfl rfl) ?_)
     refine WS.eqlN (a := (a).toNat) (b := 6) rfl rfl rfl (fun e60 => ?_) (fun e60 => ?_)
     ·
      refine WS.op rfl rfl (WS.nil [(0, _), (2, _), (4, _), (5, _), (57, _)] rfl ?_)
      refine WC.condT rfl ?_
      refine WC.run ?_
      refine WS.op rfl rfl ?_
      refine WS.call rfl rfl rfl (ReadR_ran M25.bare.here (s := ((((s).drop 1)).drop ((rvK ((s).drop 1)) + (rvK ((((s).drop 1)).drop (rvK ((s).drop 1))))))) (by first | omega | (simp only [List.length_drop]; omega))) ?_
      rintro _ h58 ⟨r63, V61, S62, ok63, O63, rfl, hF63, hy63, hn63, hC63, N59⟩
      obtain ⟨P64, rfl⟩ := O63.shape
      have M60 := M25.bare.trans N59
      replace M60 : Mem _ _ (S62 :: [(p6, _)] :: [(p1, _)] :: []) _ := M60
      refine WS.op rfl rfl (WS.op rfl rfl (WS.op rfl rfl (WS.op rfl rfl ?_)))
      refine WS.st1 (M60.focus 1 rfl) [_, _, _, _] [_, _, _, _, _, _, _, _] rfl rfl rfl rfl rfl (Nat.le_of_ble_eq_true rfl) (Nat.le_of_ble_eq_true rfl) rfl rfl ?_
      intro h65 M66
      replace M66 : Mem _ _ ([(p6, _)] :: S62 :: [(p1, _)] :: []) _ := M66
      refine WS.nil [(0, _), (2, _), (4, _)] rfl ?_
      refine WC.seq ?_
      refine WC.seq ?_
      refine WC.run ?_
      refine WS.op rfl (op_lds [_, _, _, _, _, _, _, _] (M66.at 0 rfl) rfl (Nat.le_of_ble_eq_true rfl) rfl) ?_
      refine WS.call rfl rfl rfl (WriteP_ran M66.here (p := (⟨a, (UInt64.ofNat (rvN ((s).drop 1))), (UInt64.ofNat (rvN ((((s).drop 1)).drop (rvK ((s).drop 1))))), 0, r63⟩ : Rep)) (Row.Own.sl O63 (Mem.owni M66 1 rfl)) (by first | exact hF63 | exact fitR0)) ?_
      rintro _ h67 ⟨rfl, N68⟩
      have M69 := M66.trans N68
      refine WS.op rfl rfl ?_
      refine WS.sneq (l := (if mayPB (⟨a, (UInt64.ofNat (rvN ((s).drop 1))), (UInt64.ofNat (rvN ((((s).drop 1)).drop (rvK ((s).drop 1))))), 0, r63⟩ : Rep) then encP (⟨a, (UInt64.ofNat (rvN ((s).drop 1))), (UInt64.ofNat (rvN ((((s).drop 1)).drop (rvK ((s).drop 1))))), 0, r63⟩ : Rep) else [])) (m := s) rfl rfl rfl (fun e70 => ?_) (fun e70 => ?_)
      ·
       refine WS.nil [(2, _), (4, _), (70, _)] rfl ?_
       refine WC.condT rfl ?_
       refine WC.seq ?_
       refine WC.run ?_
       refine WS.opV (.agg #[(.int .u8 (0 : Int)), (.int .u64 (0 : Int)), (.int .u64 (0 : Int)), (.int .u8 (0 : Int)), (.int .u8 (0 : Int)), (.int .u64 (0 : Int)), (.string (bs ([]))), (.slice none 0 0)]) rfl rfl rfl ?_
       refine WS.st1 (M69.focus 2 rfl) [_, _, _, _, _, _, _, _] [_, _, _, _, _, _, _, _] rfl rfl rfl rfl rfl (Nat.le_of_ble_eq_true rfl) (Nat.le_of_ble_eq_true rfl) rfl rfl ?_
       intro h70 M71
       replace M71 : Mem _ _ ([(p1, _)] :: [(p6, _)] :: S62 :: []) _ := M71
       refine WS.op rfl rfl (WS.nil [(2, _), (3, _)] rfl ?_)
       refine WC.ret ?_
       refine ⟨[_, _], (res_cellN [_, _, _, _, _, _, _, _] rfl (M71.at 0 rfl) (Nat.le_of_ble_eq_true rfl) rfl (res_tmp rfl res_nil)), ?_⟩
       have hno : ∀ p0, GoodP2 p0 → encP p0 ≠ s := by
         intro p0 hg he
         have hs0 : s = a :: s.drop 1 := by simpa using drop_cons ha
         have hka : p0.kd = a := by rw [hs0, encP_cons] at he; exact (List.cons.inj he).1
         have htl : (encP p0).tail = s.drop 1 := by rw [hs0, encP_cons] at he; exact (List.cons.inj he).2
         obtain ⟨⟨g1, g2, g3, g4, g5⟩, hfr⟩ := id hg
         apply absurd (show (if mayPB (⟨a, (UInt64.ofNat (rvN ((s).drop 1))), (UInt64.ofNat (rvN ((((s).drop 1)).drop (rvK ((s).drop 1))))), 0, r63⟩ : Rep) then encP (⟨a, (UInt64.ofNat (rvN ((s).drop 1))), (UInt64.ofNat (rvN ((((s).drop 1)).drop (rvK ((s).drop 1))))), 0, r63⟩ : Rep) else []) = s from ?_) (by assumption)
         have hp : (⟨a, (UInt64.ofNat (rvN ((s).drop 1))), (UInt64.ofNat (rvN ((((s).drop 1)).drop (rvK ((s).drop 1))))), 0, r63⟩ : Rep) = p0 := by
           by_cases k1 : a.toNat = 1
           · first
             | (exfalso; omega)
             | exact rep_eq hka.symm (g2 (by rw [hka]; exact k1)).1.symm (g2 (by rw [hka]; exact k1)).2.symm (by first | (exfalso; omega) | exact (g3 (by rw [hka]; omega)).symm) (by first | (exfalso; omega) | exact (g5 (by rw [hka]; omega)).symm)
           have htl2 : s.drop 1 = vb p0.se.toNat ++ (vb p0.sq.toNat ++ lastP p0) := by
             rw [← htl, encP_n (by rw [hka]; exact k1)]; simp
           obtain ⟨r1, r2, r3, r4, r5, r6, r7⟩ := rv2 htl2
           have s1 : UInt64.ofNat (rvN (s.drop 1)) = p0.se := by rw [r1]; simp
           have s2 : UInt64.ofNat (rvN ((s.drop 1).drop (rvK (s.drop 1)))) = p0.sq := by rw [r5]; simp
           first
           | (exfalso; omega)
           | exact rep_eq hka.symm s1 s2 (g3 (by rw [hka]; omega)).symm (g5 (by rw [hka]; omega)).symm
           | (have l3 : lastP p0 = [p0.ld] := if_pos (by rw [hka]; omega)
              rw [l3] at r7
              first
              | exact rep_eq hka.symm s1 s2 (by rw [r7] at hb_; simpa using hb_.symm) (g5 (by rw [hka]; omega)).symm
              | (exfalso; rw [r7] at e52; cases e52; done))
           | (have l6 : lastP p0 = encR p0.r := by (unfold lastP; rw [if_neg (by rw [hka]; omega), if_pos (by rw [hka]; omega)])
              rw [l6] at r7
              rw [r7] at hC63
              exact rep_eq hka.symm s1 s2 (g3 (by rw [hka]; omega)).symm (rd_self encR_pf hfr (hC63.rd hF63)).2)
         rw [hp, if_pos (show mayPB p0 = true from decide_eq_true hg.1)]; exact he
       exact ⟨zeroP, .slice none 0 0, [], false, .nil, rfl, fitR0, rdP_no hno, (M71.bare.take 0).nils⟩
      ·
       refine WS.nil [(2, _), (4, _), (70, _)] rfl ?_
       refine WC.condF rfl ?_
       refine WC.skip ?_
       refine WC.seq ?_
       refine WC.run ?_
       refine WS.op rfl (op_lds [_, _, _, _, _, _, _, _] (M69.at 0 rfl) rfl (Nat.le_of_ble_eq_true rfl) rfl) ?_
       refine WS.st1 (M69.focus 2 rfl) [_, _, _, _, _, _, _, _] [_, _, _, _, _, _, _, _] rfl rfl rfl rfl rfl (Nat.le_of_ble_eq_true rfl) (Nat.le_of_ble_eq_true rfl) rfl rfl ?_
       intro h72 M73
       replace M73 : Mem _ _ ([(p1, _)] :: [(p6, _)] :: S62 :: []) _ := M73
       refine WS.op rfl rfl (WS.nil [(2, _), (3, _)] rfl ?_)
       refine WC.ret ?_
       refine ⟨[_, _], (res_cellN [_, _, _, _, _, _, _, _] rfl (M73.at 0 rfl) (Nat.le_of_ble_eq_true rfl) rfl (res_tmp rfl res_nil)), ?_⟩
       have e70b : (if mayPB (⟨a, (UInt64.ofNat (rvN ((s).drop 1))), (UInt64.ofNat (rvN ((((s).drop 1)).drop (rvK ((s).drop 1))))), 0, r63⟩ : Rep) then encP (⟨a, (UInt64.ofNat (rvN ((s).drop 1))), (UInt64.ofNat (rvN ((((s).drop 1)).drop (rvK ((s).drop 1))))), 0, r63⟩ : Rep) else []) = s := by assumption
       have hm : MayP (⟨a, (UInt64.ofNat (rvN ((s).drop 1))), (UInt64.ofNat (rvN ((((s).drop 1)).drop (rvK ((s).drop 1))))), 0, r63⟩ : Rep) := wrP_t (by rw [e70b]; exact e13)
       have henc : encP (⟨a, (UInt64.ofNat (rvN ((s).drop 1))), (UInt64.ofNat (rvN ((((s).drop 1)).drop (rvK ((s).drop 1))))), 0, r63⟩ : Rep) = s := by rw [if_pos (show mayPB (⟨a, (UInt64.ofNat (rvN ((s).drop 1))), (UInt64.ofNat (rvN ((((s).drop 1)).drop (rvK ((s).drop 1))))), 0, r63⟩ : Rep) = true from decide_eq_true hm)] at e70b; exact e70b
       exact ⟨(⟨a, (UInt64.ofNat (rvN ((s).drop 1))), (UInt64.ofNat (rvN ((((s).drop 1)).drop (rvK ((s).drop 1))))), 0, r63⟩ : Rep), _, _, true, O63, rfl, (by first | exact hF63 | exact fitR0), rdP_yes ⟨hm, by first | exact hF63 | exact fitR0⟩ henc, ((M73.bare.focus 2 rfl).take 1)⟩
     ·
      refine WS.op rfl rfl (WS.nil [(0, _), (2, _), (4, _), (5, _), (57, _)] rfl ?_)
      refine WC.condF rfl ?_
      refine WC.skip ?_
      refine WC.seq ?_
      refine WC.seq ?_
      refine WC.run ?_
      refine WS.op rfl (op_lds [_, _, _, _, _, _, _, _] (M25.bare.at 0 rfl) rfl (Nat.le_of_ble_eq_true rfl) rfl) ?_
      refine WS.call rfl rfl rfl (WriteP_ran M25.bare.here (p := (⟨a, (UInt64.ofNat (rvN ((s).drop 1))), (UInt64.ofNat (rvN ((((s).drop 1)).drop (rvK ((s).drop 1))))), 0, (⟨0, 0, ([]), []⟩ : Res)⟩ : Rep)) Row.Sl.nil (by first | exact hF63 | exact fitR0)) ?_
      rintro _ h74 ⟨rfl, N75⟩
      have M76 := M25.bare.trans N75
      refine WS.op rfl rfl ?_
      refine WS.sneq (l := (if mayPB (⟨a, (UInt64.ofNat (rvN ((s).drop 1))), (UInt64.ofNat (rvN ((((s).drop 1)).drop (rvK ((s).drop 1))))), 0, (⟨0, 0, ([]), []⟩ : Res)⟩ : Rep) then encP (⟨a, (UInt64.ofNat (rvN ((s).drop 1))), (UInt64.ofNat (rvN ((((s).drop 1)).drop (rvK ((s).drop 1))))), 0, (⟨0, 0, ([]), []⟩ : Res)⟩ : Rep) else [])) (m := s) rfl rfl rfl (fun e70 => ?_) (fun e70 => ?_)
      ·
       refine WS.nil [(2, _), (4, _), (70, _)] rfl ?_
       refine WC.condT rfl ?_
       refine WC.seq ?_
       refine WC.run ?_
       refine WS.opV (.agg #[(.int .u8 (0 : Int)), (.int .u64 (0 : Int)), (.int .u64 (0 : Int)), (.int .u8 (0 : Int)), (.int .u8 (0 : Int)), (.int .u64 (0 : Int)), (.string (bs ([]))), (.slice none 0 0)]) rfl rfl rfl ?_
       refine WS.st1 (M76.focus 1 rfl) [_, _, _, _, _, _, _, _] [_, _, _, _, _, _, _, _] rfl rfl rfl rfl rfl (Nat.le_of_ble_eq_true rfl) (Nat.le_of_ble_eq_true rfl) rfl rfl ?_
       intro h77 M78
       replace M78 : Mem _ _ ([(p1, _)] :: [(p6, _)] :: []) _ := M78
       refine WS.op rfl rfl (WS.nil [(2, _), (3, _)] rfl ?_)
       refine WC.ret ?_
       refine ⟨[_, _], (res_cellN [_, _, _, _, _, _, _, _] rfl (M78.at 0 rfl) (Nat.le_of_ble_eq_true rfl) rfl (res_tmp rfl res_nil)), ?_⟩
       have hno : ∀ p0, GoodP2 p0 → encP p0 ≠ s := by
         intro p0 hg he
         have hs0 : s = a :: s.drop 1 := by simpa using drop_cons ha
         have hka : p0.kd = a := by rw [hs0, encP_cons] at he; exact (List.cons.inj he).1
         have htl : (encP p0).tail = s.drop 1 := by rw [hs0, encP_cons] at he; exact (List.cons.inj he).2
         obtain ⟨⟨g1, g2, g3, g4, g5⟩, hfr⟩ := id hg
         apply absurd (show (if mayPB (⟨a, (UInt64.ofNat (rvN ((s).drop 1))), (UInt64.ofNat (rvN ((((s).drop 1)).drop (rvK ((s).drop 1))))), 0, (⟨0, 0, ([]), []⟩ : Res)⟩ : Rep) then encP (⟨a, (UInt64.ofNat (rvN ((s).drop 1))), (UInt64.ofNat (rvN ((((s).drop 1)).drop (rvK ((s).drop 1))))), 0, (⟨0, 0, ([]), []⟩ : Res)⟩ : Rep) else []) = s from ?_) (by assumption)
         have hp : (⟨a, (UInt64.ofNat (rvN ((s).drop 1))), (UInt64.ofNat (rvN ((((s).drop 1)).drop (rvK ((s).drop 1))))), 0, (⟨0, 0, ([]), []⟩ : Res)⟩ : Rep) = p0 := by
           by_cases k1 : a.toNat = 1
           · first
             | (exfalso; omega)
             | exact rep_eq hka.symm (g2 (by rw [hka]; exact k1)).1.symm (g2 (by rw [hka]; exact k1)).2.symm (by first | (exfalso; omega) | exact (g3 (by rw [hka]; omega)).symm) (by first | (exfalso; omega) | exact (g5 (by rw [hka]; omega)).symm)
           have htl2 : s.drop 1 = vb p0.se.toNat ++ (vb p0.sq.toNat ++ lastP p0) := by
             rw [← htl, encP_n (by rw [hka]; exact k1)]; simp
           obtain ⟨r1, r2, r3, r4, r5, r6, r7⟩ := rv2 htl2
           have s1 : UInt64.ofNat (rvN (s.drop 1)) = p0.se := by rw [r1]; simp
           have s2 : UInt64.ofNat (rvN ((s.drop 1).drop (rvK (s.drop 1)))) = p0.sq := by rw [r5]; simp
           first
           | (exfalso; omega)
           | exact rep_eq hka.symm s1 s2 (g3 (by rw [hka]; omega)).symm (g5 (by rw [hka]; omega)).symm
           | (have l3 : lastP p0 = [p0.ld] := if_pos (by rw [hka]; omega)
              rw [l3] at r7
              first
              | exact rep_eq hka.symm s1 s2 (by rw [r7] at hb_; simpa using hb_.symm) (g5 (by rw [hka]; omega)).symm
              | (exfalso; rw [r7] at e52; cases e52; done))
           | (have l6 : lastP p0 = encR p0.r := by (unfold lastP; rw [if_neg (by rw [hka]; omega), if_pos (by rw [hka]; omega)])
              rw [l6] at r7
              rw [r7] at hC63
              exact rep_eq hka.symm s1 s2 (g3 (by rw [hka]; omega)).symm (rd_self encR_pf hfr (hC63.rd hF63)).2)
         rw [hp, if_pos (show mayPB p0 = true from decide_eq_true hg.1)]; exact he
       exact ⟨zeroP, .slice none 0 0, [], false, .nil, rfl, fitR0, rdP_no hno, (M78.bare.take 0).nils⟩
      ·
       refine WS.nil [(2, _), (4, _), (70, _)] rfl ?_
       refine WC.condF rfl ?_
       refine WC.skip ?_
       refine WC.seq ?_
       refine WC.run ?_
       refine WS.op rfl (op_lds [_, _, _, _, _, _, _, _] (M76.at 0 rfl) rfl (Nat.le_of_ble_eq_true rfl) rfl) ?_
       refine WS.st1 (M76.focus 1 rfl) [_, _, _, _, _, _, _, _] [_, _, _, _, _, _, _, _] rfl rfl rfl rfl rfl (Nat.le_of_ble_eq_true rfl) (Nat.le_of_ble_eq_true rfl) rfl rfl ?_
       intro h79 M80
       replace M80 : Mem _ _ ([(p1, _)] :: [(p6, _)] :: []) _ := M80
       refine WS.op rfl rfl (WS.nil [(2, _), (3, _)] rfl ?_)
       refine WC.ret ?_
       refine ⟨[_, _], (res_cellN [_, _, _, _, _, _, _, _] rfl (M80.at 0 rfl) (Nat.le_of_ble_eq_true rfl) rfl (res_tmp rfl res_nil)), ?_⟩
       have e70b : (if mayPB (⟨a, (UInt64.ofNat (rvN ((s).drop 1))), (UInt64.ofNat (rvN ((((s).drop 1)).drop (rvK ((s).drop 1))))), 0, (⟨0, 0, ([]), []⟩ : Res)⟩ : Rep) then encP (⟨a, (UInt64.ofNat (rvN ((s).drop 1))), (UInt64.ofNat (rvN ((((s).drop 1)).drop (rvK ((s).drop 1))))), 0, (⟨0, 0, ([]), []⟩ : Res)⟩ : Rep) else []) = s := by assumption
       have hm : MayP (⟨a, (UInt64.ofNat (rvN ((s).drop 1))), (UInt64.ofNat (rvN ((((s).drop 1)).drop (rvK ((s).drop 1))))), 0, (⟨0, 0, ([]), []⟩ : Res)⟩ : Rep) := wrP_t (by rw [e70b]; exact e13)
       have henc : encP (⟨a, (UInt64.ofNat (rvN ((s).drop 1))), (UInt64.ofNat (rvN ((((s).drop 1)).drop (rvK ((s).drop 1))))), 0, (⟨0, 0, ([]), []⟩ : Res)⟩ : Rep) = s := by rw [if_pos (show mayPB (⟨a, (UInt64.ofNat (rvN ((s).drop 1))), (UInt64.ofNat (rvN ((((s).drop 1)).drop (rvK ((s).drop 1))))), 0, (⟨0, 0, ([]), []⟩ : Res)⟩ : Rep) = true from decide_eq_true hm)] at e70b; exact e70b
       exact ⟨(⟨a, (UInt64.ofNat (rvN ((s).drop 1))), (UInt64.ofNat (rvN ((((s).drop 1)).drop (rvK ((s).drop 1))))), 0, (⟨0, 0, ([]), []⟩ : Res)⟩ : Rep), _, _, true, .nil, rfl, (by first | exact hF63 | exact fitR0), rdP_yes ⟨hm, by first | exact hF63 | exact fitR0⟩ henc, (M80.bare.take 0).nils⟩
   ·
    refine WS.nil [(0, _), (2, _), (4, _), (5, _), (22, _)] rfl ?_
    refine WC.condF rfl ?_
    refine WC.skip ?_
    refine WC.seq ?_
    refine WC.block ?_
    refine WC.seq ?_
    refine WC.run ?_
    refine WS.op rfl rfl (WS.op rfl (op_ld (M10.at 0 rfl) rfl rfl) ?_)
    refine WS.eqlN (a := (a).toNat) (b := 3) rfl rfl rfl (fun e49 => ?_) (fun e49 => ?_)
    ·
     refine WS.op rfl rfl (WS.op rfl rfl ?_)
     refine WS.sneq (l := ((s).drop 1)) (m := []) rfl rfl rfl (fun e52 => ?_) (fun e52 => ?_)
     ·
      refine WS.op rfl rfl (WS.op rfl rfl (WS.nil [(0, _), (2, _), (4, _), (5, _), (46, _)] rfl ?_))
      refine WC.condT rfl ?_
      refine WC.run ?_
      refine WS.op rfl rfl ?_
      obtain ⟨b_, hb_⟩ : ∃ c, (((s).drop 1))[0]? = some c := ⟨_, List.getElem?_eq_getElem (show 0 < (((s).drop 1)).length by exact List.length_pos_iff.2 e52)⟩
      refine WS.op rfl (op_ixS 0 rfl rfl hb_) (WS.op rfl rfl ?_)
      refine WS.st1 (M10.focus 0 rfl) [_] [_, _, _, _, _, _, _, _] rfl rfl rfl rfl rfl (Nat.le_of_ble_eq_true rfl) (Nat.le_of_ble_eq_true rfl) rfl rfl ?_
      intro h81 M82
      replace M82 : Mem _ _ ([(p6, _)] :: [(p1, _)] :: []) _ := M82
      refine WS.nil [(0, _), (2, _), (4, _)] rfl ?_
      refine WC.seq ?_
      refine WC.seq ?_
      refine WC.run ?_
      refine WS.op rfl (op_lds [_, _, _, _, _, _, _, _] (M82.at 0 rfl) rfl (Nat.le_of_ble_eq_true rfl) rfl) ?_
      refine WS.call rfl rfl rfl (WriteP_ran M82.here (p := (⟨a, 0, 0, b_, (⟨0, 0, ([]), []⟩ : Res)⟩ : Rep)) Row.Sl.nil (by first | exact hF63 | exact fitR0)) ?_
      rintro _ h83 ⟨rfl, N84⟩
      have M85 := M82.trans N84
      refine WS.op rfl rfl ?_
      refine WS.sneq (l := (if mayPB (⟨a, 0, 0, b_, (⟨0, 0, ([]), []⟩ : Res)⟩ : Rep) then encP (⟨a, 0, 0, b_, (⟨0, 0, ([]), []⟩ : Res)⟩ : Rep) else [])) (m := s) rfl rfl rfl (fun e70 => ?_) (fun e70 => ?_)
      ·
       refine WS.nil [(2, _), (4, _), (70, _)] rfl ?_
       refine WC.condT rfl ?_
       refine WC.seq ?_
       refine WC.run ?_
       refine WS.opV (.agg #[(.int .u8 (0 : Int)), (.int .u64 (0 : Int)), (.int .u64 (0 : Int)), (.int .u8 (0 : Int)), (.int .u8 (0 : Int)), (.int .u64 (0 : Int)), (.string (bs ([]))), (.slice none 0 0)]) rfl rfl rfl ?_
       refine WS.st1 (M85.focus 1 rfl) [_, _, _, _, _, _, _, _] [_, _, _, _, _, _, _, _] rfl rfl rfl rfl rfl (Nat.le_of_ble_eq_true rfl) (Nat.le_of_ble_eq_true rfl) rfl rfl ?_
       intro h86 M87
       replace M87 : Mem _ _ ([(p1, _)] :: [(p6, _)] :: []) _ := M87
       refine WS.op rfl rfl (WS.nil [(2, _), (3, _)] rfl ?_)
       refine WC.ret ?_
       refine ⟨[_, _], (res_cellN [_, _, _, _, _, _, _, _] rfl (M87.at 0 rfl) (Nat.le_of_ble_eq_true rfl) rfl (res_tmp rfl res_nil)), ?_⟩
       have hno : ∀ p0, GoodP2 p0 → encP p0 ≠ s := by
         intro p0 hg he
         have hs0 : s = a :: s.drop 1 := by simpa using drop_cons ha
         have hka : p0.kd = a := by rw [hs0, encP_cons] at he; exact (List.cons.inj he).1
         have htl : (encP p0).tail = s.drop 1 := by rw [hs0, encP_cons] at he; exact (List.cons.inj he).2
         obtain ⟨⟨g1, g2, g3, g4, g5⟩, hfr⟩ := id hg
         apply absurd (show (if mayPB (⟨a, 0, 0, b_, (⟨0, 0, ([]), []⟩ : Res)⟩ : Rep) then encP (⟨a, 0, 0, b_, (⟨0, 0, ([]), []⟩ : Res)⟩ : Rep) else []) = s from ?_) (by assumption)
         have hp : (⟨a, 0, 0, b_, (⟨0, 0, ([]), []⟩ : Res)⟩ : Rep) = p0 := by
           by_cases k1 : a.toNat = 1
           · first
             | (exfalso; omega)
             | exact rep_eq hka.symm (g2 (by rw [hka]; exact k1)).1.symm (g2 (by rw [hka]; exact k1)).2.symm (by first | (exfalso; omega) | exact (g3 (by rw [hka]; omega)).symm) (by first | (exfalso; omega) | exact (g5 (by rw [hka]; omega)).symm)
           have htl2 : s.drop 1 = vb p0.se.toNat ++ (vb p0.sq.toNat ++ lastP p0) := by
             rw [← htl, encP_n (by rw [hka]; exact k1)]; simp
           obtain ⟨r1, r2, r3, r4, r5, r6, r7⟩ := rv2 htl2
           have s1 : UInt64.ofNat (rvN (s.drop 1)) = p0.se := by rw [r1]; simp
           have s2 : UInt64.ofNat (rvN ((s.drop 1).drop (rvK (s.drop 1)))) = p0.sq := by rw [r5]; simp
           first
           | (exfalso; omega)
           | exact rep_eq hka.symm s1 s2 (g3 (by rw [hka]; omega)).symm (g5 (by rw [hka]; omega)).symm
           | (have l3 : lastP p0 = [p0.ld] := if_pos (by rw [hka]; omega)
              rw [l3] at r7
              first
              | exact rep_eq hka.symm s1 s2 (by rw [r7] at hb_; simpa using hb_.symm) (g5 (by rw [hka]; omega)).symm
              | (exfalso; rw [r7] at e52; cases e52; done))
           | (have l6 : lastP p0 = encR p0.r := by (unfold lastP; rw [if_neg (by rw [hka]; omega), if_pos (by rw [hka]; omega)])
              rw [l6] at r7
              rw [r7] at hC63
              exact rep_eq hka.symm s1 s2 (g3 (by rw [hka]; omega)).symm (rd_self encR_pf hfr (hC63.rd hF63)).2)
         rw [hp, if_pos (show mayPB p0 = true from decide_eq_true hg.1)]; exact he
       exact ⟨zeroP, .slice none 0 0, [], false, .nil, rfl, fitR0, rdP_no hno, (M87.bare.take 0).nils⟩
      ·
       refine WS.nil [(2, _), (4, _), (70, _)] rfl ?_
       refine WC.condF rfl ?_
       refine WC.skip ?_
       refine WC.seq ?_
       refine WC.run ?_
       refine WS.op rfl (op_lds [_, _, _, _, _, _, _, _] (M85.at 0 rfl) rfl (Nat.le_of_ble_eq_true rfl) rfl) ?_
       refine WS.st1 (M85.focus 1 rfl) [_, _, _, _, _, _, _, _] [_, _, _, _, _, _, _, _] rfl rfl rfl rfl rfl (Nat.le_of_ble_eq_true rfl) (Nat.le_of_ble_eq_true rfl) rfl rfl ?_
       intro h88 M89
       replace M89 : Mem _ _ ([(p1, _)] :: [(p6, _)] :: []) _ := M89
       refine WS.op rfl rfl (WS.nil [(2, _), (3, _)] rfl ?_)
       refine WC.ret ?_
       refine ⟨[_, _], (res_cellN [_, _, _, _, _, _, _, _] rfl (M89.at 0 rfl) (Nat.le_of_ble_eq_true rfl) rfl (res_tmp rfl res_nil)), ?_⟩
       have e70b : (if mayPB (⟨a, 0, 0, b_, (⟨0, 0, ([]), []⟩ : Res)⟩ : Rep) then encP (⟨a, 0, 0, b_, (⟨0, 0, ([]), []⟩ : Res)⟩ : Rep) else []) = s := by assumption
       have hm : MayP (⟨a, 0, 0, b_, (⟨0, 0, ([]), []⟩ : Res)⟩ : Rep) := wrP_t (by rw [e70b]; exact e13)
       have henc : encP (⟨a, 0, 0, b_, (⟨0, 0, ([]), []⟩ : Res)⟩ : Rep) = s := by rw [if_pos (show mayPB (⟨a, 0, 0, b_, (⟨0, 0, ([]), []⟩ : Res)⟩ : Rep) = true from decide_eq_true hm)] at e70b; exact e70b
       exact ⟨(⟨a, 0, 0, b_, (⟨0, 0, ([]), []⟩ : Res)⟩ : Rep), _, _, true, .nil, rfl, (by first | exact hF63 | exact fitR0), rdP_yes ⟨hm, by first | exact hF63 | exact fitR0⟩ henc, (M89.bare.take 0).nils⟩
     ·
      refine WS.op rfl rfl (WS.op rfl rfl (WS.nil [(0, _), (2, _), (4, _), (5, _), (46, _)] rfl ?_))
      refine WC.condF rfl ?_
      refine WC.seq ?_
      refine WC.run ?_
      refine WS.op rfl rfl (WS.op rfl (op_ld (M10.at 0 rfl) rfl rfl) ?_)
      refine WS.eqlN (a := (a).toNat) (b := 6) rfl rfl rfl (fun e60 => ?_) (fun e60 => ?_)
      ·
       refine WS.op rfl rfl (WS.nil [(0, _), (2, _), (4, _), (5, _), (57, _)] rfl ?_)
       refine WC.condT rfl ?_
       refine WC.run ?_
       refine WS.op rfl rfl ?_
       refine WS.call rfl rfl rfl (ReadR_ran M10.here (s := ((s).drop 1)) (by first | omega | (simp only [List.length_drop]; omega))) ?_
       rintro _ h90 ⟨r63, V93, S94, ok63, O95, rfl, hF63, hy63, hn63, hC63, N91⟩
       obtain ⟨P96, rfl⟩ := O95.shape
       have M92 := M10.trans N91
       replace M92 : Mem _ _ (S94 :: [(p6, _)] :: [(p1, _)] :: []) _ := M92
       refine WS.op rfl rfl (WS.op rfl rfl (WS.op rfl rfl (WS.op rfl rfl ?_)))
       refine WS.st1 (M92.focus 1 rfl) [_, _, _, _] [_, _, _, _, _, _, _, _] rfl rfl rfl rfl rfl (Nat.le_of_ble_eq_true rfl) (Nat.le_of_ble_eq_true rfl) rfl rfl ?_
       intro h97 M98
       replace M98 : Mem _ _ ([(p6, _)] :: S94 :: [(p1, _)] :: []) _ := M98
       refine WS.nil [(0, _), (2, _), (4, _)] rfl ?_
       refine WC.seq ?_
       refine WC.seq ?_
       refine WC.run ?_
       refine WS.op rfl (op_lds [_, _, _, _, _, _, _, _] (M98.at 0 rfl) rfl (Nat.le_of_ble_eq_true rfl) rfl) ?_
       refine WS.call rfl rfl rfl (WriteP_ran M98.here (p := (⟨a, 0, 0, 0, r63⟩ : Rep)) (Row.Own.sl O95 (Mem.owni M98 1 rfl)) (by first | exact hF63 | exact fitR0)) ?_
       rintro _ h99 ⟨rfl, N100⟩
       have M101 := M98.trans N100
       refine WS.op rfl rfl ?_
       refine WS.sneq (l := (if mayPB (⟨a, 0, 0, 0, r63⟩ : Rep) then encP (⟨a, 0, 0, 0, r63⟩ : Rep) else [])) (m := s) rfl rfl rfl (fun e70 => ?_) (fun e70 => ?_)
       ·
        refine WS.nil [(2, _), (4, _), (70, _)] rfl ?_
        refine WC.condT rfl ?_
        refine WC.seq ?_
        refine WC.run ?_
        refine WS.opV (.agg #[(.int .u8 (0 : Int)), (.int .u64 (0 : Int)), (.int .u64 (0 : Int)), (.int .u8 (0 : Int)), (.int .u8 (0 : Int)), (.int .u64 (0 : Int)), (.string (bs ([]))), (.slice none 0 0)]) rfl rfl rfl ?_
        refine WS.st1 (M101.focus 2 rfl) [_, _, _, _, _, _, _, _] [_, _, _, _, _, _, _, _] rfl rfl rfl rfl rfl (Nat.le_of_ble_eq_true rfl) (Nat.le_of_ble_eq_true rfl) rfl rfl ?_
        intro h102 M103
        replace M103 : Mem _ _ ([(p1, _)] :: [(p6, _)] :: S94 :: []) _ := M103
        refine WS.op rfl rfl (WS.nil [(2, _), (3, _)] rfl ?_)
        refine WC.ret ?_
        refine ⟨[_, _], (res_cellN [_, _, _, _, _, _, _, _] rfl (M103.at 0 rfl) (Nat.le_of_ble_eq_true rfl) rfl (res_tmp rfl res_nil)), ?_⟩
        have hno : ∀ p0, GoodP2 p0 → encP p0 ≠ s := by
          intro p0 hg he
          have hs0 : s = a :: s.drop 1 := by simpa using drop_cons ha
          have hka : p0.kd = a := by rw [hs0, encP_cons] at he; exact (List.cons.inj he).1
          have htl : (encP p0).tail = s.drop 1 := by rw [hs0, encP_cons] at he; exact (List.cons.inj he).2
          obtain ⟨⟨g1, g2, g3, g4, g5⟩, hfr⟩ := id hg
          apply absurd (show (if mayPB (⟨a, 0, 0, 0, r63⟩ : Rep) then encP (⟨a, 0, 0, 0, r63⟩ : Rep) else []) = s from ?_) (by assumption)
          have hp : (⟨a, 0, 0, 0, r63⟩ : Rep) = p0 := by
            by_cases k1 : a.toNat = 1
            · first
              | (exfalso; omega)
              | exact rep_eq hka.symm (g2 (by rw [hka]; exact k1)).1.symm (g2 (by rw [hka]; exact k1)).2.symm (by first | (exfalso; omega) | exact (g3 (by rw [hka]; omega)).symm) (by first | (exfalso; omega) | exact (g5 (by rw [hka]; omega)).symm)
            have htl2 : s.drop 1 = vb p0.se.toNat ++ (vb p0.sq.toNat ++ lastP p0) := by
              rw [← htl, encP_n (by rw [hka]; exact k1)]; simp
            obtain ⟨r1, r2, r3, r4, r5, r6, r7⟩ := rv2 htl2
            have s1 : UInt64.ofNat (rvN (s.drop 1)) = p0.se := by rw [r1]; simp
            have s2 : UInt64.ofNat (rvN ((s.drop 1).drop (rvK (s.drop 1)))) = p0.sq := by rw [r5]; simp
            first
            | (exfalso; omega)
            | exact rep_eq hka.symm s1 s2 (g3 (by rw [hka]; omega)).symm (g5 (by rw [hka]; omega)).symm
            | (have l3 : lastP p0 = [p0.ld] := if_pos (by rw [hka]; omega)
               rw [l3] at r7
               first
               | exact rep_eq hka.symm s1 s2 (by rw [r7] at hb_; simpa using hb_.symm) (g5 (by rw [hka]; omega)).symm
               | (exfalso; rw [r7] at e52; cases e52; done))
            | (have l6 : lastP p0 = encR p0.r := by (unfold lastP; rw [if_neg (by rw [hka]; omega), if_pos (by rw [hka]; omega)])
               rw [l6] at r7
               rw [r7] at hC63
               exact rep_eq hka.symm s1 s2 (g3 (by rw [hka]; omega)).symm (rd_self encR_pf hfr (hC63.rd hF63)).2)
          rw [hp, if_pos (show mayPB p0 = true from decide_eq_true hg.1)]; exact he
        exact ⟨zeroP, .slice none 0 0, [], false, .nil, rfl, fitR0, rdP_no hno, (M103.bare.take 0).nils⟩
       ·
        refine WS.nil [(2, _), (4, _), (70, _)] rfl ?_
        refine WC.condF rfl ?_
        refine WC.skip ?_
        refine WC.seq ?_
        refine WC.run ?_
        refine WS.op rfl (op_lds [_, _, _, _, _, _, _, _] (M101.at 0 rfl) rfl (Nat.le_of_ble_eq_true rfl) rfl) ?_
        refine WS.st1 (M101.focus 2 rfl) [_, _, _, _, _, _, _, _] [_, _, _, _, _, _, _, _] rfl rfl rfl rfl rfl (Nat.le_of_ble_eq_true rfl) (Nat.le_of_ble_eq_true rfl) rfl rfl ?_
        intro h104 M105
        replace M105 : Mem _ _ ([(p1, _)] :: [(p6, _)] :: S94 :: []) _ := M105
        refine WS.op rfl rfl (WS.nil [(2, _), (3, _)] rfl ?_)
        refine WC.ret ?_
        refine ⟨[_, _], (res_cellN [_, _, _, _, _, _, _, _] rfl (M105.at 0 rfl) (Nat.le_of_ble_eq_true rfl) rfl (res_tmp rfl res_nil)), ?_⟩
        have e70b : (if mayPB (⟨a, 0, 0, 0, r63⟩ : Rep) then encP (⟨a, 0, 0, 0, r63⟩ : Rep) else []) = s := by assumption
        have hm : MayP (⟨a, 0, 0, 0, r63⟩ : Rep) := wrP_t (by rw [e70b]; exact e13)
        have henc : encP (⟨a, 0, 0, 0, r63⟩ : Rep) = s := by rw [if_pos (show mayPB (⟨a, 0, 0, 0, r63⟩ : Rep) = true from decide_eq_true hm)] at e70b; exact e70b
        exact ⟨(⟨a, 0, 0, 0, r63⟩ : Rep), _, _, true, O95, rfl, (by first | exact hF63 | exact fitR0), rdP_yes ⟨hm, by first | exact hF63 | exact fitR0⟩ henc, ((M105.bare.focus 2 rfl).take 1)⟩
      ·
       refine WS.op rfl rfl (WS.nil [(0, _), (2, _), (4, _), (5, _), (57, _)] rfl ?_)
       refine WC.condF rfl ?_
       refine WC.skip ?_
       refine WC.seq ?_
       refine WC.seq ?_
       refine WC.run ?_
       refine WS.op rfl (op_lds [_, _, _, _, _, _, _, _] (M10.at 0 rfl) rfl (Nat.le_of_ble_eq_true rfl) rfl) ?_
       refine WS.call rfl rfl rfl (WriteP_ran M10.here (p := (⟨a, 0, 0, 0, (⟨0, 0, ([]), []⟩ : Res)⟩ : Rep)) Row.Sl.nil (by first | exact hF63 | exact fitR0)) ?_
       rintro _ h106 ⟨rfl, N107⟩
       have M108 := M10.trans N107
       refine WS.op rfl rfl ?_
       refine WS.sneq (l := (if mayPB (⟨a, 0, 0, 0, (⟨0, 0, ([]), []⟩ : Res)⟩ : Rep) then encP (⟨a, 0, 0, 0, (⟨0, 0, ([]), []⟩ : Res)⟩ : Rep) else [])) (m := s) rfl rfl rfl (fun e70 => ?_) (fun e70 => ?_)
       ·
        refine WS.nil [(2, _), (4, _), (70, _)] rfl ?_
        refine WC.condT rfl ?_
        refine WC.seq ?_
        refine WC.run ?_
        refine WS.opV (.agg #[(.int .u8 (0 : Int)), (.int .u64 (0 : Int)), (.int .u64 (0 : Int)), (.int .u8 (0 : Int)), (.int .u8 (0 : Int)), (.int .u64 (0 : Int)), (.string (bs ([]))), (.slice none 0 0)]) rfl rfl rfl ?_
        refine WS.st1 (M108.focus 1 rfl) [_, _, _, _, _, _, _, _] [_, _, _, _, _, _, _, _] rfl rfl rfl rfl rfl (Nat.le_of_ble_eq_true rfl) (Nat.le_of_ble_eq_true rfl) rfl rfl ?_
        intro h109 M110
        replace M110 : Mem _ _ ([(p1, _)] :: [(p6, _)] :: []) _ := M110
        refine WS.op rfl rfl (WS.nil [(2, _), (3, _)] rfl ?_)
        refine WC.ret ?_
        refine ⟨[_, _], (res_cellN [_, _, _, _, _, _, _, _] rfl (M110.at 0 rfl) (Nat.le_of_ble_eq_true rfl) rfl (res_tmp rfl res_nil)), ?_⟩
        have hno : ∀ p0, GoodP2 p0 → encP p0 ≠ s := by
          intro p0 hg he
          have hs0 : s = a :: s.drop 1 := by simpa using drop_cons ha
          have hka : p0.kd = a := by rw [hs0, encP_cons] at he; exact (List.cons.inj he).1
          have htl : (encP p0).tail = s.drop 1 := by rw [hs0, encP_cons] at he; exact (List.cons.inj he).2
          obtain ⟨⟨g1, g2, g3, g4, g5⟩, hfr⟩ := id hg
          apply absurd (show (if mayPB (⟨a, 0, 0, 0, (⟨0, 0, ([]), []⟩ : Res)⟩ : Rep) then encP (⟨a, 0, 0, 0, (⟨0, 0, ([]), []⟩ : Res)⟩ : Rep) else []) = s from ?_) (by assumption)
          have hp : (⟨a, 0, 0, 0, (⟨0, 0, ([]), []⟩ : Res)⟩ : Rep) = p0 := by
            by_cases k1 : a.toNat = 1
            · first
              | (exfalso; omega)
              | exact rep_eq hka.symm (g2 (by rw [hka]; exact k1)).1.symm (g2 (by rw [hka]; exact k1)).2.symm (by first | (exfalso; omega) | exact (g3 (by rw [hka]; omega)).symm) (by first | (exfalso; omega) | exact (g5 (by rw [hka]; omega)).symm)
            have htl2 : s.drop 1 = vb p0.se.toNat ++ (vb p0.sq.toNat ++ lastP p0) := by
              rw [← htl, encP_n (by rw [hka]; exact k1)]; simp
            obtain ⟨r1, r2, r3, r4, r5, r6, r7⟩ := rv2 htl2
            have s1 : UInt64.ofNat (rvN (s.drop 1)) = p0.se := by rw [r1]; simp
            have s2 : UInt64.ofNat (rvN ((s.drop 1).drop (rvK (s.drop 1)))) = p0.sq := by rw [r5]; simp
            first
            | (exfalso; omega)
            | exact rep_eq hka.symm s1 s2 (g3 (by rw [hka]; omega)).symm (g5 (by rw [hka]; omega)).symm
            | (have l3 : lastP p0 = [p0.ld] := if_pos (by rw [hka]; omega)
               rw [l3] at r7
               first
               | exact rep_eq hka.symm s1 s2 (by rw [r7] at hb_; simpa using hb_.symm) (g5 (by rw [hka]; omega)).symm
               | (exfalso; rw [r7] at e52; cases e52; done))
            | (have l6 : lastP p0 = encR p0.r := by (unfold lastP; rw [if_neg (by rw [hka]; omega), if_pos (by rw [hka]; omega)])
               rw [l6] at r7
               rw [r7] at hC63
               exact rep_eq hka.symm s1 s2 (g3 (by rw [hka]; omega)).symm (rd_self encR_pf hfr (hC63.rd hF63)).2)
          rw [hp, if_pos (show mayPB p0 = true from decide_eq_true hg.1)]; exact he
        exact ⟨zeroP, .slice none 0 0, [], false, .nil, rfl, fitR0, rdP_no hno, (M110.bare.take 0).nils⟩
       ·
        refine WS.nil [(2, _), (4, _), (70, _)] rfl ?_
        refine WC.condF rfl ?_
        refine WC.skip ?_
        refine WC.seq ?_
        refine WC.run ?_
        refine WS.op rfl (op_lds [_, _, _, _, _, _, _, _] (M108.at 0 rfl) rfl (Nat.le_of_ble_eq_true rfl) rfl) ?_
        refine WS.st1 (M108.focus 1 rfl) [_, _, _, _, _, _, _, _] [_, _, _, _, _, _, _, _] rfl rfl rfl rfl rfl (Nat.le_of_ble_eq_true rfl) (Nat.le_of_ble_eq_true rfl) rfl rfl ?_
        intro h111 M112
        replace M112 : Mem _ _ ([(p1, _)] :: [(p6, _)] :: []) _ := M112
        refine WS.op rfl rfl (WS.nil [(2, _), (3, _)] rfl ?_)
        refine WC.ret ?_
        refine ⟨[_, _], (res_cellN [_, _, _, _, _, _, _, _] rfl (M112.at 0 rfl) (Nat.le_of_ble_eq_true rfl) rfl (res_tmp rfl res_nil)), ?_⟩
        have e70b : (if mayPB (⟨a, 0, 0, 0, (⟨0, 0, ([]), []⟩ : Res)⟩ : Rep) then encP (⟨a, 0, 0, 0, (⟨0, 0, ([]), []⟩ : Res)⟩ : Rep) else []) = s := by assumption
        have hm : MayP (⟨a, 0, 0, 0, (⟨0, 0, ([]), []⟩ : Res)⟩ : Rep) := wrP_t (by rw [e70b]; exact e13)
        have henc : encP (⟨a, 0, 0, 0, (⟨0, 0, ([]), []⟩ : Res)⟩ : Rep) = s := by rw [if_pos (show mayPB (⟨a, 0, 0, 0, (⟨0, 0, ([]), []⟩ : Res)⟩ : Rep) = true from decide_eq_true hm)] at e70b; exact e70b
        exact ⟨(⟨a, 0, 0, 0, (⟨0, 0, ([]), []⟩ : Res)⟩ : Rep), _, _, true, .nil, rfl, (by first | exact hF63 | exact fitR0), rdP_yes ⟨hm, by first | exact hF63 | exact fitR0⟩ henc, (M112.bare.take 0).nils⟩
    ·
     refine WS.op rfl rfl (WS.off rfl (WS.off rfl (WS.op rfl rfl (WS.op rfl rfl (WS.nil [(0, _), (2, _), (4, _), (5, _), (46, _)] rfl ?_)))))
     refine WC.condF rfl ?_
     refine WC.seq ?_
     refine WC.run ?_
     refine WS.op rfl rfl (WS.op rfl (op_ld (M10.at 0 rfl) rfl rfl) ?_)
     refine WS.eqlN (a := (a).toNat) (b := 6) rfl rfl rfl (fun e60 => ?_) (fun e60 => ?_)
     ·
      refine WS.op rfl rfl (WS.nil [(0, _), (2, _), (4, _), (5, _), (57, _)] rfl ?_)
      refine WC.condT rfl ?_
      refine WC.run ?_
      refine WS.op rfl rfl ?_
      refine WS.call rfl rfl rfl (ReadR_ran M10.here (s := ((s).drop 1)) (by first | omega | (simp only [List.length_drop]; omega))) ?_
      rintro _ h113 ⟨r63, V116, S117, ok63, O118, rfl, hF63, hy63, hn63, hC63, N114⟩
      obtain ⟨P119, rfl⟩ := O118.shape
      have M115 := M10.trans N114
      replace M115 : Mem _ _ (S117 :: [(p6, _)] :: [(p1, _)] :: []) _ := M115
      refine WS.op rfl rfl (WS.op rfl rfl (WS.op rfl rfl (WS.op rfl rfl ?_)))
      refine WS.st1 (M115.focus 1 rfl) [_, _, _, _] [_, _, _, _, _, _, _, _] rfl rfl rfl rfl rfl (Nat.le_of_ble_eq_true rfl) (Nat.le_of_ble_eq_true rfl) rfl rfl ?_
      intro h120 M121
      replace M121 : Mem _ _ ([(p6, _)] :: S117 :: [(p1, _)] :: []) _ := M121
      refine WS.nil [(0, _), (2, _), (4, _)] rfl ?_
      refine WC.seq ?_
      refine WC.seq ?_
      refine WC.run ?_
      refine WS.op rfl (op_lds [_, _, _, _, _, _, _, _] (M121.at 0 rfl) rfl (Nat.le_of_ble_eq_true rfl) rfl) ?_
      refine WS.call rfl rfl rfl (WriteP_ran M121.here (p := (⟨a, 0, 0, 0, r63⟩ : Rep)) (Row.Own.sl O118 (Mem.owni M121 1 rfl)) (by first | exact hF63 | exact fitR0)) ?_
      rintro _ h122 ⟨rfl, N123⟩
      have M124 := M121.trans N123
      refine WS.op rfl rfl ?_
      refine WS.sneq (l := (if mayPB (⟨a, 0, 0, 0, r63⟩ : Rep) then encP (⟨a, 0, 0, 0, r63⟩ : Rep) else [])) (m := s) rfl rfl rfl (fun e70 => ?_) (fun e70 => ?_)
      ·
       refine WS.nil [(2, _), (4, _), (70, _)] rfl ?_
       refine WC.condT rfl ?_
       refine WC.seq ?_
       refine WC.run ?_
       refine WS.opV (.agg #[(.int .u8 (0 : Int)), (.int .u64 (0 : Int)), (.int .u64 (0 : Int)), (.int .u8 (0 : Int)), (.int .u8 (0 : Int)), (.int .u64 (0 : Int)), (.string (bs ([]))), (.slice none 0 0)]) rfl rfl rfl ?_
       refine WS.st1 (M124.focus 2 rfl) [_, _, _, _, _, _, _, _] [_, _, _, _, _, _, _, _] rfl rfl rfl rfl rfl (Nat.le_of_ble_eq_true rfl) (Nat.le_of_ble_eq_true rfl) rfl rfl ?_
       intro h125 M126
       replace M126 : Mem _ _ ([(p1, _)] :: [(p6, _)] :: S117 :: []) _ := M126
       refine WS.op rfl rfl (WS.nil [(2, _), (3, _)] rfl ?_)
       refine WC.ret ?_
       refine ⟨[_, _], (res_cellN [_, _, _, _, _, _, _, _] rfl (M126.at 0 rfl) (Nat.le_of_ble_eq_true rfl) rfl (res_tmp rfl res_nil)), ?_⟩
       have hno : ∀ p0, GoodP2 p0 → encP p0 ≠ s := by
         intro p0 hg he
         have hs0 : s = a :: s.drop 1 := by simpa using drop_cons ha
         have hka : p0.kd = a := by rw [hs0, encP_cons] at he; exact (List.cons.inj he).1
         have htl : (encP p0).tail = s.drop 1 := by rw [hs0, encP_cons] at he; exact (List.cons.inj he).2
         obtain ⟨⟨g1, g2, g3, g4, g5⟩, hfr⟩ := id hg
         apply absurd (show (if mayPB (⟨a, 0, 0, 0, r63⟩ : Rep) then encP (⟨a, 0, 0, 0, r63⟩ : Rep) else []) = s from ?_) (by assumption)
         have hp : (⟨a, 0, 0, 0, r63⟩ : Rep) = p0 := by
           by_cases k1 : a.toNat = 1
           · first
             | (exfalso; omega)
             | exact rep_eq hka.symm (g2 (by rw [hka]; exact k1)).1.symm (g2 (by rw [hka]; exact k1)).2.symm (by first | (exfalso; omega) | exact (g3 (by rw [hka]; omega)).symm) (by first | (exfalso; omega) | exact (g5 (by rw [hka]; omega)).symm)
           have htl2 : s.drop 1 = vb p0.se.toNat ++ (vb p0.sq.toNat ++ lastP p0) := by
             rw [← htl, encP_n (by rw [hka]; exact k1)]; simp
           obtain ⟨r1, r2, r3, r4, r5, r6, r7⟩ := rv2 htl2
           have s1 : UInt64.ofNat (rvN (s.drop 1)) = p0.se := by rw [r1]; simp
           have s2 : UInt64.ofNat (rvN ((s.drop 1).drop (rvK (s.drop 1)))) = p0.sq := by rw [r5]; simp
           first
           | (exfalso; omega)
           | exact rep_eq hka.symm s1 s2 (g3 (by rw [hka]; omega)).symm (g5 (by rw [hka]; omega)).symm
           | (have l3 : lastP p0 = [p0.ld] := if_pos (by rw [hka]; omega)
              rw [l3] at r7
              first
              | exact rep_eq hka.symm s1 s2 (by rw [r7] at hb_; simpa using hb_.symm) (g5 (by rw [hka]; omega)).symm
              | (exfalso; rw [r7] at e52; cases e52; done))
           | (have l6 : lastP p0 = encR p0.r := by (unfold lastP; rw [if_neg (by rw [hka]; omega), if_pos (by rw [hka]; omega)])
              rw [l6] at r7
              rw [r7] at hC63
              exact rep_eq hka.symm s1 s2 (g3 (by rw [hka]; omega)).symm (rd_self encR_pf hfr (hC63.rd hF63)).2)
         rw [hp, if_pos (show mayPB p0 = true from decide_eq_true hg.1)]; exact he
       exact ⟨zeroP, .slice none 0 0, [], false, .nil, rfl, fitR0, rdP_no hno, (M126.bare.take 0).nils⟩
      ·
       refine WS.nil [(2, _), (4, _), (70, _)] rfl ?_
       refine WC.condF rfl ?_
       refine WC.skip ?_
       refine WC.seq ?_
       refine WC.run ?_
       refine WS.op rfl (op_lds [_, _, _, _, _, _, _, _] (M124.at 0 rfl) rfl (Nat.le_of_ble_eq_true rfl) rfl) ?_
       refine WS.st1 (M124.focus 2 rfl) [_, _, _, _, _, _, _, _] [_, _, _, _, _, _, _, _] rfl rfl rfl rfl rfl (Nat.le_of_ble_eq_true rfl) (Nat.le_of_ble_eq_true rfl) rfl rfl ?_
       intro h127 M128
       replace M128 : Mem _ _ ([(p1, _)] :: [(p6, _)] :: S117 :: []) _ := M128
       refine WS.op rfl rfl (WS.nil [(2, _), (3, _)] rfl ?_)
       refine WC.ret ?_
       refine ⟨[_, _], (res_cellN [_, _, _, _, _, _, _, _] rfl (M128.at 0 rfl) (Nat.le_of_ble_eq_true rfl) rfl (res_tmp rfl res_nil)), ?_⟩
       have e70b : (if mayPB (⟨a, 0, 0, 0, r63⟩ : Rep) then encP (⟨a, 0, 0, 0, r63⟩ : Rep) else []) = s := by assumption
       have hm : MayP (⟨a, 0, 0, 0, r63⟩ : Rep) := wrP_t (by rw [e70b]; exact e13)
       have henc : encP (⟨a, 0, 0, 0, r63⟩ : Rep) = s := by rw [if_pos (show mayPB (⟨a, 0, 0, 0, r63⟩ : Rep) = true from decide_eq_true hm)] at e70b; exact e70b
       exact ⟨(⟨a, 0, 0, 0, r63⟩ : Rep), _, _, true, O118, rfl, (by first | exact hF63 | exact fitR0), rdP_yes ⟨hm, by first | exact hF63 | exact fitR0⟩ henc, ((M128.bare.focus 2 rfl).take 1)⟩
     ·
      refine WS.op rfl rfl (WS.nil [(0, _), (2, _), (4, _), (5, _), (57, _)] rfl ?_)
      refine WC.condF rfl ?_
      refine WC.skip ?_
      refine WC.seq ?_
      refine WC.seq ?_
      refine WC.run ?_
      refine WS.op rfl (op_lds [_, _, _, _, _, _, _, _] (M10.at 0 rfl) rfl (Nat.le_of_ble_eq_true rfl) rfl) ?_
      refine WS.call rfl rfl rfl (WriteP_ran M10.here (p := (⟨a, 0, 0, 0, (⟨0, 0, ([]), []⟩ : Res)⟩ : Rep)) Row.Sl.nil (by first | exact hF63 | exact fitR0)) ?_
      rintro _ h129 ⟨rfl, N130⟩
      have M131 := M10.trans N130
      refine WS.op rfl rfl ?_
      refine WS.sneq (l := (if mayPB (⟨a, 0, 0, 0, (⟨0, 0, ([]), []⟩ : Res)⟩ : Rep) then encP (⟨a, 0, 0, 0, (⟨0, 0, ([]), []⟩ : Res)⟩ : Rep) else [])) (m := s) rfl rfl rfl (fun e70 => ?_) (fun e70 => ?_)
      ·
       refine WS.nil [(2, _), (4, _), (70, _)] rfl ?_
       refine WC.condT rfl ?_
       refine WC.seq ?_
       refine WC.run ?_
       refine WS.opV (.agg #[(.int .u8 (0 : Int)), (.int .u64 (0 : Int)), (.int .u64 (0 : Int)), (.int .u8 (0 : Int)), (.int .u8 (0 : Int)), (.int .u64 (0 : Int)), (.string (bs ([]))), (.slice none 0 0)]) rfl rfl rfl ?_
       refine WS.st1 (M131.focus 1 rfl) [_, _, _, _, _, _, _, _] [_, _, _, _, _, _, _, _] rfl rfl rfl rfl rfl (Nat.le_of_ble_eq_true rfl) (Nat.le_of_ble_eq_true rfl) rfl rfl ?_
       intro h132 M133
       replace M133 : Mem _ _ ([(p1, _)] :: [(p6, _)] :: []) _ := M133
       refine WS.op rfl rfl (WS.nil [(2, _), (3, _)] rfl ?_)
       refine WC.ret ?_
       refine ⟨[_, _], (res_cellN [_, _, _, _, _, _, _, _] rfl (M133.at 0 rfl) (Nat.le_of_ble_eq_true rfl) rfl (res_tmp rfl res_nil)), ?_⟩
       have hno : ∀ p0, GoodP2 p0 → encP p0 ≠ s := by
         intro p0 hg he
         have hs0 : s = a :: s.drop 1 := by simpa using drop_cons ha
         have hka : p0.kd = a := by rw [hs0, encP_cons] at he; exact (List.cons.inj he).1
         have htl : (encP p0).tail = s.drop 1 := by rw [hs0, encP_cons] at he; exact (List.cons.inj he).2
         obtain ⟨⟨g1, g2, g3, g4, g5⟩, hfr⟩ := id hg
         apply absurd (show (if mayPB (⟨a, 0, 0, 0, (⟨0, 0, ([]), []⟩ : Res)⟩ : Rep) then encP (⟨a, 0, 0, 0, (⟨0, 0, ([]), []⟩ : Res)⟩ : Rep) else []) = s from ?_) (by assumption)
         have hp : (⟨a, 0, 0, 0, (⟨0, 0, ([]), []⟩ : Res)⟩ : Rep) = p0 := by
           by_cases k1 : a.toNat = 1
           · first
             | (exfalso; omega)
             | exact rep_eq hka.symm (g2 (by rw [hka]; exact k1)).1.symm (g2 (by rw [hka]; exact k1)).2.symm (by first | (exfalso; omega) | exact (g3 (by rw [hka]; omega)).symm) (by first | (exfalso; omega) | exact (g5 (by rw [hka]; omega)).symm)
           have htl2 : s.drop 1 = vb p0.se.toNat ++ (vb p0.sq.toNat ++ lastP p0) := by
             rw [← htl, encP_n (by rw [hka]; exact k1)]; simp
           obtain ⟨r1, r2, r3, r4, r5, r6, r7⟩ := rv2 htl2
           have s1 : UInt64.ofNat (rvN (s.drop 1)) = p0.se := by rw [r1]; simp
           have s2 : UInt64.ofNat (rvN ((s.drop 1).drop (rvK (s.drop 1)))) = p0.sq := by rw [r5]; simp
           first
           | (exfalso; omega)
           | exact rep_eq hka.symm s1 s2 (g3 (by rw [hka]; omega)).symm (g5 (by rw [hka]; omega)).symm
           | (have l3 : lastP p0 = [p0.ld] := if_pos (by rw [hka]; omega)
              rw [l3] at r7
              first
              | exact rep_eq hka.symm s1 s2 (by rw [r7] at hb_; simpa using hb_.symm) (g5 (by rw [hka]; omega)).symm
              | (exfalso; rw [r7] at e52; cases e52; done))
           | (have l6 : lastP p0 = encR p0.r := by (unfold lastP; rw [if_neg (by rw [hka]; omega), if_pos (by rw [hka]; omega)])
              rw [l6] at r7
              rw [r7] at hC63
              exact rep_eq hka.symm s1 s2 (g3 (by rw [hka]; omega)).symm (rd_self encR_pf hfr (hC63.rd hF63)).2)
         rw [hp, if_pos (show mayPB p0 = true from decide_eq_true hg.1)]; exact he
       exact ⟨zeroP, .slice none 0 0, [], false, .nil, rfl, fitR0, rdP_no hno, (M133.bare.take 0).nils⟩
      ·
       refine WS.nil [(2, _), (4, _), (70, _)] rfl ?_
       refine WC.condF rfl ?_
       refine WC.skip ?_
       refine WC.seq ?_
       refine WC.run ?_
       refine WS.op rfl (op_lds [_, _, _, _, _, _, _, _] (M131.at 0 rfl) rfl (Nat.le_of_ble_eq_true rfl) rfl) ?_
       refine WS.st1 (M131.focus 1 rfl) [_, _, _, _, _, _, _, _] [_, _, _, _, _, _, _, _] rfl rfl rfl rfl rfl (Nat.le_of_ble_eq_true rfl) (Nat.le_of_ble_eq_true rfl) rfl rfl ?_
       intro h134 M135
       replace M135 : Mem _ _ ([(p1, _)] :: [(p6, _)] :: []) _ := M135
       refine WS.op rfl rfl (WS.nil [(2, _), (3, _)] rfl ?_)
       refine WC.ret ?_
       refine ⟨[_, _], (res_cellN [_, _, _, _, _, _, _, _] rfl (M135.at 0 rfl) (Nat.le_of_ble_eq_true rfl) rfl (res_tmp rfl res_nil)), ?_⟩
       have e70b : (if mayPB (⟨a, 0, 0, 0, (⟨0, 0, ([]), []⟩ : Res)⟩ : Rep) then encP (⟨a, 0, 0, 0, (⟨0, 0, ([]), []⟩ : Res)⟩ : Rep) else []) = s := by assumption
       have hm : MayP (⟨a, 0, 0, 0, (⟨0, 0, ([]), []⟩ : Res)⟩ : Rep) := wrP_t (by rw [e70b]; exact e13)
       have henc : encP (⟨a, 0, 0, 0, (⟨0, 0, ([]), []⟩ : Res)⟩ : Rep) = s := by rw [if_pos (show mayPB (⟨a, 0, 0, 0, (⟨0, 0, ([]), []⟩ : Res)⟩ : Rep) = true from decide_eq_true hm)] at e70b; exact e70b
       exact ⟨(⟨a, 0, 0, 0, (⟨0, 0, ([]), []⟩ : Res)⟩ : Rep), _, _, true, .nil, rfl, (by first | exact hF63 | exact fitR0), rdP_yes ⟨hm, by first | exact hF63 | exact fitR0⟩ henc, (M135.bare.take 0).nils⟩
end Go.Proofs.Yteikngjiaboeaaa.Wt
namespace Go.Proofs.Yteikngjiaboeaaa.Wt
open Go Go.Proofs.Yteikngjiaboeaaa.Am Go.Proofs.Yteikngjiaboeaaa.IrAll
set_option linter.unusedVariables false
set_option linter.unusedSimpArgs false
variable {h base : H} {L : List Seg} {R : List Nat}
theorem awake6_ran (W : Mem h h [] []) : Cll tab0 15 [] h (fun v h2 => v = .bool true ∧ Mem h h2 [] []) := ⟨_, h, awake_run h, rfl, W⟩
theorem rdF_wr {s : List UInt8} {f : Frm} {ok : Bool} (h : Rd GoodF encF zeroF s f ok) (q : ok = true) : (if mayFB f then encF f else []) = s := by
  obtain ⟨g, e⟩ := h.1 q
  rw [if_pos (show mayFB f = true from decide_eq_true g.1)]; exact e
theorem rdP_wr {s : List UInt8} {p : Rep} {ok : Bool} (h : Rd GoodP2 encP zeroP s p ok) (q : ok = true) : (if mayPB p then encP p else []) = s := by
  obtain ⟨g, e⟩ := h.1 q
  rw [if_pos (show mayPB p = true from decide_eq_true g.1)]; exact e
set_option maxRecDepth 8000 in
theorem law_FrameOnly (W : Mem h h [] []) {s : List UInt8} {u0 : Value} (l0 : layStr h s [u0]) (k0 : s.length < 9223372036854775808) : Cll tab0 8 [u0] h (fun v _ => v = .bool true) := by
  have l0 : [u0] = [_] := l0
  cases l0
  refine Cll.code rfl rfl ?_
  refine WC.env [(0, _)] rfl ?_
  refine WC.seq ?_
  refine WC.run ?_
  refine WS.op rfl rfl (WS.nil [(0, _)] rfl ?_)
  refine WC.seq ?_
  refine WC.seq ?_
  refine WC.run ?_
  refine WS.op rfl rfl (WS.op rfl (op_lenS (l := s) rfl) ?_)
  refine WS.gtrN (a := (s).length) (b := 4000) rfl rfl rfl (fun e9 => ?_) (fun e9 => ?_)
  ·
   refine WS.nil [(0, _), (9, _)] rfl ?_
   refine WC.condT rfl ?_
   refine WC.run ?_
   refine WS.op rfl rfl (WS.op rfl (op_slS1 (l := s) 4000 rfl rfl (by first | omega | (simp only [List.length_drop, List.length_take, List.length_append, List.length_cons, List.length_nil, List.length_singleton]; omega) | (simp only [List.length_drop, List.length_take, List.length_append, List.length_cons, List.length_nil, List.length_singleton] at *; omega))) (WS.op rfl rfl (WS.nil [(0, _)] rfl ?_)))
   refine WC.seq ?_
   refine WC.run ?_
   refine WS.op rfl rfl ?_
   refine WS.call rfl rfl rfl (ReadF_ran W.here (s := ((s).take 4000)) (by first | omega | (simp only [List.length_drop, List.length_take, List.length_append, List.length_cons, List.length_nil, List.length_singleton]; omega) | (simp only [List.length_drop, List.length_take, List.length_append, List.length_cons, List.length_nil, List.length_singleton] at *; omega))) ?_
   rintro _ h1 ⟨f14, V4, S5, ok14, O6, rfl, hF14, hC14, N2⟩
   obtain ⟨P7, rfl⟩ := O6.shape
   have M3 := W.trans N2
   replace M3 : Mem _ _ (S5 :: []) _ := M3
   refine WS.op rfl rfl (WS.op rfl rfl (WS.op rfl rfl ?_))
   refine WS.new M3 rfl ?_
   intro p8 h9 M10
   refine WS.st1 (M10.focus 0 rfl) [_, _, _, _, _, _, _, _, _, _, _, _, _, _, _, _, _, _, _, _, _, _, _, _, _, _, _, _, _, _, _, _, _, _, _, _, _] [_, _, _, _, _, _, _, _, _, _, _, _, _, _, _, _, _, _, _, _, _, _, _, _, _, _, _, _, _, _, _, _, _, _, _, _, _] rfl rfl rfl rfl rfl (Nat.le_of_ble_eq_true rfl) (Nat.le_of_ble_eq_true rfl) rfl rfl ?_
   intro h11 M12
   replace M12 : Mem _ _ ([(p8, _)] :: S5 :: []) _ := M12
   refine WS.op rfl rfl (WS.nil [(0, _), (3, _), (4, _)] rfl ?_)
   refine WC.seq ?_
   refine WC.run ?_
   refine WS.op rfl rfl ?_
   refine WS.call rfl rfl rfl (ReadP_ran M12.here (s := ((s).take 4000)) (by first | omega | (simp only [List.length_drop, List.length_take, List.length_append, List.length_cons, List.length_nil, List.length_singleton]; omega) | (simp only [List.length_drop, List.length_take, List.length_append, List.length_cons, List.length_nil, List.length_singleton] at *; omega))) ?_
   rintro _ h13 ⟨p19r, V16, S17, ok19, O18, rfl, hF19, hC19, N14⟩
   obtain ⟨P19, rfl⟩ := O18.shape
   have M15 := M12.trans N14
   replace M15 : Mem _ _ (S17 :: [(p8, _)] :: S5 :: []) _ := M15
   refine WS.op rfl rfl (WS.op rfl rfl (WS.op rfl rfl ?_))
   refine WS.new M15 rfl ?_
   intro p20 h21 M22
   refine WS.st1 (M22.focus 0 rfl) [_, _, _, _, _, _, _, _] [_, _, _, _, _, _, _, _] rfl rfl rfl rfl rfl (Nat.le_of_ble_eq_true rfl) (Nat.le_of_ble_eq_true rfl) rfl rfl ?_
   intro h23 M24
   replace M24 : Mem _ _ ([(p20, _)] :: S17 :: [(p8, _)] :: S5 :: []) _ := M24
   refine WS.op rfl rfl (WS.nil [(0, _), (3, _), (4, _), (5, _), (6, _)] rfl ?_)
   refine WC.seq ?_
   refine WC.seq ?_
   refine WC.run ?_
   refine WS.op rfl rfl (WS.op rfl rfl ?_)
   cases hb1 : ok14
   ·
    refine WS.off rfl (WS.offC rfl (WS.off rfl (WS.off rfl (WS.op rfl rfl (WS.op rfl rfl (WS.op rfl rfl (WS.opV (.bool true) rfl rfl rfl (WS.op rfl rfl (WS.op rfl (op_lds [_, _, _, _, _, _, _, _, _, _, _, _, _, _, _, _, _, _, _, _, _, _, _, _, _, _, _, _, _, _, _, _, _, _, _, _, _] (M24.at 2 rfl) rfl (Nat.le_of_ble_eq_true rfl) rfl) ?_)))))))))
    refine WS.opV (.agg #[(.int .u8 (0 : Int)), (.int .u8 (0 : Int)), (.int .u8 (0 : Int)), (.int .u8 (0 : Int)), (.int .u8 (0 : Int)), (.int .u8 (0 : Int)), (.int .u8 (0 : Int)), (.int .u8 (0 : Int)), (.int .u8 (0 : Int)), (.int .u8 (0 : Int)), (.int .u64 (0 : Int)), (.int .u64 (0 : Int)), (.string (bs ([]))), (.string (bs ([]))), (.string (bs ([]))), (.string (bs ([]))), (.string (bs ([]))), (.int .u8 (0 : Int)), (.int .u64 (0 : Int)), (.int .u64 (0 : Int)), (.slice none 0 0), (.int .u8 (0 : Int)), (.int .u8 (0 : Int)), (.int .u8 (0 : Int)), (.int .u8 (0 : Int)), (.int .u8 (0 : Int)), (.int .u8 (0 : Int)), (.int .u8 (0 : Int)), (.int .u8 (0 : Int)), (.int .u8 (0 : Int)), (.int .u8 (0 : Int)), (.int .u8 (0 : Int)), (.int .i64 (0 : Int)), (.int .i64 (0 : Int)), (.int .i64 (0 : Int)), (.int .i64 (0 : Int)), (.int .u8 (0 : Int))]) rfl rfl rfl ?_
    refine WS.call rfl rfl rfl (SameF_ran M24.here (a := f14) (b := (⟨0, 0, 0, 0, 0, 0, 0, 0, 0, (⟨0, 0, 0, ([]), ([]), ([]), ([]), ([]), 0, 0, 0, []⟩ : Cmd), (⟨0, 0, 0, 0, 0, 0, 0, 0, 0, 0, 0, 0, 0, 0, 0, 0⟩ : Oper)⟩ : Frm)) (Row.Own.sl O6 (Mem.owni M24 3 rfl)) Row.Sl.nil (by have := hF14.2.2.2.2.2.1; omega)) ?_
    rintro _ h25 ⟨rfl, N26⟩
    have M27 := M24.trans N26
    cases hb2 : (decide (f14 = (⟨0, 0, 0, 0, 0, 0, 0, 0, 0, (⟨0, 0, 0, ([]), ([]), ([]), ([]), ([]), 0, 0, 0, []⟩ : Cmd), (⟨0, 0, 0, 0, 0, 0, 0, 0, 0, 0, 0, 0, 0, 0, 0, 0⟩ : Oper)⟩ : Frm)))
    ·
     refine WS.opV (.bool true) rfl rfl rfl (WS.op rfl rfl (WS.op rfl rfl (WS.nil [(0, _), (5, _), (6, _), (38, _)] rfl ?_)))
     refine WC.condT rfl ?_
     refine WC.seq ?_
     refine WC.run ?_
     refine WS.op rfl rfl (WS.nil [(2, _)] rfl ?_)
     refine WC.ret ?_
     refine ⟨[_], (res_tmp rfl res_nil), ?_⟩
     exfalso; first | exact absurd (hC14.2 (by assumption)).1 (of_decide_eq_false (by assumption)) | exact absurd (hC19.2 (by assumption)).1 (of_decide_eq_false (by assumption))
    ·
     refine WS.opV (.bool false) rfl rfl rfl (WS.op rfl rfl (WS.op rfl rfl (WS.nil [(0, _), (5, _), (6, _), (38, _)] rfl ?_)))
     refine WC.condF rfl ?_
     refine WC.skip ?_
     refine WC.seq ?_
     refine WC.run ?_
     refine WS.op rfl rfl (WS.op rfl rfl ?_)
     cases hb3 : ok19
     ·
      refine WS.off rfl (WS.offC rfl (WS.off rfl (WS.off rfl (WS.op rfl rfl (WS.op rfl rfl (WS.op rfl rfl (WS.opV (.bool true) rfl rfl rfl (WS.op rfl rfl (WS.op rfl (op_lds [_, _, _, _, _, _, _, _] (M27.at 0 rfl) rfl (Nat.le_of_ble_eq_true rfl) rfl) ?_)))))))))
      refine WS.opV (.agg #[(.int .u8 (0 : Int)), (.int .u64 (0 : Int)), (.int .u64 (0 : Int)), (.int .u8 (0 : Int)), (.int .u8 (0 : Int)), (.int .u64 (0 : Int)), (.string (bs ([]))), (.slice none 0 0)]) rfl rfl rfl ?_
      refine WS.call rfl rfl rfl (SameP_ran M27.here (a := p19r) (b := (⟨0, 0, 0, 0, (⟨0, 0, ([]), []⟩ : Res)⟩ : Rep)) (Row.Own.sl O18 (Mem.owni M27 1 rfl)) Row.Sl.nil (by have := hF19.2.1; omega)) ?_
      rintro _ h28 ⟨rfl, N29⟩
      have M30 := M27.trans N29
      refine WS.op rfl rfl (WS.op rfl rfl (WS.op rfl rfl ?_))
      cases hb4 : (decide (p19r = (⟨0, 0, 0, 0, (⟨0, 0, ([]), []⟩ : Res)⟩ : Rep)))
      ·
       refine WS.offC rfl (WS.op rfl rfl (WS.op rfl rfl (WS.nil [(2, _)] rfl ?_)))
       refine WC.ret ?_
       refine ⟨[_], (res_tmp rfl res_nil), ?_⟩
       exfalso; first | exact absurd (hC14.2 (by assumption)).1 (of_decide_eq_false (by assumption)) | exact absurd (hC19.2 (by assumption)).1 (of_decide_eq_false (by assumption))
      ·
       refine WS.call rfl rfl rfl (awake6_ran M30.here ) ?_
       rintro _ h31 ⟨rfl, N32⟩
       have M33 := M30.trans N32
       refine WS.op rfl rfl (WS.op rfl rfl (WS.nil [(2, _)] rfl ?_))
       refine WC.ret ?_
       refine ⟨[_], (res_tmp rfl res_nil), ?_⟩
       rfl
     ·
      refine WS.op rfl (op_lds [_, _, _, _, _, _, _, _] (M27.at 0 rfl) rfl (Nat.le_of_ble_eq_true rfl) rfl) ?_
      refine WS.call rfl rfl rfl (WriteP_ran M27.here (p := p19r) (Row.Own.sl O18 (Mem.owni M27 1 rfl)) (by exact hF19)) ?_
      rintro _ h34 ⟨rfl, N35⟩
      have M36 := M27.trans N35
      refine WS.op rfl rfl ?_
      refine WS.seql (l := (if mayPB p19r then encP p19r else [])) (m := ((s).take 4000)) rfl rfl rfl (fun e44 => ?_) (fun e44 => ?_)
      ·
       refine WS.op rfl rfl (WS.op rfl rfl (WS.off rfl (WS.off rfl (WS.off rfl (WS.off rfl (WS.off rfl (WS.offC rfl (WS.off rfl (WS.op rfl rfl ?_)))))))))
       refine WS.op rfl rfl ?_
       refine WS.call rfl rfl rfl (awake6_ran M36.here ) ?_
       rintro _ h37 ⟨rfl, N38⟩
       have M39 := M36.trans N38
       refine WS.op rfl rfl (WS.op rfl rfl (WS.nil [(2, _)] rfl ?_))
       refine WC.ret ?_
       refine ⟨[_], (res_tmp rfl res_nil), ?_⟩
       rfl
      ·
       exact absurd (rdP_wr hC19 (by first | assumption | rfl)) e44
   ·
    refine WS.op rfl (op_lds [_, _, _, _, _, _, _, _, _, _, _, _, _, _, _, _, _, _, _, _, _, _, _, _, _, _, _, _, _, _, _, _, _, _, _, _, _] (M24.at 2 rfl) rfl (Nat.le_of_ble_eq_true rfl) rfl) ?_
    refine WS.call rfl rfl rfl (WriteF_ran M24.here (f := f14) (Row.Own.sl O6 (Mem.owni M24 3 rfl)) (by exact hF14)) ?_
    rintro _ h40 ⟨rfl, N41⟩
    have M42 := M24.trans N41
    refine WS.op rfl rfl ?_
    refine WS.sneq (l := (if mayFB f14 then encF f14 else [])) (m := ((s).take 4000)) rfl rfl rfl (fun e27 => ?_) (fun e27 => ?_)
    ·
     exact absurd (rdF_wr hC14 (by first | assumption | rfl)) e27
    ·
     refine WS.op rfl rfl (WS.op rfl rfl (WS.op rfl rfl (WS.opV (.bool false) rfl rfl rfl (WS.op rfl rfl (WS.off rfl (WS.off rfl (WS.offC rfl (WS.off rfl (WS.op rfl rfl ?_)))))))))
     refine WS.op rfl rfl (WS.nil [(0, _), (5, _), (6, _), (38, _)] rfl ?_)
     refine WC.condF rfl ?_
     refine WC.skip ?_
     refine WC.seq ?_
     refine WC.run ?_
     refine WS.op rfl rfl (WS.op rfl rfl ?_)
     cases hb3 : ok19
     ·
      refine WS.off rfl (WS.offC rfl (WS.off rfl (WS.off rfl (WS.op rfl rfl (WS.op rfl rfl (WS.op rfl rfl (WS.opV (.bool true) rfl rfl rfl (WS.op rfl rfl (WS.op rfl (op_lds [_, _, _, _, _, _, _, _] (M42.at 0 rfl) rfl (Nat.le_of_ble_eq_true rfl) rfl) ?_)))))))))
      refine WS.opV (.agg #[(.int .u8 (0 : Int)), (.int .u64 (0 : Int)), (.int .u64 (0 : Int)), (.int .u8 (0 : Int)), (.int .u8 (0 : Int)), (.int .u64 (0 : Int)), (.string (bs ([]))), (.slice none 0 0)]) rfl rfl rfl ?_
      refine WS.call rfl rfl rfl (SameP_ran M42.here (a := p19r) (b := (⟨0, 0, 0, 0, (⟨0, 0, ([]), []⟩ : Res)⟩ : Rep)) (Row.Own.sl O18 (Mem.owni M42 1 rfl)) Row.Sl.nil (by have := hF19.2.1; omega)) ?_
      rintro _ h43 ⟨rfl, N44⟩
      have M45 := M42.trans N44
      refine WS.op rfl rfl (WS.op rfl rfl (WS.op rfl rfl ?_))
      cases hb4 : (decide (p19r = (⟨0, 0, 0, 0, (⟨0, 0, ([]), []⟩ : Res)⟩ : Rep)))
      ·
       refine WS.offC rfl (WS.op rfl rfl (WS.op rfl rfl (WS.nil [(2, _)] rfl ?_)))
       refine WC.ret ?_
       refine ⟨[_], (res_tmp rfl res_nil), ?_⟩
       exfalso; first | exact absurd (hC14.2 (by assumption)).1 (of_decide_eq_false (by assumption)) | exact absurd (hC19.2 (by assumption)).1 (of_decide_eq_false (by assumption))
      ·
       refine WS.call rfl rfl rfl (awake6_ran M45.here ) ?_
       rintro _ h46 ⟨rfl, N47⟩
       have M48 := M45.trans N47
       refine WS.op rfl rfl (WS.op rfl rfl (WS.nil [(2, _)] rfl ?_))
       refine WC.ret ?_
       refine ⟨[_], (res_tmp rfl res_nil), ?_⟩
       rfl
     ·
      refine WS.op rfl (op_lds [_, _, _, _, _, _, _, _] (M42.at 0 rfl) rfl (Nat.le_of_ble_eq_true rfl) rfl) ?_
      refine WS.call rfl rfl rfl (WriteP_ran M42.here (p := p19r) (Row.Own.sl O18 (Mem.owni M42 1 rfl)) (by exact hF19)) ?_
      rintro _ h49 ⟨rfl, N50⟩
      have M51 := M42.trans N50
      refine WS.op rfl rfl ?_
      refine WS.seql (l := (if mayPB p19r then encP p19r else [])) (m := ((s).take 4000)) rfl rfl rfl (fun e44 => ?_) (fun e44 => ?_)
      ·
       refine WS.op rfl rfl (WS.op rfl rfl (WS.off rfl (WS.off rfl (WS.off rfl (WS.off rfl (WS.off rfl (WS.offC rfl (WS.off rfl (WS.op rfl rfl ?_)))))))))
       refine WS.op rfl rfl ?_
       refine WS.call rfl rfl rfl (awake6_ran M51.here ) ?_
       rintro _ h52 ⟨rfl, N53⟩
       have M54 := M51.trans N53
       refine WS.op rfl rfl (WS.op rfl rfl (WS.nil [(2, _)] rfl ?_))
       refine WC.ret ?_
       refine ⟨[_], (res_tmp rfl res_nil), ?_⟩
       rfl
      ·
       exact absurd (rdP_wr hC19 (by first | assumption | rfl)) e44
  ·
   refine WS.nil [(0, _), (9, _)] rfl ?_
   refine WC.condF rfl ?_
   refine WC.skip ?_
   refine WC.seq ?_
   refine WC.run ?_
   refine WS.op rfl rfl ?_
   refine WS.call rfl rfl rfl (ReadF_ran W.here (s := s) (by first | omega | (simp only [List.length_drop, List.length_take, List.length_append, List.length_cons, List.length_nil, List.length_singleton]; omega) | (simp only [List.length_drop, List.length_take, List.length_append, List.length_cons, List.length_nil, List.length_singleton] at *; omega))) ?_
   rintro _ h55 ⟨f14, V58, S59, ok14, O60, rfl, hF14, hC14, N56⟩
   obtain ⟨P61, rfl⟩ := O60.shape
   have M57 := W.trans N56
   replace M57 : Mem _ _ (S59 :: []) _ := M57
   refine WS.op rfl rfl (WS.op rfl rfl (WS.op rfl rfl ?_))
   refine WS.new M57 rfl ?_
   intro p62 h63 M64
   refine WS.st1 (M64.focus 0 rfl) [_, _, _, _, _, _, _, _, _, _, _, _, _, _, _, _, _, _, _, _, _, _, _, _, _, _, _, _, _, _, _, _, _, _, _, _, _] [_, _, _, _, _, _, _, _, _, _, _, _, _, _, _, _, _, _, _, _, _, _, _, _, _, _, _, _, _, _, _, _, _, _, _, _, _] rfl rfl rfl rfl rfl (Nat.le_of_ble_eq_true rfl) (Nat.le_of_ble_eq_true rfl) rfl rfl ?_
   intro h65 M66
   replace M66 : Mem _ _ ([(p62, _)] :: S59 :: []) _ := M66
   refine WS.op rfl rfl (WS.nil [(0, _), (3, _), (4, _)] rfl ?_)
   refine WC.seq ?_
   refine WC.run ?_
   refine WS.op rfl rfl ?_
   refine WS.call rfl rfl rfl (ReadP_ran M66.here (s := s) (by first | omega | (simp only [List.length_drop, List.length_take, List.length_append, List.length_cons, List.length_nil, List.length_singleton]; omega) | (simp only [List.length_drop, List.length_take, List.length_append, List.length_cons, List.length_nil, List.length_singleton] at *; omega))) ?_
   rintro _ h67 ⟨p19r, V70, S71, ok19, O72, rfl, hF19, hC19, N68⟩
   obtain ⟨P73, rfl⟩ := O72.shape
   have M69 := M66.trans N68
   replace M69 : Mem _ _ (S71 :: [(p62, _)] :: S59 :: []) _ := M69
   refine WS.op rfl rfl (WS.op rfl rfl (WS.op rfl rfl ?_))
   refine WS.new M69 rfl ?_
   intro p74 h75 M76
   refine WS.st1 (M76.focus 0 rfl) [_, _, _, _, _, _, _, _] [_, _, _, _, _, _, _, _] rfl rfl rfl rfl rfl (Nat.le_of_ble_eq_true rfl) (Nat.le_of_ble_eq_true rfl) rfl rfl ?_
   intro h77 M78
   replace M78 : Mem _ _ ([(p74, _)] :: S71 :: [(p62, _)] :: S59 :: []) _ := M78
   refine WS.op rfl rfl (WS.nil [(0, _), (3, _), (4, _), (5, _), (6, _)] rfl ?_)
   refine WC.seq ?_
   refine WC.seq ?_
   refine WC.run ?_
   refine WS.op rfl rfl (WS.op rfl rfl ?_)
   cases hb1 : ok14
   ·
    refine WS.off rfl (WS.offC rfl (WS.off rfl (WS.off rfl (WS.op rfl rfl (WS.op rfl rfl (WS.op rfl rfl (WS.opV (.bool true) rfl rfl rfl (WS.op rfl rfl (WS.op rfl (op_lds [_, _, _, _, _, _, _, _, _, _, _, _, _, _, _, _, _, _, _, _, _, _, _, _, _, _, _, _, _, _, _, _, _, _, _, _, _] (M78.at 2 rfl) rfl (Nat.le_of_ble_eq_true rfl) rfl) ?_)))))))))
    refine WS.opV (.agg #[(.int .u8 (0 : Int)), (.int .u8 (0 : Int)), (.int .u8 (0 : Int)), (.int .u8 (0 : Int)), (.int .u8 (0 : Int)), (.int .u8 (0 : Int)), (.int .u8 (0 : Int)), (.int .u8 (0 : Int)), (.int .u8 (0 : Int)), (.int .u8 (0 : Int)), (.int .u64 (0 : Int)), (.int .u64 (0 : Int)), (.string (bs ([]))), (.string (bs ([]))), (.string (bs ([]))), (.string (bs ([]))), (.string (bs ([]))), (.int .u8 (0 : Int)), (.int .u64 (0 : Int)), (.int .u64 (0 : Int)), (.slice none 0 0), (.int .u8 (0 : Int)), (.int .u8 (0 : Int)), (.int .u8 (0 : Int)), (.int .u8 (0 : Int)), (.int .u8 (0 : Int)), (.int .u8 (0 : Int)), (.int .u8 (0 : Int)), (.int .u8 (0 : Int)), (.int .u8 (0 : Int)), (.int .u8 (0 : Int)), (.int .u8 (0 : Int)), (.int .i64 (0 : Int)), (.int .i64 (0 : Int)), (.int .i64 (0 : Int)), (.int .i64 (0 : Int)), (.int .u8 (0 : Int))]) rfl rfl rfl ?_
    refine WS.call rfl rfl rfl (SameF_ran M78.here (a := f14) (b := (⟨0, 0, 0, 0, 0, 0, 0, 0, 0, (⟨0, 0, 0, ([]), ([]), ([]), ([]), ([]), 0, 0, 0, []⟩ : Cmd), (⟨0, 0, 0, 0, 0, 0, 0, 0, 0, 0, 0, 0, 0, 0, 0, 0⟩ : Oper)⟩ : Frm)) (Row.Own.sl O60 (Mem.owni M78 3 rfl)) Row.Sl.nil (by have := hF14.2.2.2.2.2.1; omega)) ?_
    rintro _ h79 ⟨rfl, N80⟩
    have M81 := M78.trans N80
    cases hb2 : (decide (f14 = (⟨0, 0, 0, 0, 0, 0, 0, 0, 0, (⟨0, 0, 0, ([]), ([]), ([]), ([]), ([]), 0, 0, 0, []⟩ : Cmd), (⟨0, 0, 0, 0, 0, 0, 0, 0, 0, 0, 0, 0, 0, 0, 0, 0⟩ : Oper)⟩ : Frm)))
    ·
     refine WS.opV (.bool true) rfl rfl rfl (WS.op rfl rfl (WS.op rfl rfl (WS.nil [(0, _), (5, _), (6, _), (38, _)] rfl ?_)))
     refine WC.condT rfl ?_
     refine WC.seq ?_
     refine WC.run ?_
     refine WS.op rfl rfl (WS.nil [(2, _)] rfl ?_)
     refine WC.ret ?_
     refine ⟨[_], (res_tmp rfl res_nil), ?_⟩
     exfalso; first | exact absurd (hC14.2 (by assumption)).1 (of_decide_eq_false (by assumption)) | exact absurd (hC19.2 (by assumption)).1 (of_decide_eq_false (by assumption))
    ·
     refine WS.opV (.bool false) rfl rfl rfl (WS.op rfl rfl (WS.op rfl rfl (WS.nil [(0, _), (5, _), (6, _), (38, _)] rfl ?_)))
     refine WC.condF rfl ?_
     refine WC.skip ?_
     refine WC.seq ?_
     refine WC.run ?_
     refine WS.op rfl rfl (WS.op rfl rfl ?_)
     cases hb3 : ok19
     ·
      refine WS.off rfl (WS.offC rfl (WS.off rfl (WS.off rfl (WS.op rfl rfl (WS.op rfl rfl (WS.op rfl rfl (WS.opV (.bool true) rfl rfl rfl (WS.op rfl rfl (WS.op rfl (op_lds [_, _, _, _, _, _, _, _] (M81.at 0 rfl) rfl (Nat.le_of_ble_eq_true rfl) rfl) ?_)))))))))
      refine WS.opV (.agg #[(.int .u8 (0 : Int)), (.int .u64 (0 : Int)), (.int .u64 (0 : Int)), (.int .u8 (0 : Int)), (.int .u8 (0 : Int)), (.int .u64 (0 : Int)), (.string (bs ([]))), (.slice none 0 0)]) rfl rfl rfl ?_
      refine WS.call rfl rfl rfl (SameP_ran M81.here (a := p19r) (b := (⟨0, 0, 0, 0, (⟨0, 0, ([]), []⟩ : Res)⟩ : Rep)) (Row.Own.sl O72 (Mem.owni M81 1 rfl)) Row.Sl.nil (by have := hF19.2.1; omega)) ?_
      rintro _ h82 ⟨rfl, N83⟩
      have M84 := M81.trans N83
      refine WS.op rfl rfl (WS.op rfl rfl (WS.op rfl rfl ?_))
      cases hb4 : (decide (p19r = (⟨0, 0, 0, 0, (⟨0, 0, ([]), []⟩ : Res)⟩ : Rep)))
      ·
       refine WS.offC rfl (WS.op rfl rfl (WS.op rfl rfl (WS.nil [(2, _)] rfl ?_)))
       refine WC.ret ?_
       refine ⟨[_], (res_tmp rfl res_nil), ?_⟩
       exfalso; first | exact absurd (hC14.2 (by assumption)).1 (of_decide_eq_false (by assumption)) | exact absurd (hC19.2 (by assumption)).1 (of_decide_eq_false (by assumption))
      ·
       refine WS.call rfl rfl rfl (awake6_ran M84.here ) ?_
       rintro _ h85 ⟨rfl, N86⟩
       have M87 := M84.trans N86
       refine WS.op rfl rfl (WS.op rfl rfl (WS.nil [(2, _)] rfl ?_))
       refine WC.ret ?_
       refine ⟨[_], (res_tmp rfl res_nil), ?_⟩
       rfl
     ·
      refine WS.op rfl (op_lds [_, _, _, _, _, _, _, _] (M81.at 0 rfl) rfl (Nat.le_of_ble_eq_true rfl) rfl) ?_
      refine WS.call rfl rfl rfl (WriteP_ran M81.here (p := p19r) (Row.Own.sl O72 (Mem.owni M81 1 rfl)) (by exact hF19)) ?_
      rintro _ h88 ⟨rfl, N89⟩
      have M90 := M81.trans N89
      refine WS.op rfl rfl ?_
      refine WS.seql (l := (if mayPB p19r then encP p19r else [])) (m := s) rfl rfl rfl (fun e44 => ?_) (fun e44 => ?_)
      ·
       refine WS.op rfl rfl (WS.op rfl rfl (WS.off rfl (WS.off rfl (WS.off rfl (WS.off rfl (WS.off rfl (WS.offC rfl (WS.off rfl (WS.op rfl rfl ?_)))))))))
       refine WS.op rfl rfl ?_
       refine WS.call rfl rfl rfl (awake6_ran M90.here ) ?_
       rintro _ h91 ⟨rfl, N92⟩
       have M93 := M90.trans N92
       refine WS.op rfl rfl (WS.op rfl rfl (WS.nil [(2, _)] rfl ?_))
       refine WC.ret ?_
       refine ⟨[_], (res_tmp rfl res_nil), ?_⟩
       rfl
      ·
       exact absurd (rdP_wr hC19 (by first | assumption | rfl)) e44
   ·
    refine WS.op rfl (op_lds [_, _, _, _, _, _, _, _, _, _, _, _, _, _, _, _, _, _, _, _, _, _, _, _, _, _, _, _, _, _, _, _, _, _, _, _, _] (M78.at 2 rfl) rfl (Nat.le_of_ble_eq_true rfl) rfl) ?_
    refine WS.call rfl rfl rfl (WriteF_ran M78.here (f := f14) (Row.Own.sl O60 (Mem.owni M78 3 rfl)) (by exact hF14)) ?_
    rintro _ h94 ⟨rfl, N95⟩
    have M96 := M78.trans N95
    refine WS.op rfl rfl ?_
    refine WS.sneq (l := (if mayFB f14 then encF f14 else [])) (m := s) rfl rfl rfl (fun e27 => ?_) (fun e27 => ?_)
    ·
     exact absurd (rdF_wr hC14 (by first | assumption | rfl)) e27
    ·
     refine WS.op rfl rfl (WS.op rfl rfl (WS.op rfl rfl (WS.opV (.bool false) rfl rfl rfl (WS.op rfl rfl (WS.off rfl (WS.off rfl (WS.offC rfl (WS.off rfl (WS.op rfl rfl ?_)))))))))
     refine WS.op rfl rfl (WS.nil [(0, _), (5, _), (6, _), (38, _)] rfl ?_)
     refine WC.condF rfl ?_
     refine WC.skip ?_
     refine WC.seq ?_
     refine WC.run ?_
     refine WS.op rfl rfl (WS.op rfl rfl ?_)
     cases hb3 : ok19
     ·
      refine WS.off rfl (WS.offC rfl (WS.off rfl (WS.off rfl (WS.op rfl rfl (WS.op rfl rfl (WS.op rfl rfl (WS.opV (.bool true) rfl rfl rfl (WS.op rfl rfl (WS.op rfl (op_lds [_, _, _, _, _, _, _, _] (M96.at 0 rfl) rfl (Nat.le_of_ble_eq_true rfl) rfl) ?_)))))))))
      refine WS.opV (.agg #[(.int .u8 (0 : Int)), (.int .u64 (0 : Int)), (.int .u64 (0 : Int)), (.int .u8 (0 : Int)), (.int .u8 (0 : Int)), (.int .u64 (0 : Int)), (.string (bs ([]))), (.slice none 0 0)]) rfl rfl rfl ?_
      refine WS.call rfl rfl rfl (SameP_ran M96.here (a := p19r) (b := (⟨0, 0, 0, 0, (⟨0, 0, ([]), []⟩ : Res)⟩ : Rep)) (Row.Own.sl O72 (Mem.owni M96 1 rfl)) Row.Sl.nil (by have := hF19.2.1; omega)) ?_
      rintro _ h97 ⟨rfl, N98⟩
      have M99 := M96.trans N98
      refine WS.op rfl rfl (WS.op rfl rfl (WS.op rfl rfl ?_))
      cases hb4 : (decide (p19r = (⟨0, 0, 0, 0, (⟨0, 0, ([]), []⟩ : Res)⟩ : Rep)))
      ·
       refine WS.offC rfl (WS.op rfl rfl (WS.op rfl rfl (WS.nil [(2, _)] rfl ?_)))
       refine WC.ret ?_
       refine ⟨[_], (res_tmp rfl res_nil), ?_⟩
       exfalso; first | exact absurd (hC14.2 (by assumption)).1 (of_decide_eq_false (by assumption)) | exact absurd (hC19.2 (by assumption)).1 (of_decide_eq_false (by assumption))
      ·
       refine WS.call rfl rfl rfl (awake6_ran M99.here ) ?_
       rintro _ h100 ⟨rfl, N101⟩
       have M102 := M99.trans N101
       refine WS.op rfl rfl (WS.op rfl rfl (WS.nil [(2, _)] rfl ?_))
       refine WC.ret ?_
       refine ⟨[_], (res_tmp rfl res_nil), ?_⟩
       rfl
     ·
      refine WS.op rfl (op_lds [_, _, _, _, _, _, _, _] (M96.at 0 rfl) rfl (Nat.le_of_ble_eq_true rfl) rfl) ?_
      refine WS.call rfl rfl rfl (WriteP_ran M96.here (p := p19r) (Row.Own.sl O72 (Mem.owni M96 1 rfl)) (by exact hF19)) ?_
      rintro _ h103 ⟨rfl, N104⟩
      have M105 := M96.trans N104
      refine WS.op rfl rfl ?_
      refine WS.seql (l := (if mayPB p19r then encP p19r else [])) (m := s) rfl rfl rfl (fun e44 => ?_) (fun e44 => ?_)
      ·
       refine WS.op rfl rfl (WS.op rfl rfl (WS.off rfl (WS.off rfl (WS.off rfl (WS.off rfl (WS.off rfl (WS.offC rfl (WS.off rfl (WS.op rfl rfl ?_)))))))))
       refine WS.op rfl rfl ?_
       refine WS.call rfl rfl rfl (awake6_ran M105.here ) ?_
       rintro _ h106 ⟨rfl, N107⟩
       have M108 := M105.trans N107
       refine WS.op rfl rfl (WS.op rfl rfl (WS.nil [(2, _)] rfl ?_))
       refine WC.ret ?_
       refine ⟨[_], (res_tmp rfl res_nil), ?_⟩
       rfl
      ·
       exact absurd (rdP_wr hC19 (by first | assumption | rfl)) e44
end Go.Proofs.Yteikngjiaboeaaa.Wt
