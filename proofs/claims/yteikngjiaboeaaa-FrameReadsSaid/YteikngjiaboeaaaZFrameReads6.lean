/- The law 'FrameReads' returns true for all arguments: what its proof stands on, part 6. -/
import Derived.Test.YteikngjiaboeaaaZFrameReads5
namespace Go.Proofs.Yteikngjiaboeaaa.Wt
open Go Go.Proofs.Yteikngjiaboeaaa.Am Go.Proofs.Yteikngjiaboeaaa.IrAll
open Nat renaming le_of_ble_eq_true → C
open Go.Proofs.Yteikngjiaboeaaa.Am.WS renaming op → D
open List renaming length_append → F
open List renaming length_cons → G
open List renaming length_nil → J
open Go.Proofs.Yteikngjiaboeaaa.Am.WS renaming nil → U
open Go.Proofs.Yteikngjiaboeaaa.Am.WC renaming seq → X
open Go.Proofs.Yteikngjiaboeaaa.Am.WC renaming run → Y
set_option linter.unusedVariables false
set_option linter.unusedSimpArgs false
theorem u8_inj {a b : UInt8} (h : a.toNat = b.toNat) : a = b := UInt8.toNat_inj.1 h
theorem u64_inj {a b : UInt64} (h : a.toNat = b.toNat) : a = b := UInt64.toNat_inj.1 h
structure Part where
  op : UInt8
  ky : List UInt8
  va : List UInt8
  deriving DecidableEq
def Part.cells (x : Part) : List Value := [(.int .u8 (((x.op).toNat : Nat) : Int)), (.string (bs x.ky)), (.string (bs x.va))]
def KPart : Row Part := ⟨Part.cells, 3, fun _ => rfl, by decide, fun _ => rfl⟩
theorem Part_eqV (x y : Part) : eqV (.agg [(0, 1), (1, 2), (2, 2)]) (.agg (Part.cells x).toArray) (.agg (Part.cells y).toArray) = some (decide (x = y)) := by
  have e : eqV (.agg [(0, 1), (1, 2), (2, 2)]) (.agg (Part.cells x).toArray) (.agg (Part.cells y).toArray) = some (((((x.op.toNat : Nat) : Int) == ((y.op.toNat : Nat) : Int)) && (((bs x.ky).toList == (bs y.ky).toList) && (((bs x.va).toList == (bs y.va).toList) && true)))) := rfl
  rw [e]; congr 1
  rw [Bool.eq_iff_iff]
  simp only [Bool.and_eq_true, beq_iff_eq, bs_toList, decide_eq_true_eq, Bool.and_true, and_true]
  constructor
  · intro h
    obtain ⟨h0, h1, h2⟩ := h
    obtain ⟨⟩ := x; obtain ⟨⟩ := y
    simp only at *
    rw [u8_inj (Int.ofNat.inj h0), h1, h2]
  · intro h; subst h; exact ⟨rfl, rfl, rfl⟩
structure Cmd where
  op : UInt8
  se : UInt64
  sq : UInt64
  ky : List UInt8
  va : List UInt8
  ex : List UInt8
  fr : List UInt8
  to : List UInt8
  li : UInt8
  le : UInt64
  tt : UInt64
  ps : List Part
  deriving DecidableEq
def Cmd.cells (c : Cmd) (V : Value) : List Value := [(.int .u8 (((c.op).toNat : Nat) : Int)), (.int .u64 (((c.se).toNat : Nat) : Int)), (.int .u64 (((c.sq).toNat : Nat) : Int)), (.string (bs c.ky)), (.string (bs c.va)), (.string (bs c.ex)), (.string (bs c.fr)), (.string (bs c.to)), (.int .u8 (((c.li).toNat : Nat) : Int)), (.int .u64 (((c.le).toNat : Nat) : Int)), (.int .u64 (((c.tt).toNat : Nat) : Int)), V]
def Cmd.val (c : Cmd) (V : Value) : Value := .agg (c.cells V).toArray
variable {h base : H} {L : List Seg} {R : List Nat}
def FitP (ps : List Part) : Prop := ∀ p ∈ ps, p.ky.length ≤ 300000 ∧ p.va.length ≤ 300000
def Fit (c : Cmd) : Prop := c.ky.length ≤ 300000 ∧ c.va.length ≤ 300000 ∧ c.ex.length ≤ 300000 ∧ c.fr.length ≤ 300000 ∧ c.to.length ≤ 300000 ∧ c.ps.length ≤ 300 ∧ FitP c.ps
theorem one_ran (W : Mem h h [] []) {n : Nat} {b : UInt8} (hb : UInt8.ofNat n = b) : Cll tab0 62 [.int .i64 (n : Int)] h (fun v h2 => v = .string (bs [b]) ∧ Mem h h2 [] []) := by
  subst hb
  refine Cll.code rfl rfl ?_
  refine WC.env [(0, _)] rfl ?_
  refine X (Y (D rfl rfl (U [(0, _)] rfl ?_)))
  refine X (Y (D rfl rfl (WS.opV (.int .u8 (((UInt8.ofNat n).toNat : Nat) : Int)) rfl rfl (u8_ofNat (n := n)) ?_)))
  refine WS.bsl W [_] rfl rfl rfl rfl ?_
  intro p1 h2 M3
  refine D rfl (op_cvB (l := [UInt8.ofNat n]) (M3.at 0 rfl) rfl rfl (C rfl) rfl) (D rfl rfl (U [(2, _)] rfl ?_))
  refine WC.ret (⟨[_], (res_tmp rfl res_nil), ?_⟩)
  exact ⟨rfl, M3.bare.take 0⟩
theorem text_ran (W : Mem h h [] []) {l : List UInt8} (hl : l.length ≤ 1000000) : Cll tab0 65 [.string (bs l)] h (fun v h2 => v = .string (bs (sb l)) ∧ Mem h h2 [] []) := by
  refine Cll.code rfl rfl ?_
  refine WC.env [(0, _)] rfl ?_
  refine X (Y (D rfl rfl (U [(0, _)] rfl ?_)))
  refine X (Y (D rfl rfl ?_))
  refine WS.bsl W [_] rfl rfl rfl rfl ?_
  intro p1 h2 M3
  refine WS.call rfl rfl rfl (ref_S_ran M3.here (Row.Sl.own (K := KStr) (l := [l]) (M3.at 0 rfl)) (by simp only [List.map_cons, List.map_nil, List.sum_cons, List.sum_nil, G, J]; omega) (r := (sb l)) (by simp [List.flatMap])) ?_
  rintro _ h4 ⟨rfl, N5⟩
  have M6 := M3.trans N5
  refine D rfl rfl (U [(2, _)] rfl ?_)
  refine WC.ret (⟨[_], (res_tmp rfl res_nil), ?_⟩)
  exact ⟨rfl, M6.bare.take 0⟩
def partB (p : Part) : List UInt8 := ([p.op] ++ sb p.ky) ++ (if p.op.toNat = 2 then sb p.va else [])
def blank (c : Cmd) : Cmd := ⟨c.op, c.se, c.sq, [], [], [], [], [], 0, 0, 0, []⟩
def plain (c : Cmd) : Cmd :=
  if c.op.toNat = 1 ∨ c.op.toNat = 6 then { blank c with tt := c.tt }
  else if c.op.toNat = 2 then { blank c with ky := c.ky, va := c.va, le := c.le }
  else if c.op.toNat = 3 ∨ c.op.toNat = 8 then { blank c with ky := c.ky }
  else if c.op.toNat = 4 then { blank c with ky := c.ky, ex := c.ex, va := c.va }
  else if c.op.toNat = 5 then { blank c with ps := c.ps }
  else if c.op.toNat = 7 then { blank c with le := c.le }
  else if c.op.toNat = 9 then { blank c with fr := c.fr, to := c.to, li := c.li }
  else blank c
def bodyB (c : Cmd) : List UInt8 :=
  if c.op.toNat = 1 ∨ c.op.toNat = 6 then vb c.tt.toNat
  else if c.op.toNat = 2 then (sb c.ky ++ sb c.va) ++ vb c.le.toNat
  else if c.op.toNat = 3 ∨ c.op.toNat = 8 then sb c.ky
  else if c.op.toNat = 4 then (sb c.ky ++ sb c.ex) ++ sb c.va
  else if c.op.toNat = 5 then [UInt8.ofNat c.ps.length] ++ c.ps.flatMap partB
  else if c.op.toNat = 7 then vb c.le.toNat
  else if c.op.toNat = 9 then (sb c.fr ++ sb c.to) ++ [c.li]
  else []
def headB (c : Cmd) : List UInt8 := ([c.op] ++ vb c.se.toNat) ++ vb c.sq.toNat
def encC (c : Cmd) : List UInt8 := headB c ++ bodyB c
section
variable {c : Cmd}
theorem enc_1 (h : c.op.toNat = 1 ∨ c.op.toNat = 6) : plain c = { blank c with tt := c.tt } ∧ bodyB c = vb c.tt.toNat := ⟨if_pos h, if_pos h⟩
theorem enc_2 (h : c.op.toNat = 2) : plain c = { blank c with ky := c.ky, va := c.va, le := c.le } ∧ bodyB c = (sb c.ky ++ sb c.va) ++ vb c.le.toNat := by unfold plain bodyB; simp [h]
theorem enc_3 (h : c.op.toNat = 3 ∨ c.op.toNat = 8) : plain c = { blank c with ky := c.ky } ∧ bodyB c = sb c.ky := by
  unfold plain bodyB; rw [if_neg (by omega), if_neg (by omega), if_pos h, if_neg (by omega), if_neg (by omega), if_pos h]; exact ⟨rfl, rfl⟩
theorem enc_4 (h : c.op.toNat = 4) : plain c = { blank c with ky := c.ky, ex := c.ex, va := c.va } ∧ bodyB c = (sb c.ky ++ sb c.ex) ++ sb c.va := by unfold plain bodyB; simp [h]
theorem enc_5 (h : c.op.toNat = 5) : plain c = { blank c with ps := c.ps } ∧ bodyB c = [UInt8.ofNat c.ps.length] ++ c.ps.flatMap partB := by unfold plain bodyB; simp [h]
theorem enc_7 (h : c.op.toNat = 7) : plain c = { blank c with le := c.le } ∧ bodyB c = vb c.le.toNat := by unfold plain bodyB; simp [h]
theorem enc_9 (h : c.op.toNat = 9) : plain c = { blank c with fr := c.fr, to := c.to, li := c.li } ∧ bodyB c = (sb c.fr ++ sb c.to) ++ [c.li] := by unfold plain bodyB; simp [h]
theorem enc_0 (h : ¬ (1 ≤ c.op.toNat ∧ c.op.toNat ≤ 9)) : plain c = blank c ∧ bodyB c = [] := by
  unfold plain bodyB; rw [if_neg (by omega), if_neg (by omega), if_neg (by omega), if_neg (by omega), if_neg (by omega), if_neg (by omega), if_neg (by omega), if_neg (by omega), if_neg (by omega), if_neg (by omega), if_neg (by omega), if_neg (by omega), if_neg (by omega), if_neg (by omega)]; exact ⟨rfl, rfl⟩
end
theorem sb_len3 {t : List UInt8} (h : t.length ≤ 300000) : (sb t).length ≤ 300010 := by have := sb_len (t := t) (by omega); omega
set_option maxRecDepth 8000 in
theorem Bytes_ran (W : Mem h h [] []) {c : Cmd} {V : Value} (A : KPart.Sl h V c.ps) (hf : Fit c) : Cll tab0 59 [c.val V] h (fun v h2 => ∃ V2, (∀ hh, KPart.Sl hh (V) c.ps → KPart.Sl hh V2 (plain c).ps) ∧ v = .tuple #[.string (bs (encC c)), (plain c).val V2] ∧ Mem h h2 [] []) := by
  obtain ⟨P, n, rfl⟩ := A.shape
  obtain ⟨f1, f2, f3, f4, f5, f6, f7⟩ := hf
  have v1 := vb_len c.se.toNat_lt
  have v2 := vb_len c.sq.toNat_lt
  have v3 := vb_len c.tt.toNat_lt
  have v4 := vb_len c.le.toNat_lt
  have s1 := sb_len3 f1
  have s2 := sb_len3 f2
  have s3 := sb_len3 f3
  have s4 := sb_len3 f4
  have s5 := sb_len3 f5
  have u1 := c.se.toNat_lt
  have u2 := c.sq.toNat_lt
  have u3 := c.tt.toNat_lt
  have u4 := c.le.toNat_lt
  refine Cll.code rfl rfl ?_
  refine WC.env [(0, _)] rfl ?_
  refine X (Y (WS.box W [_, _, _, _, _, _, _, _, _, _, _, _] rfl rfl rfl rfl ?_))
  intro p1 h2 M3
  refine D rfl rfl ?_
  refine WS.new M3 rfl ?_
  intro p4 h5 M6
  refine U [(1, _), (3, _)] rfl ?_
  refine X (Y (D rfl rfl (D rfl (op_ld (M6.at 1 rfl) rfl rfl) (D rfl rfl (D rfl (op_ld (M6.at 1 rfl) rfl rfl) (D rfl rfl (D rfl (op_ld (M6.at 1 rfl) rfl rfl) (WS.opV (.agg #[(.int .u8 (((c.op).toNat : Nat) : Int)), (.int .u64 (((c.se).toNat : Nat) : Int)), (.int .u64 (((c.sq).toNat : Nat) : Int)), (.string (bs ([]))), (.string (bs ([]))), (.string (bs ([]))), (.string (bs ([]))), (.string (bs ([]))), (.int .u8 (0 : Int)), (.int .u64 (0 : Int)), (.int .u64 (0 : Int)), (.slice none 0 0)]) rfl rfl rfl ?_))))))))
  refine WS.new M6 rfl ?_
  intro p7 h8 M9
  refine WS.st1 (M9.focus 0 rfl) [_, _, _, _, _, _, _, _, _, _, _, _] [_, _, _, _, _, _, _, _, _, _, _, _] rfl rfl rfl rfl rfl (C rfl) (C rfl) rfl rfl ?_
  intro h10 M11
  replace M11 : Mem _ _ ([(p7, _)] :: [(p4, _)] :: [(p1, _)] :: []) _ := M11
  refine U [(1, _), (3, _), (4, _)] rfl ?_
  refine X (WC.draw M11 [] rfl ?_)
  intro rb12 h13 M14
  refine D rfl rfl (D rfl (op_ld (M14.at 2 rfl) rfl rfl) (WS.opV (.int .i64 (((c.op).toNat : Nat) : Int)) rfl rfl (cv_i64 (n := (c.op).toNat) (by have := UInt8.toNat_lt (c.op); omega)) (D rfl rfl (D rfl (op_ld (M14.at 2 rfl) rfl rfl) (D rfl rfl (D rfl (op_ld (M14.at 2 rfl) rfl rfl) ?_))))))
  refine WS.call rfl rfl rfl (one_ran M14.here (n := (c.op).toNat) (b := c.op) (by first | rfl | simp)) ?_
  rintro _ h15 ⟨rfl, N16⟩
  have M17 := M14.trans N16
  refine WS.chk rfl (op_ld (M17.at 2 rfl) rfl rfl) rfl (sameV_refl rfl) (WS.chk rfl (op_ld (M17.at 2 rfl) rfl rfl) rfl (sameV_refl rfl) ?_)
  refine WS.call rfl rfl rfl (ref_One_ran M17.here (n := ((c.se).toNat)) (by omega)) ?_
  rintro _ h18 ⟨rfl, N19⟩
  have M20 := M17.trans N19
  refine WS.chk rfl (op_ld (M20.at 2 rfl) rfl rfl) rfl (sameV_refl rfl) (D rfl (op_sadd (l := [c.op]) (m := (vb ((c.se).toNat))) rfl rfl (by simp only [F, G, J]; omega)) ?_)
  refine WS.call rfl rfl rfl (ref_One_ran M20.here (n := ((c.sq).toNat)) (by omega)) ?_
  rintro _ h22 ⟨rfl, N23⟩
  have M24 := M20.trans N23
  refine D rfl (op_sadd (l := ([c.op] ++ (vb ((c.se).toNat)))) (m := (vb ((c.sq).toNat))) rfl rfl (by simp only [F, G, J]; omega)) (D rfl rfl (U [(1, _), (3, _), (4, _), (5, _)] rfl ?_))
  refine X (X (Y (D rfl rfl (D rfl (op_ld (M24.bare.at 2 rfl) rfl rfl) (U [(1, _), (3, _), (4, _), (5, _), (28, _)] rfl ?_)))))
  refine WC.block (X (X (Y (WS.eqlN (a := (c.op).toNat) (b := 1) rfl rfl rfl (fun e30 => ?_) (fun e30 => ?_)))))
  ·
   refine D rfl rfl (U [(1, _), (3, _), (4, _), (5, _), (28, _), (29, _)] rfl ?_)
   refine WC.condT rfl (WC.skip (WC.condT rfl (X (Y (D rfl rfl (D rfl (op_ld (M24.bare.at 2 rfl) rfl rfl) (D rfl rfl ?_)))))))
   refine WS.st1 (M24.bare.focus 0 rfl) [_] [_, _, _, _, _, _, _, _, _, _, _, _] rfl rfl rfl rfl rfl (C rfl) (C rfl) rfl rfl ?_
   intro h26 M27
   replace M27 : Mem _ _ ([(p7, _)] :: [(p4, _)] :: [(p1, _)] :: []) _ := M27
   refine U [(1, _), (3, _), (4, _), (5, _)] rfl ?_
   refine Y (D rfl rfl (D rfl rfl (D rfl (op_ld (M27.at 2 rfl) rfl rfl) ?_)))
   refine WS.call rfl rfl rfl (ref_One_ran M27.here (n := ((c.tt).toNat)) (by omega)) ?_
   rintro _ h28 ⟨rfl, N29⟩
   have M30 := M27.trans N29
   refine D rfl (op_sadd (l := (([c.op] ++ (vb ((c.se).toNat))) ++ (vb ((c.sq).toNat)))) (m := (vb ((c.tt).toNat))) rfl rfl (by simp only [F, G, J]; omega)) (D rfl rfl (U [(3, _), (4, _), (5, _)] rfl ?_))
   refine X (WC.draw M30 [] rfl ?_)
   intro rb32 h33 M34
   refine D rfl rfl (D rfl (op_lds [_, _, _, _, _, _, _, _, _, _, _, _] (M34.at 0 rfl) rfl (C rfl) rfl) (D rfl rfl ?_))
   refine WS.st1 (M34.focus 1 rfl) [_, _, _, _, _, _, _, _, _, _, _, _] [_, _, _, _, _, _, _, _, _, _, _, _] rfl rfl rfl rfl rfl (C rfl) (C rfl) rfl rfl ?_
   intro h35 M36
   replace M36 : Mem _ _ ([(p4, _)] :: [(p7, _)] :: [(p1, _)] :: []) _ := M36
   refine U [(2, _), (3, _)] rfl ?_
   refine WC.ret (⟨[_, _], (res_tmp rfl (res_cellN [_, _, _, _, _, _, _, _, _, _, _, _] rfl (M36.bare.at 0 rfl) (C rfl) rfl res_nil)), ?_⟩)
   obtain ⟨q1, q2⟩ := enc_1 (c := c) (by omega)
   have q3 : encC c = ((([c.op] ++ (vb ((c.se).toNat))) ++ (vb ((c.sq).toNat))) ++ (vb ((c.tt).toNat))) := by unfold encC; rw [q2]; simp [headB]
   rw [q1, q3]
   exact ⟨_, fun _ _ => .nil, rfl, M36.bare.bare.take 0⟩
  ·
   refine D rfl rfl (U [(1, _), (3, _), (4, _), (5, _), (28, _), (29, _)] rfl ?_)
   refine WC.condF rfl (Y (WS.eqlN (a := (c.op).toNat) (b := 6) rfl rfl rfl (fun e31 => ?_) (fun e31 => ?_)))
   ·
    refine D rfl rfl (U [(1, _), (3, _), (4, _), (5, _), (28, _), (29, _)] rfl ?_)
    refine WC.condT rfl (X (Y (D rfl rfl (D rfl (op_ld (M24.bare.at 2 rfl) rfl rfl) (D rfl rfl ?_)))))
    refine WS.st1 (M24.bare.focus 0 rfl) [_] [_, _, _, _, _, _, _, _, _, _, _, _] rfl rfl rfl rfl rfl (C rfl) (C rfl) rfl rfl ?_
    intro h37 M38
    replace M38 : Mem _ _ ([(p7, _)] :: [(p4, _)] :: [(p1, _)] :: []) _ := M38
    refine U [(1, _), (3, _), (4, _), (5, _)] rfl ?_
    refine Y (D rfl rfl (D rfl rfl (D rfl (op_ld (M38.at 2 rfl) rfl rfl) ?_)))
    refine WS.call rfl rfl rfl (ref_One_ran M38.here (n := ((c.tt).toNat)) (by omega)) ?_
    rintro _ h39 ⟨rfl, N40⟩
    have M41 := M38.trans N40
    refine D rfl (op_sadd (l := (([c.op] ++ (vb ((c.se).toNat))) ++ (vb ((c.sq).toNat)))) (m := (vb ((c.tt).toNat))) rfl rfl (by simp only [F, G, J]; omega)) (D rfl rfl (U [(3, _), (4, _), (5, _)] rfl ?_))
    refine X (WC.draw M41 [] rfl ?_)
    intro rb43 h44 M45
    refine D rfl rfl (D rfl (op_lds [_, _, _, _, _, _, _, _, _, _, _, _] (M45.at 0 rfl) rfl (C rfl) rfl) (D rfl rfl ?_))
    refine WS.st1 (M45.focus 1 rfl) [_, _, _, _, _, _, _, _, _, _, _, _] [_, _, _, _, _, _, _, _, _, _, _, _] rfl rfl rfl rfl rfl (C rfl) (C rfl) rfl rfl ?_
    intro h46 M47
    replace M47 : Mem _ _ ([(p4, _)] :: [(p7, _)] :: [(p1, _)] :: []) _ := M47
    refine U [(2, _), (3, _)] rfl ?_
    refine WC.ret (⟨[_, _], (res_tmp rfl (res_cellN [_, _, _, _, _, _, _, _, _, _, _, _] rfl (M47.bare.at 0 rfl) (C rfl) rfl res_nil)), ?_⟩)
    obtain ⟨q1, q2⟩ := enc_1 (c := c) (by omega)
    have q3 : encC c = ((([c.op] ++ (vb ((c.se).toNat))) ++ (vb ((c.sq).toNat))) ++ (vb ((c.tt).toNat))) := by unfold encC; rw [q2]; simp [headB]
    rw [q1, q3]
    exact ⟨_, fun _ _ => .nil, rfl, M47.bare.bare.take 0⟩
   ·
    refine D rfl rfl (U [(1, _), (3, _), (4, _), (5, _), (28, _), (29, _)] rfl ?_)
    refine WC.condF rfl (X (Y (WS.eqlN (a := (c.op).toNat) (b := 2) rfl rfl rfl (fun e41 => ?_) (fun e41 => ?_))))
    ·
     refine D rfl rfl (U [(1, _), (3, _), (4, _), (5, _), (28, _), (40, _)] rfl ?_)
     refine WC.condT rfl (X (Y (D rfl rfl (D rfl (op_ld (M24.bare.at 2 rfl) rfl rfl) (D rfl rfl ?_)))))
     refine WS.st1 (M24.bare.focus 0 rfl) [_] [_, _, _, _, _, _, _, _, _, _, _, _] rfl rfl rfl rfl rfl (C rfl) (C rfl) rfl rfl ?_
     intro h48 M49
     replace M49 : Mem _ _ ([(p7, _)] :: [(p4, _)] :: [(p1, _)] :: []) _ := M49
     refine U [(1, _), (3, _), (4, _), (5, _)] rfl ?_
     refine X (Y (D rfl rfl (D rfl (op_ld (M49.at 2 rfl) rfl rfl) (D rfl rfl ?_))))
     refine WS.st1 (M49.focus 0 rfl) [_] [_, _, _, _, _, _, _, _, _, _, _, _] rfl rfl rfl rfl rfl (C rfl) (C rfl) rfl rfl ?_
     intro h50 M51
     replace M51 : Mem _ _ ([(p7, _)] :: [(p4, _)] :: [(p1, _)] :: []) _ := M51
     refine U [(1, _), (3, _), (4, _), (5, _)] rfl ?_
     refine X (Y (D rfl rfl (D rfl (op_ld (M51.at 2 rfl) rfl rfl) (D rfl rfl ?_))))
     refine WS.st1 (M51.focus 0 rfl) [_] [_, _, _, _, _, _, _, _, _, _, _, _] rfl rfl rfl rfl rfl (C rfl) (C rfl) rfl rfl ?_
     intro h52 M53
     replace M53 : Mem _ _ ([(p7, _)] :: [(p4, _)] :: [(p1, _)] :: []) _ := M53
     refine U [(1, _), (3, _), (4, _), (5, _)] rfl ?_
     refine WC.draw M53 [] rfl ?_
     intro rb54 h55 M56
     refine D rfl rfl (D rfl rfl (D rfl (op_ld (M56.at 2 rfl) rfl rfl) (D rfl rfl (D rfl (op_ld (M56.at 2 rfl) rfl rfl) (D rfl rfl (D rfl (op_ld (M56.at 2 rfl) rfl rfl) ?_))))))
     refine WS.call rfl rfl rfl (text_ran M56.here (l := c.ky) (by omega)) ?_
     rintro _ h57 ⟨rfl, N58⟩
     have M59 := M56.trans N58
     refine WS.chk rfl (op_ld (M59.at 2 rfl) rfl rfl) rfl (sameV_refl rfl) (WS.chk rfl (op_ld (M59.at 2 rfl) rfl rfl) rfl (sameV_refl rfl) (D rfl (op_sadd (l := (([c.op] ++ (vb ((c.se).toNat))) ++ (vb ((c.sq).toNat)))) (m := (sb c.ky)) rfl rfl (by simp only [F, G, J]; omega)) ?_))
     refine WS.call rfl rfl rfl (text_ran M59.here (l := c.va) (by omega)) ?_
     rintro _ h60 ⟨rfl, N61⟩
     have M62 := M59.trans N61
     refine WS.chk rfl (op_ld (M62.at 2 rfl) rfl rfl) rfl (sameV_refl rfl) (D rfl (op_sadd (l := ((([c.op] ++ (vb ((c.se).toNat))) ++ (vb ((c.sq).toNat))) ++ (sb c.ky))) (m := (sb c.va)) rfl rfl (by simp only [F, G, J]; omega)) ?_)
     refine WS.call rfl rfl rfl (ref_One_ran M62.here (n := ((c.le).toNat)) (by omega)) ?_
     rintro _ h63 ⟨rfl, N64⟩
     have M65 := M62.trans N64
     refine D rfl (op_sadd (l := (((([c.op] ++ (vb ((c.se).toNat))) ++ (vb ((c.sq).toNat))) ++ (sb c.ky)) ++ (sb c.va))) (m := (vb ((c.le).toNat))) rfl rfl (by simp only [F, G, J]; omega)) (D rfl rfl (U [(3, _), (4, _), (5, _)] rfl ?_))
     refine X (WC.draw M65.bare [] rfl ?_)
     intro rb67 h68 M69
     refine D rfl rfl (D rfl (op_lds [_, _, _, _, _, _, _, _, _, _, _, _] (M69.at 0 rfl) rfl (C rfl) rfl) (D rfl rfl ?_))
     refine WS.st1 (M69.focus 1 rfl) [_, _, _, _, _, _, _, _, _, _, _, _] [_, _, _, _, _, _, _, _, _, _, _, _] rfl rfl rfl rfl rfl (C rfl) (C rfl) rfl rfl ?_
     intro h70 M71
     replace M71 : Mem _ _ ([(p4, _)] :: [(p7, _)] :: [(p1, _)] :: []) _ := M71
     refine U [(2, _), (3, _)] rfl ?_
     refine WC.ret (⟨[_, _], (res_tmp rfl (res_cellN [_, _, _, _, _, _, _, _, _, _, _, _] rfl (M71.bare.at 0 rfl) (C rfl) rfl res_nil)), ?_⟩)
     obtain ⟨q1, q2⟩ := enc_2 (c := c) (by omega)
     have q3 : encC c = ((((([c.op] ++ (vb ((c.se).toNat))) ++ (vb ((c.sq).toNat))) ++ (sb c.ky)) ++ (sb c.va)) ++ (vb ((c.le).toNat))) := by unfold encC; rw [q2]; simp [headB]
     rw [q1, q3]
     exact ⟨_, fun _ _ => .nil, rfl, M71.bare.bare.take 0⟩
    ·
     refine D rfl rfl (U [(1, _), (3, _), (4, _), (5, _), (28, _), (40, _)] rfl ?_)
     refine WC.condF rfl (X (X (Y (WS.eqlN (a := (c.op).toNat) (b := 3) rfl rfl rfl (fun e65 => ?_) (fun e65 => ?_)))))
     ·
      refine D rfl rfl (U [(1, _), (3, _), (4, _), (5, _), (28, _), (64, _)] rfl ?_)
      refine WC.condT rfl (WC.skip (WC.condT rfl (X (Y (D rfl rfl (D rfl (op_ld (M24.bare.at 2 rfl) rfl rfl) (D rfl rfl ?_)))))))
      refine WS.st1 (M24.bare.focus 0 rfl) [_] [_, _, _, _, _, _, _, _, _, _, _, _] rfl rfl rfl rfl rfl (C rfl) (C rfl) rfl rfl ?_
      intro h72 M73
      replace M73 : Mem _ _ ([(p7, _)] :: [(p4, _)] :: [(p1, _)] :: []) _ := M73
      refine U [(1, _), (3, _), (4, _), (5, _)] rfl ?_
      refine Y (D rfl rfl (D rfl rfl (D rfl (op_ld (M73.at 2 rfl) rfl rfl) ?_)))
      refine WS.call rfl rfl rfl (text_ran M73.here (l := c.ky) (by omega)) ?_
      rintro _ h74 ⟨rfl, N75⟩
      have M76 := M73.trans N75
      refine D rfl (op_sadd (l := (([c.op] ++ (vb ((c.se).toNat))) ++ (vb ((c.sq).toNat)))) (m := (sb c.ky)) rfl rfl (by simp only [F, G, J]; omega)) (D rfl rfl (U [(3, _), (4, _), (5, _)] rfl ?_))
      refine X (WC.draw M76 [] rfl ?_)
      intro rb77 h78 M79
      refine D rfl rfl (D rfl (op_lds [_, _, _, _, _, _, _, _, _, _, _, _] (M79.at 0 rfl) rfl (C rfl) rfl) (D rfl rfl ?_))
      refine WS.st1 (M79.focus 1 rfl) [_, _, _, _, _, _, _, _, _, _, _, _] [_, _, _, _, _, _, _, _, _, _, _, _] rfl rfl rfl rfl rfl (C rfl) (C rfl) rfl rfl ?_
      intro h80 M81
      replace M81 : Mem _ _ ([(p4, _)] :: [(p7, _)] :: [(p1, _)] :: []) _ := M81
      refine U [(2, _), (3, _)] rfl ?_
      refine WC.ret (⟨[_, _], (res_tmp rfl (res_cellN [_, _, _, _, _, _, _, _, _, _, _, _] rfl (M81.bare.at 0 rfl) (C rfl) rfl res_nil)), ?_⟩)
      obtain ⟨q1, q2⟩ := enc_3 (c := c) (by omega)
      have q3 : encC c = ((([c.op] ++ (vb ((c.se).toNat))) ++ (vb ((c.sq).toNat))) ++ (sb c.ky)) := by unfold encC; rw [q2]; simp [headB]
      rw [q1, q3]
      exact ⟨_, fun _ _ => .nil, rfl, M81.bare.bare.take 0⟩
     ·
      refine D rfl rfl (U [(1, _), (3, _), (4, _), (5, _), (28, _), (64, _)] rfl ?_)
      refine WC.condF rfl (Y (WS.eqlN (a := (c.op).toNat) (b := 8) rfl rfl rfl (fun e66 => ?_) (fun e66 => ?_)))
      ·
       refine D rfl rfl (U [(1, _), (3, _), (4, _), (5, _), (28, _), (64, _)] rfl ?_)
       refine WC.condT rfl (X (Y (D rfl rfl (D rfl (op_ld (M24.bare.at 2 rfl) rfl rfl) (D rfl rfl ?_)))))
       refine WS.st1 (M24.bare.focus 0 rfl) [_] [_, _, _, _, _, _, _, _, _, _, _, _] rfl rfl rfl rfl rfl (C rfl) (C rfl) rfl rfl ?_
       intro h82 M83
       replace M83 : Mem _ _ ([(p7, _)] :: [(p4, _)] :: [(p1, _)] :: []) _ := M83
       refine U [(1, _), (3, _), (4, _), (5, _)] rfl ?_
       refine Y (D rfl rfl (D rfl rfl (D rfl (op_ld (M83.at 2 rfl) rfl rfl) ?_)))
       refine WS.call rfl rfl rfl (text_ran M83.here (l := c.ky) (by omega)) ?_
       rintro _ h84 ⟨rfl, N85⟩
       have M86 := M83.trans N85
       refine D rfl (op_sadd (l := (([c.op] ++ (vb ((c.se).toNat))) ++ (vb ((c.sq).toNat)))) (m := (sb c.ky)) rfl rfl (by simp only [F, G, J]; omega)) (D rfl rfl (U [(3, _), (4, _), (5, _)] rfl ?_))
       refine X (WC.draw M86 [] rfl ?_)
       intro rb87 h88 M89
       refine D rfl rfl (D rfl (op_lds [_, _, _, _, _, _, _, _, _, _, _, _] (M89.at 0 rfl) rfl (C rfl) rfl) (D rfl rfl ?_))
       refine WS.st1 (M89.focus 1 rfl) [_, _, _, _, _, _, _, _, _, _, _, _] [_, _, _, _, _, _, _, _, _, _, _, _] rfl rfl rfl rfl rfl (C rfl) (C rfl) rfl rfl ?_
       intro h90 M91
       replace M91 : Mem _ _ ([(p4, _)] :: [(p7, _)] :: [(p1, _)] :: []) _ := M91
       refine U [(2, _), (3, _)] rfl ?_
       refine WC.ret (⟨[_, _], (res_tmp rfl (res_cellN [_, _, _, _, _, _, _, _, _, _, _, _] rfl (M91.bare.at 0 rfl) (C rfl) rfl res_nil)), ?_⟩)
       obtain ⟨q1, q2⟩ := enc_3 (c := c) (by omega)
       have q3 : encC c = ((([c.op] ++ (vb ((c.se).toNat))) ++ (vb ((c.sq).toNat))) ++ (sb c.ky)) := by unfold encC; rw [q2]; simp [headB]
       rw [q1, q3]
       exact ⟨_, fun _ _ => .nil, rfl, M91.bare.bare.take 0⟩
      ·
       refine D rfl rfl (U [(1, _), (3, _), (4, _), (5, _), (28, _), (64, _)] rfl ?_)
       refine WC.condF rfl (X (Y (WS.eqlN (a := (c.op).toNat) (b := 4) rfl rfl rfl (fun e76 => ?_) (fun e76 => ?_))))
       ·
        refine D rfl rfl (U [(1, _), (3, _), (4, _), (5, _), (28, _), (75, _)] rfl ?_)
        refine WC.condT rfl (X (Y (D rfl rfl (D rfl (op_ld (M24.bare.at 2 rfl) rfl rfl) (D rfl rfl ?_)))))
        refine WS.st1 (M24.bare.focus 0 rfl) [_] [_, _, _, _, _, _, _, _, _, _, _, _] rfl rfl rfl rfl rfl (C rfl) (C rfl) rfl rfl ?_
        intro h92 M93
        replace M93 : Mem _ _ ([(p7, _)] :: [(p4, _)] :: [(p1, _)] :: []) _ := M93
        refine U [(1, _), (3, _), (4, _), (5, _)] rfl ?_
        refine X (Y (D rfl rfl (D rfl (op_ld (M93.at 2 rfl) rfl rfl) (D rfl rfl ?_))))
        refine WS.st1 (M93.focus 0 rfl) [_] [_, _, _, _, _, _, _, _, _, _, _, _] rfl rfl rfl rfl rfl (C rfl) (C rfl) rfl rfl ?_
        intro h94 M95
        replace M95 : Mem _ _ ([(p7, _)] :: [(p4, _)] :: [(p1, _)] :: []) _ := M95
        refine U [(1, _), (3, _), (4, _), (5, _)] rfl ?_
        refine X (Y (D rfl rfl (D rfl (op_ld (M95.at 2 rfl) rfl rfl) (D rfl rfl ?_))))
        refine WS.st1 (M95.focus 0 rfl) [_] [_, _, _, _, _, _, _, _, _, _, _, _] rfl rfl rfl rfl rfl (C rfl) (C rfl) rfl rfl ?_
        intro h96 M97
        replace M97 : Mem _ _ ([(p7, _)] :: [(p4, _)] :: [(p1, _)] :: []) _ := M97
        refine U [(1, _), (3, _), (4, _), (5, _)] rfl ?_
        refine WC.draw M97 [] rfl ?_
        intro rb98 h99 M100
        refine D rfl rfl (D rfl rfl (D rfl (op_ld (M100.at 2 rfl) rfl rfl) (D rfl rfl (D rfl (op_ld (M100.at 2 rfl) rfl rfl) (D rfl rfl (D rfl (op_ld (M100.at 2 rfl) rfl rfl) ?_))))))
        refine WS.call rfl rfl rfl (text_ran M100.here (l := c.ky) (by omega)) ?_
        rintro _ h101 ⟨rfl, N102⟩
        have M103 := M100.trans N102
        refine WS.chk rfl (op_ld (M103.at 2 rfl) rfl rfl) rfl (sameV_refl rfl) (WS.chk rfl (op_ld (M103.at 2 rfl) rfl rfl) rfl (sameV_refl rfl) (D rfl (op_sadd (l := (([c.op] ++ (vb ((c.se).toNat))) ++ (vb ((c.sq).toNat)))) (m := (sb c.ky)) rfl rfl (by simp only [F, G, J]; omega)) ?_))
        refine WS.call rfl rfl rfl (text_ran M103.here (l := c.ex) (by omega)) ?_
        rintro _ h104 ⟨rfl, N105⟩
        have M106 := M103.trans N105
        refine WS.chk rfl (op_ld (M106.at 2 rfl) rfl rfl) rfl (sameV_refl rfl) (D rfl (op_sadd (l := ((([c.op] ++ (vb ((c.se).toNat))) ++ (vb ((c.sq).toNat))) ++ (sb c.ky))) (m := (sb c.ex)) rfl rfl (by simp only [F, G, J]; omega)) ?_)
        refine WS.call rfl rfl rfl (text_ran M106.here (l := c.va) (by omega)) ?_
        rintro _ h107 ⟨rfl, N108⟩
        have M109 := M106.trans N108
        refine D rfl (op_sadd (l := (((([c.op] ++ (vb ((c.se).toNat))) ++ (vb ((c.sq).toNat))) ++ (sb c.ky)) ++ (sb c.ex))) (m := (sb c.va)) rfl rfl (by simp only [F, G, J]; omega)) (D rfl rfl (U [(3, _), (4, _), (5, _)] rfl ?_))
        refine X (WC.draw M109.bare [] rfl ?_)
        intro rb110 h111 M112
        refine D rfl rfl (D rfl (op_lds [_, _, _, _, _, _, _, _, _, _, _, _] (M112.at 0 rfl) rfl (C rfl) rfl) (D rfl rfl ?_))
        refine WS.st1 (M112.focus 1 rfl) [_, _, _, _, _, _, _, _, _, _, _, _] [_, _, _, _, _, _, _, _, _, _, _, _] rfl rfl rfl rfl rfl (C rfl) (C rfl) rfl rfl ?_
        intro h113 M114
        replace M114 : Mem _ _ ([(p4, _)] :: [(p7, _)] :: [(p1, _)] :: []) _ := M114
        refine U [(2, _), (3, _)] rfl ?_
        refine WC.ret (⟨[_, _], (res_tmp rfl (res_cellN [_, _, _, _, _, _, _, _, _, _, _, _] rfl (M114.bare.at 0 rfl) (C rfl) rfl res_nil)), ?_⟩)
        obtain ⟨q1, q2⟩ := enc_4 (c := c) (by omega)
        have q3 : encC c = ((((([c.op] ++ (vb ((c.se).toNat))) ++ (vb ((c.sq).toNat))) ++ (sb c.ky)) ++ (sb c.ex)) ++ (sb c.va)) := by unfold encC; rw [q2]; simp [headB]
        rw [q1, q3]
        exact ⟨_, fun _ _ => .nil, rfl, M114.bare.bare.take 0⟩
       ·
        refine D rfl rfl (U [(1, _), (3, _), (4, _), (5, _), (28, _), (75, _)] rfl ?_)
        refine WC.condF rfl (X (Y (WS.eqlN (a := (c.op).toNat) (b := 5) rfl rfl rfl (fun e100 => ?_) (fun e100 => ?_))))
        ·
         refine D rfl rfl (U [(1, _), (3, _), (4, _), (5, _), (28, _), (99, _)] rfl ?_)
         refine WC.condT rfl (X (Y (D rfl rfl (D rfl (op_ld (M24.bare.at 2 rfl) rfl rfl) (D rfl rfl ?_)))))
         refine WS.st1 (M24.bare.focus 0 rfl) [_] [_, _, _, _, _, _, _, _, _, _, _, _] rfl rfl rfl rfl rfl (C rfl) (C rfl) rfl rfl ?_
         intro h115 M116
         replace M116 : Mem _ _ ([(p7, _)] :: [(p4, _)] :: [(p1, _)] :: []) _ := M116
         refine U [(1, _), (3, _), (4, _), (5, _)] rfl ?_
         refine X (Y (D rfl rfl (D rfl rfl (D rfl (op_ld (M116.at 2 rfl) rfl rfl) (D rfl (op_lenVS A rfl) ?_)))))
         refine WS.call rfl rfl rfl (one_ran M116.here (n := (c.ps).length) (b := UInt8.ofNat ((c.ps).length)) (by first | rfl | simp)) ?_
         rintro _ h117 ⟨rfl, N118⟩
         have M119 := M116.trans N118
         refine D rfl (op_sadd (l := (([c.op] ++ (vb ((c.se).toNat))) ++ (vb ((c.sq).toNat)))) (m := [UInt8.ofNat ((c.ps).length)]) rfl rfl (by simp only [F, G, J]; omega)) (D rfl rfl (U [(1, _), (3, _), (4, _), (5, _)] rfl ?_))
         refine X (Y (D rfl rfl (U [(1, _), (3, _), (4, _), (5, _), (6, _)] rfl ?_)))
         refine WC.block ?_
         obtain ⟨L120, eL122, M121⟩ := Mem.name M119.bare
         refine WC.loop (σ := List UInt8 × Nat) (fun ((out, i)) => [(1, (.pointer (some ⟨p1, 0, none⟩))), (3, (.pointer (some ⟨p4, 0, none⟩))), (4, (.pointer (some ⟨p7, 0, none⟩))), (5, (.string (bs out))), (6, (.int .i64 ((i : Nat) : Int)))]) (fun ((out, i)) hh => Mem h hh (L120) [] ∧ out = (headB c ++ [UInt8.ofNat c.ps.length]) ++ (c.ps.take i).flatMap partB ∧ i ≤ c.ps.length ∧ out.length ≤ 100 + 610000 * i) (fun ((out, i)) => c.ps.length - i) (((([c.op] ++ (vb ((c.se).toNat))) ++ (vb ((c.sq).toNat))) ++ [UInt8.ofNat ((c.ps).length)]), 0) rfl ⟨M121, ?_⟩ ?_
         · exact ⟨by simp [headB], by omega, by simp only [F, G, J]; omega⟩
         ·rintro ⟨out, i⟩ h123 ⟨M124, ⟨hO, hi1, hol⟩⟩
          subst eL122
          refine WC.env [(1, _), (3, _), (4, _), (5, _), (6, _)] rfl ?_
          refine X (X (Y (D rfl rfl (D rfl rfl (D rfl (op_ld (M124.at 2 rfl) rfl rfl) (D rfl (op_lenVS A rfl) ?_))))))
          refine WS.lssN (a := i) (b := (c.ps).length) rfl rfl rfl (fun e114 => ?_) (fun e114 => ?_)
          ·
           refine U [(1, _), (3, _), (4, _), (5, _), (6, _), (114, _)] rfl ?_
           refine WC.condT rfl (WC.skip (X (WC.block (X (Y (D rfl rfl (D rfl (op_ld (M124.at 2 rfl) rfl rfl) (D rfl rfl ?_))))))))
           obtain ⟨y120, hy120⟩ : ∃ y, (c.ps)[i]? = some y := ⟨_, List.getElem?_eq_getElem (show i < (c.ps).length by first | omega | (simp only [List.length_drop, List.length_take, F, G, J, List.length_singleton]; omega) | (simp only [List.length_drop, List.length_take, F, G, J, List.length_singleton] at *; omega))⟩
           refine WS.iaVS A i hy120 rfl rfl rfl rfl ?_
           intro b120_ o120_ ha120
           refine D rfl (op_ldAt rfl (ha120.mono M124.sub) rfl) ?_
           refine WS.new M124 rfl ?_
           intro p125 h126 M127
           refine WS.st1 (M127.focus 0 rfl) [_, _, _] [_, _, _] rfl rfl rfl rfl rfl (C rfl) (C rfl) rfl rfl ?_
           intro h128 M129
           replace M129 : Mem _ _ ([(p125, _)] :: [(p7, _)] :: [(p4, _)] :: [(p1, _)] :: []) _ := M129
           refine U [(1, _), (3, _), (4, _), (5, _), (6, _), (7, _)] rfl ?_
           refine X (WC.draw M129 [] rfl ?_)
           intro rb130 h131 M132
           refine D rfl rfl (D rfl rfl (D rfl (op_ld (M132.at 0 rfl) rfl rfl) (WS.opV (.int .i64 (((y120.op).toNat : Nat) : Int)) rfl rfl (cv_i64 (n := (y120.op).toNat) (by have := UInt8.toNat_lt (y120.op); omega)) (D rfl rfl (D rfl (op_ld (M132.at 0 rfl) rfl rfl) ?_)))))
           refine WS.call rfl rfl rfl (one_ran M132.here (n := (y120.op).toNat) (b := y120.op) (by first | rfl | simp)) ?_
           rintro _ h133 ⟨rfl, N134⟩
           have M135 := M132.trans N134
           refine WS.chk rfl (op_ld (M135.at 0 rfl) rfl rfl) rfl (sameV_refl rfl) (D rfl (op_sadd (l := out) (m := [y120.op]) rfl rfl (by simp only [F, G, J]; omega)) ?_)
           have t1 := sb_len3 (f7 _ (List.mem_of_getElem? hy120)).1
           have t0 := f7 _ (List.mem_of_getElem? hy120)
           refine WS.call rfl rfl rfl (text_ran M135.here (l := y120.ky) (by omega)) ?_
           rintro _ h136 ⟨rfl, N137⟩
           have M138 := M135.trans N137
           refine D rfl (op_sadd (l := (out ++ [y120.op])) (m := (sb y120.ky)) rfl rfl (by simp only [F, G, J]; omega)) (D rfl rfl (U [(1, _), (3, _), (4, _), (5, _), (6, _), (7, _)] rfl ?_))
           refine X (Y (D rfl rfl (D rfl (op_ld (M138.bare.at 0 rfl) rfl rfl) ?_)))
           refine WS.eqlN (a := (y120.op).toNat) (b := 2) rfl rfl rfl (fun e134 => ?_) (fun e134 => ?_)
           ·
            refine U [(1, _), (3, _), (4, _), (5, _), (6, _), (7, _), (134, _)] rfl ?_
            refine WC.condT rfl (Y (D rfl rfl (D rfl rfl (D rfl (op_ld (M138.bare.at 0 rfl) rfl rfl) ?_))))
            have t2 := sb_len3 (f7 _ (List.mem_of_getElem? hy120)).2
            refine WS.call rfl rfl rfl (text_ran M138.bare.here (l := y120.va) (by omega)) ?_
            rintro _ h139 ⟨rfl, N140⟩
            have M141 := M138.bare.trans N140
            refine D rfl (op_sadd (l := ((out ++ [y120.op]) ++ (sb y120.ky))) (m := (sb y120.va)) rfl rfl (by simp only [F, G, J]; omega)) (D rfl rfl (U [(1, _), (3, _), (4, _), (5, _), (6, _)] rfl ?_))
            refine Y (D rfl rfl (WS.opV (.int .i64 (((i + 1) : Nat) : Int)) rfl rfl (add_i64 (a := i) (b := 1) (by omega)) (D rfl rfl (U [(1, _), (3, _), (4, _), (5, _), (6, _)] rfl ?_))))
            refine ⟨((((out ++ [y120.op]) ++ (sb y120.ky)) ++ (sb y120.va)), i + 1), rfl, ⟨((((M141.bare.focus 3 rfl).focus 3 rfl).focus 3 rfl).take 3), ?_⟩, ?_⟩
            · exact ⟨by rw [flatMap_take_succ partB hy120, hO]; unfold partB; first | (rw [if_pos (by assumption)]; simp; done) | (rw [if_neg (by assumption)]; simp; done), by omega, by simp only [F, G, J]; omega⟩
            · simp only []; omega
           ·
            refine U [(1, _), (3, _), (4, _), (5, _), (6, _), (7, _), (134, _)] rfl ?_
            refine WC.condF rfl (WC.skip (Y (D rfl rfl (WS.opV (.int .i64 (((i + 1) : Nat) : Int)) rfl rfl (add_i64 (a := i) (b := 1) (by omega)) (D rfl rfl (U [(1, _), (3, _), (4, _), (5, _), (6, _)] rfl ?_))))))
            refine ⟨(((out ++ [y120.op]) ++ (sb y120.ky)), i + 1), rfl, ⟨((((M138.bare.bare.focus 3 rfl).focus 3 rfl).focus 3 rfl).take 3), ?_⟩, ?_⟩
            · exact ⟨by rw [flatMap_take_succ partB hy120, hO]; unfold partB; first | (rw [if_pos (by assumption)]; simp; done) | (rw [if_neg (by assumption)]; simp; done), by omega, by simp only [F, G, J]; omega⟩
            · simp only []; omega
          ·
           refine U [(1, _), (3, _), (4, _), (5, _), (6, _), (114, _)] rfl ?_
           refine WC.condF rfl (WC.exit ?_)
           refine X (WC.draw M124 [] rfl ?_)
           intro rb142 h143 M144
           refine D rfl rfl (D rfl (op_lds [_, _, _, _, _, _, _, _, _, _, _, _] (M144.at 0 rfl) rfl (C rfl) rfl) (D rfl rfl ?_))
           refine WS.st1 (M144.focus 1 rfl) [_, _, _, _, _, _, _, _, _, _, _, _] [_, _, _, _, _, _, _, _, _, _, _, _] rfl rfl rfl rfl rfl (C rfl) (C rfl) rfl rfl ?_
           intro h145 M146
           replace M146 : Mem _ _ ([(p4, _)] :: [(p7, _)] :: [(p1, _)] :: []) _ := M146
           refine U [(2, _), (3, _)] rfl ?_
           refine WC.ret (⟨[_, _], (res_tmp rfl (res_cellN [_, _, _, _, _, _, _, _, _, _, _, _] rfl (M146.bare.at 0 rfl) (C rfl) rfl res_nil)), ?_⟩)
           obtain ⟨q1, q2⟩ := enc_5 (c := c) (by omega)
           have q3 : encC c = out := by unfold encC; rw [q2]; rw [hO, List.take_of_length_le (by omega)]; simp
           rw [q1, q3]
           exact ⟨_, fun _ q => q, rfl, M146.bare.bare.take 0⟩
        ·
         refine D rfl rfl (U [(1, _), (3, _), (4, _), (5, _), (28, _), (99, _)] rfl ?_)
         refine WC.condF rfl (X (Y (WS.eqlN (a := (c.op).toNat) (b := 7) rfl rfl rfl (fun e141 => ?_) (fun e141 => ?_))))
         ·
          refine D rfl rfl (U [(1, _), (3, _), (4, _), (5, _), (28, _), (140, _)] rfl ?_)
          refine WC.condT rfl (X (Y (D rfl rfl (D rfl (op_ld (M24.bare.at 2 rfl) rfl rfl) (D rfl rfl ?_)))))
          refine WS.st1 (M24.bare.focus 0 rfl) [_] [_, _, _, _, _, _, _, _, _, _, _, _] rfl rfl rfl rfl rfl (C rfl) (C rfl) rfl rfl ?_
          intro h147 M148
          replace M148 : Mem _ _ ([(p7, _)] :: [(p4, _)] :: [(p1, _)] :: []) _ := M148
          refine U [(1, _), (3, _), (4, _), (5, _)] rfl ?_
          refine Y (D rfl rfl (D rfl rfl (D rfl (op_ld (M148.at 2 rfl) rfl rfl) ?_)))
          refine WS.call rfl rfl rfl (ref_One_ran M148.here (n := ((c.le).toNat)) (by omega)) ?_
          rintro _ h149 ⟨rfl, N150⟩
          have M151 := M148.trans N150
          refine D rfl (op_sadd (l := (([c.op] ++ (vb ((c.se).toNat))) ++ (vb ((c.sq).toNat)))) (m := (vb ((c.le).toNat))) rfl rfl (by simp only [F, G, J]; omega)) (D rfl rfl (U [(3, _), (4, _), (5, _)] rfl ?_))
          refine X (WC.draw M151 [] rfl ?_)
          intro rb153 h154 M155
          refine D rfl rfl (D rfl (op_lds [_, _, _, _, _, _, _, _, _, _, _, _] (M155.at 0 rfl) rfl (C rfl) rfl) (D rfl rfl ?_))
          refine WS.st1 (M155.focus 1 rfl) [_, _, _, _, _, _, _, _, _, _, _, _] [_, _, _, _, _, _, _, _, _, _, _, _] rfl rfl rfl rfl rfl (C rfl) (C rfl) rfl rfl ?_
          intro h156 M157
          replace M157 : Mem _ _ ([(p4, _)] :: [(p7, _)] :: [(p1, _)] :: []) _ := M157
          refine U [(2, _), (3, _)] rfl ?_
          refine WC.ret (⟨[_, _], (res_tmp rfl (res_cellN [_, _, _, _, _, _, _, _, _, _, _, _] rfl (M157.bare.at 0 rfl) (C rfl) rfl res_nil)), ?_⟩)
          obtain ⟨q1, q2⟩ := enc_7 (c := c) (by omega)
          have q3 : encC c = ((([c.op] ++ (vb ((c.se).toNat))) ++ (vb ((c.sq).toNat))) ++ (vb ((c.le).toNat))) := by unfold encC; rw [q2]; simp [headB]
          rw [q1, q3]
          exact ⟨_, fun _ _ => .nil, rfl, M157.bare.bare.take 0⟩
         ·
          refine D rfl rfl (U [(1, _), (3, _), (4, _), (5, _), (28, _), (140, _)] rfl ?_)
          refine WC.condF rfl (X (Y (WS.eqlN (a := (c.op).toNat) (b := 9) rfl rfl rfl (fun e151 => ?_) (fun e151 => ?_))))
          ·
           refine D rfl rfl (U [(1, _), (3, _), (4, _), (5, _), (150, _)] rfl ?_)
           refine WC.condT rfl (X (Y (D rfl rfl (D rfl (op_ld (M24.bare.at 2 rfl) rfl rfl) (D rfl rfl ?_)))))
           refine WS.st1 (M24.bare.focus 0 rfl) [_] [_, _, _, _, _, _, _, _, _, _, _, _] rfl rfl rfl rfl rfl (C rfl) (C rfl) rfl rfl ?_
           intro h158 M159
           replace M159 : Mem _ _ ([(p7, _)] :: [(p4, _)] :: [(p1, _)] :: []) _ := M159
           refine U [(1, _), (3, _), (4, _), (5, _)] rfl ?_
           refine X (Y (D rfl rfl (D rfl (op_ld (M159.at 2 rfl) rfl rfl) (D rfl rfl ?_))))
           refine WS.st1 (M159.focus 0 rfl) [_] [_, _, _, _, _, _, _, _, _, _, _, _] rfl rfl rfl rfl rfl (C rfl) (C rfl) rfl rfl ?_
           intro h160 M161
           replace M161 : Mem _ _ ([(p7, _)] :: [(p4, _)] :: [(p1, _)] :: []) _ := M161
           refine U [(1, _), (3, _), (4, _), (5, _)] rfl ?_
           refine X (Y (D rfl rfl (D rfl (op_ld (M161.at 2 rfl) rfl rfl) (D rfl rfl ?_))))
           refine WS.st1 (M161.focus 0 rfl) [_] [_, _, _, _, _, _, _, _, _, _, _, _] rfl rfl rfl rfl rfl (C rfl) (C rfl) rfl rfl ?_
           intro h162 M163
           replace M163 : Mem _ _ ([(p7, _)] :: [(p4, _)] :: [(p1, _)] :: []) _ := M163
           refine U [(1, _), (3, _), (4, _), (5, _)] rfl ?_
           refine WC.draw M163 [] rfl ?_
           intro rb164 h165 M166
           refine D rfl rfl (D rfl rfl (D rfl (op_ld (M166.at 2 rfl) rfl rfl) (D rfl rfl (D rfl (op_ld (M166.at 2 rfl) rfl rfl) (D rfl rfl (D rfl (op_ld (M166.at 2 rfl) rfl rfl) (WS.opV (.int .i64 (((c.li).toNat : Nat) : Int)) rfl rfl (cv_i64 (n := (c.li).toNat) (by have := UInt8.toNat_lt (c.li); omega)) ?_)))))))
           refine WS.call rfl rfl rfl (text_ran M166.here (l := c.fr) (by omega)) ?_
           rintro _ h167 ⟨rfl, N168⟩
           have M169 := M166.trans N168
           refine WS.chk rfl (op_ld (M169.at 2 rfl) rfl rfl) rfl (sameV_refl rfl) (WS.chk rfl (op_ld (M169.at 2 rfl) rfl rfl) rfl (sameV_refl rfl) (D rfl (op_sadd (l := (([c.op] ++ (vb ((c.se).toNat))) ++ (vb ((c.sq).toNat)))) (m := (sb c.fr)) rfl rfl (by simp only [F, G, J]; omega)) ?_))
           refine WS.call rfl rfl rfl (text_ran M169.here (l := c.to) (by omega)) ?_
           rintro _ h170 ⟨rfl, N171⟩
           have M172 := M169.trans N171
           refine WS.chk rfl (op_ld (M172.at 2 rfl) rfl rfl) rfl (sameV_refl rfl) (D rfl (op_sadd (l := ((([c.op] ++ (vb ((c.se).toNat))) ++ (vb ((c.sq).toNat))) ++ (sb c.fr))) (m := (sb c.to)) rfl rfl (by simp only [F, G, J]; omega)) ?_)
           refine WS.call rfl rfl rfl (one_ran M172.here (n := (c.li).toNat) (b := c.li) (by first | rfl | simp)) ?_
           rintro _ h173 ⟨rfl, N174⟩
           have M175 := M172.trans N174
           refine D rfl (op_sadd (l := (((([c.op] ++ (vb ((c.se).toNat))) ++ (vb ((c.sq).toNat))) ++ (sb c.fr)) ++ (sb c.to))) (m := [c.li]) rfl rfl (by simp only [F, G, J]; omega)) (D rfl rfl (U [(3, _), (4, _), (5, _)] rfl ?_))
           refine X (WC.draw M175.bare [] rfl ?_)
           intro rb176 h177 M178
           refine D rfl rfl (D rfl (op_lds [_, _, _, _, _, _, _, _, _, _, _, _] (M178.at 0 rfl) rfl (C rfl) rfl) (D rfl rfl ?_))
           refine WS.st1 (M178.focus 1 rfl) [_, _, _, _, _, _, _, _, _, _, _, _] [_, _, _, _, _, _, _, _, _, _, _, _] rfl rfl rfl rfl rfl (C rfl) (C rfl) rfl rfl ?_
           intro h179 M180
           replace M180 : Mem _ _ ([(p4, _)] :: [(p7, _)] :: [(p1, _)] :: []) _ := M180
           refine U [(2, _), (3, _)] rfl ?_
           refine WC.ret (⟨[_, _], (res_tmp rfl (res_cellN [_, _, _, _, _, _, _, _, _, _, _, _] rfl (M180.bare.at 0 rfl) (C rfl) rfl res_nil)), ?_⟩)
           obtain ⟨q1, q2⟩ := enc_9 (c := c) (by omega)
           have q3 : encC c = ((((([c.op] ++ (vb ((c.se).toNat))) ++ (vb ((c.sq).toNat))) ++ (sb c.fr)) ++ (sb c.to)) ++ [c.li]) := by unfold encC; rw [q2]; simp [headB]
           rw [q1, q3]
           exact ⟨_, fun _ _ => .nil, rfl, M180.bare.bare.take 0⟩
          ·
           refine D rfl rfl (U [(1, _), (3, _), (4, _), (5, _), (150, _)] rfl ?_)
           refine WC.condF rfl (WC.skip (X (WC.draw M24.bare [] rfl ?_)))
           intro rb181 h182 M183
           refine D rfl rfl (D rfl (op_lds [_, _, _, _, _, _, _, _, _, _, _, _] (M183.at 0 rfl) rfl (C rfl) rfl) (D rfl rfl ?_))
           refine WS.st1 (M183.focus 1 rfl) [_, _, _, _, _, _, _, _, _, _, _, _] [_, _, _, _, _, _, _, _, _, _, _, _] rfl rfl rfl rfl rfl (C rfl) (C rfl) rfl rfl ?_
           intro h184 M185
           replace M185 : Mem _ _ ([(p4, _)] :: [(p7, _)] :: [(p1, _)] :: []) _ := M185
           refine U [(2, _), (3, _)] rfl ?_
           refine WC.ret (⟨[_, _], (res_tmp rfl (res_cellN [_, _, _, _, _, _, _, _, _, _, _, _] rfl (M185.bare.at 0 rfl) (C rfl) rfl res_nil)), ?_⟩)
           obtain ⟨q1, q2⟩ := enc_0 (c := c) (by omega)
           have q3 : encC c = (([c.op] ++ (vb ((c.se).toNat))) ++ (vb ((c.sq).toNat))) := by unfold encC; rw [q2]; simp [headB]
           rw [q1, q3]
           exact ⟨_, fun _ _ => .nil, rfl, M185.bare.bare.take 0⟩
end Go.Proofs.Yteikngjiaboeaaa.Wt
namespace Go.Proofs.Yteikngjiaboeaaa.Wt
open Go Go.Proofs.Yteikngjiaboeaaa.Am Go.Proofs.Yteikngjiaboeaaa.IrAll
open Go.Proofs.Yteikngjiaboeaaa.Am.WS renaming off → C
open Go.Proofs.Yteikngjiaboeaaa.Am.WS renaming op → D
open Nat renaming le_of_ble_eq_true → F
open Go.Proofs.Yteikngjiaboeaaa.Am.WS renaming nil → G
open Go.Proofs.Yteikngjiaboeaaa.Am.WC renaming seq → J
open Go.Proofs.Yteikngjiaboeaaa.Am.WC renaming run → U
open Go.Proofs.Yteikngjiaboeaaa.Am.WC renaming condT → X
open Go.Proofs.Yteikngjiaboeaaa.Am.WC renaming ret → Y
open List renaming length_append → AQ
open Go.Proofs.Yteikngjiaboeaaa.Am.WC renaming condF → AX
set_option linter.unusedVariables false
set_option linter.unusedSimpArgs false
variable {h base : H} {L : List Seg} {R : List Nat}
def SameH (a b : Cmd) : Prop := a.op.toNat = b.op.toNat ∧ a.se.toNat = b.se.toNat ∧ a.sq.toNat = b.sq.toNat ∧ a.ky = b.ky ∧ a.va = b.va ∧ a.ex = b.ex ∧ a.fr = b.fr ∧ a.to = b.to ∧ a.li.toNat = b.li.toNat ∧ a.le.toNat = b.le.toNat ∧ a.tt.toNat = b.tt.toNat ∧ a.ps.length = b.ps.length
theorem same_yes {a b : Cmd} (q : SameH a b) (hp : a.ps = b.ps) : a = b := by
  obtain ⟨q1, q2, q3, q4, q5, q6, q7, q8, q9, q10, q11, _⟩ := q
  obtain ⟨⟩ := a; obtain ⟨⟩ := b
  simp only at *
  rw [u8_inj q1, u64_inj q2, u64_inj q3, q4, q5, q6, q7, q8, u8_inj q9, u64_inj q10, u64_inj q11, hp]
theorem same_no {a b : Cmd} (q : ¬ SameH a b) : a ≠ b := fun e => q (by subst e; exact ⟨rfl, rfl, rfl, rfl, rfl, rfl, rfl, rfl, rfl, rfl, rfl, rfl⟩)
theorem eq_take_step {α : Type} {l m : List α} {i : Nat} {x y : α} (h : l.take i = m.take i) (hx : l[i]? = some x) (hy : m[i]? = some y) (e : x = y) : l.take (i + 1) = m.take (i + 1) := by
  rw [List.take_add_one, List.take_add_one, h, hx, hy, e]
theorem ne_of_get {α : Type} {l m : List α} {i : Nat} {x y : α} (hx : l[i]? = some x) (hy : m[i]? = some y) (e : x ≠ y) : l ≠ m := by
  intro q; subst q; rw [hx] at hy; cases hy; exact e rfl
theorem Same_ran (W : Mem h h [] []) {a b : Cmd} {V V2 : Value} (A : KPart.Sl h V a.ps) (B : KPart.Sl h V2 b.ps) (hl : a.ps.length ≤ 1000000) : Cll tab0 39 [a.val V, b.val V2] h (fun v h2 => v = .bool (decide (a = b)) ∧ Mem h h2 [] []) := by
  obtain ⟨P, n, rfl⟩ := A.shape
  obtain ⟨P2, n2, rfl⟩ := B.shape
  refine Cll.code rfl rfl ?_
  refine WC.env [(0, _), (1, _)] rfl ?_
  refine J (U (WS.box W [_, _, _, _, _, _, _, _, _, _, _, _] rfl rfl rfl rfl ?_))
  intro p1 h2 M3
  refine WS.box M3 [_, _, _, _, _, _, _, _, _, _, _, _] rfl rfl rfl rfl ?_
  intro p4 h5 M6
  refine D rfl rfl (G [(2, _), (3, _)] rfl ?_)
  refine J (J ?_)
  obtain ⟨L7, eL9, M8⟩ := Mem.name M6.bare
  refine WC.joinB (base := h) (fun b => [(2, (.pointer (some ⟨p1, 0, none⟩))), (3, (.pointer (some ⟨p4, 0, none⟩))), (89, .bool b)]) L7 (¬ SameH a b) (SameH a b) ?_ ?_ ?_
  ·subst eL9
   refine D rfl rfl (D rfl (op_ld (M8.at 1 rfl) rfl rfl) (D rfl rfl (D rfl (op_ld (M8.at 0 rfl) rfl rfl) ?_)))
   refine WS.neqN (a := (a.op).toNat) (b := (b.op).toNat) rfl rfl rfl (fun e10 => ?_) (fun e10 => ?_)
   ·
    refine D rfl rfl (C rfl (C rfl (C rfl (C rfl (C rfl (D rfl rfl (D rfl rfl (C rfl (C rfl ?_)))))))))
    refine C rfl (C rfl (C rfl (D rfl rfl (D rfl rfl (C rfl (C rfl (C rfl (C rfl (C rfl ?_)))))))))
    refine D rfl rfl (D rfl rfl (C rfl (C rfl (C rfl (C rfl (C rfl (D rfl rfl (D rfl rfl (C rfl ?_)))))))))
    refine C rfl (C rfl (C rfl (C rfl (D rfl rfl (D rfl rfl (C rfl (C rfl (C rfl (C rfl ?_)))))))))
    refine C rfl (D rfl rfl (D rfl rfl (C rfl (C rfl (C rfl (C rfl (C rfl (D rfl rfl (D rfl rfl ?_)))))))))
    refine C rfl (C rfl (C rfl (C rfl (C rfl (D rfl rfl (D rfl rfl (C rfl (C rfl (C rfl ?_)))))))))
    refine C rfl (C rfl (D rfl rfl (D rfl rfl (C rfl (C rfl (C rfl (C rfl (C rfl (D rfl rfl ?_)))))))))
    refine D rfl rfl (C rfl (C rfl (C rfl (C rfl (C rfl (C rfl (C rfl (D rfl rfl ?_))))))))
    refine WS.nil' ⟨true, rfl, (((M8.bare.focus 1 rfl).focus 1 rfl).take 2), fun _ => ?_, fun hh => ?_⟩
    · rintro ⟨q0, q1, q2, q3, q4, q5, q6, q7, q8, q9, q10, q11⟩; first | exact e10 q0 | exact e16 q1 | exact e23 q2 | exact e30 q3 | exact e37 q4 | exact e44 q5 | exact e51 q6 | exact e58 q7 | exact e65 q8 | exact e72 q9 | exact e79 q10 | exact e88 q11
    · cases hh
   ·
    refine D rfl rfl (D rfl rfl (D rfl (op_ld (M8.at 1 rfl) rfl rfl) (D rfl rfl (D rfl (op_ld (M8.at 0 rfl) rfl rfl) ?_))))
    refine WS.neqN (a := (a.se).toNat) (b := (b.se).toNat) rfl rfl rfl (fun e16 => ?_) (fun e16 => ?_)
    ·
     refine D rfl rfl (D rfl rfl (C rfl (C rfl (C rfl (C rfl (C rfl (D rfl rfl (D rfl rfl (C rfl ?_)))))))))
     refine C rfl (C rfl (C rfl (C rfl (D rfl rfl (D rfl rfl (C rfl (C rfl (C rfl (C rfl ?_)))))))))
     refine C rfl (D rfl rfl (D rfl rfl (C rfl (C rfl (C rfl (C rfl (C rfl (D rfl rfl (D rfl rfl ?_)))))))))
     refine C rfl (C rfl (C rfl (C rfl (C rfl (D rfl rfl (D rfl rfl (C rfl (C rfl (C rfl ?_)))))))))
     refine C rfl (C rfl (D rfl rfl (D rfl rfl (C rfl (C rfl (C rfl (C rfl (C rfl (D rfl rfl ?_)))))))))
     refine D rfl rfl (C rfl (C rfl (C rfl (C rfl (C rfl (D rfl rfl (D rfl rfl (C rfl (C rfl ?_)))))))))
     refine C rfl (C rfl (C rfl (D rfl rfl (D rfl rfl (C rfl (C rfl (C rfl (C rfl (C rfl ?_)))))))))
     refine C rfl (C rfl (D rfl rfl ?_))
     refine WS.nil' ⟨true, rfl, (((M8.bare.focus 1 rfl).focus 1 rfl).take 2), fun _ => ?_, fun hh => ?_⟩
     · rintro ⟨q0, q1, q2, q3, q4, q5, q6, q7, q8, q9, q10, q11⟩; first | exact e10 q0 | exact e16 q1 | exact e23 q2 | exact e30 q3 | exact e37 q4 | exact e44 q5 | exact e51 q6 | exact e58 q7 | exact e65 q8 | exact e72 q9 | exact e79 q10 | exact e88 q11
     · cases hh
    ·
     refine D rfl rfl (D rfl rfl (D rfl rfl (D rfl (op_ld (M8.at 1 rfl) rfl rfl) (D rfl rfl (D rfl (op_ld (M8.at 0 rfl) rfl rfl) ?_)))))
     refine WS.neqN (a := (a.sq).toNat) (b := (b.sq).toNat) rfl rfl rfl (fun e23 => ?_) (fun e23 => ?_)
     ·
      refine D rfl rfl (D rfl rfl (C rfl (C rfl (C rfl (C rfl (C rfl (D rfl rfl (D rfl rfl (C rfl ?_)))))))))
      refine C rfl (C rfl (C rfl (C rfl (D rfl rfl (D rfl rfl (C rfl (C rfl (C rfl (C rfl ?_)))))))))
      refine C rfl (D rfl rfl (D rfl rfl (C rfl (C rfl (C rfl (C rfl (C rfl (D rfl rfl (D rfl rfl ?_)))))))))
      refine C rfl (C rfl (C rfl (C rfl (C rfl (D rfl rfl (D rfl rfl (C rfl (C rfl (C rfl ?_)))))))))
      refine C rfl (C rfl (D rfl rfl (D rfl rfl (C rfl (C rfl (C rfl (C rfl (C rfl (D rfl rfl ?_)))))))))
      refine D rfl rfl (C rfl (C rfl (C rfl (C rfl (C rfl (D rfl rfl (D rfl rfl (C rfl (C rfl ?_)))))))))
      refine C rfl (C rfl (C rfl (C rfl (C rfl (D rfl rfl ?_)))))
      refine WS.nil' ⟨true, rfl, (((M8.bare.focus 1 rfl).focus 1 rfl).take 2), fun _ => ?_, fun hh => ?_⟩
      · rintro ⟨q0, q1, q2, q3, q4, q5, q6, q7, q8, q9, q10, q11⟩; first | exact e10 q0 | exact e16 q1 | exact e23 q2 | exact e30 q3 | exact e37 q4 | exact e44 q5 | exact e51 q6 | exact e58 q7 | exact e65 q8 | exact e72 q9 | exact e79 q10 | exact e88 q11
      · cases hh
     ·
      refine D rfl rfl (D rfl rfl (D rfl rfl (D rfl (op_ld (M8.at 1 rfl) rfl rfl) (D rfl rfl (D rfl (op_ld (M8.at 0 rfl) rfl rfl) ?_)))))
      refine WS.sneq (l := a.ky) (m := b.ky) rfl rfl rfl (fun e30 => ?_) (fun e30 => ?_)
      ·
       refine D rfl rfl (D rfl rfl (C rfl (C rfl (C rfl (C rfl (C rfl (D rfl rfl (D rfl rfl (C rfl ?_)))))))))
       refine C rfl (C rfl (C rfl (C rfl (D rfl rfl (D rfl rfl (C rfl (C rfl (C rfl (C rfl ?_)))))))))
       refine C rfl (D rfl rfl (D rfl rfl (C rfl (C rfl (C rfl (C rfl (C rfl (D rfl rfl (D rfl rfl ?_)))))))))
       refine C rfl (C rfl (C rfl (C rfl (C rfl (D rfl rfl (D rfl rfl (C rfl (C rfl (C rfl ?_)))))))))
       refine C rfl (C rfl (D rfl rfl (D rfl rfl (C rfl (C rfl (C rfl (C rfl (C rfl (D rfl rfl ?_)))))))))
       refine D rfl rfl (C rfl (C rfl (C rfl (C rfl (C rfl (C rfl (C rfl (D rfl rfl ?_))))))))
       refine WS.nil' ⟨true, rfl, (((M8.bare.focus 1 rfl).focus 1 rfl).take 2), fun _ => ?_, fun hh => ?_⟩
       · rintro ⟨q0, q1, q2, q3, q4, q5, q6, q7, q8, q9, q10, q11⟩; first | exact e10 q0 | exact e16 q1 | exact e23 q2 | exact e30 q3 | exact e37 q4 | exact e44 q5 | exact e51 q6 | exact e58 q7 | exact e65 q8 | exact e72 q9 | exact e79 q10 | exact e88 q11
       · cases hh
      ·
       refine D rfl rfl (D rfl rfl (D rfl rfl (D rfl (op_ld (M8.at 1 rfl) rfl rfl) (D rfl rfl (D rfl (op_ld (M8.at 0 rfl) rfl rfl) ?_)))))
       refine WS.sneq (l := a.va) (m := b.va) rfl rfl rfl (fun e37 => ?_) (fun e37 => ?_)
       ·
        refine D rfl rfl (D rfl rfl (C rfl (C rfl (C rfl (C rfl (C rfl (D rfl rfl (D rfl rfl (C rfl ?_)))))))))
        refine C rfl (C rfl (C rfl (C rfl (D rfl rfl (D rfl rfl (C rfl (C rfl (C rfl (C rfl ?_)))))))))
        refine C rfl (D rfl rfl (D rfl rfl (C rfl (C rfl (C rfl (C rfl (C rfl (D rfl rfl (D rfl rfl ?_)))))))))
        refine C rfl (C rfl (C rfl (C rfl (C rfl (D rfl rfl (D rfl rfl (C rfl (C rfl (C rfl ?_)))))))))
        refine C rfl (C rfl (D rfl rfl (D rfl rfl (C rfl (C rfl (C rfl (C rfl (C rfl (C rfl ?_)))))))))
        refine C rfl (D rfl rfl ?_)
        refine WS.nil' ⟨true, rfl, (((M8.bare.focus 1 rfl).focus 1 rfl).take 2), fun _ => ?_, fun hh => ?_⟩
        · rintro ⟨q0, q1, q2, q3, q4, q5, q6, q7, q8, q9, q10, q11⟩; first | exact e10 q0 | exact e16 q1 | exact e23 q2 | exact e30 q3 | exact e37 q4 | exact e44 q5 | exact e51 q6 | exact e58 q7 | exact e65 q8 | exact e72 q9 | exact e79 q10 | exact e88 q11
        · cases hh
       ·
        refine D rfl rfl (D rfl rfl (D rfl rfl (D rfl (op_ld (M8.at 1 rfl) rfl rfl) (D rfl rfl (D rfl (op_ld (M8.at 0 rfl) rfl rfl) ?_)))))
        refine WS.sneq (l := a.ex) (m := b.ex) rfl rfl rfl (fun e44 => ?_) (fun e44 => ?_)
        ·
         refine D rfl rfl (D rfl rfl (C rfl (C rfl (C rfl (C rfl (C rfl (D rfl rfl (D rfl rfl (C rfl ?_)))))))))
         refine C rfl (C rfl (C rfl (C rfl (D rfl rfl (D rfl rfl (C rfl (C rfl (C rfl (C rfl ?_)))))))))
         refine C rfl (D rfl rfl (D rfl rfl (C rfl (C rfl (C rfl (C rfl (C rfl (D rfl rfl (D rfl rfl ?_)))))))))
         refine C rfl (C rfl (C rfl (C rfl (C rfl (D rfl rfl (D rfl rfl (C rfl (C rfl (C rfl ?_)))))))))
         refine C rfl (C rfl (C rfl (C rfl (D rfl rfl ?_))))
         refine WS.nil' ⟨true, rfl, (((M8.bare.focus 1 rfl).focus 1 rfl).take 2), fun _ => ?_, fun hh => ?_⟩
         · rintro ⟨q0, q1, q2, q3, q4, q5, q6, q7, q8, q9, q10, q11⟩; first | exact e10 q0 | exact e16 q1 | exact e23 q2 | exact e30 q3 | exact e37 q4 | exact e44 q5 | exact e51 q6 | exact e58 q7 | exact e65 q8 | exact e72 q9 | exact e79 q10 | exact e88 q11
         · cases hh
        ·
         refine D rfl rfl (D rfl rfl (D rfl rfl (D rfl (op_ld (M8.at 1 rfl) rfl rfl) (D rfl rfl (D rfl (op_ld (M8.at 0 rfl) rfl rfl) ?_)))))
         refine WS.sneq (l := a.fr) (m := b.fr) rfl rfl rfl (fun e51 => ?_) (fun e51 => ?_)
         ·
          refine D rfl rfl (D rfl rfl (C rfl (C rfl (C rfl (C rfl (C rfl (D rfl rfl (D rfl rfl (C rfl ?_)))))))))
          refine C rfl (C rfl (C rfl (C rfl (D rfl rfl (D rfl rfl (C rfl (C rfl (C rfl (C rfl ?_)))))))))
          refine C rfl (D rfl rfl (D rfl rfl (C rfl (C rfl (C rfl (C rfl (C rfl (D rfl rfl (D rfl rfl ?_)))))))))
          refine C rfl (C rfl (C rfl (C rfl (C rfl (C rfl (C rfl (D rfl rfl ?_)))))))
          refine WS.nil' ⟨true, rfl, (((M8.bare.focus 1 rfl).focus 1 rfl).take 2), fun _ => ?_, fun hh => ?_⟩
          · rintro ⟨q0, q1, q2, q3, q4, q5, q6, q7, q8, q9, q10, q11⟩; first | exact e10 q0 | exact e16 q1 | exact e23 q2 | exact e30 q3 | exact e37 q4 | exact e44 q5 | exact e51 q6 | exact e58 q7 | exact e65 q8 | exact e72 q9 | exact e79 q10 | exact e88 q11
          · cases hh
         ·
          refine D rfl rfl (D rfl rfl (D rfl rfl (D rfl (op_ld (M8.at 1 rfl) rfl rfl) (D rfl rfl (D rfl (op_ld (M8.at 0 rfl) rfl rfl) ?_)))))
          refine WS.sneq (l := a.to) (m := b.to) rfl rfl rfl (fun e58 => ?_) (fun e58 => ?_)
          ·
           refine D rfl rfl (D rfl rfl (C rfl (C rfl (C rfl (C rfl (C rfl (D rfl rfl (D rfl rfl (C rfl ?_)))))))))
           refine C rfl (C rfl (C rfl (C rfl (D rfl rfl (D rfl rfl (C rfl (C rfl (C rfl (C rfl ?_)))))))))
           refine C rfl (D rfl rfl (D rfl rfl (C rfl (C rfl (C rfl (C rfl (C rfl (C rfl (C rfl ?_)))))))))
           refine D rfl rfl ?_
           refine WS.nil' ⟨true, rfl, (((M8.bare.focus 1 rfl).focus 1 rfl).take 2), fun _ => ?_, fun hh => ?_⟩
           · rintro ⟨q0, q1, q2, q3, q4, q5, q6, q7, q8, q9, q10, q11⟩; first | exact e10 q0 | exact e16 q1 | exact e23 q2 | exact e30 q3 | exact e37 q4 | exact e44 q5 | exact e51 q6 | exact e58 q7 | exact e65 q8 | exact e72 q9 | exact e79 q10 | exact e88 q11
           · cases hh
          ·
           refine D rfl rfl (D rfl rfl (D rfl rfl (D rfl (op_ld (M8.at 1 rfl) rfl rfl) (D rfl rfl (D rfl (op_ld (M8.at 0 rfl) rfl rfl) ?_)))))
           refine WS.neqN (a := (a.li).toNat) (b := (b.li).toNat) rfl rfl rfl (fun e65 => ?_) (fun e65 => ?_)
           ·
            refine D rfl rfl (D rfl rfl (C rfl (C rfl (C rfl (C rfl (C rfl (D rfl rfl (D rfl rfl (C rfl ?_)))))))))
            refine C rfl (C rfl (C rfl (C rfl (D rfl rfl (D rfl rfl (C rfl (C rfl (C rfl (C rfl ?_)))))))))
            refine C rfl (C rfl (C rfl (D rfl rfl ?_)))
            refine WS.nil' ⟨true, rfl, (((M8.bare.focus 1 rfl).focus 1 rfl).take 2), fun _ => ?_, fun hh => ?_⟩
            · rintro ⟨q0, q1, q2, q3, q4, q5, q6, q7, q8, q9, q10, q11⟩; first | exact e10 q0 | exact e16 q1 | exact e23 q2 | exact e30 q3 | exact e37 q4 | exact e44 q5 | exact e51 q6 | exact e58 q7 | exact e65 q8 | exact e72 q9 | exact e79 q10 | exact e88 q11
            · cases hh
           ·
            refine D rfl rfl (D rfl rfl (D rfl rfl (D rfl (op_ld (M8.at 1 rfl) rfl rfl) (D rfl rfl (D rfl (op_ld (M8.at 0 rfl) rfl rfl) ?_)))))
            refine WS.neqN (a := (a.le).toNat) (b := (b.le).toNat) rfl rfl rfl (fun e72 => ?_) (fun e72 => ?_)
            ·
             refine D rfl rfl (D rfl rfl (C rfl (C rfl (C rfl (C rfl (C rfl (D rfl rfl (D rfl rfl (C rfl ?_)))))))))
             refine C rfl (C rfl (C rfl (C rfl (C rfl (C rfl (D rfl rfl ?_))))))
             refine WS.nil' ⟨true, rfl, (((M8.bare.focus 1 rfl).focus 1 rfl).take 2), fun _ => ?_, fun hh => ?_⟩
             · rintro ⟨q0, q1, q2, q3, q4, q5, q6, q7, q8, q9, q10, q11⟩; first | exact e10 q0 | exact e16 q1 | exact e23 q2 | exact e30 q3 | exact e37 q4 | exact e44 q5 | exact e51 q6 | exact e58 q7 | exact e65 q8 | exact e72 q9 | exact e79 q10 | exact e88 q11
             · cases hh
            ·
             refine D rfl rfl (D rfl rfl (D rfl rfl (D rfl (op_ld (M8.at 1 rfl) rfl rfl) (D rfl rfl (D rfl (op_ld (M8.at 0 rfl) rfl rfl) ?_)))))
             refine WS.neqN (a := (a.tt).toNat) (b := (b.tt).toNat) rfl rfl rfl (fun e79 => ?_) (fun e79 => ?_)
             ·
              refine D rfl rfl (D rfl rfl (C rfl (C rfl (C rfl (C rfl (C rfl (C rfl (C rfl (D rfl rfl ?_)))))))))
              refine WS.nil' ⟨true, rfl, (((M8.bare.focus 1 rfl).focus 1 rfl).take 2), fun _ => ?_, fun hh => ?_⟩
              · rintro ⟨q0, q1, q2, q3, q4, q5, q6, q7, q8, q9, q10, q11⟩; first | exact e10 q0 | exact e16 q1 | exact e23 q2 | exact e30 q3 | exact e37 q4 | exact e44 q5 | exact e51 q6 | exact e58 q7 | exact e65 q8 | exact e72 q9 | exact e79 q10 | exact e88 q11
              · cases hh
             ·
              refine D rfl rfl (D rfl rfl (D rfl rfl (D rfl (op_ld (M8.at 1 rfl) rfl rfl) (D rfl (op_lenVS A rfl) (D rfl rfl (D rfl (op_ld (M8.at 0 rfl) rfl rfl) (D rfl (op_lenVS B rfl) ?_)))))))
              refine WS.neqN (a := (a.ps).length) (b := (b.ps).length) rfl rfl rfl (fun e88 => ?_) (fun e88 => ?_)
              ·
               refine D rfl rfl ?_
               refine WS.nil' ⟨true, rfl, (((M8.bare.focus 1 rfl).focus 1 rfl).take 2), fun _ => ?_, fun hh => ?_⟩
               · rintro ⟨q0, q1, q2, q3, q4, q5, q6, q7, q8, q9, q10, q11⟩; first | exact e10 q0 | exact e16 q1 | exact e23 q2 | exact e30 q3 | exact e37 q4 | exact e44 q5 | exact e51 q6 | exact e58 q7 | exact e65 q8 | exact e72 q9 | exact e79 q10 | exact e88 q11
               · cases hh
              ·
               refine D rfl rfl ?_
               refine WS.nil' ⟨false, rfl, (((M8.bare.focus 1 rfl).focus 1 rfl).take 2), fun hh => ?_, fun _ => ?_⟩
               · cases hh
               · exact ⟨e10, e16, e23, e30, e37, e44, e51, e58, e65, e72, e79, e88⟩
  ·intro h10 M11 hp89
   subst eL9
   refine X rfl (J (U (D rfl rfl (G [(4, _)] rfl ?_))))
   refine Y (⟨[_], (res_tmp rfl res_nil), ?_⟩)
   exact ⟨by rw [decide_eq_false (same_no hp89)]; rfl, M11.bare.take 0⟩
  ·intro h12 M13 hp89
   subst eL9
   refine AX rfl (WC.skip (J (J (U (D rfl rfl (G [(2, _), (3, _), (5, _)] rfl ?_))))))
   refine WC.block ?_
   obtain ⟨L14, eL16, M15⟩ := Mem.name M13.bare
   refine WC.loop (σ := Nat) (fun (i) => [(2, (.pointer (some ⟨p1, 0, none⟩))), (3, (.pointer (some ⟨p4, 0, none⟩))), (5, (.int .i64 ((i : Nat) : Int)))]) (fun (i) hh => Mem h hh (L14) [] ∧ a.ps.take i = b.ps.take i ∧ i ≤ a.ps.length) (fun (i) => a.ps.length - i) (0) rfl ⟨M15, ?_⟩ ?_
   · exact ⟨rfl, by omega⟩
   ·rintro i h17 ⟨M18, ⟨hO, hi1⟩⟩
    subst eL16
    refine WC.env [(2, _), (3, _), (5, _)] rfl ?_
    refine J (J (U (D rfl rfl (D rfl rfl (D rfl (op_ld (M18.at 1 rfl) rfl rfl) (D rfl (op_lenVS A rfl) ?_))))))
    refine WS.lssN (a := i) (b := (a.ps).length) rfl rfl rfl (fun e94 => ?_) (fun e94 => ?_)
    ·
     refine G [(2, _), (3, _), (5, _), (94, _)] rfl ?_
     refine X rfl (WC.skip (J (WC.block (J (WC.draw M18 [] rfl ?_)))))
     intro rb19 h20 M21
     refine D rfl rfl (D rfl (op_ld (M21.at 1 rfl) rfl rfl) (D rfl rfl ?_))
     obtain ⟨y100, hy100⟩ : ∃ y, (a.ps)[i]? = some y := ⟨_, List.getElem?_eq_getElem (show i < (a.ps).length by first | omega | (simp only [List.length_drop, List.length_take, AQ, List.length_cons, List.length_nil, List.length_singleton]; omega) | (simp only [List.length_drop, List.length_take, AQ, List.length_cons, List.length_nil, List.length_singleton] at *; omega))⟩
     refine WS.iaVS A i hy100 rfl rfl rfl rfl ?_
     intro b100_ o100_ ha100
     refine D rfl (op_ldAt rfl (ha100.mono M21.sub) rfl) (D rfl rfl (D rfl (op_ld (M21.at 0 rfl) rfl rfl) (D rfl rfl ?_)))
     obtain ⟨y105, hy105⟩ : ∃ y, (b.ps)[i]? = some y := ⟨_, List.getElem?_eq_getElem (show i < (b.ps).length by have := hp89.2.2.2.2.2.2.2.2.2.2.2; omega)⟩
     refine WS.iaVS B i hy105 rfl rfl rfl rfl ?_
     intro b105_ o105_ ha105
     refine D rfl (op_ldAt rfl (ha105.mono M21.sub) rfl) ?_
     refine WS.eqqDn (p := y100 = y105) rfl rfl rfl (Part_eqV _ _) (fun e107 => ?_) (fun e107 => ?_)
     ·
      refine G [(2, _), (3, _), (5, _), (107, _)] rfl ?_
      refine X rfl (J (U (D rfl rfl (G [(4, _)] rfl ?_))))
      refine Y (⟨[_], (res_tmp rfl res_nil), ?_⟩)
      exact ⟨by rw [decide_eq_false (fun q => ne_of_get hy100 hy105 e107 (congrArg Cmd.ps q))]; rfl, M21.bare.bare.take 0⟩
     ·
      refine G [(2, _), (3, _), (5, _), (107, _)] rfl ?_
      refine AX rfl (WC.skip (U (D rfl rfl (WS.opV (.int .i64 (((i + 1) : Nat) : Int)) rfl rfl (add_i64 (a := i) (b := 1) (by omega)) (D rfl rfl (G [(2, _), (3, _), (5, _)] rfl ?_))))))
      refine ⟨i + 1, rfl, ⟨(((M21.bare.bare.focus 1 rfl).focus 1 rfl).take 2), ?_⟩, ?_⟩
      · exact ⟨eq_take_step hO hy100 hy105 (by assumption), by omega⟩
      · simp only []; omega
    ·
     refine G [(2, _), (3, _), (5, _), (94, _)] rfl ?_
     refine AX rfl (WC.exit ?_)
     refine J (U (D rfl rfl (G [(4, _)] rfl ?_)))
     refine Y (⟨[_], (res_tmp rfl res_nil), ?_⟩)
     have hln := hp89.2.2.2.2.2.2.2.2.2.2.2
     rw [List.take_of_length_le (by omega), List.take_of_length_le (by omega)] at hO
     exact ⟨by rw [decide_eq_true (same_yes hp89 hO)]; rfl, M18.bare.take 0⟩
def GoodP (p : Part) : Prop := p.op.toNat = 2 ∨ (p.op.toNat = 3 ∧ p.va = [])
instance (p : Part) : Decidable (GoodP p) := by unfold GoodP; infer_instance
def badP (p : Part) : Bool := !decide (GoodP p)
def AllG (ps : List Part) : Prop := ∀ p ∈ ps, GoodP p
instance (ps : List Part) : Decidable (AllG ps) := by unfold AllG; infer_instance
def MayC (c : Cmd) : Prop := (1 ≤ c.op.toNat ∧ c.op.toNat ≤ 11) ∧ c = plain c ∧ (c.op.toNat = 5 → 1 ≤ c.ps.length ∧ c.ps.length ≤ 4) ∧ AllG c.ps
instance (c : Cmd) : Decidable (MayC c) := by unfold MayC; infer_instance
def mayB (c : Cmd) : Bool := decide (MayC c)
theorem mayB_t {c : Cmd} (q : MayC c) : packE [.bool true] = .bool (mayB c) := by unfold mayB; rw [decide_eq_true q]; rfl
theorem mayB_f {c : Cmd} (q : ¬ MayC c) : packE [.bool false] = .bool (mayB c) := by unfold mayB; rw [decide_eq_false q]; rfl
theorem AllG_snoc {es : List Part} {i : Nat} {y : Part} (h : AllG (es.take i)) (hy : es[i]? = some y) (hr : GoodP y) : AllG (es.take (i + 1)) := by
  intro e he
  rw [List.take_add_one, hy] at he
  simp only [Option.toList_some, List.mem_append, List.mem_singleton] at he
  rcases he with he | he
  · exact h e he
  · subst he; exact hr
set_option maxRecDepth 8000 in
theorem refMay_ran (W : Mem h h [] []) {c : Cmd} {V : Value} (A : KPart.Sl h V c.ps) (hf : Fit c) : Cll tab0 37 [c.val V] h (fun v h2 => v = .bool (mayB c) ∧ Mem h h2 [] []) := by
  obtain ⟨P, n, rfl⟩ := A.shape
  have f6 := hf.2.2.2.2.2.1
  refine Cll.code rfl rfl ?_
  refine WC.env [(0, _)] rfl ?_
  refine J (U (WS.box W [_, _, _, _, _, _, _, _, _, _, _, _] rfl rfl rfl rfl ?_))
  intro p1 h2 M3
  refine D rfl rfl (G [(1, _)] rfl ?_)
  refine J (U (D rfl (op_lds [_, _, _, _, _, _, _, _, _, _, _, _] (M3.at 0 rfl) rfl (F rfl) rfl) ?_))
  refine WS.call rfl rfl rfl (Bytes_ran M3.here (c := c) (A.mono M3.sub) (by assumption)) ?_
  rintro _ h4 ⟨V7, A8, rfl, N5⟩
  replace A8 := A8 _ A
  obtain ⟨P9, c10, rfl⟩ := A8.shape
  have M6 := M3.trans N5
  refine D rfl rfl (D rfl rfl (D rfl rfl ?_))
  refine WS.new M6 rfl ?_
  intro p11 h12 M13
  refine D rfl rfl ?_
  refine WS.st1 (M13.focus 0 rfl) [_, _, _, _, _, _, _, _, _, _, _, _] [_, _, _, _, _, _, _, _, _, _, _, _] rfl rfl rfl rfl rfl (F rfl) (F rfl) rfl rfl ?_
  intro h14 M15
  replace M15 : Mem _ _ ([(p11, _)] :: [(p1, _)] :: []) _ := M15
  refine G [(1, _), (4, _)] rfl ?_
  refine J (J (U (D rfl rfl (D rfl (op_ld (M15.at 1 rfl) rfl rfl) ?_))))
  refine WS.lssN (a := (c.op).toNat) (b := 1) rfl rfl rfl (fun e14 => ?_) (fun e14 => ?_)
  ·
   refine D rfl rfl (C rfl (C rfl (C rfl (D rfl rfl (D rfl rfl (C rfl (C rfl (WS.offC rfl (C rfl ?_)))))))))
   refine D rfl rfl (G [(1, _), (25, _)] rfl ?_)
   refine X rfl (J (U (D rfl rfl (G [(2, _)] rfl ?_))))
   refine Y (⟨[_], (res_tmp rfl res_nil), ?_⟩)
   exact ⟨mayB_f (by rintro ⟨q1, q2, q3, q4⟩; first | omega | exact absurd q2 (of_decide_eq_false (by assumption)) | (have q5 := q3 (by omega); omega) | (have q5 : GoodP y51 := q4 _ (List.mem_of_getElem? hy51); unfold GoodP at q5; rcases q5 with q5 | q5; omega; first | omega | exact absurd q5.2 (by assumption))), M15.bare.take 0⟩
  ·
   refine D rfl rfl (D rfl rfl (D rfl (op_ld (M15.at 1 rfl) rfl rfl) ?_))
   refine WS.gtrN (a := (c.op).toNat) (b := 11) rfl rfl rfl (fun e18 => ?_) (fun e18 => ?_)
   ·
    refine D rfl rfl (D rfl rfl (C rfl (C rfl (WS.offC rfl (C rfl (D rfl rfl (G [(1, _), (25, _)] rfl ?_)))))))
    refine X rfl (J (U (D rfl rfl (G [(2, _)] rfl ?_))))
    refine Y (⟨[_], (res_tmp rfl res_nil), ?_⟩)
    exact ⟨mayB_f (by rintro ⟨q1, q2, q3, q4⟩; first | omega | exact absurd q2 (of_decide_eq_false (by assumption)) | (have q5 := q3 (by omega); omega) | (have q5 : GoodP y51 := q4 _ (List.mem_of_getElem? hy51); unfold GoodP at q5; rcases q5 with q5 | q5; omega; first | omega | exact absurd q5.2 (by assumption))), M15.bare.take 0⟩
   ·
    refine D rfl rfl (D rfl rfl (D rfl (op_lds [_, _, _, _, _, _, _, _, _, _, _, _] (M15.at 1 rfl) rfl (F rfl) rfl) (D rfl (op_lds [_, _, _, _, _, _, _, _, _, _, _, _] (M15.at 0 rfl) rfl (F rfl) rfl) ?_)))
    refine WS.call rfl rfl rfl (Same_ran M15.here (a := c) (b := (plain c)) (A.mono M15.sub) (A8.mono M15.sub) (by omega)) ?_
    rintro _ h16 ⟨rfl, N17⟩
    have M18 := M15.trans N17
    cases hb1 : (decide (c = (plain c)))
    ·
     refine WS.opV (.bool true) rfl rfl rfl (D rfl rfl (G [(1, _), (25, _)] rfl ?_))
     refine X rfl (J (U (D rfl rfl (G [(2, _)] rfl ?_))))
     refine Y (⟨[_], (res_tmp rfl res_nil), ?_⟩)
     exact ⟨mayB_f (by rintro ⟨q1, q2, q3, q4⟩; first | omega | exact absurd q2 (of_decide_eq_false (by assumption)) | (have q5 := q3 (by omega); omega) | (have q5 : GoodP y51 := q4 _ (List.mem_of_getElem? hy51); unfold GoodP at q5; rcases q5 with q5 | q5; omega; first | omega | exact absurd q5.2 (by assumption))), M18.bare.take 0⟩
    ·
     refine WS.opV (.bool false) rfl rfl rfl (D rfl rfl (G [(1, _), (25, _)] rfl ?_))
     refine AX rfl (WC.skip (J (J ?_)))
     obtain ⟨L19, eL21, M20⟩ := Mem.name M18.bare
     refine WC.joinB (base := h) (fun b => [(1, (.pointer (some ⟨p1, 0, none⟩))), (40, .bool b)]) L19 (c.op.toNat = 5 ∧ ¬ (1 ≤ c.ps.length ∧ c.ps.length ≤ 4)) (¬ (c.op.toNat = 5 ∧ ¬ (1 ≤ c.ps.length ∧ c.ps.length ≤ 4))) ?_ ?_ ?_
     ·subst eL21
      refine D rfl rfl (D rfl (op_ld (M20.at 1 rfl) rfl rfl) ?_)
      refine WS.eqlN (a := (c.op).toNat) (b := 5) rfl rfl rfl (fun e28 => ?_) (fun e28 => ?_)
      ·
       refine D rfl rfl (D rfl rfl (D rfl (op_ld (M20.at 1 rfl) rfl rfl) (D rfl (op_lenVS A rfl) ?_)))
       refine WS.lssN (a := (c.ps).length) (b := 1) rfl rfl rfl (fun e33 => ?_) (fun e33 => ?_)
       ·
        refine D rfl rfl (C rfl (C rfl (C rfl (C rfl (D rfl rfl (D rfl rfl ?_))))))
        refine WS.nil' ⟨true, rfl, (((M20.bare.focus 1 rfl).focus 1 rfl).take 2), fun _ => ?_, fun hh => ?_⟩
        · omega
        · cases hh
       ·
        refine D rfl rfl (D rfl rfl (D rfl (op_ld (M20.at 1 rfl) rfl rfl) (D rfl (op_lenVS A rfl) ?_)))
        refine WS.gtrN (a := (c.ps).length) (b := 4) rfl rfl rfl (fun e38 => ?_) (fun e38 => ?_)
        ·
         refine D rfl rfl (D rfl rfl ?_)
         refine WS.nil' ⟨true, rfl, (((M20.bare.focus 1 rfl).focus 1 rfl).take 2), fun _ => ?_, fun hh => ?_⟩
         · omega
         · cases hh
        ·
         refine D rfl rfl (D rfl rfl ?_)
         refine WS.nil' ⟨false, rfl, (((M20.bare.focus 1 rfl).focus 1 rfl).take 2), fun hh => ?_, fun _ => ?_⟩
         · cases hh
         · omega
      ·
       refine D rfl rfl (C rfl (C rfl (C rfl (C rfl (C rfl (C rfl (C rfl (C rfl (C rfl ?_)))))))))
       refine C rfl (D rfl rfl ?_)
       refine WS.nil' ⟨false, rfl, (((M20.bare.focus 1 rfl).focus 1 rfl).take 2), fun hh => ?_, fun _ => ?_⟩
       · cases hh
       · omega
     ·intro h22 M23 hp40
      subst eL21
      refine X rfl (J (U (D rfl rfl (G [(2, _)] rfl ?_))))
      refine Y (⟨[_], (res_tmp rfl res_nil), ?_⟩)
      exact ⟨mayB_f (by rintro ⟨q1, q2, q3, q4⟩; first | omega | exact absurd q2 (of_decide_eq_false (by assumption)) | (have q5 := q3 (by omega); omega) | (have q5 : GoodP y51 := q4 _ (List.mem_of_getElem? hy51); unfold GoodP at q5; rcases q5 with q5 | q5; omega; first | omega | exact absurd q5.2 (by assumption))), M23.bare.take 0⟩
     ·intro h24 M25 hp40
      subst eL21
      refine AX rfl (WC.skip (J (J (U (D rfl rfl (G [(1, _), (5, _)] rfl ?_))))))
      refine WC.block ?_
      obtain ⟨L26, eL28, M27⟩ := Mem.name M25.bare
      refine WC.loop (σ := Nat) (fun (i) => [(1, (.pointer (some ⟨p1, 0, none⟩))), (5, (.int .i64 ((i : Nat) : Int)))]) (fun (i) hh => Mem h hh (L26) [] ∧ AllG (c.ps.take i) ∧ i ≤ c.ps.length) (fun (i) => c.ps.length - i) (0) rfl ⟨M27, ?_⟩ ?_
      · exact ⟨by intro x hx; simp at hx, by omega⟩
      ·rintro i h29 ⟨M30, ⟨hO, hi1⟩⟩
       subst eL28
       refine WC.env [(1, _), (5, _)] rfl ?_
       refine J (J (U (D rfl rfl (D rfl rfl (D rfl (op_ld (M30.at 1 rfl) rfl rfl) (D rfl (op_lenVS A rfl) ?_))))))
       refine WS.lssN (a := i) (b := (c.ps).length) rfl rfl rfl (fun e45 => ?_) (fun e45 => ?_)
       ·
        refine G [(1, _), (5, _), (45, _)] rfl ?_
        refine X rfl (WC.skip (J (WC.block (J (U (D rfl rfl (D rfl (op_ld (M30.at 1 rfl) rfl rfl) (D rfl rfl ?_))))))))
        obtain ⟨y51, hy51⟩ : ∃ y, (c.ps)[i]? = some y := ⟨_, List.getElem?_eq_getElem (show i < (c.ps).length by first | omega | (simp only [List.length_drop, List.length_take, AQ, List.length_cons, List.length_nil, List.length_singleton]; omega) | (simp only [List.length_drop, List.length_take, AQ, List.length_cons, List.length_nil, List.length_singleton] at *; omega))⟩
        refine WS.iaVS A i hy51 rfl rfl rfl rfl ?_
        intro b51_ o51_ ha51
        refine D rfl (op_ldAt rfl (ha51.mono M30.sub) rfl) ?_
        refine WS.new M30 rfl ?_
        intro p31 h32 M33
        refine WS.st1 (M33.focus 0 rfl) [_, _, _] [_, _, _] rfl rfl rfl rfl rfl (F rfl) (F rfl) rfl rfl ?_
        intro h34 M35
        replace M35 : Mem _ _ ([(p31, _)] :: [(p11, _)] :: [(p1, _)] :: []) _ := M35
        refine G [(1, _), (5, _), (6, _)] rfl ?_
        refine J (U (D rfl rfl (D rfl (op_ld (M35.at 0 rfl) rfl rfl) ?_)))
        refine WS.neqN (a := (y51.op).toNat) (b := 2) rfl rfl rfl (fun e55 => ?_) (fun e55 => ?_)
        ·
         refine D rfl rfl (D rfl rfl (D rfl (op_ld (M35.at 0 rfl) rfl rfl) ?_))
         refine WS.neqN (a := (y51.op).toNat) (b := 3) rfl rfl rfl (fun e59 => ?_) (fun e59 => ?_)
         ·
          refine D rfl rfl (D rfl rfl (C rfl (C rfl (C rfl (C rfl (C rfl (C rfl (C rfl (C rfl ?_)))))))))
          refine D rfl rfl (G [(1, _), (5, _), (70, _)] rfl ?_)
          refine X rfl (J (U (D rfl rfl (G [(2, _)] rfl ?_))))
          refine Y (⟨[_], (res_tmp rfl res_nil), ?_⟩)
          exact ⟨mayB_f (by rintro ⟨q1, q2, q3, q4⟩; first | omega | exact absurd q2 (of_decide_eq_false (by assumption)) | (have q5 := q3 (by omega); omega) | (have q5 : GoodP y51 := q4 _ (List.mem_of_getElem? hy51); unfold GoodP at q5; rcases q5 with q5 | q5; omega; first | omega | exact absurd q5.2 (by assumption))), M35.bare.take 0⟩
         ·
          refine D rfl rfl (D rfl rfl (D rfl rfl (D rfl (op_ld (M35.at 0 rfl) rfl rfl) ?_)))
          refine WS.eqlN (a := (y51.op).toNat) (b := 3) rfl rfl rfl (fun e64 => ?_) (fun e64 => ?_)
          ·
           refine D rfl rfl (D rfl rfl (D rfl (op_ld (M35.at 0 rfl) rfl rfl) ?_))
           refine WS.sneq (l := y51.va) (m := []) rfl rfl rfl (fun e68 => ?_) (fun e68 => ?_)
           ·
            refine D rfl rfl (D rfl rfl (G [(1, _), (5, _), (70, _)] rfl ?_))
            refine X rfl (J (U (D rfl rfl (G [(2, _)] rfl ?_))))
            refine Y (⟨[_], (res_tmp rfl res_nil), ?_⟩)
            exact ⟨mayB_f (by rintro ⟨q1, q2, q3, q4⟩; first | omega | exact absurd q2 (of_decide_eq_false (by assumption)) | (have q5 := q3 (by omega); omega) | (have q5 : GoodP y51 := q4 _ (List.mem_of_getElem? hy51); unfold GoodP at q5; rcases q5 with q5 | q5; omega; first | omega | exact absurd q5.2 (by assumption))), M35.bare.take 0⟩
           ·
            refine D rfl rfl (D rfl rfl (G [(1, _), (5, _), (70, _)] rfl ?_))
            refine AX rfl (WC.skip (U (D rfl rfl (WS.opV (.int .i64 (((i + 1) : Nat) : Int)) rfl rfl (add_i64 (a := i) (b := 1) (by omega)) (D rfl rfl (G [(1, _), (5, _)] rfl ?_))))))
            refine ⟨i + 1, rfl, ⟨(((M35.bare.focus 2 rfl).focus 2 rfl).take 2), ?_⟩, ?_⟩
            · exact ⟨AllG_snoc hO hy51 (by unfold GoodP; first | (left; omega) | (right; exact ⟨by omega, by assumption⟩)), by omega⟩
            · simp only []; omega
          ·
           refine D rfl rfl (C rfl (C rfl (C rfl (D rfl rfl (D rfl rfl (G [(1, _), (5, _), (70, _)] rfl ?_))))))
           refine AX rfl (WC.skip (U (D rfl rfl (WS.opV (.int .i64 (((i + 1) : Nat) : Int)) rfl rfl (add_i64 (a := i) (b := 1) (by omega)) (D rfl rfl (G [(1, _), (5, _)] rfl ?_))))))
           refine ⟨i + 1, rfl, ⟨(((M35.bare.focus 2 rfl).focus 2 rfl).take 2), ?_⟩, ?_⟩
           · exact ⟨AllG_snoc hO hy51 (by unfold GoodP; first | (left; omega) | (right; exact ⟨by omega, by assumption⟩)), by omega⟩
           · simp only []; omega
        ·
         refine D rfl rfl (C rfl (C rfl (C rfl (D rfl rfl (D rfl rfl (D rfl rfl (D rfl (op_ld (M35.at 0 rfl) rfl rfl) ?_)))))))
         refine WS.eqlN (a := (y51.op).toNat) (b := 3) rfl rfl rfl (fun e64 => ?_) (fun e64 => ?_)
         ·
          refine D rfl rfl (D rfl rfl (D rfl (op_ld (M35.at 0 rfl) rfl rfl) ?_))
          refine WS.sneq (l := y51.va) (m := []) rfl rfl rfl (fun e68 => ?_) (fun e68 => ?_)
          ·
           refine D rfl rfl (D rfl rfl (G [(1, _), (5, _), (70, _)] rfl ?_))
           refine X rfl (J (U (D rfl rfl (G [(2, _)] rfl ?_))))
           refine Y (⟨[_], (res_tmp rfl res_nil), ?_⟩)
           exact ⟨mayB_f (by rintro ⟨q1, q2, q3, q4⟩; first | omega | exact absurd q2 (of_decide_eq_false (by assumption)) | (have q5 := q3 (by omega); omega) | (have q5 : GoodP y51 := q4 _ (List.mem_of_getElem? hy51); unfold GoodP at q5; rcases q5 with q5 | q5; omega; first | omega | exact absurd q5.2 (by assumption))), M35.bare.take 0⟩
          ·
           refine D rfl rfl (D rfl rfl (G [(1, _), (5, _), (70, _)] rfl ?_))
           refine AX rfl (WC.skip (U (D rfl rfl (WS.opV (.int .i64 (((i + 1) : Nat) : Int)) rfl rfl (add_i64 (a := i) (b := 1) (by omega)) (D rfl rfl (G [(1, _), (5, _)] rfl ?_))))))
           refine ⟨i + 1, rfl, ⟨(((M35.bare.focus 2 rfl).focus 2 rfl).take 2), ?_⟩, ?_⟩
           · exact ⟨AllG_snoc hO hy51 (by unfold GoodP; first | (left; omega) | (right; exact ⟨by omega, by assumption⟩)), by omega⟩
           · simp only []; omega
         ·
          refine D rfl rfl (C rfl (C rfl (C rfl (D rfl rfl (D rfl rfl (G [(1, _), (5, _), (70, _)] rfl ?_))))))
          refine AX rfl (WC.skip (U (D rfl rfl (WS.opV (.int .i64 (((i + 1) : Nat) : Int)) rfl rfl (add_i64 (a := i) (b := 1) (by omega)) (D rfl rfl (G [(1, _), (5, _)] rfl ?_))))))
          refine ⟨i + 1, rfl, ⟨(((M35.bare.focus 2 rfl).focus 2 rfl).take 2), ?_⟩, ?_⟩
          · exact ⟨AllG_snoc hO hy51 (by unfold GoodP; first | (left; omega) | (right; exact ⟨by omega, by assumption⟩)), by omega⟩
          · simp only []; omega
       ·
        refine G [(1, _), (5, _), (45, _)] rfl ?_
        refine AX rfl (WC.exit ?_)
        refine J (U (D rfl rfl (G [(2, _)] rfl ?_)))
        refine Y (⟨[_], (res_tmp rfl res_nil), ?_⟩)
        rw [List.take_of_length_le (by omega)] at hO
        exact ⟨mayB_t ⟨by omega, of_decide_eq_true (by assumption), fun q => by omega, hO⟩, M30.bare.take 0⟩
def bareC (c : Cmd) : Cmd :=
  if c.op.toNat = 1 ∨ c.op.toNat = 6 then { c with tt := 0 }
  else if c.op.toNat = 2 then { c with ky := [], va := [], le := 0 }
  else if c.op.toNat = 3 ∨ c.op.toNat = 8 then { c with ky := [] }
  else if c.op.toNat = 4 then { c with ky := [], ex := [], va := [] }
  else if c.op.toNat = 5 then { c with ps := [] }
  else if c.op.toNat = 7 then { c with le := 0 }
  else if c.op.toNat = 9 then { c with fr := [], to := [], li := 0 }
  else c
section
variable {c : Cmd}
theorem bare_1 (h : c.op.toNat = 1 ∨ c.op.toNat = 6) : bareC c = { c with tt := 0 } := if_pos h
theorem bare_2 (h : c.op.toNat = 2) : bareC c = { c with ky := [], va := [], le := 0 } := by unfold bareC; simp [h]
theorem bare_3 (h : c.op.toNat = 3 ∨ c.op.toNat = 8) : bareC c = { c with ky := [] } := by unfold bareC; rw [if_neg (by omega), if_neg (by omega), if_pos h]
theorem bare_4 (h : c.op.toNat = 4) : bareC c = { c with ky := [], ex := [], va := [] } := by unfold bareC; simp [h]
theorem bare_5 (h : c.op.toNat = 5) : bareC c = { c with ps := [] } := by unfold bareC; simp [h]
theorem bare_7 (h : c.op.toNat = 7) : bareC c = { c with le := 0 } := by unfold bareC; simp [h]
theorem bare_9 (h : c.op.toNat = 9) : bareC c = { c with fr := [], to := [], li := 0 } := by unfold bareC; simp [h]
theorem bare_0 (h : ¬ (1 ≤ c.op.toNat ∧ c.op.toNat ≤ 9)) : bareC c = c := by
  unfold bareC; rw [if_neg (by omega), if_neg (by omega), if_neg (by omega), if_neg (by omega), if_neg (by omega), if_neg (by omega), if_neg (by omega)]
end
theorem bare_ran (W : Mem h h [] []) {c : Cmd} {V : Value} (A : KPart.Sl h V c.ps) : Cll tab0 71 [c.val V] h (fun v h2 => ∃ V2, (∀ hh, KPart.Sl hh V c.ps → KPart.Sl hh V2 (bareC c).ps) ∧ v = (bareC c).val V2 ∧ Mem h h2 [] []) := by
  obtain ⟨P, n, rfl⟩ := A.shape
  refine Cll.code rfl rfl ?_
  refine WC.env [(0, _)] rfl ?_
  refine J (U (WS.box W [_, _, _, _, _, _, _, _, _, _, _, _] rfl rfl rfl rfl ?_))
  intro p1 h2 M3
  refine WS.new M3 rfl ?_
  intro p4 h5 M6
  refine G [(1, _), (2, _)] rfl ?_
  refine J (J (U (D rfl rfl (D rfl (op_ld (M6.at 1 rfl) rfl rfl) (G [(1, _), (2, _), (4, _)] rfl ?_)))))
  refine WC.block (J (J (U (WS.eqlN (a := (c.op).toNat) (b := 1) rfl rfl rfl (fun e6 => ?_) (fun e6 => ?_)))))
  ·
   refine D rfl rfl (G [(1, _), (2, _), (4, _), (5, _)] rfl ?_)
   refine X rfl (WC.skip (X rfl (U (D rfl rfl ?_))))
   refine WS.st1 (M6.focus 1 rfl) [_] [_, _, _, _, _, _, _, _, _, _, _, _] rfl rfl rfl rfl rfl (F rfl) (F rfl) rfl rfl ?_
   intro h7 M8
   replace M8 : Mem _ _ ([(p1, _)] :: [(p4, _)] :: []) _ := M8
   refine G [(1, _), (2, _)] rfl ?_
   refine J (U (D rfl (op_lds [_, _, _, _, _, _, _, _, _, _, _, _] (M8.at 0 rfl) rfl (F rfl) rfl) ?_))
   refine WS.st1 (M8.focus 1 rfl) [_, _, _, _, _, _, _, _, _, _, _, _] [_, _, _, _, _, _, _, _, _, _, _, _] rfl rfl rfl rfl rfl (F rfl) (F rfl) rfl rfl ?_
   intro h9 M10
   replace M10 : Mem _ _ ([(p4, _)] :: [(p1, _)] :: []) _ := M10
   refine G [(2, _)] rfl ?_
   refine Y (⟨[_], (res_cellN [_, _, _, _, _, _, _, _, _, _, _, _] rfl (M10.at 0 rfl) (F rfl) rfl res_nil), ?_⟩)
   rw [bare_1 (c := c) (by omega)]
   exact ⟨_, fun _ q => q, rfl, M10.bare.take 0⟩
  ·
   refine D rfl rfl (G [(1, _), (2, _), (4, _), (5, _)] rfl ?_)
   refine AX rfl (U (WS.eqlN (a := (c.op).toNat) (b := 6) rfl rfl rfl (fun e7 => ?_) (fun e7 => ?_)))
   ·
    refine D rfl rfl (G [(1, _), (2, _), (4, _), (5, _)] rfl ?_)
    refine X rfl (U (D rfl rfl ?_))
    refine WS.st1 (M6.focus 1 rfl) [_] [_, _, _, _, _, _, _, _, _, _, _, _] rfl rfl rfl rfl rfl (F rfl) (F rfl) rfl rfl ?_
    intro h11 M12
    replace M12 : Mem _ _ ([(p1, _)] :: [(p4, _)] :: []) _ := M12
    refine G [(1, _), (2, _)] rfl ?_
    refine J (U (D rfl (op_lds [_, _, _, _, _, _, _, _, _, _, _, _] (M12.at 0 rfl) rfl (F rfl) rfl) ?_))
    refine WS.st1 (M12.focus 1 rfl) [_, _, _, _, _, _, _, _, _, _, _, _] [_, _, _, _, _, _, _, _, _, _, _, _] rfl rfl rfl rfl rfl (F rfl) (F rfl) rfl rfl ?_
    intro h13 M14
    replace M14 : Mem _ _ ([(p4, _)] :: [(p1, _)] :: []) _ := M14
    refine G [(2, _)] rfl ?_
    refine Y (⟨[_], (res_cellN [_, _, _, _, _, _, _, _, _, _, _, _] rfl (M14.at 0 rfl) (F rfl) rfl res_nil), ?_⟩)
    rw [bare_1 (c := c) (by omega)]
    exact ⟨_, fun _ q => q, rfl, M14.bare.take 0⟩
   ·
    refine D rfl rfl (G [(1, _), (2, _), (4, _), (5, _)] rfl ?_)
    refine AX rfl (J (U (WS.eqlN (a := (c.op).toNat) (b := 2) rfl rfl rfl (fun e10 => ?_) (fun e10 => ?_))))
    ·
     refine D rfl rfl (G [(1, _), (2, _), (4, _), (9, _)] rfl ?_)
     refine X rfl (U (D rfl rfl ?_))
     refine WS.st1 (M6.focus 1 rfl) [_] [_, _, _, _, _, _, _, _, _, _, _, _] rfl rfl rfl rfl rfl (F rfl) (F rfl) rfl rfl ?_
     intro h15 M16
     replace M16 : Mem _ _ ([(p1, _)] :: [(p4, _)] :: []) _ := M16
     refine D rfl rfl ?_
     refine WS.st1 (M16.focus 0 rfl) [_] [_, _, _, _, _, _, _, _, _, _, _, _] rfl rfl rfl rfl rfl (F rfl) (F rfl) rfl rfl ?_
     intro h17 M18
     replace M18 : Mem _ _ ([(p1, _)] :: [(p4, _)] :: []) _ := M18
     refine D rfl rfl ?_
     refine WS.st1 (M18.focus 0 rfl) [_] [_, _, _, _, _, _, _, _, _, _, _, _] rfl rfl rfl rfl rfl (F rfl) (F rfl) rfl rfl ?_
     intro h19 M20
     replace M20 : Mem _ _ ([(p1, _)] :: [(p4, _)] :: []) _ := M20
     refine G [(1, _), (2, _)] rfl ?_
     refine J (U (D rfl (op_lds [_, _, _, _, _, _, _, _, _, _, _, _] (M20.at 0 rfl) rfl (F rfl) rfl) ?_))
     refine WS.st1 (M20.focus 1 rfl) [_, _, _, _, _, _, _, _, _, _, _, _] [_, _, _, _, _, _, _, _, _, _, _, _] rfl rfl rfl rfl rfl (F rfl) (F rfl) rfl rfl ?_
     intro h21 M22
     replace M22 : Mem _ _ ([(p4, _)] :: [(p1, _)] :: []) _ := M22
     refine G [(2, _)] rfl ?_
     refine Y (⟨[_], (res_cellN [_, _, _, _, _, _, _, _, _, _, _, _] rfl (M22.at 0 rfl) (F rfl) rfl res_nil), ?_⟩)
     rw [bare_2 (c := c) (by omega)]
     exact ⟨_, fun _ q => q, rfl, M22.bare.take 0⟩
    ·
     refine D rfl rfl (G [(1, _), (2, _), (4, _), (9, _)] rfl ?_)
     refine AX rfl (J (J (U (WS.eqlN (a := (c.op).toNat) (b := 3) rfl rfl rfl (fun e15 => ?_) (fun e15 => ?_)))))
     ·
      refine D rfl rfl (G [(1, _), (2, _), (4, _), (14, _)] rfl ?_)
      refine X rfl (WC.skip (X rfl (U (D rfl rfl ?_))))
      refine WS.st1 (M6.focus 1 rfl) [_] [_, _, _, _, _, _, _, _, _, _, _, _] rfl rfl rfl rfl rfl (F rfl) (F rfl) rfl rfl ?_
      intro h23 M24
      replace M24 : Mem _ _ ([(p1, _)] :: [(p4, _)] :: []) _ := M24
      refine G [(1, _), (2, _)] rfl ?_
      refine J (U (D rfl (op_lds [_, _, _, _, _, _, _, _, _, _, _, _] (M24.at 0 rfl) rfl (F rfl) rfl) ?_))
      refine WS.st1 (M24.focus 1 rfl) [_, _, _, _, _, _, _, _, _, _, _, _] [_, _, _, _, _, _, _, _, _, _, _, _] rfl rfl rfl rfl rfl (F rfl) (F rfl) rfl rfl ?_
      intro h25 M26
      replace M26 : Mem _ _ ([(p4, _)] :: [(p1, _)] :: []) _ := M26
      refine G [(2, _)] rfl ?_
      refine Y (⟨[_], (res_cellN [_, _, _, _, _, _, _, _, _, _, _, _] rfl (M26.at 0 rfl) (F rfl) rfl res_nil), ?_⟩)
      rw [bare_3 (c := c) (by omega)]
      exact ⟨_, fun _ q => q, rfl, M26.bare.take 0⟩
     ·
      refine D rfl rfl (G [(1, _), (2, _), (4, _), (14, _)] rfl ?_)
      refine AX rfl (U (WS.eqlN (a := (c.op).toNat) (b := 8) rfl rfl rfl (fun e16 => ?_) (fun e16 => ?_)))
      ·
       refine D rfl rfl (G [(1, _), (2, _), (4, _), (14, _)] rfl ?_)
       refine X rfl (U (D rfl rfl ?_))
       refine WS.st1 (M6.focus 1 rfl) [_] [_, _, _, _, _, _, _, _, _, _, _, _] rfl rfl rfl rfl rfl (F rfl) (F rfl) rfl rfl ?_
       intro h27 M28
       replace M28 : Mem _ _ ([(p1, _)] :: [(p4, _)] :: []) _ := M28
       refine G [(1, _), (2, _)] rfl ?_
       refine J (U (D rfl (op_lds [_, _, _, _, _, _, _, _, _, _, _, _] (M28.at 0 rfl) rfl (F rfl) rfl) ?_))
       refine WS.st1 (M28.focus 1 rfl) [_, _, _, _, _, _, _, _, _, _, _, _] [_, _, _, _, _, _, _, _, _, _, _, _] rfl rfl rfl rfl rfl (F rfl) (F rfl) rfl rfl ?_
       intro h29 M30
       replace M30 : Mem _ _ ([(p4, _)] :: [(p1, _)] :: []) _ := M30
       refine G [(2, _)] rfl ?_
       refine Y (⟨[_], (res_cellN [_, _, _, _, _, _, _, _, _, _, _, _] rfl (M30.at 0 rfl) (F rfl) rfl res_nil), ?_⟩)
       rw [bare_3 (c := c) (by omega)]
       exact ⟨_, fun _ q => q, rfl, M30.bare.take 0⟩
      ·
       refine D rfl rfl (G [(1, _), (2, _), (4, _), (14, _)] rfl ?_)
       refine AX rfl (J (U (WS.eqlN (a := (c.op).toNat) (b := 4) rfl rfl rfl (fun e19 => ?_) (fun e19 => ?_))))
       ·
        refine D rfl rfl (G [(1, _), (2, _), (4, _), (18, _)] rfl ?_)
        refine X rfl (U (D rfl rfl ?_))
        refine WS.st1 (M6.focus 1 rfl) [_] [_, _, _, _, _, _, _, _, _, _, _, _] rfl rfl rfl rfl rfl (F rfl) (F rfl) rfl rfl ?_
        intro h31 M32
        replace M32 : Mem _ _ ([(p1, _)] :: [(p4, _)] :: []) _ := M32
        refine D rfl rfl ?_
        refine WS.st1 (M32.focus 0 rfl) [_] [_, _, _, _, _, _, _, _, _, _, _, _] rfl rfl rfl rfl rfl (F rfl) (F rfl) rfl rfl ?_
        intro h33 M34
        replace M34 : Mem _ _ ([(p1, _)] :: [(p4, _)] :: []) _ := M34
        refine D rfl rfl ?_
        refine WS.st1 (M34.focus 0 rfl) [_] [_, _, _, _, _, _, _, _, _, _, _, _] rfl rfl rfl rfl rfl (F rfl) (F rfl) rfl rfl ?_
        intro h35 M36
        replace M36 : Mem _ _ ([(p1, _)] :: [(p4, _)] :: []) _ := M36
        refine G [(1, _), (2, _)] rfl ?_
        refine J (U (D rfl (op_lds [_, _, _, _, _, _, _, _, _, _, _, _] (M36.at 0 rfl) rfl (F rfl) rfl) ?_))
        refine WS.st1 (M36.focus 1 rfl) [_, _, _, _, _, _, _, _, _, _, _, _] [_, _, _, _, _, _, _, _, _, _, _, _] rfl rfl rfl rfl rfl (F rfl) (F rfl) rfl rfl ?_
        intro h37 M38
        replace M38 : Mem _ _ ([(p4, _)] :: [(p1, _)] :: []) _ := M38
        refine G [(2, _)] rfl ?_
        refine Y (⟨[_], (res_cellN [_, _, _, _, _, _, _, _, _, _, _, _] rfl (M38.at 0 rfl) (F rfl) rfl res_nil), ?_⟩)
        rw [bare_4 (c := c) (by omega)]
        exact ⟨_, fun _ q => q, rfl, M38.bare.take 0⟩
       ·
        refine D rfl rfl (G [(1, _), (2, _), (4, _), (18, _)] rfl ?_)
        refine AX rfl (J (U (WS.eqlN (a := (c.op).toNat) (b := 5) rfl rfl rfl (fun e24 => ?_) (fun e24 => ?_))))
        ·
         refine D rfl rfl (G [(1, _), (2, _), (4, _), (23, _)] rfl ?_)
         refine X rfl (U (D rfl rfl ?_))
         refine WS.st1 (M6.focus 1 rfl) [_] [_, _, _, _, _, _, _, _, _, _, _, _] rfl rfl rfl rfl rfl (F rfl) (F rfl) rfl rfl ?_
         intro h39 M40
         replace M40 : Mem _ _ ([(p1, _)] :: [(p4, _)] :: []) _ := M40
         refine G [(1, _), (2, _)] rfl ?_
         refine J (U (D rfl (op_lds [_, _, _, _, _, _, _, _, _, _, _, _] (M40.at 0 rfl) rfl (F rfl) rfl) ?_))
         refine WS.st1 (M40.focus 1 rfl) [_, _, _, _, _, _, _, _, _, _, _, _] [_, _, _, _, _, _, _, _, _, _, _, _] rfl rfl rfl rfl rfl (F rfl) (F rfl) rfl rfl ?_
         intro h41 M42
         replace M42 : Mem _ _ ([(p4, _)] :: [(p1, _)] :: []) _ := M42
         refine G [(2, _)] rfl ?_
         refine Y (⟨[_], (res_cellN [_, _, _, _, _, _, _, _, _, _, _, _] rfl (M42.at 0 rfl) (F rfl) rfl res_nil), ?_⟩)
         rw [bare_5 (c := c) (by omega)]
         exact ⟨_, fun _ _ => .nil, rfl, M42.bare.take 0⟩
        ·
         refine D rfl rfl (G [(1, _), (2, _), (4, _), (23, _)] rfl ?_)
         refine AX rfl (J (U (WS.eqlN (a := (c.op).toNat) (b := 7) rfl rfl rfl (fun e27 => ?_) (fun e27 => ?_))))
         ·
          refine D rfl rfl (G [(1, _), (2, _), (4, _), (26, _)] rfl ?_)
          refine X rfl (U (D rfl rfl ?_))
          refine WS.st1 (M6.focus 1 rfl) [_] [_, _, _, _, _, _, _, _, _, _, _, _] rfl rfl rfl rfl rfl (F rfl) (F rfl) rfl rfl ?_
          intro h43 M44
          replace M44 : Mem _ _ ([(p1, _)] :: [(p4, _)] :: []) _ := M44
          refine G [(1, _), (2, _)] rfl ?_
          refine J (U (D rfl (op_lds [_, _, _, _, _, _, _, _, _, _, _, _] (M44.at 0 rfl) rfl (F rfl) rfl) ?_))
          refine WS.st1 (M44.focus 1 rfl) [_, _, _, _, _, _, _, _, _, _, _, _] [_, _, _, _, _, _, _, _, _, _, _, _] rfl rfl rfl rfl rfl (F rfl) (F rfl) rfl rfl ?_
          intro h45 M46
          replace M46 : Mem _ _ ([(p4, _)] :: [(p1, _)] :: []) _ := M46
          refine G [(2, _)] rfl ?_
          refine Y (⟨[_], (res_cellN [_, _, _, _, _, _, _, _, _, _, _, _] rfl (M46.at 0 rfl) (F rfl) rfl res_nil), ?_⟩)
          rw [bare_7 (c := c) (by omega)]
          exact ⟨_, fun _ q => q, rfl, M46.bare.take 0⟩
         ·
          refine D rfl rfl (G [(1, _), (2, _), (4, _), (26, _)] rfl ?_)
          refine AX rfl (J (U (WS.eqlN (a := (c.op).toNat) (b := 9) rfl rfl rfl (fun e30 => ?_) (fun e30 => ?_))))
          ·
           refine D rfl rfl (G [(1, _), (2, _), (29, _)] rfl ?_)
           refine X rfl (U (D rfl rfl ?_))
           refine WS.st1 (M6.focus 1 rfl) [_] [_, _, _, _, _, _, _, _, _, _, _, _] rfl rfl rfl rfl rfl (F rfl) (F rfl) rfl rfl ?_
           intro h47 M48
           replace M48 : Mem _ _ ([(p1, _)] :: [(p4, _)] :: []) _ := M48
           refine D rfl rfl ?_
           refine WS.st1 (M48.focus 0 rfl) [_] [_, _, _, _, _, _, _, _, _, _, _, _] rfl rfl rfl rfl rfl (F rfl) (F rfl) rfl rfl ?_
           intro h49 M50
           replace M50 : Mem _ _ ([(p1, _)] :: [(p4, _)] :: []) _ := M50
           refine D rfl rfl ?_
           refine WS.st1 (M50.focus 0 rfl) [_] [_, _, _, _, _, _, _, _, _, _, _, _] rfl rfl rfl rfl rfl (F rfl) (F rfl) rfl rfl ?_
           intro h51 M52
           replace M52 : Mem _ _ ([(p1, _)] :: [(p4, _)] :: []) _ := M52
           refine G [(1, _), (2, _)] rfl ?_
           refine J (U (D rfl (op_lds [_, _, _, _, _, _, _, _, _, _, _, _] (M52.at 0 rfl) rfl (F rfl) rfl) ?_))
           refine WS.st1 (M52.focus 1 rfl) [_, _, _, _, _, _, _, _, _, _, _, _] [_, _, _, _, _, _, _, _, _, _, _, _] rfl rfl rfl rfl rfl (F rfl) (F rfl) rfl rfl ?_
           intro h53 M54
           replace M54 : Mem _ _ ([(p4, _)] :: [(p1, _)] :: []) _ := M54
           refine G [(2, _)] rfl ?_
           refine Y (⟨[_], (res_cellN [_, _, _, _, _, _, _, _, _, _, _, _] rfl (M54.at 0 rfl) (F rfl) rfl res_nil), ?_⟩)
           rw [bare_9 (c := c) (by omega)]
           exact ⟨_, fun _ q => q, rfl, M54.bare.take 0⟩
          ·
           refine D rfl rfl (G [(1, _), (2, _), (29, _)] rfl ?_)
           refine AX rfl (WC.skip (J (U (D rfl (op_lds [_, _, _, _, _, _, _, _, _, _, _, _] (M6.at 1 rfl) rfl (F rfl) rfl) ?_))))
           refine WS.st1 (M6.focus 0 rfl) [_, _, _, _, _, _, _, _, _, _, _, _] [_, _, _, _, _, _, _, _, _, _, _, _] rfl rfl rfl rfl rfl (F rfl) (F rfl) rfl rfl ?_
           intro h55 M56
           replace M56 : Mem _ _ ([(p4, _)] :: [(p1, _)] :: []) _ := M56
           refine G [(2, _)] rfl ?_
           refine Y (⟨[_], (res_cellN [_, _, _, _, _, _, _, _, _, _, _, _] rfl (M56.at 0 rfl) (F rfl) rfl res_nil), ?_⟩)
           rw [bare_0 (c := c) (by omega)]
           exact ⟨_, fun _ q => q, rfl, M56.bare.take 0⟩
theorem may1_ran (W : Mem h h [] []) {p : Part} : Cll tab0 72 [.agg (Part.cells p).toArray] h (fun v h2 => v = .bool (badP p) ∧ Mem h h2 [] []) := by
  refine Cll.code rfl rfl ?_
  refine WC.env [(0, _)] rfl ?_
  refine J (U (WS.box W [_, _, _] rfl rfl rfl rfl ?_))
  intro p1 h2 M3
  refine D rfl rfl (G [(1, _)] rfl ?_)
  refine J (U (D rfl rfl (D rfl (op_ld (M3.at 0 rfl) rfl rfl) ?_)))
  refine WS.neqN (a := (p.op).toNat) (b := 2) rfl rfl rfl (fun e5 => ?_) (fun e5 => ?_)
  ·
   refine D rfl rfl (D rfl rfl (D rfl (op_ld (M3.at 0 rfl) rfl rfl) ?_))
   refine WS.neqN (a := (p.op).toNat) (b := 3) rfl rfl rfl (fun e9 => ?_) (fun e9 => ?_)
   ·
    refine D rfl rfl (C rfl (C rfl (C rfl (D rfl rfl (D rfl rfl (D rfl rfl (G [(2, _)] rfl ?_)))))))
    refine Y (⟨[_], (res_tmp rfl res_nil), ?_⟩)
    exact ⟨by unfold badP; rw [decide_eq_false (by unfold GoodP; rintro (q | ⟨q, q2⟩); omega; first | omega | exact absurd q2 (by assumption))]; rfl, M3.bare.take 0⟩
   ·
    refine D rfl rfl (D rfl rfl (D rfl (op_ld (M3.at 0 rfl) rfl rfl) ?_))
    refine WS.sneq (l := p.va) (m := []) rfl rfl rfl (fun e13 => ?_) (fun e13 => ?_)
    ·
     refine D rfl rfl (D rfl rfl (D rfl rfl (G [(2, _)] rfl ?_)))
     refine Y (⟨[_], (res_tmp rfl res_nil), ?_⟩)
     exact ⟨by unfold badP; rw [decide_eq_false (by unfold GoodP; rintro (q | ⟨q, q2⟩); omega; first | omega | exact absurd q2 (by assumption))]; rfl, M3.bare.take 0⟩
    ·
     refine D rfl rfl (D rfl rfl (D rfl rfl (G [(2, _)] rfl ?_)))
     refine Y (⟨[_], (res_tmp rfl res_nil), ?_⟩)
     exact ⟨by unfold badP; rw [decide_eq_true (by unfold GoodP; first | (left; omega) | (right; exact ⟨by omega, by assumption⟩))]; rfl, M3.bare.take 0⟩
  ·
   refine D rfl rfl (C rfl (C rfl (C rfl (C rfl (C rfl (C rfl (C rfl (C rfl (D rfl rfl ?_)))))))))
   refine D rfl rfl (G [(2, _)] rfl ?_)
   refine Y (⟨[_], (res_tmp rfl res_nil), ?_⟩)
   exact ⟨by unfold badP; rw [decide_eq_true (by unfold GoodP; first | (left; omega) | (right; exact ⟨by omega, by assumption⟩))]; rfl, M3.bare.take 0⟩
theorem idxP_ran (W : Mem h h [] []) {V : Value} {ps : List Part} (A : KPart.Sl h V ps) (hl : ps.length < 9223372036854775808) : Cll tab0 78 [V, .func (.func 72) #[] #[]] h (fun v h2 => (∃ z, v = .int .i64 z ∧ (0 ≤ z ↔ ¬ AllG ps)) ∧ Mem h h2 [] []) := by
  refine Cll.code rfl rfl ?_
  refine WC.env [(0, _), (1, _)] rfl ?_
  refine J (U (D rfl rfl (G [(0, _), (1, _)] rfl ?_)))
  refine J (J (U (D rfl rfl (D rfl (op_lenVS A rfl) (D rfl rfl (G [(0, _), (1, _), (7, _), (8, _)] rfl ?_))))))
  refine WC.block ?_
  obtain ⟨L1, eL3, M2⟩ := Mem.name W.bare
  refine WC.loop (σ := Nat) (fun (i) => [(0, V), (1, (.func (.func 72) #[] #[])), (7, (.int .i64 (((ps).length : Nat) : Int))), (8, (.int .i64 ((i : Nat) : Int)))]) (fun (i) hh => Mem h hh (L1) [] ∧ AllG (ps.take i) ∧ i ≤ ps.length) (fun (i) => ps.length - i) (0) rfl ⟨M2, ?_⟩ ?_
  · exact ⟨by intro e he; simp at he, by omega⟩
  ·rintro i h4 ⟨M5, ⟨hO, hi1⟩⟩
   subst eL3
   refine WC.env [(0, _), (1, _), (7, _), (8, _)] rfl ?_
   refine J (U (WS.lssN (a := i) (b := (ps).length) rfl rfl rfl (fun e9 => ?_) (fun e9 => ?_)))
   ·
    refine G [(0, _), (1, _), (7, _), (8, _), (9, _)] rfl ?_
    refine J (X rfl (WC.skip (J (WC.block (J (U (D rfl rfl (D rfl rfl (G [(0, _), (1, _), (5, _), (7, _), (8, _)] rfl ?_)))))))))
    refine J (U (D rfl rfl (D rfl rfl (D rfl rfl ?_))))
    obtain ⟨y14, hy14⟩ : ∃ y, (ps)[i]? = some y := ⟨_, List.getElem?_eq_getElem (show i < (ps).length by first | omega | (simp only [List.length_drop, List.length_take, AQ, List.length_cons, List.length_nil, List.length_singleton]; omega) | (simp only [List.length_drop, List.length_take, AQ, List.length_cons, List.length_nil, List.length_singleton] at *; omega))⟩
    refine WS.iaVS A i hy14 rfl rfl rfl rfl ?_
    intro b14_ o14_ ha14
    refine D rfl (op_ldAt rfl (ha14.mono M5.sub) rfl) ?_
    refine WS.call rfl rfl rfl (may1_ran M5.here (p := y14)) ?_
    rintro _ h6 ⟨rfl, N7⟩
    have M8 := M5.trans N7
    refine G [(0, _), (1, _), (5, _), (7, _), (8, _), (16, _)] rfl ?_
    cases hb1 : (badP y14)
    ·
     refine AX rfl (WC.skip (U (WS.opV (.int .i64 (((i + 1) : Nat) : Int)) rfl rfl (add_i64 (a := i) (b := 1) (by omega)) (D rfl rfl (G [(0, _), (1, _), (7, _), (8, _)] rfl ?_)))))
     refine ⟨i + 1, rfl, ⟨(M8.bare.take 0), ?_⟩, ?_⟩
     · exact ⟨AllG_snoc hO hy14 (by have q := hb1; unfold badP at q; simpa using q), by omega⟩
     · simp only []; omega
    ·
     refine X rfl (J (U (D rfl rfl (D rfl rfl (G [(4, _)] rfl ?_)))))
     refine Y (⟨[_], (res_tmp rfl res_nil), ?_⟩)
     refine ⟨⟨_, rfl, ?_⟩, M8.bare.take 0⟩
     have : ¬ GoodP y14 := by have q := hb1; unfold badP at q; simpa using q
     exact ⟨fun _ q => this (q _ (List.mem_of_getElem? hy14)), fun _ => by omega⟩
   ·
    refine G [(0, _), (1, _), (7, _), (8, _), (9, _)] rfl ?_
    refine J (AX rfl (WC.exit ?_))
    refine J (U (D rfl rfl (G [(4, _)] rfl ?_)))
    refine Y (⟨[_], (res_tmp rfl res_nil), ?_⟩)
    refine ⟨⟨_, rfl, ?_⟩, M5.bare.take 0⟩
    rw [List.take_of_length_le (by omega)] at hO
    exact ⟨fun q => by omega, fun q => absurd hO q⟩
theorem contP_ran (W : Mem h h [] []) {V : Value} {ps : List Part} (A : KPart.Sl h V ps) (hl : ps.length < 9223372036854775808) : Cll tab0 73 [V, .func (.func 72) #[] #[]] h (fun v h2 => v = .bool (!(decide (AllG ps))) ∧ Mem h h2 [] []) := by
  refine Cll.code rfl rfl ?_
  refine WC.env [(0, _), (1, _)] rfl ?_
  refine J (U (D rfl rfl (G [(0, _), (1, _)] rfl ?_)))
  refine J (U (D rfl rfl (D rfl rfl ?_)))
  refine WS.call rfl rfl rfl (idxP_ran W.here (A.mono W.sub) (by omega)) ?_
  rintro _ h1 ⟨⟨z7, rfl, hz7⟩, N2⟩
  have M3 := W.trans N2
  refine WS.geq (a := z7) (b := (0 : Int)) rfl rfl rfl (fun e8 => ?_) (fun e8 => ?_)
  ·
   refine D rfl rfl (G [(4, _)] rfl ?_)
   refine Y (⟨[_], (res_tmp rfl res_nil), ?_⟩)
   refine ⟨?_, M3.bare.take 0⟩
   have hq : decide (AllG ps) = false := decide_eq_false (hz7.1 (by omega))
   rw [hq]; rfl
  ·
   refine D rfl rfl (G [(4, _)] rfl ?_)
   refine Y (⟨[_], (res_tmp rfl res_nil), ?_⟩)
   refine ⟨?_, M3.bare.take 0⟩
   have hq : decide (AllG ps) = true := decide_eq_true (by by_cases q : AllG ps; exact q; have := hz7.2 q; omega)
   rw [hq]; rfl
def Zero (b : Cmd) : Prop := (((b.ky ++ b.va) ++ b.ex) ++ b.fr) ++ b.to = [] ∧ b.li.toNat = 0 ∧ b.le.toNat = 0 ∧ b.tt.toNat = 0 ∧ b.ps.length = 0
theorem u8_0 {a : UInt8} (h : a.toNat = 0) : a = 0 := u8_inj h
theorem u64_0 {a : UInt64} (h : a.toNat = 0) : a = 0 := u64_inj h
theorem zero_iff {c : Cmd} : Zero (bareC c) ↔ c = plain c := by
  have key : ∀ k, c.op.toNat = k ∨ True → (Zero (bareC c) ↔ c = plain c) := by
    intro k _
    obtain ⟨op, se, sq, ky, va, ex, fr, to, li, le, tt, ps⟩ := c
    by_cases h1 : op.toNat = 1 ∨ op.toNat = 6
    · rw [bare_1 h1, (enc_1 h1).1]; simp only [Zero, blank, List.append_eq_nil_iff, List.length_eq_zero_iff, Cmd.mk.injEq, true_and, and_true]
      constructor
      · rintro ⟨⟨⟨⟨⟨a, b⟩, c⟩, d⟩, e⟩, f, g, _, i⟩; exact ⟨a, b, c, d, e, u8_0 f, u64_0 g, i⟩
      · rintro ⟨a, b, c, d, e, f, g, i⟩; subst f; subst g; exact ⟨⟨⟨⟨⟨a, b⟩, c⟩, d⟩, e⟩, rfl, rfl, rfl, i⟩
    by_cases h2 : op.toNat = 2
    · rw [bare_2 h2, (enc_2 h2).1]; simp only [Zero, blank, List.append_eq_nil_iff, List.length_eq_zero_iff, Cmd.mk.injEq, true_and, and_true]
      constructor
      · rintro ⟨⟨⟨c, d⟩, e⟩, f, _, g, i⟩; exact ⟨c, d, e, u8_0 f, u64_0 g, i⟩
      · rintro ⟨c, d, e, f, g, i⟩; subst f; subst g; exact ⟨⟨⟨c, d⟩, e⟩, rfl, rfl, rfl, i⟩
    by_cases h3 : op.toNat = 3 ∨ op.toNat = 8
    · rw [bare_3 h3, (enc_3 h3).1]; simp only [Zero, blank, List.append_eq_nil_iff, List.length_eq_zero_iff, Cmd.mk.injEq, true_and, and_true]
      constructor
      · rintro ⟨⟨⟨⟨b, c⟩, d⟩, e⟩, f, g, j, i⟩; exact ⟨b, c, d, e, u8_0 f, u64_0 g, u64_0 j, i⟩
      · rintro ⟨b, c, d, e, f, g, j, i⟩; subst f; subst g; subst j; exact ⟨⟨⟨⟨b, c⟩, d⟩, e⟩, rfl, rfl, rfl, i⟩
    by_cases h4 : op.toNat = 4
    · rw [bare_4 h4, (enc_4 h4).1]; simp only [Zero, blank, List.append_eq_nil_iff, List.length_eq_zero_iff, Cmd.mk.injEq, true_and, and_true]
      constructor
      · rintro ⟨⟨d, e⟩, f, g, j, i⟩; exact ⟨d, e, u8_0 f, u64_0 g, u64_0 j, i⟩
      · rintro ⟨d, e, f, g, j, i⟩; subst f; subst g; subst j; exact ⟨⟨d, e⟩, rfl, rfl, rfl, i⟩
    by_cases h5 : op.toNat = 5
    · rw [bare_5 h5, (enc_5 h5).1]; simp only [Zero, blank, List.append_eq_nil_iff, List.length_eq_zero_iff, Cmd.mk.injEq, true_and, and_true]
      constructor
      · rintro ⟨⟨⟨⟨⟨a, b⟩, c⟩, d⟩, e⟩, f, g, j⟩; exact ⟨a, b, c, d, e, u8_0 f, u64_0 g, u64_0 j⟩
      · rintro ⟨a, b, c, d, e, f, g, j⟩; subst f; subst g; subst j; exact ⟨⟨⟨⟨⟨a, b⟩, c⟩, d⟩, e⟩, rfl, rfl, rfl⟩
    by_cases h7 : op.toNat = 7
    · rw [bare_7 h7, (enc_7 h7).1]; simp only [Zero, blank, List.append_eq_nil_iff, List.length_eq_zero_iff, Cmd.mk.injEq, true_and, and_true]
      constructor
      · rintro ⟨⟨⟨⟨⟨a, b⟩, c⟩, d⟩, e⟩, f, _, g, i⟩; exact ⟨a, b, c, d, e, u8_0 f, u64_0 g, i⟩
      · rintro ⟨a, b, c, d, e, f, g, i⟩; subst f; subst g; exact ⟨⟨⟨⟨⟨a, b⟩, c⟩, d⟩, e⟩, rfl, rfl, rfl, i⟩
    by_cases h9 : op.toNat = 9
    · rw [bare_9 h9, (enc_9 h9).1]; simp only [Zero, blank, List.append_eq_nil_iff, List.length_eq_zero_iff, Cmd.mk.injEq, true_and, and_true]
      constructor
      · rintro ⟨⟨⟨a, b⟩, c⟩, _, f, g, i⟩; exact ⟨a, b, c, u64_0 f, u64_0 g, i⟩
      · rintro ⟨a, b, c, f, g, i⟩; subst f; subst g; exact ⟨⟨⟨a, b⟩, c⟩, rfl, rfl, rfl, i⟩
    have h0 : ¬ (1 ≤ op.toNat ∧ op.toNat ≤ 9) := by omega
    rw [bare_0 h0, (enc_0 h0).1]; simp only [Zero, blank, List.append_eq_nil_iff, List.length_eq_zero_iff, Cmd.mk.injEq, true_and, and_true]
    constructor
    · rintro ⟨⟨⟨⟨⟨a, b⟩, c⟩, d⟩, e⟩, f, g, j, i⟩; exact ⟨a, b, c, d, e, u8_0 f, u64_0 g, u64_0 j, i⟩
    · rintro ⟨a, b, c, d, e, f, g, j, i⟩; subst f; subst g; subst j; exact ⟨⟨⟨⟨⟨a, b⟩, c⟩, d⟩, e⟩, rfl, rfl, rfl, i⟩
  exact key 0 (.inr trivial)
theorem plain_ps {c : Cmd} (h : c = plain c) (h5 : c.op.toNat ≠ 5) : c.ps = [] := by
  rw [h]; unfold plain
  repeat' split
  all_goals first | rfl | (exfalso; omega)
theorem bare_lens {c : Cmd} (hf : Fit c) : (bareC c).ky.length ≤ 300000 ∧ (bareC c).va.length ≤ 300000 ∧ (bareC c).ex.length ≤ 300000 ∧ (bareC c).fr.length ≤ 300000 ∧ (bareC c).to.length ≤ 300000 ∧ (bareC c).ps.length ≤ 300 := by
  obtain ⟨f1, f2, f3, f4, f5, f6, f7⟩ := hf
  unfold bareC
  repeat' split
  all_goals first | omega | (dsimp only [List.length_nil]; omega)
set_option maxRecDepth 8000 in
theorem may_ran (W : Mem h h [] []) {c : Cmd} {V : Value} (A : KPart.Sl h V c.ps) (hf : Fit c) : Cll tab0 51 [c.val V] h (fun v h2 => v = .bool (mayB c) ∧ Mem h h2 [] []) := by
  obtain ⟨P, n, rfl⟩ := A.shape
  have f6 := hf.2.2.2.2.2.1
  obtain ⟨b1, b2, b3, b4, b5, b6⟩ := bare_lens hf
  refine Cll.code rfl rfl ?_
  refine WC.env [(0, _)] rfl ?_
  refine J (U (WS.box W [_, _, _, _, _, _, _, _, _, _, _, _] rfl rfl rfl rfl ?_))
  intro p1 h2 M3
  refine D rfl rfl (G [(1, _)] rfl ?_)
  refine J (U (D rfl (op_lds [_, _, _, _, _, _, _, _, _, _, _, _] (M3.at 0 rfl) rfl (F rfl) rfl) ?_))
  refine WS.call rfl rfl rfl (bare_ran M3.here (c := c) (A.mono M3.sub)) ?_
  rintro _ h4 ⟨V7, A8, rfl, N5⟩
  replace A8 := A8 _ A
  obtain ⟨P9, c10, rfl⟩ := A8.shape
  have M6 := M3.trans N5
  refine WS.new M6 rfl ?_
  intro p11 h12 M13
  refine WS.st1 (M13.focus 0 rfl) [_, _, _, _, _, _, _, _, _, _, _, _] [_, _, _, _, _, _, _, _, _, _, _, _] rfl rfl rfl rfl rfl (F rfl) (F rfl) rfl rfl ?_
  intro h14 M15
  replace M15 : Mem _ _ ([(p11, _)] :: [(p1, _)] :: []) _ := M15
  refine G [(1, _), (3, _)] rfl ?_
  refine J ?_
  obtain ⟨L16, eL18, M17⟩ := Mem.name M15.bare
  refine WC.joinB (base := h) (fun b => [(1, (.pointer (some ⟨p1, 0, none⟩))), (4, .bool b)]) L16 (Zero (bareC c)) (¬ Zero (bareC c)) ?_ ?_ ?_
  ·subst eL18
   refine D rfl rfl (D rfl (op_ld (M17.at 0 rfl) rfl rfl) (D rfl rfl (D rfl (op_ld (M17.at 0 rfl) rfl rfl) (D rfl (op_sadd (l := (bareC c).ky) (m := (bareC c).va) rfl rfl (by first | omega | (simp only [AQ]; omega))) (D rfl rfl (D rfl (op_ld (M17.at 0 rfl) rfl rfl) (D rfl (op_sadd (l := ((bareC c).ky ++ (bareC c).va)) (m := (bareC c).ex) rfl rfl (by first | omega | (simp only [AQ]; omega))) (D rfl rfl (D rfl (op_ld (M17.at 0 rfl) rfl rfl) ?_)))))))))
   refine D rfl (op_sadd (l := (((bareC c).ky ++ (bareC c).va) ++ (bareC c).ex)) (m := (bareC c).fr) rfl rfl (by first | omega | (simp only [AQ]; omega))) (D rfl rfl (D rfl (op_ld (M17.at 0 rfl) rfl rfl) (D rfl (op_sadd (l := ((((bareC c).ky ++ (bareC c).va) ++ (bareC c).ex) ++ (bareC c).fr)) (m := (bareC c).to) rfl rfl (by first | omega | (simp only [AQ]; omega))) ?_)))
   refine WS.seql (l := (((((bareC c).ky ++ (bareC c).va) ++ (bareC c).ex) ++ (bareC c).fr) ++ (bareC c).to)) (m := []) rfl rfl rfl (fun e22 => ?_) (fun e22 => ?_)
   ·
    refine D rfl rfl (D rfl rfl (D rfl (op_ld (M17.at 0 rfl) rfl rfl) ?_))
    refine WS.eqlN (a := ((bareC c).li).toNat) (b := 0) rfl rfl rfl (fun e26 => ?_) (fun e26 => ?_)
    ·
     refine D rfl rfl (D rfl rfl (D rfl rfl (D rfl (op_ld (M17.at 0 rfl) rfl rfl) ?_)))
     refine WS.eqlN (a := ((bareC c).le).toNat) (b := 0) rfl rfl rfl (fun e31 => ?_) (fun e31 => ?_)
     ·
      refine D rfl rfl (D rfl rfl (D rfl rfl (D rfl (op_ld (M17.at 0 rfl) rfl rfl) ?_)))
      refine WS.eqlN (a := ((bareC c).tt).toNat) (b := 0) rfl rfl rfl (fun e36 => ?_) (fun e36 => ?_)
      ·
       refine D rfl rfl (D rfl rfl (D rfl rfl (D rfl (op_ld (M17.at 0 rfl) rfl rfl) (D rfl (op_lenVS A8 rfl) ?_))))
       refine WS.eqlN (a := ((bareC c).ps).length) (b := 0) rfl rfl rfl (fun e42 => ?_) (fun e42 => ?_)
       ·
        refine D rfl rfl (D rfl rfl ?_)
        refine WS.nil' ⟨true, rfl, (((M17.bare.focus 1 rfl).focus 1 rfl).take 2), fun _ => ?_, fun hh => ?_⟩
        · exact ⟨e22, e26, e31, e36, e42⟩
        · cases hh
       ·
        refine D rfl rfl (D rfl rfl ?_)
        refine WS.nil' ⟨false, rfl, (((M17.bare.focus 1 rfl).focus 1 rfl).take 2), fun hh => ?_, fun _ => ?_⟩
        · cases hh
        · rintro ⟨q1, q2, q3, q4, q5⟩; first | exact e22 q1 | exact e26 q2 | exact e31 q3 | exact e36 q4 | exact e42 q5
      ·
       refine D rfl rfl (D rfl rfl (C rfl (C rfl (C rfl (C rfl (D rfl rfl (D rfl rfl ?_)))))))
       refine WS.nil' ⟨false, rfl, (((M17.bare.focus 1 rfl).focus 1 rfl).take 2), fun hh => ?_, fun _ => ?_⟩
       · cases hh
       · rintro ⟨q1, q2, q3, q4, q5⟩; first | exact e22 q1 | exact e26 q2 | exact e31 q3 | exact e36 q4 | exact e42 q5
     ·
      refine D rfl rfl (D rfl rfl (C rfl (C rfl (C rfl (D rfl rfl (D rfl rfl (C rfl (C rfl (C rfl ?_)))))))))
      refine C rfl (D rfl rfl (D rfl rfl ?_))
      refine WS.nil' ⟨false, rfl, (((M17.bare.focus 1 rfl).focus 1 rfl).take 2), fun hh => ?_, fun _ => ?_⟩
      · cases hh
      · rintro ⟨q1, q2, q3, q4, q5⟩; first | exact e22 q1 | exact e26 q2 | exact e31 q3 | exact e36 q4 | exact e42 q5
    ·
     refine D rfl rfl (D rfl rfl (C rfl (C rfl (C rfl (D rfl rfl (D rfl rfl (C rfl (C rfl (C rfl ?_)))))))))
     refine D rfl rfl (D rfl rfl (C rfl (C rfl (C rfl (C rfl (D rfl rfl (D rfl rfl ?_)))))))
     refine WS.nil' ⟨false, rfl, (((M17.bare.focus 1 rfl).focus 1 rfl).take 2), fun hh => ?_, fun _ => ?_⟩
     · cases hh
     · rintro ⟨q1, q2, q3, q4, q5⟩; first | exact e22 q1 | exact e26 q2 | exact e31 q3 | exact e36 q4 | exact e42 q5
   ·
    refine D rfl rfl (C rfl (C rfl (C rfl (D rfl rfl (D rfl rfl (C rfl (C rfl (C rfl (D rfl rfl ?_)))))))))
    refine D rfl rfl (C rfl (C rfl (C rfl (D rfl rfl (D rfl rfl (C rfl (C rfl (C rfl (C rfl ?_)))))))))
    refine D rfl rfl (D rfl rfl ?_)
    refine WS.nil' ⟨false, rfl, (((M17.bare.focus 1 rfl).focus 1 rfl).take 2), fun hh => ?_, fun _ => ?_⟩
    · cases hh
    · rintro ⟨q1, q2, q3, q4, q5⟩; first | exact e22 q1 | exact e26 q2 | exact e31 q3 | exact e36 q4 | exact e42 q5
  ·intro h19 M20 hp4
   subst eL18
   refine J (J (U (D rfl rfl (D rfl (op_ld (M20.at 1 rfl) rfl rfl) ?_))))
   refine WS.lssN (a := (c.op).toNat) (b := 1) rfl rfl rfl (fun e46 => ?_) (fun e46 => ?_)
   ·
    refine D rfl rfl (C rfl (C rfl (C rfl (D rfl rfl (D rfl rfl (C rfl (C rfl (D rfl rfl (G [(1, _), (55, _)] rfl ?_)))))))))
    refine X rfl (J (U (D rfl rfl (G [(2, _)] rfl ?_))))
    refine Y (⟨[_], (res_tmp rfl res_nil), ?_⟩)
    exact ⟨mayB_f (by rintro ⟨q1, q2, q3, q4⟩; first | omega | exact absurd (zero_iff.2 q2) hp4 | (have q5 := q3 (by omega); omega) | (have q := hb1; simp at q; exact absurd q4 q)), M20.bare.take 0⟩
   ·
    refine D rfl rfl (D rfl rfl (D rfl (op_ld (M20.at 1 rfl) rfl rfl) ?_))
    refine WS.gtrN (a := (c.op).toNat) (b := 11) rfl rfl rfl (fun e50 => ?_) (fun e50 => ?_)
    ·
     refine D rfl rfl (D rfl rfl (C rfl (C rfl (D rfl rfl (G [(1, _), (55, _)] rfl ?_)))))
     refine X rfl (J (U (D rfl rfl (G [(2, _)] rfl ?_))))
     refine Y (⟨[_], (res_tmp rfl res_nil), ?_⟩)
     exact ⟨mayB_f (by rintro ⟨q1, q2, q3, q4⟩; first | omega | exact absurd (zero_iff.2 q2) hp4 | (have q5 := q3 (by omega); omega) | (have q := hb1; simp at q; exact absurd q4 q)), M20.bare.take 0⟩
    ·
     refine D rfl rfl (D rfl rfl (D rfl rfl (WS.opV (.bool false) rfl rfl rfl (D rfl rfl (G [(1, _), (55, _)] rfl ?_)))))
     refine AX rfl (WC.skip (J (U (D rfl rfl (G [(1, _), (5, _)] rfl ?_)))))
     refine J (U (D rfl rfl (D rfl (op_ld (M20.at 1 rfl) rfl rfl) ?_)))
     refine WS.neqN (a := (c.op).toNat) (b := 5) rfl rfl rfl (fun e58 => ?_) (fun e58 => ?_)
     ·
      refine D rfl rfl (C rfl (C rfl (C rfl (C rfl (C rfl (C rfl (C rfl (C rfl (C rfl ?_)))))))))
      refine C rfl (C rfl (C rfl (C rfl (C rfl (WS.offC rfl (C rfl (C rfl (D rfl rfl (D rfl rfl ?_)))))))))
      refine G [(2, _)] rfl ?_
      refine Y (⟨[_], (res_tmp rfl res_nil), ?_⟩)
      have hz := zero_iff.1 hp4
      exact ⟨mayB_t ⟨by omega, hz, fun q => by omega, by first | (rw [plain_ps hz (by omega)]; intro p hp; cases hp) | (have q := hb1; simpa using q) | (have q := hb2; simpa using q)⟩, M20.bare.take 0⟩
     ·
      refine D rfl rfl (D rfl rfl (D rfl (op_ld (M20.at 1 rfl) rfl rfl) (D rfl (op_lenVS A rfl) ?_)))
      refine WS.geqN (a := (c.ps).length) (b := 1) rfl rfl rfl (fun e63 => ?_) (fun e63 => ?_)
      ·
       refine D rfl rfl (D rfl rfl (D rfl (op_ld (M20.at 1 rfl) rfl rfl) (D rfl (op_lenVS A rfl) ?_)))
       refine WS.leqN (a := (c.ps).length) (b := 4) rfl rfl rfl (fun e68 => ?_) (fun e68 => ?_)
       ·
        refine D rfl rfl (D rfl rfl (D rfl rfl (D rfl (op_ld (M20.at 1 rfl) rfl rfl) (D rfl rfl ?_))))
        refine WS.call rfl rfl rfl (contP_ran M20.here (A.mono M20.sub) (by omega)) ?_
        rintro _ h21 ⟨rfl, N22⟩
        have M23 := M20.trans N22
        cases hb1 : (!(decide (AllG c.ps)))
        ·
         refine WS.opV (.bool true) rfl rfl rfl (D rfl rfl (D rfl rfl (D rfl rfl (G [(2, _)] rfl ?_))))
         refine Y (⟨[_], (res_tmp rfl res_nil), ?_⟩)
         have hz := zero_iff.1 hp4
         exact ⟨mayB_t ⟨by omega, hz, fun q => by omega, by first | (rw [plain_ps hz (by omega)]; intro p hp; cases hp) | (have q := hb1; simpa using q) | (have q := hb2; simpa using q)⟩, M23.bare.take 0⟩
        ·
         refine WS.opV (.bool false) rfl rfl rfl (D rfl rfl (D rfl rfl (D rfl rfl (G [(2, _)] rfl ?_))))
         refine Y (⟨[_], (res_tmp rfl res_nil), ?_⟩)
         exact ⟨mayB_f (by rintro ⟨q1, q2, q3, q4⟩; first | omega | exact absurd (zero_iff.2 q2) hp4 | (have q5 := q3 (by omega); omega) | (have q := hb1; simp at q; exact absurd q4 q)), M23.bare.take 0⟩
       ·
        refine D rfl rfl (D rfl rfl (C rfl (C rfl (C rfl (WS.offC rfl (C rfl (D rfl rfl (D rfl rfl (D rfl rfl ?_)))))))))
        refine G [(2, _)] rfl ?_
        refine Y (⟨[_], (res_tmp rfl res_nil), ?_⟩)
        exact ⟨mayB_f (by rintro ⟨q1, q2, q3, q4⟩; first | omega | exact absurd (zero_iff.2 q2) hp4 | (have q5 := q3 (by omega); omega) | (have q := hb1; simp at q; exact absurd q4 q)), M20.bare.take 0⟩
      ·
       refine D rfl rfl (C rfl (C rfl (C rfl (C rfl (D rfl rfl (D rfl rfl (C rfl (C rfl (C rfl ?_)))))))))
       refine WS.offC rfl (C rfl (D rfl rfl (D rfl rfl (D rfl rfl (G [(2, _)] rfl ?_)))))
       refine Y (⟨[_], (res_tmp rfl res_nil), ?_⟩)
       exact ⟨mayB_f (by rintro ⟨q1, q2, q3, q4⟩; first | omega | exact absurd (zero_iff.2 q2) hp4 | (have q5 := q3 (by omega); omega) | (have q := hb1; simp at q; exact absurd q4 q)), M20.bare.take 0⟩
  ·intro h24 M25 hp4
   subst eL18
   refine J (J (U (D rfl rfl (D rfl (op_ld (M25.at 1 rfl) rfl rfl) ?_))))
   refine WS.lssN (a := (c.op).toNat) (b := 1) rfl rfl rfl (fun e46 => ?_) (fun e46 => ?_)
   ·
    refine D rfl rfl (C rfl (C rfl (C rfl (D rfl rfl (D rfl rfl (C rfl (C rfl (D rfl rfl (G [(1, _), (55, _)] rfl ?_)))))))))
    refine X rfl (J (U (D rfl rfl (G [(2, _)] rfl ?_))))
    refine Y (⟨[_], (res_tmp rfl res_nil), ?_⟩)
    exact ⟨mayB_f (by rintro ⟨q1, q2, q3, q4⟩; first | omega | exact absurd (zero_iff.2 q2) hp4 | (have q5 := q3 (by omega); omega) | (have q := hb1; simp at q; exact absurd q4 q)), M25.bare.take 0⟩
   ·
    refine D rfl rfl (D rfl rfl (D rfl (op_ld (M25.at 1 rfl) rfl rfl) ?_))
    refine WS.gtrN (a := (c.op).toNat) (b := 11) rfl rfl rfl (fun e50 => ?_) (fun e50 => ?_)
    ·
     refine D rfl rfl (D rfl rfl (C rfl (C rfl (D rfl rfl (G [(1, _), (55, _)] rfl ?_)))))
     refine X rfl (J (U (D rfl rfl (G [(2, _)] rfl ?_))))
     refine Y (⟨[_], (res_tmp rfl res_nil), ?_⟩)
     exact ⟨mayB_f (by rintro ⟨q1, q2, q3, q4⟩; first | omega | exact absurd (zero_iff.2 q2) hp4 | (have q5 := q3 (by omega); omega) | (have q := hb1; simp at q; exact absurd q4 q)), M25.bare.take 0⟩
    ·
     refine D rfl rfl (D rfl rfl (D rfl rfl (WS.opV (.bool true) rfl rfl rfl (D rfl rfl (G [(1, _), (55, _)] rfl ?_)))))
     refine X rfl (J (U (D rfl rfl (G [(2, _)] rfl ?_))))
     refine Y (⟨[_], (res_tmp rfl res_nil), ?_⟩)
     exact ⟨mayB_f (by rintro ⟨q1, q2, q3, q4⟩; first | omega | exact absurd (zero_iff.2 q2) hp4 | (have q5 := q3 (by omega); omega) | (have q := hb1; simp at q; exact absurd q4 q)), M25.bare.take 0⟩
end Go.Proofs.Yteikngjiaboeaaa.Wt
namespace Go.Proofs.Yteikngjiaboeaaa.Wt
open Go Go.Proofs.Yteikngjiaboeaaa.Am Go.Proofs.Yteikngjiaboeaaa.IrAll
open Go.Proofs.Yteikngjiaboeaaa.Am.WS renaming op → C
open List renaming length_cons → D
open List renaming length_append → F
open List renaming length_nil → G
open Go.Proofs.Yteikngjiaboeaaa.Am.WS renaming nil → J
open Go.Proofs.Yteikngjiaboeaaa.Am.WC renaming seq → U
open Nat renaming le_of_ble_eq_true → X
open Go.Proofs.Yteikngjiaboeaaa.Am.WS renaming call → Y
set_option linter.unusedVariables false
set_option linter.unusedSimpArgs false
variable {h base : H} {L : List Seg} {R : List Nat}
theorem same_sl {P : Option Addr} {n c : Nat} : sameV (.slice P n c) (.slice P n c) = true := by first | (simp [sameV, same1]; done) | (have := sameL_self (l := [.slice P n c]) rfl; simpa [sameL, sameV] using this)
theorem mm_min {k : IntKind} {a b : Nat} : Value.int k (if true = true then (if (b : Int) < (a : Int) then (b : Int) else (a : Int)) else (if (b : Int) > (a : Int) then (b : Int) else (a : Int))) = .int k ((min a b : Nat) : Int) := by
  congr 1
  rw [if_pos rfl]
  split <;> omega
def Sees (base : H) (L : List Seg) (p o : Nat) (v : Value) : Prop := ∃ B, (base.get p = some B ∨ [(p, B)] ∈ L) ∧ B.cells[o]? = some v
theorem Sees.get {p o : Nat} {v : Value} {L' : List Seg} (S : Sees base L p o v) (M : Mem base h L' R) (hs : ∀ x ∈ L, x ∈ L') : h.ld ⟨p, o, none⟩ = some v := by
  obtain ⟨B, hb, hc⟩ := S
  have : h.get p = some B := by
    rcases hb with hb | hb
    · exact M.sub _ _ hb
    · exact (M.own (p, B) (List.mem_flatten.2 ⟨_, hs _ hb, List.mem_singleton.2 rfl⟩)).1
  exact ld_at this hc
theorem At.sees {b o k : Nat} {cs : List Value} {v : Value} (A : At base b o cs) (hc : cs[k]? = some v) : Sees base L b (o + k) v := by
  obtain ⟨B, e1, e2, e3⟩ := A
  have hk := (List.getElem?_eq_some_iff.1 hc).1
  refine ⟨B, .inl e1, ?_⟩
  rw [← e3, List.getElem?_take, if_pos hk, List.getElem?_drop] at hc; exact hc
theorem w_byte_ran {w p o : Nat} {l : List UInt8} {c : UInt8} {V : Value} {S : Seg} (O : KU8.Own V l S) (M : Mem base h (S :: [(w, ⟨[V], 0, false⟩)] :: L) []) (Z : Sees base L p o (.int .u8 ((c.toNat : Nat) : Int))) (hl : l.length + 1 ≤ 1000000000000) : Cll tab0 97 [.pointer (some ⟨w, 0, none⟩), .pointer (some ⟨p, o, none⟩)] h (fun v h2 => ∃ V2 S2, KU8.Own V2 (l ++ [c]) S2 ∧ v = .tuple #[] ∧ Mem base h2 (S2 :: [(w, ⟨[V2], 0, false⟩)] :: L) []) := by
  obtain ⟨P, rfl⟩ := O.shape
  refine Cll.code rfl rfl ?_
  refine WC.env [(0, _), (1, _)] rfl ?_
  refine WC.draw M [8] rfl ?_
  intro rb1 h2 M3
  refine C rfl rfl (C rfl rfl (C rfl rfl (C rfl rfl (C rfl (op_ld (M3.at 1 rfl) rfl rfl) (C rfl rfl (C rfl rfl (C rfl (op_ldH rfl (Sees.get Z M3 (by intro x hx; simp [hx]))) ?_)))))))
  refine WS.bslA M3 [_] 0 rfl rfl rfl rfl rfl ?_
  intro h5 M6
  refine WS.app (l := l) (m := [c]) (O) (M6.focus 1 rfl) (Row.Src.one (K := KU8) (m := [c]) (M6.at 0 rfl)) rfl (by simp only [D, G]; omega) (by simp only [D, G]; omega) rfl rfl rfl ?_
  intro V7 S8 h9 O10 M11
  obtain ⟨P12, rfl⟩ := Row.Own.shape O10
  refine C rfl rfl (C rfl rfl ?_)
  refine WS.st1 (M11.focus 2 rfl) [_] [_] rfl rfl rfl rfl rfl (X rfl) (X rfl) rfl rfl ?_
  intro h13 M14
  replace M14 : Mem _ _ ([(w, _)] :: S8 :: [((rb1 + 8), _)] :: L) _ := M14
  refine J [] rfl ?_
  refine ⟨[], res_nil, ?_⟩
  exact ⟨_, _, O10, rfl, ((((M14.bare.focus 2 rfl).drop).focus 0 rfl).focus 1 rfl)⟩
theorem w_number_ran {w p o : Nat} {l : List UInt8} {c : UInt64} {V : Value} {S : Seg} (O : KU8.Own V l S) (M : Mem base h (S :: [(w, ⟨[V], 0, false⟩)] :: L) []) (Z : Sees base L p o (.int .u64 ((c.toNat : Nat) : Int))) (hl : l.length + 10 ≤ 1000000000000) : Cll tab0 98 [.pointer (some ⟨w, 0, none⟩), .pointer (some ⟨p, o, none⟩)] h (fun v h2 => ∃ V2 S2, KU8.Own V2 (l ++ vb c.toNat) S2 ∧ v = .tuple #[] ∧ Mem base h2 (S2 :: [(w, ⟨[V2], 0, false⟩)] :: L) []) := by
  obtain ⟨P, rfl⟩ := O.shape
  have hc := c.toNat_lt
  have hv := vb_len hc
  refine Cll.code rfl rfl ?_
  refine WC.env [(0, _), (1, _)] rfl ?_
  refine WC.draw M [8] rfl ?_
  intro rb1 h2 M3
  refine C rfl rfl (C rfl rfl (C rfl rfl (C rfl rfl (C rfl (op_ld (M3.at 1 rfl) rfl rfl) (C rfl rfl (C rfl rfl (C rfl (op_ldH rfl (Sees.get Z M3 (by intro x hx; simp [hx]))) ?_)))))))
  refine WS.bslA M3 [_] 0 rfl rfl rfl rfl rfl ?_
  intro h5 M6
  refine Y rfl rfl rfl (num_V_ran M6.here (Row.Sl.own (K := KNat) (l := [(c).toNat]) (M6.at 0 rfl)) (by intro n hn; simp only [List.mem_cons, List.mem_nil_iff, or_false] at hn; omega) (by simp) (r := (vb ((c).toNat))) (by simp [List.flatMap])) ?_
  rintro _ h7 ⟨rfl, N8⟩
  have M9 := M6.trans N8
  refine WS.chk rfl (op_ld (M9.at 2 rfl) rfl rfl) rfl same_sl ?_
  refine WS.app (l := l) (m := (vb ((c).toNat))) (O) (M9.focus 1 rfl) (src_string (vb ((c).toNat))) rfl (by omega) (by omega) rfl rfl rfl ?_
  intro V10 S11 h12 O13 M14
  obtain ⟨P15, rfl⟩ := Row.Own.shape O13
  refine C rfl rfl (C rfl rfl ?_)
  refine WS.st1 (M14.focus 2 rfl) [_] [_] rfl rfl rfl rfl rfl (X rfl) (X rfl) rfl rfl ?_
  intro h16 M17
  replace M17 : Mem _ _ ([(w, _)] :: S11 :: [((rb1 + 8), _)] :: L) _ := M17
  refine J [] rfl ?_
  refine ⟨[], res_nil, ?_⟩
  exact ⟨_, _, O13, rfl, ((((M17.bare.focus 2 rfl).drop).focus 0 rfl).focus 1 rfl)⟩
theorem w_text_ran {w p o : Nat} {l c : List UInt8} {V : Value} {S : Seg} (O : KU8.Own V l S) (M : Mem base h (S :: [(w, ⟨[V], 0, false⟩)] :: L) []) (Z : Sees base L p o (.string (bs c))) (hl : l.length + c.length + 10 ≤ 1000000000000) : Cll tab0 99 [.pointer (some ⟨w, 0, none⟩), .pointer (some ⟨p, o, none⟩)] h (fun v h2 => ∃ V2 S2, KU8.Own V2 (l ++ sb c) S2 ∧ v = .tuple #[] ∧ Mem base h2 (S2 :: [(w, ⟨[V2], 0, false⟩)] :: L) []) := by
  obtain ⟨P, rfl⟩ := O.shape
  have hv := sb_len (t := c) (by omega)
  refine Cll.code rfl rfl ?_
  refine WC.env [(0, _), (1, _)] rfl ?_
  refine WC.draw M [8] rfl ?_
  intro rb1 h2 M3
  refine C rfl rfl (C rfl rfl (C rfl rfl (C rfl rfl (C rfl (op_ld (M3.at 1 rfl) rfl rfl) (C rfl rfl (C rfl rfl (C rfl (op_ldH rfl (Sees.get Z M3 (by intro x hx; simp [hx]))) ?_)))))))
  refine WS.bslA M3 [_] 0 rfl rfl rfl rfl rfl ?_
  intro h5 M6
  refine Y rfl rfl rfl (num_S_ran M6.here (Row.Sl.own (K := KStr) (l := [c]) (M6.at 0 rfl)) (by simp only [List.map_cons, List.map_nil, List.sum_cons, List.sum_nil, D, G]; omega) (r := (sb c)) (by simp [List.flatMap])) ?_
  rintro _ h7 ⟨rfl, N8⟩
  have M9 := M6.trans N8
  refine WS.chk rfl (op_ld (M9.at 2 rfl) rfl rfl) rfl same_sl ?_
  refine WS.app (l := l) (m := (sb c)) (O) (M9.focus 1 rfl) (src_string (sb c)) rfl (by omega) (by omega) rfl rfl rfl ?_
  intro V10 S11 h12 O13 M14
  obtain ⟨P15, rfl⟩ := Row.Own.shape O13
  refine C rfl rfl (C rfl rfl ?_)
  refine WS.st1 (M14.focus 2 rfl) [_] [_] rfl rfl rfl rfl rfl (X rfl) (X rfl) rfl rfl ?_
  intro h16 M17
  replace M17 : Mem _ _ ([(w, _)] :: S11 :: [((rb1 + 8), _)] :: L) _ := M17
  refine J [] rfl ?_
  refine ⟨[], res_nil, ?_⟩
  exact ⟨_, _, O13, rfl, ((((M17.bare.focus 2 rfl).drop).focus 0 rfl).focus 1 rfl)⟩
def partsB (c : Cmd) : List UInt8 := [UInt8.ofNat c.ps.length] ++ c.ps.flatMap partB
set_option maxRecDepth 8000 in
theorem partsW_ran {w p : Nat} {l : List UInt8} {c : Cmd} {V Vp : Value} {S : Seg} (A : KPart.Sl base Vp c.ps) (hf : Fit c) (h5 : c.op.toNat = 5 → c.ps.length ≤ 4) (hop : c.op.toNat = 5) (O : KU8.Own V l S) (M : Mem base h (S :: [(w, ⟨[V], 0, false⟩)] :: [(p, ⟨c.cells Vp, 0, false⟩)] :: L) []) (hl : l.length ≤ 500000000000) : Cll tab0 74 [.iface 85 (.pointer (some ⟨w, 0, none⟩)), .pointer (some ⟨p, 0, none⟩)] h (fun v h2 => ∃ V2 S2, KU8.Own V2 (l ++ partsB c) S2 ∧ v = .tuple #[] ∧ Mem base h2 (S2 :: [(w, ⟨[V2], 0, false⟩)] :: [(p, ⟨c.cells Vp, 0, false⟩)] :: L) []) := by
  obtain ⟨P, rfl⟩ := O.shape
  obtain ⟨Pp, n, rfl⟩ := A.shape
  have h4 := h5 hop
  have hn : (UInt8.ofNat c.ps.length).toNat = c.ps.length := toNat_ofNat (by omega)
  obtain ⟨f1, f2, f3, f4, f5, f6, f7⟩ := hf
  refine Cll.code rfl rfl ?_
  refine WC.env [(0, _), (1, _)] rfl ?_
  refine U (WC.run (C rfl rfl (C rfl rfl (C rfl rfl (C rfl (op_ld (M.at 2 rfl) rfl rfl) (C rfl (op_lenVS A rfl) (WS.opV (.int .u8 (((UInt8.ofNat ((c.ps).length)).toNat : Nat) : Int)) rfl rfl (u8_ofNat (n := (c.ps).length)) ?_)))))))
  refine WS.new M rfl ?_
  intro p1 h2 M3
  refine WS.st1 (M3.focus 0 rfl) [_] [_] rfl rfl rfl rfl rfl (X rfl) (X rfl) rfl rfl ?_
  intro h4 M5
  replace M5 : Mem _ _ ([(p1, _)] :: S :: [(w, _)] :: [(p, _)] :: L) _ := M5
  refine J [(0, _), (1, _), (4, _)] rfl ?_
  refine U (WC.run (C rfl rfl ?_))
  refine Y rfl rfl rfl (w_byte_ran (c := UInt8.ofNat ((c.ps).length)) O ((M5.focus 2 rfl).focus 2 rfl) ⟨_, .inr (List.Mem.head _), rfl⟩ (by omega)) ?_
  rintro _ h6 ⟨V8, S9, O10, rfl, M7⟩
  obtain ⟨P11, rfl⟩ := O10.shape
  replace M7 : Mem _ _ (S9 :: [(w, _)] :: [(p1, _)] :: [(p, _)] :: L) _ := M7
  refine J [(0, _), (1, _), (4, _)] rfl ?_
  refine U (WC.run (C rfl (op_ld (M7.at 2 rfl) rfl rfl) (WS.opV (.int .i64 (((UInt8.ofNat ((c.ps).length)).toNat : Nat) : Int)) rfl rfl (cv_i64 (n := (UInt8.ofNat ((c.ps).length)).toNat) (by have := UInt8.toNat_lt (UInt8.ofNat ((c.ps).length)); omega)) (WS.opV (.int .i64 (((min ((UInt8.ofNat ((c.ps).length)).toNat) 4) : Nat) : Int)) rfl rfl (mm_min (a := (UInt8.ofNat ((c.ps).length)).toNat) (b := 4)) (C rfl rfl (J [(0, _), (1, _), (17, _), (18, _)] rfl ?_))))))
  refine WC.block ?_
  obtain ⟨L12, eL14, M13⟩ := Mem.name2 ((M7.bare.focus 1 rfl).focus 1 rfl)
  refine WC.loop (σ := Value × Seg × List UInt8 × Nat) (fun ((V_, S_, out, i)) => [(0, (.iface 85 (.pointer (some ⟨w, 0, none⟩)))), (1, (.pointer (some ⟨p, 0, none⟩))), (17, (.int .i64 (((min ((UInt8.ofNat ((c.ps).length)).toNat) 4) : Nat) : Int))), (18, (.int .i64 ((i : Nat) : Int)))]) (fun ((V_, S_, out, i)) hh => Mem base hh (S_ :: [(w, ⟨[V_], 0, false⟩)] :: L12) [] ∧ KU8.Own V_ out S_ ∧ out = (l ++ [UInt8.ofNat c.ps.length]) ++ (c.ps.take i).flatMap partB ∧ i ≤ c.ps.length ∧ out.length ≤ l.length + 1 + 610000 * i) (fun ((V_, S_, out, i)) => c.ps.length - i) ((.slice P11 ((l ++ [UInt8.ofNat ((c.ps).length)])).length (2 * ((l ++ [UInt8.ofNat ((c.ps).length)])).length)), S9, (l ++ [UInt8.ofNat ((c.ps).length)]), 0) rfl ⟨(by exact M13), ?_⟩ ?_
  · exact ⟨by assumption, by simp, by omega, by simp⟩
  ·rintro ⟨V_, S_, out, i⟩ h15 ⟨M16, ⟨hO, hE, hi1, hol⟩⟩
   subst eL14
   refine WC.env [(0, _), (1, _), (17, _), (18, _)] rfl ?_
   obtain ⟨P_, rfl⟩ := hO.shape
   refine U (WC.run (WS.lssN (a := i) (b := (min ((UInt8.ofNat ((c.ps).length)).toNat) 4)) rfl rfl rfl (fun e19 => ?_) (fun e19 => ?_)))
   ·
    refine J [(0, _), (1, _), (17, _), (18, _), (19, _)] rfl ?_
    refine U (WC.condT rfl (WC.skip (U (WC.block (U (WC.run (C rfl rfl (C rfl rfl (J [(0, _), (1, _), (5, _), (17, _), (18, _)] rfl ?_)))))))))
    refine U (U (WC.run (C rfl rfl (C rfl rfl (C rfl rfl (C rfl rfl (C rfl (op_ld (M16.at 3 rfl) rfl rfl) (C rfl (op_lenVS A rfl) ?_))))))))
    refine WS.eqlN (a := i) (b := (c.ps).length) rfl rfl rfl (fun e27 => ?_) (fun e27 => ?_)
    ·
     exact absurd e27 (by omega)
    ·
     refine J [(0, _), (1, _), (5, _), (17, _), (18, _), (27, _)] rfl ?_
     refine WC.condF rfl (WC.skip (U (WC.run (C rfl rfl (C rfl rfl (C rfl rfl (C rfl (op_ld (M16.at 3 rfl) rfl rfl) (C rfl rfl ?_))))))))
     obtain ⟨y43, hy43⟩ : ∃ y, (c.ps)[i]? = some y := ⟨_, List.getElem?_eq_getElem (show i < (c.ps).length by omega)⟩
     refine WS.iaVS A i hy43 rfl rfl rfl rfl ?_
     intro b43_ o43_ ha43
     refine C rfl rfl (J [(0, _), (1, _), (6, _), (17, _), (18, _)] rfl ?_)
     refine U (WC.draw M16 [] rfl ?_)
     intro rb17 h18 M19
     refine C rfl rfl (C rfl rfl (C rfl rfl (C rfl rfl (C rfl rfl (C rfl rfl (C rfl rfl ?_))))))
     have t0 := f7 _ (List.mem_of_getElem? hy43)
     have t1 := sb_len3 t0.1
     have t2 := sb_len3 t0.2
     have t3 := flatMap_take_succ partB hy43
     refine Y rfl rfl rfl (w_byte_ran (c := y43.op) hO ((M19.focus 1 rfl).focus 1 rfl) (At.sees ha43 (k := 0) rfl) (by omega)) ?_
     rintro _ h20 ⟨V22, S23, O24, rfl, M21⟩
     obtain ⟨P25, rfl⟩ := O24.shape
     replace M21 : Mem _ _ (S23 :: [(w, _)] :: [(p1, _)] :: [(p, _)] :: L) _ := M21
     refine J [(0, _), (1, _), (6, _), (17, _), (18, _)] rfl ?_
     refine U (WC.draw M21.bare [] rfl ?_)
     intro rb26 h27 M28
     refine C rfl rfl (C rfl rfl (C rfl rfl (C rfl rfl (C rfl rfl (C rfl rfl (C rfl rfl ?_))))))
     refine Y rfl rfl rfl (w_text_ran (c := y43.ky) O24 ((M28.focus 1 rfl).focus 1 rfl) (At.sees ha43 (k := 1) rfl) (by simp only [F, D, G]; omega)) ?_
     rintro _ h29 ⟨V31, S32, O33, rfl, M30⟩
     obtain ⟨P34, rfl⟩ := O33.shape
     replace M30 : Mem _ _ (S32 :: [(w, _)] :: [(p1, _)] :: [(p, _)] :: L) _ := M30
     refine J [(0, _), (1, _), (6, _), (17, _), (18, _)] rfl ?_
     refine U (WC.run (C rfl rfl (C rfl rfl (C rfl rfl (C rfl (op_ldH rfl (At.ld0 (ha43.mono M30.bare.sub) rfl)) ?_)))))
     refine WS.eqlN (a := (y43.op).toNat) (b := 2) rfl rfl rfl (fun e64 => ?_) (fun e64 => ?_)
     ·
      refine J [(0, _), (1, _), (6, _), (17, _), (18, _), (64, _)] rfl ?_
      refine WC.condT rfl (WC.draw M30.bare [] rfl ?_)
      intro rb35 h36 M37
      refine C rfl rfl (C rfl rfl (C rfl rfl (C rfl rfl (C rfl rfl (C rfl rfl (C rfl rfl ?_))))))
      refine Y rfl rfl rfl (w_text_ran (c := y43.va) O33 ((M37.focus 1 rfl).focus 1 rfl) (At.sees ha43 (k := 2) rfl) (by simp only [F, D, G]; omega)) ?_
      rintro _ h38 ⟨V40, S41, O42, rfl, M39⟩
      obtain ⟨P43, rfl⟩ := O42.shape
      replace M39 : Mem _ _ (S41 :: [(w, _)] :: [(p1, _)] :: [(p, _)] :: L) _ := M39
      refine J [(0, _), (1, _), (17, _), (18, _)] rfl ?_
      refine WC.run (WS.opV (.int .i64 (((i + 1) : Nat) : Int)) rfl rfl (add_i64 (a := i) (b := 1) (by omega)) (C rfl rfl (J [(0, _), (1, _), (17, _), (18, _)] rfl ?_)))
      refine ⟨((.slice P43 ((((out ++ [y43.op]) ++ (sb y43.ky)) ++ (sb y43.va))).length (2 * ((((out ++ [y43.op]) ++ (sb y43.ky)) ++ (sb y43.va))).length)), S41, (((out ++ [y43.op]) ++ (sb y43.ky)) ++ (sb y43.va)), i + 1), rfl, ⟨(M39.bare), ?_⟩, ?_⟩
      · exact ⟨by assumption, by rw [t3, hE]; unfold partB; first | (rw [if_pos (by assumption)]; simp; done) | (rw [if_neg (by assumption)]; simp; done), by omega, by simp only [F, D, G]; omega⟩
      · simp only []; omega
     ·
      refine J [(0, _), (1, _), (6, _), (17, _), (18, _), (64, _)] rfl ?_
      refine WC.condF rfl (WC.skip (WC.run (WS.opV (.int .i64 (((i + 1) : Nat) : Int)) rfl rfl (add_i64 (a := i) (b := 1) (by omega)) (C rfl rfl (J [(0, _), (1, _), (17, _), (18, _)] rfl ?_)))))
      refine ⟨((.slice P34 (((out ++ [y43.op]) ++ (sb y43.ky))).length (2 * (((out ++ [y43.op]) ++ (sb y43.ky))).length)), S32, ((out ++ [y43.op]) ++ (sb y43.ky)), i + 1), rfl, ⟨(M30.bare), ?_⟩, ?_⟩
      · exact ⟨by assumption, by rw [t3, hE]; unfold partB; first | (rw [if_pos (by assumption)]; simp; done) | (rw [if_neg (by assumption)]; simp; done), by omega, by simp only [F, D, G]; omega⟩
      · simp only []; omega
   ·
    refine J [(0, _), (1, _), (17, _), (18, _), (19, _)] rfl ?_
    refine U (WC.condF rfl (WC.exit ?_))
    refine ⟨[], res_nil, ?_⟩
    rw [List.take_of_length_le (by omega)] at hE
    exact ⟨_, _, by rw [show l ++ partsB c = out by rw [hE]; simp [partsB]]; exact hO, rfl, (M16.focus 2 rfl).drop⟩
set_option maxRecDepth 8000 in
theorem walkW_ran {w p : Nat} {l : List UInt8} {c : Cmd} {V Vp : Value} {S : Seg} (A : KPart.Sl base Vp c.ps) (hf : Fit c) (h5 : c.op.toNat = 5 → c.ps.length ≤ 4) (O : KU8.Own V l S) (M : Mem base h (S :: [(w, ⟨[V], 0, false⟩)] :: [(p, ⟨c.cells Vp, 0, false⟩)] :: L) []) (hl : l.length ≤ 10000) : Cll tab0 52 [.iface 85 (.pointer (some ⟨w, 0, none⟩)), .pointer (some ⟨p, 0, none⟩)] h (fun v h2 => ∃ V2 S2, KU8.Own V2 (l ++ encC c) S2 ∧ v = .tuple #[] ∧ Mem base h2 (S2 :: [(w, ⟨[V2], 0, false⟩)] :: [(p, ⟨c.cells Vp, 0, false⟩)] :: L) []) := by
  obtain ⟨P, rfl⟩ := O.shape
  obtain ⟨Pp, n, rfl⟩ := A.shape
  obtain ⟨f1, f2, f3, f4, f5, f6, f7⟩ := id hf
  have v1 := vb_len c.se.toNat_lt
  have v2 := vb_len c.sq.toNat_lt
  have v3 := vb_len c.tt.toNat_lt
  have v4 := vb_len c.le.toNat_lt
  have s1 := sb_len3 f1
  have s2 := sb_len3 f2
  have s3 := sb_len3 f3
  have s4 := sb_len3 f4
  have s5 := sb_len3 f5
  refine Cll.code rfl rfl ?_
  refine WC.env [(0, _), (1, _)] rfl ?_
  refine U (WC.draw M [] rfl ?_)
  intro rb1 h2 M3
  refine C rfl rfl (C rfl rfl (C rfl rfl (C rfl rfl (C rfl rfl (C rfl rfl (C rfl rfl ?_))))))
  refine Y rfl rfl rfl (w_byte_ran (c := c.op) O ((M3.focus 1 rfl).focus 1 rfl) ⟨_, .inr (List.Mem.head _), rfl⟩ (by first | omega | (simp only [F, D, G]; omega))) ?_
  rintro _ h4 ⟨V6, S7, O8, rfl, M5⟩
  obtain ⟨P9, rfl⟩ := O8.shape
  replace M5 : Mem _ _ (S7 :: [(w, _)] :: [(p, _)] :: L) _ := M5
  refine J [(0, _), (1, _)] rfl ?_
  refine U (WC.draw M5.bare [] rfl ?_)
  intro rb10 h11 M12
  refine C rfl rfl (C rfl rfl (C rfl rfl (C rfl rfl (C rfl rfl (C rfl rfl (C rfl rfl ?_))))))
  refine Y rfl rfl rfl (w_number_ran (c := c.se) O8 ((M12.focus 1 rfl).focus 1 rfl) ⟨_, .inr (List.Mem.head _), rfl⟩ (by first | omega | (simp only [F, D, G]; omega))) ?_
  rintro _ h13 ⟨V15, S16, O17, rfl, M14⟩
  obtain ⟨P18, rfl⟩ := O17.shape
  replace M14 : Mem _ _ (S16 :: [(w, _)] :: [(p, _)] :: L) _ := M14
  refine J [(0, _), (1, _)] rfl ?_
  refine U (WC.draw M14.bare [] rfl ?_)
  intro rb19 h20 M21
  refine C rfl rfl (C rfl rfl (C rfl rfl (C rfl rfl (C rfl rfl (C rfl rfl (C rfl rfl ?_))))))
  refine Y rfl rfl rfl (w_number_ran (c := c.sq) O17 ((M21.focus 1 rfl).focus 1 rfl) ⟨_, .inr (List.Mem.head _), rfl⟩ (by first | omega | (simp only [F, D, G]; omega))) ?_
  rintro _ h22 ⟨V24, S25, O26, rfl, M23⟩
  obtain ⟨P27, rfl⟩ := O26.shape
  replace M23 : Mem _ _ (S25 :: [(w, _)] :: [(p, _)] :: L) _ := M23
  refine J [(0, _), (1, _)] rfl ?_
  refine U (WC.run (C rfl rfl (C rfl rfl (C rfl rfl (C rfl (op_ld (M23.bare.at 2 rfl) rfl rfl) (J [(0, _), (1, _), (31, _)] rfl ?_))))))
  refine WC.block (U (U (WC.run (WS.eqlN (a := (c.op).toNat) (b := 1) rfl rfl rfl (fun e33 => ?_) (fun e33 => ?_)))))
  ·
   refine C rfl rfl (J [(0, _), (1, _), (31, _), (32, _)] rfl ?_)
   refine WC.condT rfl (WC.skip (WC.condT rfl (WC.draw M23.bare [] rfl ?_)))
   intro rb28 h29 M30
   refine C rfl rfl (C rfl rfl (C rfl rfl (C rfl rfl (C rfl rfl (C rfl rfl (C rfl rfl ?_))))))
   refine Y rfl rfl rfl (w_number_ran (c := c.tt) O26 ((M30.focus 1 rfl).focus 1 rfl) ⟨_, .inr (List.Mem.head _), rfl⟩ (by first | omega | (simp only [F, D, G]; omega))) ?_
   rintro _ h31 ⟨V33, S34, O35, rfl, M32⟩
   obtain ⟨P36, rfl⟩ := O35.shape
   replace M32 : Mem _ _ (S34 :: [(w, _)] :: [(p, _)] :: L) _ := M32
   refine J [] rfl ?_
   refine ⟨[], res_nil, ?_⟩
   obtain ⟨q1, q2⟩ := enc_1 (c := c) (by omega)
   have q3 : l ++ encC c = ((((l ++ [c.op]) ++ (vb c.se.toNat)) ++ (vb c.sq.toNat)) ++ (vb c.tt.toNat)) := by unfold encC; rw [q2]; simp [headB, partsB]
   rw [q3]
   exact ⟨_, _, O35, rfl, (M32.bare)⟩
  ·
   refine C rfl rfl (J [(0, _), (1, _), (31, _), (32, _)] rfl ?_)
   refine WC.condF rfl (WC.run (WS.eqlN (a := (c.op).toNat) (b := 6) rfl rfl rfl (fun e34 => ?_) (fun e34 => ?_)))
   ·
    refine C rfl rfl (J [(0, _), (1, _), (31, _), (32, _)] rfl ?_)
    refine WC.condT rfl (WC.draw M23.bare [] rfl ?_)
    intro rb37 h38 M39
    refine C rfl rfl (C rfl rfl (C rfl rfl (C rfl rfl (C rfl rfl (C rfl rfl (C rfl rfl ?_))))))
    refine Y rfl rfl rfl (w_number_ran (c := c.tt) O26 ((M39.focus 1 rfl).focus 1 rfl) ⟨_, .inr (List.Mem.head _), rfl⟩ (by first | omega | (simp only [F, D, G]; omega))) ?_
    rintro _ h40 ⟨V42, S43, O44, rfl, M41⟩
    obtain ⟨P45, rfl⟩ := O44.shape
    replace M41 : Mem _ _ (S43 :: [(w, _)] :: [(p, _)] :: L) _ := M41
    refine J [] rfl ?_
    refine ⟨[], res_nil, ?_⟩
    obtain ⟨q1, q2⟩ := enc_1 (c := c) (by omega)
    have q3 : l ++ encC c = ((((l ++ [c.op]) ++ (vb c.se.toNat)) ++ (vb c.sq.toNat)) ++ (vb c.tt.toNat)) := by unfold encC; rw [q2]; simp [headB, partsB]
    rw [q3]
    exact ⟨_, _, O44, rfl, (M41.bare)⟩
   ·
    refine C rfl rfl (J [(0, _), (1, _), (31, _), (32, _)] rfl ?_)
    refine WC.condF rfl (U (WC.run (WS.eqlN (a := (c.op).toNat) (b := 2) rfl rfl rfl (fun e44 => ?_) (fun e44 => ?_))))
    ·
     refine C rfl rfl (J [(0, _), (1, _), (31, _), (43, _)] rfl ?_)
     refine WC.condT rfl (U (WC.draw M23.bare [] rfl ?_))
     intro rb46 h47 M48
     refine C rfl rfl (C rfl rfl (C rfl rfl (C rfl rfl (C rfl rfl (C rfl rfl (C rfl rfl ?_))))))
     refine Y rfl rfl rfl (w_text_ran (c := c.ky) O26 ((M48.focus 1 rfl).focus 1 rfl) ⟨_, .inr (List.Mem.head _), rfl⟩ (by first | omega | (simp only [F, D, G]; omega))) ?_
     rintro _ h49 ⟨V51, S52, O53, rfl, M50⟩
     obtain ⟨P54, rfl⟩ := O53.shape
     replace M50 : Mem _ _ (S52 :: [(w, _)] :: [(p, _)] :: L) _ := M50
     refine J [(0, _), (1, _)] rfl ?_
     refine U (WC.draw M50.bare [] rfl ?_)
     intro rb55 h56 M57
     refine C rfl rfl (C rfl rfl (C rfl rfl (C rfl rfl (C rfl rfl (C rfl rfl (C rfl rfl ?_))))))
     refine Y rfl rfl rfl (w_text_ran (c := c.va) O53 ((M57.focus 1 rfl).focus 1 rfl) ⟨_, .inr (List.Mem.head _), rfl⟩ (by first | omega | (simp only [F, D, G]; omega))) ?_
     rintro _ h58 ⟨V60, S61, O62, rfl, M59⟩
     obtain ⟨P63, rfl⟩ := O62.shape
     replace M59 : Mem _ _ (S61 :: [(w, _)] :: [(p, _)] :: L) _ := M59
     refine J [(0, _), (1, _)] rfl ?_
     refine WC.draw M59.bare [] rfl ?_
     intro rb64 h65 M66
     refine C rfl rfl (C rfl rfl (C rfl rfl (C rfl rfl (C rfl rfl (C rfl rfl (C rfl rfl ?_))))))
     refine Y rfl rfl rfl (w_number_ran (c := c.le) O62 ((M66.focus 1 rfl).focus 1 rfl) ⟨_, .inr (List.Mem.head _), rfl⟩ (by first | omega | (simp only [F, D, G]; omega))) ?_
     rintro _ h67 ⟨V69, S70, O71, rfl, M68⟩
     obtain ⟨P72, rfl⟩ := O71.shape
     replace M68 : Mem _ _ (S70 :: [(w, _)] :: [(p, _)] :: L) _ := M68
     refine J [] rfl ?_
     refine ⟨[], res_nil, ?_⟩
     obtain ⟨q1, q2⟩ := enc_2 (c := c) (by omega)
     have q3 : l ++ encC c = ((((((l ++ [c.op]) ++ (vb c.se.toNat)) ++ (vb c.sq.toNat)) ++ (sb c.ky)) ++ (sb c.va)) ++ (vb c.le.toNat)) := by unfold encC; rw [q2]; simp [headB, partsB]
     rw [q3]
     exact ⟨_, _, O71, rfl, (M68.bare)⟩
    ·
     refine C rfl rfl (J [(0, _), (1, _), (31, _), (43, _)] rfl ?_)
     refine WC.condF rfl (U (U (WC.run (WS.eqlN (a := (c.op).toNat) (b := 3) rfl rfl rfl (fun e70 => ?_) (fun e70 => ?_)))))
     ·
      refine C rfl rfl (J [(0, _), (1, _), (31, _), (69, _)] rfl ?_)
      refine WC.condT rfl (WC.skip (WC.condT rfl (WC.draw M23.bare [] rfl ?_)))
      intro rb73 h74 M75
      refine C rfl rfl (C rfl rfl (C rfl rfl (C rfl rfl (C rfl rfl (C rfl rfl (C rfl rfl ?_))))))
      refine Y rfl rfl rfl (w_text_ran (c := c.ky) O26 ((M75.focus 1 rfl).focus 1 rfl) ⟨_, .inr (List.Mem.head _), rfl⟩ (by first | omega | (simp only [F, D, G]; omega))) ?_
      rintro _ h76 ⟨V78, S79, O80, rfl, M77⟩
      obtain ⟨P81, rfl⟩ := O80.shape
      replace M77 : Mem _ _ (S79 :: [(w, _)] :: [(p, _)] :: L) _ := M77
      refine J [] rfl ?_
      refine ⟨[], res_nil, ?_⟩
      obtain ⟨q1, q2⟩ := enc_3 (c := c) (by omega)
      have q3 : l ++ encC c = ((((l ++ [c.op]) ++ (vb c.se.toNat)) ++ (vb c.sq.toNat)) ++ (sb c.ky)) := by unfold encC; rw [q2]; simp [headB, partsB]
      rw [q3]
      exact ⟨_, _, O80, rfl, (M77.bare)⟩
     ·
      refine C rfl rfl (J [(0, _), (1, _), (31, _), (69, _)] rfl ?_)
      refine WC.condF rfl (WC.run (WS.eqlN (a := (c.op).toNat) (b := 8) rfl rfl rfl (fun e71 => ?_) (fun e71 => ?_)))
      ·
       refine C rfl rfl (J [(0, _), (1, _), (31, _), (69, _)] rfl ?_)
       refine WC.condT rfl (WC.draw M23.bare [] rfl ?_)
       intro rb82 h83 M84
       refine C rfl rfl (C rfl rfl (C rfl rfl (C rfl rfl (C rfl rfl (C rfl rfl (C rfl rfl ?_))))))
       refine Y rfl rfl rfl (w_text_ran (c := c.ky) O26 ((M84.focus 1 rfl).focus 1 rfl) ⟨_, .inr (List.Mem.head _), rfl⟩ (by first | omega | (simp only [F, D, G]; omega))) ?_
       rintro _ h85 ⟨V87, S88, O89, rfl, M86⟩
       obtain ⟨P90, rfl⟩ := O89.shape
       replace M86 : Mem _ _ (S88 :: [(w, _)] :: [(p, _)] :: L) _ := M86
       refine J [] rfl ?_
       refine ⟨[], res_nil, ?_⟩
       obtain ⟨q1, q2⟩ := enc_3 (c := c) (by omega)
       have q3 : l ++ encC c = ((((l ++ [c.op]) ++ (vb c.se.toNat)) ++ (vb c.sq.toNat)) ++ (sb c.ky)) := by unfold encC; rw [q2]; simp [headB, partsB]
       rw [q3]
       exact ⟨_, _, O89, rfl, (M86.bare)⟩
      ·
       refine C rfl rfl (J [(0, _), (1, _), (31, _), (69, _)] rfl ?_)
       refine WC.condF rfl (U (WC.run (WS.eqlN (a := (c.op).toNat) (b := 4) rfl rfl rfl (fun e81 => ?_) (fun e81 => ?_))))
       ·
        refine C rfl rfl (J [(0, _), (1, _), (31, _), (80, _)] rfl ?_)
        refine WC.condT rfl (U (WC.draw M23.bare [] rfl ?_))
        intro rb91 h92 M93
        refine C rfl rfl (C rfl rfl (C rfl rfl (C rfl rfl (C rfl rfl (C rfl rfl (C rfl rfl ?_))))))
        refine Y rfl rfl rfl (w_text_ran (c := c.ky) O26 ((M93.focus 1 rfl).focus 1 rfl) ⟨_, .inr (List.Mem.head _), rfl⟩ (by first | omega | (simp only [F, D, G]; omega))) ?_
        rintro _ h94 ⟨V96, S97, O98, rfl, M95⟩
        obtain ⟨P99, rfl⟩ := O98.shape
        replace M95 : Mem _ _ (S97 :: [(w, _)] :: [(p, _)] :: L) _ := M95
        refine J [(0, _), (1, _)] rfl ?_
        refine U (WC.draw M95.bare [] rfl ?_)
        intro rb100 h101 M102
        refine C rfl rfl (C rfl rfl (C rfl rfl (C rfl rfl (C rfl rfl (C rfl rfl (C rfl rfl ?_))))))
        refine Y rfl rfl rfl (w_text_ran (c := c.ex) O98 ((M102.focus 1 rfl).focus 1 rfl) ⟨_, .inr (List.Mem.head _), rfl⟩ (by first | omega | (simp only [F, D, G]; omega))) ?_
        rintro _ h103 ⟨V105, S106, O107, rfl, M104⟩
        obtain ⟨P108, rfl⟩ := O107.shape
        replace M104 : Mem _ _ (S106 :: [(w, _)] :: [(p, _)] :: L) _ := M104
        refine J [(0, _), (1, _)] rfl ?_
        refine WC.draw M104.bare [] rfl ?_
        intro rb109 h110 M111
        refine C rfl rfl (C rfl rfl (C rfl rfl (C rfl rfl (C rfl rfl (C rfl rfl (C rfl rfl ?_))))))
        refine Y rfl rfl rfl (w_text_ran (c := c.va) O107 ((M111.focus 1 rfl).focus 1 rfl) ⟨_, .inr (List.Mem.head _), rfl⟩ (by first | omega | (simp only [F, D, G]; omega))) ?_
        rintro _ h112 ⟨V114, S115, O116, rfl, M113⟩
        obtain ⟨P117, rfl⟩ := O116.shape
        replace M113 : Mem _ _ (S115 :: [(w, _)] :: [(p, _)] :: L) _ := M113
        refine J [] rfl ?_
        refine ⟨[], res_nil, ?_⟩
        obtain ⟨q1, q2⟩ := enc_4 (c := c) (by omega)
        have q3 : l ++ encC c = ((((((l ++ [c.op]) ++ (vb c.se.toNat)) ++ (vb c.sq.toNat)) ++ (sb c.ky)) ++ (sb c.ex)) ++ (sb c.va)) := by unfold encC; rw [q2]; simp [headB, partsB]
        rw [q3]
        exact ⟨_, _, O116, rfl, (M113.bare)⟩
       ·
        refine C rfl rfl (J [(0, _), (1, _), (31, _), (80, _)] rfl ?_)
        refine WC.condF rfl (U (WC.run (WS.eqlN (a := (c.op).toNat) (b := 5) rfl rfl rfl (fun e107 => ?_) (fun e107 => ?_))))
        ·
         refine C rfl rfl (J [(0, _), (1, _), (31, _), (106, _)] rfl ?_)
         refine WC.condT rfl (WC.run (C rfl rfl (C rfl rfl ?_)))
         refine Y rfl rfl rfl (partsW_ran (c := c) A hf h5 (by omega) O26 (((M23.bare.focus 2 rfl).focus 2 rfl).focus 2 rfl) (by first | omega | (simp only [F, D, G]; omega))) ?_
         rintro _ h118 ⟨V120, S121, O122, rfl, M119⟩
         obtain ⟨P123, rfl⟩ := O122.shape
         replace M119 : Mem _ _ (S121 :: [(w, _)] :: [(p, _)] :: L) _ := M119
         refine J [] rfl ?_
         refine ⟨[], res_nil, ?_⟩
         obtain ⟨q1, q2⟩ := enc_5 (c := c) (by omega)
         have q3 : l ++ encC c = ((((l ++ [c.op]) ++ (vb c.se.toNat)) ++ (vb c.sq.toNat)) ++ (partsB c)) := by unfold encC; rw [q2]; simp [headB, partsB]
         rw [q3]
         exact ⟨_, _, O122, rfl, M119⟩
        ·
         refine C rfl rfl (J [(0, _), (1, _), (31, _), (106, _)] rfl ?_)
         refine WC.condF rfl (U (WC.run (WS.eqlN (a := (c.op).toNat) (b := 7) rfl rfl rfl (fun e112 => ?_) (fun e112 => ?_))))
         ·
          refine C rfl rfl (J [(0, _), (1, _), (31, _), (111, _)] rfl ?_)
          refine WC.condT rfl (WC.draw M23.bare [] rfl ?_)
          intro rb124 h125 M126
          refine C rfl rfl (C rfl rfl (C rfl rfl (C rfl rfl (C rfl rfl (C rfl rfl (C rfl rfl ?_))))))
          refine Y rfl rfl rfl (w_number_ran (c := c.le) O26 ((M126.focus 1 rfl).focus 1 rfl) ⟨_, .inr (List.Mem.head _), rfl⟩ (by first | omega | (simp only [F, D, G]; omega))) ?_
          rintro _ h127 ⟨V129, S130, O131, rfl, M128⟩
          obtain ⟨P132, rfl⟩ := O131.shape
          replace M128 : Mem _ _ (S130 :: [(w, _)] :: [(p, _)] :: L) _ := M128
          refine J [] rfl ?_
          refine ⟨[], res_nil, ?_⟩
          obtain ⟨q1, q2⟩ := enc_7 (c := c) (by omega)
          have q3 : l ++ encC c = ((((l ++ [c.op]) ++ (vb c.se.toNat)) ++ (vb c.sq.toNat)) ++ (vb c.le.toNat)) := by unfold encC; rw [q2]; simp [headB, partsB]
          rw [q3]
          exact ⟨_, _, O131, rfl, (M128.bare)⟩
         ·
          refine C rfl rfl (J [(0, _), (1, _), (31, _), (111, _)] rfl ?_)
          refine WC.condF rfl (U (WC.run (WS.eqlN (a := (c.op).toNat) (b := 9) rfl rfl rfl (fun e122 => ?_) (fun e122 => ?_))))
          ·
           refine C rfl rfl (J [(0, _), (1, _), (121, _)] rfl ?_)
           refine WC.condT rfl (U (WC.draw M23.bare [] rfl ?_))
           intro rb133 h134 M135
           refine C rfl rfl (C rfl rfl (C rfl rfl (C rfl rfl (C rfl rfl (C rfl rfl (C rfl rfl ?_))))))
           refine Y rfl rfl rfl (w_text_ran (c := c.fr) O26 ((M135.focus 1 rfl).focus 1 rfl) ⟨_, .inr (List.Mem.head _), rfl⟩ (by first | omega | (simp only [F, D, G]; omega))) ?_
           rintro _ h136 ⟨V138, S139, O140, rfl, M137⟩
           obtain ⟨P141, rfl⟩ := O140.shape
           replace M137 : Mem _ _ (S139 :: [(w, _)] :: [(p, _)] :: L) _ := M137
           refine J [(0, _), (1, _)] rfl ?_
           refine U (WC.draw M137.bare [] rfl ?_)
           intro rb142 h143 M144
           refine C rfl rfl (C rfl rfl (C rfl rfl (C rfl rfl (C rfl rfl (C rfl rfl (C rfl rfl ?_))))))
           refine Y rfl rfl rfl (w_text_ran (c := c.to) O140 ((M144.focus 1 rfl).focus 1 rfl) ⟨_, .inr (List.Mem.head _), rfl⟩ (by first | omega | (simp only [F, D, G]; omega))) ?_
           rintro _ h145 ⟨V147, S148, O149, rfl, M146⟩
           obtain ⟨P150, rfl⟩ := O149.shape
           replace M146 : Mem _ _ (S148 :: [(w, _)] :: [(p, _)] :: L) _ := M146
           refine J [(0, _), (1, _)] rfl ?_
           refine WC.draw M146.bare [] rfl ?_
           intro rb151 h152 M153
           refine C rfl rfl (C rfl rfl (C rfl rfl (C rfl rfl (C rfl rfl (C rfl rfl (C rfl rfl ?_))))))
           refine Y rfl rfl rfl (w_byte_ran (c := c.li) O149 ((M153.focus 1 rfl).focus 1 rfl) ⟨_, .inr (List.Mem.head _), rfl⟩ (by first | omega | (simp only [F, D, G]; omega))) ?_
           rintro _ h154 ⟨V156, S157, O158, rfl, M155⟩
           obtain ⟨P159, rfl⟩ := O158.shape
           replace M155 : Mem _ _ (S157 :: [(w, _)] :: [(p, _)] :: L) _ := M155
           refine J [] rfl ?_
           refine ⟨[], res_nil, ?_⟩
           obtain ⟨q1, q2⟩ := enc_9 (c := c) (by omega)
           have q3 : l ++ encC c = ((((((l ++ [c.op]) ++ (vb c.se.toNat)) ++ (vb c.sq.toNat)) ++ (sb c.fr)) ++ (sb c.to)) ++ [c.li]) := by unfold encC; rw [q2]; simp [headB, partsB]
           rw [q3]
           exact ⟨_, _, O158, rfl, (M155.bare)⟩
          ·
           refine C rfl rfl (J [(0, _), (1, _), (121, _)] rfl ?_)
           refine WC.condF rfl (WC.skip (⟨[], res_nil, ?_⟩))
           obtain ⟨q1, q2⟩ := enc_0 (c := c) (by omega)
           have q3 : l ++ encC c = (((l ++ [c.op]) ++ (vb c.se.toNat)) ++ (vb c.sq.toNat)) := by unfold encC; rw [q2]; simp [headB, partsB]
           rw [q3]
           exact ⟨_, _, O26, rfl, (M23.bare)⟩
theorem Write_ran (W : Mem h h [] []) {c : Cmd} {V : Value} (A : KPart.Sl h V c.ps) (hf : Fit c) : Cll tab0 26 [c.val V] h (fun v h2 => v = .string (bs (if mayB c then encC c else [])) ∧ Mem h h2 [] []) := by
  obtain ⟨P, n, rfl⟩ := A.shape
  refine Cll.code rfl rfl ?_
  refine WC.env [(0, _)] rfl ?_
  refine U (WC.run (WS.box W [_, _, _, _, _, _, _, _, _, _, _, _] rfl rfl rfl rfl ?_))
  intro p1 h2 M3
  refine C rfl rfl (J [(1, _)] rfl ?_)
  refine U (U (WC.run (C rfl (op_lds [_, _, _, _, _, _, _, _, _, _, _, _] (M3.at 0 rfl) rfl (X rfl) rfl) ?_)))
  refine Y rfl rfl rfl (may_ran M3.here (c := c) (A.mono M3.sub) (by assumption)) ?_
  rintro _ h4 ⟨rfl, N5⟩
  have M6 := M3.trans N5
  cases hb1 : (mayB c)
  ·
   refine WS.opV (.bool true) rfl rfl rfl (J [(1, _), (6, _)] rfl ?_)
   refine WC.condT rfl (U (WC.run (C rfl rfl (J [(2, _)] rfl ?_))))
   refine WC.ret (⟨[_], (res_tmp rfl res_nil), ?_⟩)
   exact ⟨rfl, M6.bare.take 0⟩
  ·
   refine WS.opV (.bool false) rfl rfl rfl (J [(1, _), (6, _)] rfl ?_)
   refine WC.condF rfl (WC.skip (U (WC.run (WS.opV (.agg #[(.slice none 0 0)]) rfl rfl rfl ?_))))
   refine WS.box M6 [_] rfl rfl rfl rfl ?_
   intro p7 h8 M9
   refine C rfl rfl (J [(1, _), (3, _)] rfl ?_)
   refine U (WC.run ?_)
   have hm := of_decide_eq_true (p := MayC c) hb1
   have h5 : c.op.toNat = 5 → c.ps.length ≤ 4 := fun q => (hm.2.2.1 q).2
   refine C rfl rfl (C rfl rfl ?_)
   refine Y rfl rfl rfl (walkW_ran (c := c) A hf h5 (Row.Own.nil (K := KU8)) ((M9.focus 1 rfl).focus 1 rfl).nils (by simp)) ?_
   rintro _ h10 ⟨V12, S13, O14, rfl, M11⟩
   rw [List.nil_append] at O14
   obtain ⟨P15, rfl⟩ := O14.shape
   replace M11 : Mem _ _ (S13 :: [(p7, _)] :: [(p1, _)] :: []) _ := M11
   refine J [(3, _)] rfl ?_
   refine U (WC.run (C rfl rfl (C rfl rfl (C rfl rfl (C rfl (op_ld (M11.at 1 rfl) rfl rfl) (C rfl (op_cvBO O14 (Mem.owni M11 0 rfl) rfl) (C rfl rfl (J [(2, _)] rfl ?_))))))))
   refine WC.ret (⟨[_], (res_tmp rfl res_nil), ?_⟩)
   exact ⟨rfl, M11.bare.take 0⟩
end Go.Proofs.Yteikngjiaboeaaa.Wt
namespace Go.Proofs.Yteikngjiaboeaaa.Wt
open Go Go.Proofs.Yteikngjiaboeaaa.Am Go.Proofs.Yteikngjiaboeaaa.IrAll
open Go.Proofs.Yteikngjiaboeaaa.Am.WS renaming op → C
open Go.Proofs.Yteikngjiaboeaaa.Am.WS renaming off → D
open Nat renaming le_of_ble_eq_true → F
open Go.Proofs.Yteikngjiaboeaaa.Am.WS renaming nil → G
open Go.Proofs.Yteikngjiaboeaaa.Am.WC renaming seq → J
open Go.Proofs.Yteikngjiaboeaaa.Am.WC renaming run → U
set_option linter.unusedVariables false
set_option linter.unusedSimpArgs false
structure Oper where
  op : UInt8
  sl : UInt8
  t0 : UInt8
  t1 : UInt8
  t2 : UInt8
  t3 : UInt8
  t4 : UInt8
  t5 : UInt8
  t6 : UInt8
  t7 : UInt8
  ro : UInt8
  ks : Int64
  bt : Int64
  ra : Int64
  bu : Int64
  nd : UInt8
  deriving DecidableEq
def Oper.cells (x : Oper) : List Value := [(.int .u8 (((x.op).toNat : Nat) : Int)), (.int .u8 (((x.sl).toNat : Nat) : Int)), (.int .u8 (((x.t0).toNat : Nat) : Int)), (.int .u8 (((x.t1).toNat : Nat) : Int)), (.int .u8 (((x.t2).toNat : Nat) : Int)), (.int .u8 (((x.t3).toNat : Nat) : Int)), (.int .u8 (((x.t4).toNat : Nat) : Int)), (.int .u8 (((x.t5).toNat : Nat) : Int)), (.int .u8 (((x.t6).toNat : Nat) : Int)), (.int .u8 (((x.t7).toNat : Nat) : Int)), (.int .u8 (((x.ro).toNat : Nat) : Int)), (.int .i64 (x.ks).toInt), (.int .i64 (x.bt).toInt), (.int .i64 (x.ra).toInt), (.int .i64 (x.bu).toInt), (.int .u8 (((x.nd).toNat : Nat) : Int))]
theorem Oper_eqV (x y : Oper) : eqV (.agg [(0, 1), (1, 1), (2, 1), (3, 1), (4, 1), (5, 1), (6, 1), (7, 1), (8, 1), (9, 1), (10, 1), (11, 1), (12, 1), (13, 1), (14, 1), (15, 1)]) (.agg (Oper.cells x).toArray) (.agg (Oper.cells y).toArray) = some (decide (x = y)) := by
  have e : eqV (.agg [(0, 1), (1, 1), (2, 1), (3, 1), (4, 1), (5, 1), (6, 1), (7, 1), (8, 1), (9, 1), (10, 1), (11, 1), (12, 1), (13, 1), (14, 1), (15, 1)]) (.agg (Oper.cells x).toArray) (.agg (Oper.cells y).toArray) = some (((((x.op.toNat : Nat) : Int) == ((y.op.toNat : Nat) : Int)) && ((((x.sl.toNat : Nat) : Int) == ((y.sl.toNat : Nat) : Int)) && ((((x.t0.toNat : Nat) : Int) == ((y.t0.toNat : Nat) : Int)) && ((((x.t1.toNat : Nat) : Int) == ((y.t1.toNat : Nat) : Int)) && ((((x.t2.toNat : Nat) : Int) == ((y.t2.toNat : Nat) : Int)) && ((((x.t3.toNat : Nat) : Int) == ((y.t3.toNat : Nat) : Int)) && ((((x.t4.toNat : Nat) : Int) == ((y.t4.toNat : Nat) : Int)) && ((((x.t5.toNat : Nat) : Int) == ((y.t5.toNat : Nat) : Int)) && ((((x.t6.toNat : Nat) : Int) == ((y.t6.toNat : Nat) : Int)) && ((((x.t7.toNat : Nat) : Int) == ((y.t7.toNat : Nat) : Int)) && ((((x.ro.toNat : Nat) : Int) == ((y.ro.toNat : Nat) : Int)) && ((x.ks.toInt == y.ks.toInt) && ((x.bt.toInt == y.bt.toInt) && ((x.ra.toInt == y.ra.toInt) && ((x.bu.toInt == y.bu.toInt) && ((((x.nd.toNat : Nat) : Int) == ((y.nd.toNat : Nat) : Int)) && true))))))))))))))))) := rfl
  rw [e]; congr 1
  rw [Bool.eq_iff_iff]
  simp only [Bool.and_eq_true, beq_iff_eq, bs_toList, decide_eq_true_eq, Bool.and_true, and_true]
  constructor
  · intro h
    obtain ⟨h0, h1, h2, h3, h4, h5, h6, h7, h8, h9, h10, h11, h12, h13, h14, h15⟩ := h
    obtain ⟨⟩ := x; obtain ⟨⟩ := y
    simp only at *
    rw [u8_inj (Int.ofNat.inj h0), u8_inj (Int.ofNat.inj h1), u8_inj (Int.ofNat.inj h2), u8_inj (Int.ofNat.inj h3), u8_inj (Int.ofNat.inj h4), u8_inj (Int.ofNat.inj h5), u8_inj (Int.ofNat.inj h6), u8_inj (Int.ofNat.inj h7), u8_inj (Int.ofNat.inj h8), u8_inj (Int.ofNat.inj h9), u8_inj (Int.ofNat.inj h10), Int64.toInt_inj.1 h11, Int64.toInt_inj.1 h12, Int64.toInt_inj.1 h13, Int64.toInt_inj.1 h14, u8_inj (Int.ofNat.inj h15)]
  · intro h; subst h; exact ⟨rfl, rfl, rfl, rfl, rfl, rfl, rfl, rfl, rfl, rfl, rfl, rfl, rfl, rfl, rfl, rfl⟩
def Sm (n : Int) : Prop := 0 ≤ n ∧ n ≤ 2147483647
instance (n : Int) : Decidable (Sm n) := by unfold Sm; infer_instance
def B4 (o : Oper) : Prop := Sm o.ks.toInt ∧ Sm o.bt.toInt ∧ Sm o.ra.toInt ∧ Sm o.bu.toInt
instance (o : Oper) : Decidable (B4 o) := by unfold B4; infer_instance
def plainO (o : Oper) : Oper := if o.op.toNat = 1 then ⟨1, o.sl, 0, 0, 0, 0, 0, 0, 0, 0, 0, o.ks, o.bt, o.ra, o.bu, 0⟩ else if o.op.toNat = 2 then ⟨2, o.sl, o.t0, o.t1, o.t2, o.t3, o.t4, o.t5, o.t6, o.t7, o.ro, 0, 0, 0, 0, 0⟩ else if o.op.toNat = 3 then ⟨3, 0, o.t0, o.t1, o.t2, o.t3, o.t4, o.t5, o.t6, o.t7, 0, 0, 0, 0, 0, 0⟩ else if o.op.toNat = 4 then ⟨4, o.sl, 0, 0, 0, 0, 0, 0, 0, 0, 0, 0, 0, 0, 0, 0⟩ else ⟨o.op, 0, 0, 0, 0, 0, 0, 0, 0, 0, 0, 0, 0, 0, 0, o.nd⟩
variable {h base : H} {L : List Seg} {R : List Nat}
def MayO (o : Oper) : Prop := (1 ≤ o.op.toNat ∧ o.op.toNat ≤ 7) ∧ o = plainO o ∧ o.sl.toNat ≤ 3 ∧ (o.op.toNat = 2 → 1 ≤ o.ro.toNat ∧ o.ro.toNat ≤ 3) ∧ (4 < o.op.toNat → 1 ≤ o.nd.toNat ∧ o.nd.toNat ≤ 5) ∧ B4 o
instance (o : Oper) : Decidable (MayO o) := by unfold MayO; infer_instance
def mayOB (o : Oper) : Bool := decide (MayO o)
theorem mayOB_t {o : Oper} (q : MayO o) : packE [.bool true] = .bool (mayOB o) := by unfold mayOB; rw [decide_eq_true q]; rfl
theorem mayOB_f {o : Oper} (q : ¬ MayO o) : packE [.bool false] = .bool (mayOB o) := by unfold mayOB; rw [decide_eq_false q]; rfl
theorem plainO_ran (W : Mem h h [] []) {o : Oper} : Cll tab0 60 [.agg (Oper.cells o).toArray] h (fun v h2 => v = .agg (Oper.cells (plainO o)).toArray ∧ Mem h h2 [] []) := by
  refine Cll.code rfl rfl ?_
  refine WC.env [(0, _)] rfl ?_
  refine J (U (WS.box W [_, _, _, _, _, _, _, _, _, _, _, _, _, _, _, _] rfl rfl rfl rfl ?_))
  intro p1 h2 M3
  refine WS.new M3 rfl ?_
  intro p4 h5 M6
  refine G [(1, _), (2, _)] rfl ?_
  refine J (J (U (C rfl rfl (C rfl (op_ld (M6.at 1 rfl) rfl rfl) (G [(1, _), (2, _), (4, _)] rfl ?_)))))
  refine WC.block (J (U (WS.eqlN (a := (o.op).toNat) (b := 1) rfl rfl rfl (fun e6 => ?_) (fun e6 => ?_))))
  ·
   refine C rfl rfl (G [(1, _), (2, _), (4, _), (5, _)] rfl ?_)
   refine WC.condT rfl (J (U (C rfl rfl (C rfl (op_ld (M6.at 1 rfl) rfl rfl) (C rfl rfl (C rfl (op_ld (M6.at 1 rfl) rfl rfl) (C rfl rfl (C rfl (op_ld (M6.at 1 rfl) rfl rfl) (C rfl rfl (C rfl (op_ld (M6.at 1 rfl) rfl rfl) (C rfl rfl (C rfl (op_ld (M6.at 1 rfl) rfl rfl) ?_))))))))))))
   refine WS.opV (.agg #[(.int .u8 (1 : Int)), (.int .u8 (((o.sl).toNat : Nat) : Int)), (.int .u8 (0 : Int)), (.int .u8 (0 : Int)), (.int .u8 (0 : Int)), (.int .u8 (0 : Int)), (.int .u8 (0 : Int)), (.int .u8 (0 : Int)), (.int .u8 (0 : Int)), (.int .u8 (0 : Int)), (.int .u8 (0 : Int)), (.int .i64 (o.ks).toInt), (.int .i64 (o.bt).toInt), (.int .i64 (o.ra).toInt), (.int .i64 (o.bu).toInt), (.int .u8 (0 : Int))]) rfl rfl rfl ?_
   refine WS.st1 (M6.focus 0 rfl) [_, _, _, _, _, _, _, _, _, _, _, _, _, _, _, _] [_, _, _, _, _, _, _, _, _, _, _, _, _, _, _, _] rfl rfl rfl rfl rfl (F rfl) (F rfl) rfl rfl ?_
   intro h7 M8
   replace M8 : Mem _ _ ([(p4, _)] :: [(p1, _)] :: []) _ := M8
   refine G [(2, _)] rfl ?_
   refine WC.ret (⟨[_], (res_cellN [_, _, _, _, _, _, _, _, _, _, _, _, _, _, _, _] rfl (M8.at 0 rfl) (F rfl) rfl res_nil), ?_⟩)
   exact ⟨by unfold plainO; rw [if_pos (show o.op.toNat = 1 by omega)]; rfl, M8.bare.take 0⟩
  ·
   refine C rfl rfl (G [(1, _), (2, _), (4, _), (5, _)] rfl ?_)
   refine WC.condF rfl (J (U (WS.eqlN (a := (o.op).toNat) (b := 2) rfl rfl rfl (fun e19 => ?_) (fun e19 => ?_))))
   ·
    refine C rfl rfl (G [(1, _), (2, _), (4, _), (18, _)] rfl ?_)
    refine WC.condT rfl (J (U (C rfl rfl (C rfl (op_ld (M6.at 1 rfl) rfl rfl) (C rfl rfl (C rfl (op_lds [_, _, _, _, _, _, _, _] (M6.at 1 rfl) rfl (F rfl) rfl) (C rfl rfl (C rfl (op_ld (M6.at 1 rfl) rfl rfl) (WS.opV (.agg #[(.int .u8 (2 : Int)), (.int .u8 (((o.sl).toNat : Nat) : Int)), (.int .u8 (((o.t0).toNat : Nat) : Int)), (.int .u8 (((o.t1).toNat : Nat) : Int)), (.int .u8 (((o.t2).toNat : Nat) : Int)), (.int .u8 (((o.t3).toNat : Nat) : Int)), (.int .u8 (((o.t4).toNat : Nat) : Int)), (.int .u8 (((o.t5).toNat : Nat) : Int)), (.int .u8 (((o.t6).toNat : Nat) : Int)), (.int .u8 (((o.t7).toNat : Nat) : Int)), (.int .u8 (((o.ro).toNat : Nat) : Int)), (.int .i64 (0 : Int)), (.int .i64 (0 : Int)), (.int .i64 (0 : Int)), (.int .i64 (0 : Int)), (.int .u8 (0 : Int))]) rfl rfl rfl ?_)))))))))
    refine WS.st1 (M6.focus 0 rfl) [_, _, _, _, _, _, _, _, _, _, _, _, _, _, _, _] [_, _, _, _, _, _, _, _, _, _, _, _, _, _, _, _] rfl rfl rfl rfl rfl (F rfl) (F rfl) rfl rfl ?_
    intro h9 M10
    replace M10 : Mem _ _ ([(p4, _)] :: [(p1, _)] :: []) _ := M10
    refine G [(2, _)] rfl ?_
    refine WC.ret (⟨[_], (res_cellN [_, _, _, _, _, _, _, _, _, _, _, _, _, _, _, _] rfl (M10.at 0 rfl) (F rfl) rfl res_nil), ?_⟩)
    exact ⟨by unfold plainO; rw [if_neg (show ¬ o.op.toNat = 1 by omega), if_pos (show o.op.toNat = 2 by omega)]; rfl, M10.bare.take 0⟩
   ·
    refine C rfl rfl (G [(1, _), (2, _), (4, _), (18, _)] rfl ?_)
    refine WC.condF rfl (J (U (WS.eqlN (a := (o.op).toNat) (b := 3) rfl rfl rfl (fun e28 => ?_) (fun e28 => ?_))))
    ·
     refine C rfl rfl (G [(1, _), (2, _), (4, _), (27, _)] rfl ?_)
     refine WC.condT rfl (J (U (C rfl rfl (C rfl (op_lds [_, _, _, _, _, _, _, _] (M6.at 1 rfl) rfl (F rfl) rfl) (WS.opV (.agg #[(.int .u8 (3 : Int)), (.int .u8 (0 : Int)), (.int .u8 (((o.t0).toNat : Nat) : Int)), (.int .u8 (((o.t1).toNat : Nat) : Int)), (.int .u8 (((o.t2).toNat : Nat) : Int)), (.int .u8 (((o.t3).toNat : Nat) : Int)), (.int .u8 (((o.t4).toNat : Nat) : Int)), (.int .u8 (((o.t5).toNat : Nat) : Int)), (.int .u8 (((o.t6).toNat : Nat) : Int)), (.int .u8 (((o.t7).toNat : Nat) : Int)), (.int .u8 (0 : Int)), (.int .i64 (0 : Int)), (.int .i64 (0 : Int)), (.int .i64 (0 : Int)), (.int .i64 (0 : Int)), (.int .u8 (0 : Int))]) rfl rfl rfl ?_)))))
     refine WS.st1 (M6.focus 0 rfl) [_, _, _, _, _, _, _, _, _, _, _, _, _, _, _, _] [_, _, _, _, _, _, _, _, _, _, _, _, _, _, _, _] rfl rfl rfl rfl rfl (F rfl) (F rfl) rfl rfl ?_
     intro h11 M12
     replace M12 : Mem _ _ ([(p4, _)] :: [(p1, _)] :: []) _ := M12
     refine G [(2, _)] rfl ?_
     refine WC.ret (⟨[_], (res_cellN [_, _, _, _, _, _, _, _, _, _, _, _, _, _, _, _] rfl (M12.at 0 rfl) (F rfl) rfl res_nil), ?_⟩)
     exact ⟨by unfold plainO; rw [if_neg (show ¬ o.op.toNat = 1 by omega), if_neg (show ¬ o.op.toNat = 2 by omega), if_pos (show o.op.toNat = 3 by omega)]; rfl, M12.bare.take 0⟩
    ·
     refine C rfl rfl (G [(1, _), (2, _), (4, _), (27, _)] rfl ?_)
     refine WC.condF rfl (J (U (WS.eqlN (a := (o.op).toNat) (b := 4) rfl rfl rfl (fun e33 => ?_) (fun e33 => ?_))))
     ·
      refine C rfl rfl (G [(1, _), (2, _), (32, _)] rfl ?_)
      refine WC.condT rfl (J (U (C rfl rfl (C rfl (op_ld (M6.at 1 rfl) rfl rfl) (WS.opV (.agg #[(.int .u8 (4 : Int)), (.int .u8 (((o.sl).toNat : Nat) : Int)), (.int .u8 (0 : Int)), (.int .u8 (0 : Int)), (.int .u8 (0 : Int)), (.int .u8 (0 : Int)), (.int .u8 (0 : Int)), (.int .u8 (0 : Int)), (.int .u8 (0 : Int)), (.int .u8 (0 : Int)), (.int .u8 (0 : Int)), (.int .i64 (0 : Int)), (.int .i64 (0 : Int)), (.int .i64 (0 : Int)), (.int .i64 (0 : Int)), (.int .u8 (0 : Int))]) rfl rfl rfl ?_)))))
      refine WS.st1 (M6.focus 0 rfl) [_, _, _, _, _, _, _, _, _, _, _, _, _, _, _, _] [_, _, _, _, _, _, _, _, _, _, _, _, _, _, _, _] rfl rfl rfl rfl rfl (F rfl) (F rfl) rfl rfl ?_
      intro h13 M14
      replace M14 : Mem _ _ ([(p4, _)] :: [(p1, _)] :: []) _ := M14
      refine G [(2, _)] rfl ?_
      refine WC.ret (⟨[_], (res_cellN [_, _, _, _, _, _, _, _, _, _, _, _, _, _, _, _] rfl (M14.at 0 rfl) (F rfl) rfl res_nil), ?_⟩)
      exact ⟨by unfold plainO; rw [if_neg (show ¬ o.op.toNat = 1 by omega), if_neg (show ¬ o.op.toNat = 2 by omega), if_neg (show ¬ o.op.toNat = 3 by omega), if_pos (show o.op.toNat = 4 by omega)]; rfl, M14.bare.take 0⟩
     ·
      refine C rfl rfl (G [(1, _), (2, _), (32, _)] rfl ?_)
      refine WC.condF rfl (WC.skip (J (U (C rfl rfl (C rfl (op_ld (M6.at 1 rfl) rfl rfl) (C rfl rfl (C rfl (op_ld (M6.at 1 rfl) rfl rfl) (WS.opV (.agg #[(.int .u8 (((o.op).toNat : Nat) : Int)), (.int .u8 (0 : Int)), (.int .u8 (0 : Int)), (.int .u8 (0 : Int)), (.int .u8 (0 : Int)), (.int .u8 (0 : Int)), (.int .u8 (0 : Int)), (.int .u8 (0 : Int)), (.int .u8 (0 : Int)), (.int .u8 (0 : Int)), (.int .u8 (0 : Int)), (.int .i64 (0 : Int)), (.int .i64 (0 : Int)), (.int .i64 (0 : Int)), (.int .i64 (0 : Int)), (.int .u8 (((o.nd).toNat : Nat) : Int))]) rfl rfl rfl ?_))))))))
      refine WS.st1 (M6.focus 0 rfl) [_, _, _, _, _, _, _, _, _, _, _, _, _, _, _, _] [_, _, _, _, _, _, _, _, _, _, _, _, _, _, _, _] rfl rfl rfl rfl rfl (F rfl) (F rfl) rfl rfl ?_
      intro h15 M16
      replace M16 : Mem _ _ ([(p4, _)] :: [(p1, _)] :: []) _ := M16
      refine G [(2, _)] rfl ?_
      refine WC.ret (⟨[_], (res_cellN [_, _, _, _, _, _, _, _, _, _, _, _, _, _, _, _] rfl (M16.at 0 rfl) (F rfl) rfl res_nil), ?_⟩)
      exact ⟨by unfold plainO; rw [if_neg (show ¬ o.op.toNat = 1 by omega), if_neg (show ¬ o.op.toNat = 2 by omega), if_neg (show ¬ o.op.toNat = 3 by omega), if_neg (show ¬ o.op.toNat = 4 by omega)]; rfl, M16.bare.take 0⟩
theorem bounded_ran (W : Mem h h [] []) {n : Int} : Cll tab0 61 [.int .i64 n] h (fun v h2 => v = .bool (decide (Sm n)) ∧ Mem h h2 [] []) := by
  refine Cll.code rfl rfl ?_
  refine WC.env [(0, _)] rfl ?_
  refine J (U (C rfl rfl (G [(0, _)] rfl ?_)))
  refine J (U (C rfl rfl ?_))
  refine WS.geq (a := n) (b := (0 : Int)) rfl rfl rfl (fun e4 => ?_) (fun e4 => ?_)
  ·
   refine C rfl rfl (C rfl rfl ?_)
   refine WS.leq (a := n) (b := (2147483647 : Int)) rfl rfl rfl (fun e7 => ?_) (fun e7 => ?_)
   ·
    refine C rfl rfl (C rfl rfl (G [(2, _)] rfl ?_))
    refine WC.ret (⟨[_], (res_tmp rfl res_nil), ?_⟩)
    exact ⟨vbt (by unfold Sm; omega), W.bare.take 0⟩
   ·
    refine C rfl rfl (C rfl rfl (G [(2, _)] rfl ?_))
    refine WC.ret (⟨[_], (res_tmp rfl res_nil), ?_⟩)
    exact ⟨vbf (by unfold Sm; omega), W.bare.take 0⟩
  ·
   refine C rfl rfl (D rfl (D rfl (C rfl rfl (C rfl rfl (G [(2, _)] rfl ?_)))))
   refine WC.ret (⟨[_], (res_tmp rfl res_nil), ?_⟩)
   exact ⟨vbf (by unfold Sm; omega), W.bare.take 0⟩
set_option maxRecDepth 8000 in
theorem refMayO_ran (W : Mem h h [] []) {o : Oper} : Cll tab0 40 [.agg (Oper.cells o).toArray] h (fun v h2 => v = .bool (mayOB o) ∧ Mem h h2 [] []) := by
  refine Cll.code rfl rfl ?_
  refine WC.env [(0, _)] rfl ?_
  refine J (U (WS.box W [_, _, _, _, _, _, _, _, _, _, _, _, _, _, _, _] rfl rfl rfl rfl ?_))
  intro p1 h2 M3
  refine C rfl rfl (G [(1, _)] rfl ?_)
  refine J (J ?_)
  obtain ⟨L4, eL6, M5⟩ := Mem.name M3.bare
  refine WC.joinD M5 [] rfl (fun b => [(1, (.pointer (some ⟨p1, 0, none⟩))), (21, .bool b)]) L4 (¬ ((1 ≤ o.op.toNat ∧ o.op.toNat ≤ 7) ∧ o = plainO o ∧ o.sl.toNat ≤ 3)) ((1 ≤ o.op.toNat ∧ o.op.toNat ≤ 7) ∧ o = plainO o ∧ o.sl.toNat ≤ 3) ?_ ?_ ?_
  ·subst eL6
   intro rb7 h8 M9
   refine C rfl rfl (C rfl (op_ld (M9.at 0 rfl) rfl rfl) ?_)
   refine WS.lssN (a := (o.op).toNat) (b := 1) rfl rfl rfl (fun e5 => ?_) (fun e5 => ?_)
   ·
    refine C rfl rfl (D rfl (D rfl (D rfl (C rfl rfl (C rfl rfl (D rfl (D rfl (WS.offC rfl (WS.chkOff rfl ?_)))))))))
    refine D rfl (C rfl rfl (C rfl rfl (D rfl (D rfl (D rfl (C rfl rfl ?_))))))
    refine WS.nil' ⟨true, rfl, ((M9.bare.focus 0 rfl).take 1), fun _ => ?_, fun hh => ?_⟩
    · rintro ⟨q1, q2, q3⟩; first | omega | exact e15 q2
    · cases hh
   ·
    refine C rfl rfl (C rfl rfl (C rfl (op_ld (M9.at 0 rfl) rfl rfl) ?_))
    refine WS.gtrN (a := (o.op).toNat) (b := 7) rfl rfl rfl (fun e9 => ?_) (fun e9 => ?_)
    ·
     refine C rfl rfl (C rfl rfl (D rfl (D rfl (WS.offC rfl (WS.chkOff rfl (D rfl (C rfl rfl (C rfl rfl (D rfl ?_)))))))))
     refine D rfl (D rfl (C rfl rfl ?_))
     refine WS.nil' ⟨true, rfl, ((M9.bare.focus 0 rfl).take 1), fun _ => ?_, fun hh => ?_⟩
     · rintro ⟨q1, q2, q3⟩; first | omega | exact e15 q2
     · cases hh
    ·
     refine C rfl rfl (C rfl rfl (C rfl (op_lds [_, _, _, _, _, _, _, _, _, _, _, _, _, _, _, _] (M9.at 0 rfl) rfl (F rfl) rfl) (C rfl (op_lds [_, _, _, _, _, _, _, _, _, _, _, _, _, _, _, _] (M9.at 0 rfl) rfl (F rfl) rfl) ?_)))
     refine WS.call rfl rfl rfl (plainO_ran M9.here (o := o)) ?_
     rintro _ h10 ⟨rfl, N11⟩
     have M12 := M9.trans N11
     refine WS.chk rfl (op_lds [_, _, _, _, _, _, _, _, _, _, _, _, _, _, _, _] (M12.at 0 rfl) rfl (F rfl) rfl) rfl (sameV_refl rfl) ?_
     refine WS.eqqDn (p := o = (⟨((plainO o).op), ((plainO o).sl), ((plainO o).t0), ((plainO o).t1), ((plainO o).t2), ((plainO o).t3), ((plainO o).t4), ((plainO o).t5), ((plainO o).t6), ((plainO o).t7), ((plainO o).ro), (plainO o).ks, (plainO o).bt, (plainO o).ra, (plainO o).bu, ((plainO o).nd)⟩ : Oper)) rfl rfl rfl (Oper_eqV _ _) (fun e15 => ?_) (fun e15 => ?_)
     ·
      refine C rfl rfl (C rfl rfl (D rfl (D rfl (D rfl (C rfl rfl ?_)))))
      refine WS.nil' ⟨true, rfl, ((M12.bare.focus 0 rfl).take 1), fun _ => ?_, fun hh => ?_⟩
      · rintro ⟨q1, q2, q3⟩; first | omega | exact e15 q2
      · cases hh
     ·
      refine C rfl rfl (C rfl rfl (C rfl rfl (C rfl (op_ld (M12.at 0 rfl) rfl rfl) ?_)))
      refine WS.gtrN (a := (o.sl).toNat) (b := 3) rfl rfl rfl (fun e20 => ?_) (fun e20 => ?_)
      ·
       refine C rfl rfl ?_
       refine WS.nil' ⟨true, rfl, ((M12.bare.focus 0 rfl).take 1), fun _ => ?_, fun hh => ?_⟩
       · rintro ⟨q1, q2, q3⟩; first | omega | exact e15 q2
       · cases hh
      ·
       refine C rfl rfl ?_
       refine WS.nil' ⟨false, rfl, ((M12.bare.focus 0 rfl).take 1), fun hh => ?_, fun _ => ?_⟩
       · cases hh
       · exact ⟨by omega, e15, by omega⟩
  ·intro h13 M14 hp21
   subst eL6
   refine WC.condT rfl (J (U (C rfl rfl (G [(2, _)] rfl ?_))))
   refine WC.ret (⟨[_], (res_tmp rfl res_nil), ?_⟩)
   exact ⟨mayOB_f (by rintro ⟨q1, q2, q3, q4, q5, q6, q7, q8, q9⟩; first | exact hp21 ⟨q1, q2, q3⟩ | exact hp49 ⟨q4, q5⟩ | exact absurd q6 (of_decide_eq_false (by assumption)) | exact absurd q7 (of_decide_eq_false (by assumption)) | exact absurd q8 (of_decide_eq_false (by assumption)) | exact absurd q9 (of_decide_eq_false (by assumption))), M14.bare.take 0⟩
  ·intro h15 M16 hp21
   subst eL6
   refine WC.condF rfl (WC.skip (J (J ?_)))
   obtain ⟨L17, eL19, M18⟩ := Mem.name M16.bare
   refine WC.joinB (base := h) (fun b => [(1, (.pointer (some ⟨p1, 0, none⟩))), (49, .bool b)]) L17 (¬ ((o.op.toNat = 2 → 1 ≤ o.ro.toNat ∧ o.ro.toNat ≤ 3) ∧ (4 < o.op.toNat → 1 ≤ o.nd.toNat ∧ o.nd.toNat ≤ 5))) (((o.op.toNat = 2 → 1 ≤ o.ro.toNat ∧ o.ro.toNat ≤ 3) ∧ (4 < o.op.toNat → 1 ≤ o.nd.toNat ∧ o.nd.toNat ≤ 5))) ?_ ?_ ?_
   ·subst eL19
    refine C rfl rfl (C rfl (op_ld (M18.at 0 rfl) rfl rfl) ?_)
    refine WS.eqlN (a := (o.op).toNat) (b := 2) rfl rfl rfl (fun e24 => ?_) (fun e24 => ?_)
    ·
     refine C rfl rfl (C rfl rfl (C rfl (op_ld (M18.at 0 rfl) rfl rfl) ?_))
     refine WS.lssN (a := (o.ro).toNat) (b := 1) rfl rfl rfl (fun e28 => ?_) (fun e28 => ?_)
     ·
      refine C rfl rfl (D rfl (D rfl (D rfl (C rfl rfl (C rfl rfl (C rfl rfl (D rfl (D rfl (D rfl ?_)))))))))
      refine D rfl (D rfl (D rfl (D rfl (D rfl (D rfl (D rfl (D rfl (D rfl (D rfl ?_)))))))))
      refine C rfl rfl ?_
      refine WS.nil' ⟨true, rfl, ((M18.bare.focus 0 rfl).take 1), fun _ => ?_, fun hh => ?_⟩
      · omega
      · cases hh
     ·
      refine C rfl rfl (C rfl rfl (C rfl (op_ld (M18.at 0 rfl) rfl rfl) ?_))
      refine WS.gtrN (a := (o.ro).toNat) (b := 3) rfl rfl rfl (fun e32 => ?_) (fun e32 => ?_)
      ·
       refine C rfl rfl (C rfl rfl (C rfl rfl (D rfl (D rfl (D rfl (D rfl (D rfl (D rfl (D rfl ?_)))))))))
       refine D rfl (D rfl (D rfl (D rfl (D rfl (D rfl (C rfl rfl ?_))))))
       refine WS.nil' ⟨true, rfl, ((M18.bare.focus 0 rfl).take 1), fun _ => ?_, fun hh => ?_⟩
       · omega
       · cases hh
      ·
       refine C rfl rfl (C rfl rfl (C rfl rfl (C rfl rfl (C rfl (op_ld (M18.at 0 rfl) rfl rfl) ?_))))
       refine WS.gtrN (a := (o.op).toNat) (b := 4) rfl rfl rfl (fun e38 => ?_) (fun e38 => ?_)
       ·
        refine C rfl rfl (C rfl rfl (C rfl (op_ld (M18.at 0 rfl) rfl rfl) ?_))
        refine WS.lssN (a := (o.nd).toNat) (b := 1) rfl rfl rfl (fun e42 => ?_) (fun e42 => ?_)
        ·
         refine C rfl rfl (D rfl (D rfl (D rfl (C rfl rfl (C rfl rfl (C rfl rfl ?_))))))
         refine WS.nil' ⟨true, rfl, ((M18.bare.focus 0 rfl).take 1), fun _ => ?_, fun hh => ?_⟩
         · omega
         · cases hh
        ·
         refine C rfl rfl (C rfl rfl (C rfl (op_ld (M18.at 0 rfl) rfl rfl) ?_))
         refine WS.gtrN (a := (o.nd).toNat) (b := 5) rfl rfl rfl (fun e46 => ?_) (fun e46 => ?_)
         ·
          refine C rfl rfl (C rfl rfl (C rfl rfl ?_))
          refine WS.nil' ⟨true, rfl, ((M18.bare.focus 0 rfl).take 1), fun _ => ?_, fun hh => ?_⟩
          · omega
          · cases hh
         ·
          refine C rfl rfl (C rfl rfl (C rfl rfl ?_))
          refine WS.nil' ⟨false, rfl, ((M18.bare.focus 0 rfl).take 1), fun hh => ?_, fun _ => ?_⟩
          · cases hh
          · omega
       ·
        refine C rfl rfl (D rfl (D rfl (D rfl (D rfl (D rfl (D rfl (D rfl (D rfl (C rfl rfl ?_)))))))))
        refine C rfl rfl ?_
        refine WS.nil' ⟨false, rfl, ((M18.bare.focus 0 rfl).take 1), fun hh => ?_, fun _ => ?_⟩
        · cases hh
        · omega
    ·
     refine C rfl rfl (D rfl (D rfl (D rfl (D rfl (D rfl (D rfl (D rfl (D rfl (C rfl rfl ?_)))))))))
     refine C rfl rfl (C rfl rfl (C rfl (op_ld (M18.at 0 rfl) rfl rfl) ?_))
     refine WS.gtrN (a := (o.op).toNat) (b := 4) rfl rfl rfl (fun e38 => ?_) (fun e38 => ?_)
     ·
      refine C rfl rfl (C rfl rfl (C rfl (op_ld (M18.at 0 rfl) rfl rfl) ?_))
      refine WS.lssN (a := (o.nd).toNat) (b := 1) rfl rfl rfl (fun e42 => ?_) (fun e42 => ?_)
      ·
       refine C rfl rfl (D rfl (D rfl (D rfl (C rfl rfl (C rfl rfl (C rfl rfl ?_))))))
       refine WS.nil' ⟨true, rfl, ((M18.bare.focus 0 rfl).take 1), fun _ => ?_, fun hh => ?_⟩
       · omega
       · cases hh
      ·
       refine C rfl rfl (C rfl rfl (C rfl (op_ld (M18.at 0 rfl) rfl rfl) ?_))
       refine WS.gtrN (a := (o.nd).toNat) (b := 5) rfl rfl rfl (fun e46 => ?_) (fun e46 => ?_)
       ·
        refine C rfl rfl (C rfl rfl (C rfl rfl ?_))
        refine WS.nil' ⟨true, rfl, ((M18.bare.focus 0 rfl).take 1), fun _ => ?_, fun hh => ?_⟩
        · omega
        · cases hh
       ·
        refine C rfl rfl (C rfl rfl (C rfl rfl ?_))
        refine WS.nil' ⟨false, rfl, ((M18.bare.focus 0 rfl).take 1), fun hh => ?_, fun _ => ?_⟩
        · cases hh
        · omega
     ·
      refine C rfl rfl (D rfl (D rfl (D rfl (D rfl (D rfl (D rfl (D rfl (D rfl (C rfl rfl ?_)))))))))
      refine C rfl rfl ?_
      refine WS.nil' ⟨false, rfl, ((M18.bare.focus 0 rfl).take 1), fun hh => ?_, fun _ => ?_⟩
      · cases hh
      · omega
   ·intro h20 M21 hp49
    subst eL19
    refine WC.condT rfl (J (U (C rfl rfl (G [(2, _)] rfl ?_))))
    refine WC.ret (⟨[_], (res_tmp rfl res_nil), ?_⟩)
    exact ⟨mayOB_f (by rintro ⟨q1, q2, q3, q4, q5, q6, q7, q8, q9⟩; first | exact hp21 ⟨q1, q2, q3⟩ | exact hp49 ⟨q4, q5⟩ | exact absurd q6 (of_decide_eq_false (by assumption)) | exact absurd q7 (of_decide_eq_false (by assumption)) | exact absurd q8 (of_decide_eq_false (by assumption)) | exact absurd q9 (of_decide_eq_false (by assumption))), M21.bare.take 0⟩
   ·intro h22 M23 hp49
    subst eL19
    refine WC.condF rfl (WC.skip (J (U (C rfl rfl (C rfl (op_ld (M23.at 0 rfl) rfl rfl) ?_)))))
    refine WS.call rfl rfl rfl (bounded_ran M23.here (n := (o.ks).toInt)) ?_
    rintro _ h24 ⟨rfl, N25⟩
    have M26 := M23.trans N25
    refine C rfl rfl ?_
    cases hb1 : (decide (Sm ((o.ks).toInt)))
    ·
     refine D rfl (D rfl (WS.offC rfl (C rfl rfl (C rfl rfl (D rfl (D rfl (WS.offC rfl (C rfl rfl (C rfl rfl ?_)))))))))
     refine D rfl (D rfl (WS.offC rfl (C rfl rfl (C rfl rfl (G [(2, _)] rfl ?_)))))
     refine WC.ret (⟨[_], (res_tmp rfl res_nil), ?_⟩)
     exact ⟨mayOB_f (by rintro ⟨q1, q2, q3, q4, q5, q6, q7, q8, q9⟩; first | exact hp21 ⟨q1, q2, q3⟩ | exact hp49 ⟨q4, q5⟩ | exact absurd q6 (of_decide_eq_false (by assumption)) | exact absurd q7 (of_decide_eq_false (by assumption)) | exact absurd q8 (of_decide_eq_false (by assumption)) | exact absurd q9 (of_decide_eq_false (by assumption))), M26.bare.take 0⟩
    ·
     refine C rfl rfl (C rfl (op_ld (M26.at 0 rfl) rfl rfl) ?_)
     refine WS.call rfl rfl rfl (bounded_ran M26.here (n := (o.bt).toInt)) ?_
     rintro _ h27 ⟨rfl, N28⟩
     have M29 := M26.trans N28
     refine C rfl rfl (C rfl rfl ?_)
     cases hb2 : (decide (Sm ((o.bt).toInt)))
     ·
      refine D rfl (D rfl (WS.offC rfl (C rfl rfl (C rfl rfl (D rfl (D rfl (WS.offC rfl (C rfl rfl (C rfl rfl ?_)))))))))
      refine G [(2, _)] rfl ?_
      refine WC.ret (⟨[_], (res_tmp rfl res_nil), ?_⟩)
      exact ⟨mayOB_f (by rintro ⟨q1, q2, q3, q4, q5, q6, q7, q8, q9⟩; first | exact hp21 ⟨q1, q2, q3⟩ | exact hp49 ⟨q4, q5⟩ | exact absurd q6 (of_decide_eq_false (by assumption)) | exact absurd q7 (of_decide_eq_false (by assumption)) | exact absurd q8 (of_decide_eq_false (by assumption)) | exact absurd q9 (of_decide_eq_false (by assumption))), M29.bare.take 0⟩
     ·
      refine C rfl rfl (C rfl (op_ld (M29.at 0 rfl) rfl rfl) ?_)
      refine WS.call rfl rfl rfl (bounded_ran M29.here (n := (o.ra).toInt)) ?_
      rintro _ h30 ⟨rfl, N31⟩
      have M32 := M29.trans N31
      refine C rfl rfl (C rfl rfl ?_)
      cases hb3 : (decide (Sm ((o.ra).toInt)))
      ·
       refine D rfl (D rfl (WS.offC rfl (C rfl rfl (C rfl rfl (G [(2, _)] rfl ?_)))))
       refine WC.ret (⟨[_], (res_tmp rfl res_nil), ?_⟩)
       exact ⟨mayOB_f (by rintro ⟨q1, q2, q3, q4, q5, q6, q7, q8, q9⟩; first | exact hp21 ⟨q1, q2, q3⟩ | exact hp49 ⟨q4, q5⟩ | exact absurd q6 (of_decide_eq_false (by assumption)) | exact absurd q7 (of_decide_eq_false (by assumption)) | exact absurd q8 (of_decide_eq_false (by assumption)) | exact absurd q9 (of_decide_eq_false (by assumption))), M32.bare.take 0⟩
      ·
       refine C rfl rfl (C rfl (op_ld (M32.at 0 rfl) rfl rfl) ?_)
       refine WS.call rfl rfl rfl (bounded_ran M32.here (n := (o.bu).toInt)) ?_
       rintro _ h33 ⟨rfl, N34⟩
       have M35 := M32.trans N34
       refine C rfl rfl (C rfl rfl (G [(2, _)] rfl ?_))
       refine WC.ret ?_
       cases hb4 : (decide (Sm ((o.bu).toInt)))
       ·
        refine ⟨[_], (res_tmp rfl res_nil), ?_⟩
        exact ⟨mayOB_f (by rintro ⟨q1, q2, q3, q4, q5, q6, q7, q8, q9⟩; first | exact hp21 ⟨q1, q2, q3⟩ | exact hp49 ⟨q4, q5⟩ | exact absurd q6 (of_decide_eq_false (by assumption)) | exact absurd q7 (of_decide_eq_false (by assumption)) | exact absurd q8 (of_decide_eq_false (by assumption)) | exact absurd q9 (of_decide_eq_false (by assumption))), M35.bare.take 0⟩
       ·
        refine ⟨[_], (res_tmp rfl res_nil), ?_⟩
        exact ⟨mayOB_t ⟨hp21.1, hp21.2.1, hp21.2.2, hp49.1, hp49.2, of_decide_eq_true (by assumption), of_decide_eq_true (by assumption), of_decide_eq_true (by assumption), of_decide_eq_true (by assumption)⟩, M35.bare.take 0⟩
def AllS (l : List Int) : Prop := ∀ n ∈ l, Sm n
instance (l : List Int) : Decidable (AllS l) := by unfold AllS; infer_instance
theorem small1_ran (W : Mem h h [] []) {n : Int} : Cll tab0 80 [.int .i64 n] h (fun v h2 => v = .bool (!decide (Sm n)) ∧ Mem h h2 [] []) := by
  refine Cll.code rfl rfl ?_
  refine WC.env [(0, _)] rfl ?_
  refine J (U (C rfl rfl (G [(0, _)] rfl ?_)))
  refine J (U (C rfl rfl ?_))
  refine WS.lss (a := n) (b := (0 : Int)) rfl rfl rfl (fun e4 => ?_) (fun e4 => ?_)
  ·
   refine C rfl rfl (D rfl (D rfl (C rfl rfl (C rfl rfl (G [(2, _)] rfl ?_)))))
   refine WC.ret (⟨[_], (res_tmp rfl res_nil), ?_⟩)
   exact ⟨by rw [decide_eq_false (by unfold Sm; omega)]; rfl, W.bare.take 0⟩
  ·
   refine C rfl rfl (C rfl rfl ?_)
   refine WS.gtr (a := n) (b := (2147483647 : Int)) rfl rfl rfl (fun e7 => ?_) (fun e7 => ?_)
   ·
    refine C rfl rfl (C rfl rfl (G [(2, _)] rfl ?_))
    refine WC.ret (⟨[_], (res_tmp rfl res_nil), ?_⟩)
    exact ⟨by rw [decide_eq_false (by unfold Sm; omega)]; rfl, W.bare.take 0⟩
   ·
    refine C rfl rfl (C rfl rfl (G [(2, _)] rfl ?_))
    refine WC.ret (⟨[_], (res_tmp rfl res_nil), ?_⟩)
    exact ⟨by rw [decide_eq_true (by unfold Sm; omega)]; rfl, W.bare.take 0⟩
theorem idxI_ran (W : Mem h h [] []) {V : Value} {l : List Int} (A : KInt.Sl h V l) (hl : l.length ≤ 1000000) : Cll tab0 81 [V, .func (.func 80) #[] #[]] h (fun v h2 => (∃ z, v = .int .i64 z ∧ (0 ≤ z ↔ ¬ AllS l)) ∧ Mem h h2 [] []) := by
  refine Cll.code rfl rfl ?_
  refine WC.env [(0, _), (1, _)] rfl ?_
  refine J (U (C rfl rfl (G [(0, _), (1, _)] rfl ?_)))
  refine J (J (U (C rfl rfl (C rfl (op_lenVS A rfl) (C rfl rfl (G [(0, _), (1, _), (7, _), (8, _)] rfl ?_))))))
  refine WC.block ?_
  obtain ⟨L1, eL3, M2⟩ := Mem.name W.bare
  refine WC.loop (σ := Nat) (fun (i) => [(0, V), (1, (.func (.func 80) #[] #[])), (7, (.int .i64 (((l).length : Nat) : Int))), (8, (.int .i64 ((i : Nat) : Int)))]) (fun (i) hh => Mem h hh (L1) [] ∧ AllS (l.take i) ∧ i ≤ l.length) (fun (i) => l.length - i) (0) rfl ⟨M2, ?_⟩ ?_
  · exact ⟨by intro e he; simp at he, by omega⟩
  ·rintro i h4 ⟨M5, ⟨hO, hi1⟩⟩
   subst eL3
   refine WC.env [(0, _), (1, _), (7, _), (8, _)] rfl ?_
   refine J (U (WS.lssN (a := i) (b := (l).length) rfl rfl rfl (fun e9 => ?_) (fun e9 => ?_)))
   ·
    refine G [(0, _), (1, _), (7, _), (8, _), (9, _)] rfl ?_
    refine J (WC.condT rfl (WC.skip (J (WC.block (J (U (C rfl rfl (C rfl rfl (G [(0, _), (1, _), (5, _), (7, _), (8, _)] rfl ?_)))))))))
    refine J (U (C rfl rfl (C rfl rfl (C rfl rfl ?_))))
    obtain ⟨y14, hy14⟩ : ∃ y, (l)[i]? = some y := ⟨_, List.getElem?_eq_getElem (show i < (l).length by first | omega | (simp only [List.length_drop, List.length_take, List.length_append, List.length_cons, List.length_nil, List.length_singleton]; omega) | (simp only [List.length_drop, List.length_take, List.length_append, List.length_cons, List.length_nil, List.length_singleton] at *; omega))⟩
    refine WS.iaVS A i hy14 rfl rfl rfl rfl ?_
    intro b14_ o14_ ha14
    refine C rfl (op_ldH rfl (At.ld0 (ha14.mono M5.sub) rfl)) ?_
    refine WS.call rfl rfl rfl (small1_ran M5.here (n := y14)) ?_
    rintro _ h6 ⟨rfl, N7⟩
    have M8 := M5.trans N7
    refine G [(0, _), (1, _), (5, _), (7, _), (8, _), (16, _)] rfl ?_
    cases hb1 : (!decide (Sm y14))
    ·
     refine WC.condF rfl (WC.skip (U (WS.opV (.int .i64 (((i + 1) : Nat) : Int)) rfl rfl (add_i64 (a := i) (b := 1) (by omega)) (C rfl rfl (G [(0, _), (1, _), (7, _), (8, _)] rfl ?_)))))
     refine ⟨i + 1, rfl, ⟨(M8.bare.take 0), ?_⟩, ?_⟩
     · exact ⟨by intro s hs; rw [List.take_add_one, hy14] at hs; simp only [Option.toList_some, List.mem_append, List.mem_singleton] at hs; rcases hs with hs | hs; exact hO s hs; subst hs; simpa using hb1, by omega⟩
     · simp only []; omega
    ·
     refine WC.condT rfl (J (U (C rfl rfl (C rfl rfl (G [(4, _)] rfl ?_)))))
     refine WC.ret (⟨[_], (res_tmp rfl res_nil), ?_⟩)
     refine ⟨⟨_, rfl, ?_⟩, M8.bare.take 0⟩
     have : ¬ Sm y14 := by simpa using hb1
     exact ⟨fun _ q => this (q _ (List.mem_of_getElem? hy14)), fun _ => by omega⟩
   ·
    refine G [(0, _), (1, _), (7, _), (8, _), (9, _)] rfl ?_
    refine J (WC.condF rfl (WC.exit ?_))
    refine J (U (C rfl rfl (G [(4, _)] rfl ?_)))
    refine WC.ret (⟨[_], (res_tmp rfl res_nil), ?_⟩)
    refine ⟨⟨_, rfl, ?_⟩, M5.bare.take 0⟩
    rw [List.take_of_length_le (by omega)] at hO
    exact ⟨fun q => by omega, fun q => absurd hO q⟩
theorem contI_ran (W : Mem h h [] []) {V : Value} {l : List Int} (A : KInt.Sl h V l) (hl : l.length ≤ 1000000) : Cll tab0 79 [V, .func (.func 80) #[] #[]] h (fun v h2 => v = .bool (!(decide (AllS l))) ∧ Mem h h2 [] []) := by
  refine Cll.code rfl rfl ?_
  refine WC.env [(0, _), (1, _)] rfl ?_
  refine J (U (C rfl rfl (G [(0, _), (1, _)] rfl ?_)))
  refine J (U (C rfl rfl (C rfl rfl ?_)))
  refine WS.call rfl rfl rfl (idxI_ran W.here (A.mono W.sub) (by omega)) ?_
  rintro _ h1 ⟨⟨z7, rfl, hz7⟩, N2⟩
  have M3 := W.trans N2
  refine WS.geq (a := z7) (b := (0 : Int)) rfl rfl rfl (fun e8 => ?_) (fun e8 => ?_)
  ·
   refine C rfl rfl (G [(4, _)] rfl ?_)
   refine WC.ret (⟨[_], (res_tmp rfl res_nil), ?_⟩)
   refine ⟨?_, M3.bare.take 0⟩
   have hq : decide (AllS l) = false := decide_eq_false (hz7.1 (by omega))
   rw [hq]; rfl
  ·
   refine C rfl rfl (G [(4, _)] rfl ?_)
   refine WC.ret (⟨[_], (res_tmp rfl res_nil), ?_⟩)
   refine ⟨?_, M3.bare.take 0⟩
   have hq : decide (AllS l) = true := decide_eq_true (by by_cases q : AllS l; exact q; have := hz7.2 q; omega)
   rw [hq]; rfl
theorem small_ran (W : Mem h h [] []) {V : Value} {l : List Int} (A : KInt.Sl h V l) (hl : l.length ≤ 1000000) : Cll tab0 75 [V] h (fun v h2 => v = .bool (decide (AllS l)) ∧ Mem h h2 [] []) := by
  refine Cll.code rfl rfl ?_
  refine WC.env [(0, _)] rfl ?_
  refine J (U (C rfl rfl (G [(0, _)] rfl ?_)))
  refine J (U (C rfl rfl ?_))
  refine WS.call rfl rfl rfl (contI_ran W.here (A.mono W.sub) (by omega)) ?_
  rintro _ h1 ⟨rfl, N2⟩
  have M3 := W.trans N2
  cases hb1 : (!(decide (AllS l)))
  ·
   refine WS.opV (.bool true) rfl rfl rfl (C rfl rfl (G [(2, _)] rfl ?_))
   refine WC.ret (⟨[_], (res_tmp rfl res_nil), ?_⟩)
   refine ⟨?_, M3.bare.take 0⟩
   have hq : decide (AllS l) = true := by simpa using hb1
   rw [hq]; rfl
  ·
   refine WS.opV (.bool false) rfl rfl rfl (C rfl rfl (G [(2, _)] rfl ?_))
   refine WC.ret (⟨[_], (res_tmp rfl res_nil), ?_⟩)
   refine ⟨?_, M3.bare.take 0⟩
   have hq : decide (AllS l) = false := by simpa using hb1
   rw [hq]; rfl
end Go.Proofs.Yteikngjiaboeaaa.Wt
namespace Go.Proofs.Yteikngjiaboeaaa.Wt
open Go Go.Proofs.Yteikngjiaboeaaa.Am Go.Proofs.Yteikngjiaboeaaa.IrAll
open Nat renaming le_of_ble_eq_true → C
open Go.Proofs.Yteikngjiaboeaaa.Am.WS renaming op → D
open Go.Proofs.Yteikngjiaboeaaa.Am.WS renaming nil → F
open Go.Proofs.Yteikngjiaboeaaa.Am.WS renaming off → G
open Go.Proofs.Yteikngjiaboeaaa.Am.WC renaming run → J
open Go.Proofs.Yteikngjiaboeaaa.Am.WC renaming seq → U
open Go.Proofs.Yteikngjiaboeaaa.Am.WS renaming st1 → X
set_option linter.unusedVariables false
set_option linter.unusedSimpArgs false
theorem mayO_1 {o : Oper} (h : o.op.toNat = 1) : MayO o ↔ o.sl.toNat < 4 ∧ B4 o ∧ (⟨0, 0, o.t0, o.t1, o.t2, o.t3, o.t4, o.t5, o.t6, o.t7, o.ro, 0, 0, 0, 0, o.nd⟩ : Oper) = (⟨0, 0, 0, 0, 0, 0, 0, 0, 0, 0, 0, 0, 0, 0, 0, 0⟩ : Oper) := by
  obtain ⟨op, sl, t0, t1, t2, t3, t4, t5, t6, t7, ro, ks, bt, ra, bu, nd⟩ := o
  simp only at h
  have hop : op = 1 := u8_inj h
  subst hop
  unfold MayO B4
  have hp : plainO ⟨1, sl, t0, t1, t2, t3, t4, t5, t6, t7, ro, ks, bt, ra, bu, nd⟩ = ⟨1, sl, 0, 0, 0, 0, 0, 0, 0, 0, 0, ks, bt, ra, bu, 0⟩ := by unfold plainO; simp
  rw [hp]
  simp only [Oper.mk.injEq, true_and, and_true]
  have s0 : Sm (Int64.toInt 0) := by decide
  have s1 : (UInt8.toNat 0) = 0 := rfl
  have s2 : (UInt8.toNat 1) = 1 := rfl
  constructor
  · rintro ⟨q1, ⟨e0, e1, e2, e3, e4, e5, e6, e7, e8, e9⟩, q3, q4, q5, q6, q7, q8, q9⟩
    exact ⟨by omega, ⟨q6, q7, q8, q9⟩, e0, e1, e2, e3, e4, e5, e6, e7, e8, e9⟩
  · rintro ⟨q3, ⟨q6, q7, q8, q9⟩, e0, e1, e2, e3, e4, e5, e6, e7, e8, e9⟩
    subst e0 e1 e2 e3 e4 e5 e6 e7 e8 e9
    exact ⟨by omega, ⟨rfl, rfl, rfl, rfl, rfl, rfl, rfl, rfl, rfl, rfl⟩, by omega, fun q => by omega, fun q => by omega, q6, q7, q8, q9⟩
theorem mayO_2 {o : Oper} (h : o.op.toNat = 2) : MayO o ↔ o.sl.toNat < 4 ∧ (1 ≤ o.ro.toNat ∧ o.ro.toNat ≤ 3) ∧ (⟨0, 0, 0, 0, 0, 0, 0, 0, 0, 0, 0, o.ks, o.bt, o.ra, o.bu, o.nd⟩ : Oper) = (⟨0, 0, 0, 0, 0, 0, 0, 0, 0, 0, 0, 0, 0, 0, 0, 0⟩ : Oper) := by
  obtain ⟨op, sl, t0, t1, t2, t3, t4, t5, t6, t7, ro, ks, bt, ra, bu, nd⟩ := o
  simp only at h
  have hop : op = 2 := u8_inj h
  subst hop
  unfold MayO B4
  have hp : plainO ⟨2, sl, t0, t1, t2, t3, t4, t5, t6, t7, ro, ks, bt, ra, bu, nd⟩ = ⟨2, sl, t0, t1, t2, t3, t4, t5, t6, t7, ro, 0, 0, 0, 0, 0⟩ := by unfold plainO; simp
  rw [hp]
  simp only [Oper.mk.injEq, true_and, and_true]
  have s0 : Sm (Int64.toInt 0) := by decide
  have s1 : (UInt8.toNat 0) = 0 := rfl
  have s2 : (UInt8.toNat 2) = 2 := rfl
  constructor
  · rintro ⟨q1, ⟨e0, e1, e2, e3, e4⟩, q3, q4, q5, q6, q7, q8, q9⟩
    exact ⟨by omega, q4 rfl, e0, e1, e2, e3, e4⟩
  · rintro ⟨q3, q4, e0, e1, e2, e3, e4⟩
    subst e0 e1 e2 e3 e4
    exact ⟨by omega, ⟨rfl, rfl, rfl, rfl, rfl⟩, by omega, fun _ => q4, fun q => by omega, s0, s0, s0, s0⟩
theorem mayO_3 {o : Oper} (h : o.op.toNat = 3) : MayO o ↔ (⟨0, o.sl, 0, 0, 0, 0, 0, 0, 0, 0, o.ro, o.ks, o.bt, o.ra, o.bu, o.nd⟩ : Oper) = (⟨0, 0, 0, 0, 0, 0, 0, 0, 0, 0, 0, 0, 0, 0, 0, 0⟩ : Oper) := by
  obtain ⟨op, sl, t0, t1, t2, t3, t4, t5, t6, t7, ro, ks, bt, ra, bu, nd⟩ := o
  simp only at h
  have hop : op = 3 := u8_inj h
  subst hop
  unfold MayO B4
  have hp : plainO ⟨3, sl, t0, t1, t2, t3, t4, t5, t6, t7, ro, ks, bt, ra, bu, nd⟩ = ⟨3, 0, t0, t1, t2, t3, t4, t5, t6, t7, 0, 0, 0, 0, 0, 0⟩ := by unfold plainO; simp
  rw [hp]
  simp only [Oper.mk.injEq, true_and, and_true]
  have s0 : Sm (Int64.toInt 0) := by decide
  have s1 : (UInt8.toNat 0) = 0 := rfl
  have s2 : (UInt8.toNat 3) = 3 := rfl
  constructor
  · rintro ⟨q1, ⟨e0, e1, e2, e3, e4, e5, e6⟩, q3, q4, q5, q6, q7, q8, q9⟩
    exact ⟨e0, e1, e2, e3, e4, e5, e6⟩
  · rintro ⟨e0, e1, e2, e3, e4, e5, e6⟩
    subst e0 e1 e2 e3 e4 e5 e6
    exact ⟨by omega, ⟨rfl, rfl, rfl, rfl, rfl, rfl, rfl⟩, by omega, fun q => by omega, fun q => by omega, s0, s0, s0, s0⟩
theorem mayO_4 {o : Oper} (h : o.op.toNat = 4) : MayO o ↔ o.sl.toNat < 4 ∧ (⟨0, 0, o.t0, o.t1, o.t2, o.t3, o.t4, o.t5, o.t6, o.t7, o.ro, o.ks, o.bt, o.ra, o.bu, o.nd⟩ : Oper) = (⟨0, 0, 0, 0, 0, 0, 0, 0, 0, 0, 0, 0, 0, 0, 0, 0⟩ : Oper) := by
  obtain ⟨op, sl, t0, t1, t2, t3, t4, t5, t6, t7, ro, ks, bt, ra, bu, nd⟩ := o
  simp only at h
  have hop : op = 4 := u8_inj h
  subst hop
  unfold MayO B4
  have hp : plainO ⟨4, sl, t0, t1, t2, t3, t4, t5, t6, t7, ro, ks, bt, ra, bu, nd⟩ = ⟨4, sl, 0, 0, 0, 0, 0, 0, 0, 0, 0, 0, 0, 0, 0, 0⟩ := by unfold plainO; simp
  rw [hp]
  simp only [Oper.mk.injEq, true_and, and_true]
  have s0 : Sm (Int64.toInt 0) := by decide
  have s1 : (UInt8.toNat 0) = 0 := rfl
  have s2 : (UInt8.toNat 4) = 4 := rfl
  constructor
  · rintro ⟨q1, ⟨e0, e1, e2, e3, e4, e5, e6, e7, e8, e9, e10, e11, e12, e13⟩, q3, q4, q5, q6, q7, q8, q9⟩
    exact ⟨by omega, e0, e1, e2, e3, e4, e5, e6, e7, e8, e9, e10, e11, e12, e13⟩
  · rintro ⟨q3, e0, e1, e2, e3, e4, e5, e6, e7, e8, e9, e10, e11, e12, e13⟩
    subst e0 e1 e2 e3 e4 e5 e6 e7 e8 e9 e10 e11 e12 e13
    exact ⟨by omega, ⟨rfl, rfl, rfl, rfl, rfl, rfl, rfl, rfl, rfl, rfl, rfl, rfl, rfl, rfl⟩, by omega, fun q => by omega, fun q => by omega, s0, s0, s0, s0⟩
theorem mayO_5 {o : Oper} (h : 5 ≤ o.op.toNat ∧ o.op.toNat ≤ 7) : MayO o ↔ (1 ≤ o.nd.toNat ∧ o.nd.toNat ≤ 5) ∧ (⟨0, o.sl, o.t0, o.t1, o.t2, o.t3, o.t4, o.t5, o.t6, o.t7, o.ro, o.ks, o.bt, o.ra, o.bu, 0⟩ : Oper) = (⟨0, 0, 0, 0, 0, 0, 0, 0, 0, 0, 0, 0, 0, 0, 0, 0⟩ : Oper) := by
  obtain ⟨op, sl, t0, t1, t2, t3, t4, t5, t6, t7, ro, ks, bt, ra, bu, nd⟩ := o
  simp only at h
  unfold MayO B4
  have hp : plainO ⟨op, sl, t0, t1, t2, t3, t4, t5, t6, t7, ro, ks, bt, ra, bu, nd⟩ = ⟨op, 0, 0, 0, 0, 0, 0, 0, 0, 0, 0, 0, 0, 0, 0, nd⟩ := by unfold plainO; simp only; rw [if_neg (by omega), if_neg (by omega), if_neg (by omega), if_neg (by omega)]
  rw [hp]
  simp only [Oper.mk.injEq, true_and, and_true]
  have s0 : Sm (Int64.toInt 0) := by decide
  have s1 : (UInt8.toNat 0) = 0 := rfl
  skip
  constructor
  · rintro ⟨q1, ⟨e0, e1, e2, e3, e4, e5, e6, e7, e8, e9, e10, e11, e12, e13⟩, q3, q4, q5, q6, q7, q8, q9⟩
    exact ⟨q5 (by omega), e0, e1, e2, e3, e4, e5, e6, e7, e8, e9, e10, e11, e12, e13⟩
  · rintro ⟨q5, e0, e1, e2, e3, e4, e5, e6, e7, e8, e9, e10, e11, e12, e13⟩
    subst e0 e1 e2 e3 e4 e5 e6 e7 e8 e9 e10 e11 e12 e13
    exact ⟨by omega, ⟨rfl, rfl, rfl, rfl, rfl, rfl, rfl, rfl, rfl, rfl, rfl, rfl, rfl, rfl⟩, by omega, fun q => by omega, fun _ => q5, s0, s0, s0, s0⟩
variable {h base : H} {L : List Seg} {R : List Nat}
theorem AllS4 {o : Oper} : AllS [o.ks.toInt, o.bt.toInt, o.ra.toInt, o.bu.toInt] ↔ B4 o := by
  unfold AllS B4
  simp
set_option maxRecDepth 8000 in
theorem mayO_ran (W : Mem h h [] []) {o : Oper} : Cll tab0 53 [.agg (Oper.cells o).toArray] h (fun v h2 => v = .bool (mayOB o) ∧ Mem h h2 [] []) := by
  refine Cll.code rfl rfl ?_
  refine WC.env [(0, _)] rfl ?_
  refine U (J (WS.box W [_, _, _, _, _, _, _, _, _, _, _, _, _, _, _, _] rfl rfl rfl rfl ?_))
  intro p1 h2 M3
  refine D rfl rfl (F [(1, _)] rfl ?_)
  refine U (J (D rfl (op_lds [_, _, _, _, _, _, _, _, _, _, _, _, _, _, _, _] (M3.at 0 rfl) rfl (C rfl) rfl) ?_))
  refine WS.new M3 rfl ?_
  intro p4 h5 M6
  refine X (M6.focus 0 rfl) [_, _, _, _, _, _, _, _, _, _, _, _, _, _, _, _] [_, _, _, _, _, _, _, _, _, _, _, _, _, _, _, _] rfl rfl rfl rfl rfl (C rfl) (C rfl) rfl rfl ?_
  intro h7 M8
  replace M8 : Mem _ _ ([(p4, _)] :: [(p1, _)] :: []) _ := M8
  refine F [(1, _), (3, _)] rfl ?_
  refine U (J (D rfl rfl ?_))
  refine X (M8.focus 0 rfl) [_] [_, _, _, _, _, _, _, _, _, _, _, _, _, _, _, _] rfl rfl rfl rfl rfl (C rfl) (C rfl) rfl rfl ?_
  intro h9 M10
  replace M10 : Mem _ _ ([(p4, _)] :: [(p1, _)] :: []) _ := M10
  refine F [(1, _), (3, _)] rfl ?_
  refine U (J (D rfl rfl (F [(1, _), (3, _), (4, _)] rfl ?_)))
  refine U (U (J (D rfl rfl (D rfl (op_ld (M10.at 1 rfl) rfl rfl) (F [(1, _), (3, _), (4, _), (8, _)] rfl ?_)))))
  refine WC.block (U (J (WS.eqlN (a := (o.op).toNat) (b := 1) rfl rfl rfl (fun e10 => ?_) (fun e10 => ?_))))
  ·
   refine D rfl rfl (F [(1, _), (3, _), (4, _), (8, _), (9, _)] rfl ?_)
   refine WC.condT rfl (U (J (D rfl rfl (D rfl (op_ld (M10.at 1 rfl) rfl rfl) ?_))))
   refine WS.lssN (a := (o.sl).toNat) (b := 4) rfl rfl rfl (fun e13 => ?_) (fun e13 => ?_)
   ·
    refine D rfl rfl (D rfl rfl (D rfl (op_ld (M10.at 1 rfl) rfl rfl) (D rfl rfl (D rfl (op_ld (M10.at 1 rfl) rfl rfl) (D rfl rfl (D rfl (op_ld (M10.at 1 rfl) rfl rfl) (D rfl rfl (D rfl (op_ld (M10.at 1 rfl) rfl rfl) ?_))))))))
    refine WS.bsl M10 [_, _, _, _] rfl rfl rfl rfl ?_
    intro p11 h12 M13
    refine WS.call rfl rfl rfl (small_ran M13.here (l := [(o.ks).toInt, (o.bt).toInt, (o.ra).toInt, (o.bu).toInt]) (Row.Sl.own (K := KInt) (l := [(o.ks).toInt, (o.bt).toInt, (o.ra).toInt, (o.bu).toInt]) (M13.at 0 rfl)) (by simp)) ?_
    rintro _ h14 ⟨rfl, N15⟩
    have M16 := M13.trans N15
    refine D rfl rfl (D rfl rfl (F [(3, _), (4, _)] rfl ?_))
    refine J (D rfl rfl ?_)
    refine X (M16.focus 1 rfl) [_] [_, _, _, _, _, _, _, _, _, _, _, _, _, _, _, _] rfl rfl rfl rfl rfl (C rfl) (C rfl) rfl rfl ?_
    intro h17 M18
    replace M18 : Mem _ _ ([(p4, _)] :: [(p11, _)] :: [(p1, _)] :: []) _ := M18
    refine D rfl rfl ?_
    refine X (M18.focus 0 rfl) [_] [_, _, _, _, _, _, _, _, _, _, _, _, _, _, _, _] rfl rfl rfl rfl rfl (C rfl) (C rfl) rfl rfl ?_
    intro h19 M20
    replace M20 : Mem _ _ ([(p4, _)] :: [(p11, _)] :: [(p1, _)] :: []) _ := M20
    refine D rfl rfl ?_
    refine X (M20.focus 0 rfl) [_] [_, _, _, _, _, _, _, _, _, _, _, _, _, _, _, _] rfl rfl rfl rfl rfl (C rfl) (C rfl) rfl rfl ?_
    intro h21 M22
    replace M22 : Mem _ _ ([(p4, _)] :: [(p11, _)] :: [(p1, _)] :: []) _ := M22
    refine D rfl rfl ?_
    refine X (M22.focus 0 rfl) [_] [_, _, _, _, _, _, _, _, _, _, _, _, _, _, _, _] rfl rfl rfl rfl rfl (C rfl) (C rfl) rfl rfl ?_
    intro h23 M24
    replace M24 : Mem _ _ ([(p4, _)] :: [(p11, _)] :: [(p1, _)] :: []) _ := M24
    refine D rfl rfl ?_
    refine X (M24.focus 0 rfl) [_] [_, _, _, _, _, _, _, _, _, _, _, _, _, _, _, _] rfl rfl rfl rfl rfl (C rfl) (C rfl) rfl rfl ?_
    intro h25 M26
    replace M26 : Mem _ _ ([(p4, _)] :: [(p11, _)] :: [(p1, _)] :: []) _ := M26
    refine F [(3, _), (4, _)] rfl ?_
    refine U (J (D rfl rfl (D rfl rfl ?_)))
    cases hb1 : (decide (AllS [(o.ks).toInt, (o.bt).toInt, (o.ra).toInt, (o.bu).toInt]))
    ·
     refine G rfl (G rfl (G rfl (D rfl rfl (D rfl rfl (F [(2, _)] rfl ?_)))))
     refine WC.ret (⟨[_], (res_tmp rfl res_nil), ?_⟩)
     first | exact ⟨mayOB_f (fun q => by have q2 := (mayO_1 (by omega)).1 q; first | omega | exact absurd q2 (by assumption) | exact absurd q2.2 (by assumption) | exact absurd q2.2.2 (by assumption) | exact absurd (AllS4.2 q2.2.1) (of_decide_eq_false (by assumption))), M26.bare.take 0⟩ | exact ⟨mayOB_f (fun q => by have q2 := (mayO_2 (by omega)).1 q; first | omega | exact absurd q2 (by assumption) | exact absurd q2.2 (by assumption) | exact absurd q2.2.2 (by assumption) | exact absurd (AllS4.2 q2.2.1) (of_decide_eq_false (by assumption))), M26.bare.take 0⟩ | exact ⟨mayOB_f (fun q => by have q2 := (mayO_3 (by omega)).1 q; first | omega | exact absurd q2 (by assumption) | exact absurd q2.2 (by assumption) | exact absurd q2.2.2 (by assumption) | exact absurd (AllS4.2 q2.2.1) (of_decide_eq_false (by assumption))), M26.bare.take 0⟩ | exact ⟨mayOB_f (fun q => by have q2 := (mayO_4 (by omega)).1 q; first | omega | exact absurd q2 (by assumption) | exact absurd q2.2 (by assumption) | exact absurd q2.2.2 (by assumption) | exact absurd (AllS4.2 q2.2.1) (of_decide_eq_false (by assumption))), M26.bare.take 0⟩ | exact ⟨mayOB_f (fun q => by have q2 := (mayO_5 (by omega)).1 q; first | omega | exact absurd q2 (by assumption) | exact absurd q2.2 (by assumption) | exact absurd q2.2.2 (by assumption) | exact absurd (AllS4.2 q2.2.1) (of_decide_eq_false (by assumption))), M26.bare.take 0⟩ | exact ⟨mayOB_f (fun q => by have q2 := q.1; omega), M26.bare.take 0⟩
    ·
     refine D rfl (op_lds [_, _, _, _, _, _, _, _, _, _, _, _, _, _, _, _] (M26.at 0 rfl) rfl (C rfl) rfl) (WS.opV (.agg #[(.int .u8 (0 : Int)), (.int .u8 (0 : Int)), (.int .u8 (0 : Int)), (.int .u8 (0 : Int)), (.int .u8 (0 : Int)), (.int .u8 (0 : Int)), (.int .u8 (0 : Int)), (.int .u8 (0 : Int)), (.int .u8 (0 : Int)), (.int .u8 (0 : Int)), (.int .u8 (0 : Int)), (.int .i64 (0 : Int)), (.int .i64 (0 : Int)), (.int .i64 (0 : Int)), (.int .i64 (0 : Int)), (.int .u8 (0 : Int))]) rfl rfl rfl ?_)
     refine WS.eqqD (p := (⟨0, 0, o.t0, o.t1, o.t2, o.t3, o.t4, o.t5, o.t6, o.t7, o.ro, 0, 0, 0, 0, o.nd⟩ : Oper) = (⟨0, 0, 0, 0, 0, 0, 0, 0, 0, 0, 0, 0, 0, 0, 0, 0⟩ : Oper)) rfl rfl rfl (Oper_eqV (⟨0, 0, o.t0, o.t1, o.t2, o.t3, o.t4, o.t5, o.t6, o.t7, o.ro, 0, 0, 0, 0, o.nd⟩ : Oper) (⟨0, 0, 0, 0, 0, 0, 0, 0, 0, 0, 0, 0, 0, 0, 0, 0⟩ : Oper)) (fun e77 => ?_) (fun e77 => ?_)
     ·
      refine D rfl rfl (D rfl rfl (F [(2, _)] rfl ?_))
      refine WC.ret (⟨[_], (res_tmp rfl res_nil), ?_⟩)
      first | exact ⟨mayOB_t ((mayO_1 (by omega)).2 ⟨by omega, AllS4.1 (of_decide_eq_true (by assumption)), by assumption⟩), M26.bare.take 0⟩ | exact ⟨mayOB_t ((mayO_2 (by omega)).2 ⟨by omega, by omega, by assumption⟩), M26.bare.take 0⟩ | exact ⟨mayOB_t ((mayO_3 (by omega)).2 (by assumption)), M26.bare.take 0⟩ | exact ⟨mayOB_t ((mayO_4 (by omega)).2 ⟨by omega, by assumption⟩), M26.bare.take 0⟩ | exact ⟨mayOB_t ((mayO_5 (by omega)).2 ⟨by omega, by assumption⟩), M26.bare.take 0⟩
     ·
      refine D rfl rfl (D rfl rfl (F [(2, _)] rfl ?_))
      refine WC.ret (⟨[_], (res_tmp rfl res_nil), ?_⟩)
      first | exact ⟨mayOB_f (fun q => by have q2 := (mayO_1 (by omega)).1 q; first | omega | exact absurd q2 (by assumption) | exact absurd q2.2 (by assumption) | exact absurd q2.2.2 (by assumption) | exact absurd (AllS4.2 q2.2.1) (of_decide_eq_false (by assumption))), M26.bare.take 0⟩ | exact ⟨mayOB_f (fun q => by have q2 := (mayO_2 (by omega)).1 q; first | omega | exact absurd q2 (by assumption) | exact absurd q2.2 (by assumption) | exact absurd q2.2.2 (by assumption) | exact absurd (AllS4.2 q2.2.1) (of_decide_eq_false (by assumption))), M26.bare.take 0⟩ | exact ⟨mayOB_f (fun q => by have q2 := (mayO_3 (by omega)).1 q; first | omega | exact absurd q2 (by assumption) | exact absurd q2.2 (by assumption) | exact absurd q2.2.2 (by assumption) | exact absurd (AllS4.2 q2.2.1) (of_decide_eq_false (by assumption))), M26.bare.take 0⟩ | exact ⟨mayOB_f (fun q => by have q2 := (mayO_4 (by omega)).1 q; first | omega | exact absurd q2 (by assumption) | exact absurd q2.2 (by assumption) | exact absurd q2.2.2 (by assumption) | exact absurd (AllS4.2 q2.2.1) (of_decide_eq_false (by assumption))), M26.bare.take 0⟩ | exact ⟨mayOB_f (fun q => by have q2 := (mayO_5 (by omega)).1 q; first | omega | exact absurd q2 (by assumption) | exact absurd q2.2 (by assumption) | exact absurd q2.2.2 (by assumption) | exact absurd (AllS4.2 q2.2.1) (of_decide_eq_false (by assumption))), M26.bare.take 0⟩ | exact ⟨mayOB_f (fun q => by have q2 := q.1; omega), M26.bare.take 0⟩
   ·
    refine D rfl rfl (G rfl (G rfl (G rfl (G rfl (G rfl (G rfl (G rfl (G rfl (G rfl ?_)))))))))
    refine WS.offC rfl (D rfl rfl (D rfl rfl (F [(3, _), (4, _)] rfl ?_)))
    refine J (D rfl rfl ?_)
    refine X (M10.focus 0 rfl) [_] [_, _, _, _, _, _, _, _, _, _, _, _, _, _, _, _] rfl rfl rfl rfl rfl (C rfl) (C rfl) rfl rfl ?_
    intro h27 M28
    replace M28 : Mem _ _ ([(p4, _)] :: [(p1, _)] :: []) _ := M28
    refine D rfl rfl ?_
    refine X (M28.focus 0 rfl) [_] [_, _, _, _, _, _, _, _, _, _, _, _, _, _, _, _] rfl rfl rfl rfl rfl (C rfl) (C rfl) rfl rfl ?_
    intro h29 M30
    replace M30 : Mem _ _ ([(p4, _)] :: [(p1, _)] :: []) _ := M30
    refine D rfl rfl ?_
    refine X (M30.focus 0 rfl) [_] [_, _, _, _, _, _, _, _, _, _, _, _, _, _, _, _] rfl rfl rfl rfl rfl (C rfl) (C rfl) rfl rfl ?_
    intro h31 M32
    replace M32 : Mem _ _ ([(p4, _)] :: [(p1, _)] :: []) _ := M32
    refine D rfl rfl ?_
    refine X (M32.focus 0 rfl) [_] [_, _, _, _, _, _, _, _, _, _, _, _, _, _, _, _] rfl rfl rfl rfl rfl (C rfl) (C rfl) rfl rfl ?_
    intro h33 M34
    replace M34 : Mem _ _ ([(p4, _)] :: [(p1, _)] :: []) _ := M34
    refine D rfl rfl ?_
    refine X (M34.focus 0 rfl) [_] [_, _, _, _, _, _, _, _, _, _, _, _, _, _, _, _] rfl rfl rfl rfl rfl (C rfl) (C rfl) rfl rfl ?_
    intro h35 M36
    replace M36 : Mem _ _ ([(p4, _)] :: [(p1, _)] :: []) _ := M36
    refine F [(3, _), (4, _)] rfl ?_
    refine U (J (D rfl rfl (D rfl rfl (G rfl (G rfl (G rfl (D rfl rfl (D rfl rfl (F [(2, _)] rfl ?_)))))))))
    refine WC.ret (⟨[_], (res_tmp rfl res_nil), ?_⟩)
    first | exact ⟨mayOB_f (fun q => by have q2 := (mayO_1 (by omega)).1 q; first | omega | exact absurd q2 (by assumption) | exact absurd q2.2 (by assumption) | exact absurd q2.2.2 (by assumption) | exact absurd (AllS4.2 q2.2.1) (of_decide_eq_false (by assumption))), M36.bare.take 0⟩ | exact ⟨mayOB_f (fun q => by have q2 := (mayO_2 (by omega)).1 q; first | omega | exact absurd q2 (by assumption) | exact absurd q2.2 (by assumption) | exact absurd q2.2.2 (by assumption) | exact absurd (AllS4.2 q2.2.1) (of_decide_eq_false (by assumption))), M36.bare.take 0⟩ | exact ⟨mayOB_f (fun q => by have q2 := (mayO_3 (by omega)).1 q; first | omega | exact absurd q2 (by assumption) | exact absurd q2.2 (by assumption) | exact absurd q2.2.2 (by assumption) | exact absurd (AllS4.2 q2.2.1) (of_decide_eq_false (by assumption))), M36.bare.take 0⟩ | exact ⟨mayOB_f (fun q => by have q2 := (mayO_4 (by omega)).1 q; first | omega | exact absurd q2 (by assumption) | exact absurd q2.2 (by assumption) | exact absurd q2.2.2 (by assumption) | exact absurd (AllS4.2 q2.2.1) (of_decide_eq_false (by assumption))), M36.bare.take 0⟩ | exact ⟨mayOB_f (fun q => by have q2 := (mayO_5 (by omega)).1 q; first | omega | exact absurd q2 (by assumption) | exact absurd q2.2 (by assumption) | exact absurd q2.2.2 (by assumption) | exact absurd (AllS4.2 q2.2.1) (of_decide_eq_false (by assumption))), M36.bare.take 0⟩ | exact ⟨mayOB_f (fun q => by have q2 := q.1; omega), M36.bare.take 0⟩
  ·
   refine D rfl rfl (F [(1, _), (3, _), (4, _), (8, _), (9, _)] rfl ?_)
   refine WC.condF rfl (U (J (WS.eqlN (a := (o.op).toNat) (b := 2) rfl rfl rfl (fun e32 => ?_) (fun e32 => ?_))))
   ·
    refine D rfl rfl (F [(1, _), (3, _), (4, _), (8, _), (31, _)] rfl ?_)
    refine WC.condT rfl (U (J (D rfl rfl (D rfl (op_ld (M10.at 1 rfl) rfl rfl) ?_))))
    refine WS.lssN (a := (o.sl).toNat) (b := 4) rfl rfl rfl (fun e35 => ?_) (fun e35 => ?_)
    ·
     refine D rfl rfl (D rfl rfl (D rfl (op_ld (M10.at 1 rfl) rfl rfl) ?_))
     refine WS.geqN (a := (o.ro).toNat) (b := 1) rfl rfl rfl (fun e39 => ?_) (fun e39 => ?_)
     ·
      refine D rfl rfl (D rfl rfl (D rfl rfl (D rfl (op_ld (M10.at 1 rfl) rfl rfl) ?_)))
      refine WS.leqN (a := (o.ro).toNat) (b := 3) rfl rfl rfl (fun e44 => ?_) (fun e44 => ?_)
      ·
       refine D rfl rfl (D rfl rfl (F [(3, _), (4, _)] rfl ?_))
       refine J (WS.opV (.agg #[(.int .u8 (0 : Int)), (.int .u8 (0 : Int)), (.int .u8 (0 : Int)), (.int .u8 (0 : Int)), (.int .u8 (0 : Int)), (.int .u8 (0 : Int)), (.int .u8 (0 : Int)), (.int .u8 (0 : Int))]) rfl rfl rfl (D rfl rfl ?_))
       refine X (M10.focus 0 rfl) [_] [_, _, _, _, _, _, _, _, _, _, _, _, _, _, _, _] rfl rfl rfl rfl rfl (C rfl) (C rfl) rfl rfl ?_
       intro h37 M38
       replace M38 : Mem _ _ ([(p4, _)] :: [(p1, _)] :: []) _ := M38
       refine D rfl rfl ?_
       refine X (M38.focus 0 rfl) [_, _, _, _, _, _, _, _] [_, _, _, _, _, _, _, _, _, _, _, _, _, _, _, _] rfl rfl rfl rfl rfl (C rfl) (C rfl) rfl rfl ?_
       intro h39 M40
       replace M40 : Mem _ _ ([(p4, _)] :: [(p1, _)] :: []) _ := M40
       refine D rfl rfl ?_
       refine X (M40.focus 0 rfl) [_] [_, _, _, _, _, _, _, _, _, _, _, _, _, _, _, _] rfl rfl rfl rfl rfl (C rfl) (C rfl) rfl rfl ?_
       intro h41 M42
       replace M42 : Mem _ _ ([(p4, _)] :: [(p1, _)] :: []) _ := M42
       refine F [(3, _), (4, _)] rfl ?_
       refine U (J (D rfl rfl (D rfl rfl (D rfl (op_lds [_, _, _, _, _, _, _, _, _, _, _, _, _, _, _, _] (M42.at 0 rfl) rfl (C rfl) rfl) (WS.opV (.agg #[(.int .u8 (0 : Int)), (.int .u8 (0 : Int)), (.int .u8 (0 : Int)), (.int .u8 (0 : Int)), (.int .u8 (0 : Int)), (.int .u8 (0 : Int)), (.int .u8 (0 : Int)), (.int .u8 (0 : Int)), (.int .u8 (0 : Int)), (.int .u8 (0 : Int)), (.int .u8 (0 : Int)), (.int .i64 (0 : Int)), (.int .i64 (0 : Int)), (.int .i64 (0 : Int)), (.int .i64 (0 : Int)), (.int .u8 (0 : Int))]) rfl rfl rfl ?_)))))
       refine WS.eqqD (p := (⟨0, 0, 0, 0, 0, 0, 0, 0, 0, 0, 0, o.ks, o.bt, o.ra, o.bu, o.nd⟩ : Oper) = (⟨0, 0, 0, 0, 0, 0, 0, 0, 0, 0, 0, 0, 0, 0, 0, 0⟩ : Oper)) rfl rfl rfl (Oper_eqV (⟨0, 0, 0, 0, 0, 0, 0, 0, 0, 0, 0, o.ks, o.bt, o.ra, o.bu, o.nd⟩ : Oper) (⟨0, 0, 0, 0, 0, 0, 0, 0, 0, 0, 0, 0, 0, 0, 0, 0⟩ : Oper)) (fun e77 => ?_) (fun e77 => ?_)
       ·
        refine D rfl rfl (D rfl rfl (F [(2, _)] rfl ?_))
        refine WC.ret (⟨[_], (res_tmp rfl res_nil), ?_⟩)
        first | exact ⟨mayOB_t ((mayO_1 (by omega)).2 ⟨by omega, AllS4.1 (of_decide_eq_true (by assumption)), by assumption⟩), M42.bare.take 0⟩ | exact ⟨mayOB_t ((mayO_2 (by omega)).2 ⟨by omega, by omega, by assumption⟩), M42.bare.take 0⟩ | exact ⟨mayOB_t ((mayO_3 (by omega)).2 (by assumption)), M42.bare.take 0⟩ | exact ⟨mayOB_t ((mayO_4 (by omega)).2 ⟨by omega, by assumption⟩), M42.bare.take 0⟩ | exact ⟨mayOB_t ((mayO_5 (by omega)).2 ⟨by omega, by assumption⟩), M42.bare.take 0⟩
       ·
        refine D rfl rfl (D rfl rfl (F [(2, _)] rfl ?_))
        refine WC.ret (⟨[_], (res_tmp rfl res_nil), ?_⟩)
        first | exact ⟨mayOB_f (fun q => by have q2 := (mayO_1 (by omega)).1 q; first | omega | exact absurd q2 (by assumption) | exact absurd q2.2 (by assumption) | exact absurd q2.2.2 (by assumption) | exact absurd (AllS4.2 q2.2.1) (of_decide_eq_false (by assumption))), M42.bare.take 0⟩ | exact ⟨mayOB_f (fun q => by have q2 := (mayO_2 (by omega)).1 q; first | omega | exact absurd q2 (by assumption) | exact absurd q2.2 (by assumption) | exact absurd q2.2.2 (by assumption) | exact absurd (AllS4.2 q2.2.1) (of_decide_eq_false (by assumption))), M42.bare.take 0⟩ | exact ⟨mayOB_f (fun q => by have q2 := (mayO_3 (by omega)).1 q; first | omega | exact absurd q2 (by assumption) | exact absurd q2.2 (by assumption) | exact absurd q2.2.2 (by assumption) | exact absurd (AllS4.2 q2.2.1) (of_decide_eq_false (by assumption))), M42.bare.take 0⟩ | exact ⟨mayOB_f (fun q => by have q2 := (mayO_4 (by omega)).1 q; first | omega | exact absurd q2 (by assumption) | exact absurd q2.2 (by assumption) | exact absurd q2.2.2 (by assumption) | exact absurd (AllS4.2 q2.2.1) (of_decide_eq_false (by assumption))), M42.bare.take 0⟩ | exact ⟨mayOB_f (fun q => by have q2 := (mayO_5 (by omega)).1 q; first | omega | exact absurd q2 (by assumption) | exact absurd q2.2 (by assumption) | exact absurd q2.2.2 (by assumption) | exact absurd (AllS4.2 q2.2.1) (of_decide_eq_false (by assumption))), M42.bare.take 0⟩ | exact ⟨mayOB_f (fun q => by have q2 := q.1; omega), M42.bare.take 0⟩
      ·
       refine D rfl rfl (D rfl rfl (F [(3, _), (4, _)] rfl ?_))
       refine J (WS.opV (.agg #[(.int .u8 (0 : Int)), (.int .u8 (0 : Int)), (.int .u8 (0 : Int)), (.int .u8 (0 : Int)), (.int .u8 (0 : Int)), (.int .u8 (0 : Int)), (.int .u8 (0 : Int)), (.int .u8 (0 : Int))]) rfl rfl rfl (D rfl rfl ?_))
       refine X (M10.focus 0 rfl) [_] [_, _, _, _, _, _, _, _, _, _, _, _, _, _, _, _] rfl rfl rfl rfl rfl (C rfl) (C rfl) rfl rfl ?_
       intro h43 M44
       replace M44 : Mem _ _ ([(p4, _)] :: [(p1, _)] :: []) _ := M44
       refine D rfl rfl ?_
       refine X (M44.focus 0 rfl) [_, _, _, _, _, _, _, _] [_, _, _, _, _, _, _, _, _, _, _, _, _, _, _, _] rfl rfl rfl rfl rfl (C rfl) (C rfl) rfl rfl ?_
       intro h45 M46
       replace M46 : Mem _ _ ([(p4, _)] :: [(p1, _)] :: []) _ := M46
       refine D rfl rfl ?_
       refine X (M46.focus 0 rfl) [_] [_, _, _, _, _, _, _, _, _, _, _, _, _, _, _, _] rfl rfl rfl rfl rfl (C rfl) (C rfl) rfl rfl ?_
       intro h47 M48
       replace M48 : Mem _ _ ([(p4, _)] :: [(p1, _)] :: []) _ := M48
       refine F [(3, _), (4, _)] rfl ?_
       refine U (J (D rfl rfl (D rfl rfl (G rfl (G rfl (G rfl (D rfl rfl (D rfl rfl (F [(2, _)] rfl ?_)))))))))
       refine WC.ret (⟨[_], (res_tmp rfl res_nil), ?_⟩)
       first | exact ⟨mayOB_f (fun q => by have q2 := (mayO_1 (by omega)).1 q; first | omega | exact absurd q2 (by assumption) | exact absurd q2.2 (by assumption) | exact absurd q2.2.2 (by assumption) | exact absurd (AllS4.2 q2.2.1) (of_decide_eq_false (by assumption))), M48.bare.take 0⟩ | exact ⟨mayOB_f (fun q => by have q2 := (mayO_2 (by omega)).1 q; first | omega | exact absurd q2 (by assumption) | exact absurd q2.2 (by assumption) | exact absurd q2.2.2 (by assumption) | exact absurd (AllS4.2 q2.2.1) (of_decide_eq_false (by assumption))), M48.bare.take 0⟩ | exact ⟨mayOB_f (fun q => by have q2 := (mayO_3 (by omega)).1 q; first | omega | exact absurd q2 (by assumption) | exact absurd q2.2 (by assumption) | exact absurd q2.2.2 (by assumption) | exact absurd (AllS4.2 q2.2.1) (of_decide_eq_false (by assumption))), M48.bare.take 0⟩ | exact ⟨mayOB_f (fun q => by have q2 := (mayO_4 (by omega)).1 q; first | omega | exact absurd q2 (by assumption) | exact absurd q2.2 (by assumption) | exact absurd q2.2.2 (by assumption) | exact absurd (AllS4.2 q2.2.1) (of_decide_eq_false (by assumption))), M48.bare.take 0⟩ | exact ⟨mayOB_f (fun q => by have q2 := (mayO_5 (by omega)).1 q; first | omega | exact absurd q2 (by assumption) | exact absurd q2.2 (by assumption) | exact absurd q2.2.2 (by assumption) | exact absurd (AllS4.2 q2.2.1) (of_decide_eq_false (by assumption))), M48.bare.take 0⟩ | exact ⟨mayOB_f (fun q => by have q2 := q.1; omega), M48.bare.take 0⟩
     ·
      refine D rfl rfl (D rfl rfl (G rfl (G rfl (G rfl (D rfl rfl (D rfl rfl (F [(3, _), (4, _)] rfl ?_)))))))
      refine J (WS.opV (.agg #[(.int .u8 (0 : Int)), (.int .u8 (0 : Int)), (.int .u8 (0 : Int)), (.int .u8 (0 : Int)), (.int .u8 (0 : Int)), (.int .u8 (0 : Int)), (.int .u8 (0 : Int)), (.int .u8 (0 : Int))]) rfl rfl rfl (D rfl rfl ?_))
      refine X (M10.focus 0 rfl) [_] [_, _, _, _, _, _, _, _, _, _, _, _, _, _, _, _] rfl rfl rfl rfl rfl (C rfl) (C rfl) rfl rfl ?_
      intro h49 M50
      replace M50 : Mem _ _ ([(p4, _)] :: [(p1, _)] :: []) _ := M50
      refine D rfl rfl ?_
      refine X (M50.focus 0 rfl) [_, _, _, _, _, _, _, _] [_, _, _, _, _, _, _, _, _, _, _, _, _, _, _, _] rfl rfl rfl rfl rfl (C rfl) (C rfl) rfl rfl ?_
      intro h51 M52
      replace M52 : Mem _ _ ([(p4, _)] :: [(p1, _)] :: []) _ := M52
      refine D rfl rfl ?_
      refine X (M52.focus 0 rfl) [_] [_, _, _, _, _, _, _, _, _, _, _, _, _, _, _, _] rfl rfl rfl rfl rfl (C rfl) (C rfl) rfl rfl ?_
      intro h53 M54
      replace M54 : Mem _ _ ([(p4, _)] :: [(p1, _)] :: []) _ := M54
      refine F [(3, _), (4, _)] rfl ?_
      refine U (J (D rfl rfl (D rfl rfl (G rfl (G rfl (G rfl (D rfl rfl (D rfl rfl (F [(2, _)] rfl ?_)))))))))
      refine WC.ret (⟨[_], (res_tmp rfl res_nil), ?_⟩)
      first | exact ⟨mayOB_f (fun q => by have q2 := (mayO_1 (by omega)).1 q; first | omega | exact absurd q2 (by assumption) | exact absurd q2.2 (by assumption) | exact absurd q2.2.2 (by assumption) | exact absurd (AllS4.2 q2.2.1) (of_decide_eq_false (by assumption))), M54.bare.take 0⟩ | exact ⟨mayOB_f (fun q => by have q2 := (mayO_2 (by omega)).1 q; first | omega | exact absurd q2 (by assumption) | exact absurd q2.2 (by assumption) | exact absurd q2.2.2 (by assumption) | exact absurd (AllS4.2 q2.2.1) (of_decide_eq_false (by assumption))), M54.bare.take 0⟩ | exact ⟨mayOB_f (fun q => by have q2 := (mayO_3 (by omega)).1 q; first | omega | exact absurd q2 (by assumption) | exact absurd q2.2 (by assumption) | exact absurd q2.2.2 (by assumption) | exact absurd (AllS4.2 q2.2.1) (of_decide_eq_false (by assumption))), M54.bare.take 0⟩ | exact ⟨mayOB_f (fun q => by have q2 := (mayO_4 (by omega)).1 q; first | omega | exact absurd q2 (by assumption) | exact absurd q2.2 (by assumption) | exact absurd q2.2.2 (by assumption) | exact absurd (AllS4.2 q2.2.1) (of_decide_eq_false (by assumption))), M54.bare.take 0⟩ | exact ⟨mayOB_f (fun q => by have q2 := (mayO_5 (by omega)).1 q; first | omega | exact absurd q2 (by assumption) | exact absurd q2.2 (by assumption) | exact absurd q2.2.2 (by assumption) | exact absurd (AllS4.2 q2.2.1) (of_decide_eq_false (by assumption))), M54.bare.take 0⟩ | exact ⟨mayOB_f (fun q => by have q2 := q.1; omega), M54.bare.take 0⟩
    ·
     refine D rfl rfl (G rfl (G rfl (G rfl (D rfl rfl (D rfl rfl (G rfl (G rfl (G rfl (D rfl rfl ?_)))))))))
     refine D rfl rfl (F [(3, _), (4, _)] rfl ?_)
     refine J (WS.opV (.agg #[(.int .u8 (0 : Int)), (.int .u8 (0 : Int)), (.int .u8 (0 : Int)), (.int .u8 (0 : Int)), (.int .u8 (0 : Int)), (.int .u8 (0 : Int)), (.int .u8 (0 : Int)), (.int .u8 (0 : Int))]) rfl rfl rfl (D rfl rfl ?_))
     refine X (M10.focus 0 rfl) [_] [_, _, _, _, _, _, _, _, _, _, _, _, _, _, _, _] rfl rfl rfl rfl rfl (C rfl) (C rfl) rfl rfl ?_
     intro h55 M56
     replace M56 : Mem _ _ ([(p4, _)] :: [(p1, _)] :: []) _ := M56
     refine D rfl rfl ?_
     refine X (M56.focus 0 rfl) [_, _, _, _, _, _, _, _] [_, _, _, _, _, _, _, _, _, _, _, _, _, _, _, _] rfl rfl rfl rfl rfl (C rfl) (C rfl) rfl rfl ?_
     intro h57 M58
     replace M58 : Mem _ _ ([(p4, _)] :: [(p1, _)] :: []) _ := M58
     refine D rfl rfl ?_
     refine X (M58.focus 0 rfl) [_] [_, _, _, _, _, _, _, _, _, _, _, _, _, _, _, _] rfl rfl rfl rfl rfl (C rfl) (C rfl) rfl rfl ?_
     intro h59 M60
     replace M60 : Mem _ _ ([(p4, _)] :: [(p1, _)] :: []) _ := M60
     refine F [(3, _), (4, _)] rfl ?_
     refine U (J (D rfl rfl (D rfl rfl (G rfl (G rfl (G rfl (D rfl rfl (D rfl rfl (F [(2, _)] rfl ?_)))))))))
     refine WC.ret (⟨[_], (res_tmp rfl res_nil), ?_⟩)
     first | exact ⟨mayOB_f (fun q => by have q2 := (mayO_1 (by omega)).1 q; first | omega | exact absurd q2 (by assumption) | exact absurd q2.2 (by assumption) | exact absurd q2.2.2 (by assumption) | exact absurd (AllS4.2 q2.2.1) (of_decide_eq_false (by assumption))), M60.bare.take 0⟩ | exact ⟨mayOB_f (fun q => by have q2 := (mayO_2 (by omega)).1 q; first | omega | exact absurd q2 (by assumption) | exact absurd q2.2 (by assumption) | exact absurd q2.2.2 (by assumption) | exact absurd (AllS4.2 q2.2.1) (of_decide_eq_false (by assumption))), M60.bare.take 0⟩ | exact ⟨mayOB_f (fun q => by have q2 := (mayO_3 (by omega)).1 q; first | omega | exact absurd q2 (by assumption) | exact absurd q2.2 (by assumption) | exact absurd q2.2.2 (by assumption) | exact absurd (AllS4.2 q2.2.1) (of_decide_eq_false (by assumption))), M60.bare.take 0⟩ | exact ⟨mayOB_f (fun q => by have q2 := (mayO_4 (by omega)).1 q; first | omega | exact absurd q2 (by assumption) | exact absurd q2.2 (by assumption) | exact absurd q2.2.2 (by assumption) | exact absurd (AllS4.2 q2.2.1) (of_decide_eq_false (by assumption))), M60.bare.take 0⟩ | exact ⟨mayOB_f (fun q => by have q2 := (mayO_5 (by omega)).1 q; first | omega | exact absurd q2 (by assumption) | exact absurd q2.2 (by assumption) | exact absurd q2.2.2 (by assumption) | exact absurd (AllS4.2 q2.2.1) (of_decide_eq_false (by assumption))), M60.bare.take 0⟩ | exact ⟨mayOB_f (fun q => by have q2 := q.1; omega), M60.bare.take 0⟩
   ·
    refine D rfl rfl (F [(1, _), (3, _), (4, _), (8, _), (31, _)] rfl ?_)
    refine WC.condF rfl (U (J (WS.eqlN (a := (o.op).toNat) (b := 3) rfl rfl rfl (fun e51 => ?_) (fun e51 => ?_))))
    ·
     refine D rfl rfl (F [(1, _), (3, _), (4, _), (8, _), (50, _)] rfl ?_)
     refine WC.condT rfl (J (WS.opV (.agg #[(.int .u8 (0 : Int)), (.int .u8 (0 : Int)), (.int .u8 (0 : Int)), (.int .u8 (0 : Int)), (.int .u8 (0 : Int)), (.int .u8 (0 : Int)), (.int .u8 (0 : Int)), (.int .u8 (0 : Int))]) rfl rfl rfl (D rfl rfl ?_)))
     refine X (M10.focus 0 rfl) [_, _, _, _, _, _, _, _] [_, _, _, _, _, _, _, _, _, _, _, _, _, _, _, _] rfl rfl rfl rfl rfl (C rfl) (C rfl) rfl rfl ?_
     intro h61 M62
     replace M62 : Mem _ _ ([(p4, _)] :: [(p1, _)] :: []) _ := M62
     refine F [(3, _), (4, _)] rfl ?_
     refine U (J (D rfl rfl (D rfl rfl (D rfl (op_lds [_, _, _, _, _, _, _, _, _, _, _, _, _, _, _, _] (M62.at 0 rfl) rfl (C rfl) rfl) (WS.opV (.agg #[(.int .u8 (0 : Int)), (.int .u8 (0 : Int)), (.int .u8 (0 : Int)), (.int .u8 (0 : Int)), (.int .u8 (0 : Int)), (.int .u8 (0 : Int)), (.int .u8 (0 : Int)), (.int .u8 (0 : Int)), (.int .u8 (0 : Int)), (.int .u8 (0 : Int)), (.int .u8 (0 : Int)), (.int .i64 (0 : Int)), (.int .i64 (0 : Int)), (.int .i64 (0 : Int)), (.int .i64 (0 : Int)), (.int .u8 (0 : Int))]) rfl rfl rfl ?_)))))
     refine WS.eqqD (p := (⟨0, o.sl, 0, 0, 0, 0, 0, 0, 0, 0, o.ro, o.ks, o.bt, o.ra, o.bu, o.nd⟩ : Oper) = (⟨0, 0, 0, 0, 0, 0, 0, 0, 0, 0, 0, 0, 0, 0, 0, 0⟩ : Oper)) rfl rfl rfl (Oper_eqV (⟨0, o.sl, 0, 0, 0, 0, 0, 0, 0, 0, o.ro, o.ks, o.bt, o.ra, o.bu, o.nd⟩ : Oper) (⟨0, 0, 0, 0, 0, 0, 0, 0, 0, 0, 0, 0, 0, 0, 0, 0⟩ : Oper)) (fun e77 => ?_) (fun e77 => ?_)
     ·
      refine D rfl rfl (D rfl rfl (F [(2, _)] rfl ?_))
      refine WC.ret (⟨[_], (res_tmp rfl res_nil), ?_⟩)
      first | exact ⟨mayOB_t ((mayO_1 (by omega)).2 ⟨by omega, AllS4.1 (of_decide_eq_true (by assumption)), by assumption⟩), M62.bare.take 0⟩ | exact ⟨mayOB_t ((mayO_2 (by omega)).2 ⟨by omega, by omega, by assumption⟩), M62.bare.take 0⟩ | exact ⟨mayOB_t ((mayO_3 (by omega)).2 (by assumption)), M62.bare.take 0⟩ | exact ⟨mayOB_t ((mayO_4 (by omega)).2 ⟨by omega, by assumption⟩), M62.bare.take 0⟩ | exact ⟨mayOB_t ((mayO_5 (by omega)).2 ⟨by omega, by assumption⟩), M62.bare.take 0⟩
     ·
      refine D rfl rfl (D rfl rfl (F [(2, _)] rfl ?_))
      refine WC.ret (⟨[_], (res_tmp rfl res_nil), ?_⟩)
      first | exact ⟨mayOB_f (fun q => by have q2 := (mayO_1 (by omega)).1 q; first | omega | exact absurd q2 (by assumption) | exact absurd q2.2 (by assumption) | exact absurd q2.2.2 (by assumption) | exact absurd (AllS4.2 q2.2.1) (of_decide_eq_false (by assumption))), M62.bare.take 0⟩ | exact ⟨mayOB_f (fun q => by have q2 := (mayO_2 (by omega)).1 q; first | omega | exact absurd q2 (by assumption) | exact absurd q2.2 (by assumption) | exact absurd q2.2.2 (by assumption) | exact absurd (AllS4.2 q2.2.1) (of_decide_eq_false (by assumption))), M62.bare.take 0⟩ | exact ⟨mayOB_f (fun q => by have q2 := (mayO_3 (by omega)).1 q; first | omega | exact absurd q2 (by assumption) | exact absurd q2.2 (by assumption) | exact absurd q2.2.2 (by assumption) | exact absurd (AllS4.2 q2.2.1) (of_decide_eq_false (by assumption))), M62.bare.take 0⟩ | exact ⟨mayOB_f (fun q => by have q2 := (mayO_4 (by omega)).1 q; first | omega | exact absurd q2 (by assumption) | exact absurd q2.2 (by assumption) | exact absurd q2.2.2 (by assumption) | exact absurd (AllS4.2 q2.2.1) (of_decide_eq_false (by assumption))), M62.bare.take 0⟩ | exact ⟨mayOB_f (fun q => by have q2 := (mayO_5 (by omega)).1 q; first | omega | exact absurd q2 (by assumption) | exact absurd q2.2 (by assumption) | exact absurd q2.2.2 (by assumption) | exact absurd (AllS4.2 q2.2.1) (of_decide_eq_false (by assumption))), M62.bare.take 0⟩ | exact ⟨mayOB_f (fun q => by have q2 := q.1; omega), M62.bare.take 0⟩
    ·
     refine D rfl rfl (F [(1, _), (3, _), (4, _), (8, _), (50, _)] rfl ?_)
     refine WC.condF rfl (U (J (WS.eqlN (a := (o.op).toNat) (b := 4) rfl rfl rfl (fun e55 => ?_) (fun e55 => ?_))))
     ·
      refine D rfl rfl (F [(1, _), (3, _), (8, _), (54, _)] rfl ?_)
      refine WC.condT rfl (U (J (D rfl rfl (D rfl (op_ld (M10.at 1 rfl) rfl rfl) ?_))))
      refine WS.lssN (a := (o.sl).toNat) (b := 4) rfl rfl rfl (fun e58 => ?_) (fun e58 => ?_)
      ·
       refine D rfl rfl (F [(3, _), (4, _)] rfl ?_)
       refine J (D rfl rfl ?_)
       refine X (M10.focus 0 rfl) [_] [_, _, _, _, _, _, _, _, _, _, _, _, _, _, _, _] rfl rfl rfl rfl rfl (C rfl) (C rfl) rfl rfl ?_
       intro h63 M64
       replace M64 : Mem _ _ ([(p4, _)] :: [(p1, _)] :: []) _ := M64
       refine F [(3, _), (4, _)] rfl ?_
       refine U (J (D rfl rfl (D rfl rfl (D rfl (op_lds [_, _, _, _, _, _, _, _, _, _, _, _, _, _, _, _] (M64.at 0 rfl) rfl (C rfl) rfl) (WS.opV (.agg #[(.int .u8 (0 : Int)), (.int .u8 (0 : Int)), (.int .u8 (0 : Int)), (.int .u8 (0 : Int)), (.int .u8 (0 : Int)), (.int .u8 (0 : Int)), (.int .u8 (0 : Int)), (.int .u8 (0 : Int)), (.int .u8 (0 : Int)), (.int .u8 (0 : Int)), (.int .u8 (0 : Int)), (.int .i64 (0 : Int)), (.int .i64 (0 : Int)), (.int .i64 (0 : Int)), (.int .i64 (0 : Int)), (.int .u8 (0 : Int))]) rfl rfl rfl ?_)))))
       refine WS.eqqD (p := (⟨0, 0, o.t0, o.t1, o.t2, o.t3, o.t4, o.t5, o.t6, o.t7, o.ro, o.ks, o.bt, o.ra, o.bu, o.nd⟩ : Oper) = (⟨0, 0, 0, 0, 0, 0, 0, 0, 0, 0, 0, 0, 0, 0, 0, 0⟩ : Oper)) rfl rfl rfl (Oper_eqV (⟨0, 0, o.t0, o.t1, o.t2, o.t3, o.t4, o.t5, o.t6, o.t7, o.ro, o.ks, o.bt, o.ra, o.bu, o.nd⟩ : Oper) (⟨0, 0, 0, 0, 0, 0, 0, 0, 0, 0, 0, 0, 0, 0, 0, 0⟩ : Oper)) (fun e77 => ?_) (fun e77 => ?_)
       ·
        refine D rfl rfl (D rfl rfl (F [(2, _)] rfl ?_))
        refine WC.ret (⟨[_], (res_tmp rfl res_nil), ?_⟩)
        first | exact ⟨mayOB_t ((mayO_1 (by omega)).2 ⟨by omega, AllS4.1 (of_decide_eq_true (by assumption)), by assumption⟩), M64.bare.take 0⟩ | exact ⟨mayOB_t ((mayO_2 (by omega)).2 ⟨by omega, by omega, by assumption⟩), M64.bare.take 0⟩ | exact ⟨mayOB_t ((mayO_3 (by omega)).2 (by assumption)), M64.bare.take 0⟩ | exact ⟨mayOB_t ((mayO_4 (by omega)).2 ⟨by omega, by assumption⟩), M64.bare.take 0⟩ | exact ⟨mayOB_t ((mayO_5 (by omega)).2 ⟨by omega, by assumption⟩), M64.bare.take 0⟩
       ·
        refine D rfl rfl (D rfl rfl (F [(2, _)] rfl ?_))
        refine WC.ret (⟨[_], (res_tmp rfl res_nil), ?_⟩)
        first | exact ⟨mayOB_f (fun q => by have q2 := (mayO_1 (by omega)).1 q; first | omega | exact absurd q2 (by assumption) | exact absurd q2.2 (by assumption) | exact absurd q2.2.2 (by assumption) | exact absurd (AllS4.2 q2.2.1) (of_decide_eq_false (by assumption))), M64.bare.take 0⟩ | exact ⟨mayOB_f (fun q => by have q2 := (mayO_2 (by omega)).1 q; first | omega | exact absurd q2 (by assumption) | exact absurd q2.2 (by assumption) | exact absurd q2.2.2 (by assumption) | exact absurd (AllS4.2 q2.2.1) (of_decide_eq_false (by assumption))), M64.bare.take 0⟩ | exact ⟨mayOB_f (fun q => by have q2 := (mayO_3 (by omega)).1 q; first | omega | exact absurd q2 (by assumption) | exact absurd q2.2 (by assumption) | exact absurd q2.2.2 (by assumption) | exact absurd (AllS4.2 q2.2.1) (of_decide_eq_false (by assumption))), M64.bare.take 0⟩ | exact ⟨mayOB_f (fun q => by have q2 := (mayO_4 (by omega)).1 q; first | omega | exact absurd q2 (by assumption) | exact absurd q2.2 (by assumption) | exact absurd q2.2.2 (by assumption) | exact absurd (AllS4.2 q2.2.1) (of_decide_eq_false (by assumption))), M64.bare.take 0⟩ | exact ⟨mayOB_f (fun q => by have q2 := (mayO_5 (by omega)).1 q; first | omega | exact absurd q2 (by assumption) | exact absurd q2.2 (by assumption) | exact absurd q2.2.2 (by assumption) | exact absurd (AllS4.2 q2.2.1) (of_decide_eq_false (by assumption))), M64.bare.take 0⟩ | exact ⟨mayOB_f (fun q => by have q2 := q.1; omega), M64.bare.take 0⟩
      ·
       refine D rfl rfl (F [(3, _), (4, _)] rfl ?_)
       refine J (D rfl rfl ?_)
       refine X (M10.focus 0 rfl) [_] [_, _, _, _, _, _, _, _, _, _, _, _, _, _, _, _] rfl rfl rfl rfl rfl (C rfl) (C rfl) rfl rfl ?_
       intro h65 M66
       replace M66 : Mem _ _ ([(p4, _)] :: [(p1, _)] :: []) _ := M66
       refine F [(3, _), (4, _)] rfl ?_
       refine U (J (D rfl rfl (D rfl rfl (G rfl (G rfl (G rfl (D rfl rfl (D rfl rfl (F [(2, _)] rfl ?_)))))))))
       refine WC.ret (⟨[_], (res_tmp rfl res_nil), ?_⟩)
       first | exact ⟨mayOB_f (fun q => by have q2 := (mayO_1 (by omega)).1 q; first | omega | exact absurd q2 (by assumption) | exact absurd q2.2 (by assumption) | exact absurd q2.2.2 (by assumption) | exact absurd (AllS4.2 q2.2.1) (of_decide_eq_false (by assumption))), M66.bare.take 0⟩ | exact ⟨mayOB_f (fun q => by have q2 := (mayO_2 (by omega)).1 q; first | omega | exact absurd q2 (by assumption) | exact absurd q2.2 (by assumption) | exact absurd q2.2.2 (by assumption) | exact absurd (AllS4.2 q2.2.1) (of_decide_eq_false (by assumption))), M66.bare.take 0⟩ | exact ⟨mayOB_f (fun q => by have q2 := (mayO_3 (by omega)).1 q; first | omega | exact absurd q2 (by assumption) | exact absurd q2.2 (by assumption) | exact absurd q2.2.2 (by assumption) | exact absurd (AllS4.2 q2.2.1) (of_decide_eq_false (by assumption))), M66.bare.take 0⟩ | exact ⟨mayOB_f (fun q => by have q2 := (mayO_4 (by omega)).1 q; first | omega | exact absurd q2 (by assumption) | exact absurd q2.2 (by assumption) | exact absurd q2.2.2 (by assumption) | exact absurd (AllS4.2 q2.2.1) (of_decide_eq_false (by assumption))), M66.bare.take 0⟩ | exact ⟨mayOB_f (fun q => by have q2 := (mayO_5 (by omega)).1 q; first | omega | exact absurd q2 (by assumption) | exact absurd q2.2 (by assumption) | exact absurd q2.2.2 (by assumption) | exact absurd (AllS4.2 q2.2.1) (of_decide_eq_false (by assumption))), M66.bare.take 0⟩ | exact ⟨mayOB_f (fun q => by have q2 := q.1; omega), M66.bare.take 0⟩
     ·
      refine D rfl rfl (F [(1, _), (3, _), (8, _), (54, _)] rfl ?_)
      refine WC.condF rfl (U (U (J (WS.eqlN (a := (o.op).toNat) (b := 5) rfl rfl rfl (fun e61 => ?_) (fun e61 => ?_)))))
      ·
       refine D rfl rfl (F [(1, _), (3, _), (8, _), (60, _)] rfl ?_)
       refine WC.condT rfl (WC.skip (WC.condT rfl (U (J (D rfl rfl (D rfl (op_ld (M10.at 1 rfl) rfl rfl) ?_))))))
       refine WS.geqN (a := (o.nd).toNat) (b := 1) rfl rfl rfl (fun e66 => ?_) (fun e66 => ?_)
       ·
        refine D rfl rfl (D rfl rfl (D rfl (op_ld (M10.at 1 rfl) rfl rfl) ?_))
        refine WS.leqN (a := (o.nd).toNat) (b := 5) rfl rfl rfl (fun e70 => ?_) (fun e70 => ?_)
        ·
         refine D rfl rfl (D rfl rfl (F [(3, _), (4, _)] rfl ?_))
         refine J (D rfl rfl ?_)
         refine X (M10.focus 0 rfl) [_] [_, _, _, _, _, _, _, _, _, _, _, _, _, _, _, _] rfl rfl rfl rfl rfl (C rfl) (C rfl) rfl rfl ?_
         intro h67 M68
         replace M68 : Mem _ _ ([(p4, _)] :: [(p1, _)] :: []) _ := M68
         refine F [(3, _), (4, _)] rfl ?_
         refine U (J (D rfl rfl (D rfl rfl (D rfl (op_lds [_, _, _, _, _, _, _, _, _, _, _, _, _, _, _, _] (M68.at 0 rfl) rfl (C rfl) rfl) (WS.opV (.agg #[(.int .u8 (0 : Int)), (.int .u8 (0 : Int)), (.int .u8 (0 : Int)), (.int .u8 (0 : Int)), (.int .u8 (0 : Int)), (.int .u8 (0 : Int)), (.int .u8 (0 : Int)), (.int .u8 (0 : Int)), (.int .u8 (0 : Int)), (.int .u8 (0 : Int)), (.int .u8 (0 : Int)), (.int .i64 (0 : Int)), (.int .i64 (0 : Int)), (.int .i64 (0 : Int)), (.int .i64 (0 : Int)), (.int .u8 (0 : Int))]) rfl rfl rfl ?_)))))
         refine WS.eqqD (p := (⟨0, o.sl, o.t0, o.t1, o.t2, o.t3, o.t4, o.t5, o.t6, o.t7, o.ro, o.ks, o.bt, o.ra, o.bu, 0⟩ : Oper) = (⟨0, 0, 0, 0, 0, 0, 0, 0, 0, 0, 0, 0, 0, 0, 0, 0⟩ : Oper)) rfl rfl rfl (Oper_eqV (⟨0, o.sl, o.t0, o.t1, o.t2, o.t3, o.t4, o.t5, o.t6, o.t7, o.ro, o.ks, o.bt, o.ra, o.bu, 0⟩ : Oper) (⟨0, 0, 0, 0, 0, 0, 0, 0, 0, 0, 0, 0, 0, 0, 0, 0⟩ : Oper)) (fun e77 => ?_) (fun e77 => ?_)
         ·
          refine D rfl rfl (D rfl rfl (F [(2, _)] rfl ?_))
          refine WC.ret (⟨[_], (res_tmp rfl res_nil), ?_⟩)
          first | exact ⟨mayOB_t ((mayO_1 (by omega)).2 ⟨by omega, AllS4.1 (of_decide_eq_true (by assumption)), by assumption⟩), M68.bare.take 0⟩ | exact ⟨mayOB_t ((mayO_2 (by omega)).2 ⟨by omega, by omega, by assumption⟩), M68.bare.take 0⟩ | exact ⟨mayOB_t ((mayO_3 (by omega)).2 (by assumption)), M68.bare.take 0⟩ | exact ⟨mayOB_t ((mayO_4 (by omega)).2 ⟨by omega, by assumption⟩), M68.bare.take 0⟩ | exact ⟨mayOB_t ((mayO_5 (by omega)).2 ⟨by omega, by assumption⟩), M68.bare.take 0⟩
         ·
          refine D rfl rfl (D rfl rfl (F [(2, _)] rfl ?_))
          refine WC.ret (⟨[_], (res_tmp rfl res_nil), ?_⟩)
          first | exact ⟨mayOB_f (fun q => by have q2 := (mayO_1 (by omega)).1 q; first | omega | exact absurd q2 (by assumption) | exact absurd q2.2 (by assumption) | exact absurd q2.2.2 (by assumption) | exact absurd (AllS4.2 q2.2.1) (of_decide_eq_false (by assumption))), M68.bare.take 0⟩ | exact ⟨mayOB_f (fun q => by have q2 := (mayO_2 (by omega)).1 q; first | omega | exact absurd q2 (by assumption) | exact absurd q2.2 (by assumption) | exact absurd q2.2.2 (by assumption) | exact absurd (AllS4.2 q2.2.1) (of_decide_eq_false (by assumption))), M68.bare.take 0⟩ | exact ⟨mayOB_f (fun q => by have q2 := (mayO_3 (by omega)).1 q; first | omega | exact absurd q2 (by assumption) | exact absurd q2.2 (by assumption) | exact absurd q2.2.2 (by assumption) | exact absurd (AllS4.2 q2.2.1) (of_decide_eq_false (by assumption))), M68.bare.take 0⟩ | exact ⟨mayOB_f (fun q => by have q2 := (mayO_4 (by omega)).1 q; first | omega | exact absurd q2 (by assumption) | exact absurd q2.2 (by assumption) | exact absurd q2.2.2 (by assumption) | exact absurd (AllS4.2 q2.2.1) (of_decide_eq_false (by assumption))), M68.bare.take 0⟩ | exact ⟨mayOB_f (fun q => by have q2 := (mayO_5 (by omega)).1 q; first | omega | exact absurd q2 (by assumption) | exact absurd q2.2 (by assumption) | exact absurd q2.2.2 (by assumption) | exact absurd (AllS4.2 q2.2.1) (of_decide_eq_false (by assumption))), M68.bare.take 0⟩ | exact ⟨mayOB_f (fun q => by have q2 := q.1; omega), M68.bare.take 0⟩
        ·
         refine D rfl rfl (D rfl rfl (F [(3, _), (4, _)] rfl ?_))
         refine J (D rfl rfl ?_)
         refine X (M10.focus 0 rfl) [_] [_, _, _, _, _, _, _, _, _, _, _, _, _, _, _, _] rfl rfl rfl rfl rfl (C rfl) (C rfl) rfl rfl ?_
         intro h69 M70
         replace M70 : Mem _ _ ([(p4, _)] :: [(p1, _)] :: []) _ := M70
         refine F [(3, _), (4, _)] rfl ?_
         refine U (J (D rfl rfl (D rfl rfl (G rfl (G rfl (G rfl (D rfl rfl (D rfl rfl (F [(2, _)] rfl ?_)))))))))
         refine WC.ret (⟨[_], (res_tmp rfl res_nil), ?_⟩)
         first | exact ⟨mayOB_f (fun q => by have q2 := (mayO_1 (by omega)).1 q; first | omega | exact absurd q2 (by assumption) | exact absurd q2.2 (by assumption) | exact absurd q2.2.2 (by assumption) | exact absurd (AllS4.2 q2.2.1) (of_decide_eq_false (by assumption))), M70.bare.take 0⟩ | exact ⟨mayOB_f (fun q => by have q2 := (mayO_2 (by omega)).1 q; first | omega | exact absurd q2 (by assumption) | exact absurd q2.2 (by assumption) | exact absurd q2.2.2 (by assumption) | exact absurd (AllS4.2 q2.2.1) (of_decide_eq_false (by assumption))), M70.bare.take 0⟩ | exact ⟨mayOB_f (fun q => by have q2 := (mayO_3 (by omega)).1 q; first | omega | exact absurd q2 (by assumption) | exact absurd q2.2 (by assumption) | exact absurd q2.2.2 (by assumption) | exact absurd (AllS4.2 q2.2.1) (of_decide_eq_false (by assumption))), M70.bare.take 0⟩ | exact ⟨mayOB_f (fun q => by have q2 := (mayO_4 (by omega)).1 q; first | omega | exact absurd q2 (by assumption) | exact absurd q2.2 (by assumption) | exact absurd q2.2.2 (by assumption) | exact absurd (AllS4.2 q2.2.1) (of_decide_eq_false (by assumption))), M70.bare.take 0⟩ | exact ⟨mayOB_f (fun q => by have q2 := (mayO_5 (by omega)).1 q; first | omega | exact absurd q2 (by assumption) | exact absurd q2.2 (by assumption) | exact absurd q2.2.2 (by assumption) | exact absurd (AllS4.2 q2.2.1) (of_decide_eq_false (by assumption))), M70.bare.take 0⟩ | exact ⟨mayOB_f (fun q => by have q2 := q.1; omega), M70.bare.take 0⟩
       ·
        refine D rfl rfl (G rfl (G rfl (G rfl (D rfl rfl (D rfl rfl (F [(3, _), (4, _)] rfl ?_))))))
        refine J (D rfl rfl ?_)
        refine X (M10.focus 0 rfl) [_] [_, _, _, _, _, _, _, _, _, _, _, _, _, _, _, _] rfl rfl rfl rfl rfl (C rfl) (C rfl) rfl rfl ?_
        intro h71 M72
        replace M72 : Mem _ _ ([(p4, _)] :: [(p1, _)] :: []) _ := M72
        refine F [(3, _), (4, _)] rfl ?_
        refine U (J (D rfl rfl (D rfl rfl (G rfl (G rfl (G rfl (D rfl rfl (D rfl rfl (F [(2, _)] rfl ?_)))))))))
        refine WC.ret (⟨[_], (res_tmp rfl res_nil), ?_⟩)
        first | exact ⟨mayOB_f (fun q => by have q2 := (mayO_1 (by omega)).1 q; first | omega | exact absurd q2 (by assumption) | exact absurd q2.2 (by assumption) | exact absurd q2.2.2 (by assumption) | exact absurd (AllS4.2 q2.2.1) (of_decide_eq_false (by assumption))), M72.bare.take 0⟩ | exact ⟨mayOB_f (fun q => by have q2 := (mayO_2 (by omega)).1 q; first | omega | exact absurd q2 (by assumption) | exact absurd q2.2 (by assumption) | exact absurd q2.2.2 (by assumption) | exact absurd (AllS4.2 q2.2.1) (of_decide_eq_false (by assumption))), M72.bare.take 0⟩ | exact ⟨mayOB_f (fun q => by have q2 := (mayO_3 (by omega)).1 q; first | omega | exact absurd q2 (by assumption) | exact absurd q2.2 (by assumption) | exact absurd q2.2.2 (by assumption) | exact absurd (AllS4.2 q2.2.1) (of_decide_eq_false (by assumption))), M72.bare.take 0⟩ | exact ⟨mayOB_f (fun q => by have q2 := (mayO_4 (by omega)).1 q; first | omega | exact absurd q2 (by assumption) | exact absurd q2.2 (by assumption) | exact absurd q2.2.2 (by assumption) | exact absurd (AllS4.2 q2.2.1) (of_decide_eq_false (by assumption))), M72.bare.take 0⟩ | exact ⟨mayOB_f (fun q => by have q2 := (mayO_5 (by omega)).1 q; first | omega | exact absurd q2 (by assumption) | exact absurd q2.2 (by assumption) | exact absurd q2.2.2 (by assumption) | exact absurd (AllS4.2 q2.2.1) (of_decide_eq_false (by assumption))), M72.bare.take 0⟩ | exact ⟨mayOB_f (fun q => by have q2 := q.1; omega), M72.bare.take 0⟩
      ·
       refine D rfl rfl (F [(1, _), (3, _), (8, _), (60, _)] rfl ?_)
       refine WC.condF rfl (U (J (WS.eqlN (a := (o.op).toNat) (b := 6) rfl rfl rfl (fun e62 => ?_) (fun e62 => ?_))))
       ·
        refine D rfl rfl (F [(1, _), (3, _), (8, _), (60, _)] rfl ?_)
        refine WC.condT rfl (WC.skip (WC.condT rfl (U (J (D rfl rfl (D rfl (op_ld (M10.at 1 rfl) rfl rfl) ?_))))))
        refine WS.geqN (a := (o.nd).toNat) (b := 1) rfl rfl rfl (fun e66 => ?_) (fun e66 => ?_)
        ·
         refine D rfl rfl (D rfl rfl (D rfl (op_ld (M10.at 1 rfl) rfl rfl) ?_))
         refine WS.leqN (a := (o.nd).toNat) (b := 5) rfl rfl rfl (fun e70 => ?_) (fun e70 => ?_)
         ·
          refine D rfl rfl (D rfl rfl (F [(3, _), (4, _)] rfl ?_))
          refine J (D rfl rfl ?_)
          refine X (M10.focus 0 rfl) [_] [_, _, _, _, _, _, _, _, _, _, _, _, _, _, _, _] rfl rfl rfl rfl rfl (C rfl) (C rfl) rfl rfl ?_
          intro h73 M74
          replace M74 : Mem _ _ ([(p4, _)] :: [(p1, _)] :: []) _ := M74
          refine F [(3, _), (4, _)] rfl ?_
          refine U (J (D rfl rfl (D rfl rfl (D rfl (op_lds [_, _, _, _, _, _, _, _, _, _, _, _, _, _, _, _] (M74.at 0 rfl) rfl (C rfl) rfl) (WS.opV (.agg #[(.int .u8 (0 : Int)), (.int .u8 (0 : Int)), (.int .u8 (0 : Int)), (.int .u8 (0 : Int)), (.int .u8 (0 : Int)), (.int .u8 (0 : Int)), (.int .u8 (0 : Int)), (.int .u8 (0 : Int)), (.int .u8 (0 : Int)), (.int .u8 (0 : Int)), (.int .u8 (0 : Int)), (.int .i64 (0 : Int)), (.int .i64 (0 : Int)), (.int .i64 (0 : Int)), (.int .i64 (0 : Int)), (.int .u8 (0 : Int))]) rfl rfl rfl ?_)))))
          refine WS.eqqD (p := (⟨0, o.sl, o.t0, o.t1, o.t2, o.t3, o.t4, o.t5, o.t6, o.t7, o.ro, o.ks, o.bt, o.ra, o.bu, 0⟩ : Oper) = (⟨0, 0, 0, 0, 0, 0, 0, 0, 0, 0, 0, 0, 0, 0, 0, 0⟩ : Oper)) rfl rfl rfl (Oper_eqV (⟨0, o.sl, o.t0, o.t1, o.t2, o.t3, o.t4, o.t5, o.t6, o.t7, o.ro, o.ks, o.bt, o.ra, o.bu, 0⟩ : Oper) (⟨0, 0, 0, 0, 0, 0, 0, 0, 0, 0, 0, 0, 0, 0, 0, 0⟩ : Oper)) (fun e77 => ?_) (fun e77 => ?_)
          ·
           refine D rfl rfl (D rfl rfl (F [(2, _)] rfl ?_))
           refine WC.ret (⟨[_], (res_tmp rfl res_nil), ?_⟩)
           first | exact ⟨mayOB_t ((mayO_1 (by omega)).2 ⟨by omega, AllS4.1 (of_decide_eq_true (by assumption)), by assumption⟩), M74.bare.take 0⟩ | exact ⟨mayOB_t ((mayO_2 (by omega)).2 ⟨by omega, by omega, by assumption⟩), M74.bare.take 0⟩ | exact ⟨mayOB_t ((mayO_3 (by omega)).2 (by assumption)), M74.bare.take 0⟩ | exact ⟨mayOB_t ((mayO_4 (by omega)).2 ⟨by omega, by assumption⟩), M74.bare.take 0⟩ | exact ⟨mayOB_t ((mayO_5 (by omega)).2 ⟨by omega, by assumption⟩), M74.bare.take 0⟩
          ·
           refine D rfl rfl (D rfl rfl (F [(2, _)] rfl ?_))
           refine WC.ret (⟨[_], (res_tmp rfl res_nil), ?_⟩)
           first | exact ⟨mayOB_f (fun q => by have q2 := (mayO_1 (by omega)).1 q; first | omega | exact absurd q2 (by assumption) | exact absurd q2.2 (by assumption) | exact absurd q2.2.2 (by assumption) | exact absurd (AllS4.2 q2.2.1) (of_decide_eq_false (by assumption))), M74.bare.take 0⟩ | exact ⟨mayOB_f (fun q => by have q2 := (mayO_2 (by omega)).1 q; first | omega | exact absurd q2 (by assumption) | exact absurd q2.2 (by assumption) | exact absurd q2.2.2 (by assumption) | exact absurd (AllS4.2 q2.2.1) (of_decide_eq_false (by assumption))), M74.bare.take 0⟩ | exact ⟨mayOB_f (fun q => by have q2 := (mayO_3 (by omega)).1 q; first | omega | exact absurd q2 (by assumption) | exact absurd q2.2 (by assumption) | exact absurd q2.2.2 (by assumption) | exact absurd (AllS4.2 q2.2.1) (of_decide_eq_false (by assumption))), M74.bare.take 0⟩ | exact ⟨mayOB_f (fun q => by have q2 := (mayO_4 (by omega)).1 q; first | omega | exact absurd q2 (by assumption) | exact absurd q2.2 (by assumption) | exact absurd q2.2.2 (by assumption) | exact absurd (AllS4.2 q2.2.1) (of_decide_eq_false (by assumption))), M74.bare.take 0⟩ | exact ⟨mayOB_f (fun q => by have q2 := (mayO_5 (by omega)).1 q; first | omega | exact absurd q2 (by assumption) | exact absurd q2.2 (by assumption) | exact absurd q2.2.2 (by assumption) | exact absurd (AllS4.2 q2.2.1) (of_decide_eq_false (by assumption))), M74.bare.take 0⟩ | exact ⟨mayOB_f (fun q => by have q2 := q.1; omega), M74.bare.take 0⟩
         ·
          refine D rfl rfl (D rfl rfl (F [(3, _), (4, _)] rfl ?_))
          refine J (D rfl rfl ?_)
          refine X (M10.focus 0 rfl) [_] [_, _, _, _, _, _, _, _, _, _, _, _, _, _, _, _] rfl rfl rfl rfl rfl (C rfl) (C rfl) rfl rfl ?_
          intro h75 M76
          replace M76 : Mem _ _ ([(p4, _)] :: [(p1, _)] :: []) _ := M76
          refine F [(3, _), (4, _)] rfl ?_
          refine U (J (D rfl rfl (D rfl rfl (G rfl (G rfl (G rfl (D rfl rfl (D rfl rfl (F [(2, _)] rfl ?_)))))))))
          refine WC.ret (⟨[_], (res_tmp rfl res_nil), ?_⟩)
          first | exact ⟨mayOB_f (fun q => by have q2 := (mayO_1 (by omega)).1 q; first | omega | exact absurd q2 (by assumption) | exact absurd q2.2 (by assumption) | exact absurd q2.2.2 (by assumption) | exact absurd (AllS4.2 q2.2.1) (of_decide_eq_false (by assumption))), M76.bare.take 0⟩ | exact ⟨mayOB_f (fun q => by have q2 := (mayO_2 (by omega)).1 q; first | omega | exact absurd q2 (by assumption) | exact absurd q2.2 (by assumption) | exact absurd q2.2.2 (by assumption) | exact absurd (AllS4.2 q2.2.1) (of_decide_eq_false (by assumption))), M76.bare.take 0⟩ | exact ⟨mayOB_f (fun q => by have q2 := (mayO_3 (by omega)).1 q; first | omega | exact absurd q2 (by assumption) | exact absurd q2.2 (by assumption) | exact absurd q2.2.2 (by assumption) | exact absurd (AllS4.2 q2.2.1) (of_decide_eq_false (by assumption))), M76.bare.take 0⟩ | exact ⟨mayOB_f (fun q => by have q2 := (mayO_4 (by omega)).1 q; first | omega | exact absurd q2 (by assumption) | exact absurd q2.2 (by assumption) | exact absurd q2.2.2 (by assumption) | exact absurd (AllS4.2 q2.2.1) (of_decide_eq_false (by assumption))), M76.bare.take 0⟩ | exact ⟨mayOB_f (fun q => by have q2 := (mayO_5 (by omega)).1 q; first | omega | exact absurd q2 (by assumption) | exact absurd q2.2 (by assumption) | exact absurd q2.2.2 (by assumption) | exact absurd (AllS4.2 q2.2.1) (of_decide_eq_false (by assumption))), M76.bare.take 0⟩ | exact ⟨mayOB_f (fun q => by have q2 := q.1; omega), M76.bare.take 0⟩
        ·
         refine D rfl rfl (G rfl (G rfl (G rfl (D rfl rfl (D rfl rfl (F [(3, _), (4, _)] rfl ?_))))))
         refine J (D rfl rfl ?_)
         refine X (M10.focus 0 rfl) [_] [_, _, _, _, _, _, _, _, _, _, _, _, _, _, _, _] rfl rfl rfl rfl rfl (C rfl) (C rfl) rfl rfl ?_
         intro h77 M78
         replace M78 : Mem _ _ ([(p4, _)] :: [(p1, _)] :: []) _ := M78
         refine F [(3, _), (4, _)] rfl ?_
         refine U (J (D rfl rfl (D rfl rfl (G rfl (G rfl (G rfl (D rfl rfl (D rfl rfl (F [(2, _)] rfl ?_)))))))))
         refine WC.ret (⟨[_], (res_tmp rfl res_nil), ?_⟩)
         first | exact ⟨mayOB_f (fun q => by have q2 := (mayO_1 (by omega)).1 q; first | omega | exact absurd q2 (by assumption) | exact absurd q2.2 (by assumption) | exact absurd q2.2.2 (by assumption) | exact absurd (AllS4.2 q2.2.1) (of_decide_eq_false (by assumption))), M78.bare.take 0⟩ | exact ⟨mayOB_f (fun q => by have q2 := (mayO_2 (by omega)).1 q; first | omega | exact absurd q2 (by assumption) | exact absurd q2.2 (by assumption) | exact absurd q2.2.2 (by assumption) | exact absurd (AllS4.2 q2.2.1) (of_decide_eq_false (by assumption))), M78.bare.take 0⟩ | exact ⟨mayOB_f (fun q => by have q2 := (mayO_3 (by omega)).1 q; first | omega | exact absurd q2 (by assumption) | exact absurd q2.2 (by assumption) | exact absurd q2.2.2 (by assumption) | exact absurd (AllS4.2 q2.2.1) (of_decide_eq_false (by assumption))), M78.bare.take 0⟩ | exact ⟨mayOB_f (fun q => by have q2 := (mayO_4 (by omega)).1 q; first | omega | exact absurd q2 (by assumption) | exact absurd q2.2 (by assumption) | exact absurd q2.2.2 (by assumption) | exact absurd (AllS4.2 q2.2.1) (of_decide_eq_false (by assumption))), M78.bare.take 0⟩ | exact ⟨mayOB_f (fun q => by have q2 := (mayO_5 (by omega)).1 q; first | omega | exact absurd q2 (by assumption) | exact absurd q2.2 (by assumption) | exact absurd q2.2.2 (by assumption) | exact absurd (AllS4.2 q2.2.1) (of_decide_eq_false (by assumption))), M78.bare.take 0⟩ | exact ⟨mayOB_f (fun q => by have q2 := q.1; omega), M78.bare.take 0⟩
       ·
        refine D rfl rfl (F [(1, _), (3, _), (8, _), (60, _)] rfl ?_)
        refine WC.condF rfl (J (WS.eqlN (a := (o.op).toNat) (b := 7) rfl rfl rfl (fun e63 => ?_) (fun e63 => ?_)))
        ·
         refine D rfl rfl (F [(1, _), (3, _), (60, _)] rfl ?_)
         refine WC.condT rfl (U (J (D rfl rfl (D rfl (op_ld (M10.at 1 rfl) rfl rfl) ?_))))
         refine WS.geqN (a := (o.nd).toNat) (b := 1) rfl rfl rfl (fun e66 => ?_) (fun e66 => ?_)
         ·
          refine D rfl rfl (D rfl rfl (D rfl (op_ld (M10.at 1 rfl) rfl rfl) ?_))
          refine WS.leqN (a := (o.nd).toNat) (b := 5) rfl rfl rfl (fun e70 => ?_) (fun e70 => ?_)
          ·
           refine D rfl rfl (D rfl rfl (F [(3, _), (4, _)] rfl ?_))
           refine J (D rfl rfl ?_)
           refine X (M10.focus 0 rfl) [_] [_, _, _, _, _, _, _, _, _, _, _, _, _, _, _, _] rfl rfl rfl rfl rfl (C rfl) (C rfl) rfl rfl ?_
           intro h79 M80
           replace M80 : Mem _ _ ([(p4, _)] :: [(p1, _)] :: []) _ := M80
           refine F [(3, _), (4, _)] rfl ?_
           refine U (J (D rfl rfl (D rfl rfl (D rfl (op_lds [_, _, _, _, _, _, _, _, _, _, _, _, _, _, _, _] (M80.at 0 rfl) rfl (C rfl) rfl) (WS.opV (.agg #[(.int .u8 (0 : Int)), (.int .u8 (0 : Int)), (.int .u8 (0 : Int)), (.int .u8 (0 : Int)), (.int .u8 (0 : Int)), (.int .u8 (0 : Int)), (.int .u8 (0 : Int)), (.int .u8 (0 : Int)), (.int .u8 (0 : Int)), (.int .u8 (0 : Int)), (.int .u8 (0 : Int)), (.int .i64 (0 : Int)), (.int .i64 (0 : Int)), (.int .i64 (0 : Int)), (.int .i64 (0 : Int)), (.int .u8 (0 : Int))]) rfl rfl rfl ?_)))))
           refine WS.eqqD (p := (⟨0, o.sl, o.t0, o.t1, o.t2, o.t3, o.t4, o.t5, o.t6, o.t7, o.ro, o.ks, o.bt, o.ra, o.bu, 0⟩ : Oper) = (⟨0, 0, 0, 0, 0, 0, 0, 0, 0, 0, 0, 0, 0, 0, 0, 0⟩ : Oper)) rfl rfl rfl (Oper_eqV (⟨0, o.sl, o.t0, o.t1, o.t2, o.t3, o.t4, o.t5, o.t6, o.t7, o.ro, o.ks, o.bt, o.ra, o.bu, 0⟩ : Oper) (⟨0, 0, 0, 0, 0, 0, 0, 0, 0, 0, 0, 0, 0, 0, 0, 0⟩ : Oper)) (fun e77 => ?_) (fun e77 => ?_)
           ·
            refine D rfl rfl (D rfl rfl (F [(2, _)] rfl ?_))
            refine WC.ret (⟨[_], (res_tmp rfl res_nil), ?_⟩)
            first | exact ⟨mayOB_t ((mayO_1 (by omega)).2 ⟨by omega, AllS4.1 (of_decide_eq_true (by assumption)), by assumption⟩), M80.bare.take 0⟩ | exact ⟨mayOB_t ((mayO_2 (by omega)).2 ⟨by omega, by omega, by assumption⟩), M80.bare.take 0⟩ | exact ⟨mayOB_t ((mayO_3 (by omega)).2 (by assumption)), M80.bare.take 0⟩ | exact ⟨mayOB_t ((mayO_4 (by omega)).2 ⟨by omega, by assumption⟩), M80.bare.take 0⟩ | exact ⟨mayOB_t ((mayO_5 (by omega)).2 ⟨by omega, by assumption⟩), M80.bare.take 0⟩
           ·
            refine D rfl rfl (D rfl rfl (F [(2, _)] rfl ?_))
            refine WC.ret (⟨[_], (res_tmp rfl res_nil), ?_⟩)
            first | exact ⟨mayOB_f (fun q => by have q2 := (mayO_1 (by omega)).1 q; first | omega | exact absurd q2 (by assumption) | exact absurd q2.2 (by assumption) | exact absurd q2.2.2 (by assumption) | exact absurd (AllS4.2 q2.2.1) (of_decide_eq_false (by assumption))), M80.bare.take 0⟩ | exact ⟨mayOB_f (fun q => by have q2 := (mayO_2 (by omega)).1 q; first | omega | exact absurd q2 (by assumption) | exact absurd q2.2 (by assumption) | exact absurd q2.2.2 (by assumption) | exact absurd (AllS4.2 q2.2.1) (of_decide_eq_false (by assumption))), M80.bare.take 0⟩ | exact ⟨mayOB_f (fun q => by have q2 := (mayO_3 (by omega)).1 q; first | omega | exact absurd q2 (by assumption) | exact absurd q2.2 (by assumption) | exact absurd q2.2.2 (by assumption) | exact absurd (AllS4.2 q2.2.1) (of_decide_eq_false (by assumption))), M80.bare.take 0⟩ | exact ⟨mayOB_f (fun q => by have q2 := (mayO_4 (by omega)).1 q; first | omega | exact absurd q2 (by assumption) | exact absurd q2.2 (by assumption) | exact absurd q2.2.2 (by assumption) | exact absurd (AllS4.2 q2.2.1) (of_decide_eq_false (by assumption))), M80.bare.take 0⟩ | exact ⟨mayOB_f (fun q => by have q2 := (mayO_5 (by omega)).1 q; first | omega | exact absurd q2 (by assumption) | exact absurd q2.2 (by assumption) | exact absurd q2.2.2 (by assumption) | exact absurd (AllS4.2 q2.2.1) (of_decide_eq_false (by assumption))), M80.bare.take 0⟩ | exact ⟨mayOB_f (fun q => by have q2 := q.1; omega), M80.bare.take 0⟩
          ·
           refine D rfl rfl (D rfl rfl (F [(3, _), (4, _)] rfl ?_))
           refine J (D rfl rfl ?_)
           refine X (M10.focus 0 rfl) [_] [_, _, _, _, _, _, _, _, _, _, _, _, _, _, _, _] rfl rfl rfl rfl rfl (C rfl) (C rfl) rfl rfl ?_
           intro h81 M82
           replace M82 : Mem _ _ ([(p4, _)] :: [(p1, _)] :: []) _ := M82
           refine F [(3, _), (4, _)] rfl ?_
           refine U (J (D rfl rfl (D rfl rfl (G rfl (G rfl (G rfl (D rfl rfl (D rfl rfl (F [(2, _)] rfl ?_)))))))))
           refine WC.ret (⟨[_], (res_tmp rfl res_nil), ?_⟩)
           first | exact ⟨mayOB_f (fun q => by have q2 := (mayO_1 (by omega)).1 q; first | omega | exact absurd q2 (by assumption) | exact absurd q2.2 (by assumption) | exact absurd q2.2.2 (by assumption) | exact absurd (AllS4.2 q2.2.1) (of_decide_eq_false (by assumption))), M82.bare.take 0⟩ | exact ⟨mayOB_f (fun q => by have q2 := (mayO_2 (by omega)).1 q; first | omega | exact absurd q2 (by assumption) | exact absurd q2.2 (by assumption) | exact absurd q2.2.2 (by assumption) | exact absurd (AllS4.2 q2.2.1) (of_decide_eq_false (by assumption))), M82.bare.take 0⟩ | exact ⟨mayOB_f (fun q => by have q2 := (mayO_3 (by omega)).1 q; first | omega | exact absurd q2 (by assumption) | exact absurd q2.2 (by assumption) | exact absurd q2.2.2 (by assumption) | exact absurd (AllS4.2 q2.2.1) (of_decide_eq_false (by assumption))), M82.bare.take 0⟩ | exact ⟨mayOB_f (fun q => by have q2 := (mayO_4 (by omega)).1 q; first | omega | exact absurd q2 (by assumption) | exact absurd q2.2 (by assumption) | exact absurd q2.2.2 (by assumption) | exact absurd (AllS4.2 q2.2.1) (of_decide_eq_false (by assumption))), M82.bare.take 0⟩ | exact ⟨mayOB_f (fun q => by have q2 := (mayO_5 (by omega)).1 q; first | omega | exact absurd q2 (by assumption) | exact absurd q2.2 (by assumption) | exact absurd q2.2.2 (by assumption) | exact absurd (AllS4.2 q2.2.1) (of_decide_eq_false (by assumption))), M82.bare.take 0⟩ | exact ⟨mayOB_f (fun q => by have q2 := q.1; omega), M82.bare.take 0⟩
         ·
          refine D rfl rfl (G rfl (G rfl (G rfl (D rfl rfl (D rfl rfl (F [(3, _), (4, _)] rfl ?_))))))
          refine J (D rfl rfl ?_)
          refine X (M10.focus 0 rfl) [_] [_, _, _, _, _, _, _, _, _, _, _, _, _, _, _, _] rfl rfl rfl rfl rfl (C rfl) (C rfl) rfl rfl ?_
          intro h83 M84
          replace M84 : Mem _ _ ([(p4, _)] :: [(p1, _)] :: []) _ := M84
          refine F [(3, _), (4, _)] rfl ?_
          refine U (J (D rfl rfl (D rfl rfl (G rfl (G rfl (G rfl (D rfl rfl (D rfl rfl (F [(2, _)] rfl ?_)))))))))
          refine WC.ret (⟨[_], (res_tmp rfl res_nil), ?_⟩)
          first | exact ⟨mayOB_f (fun q => by have q2 := (mayO_1 (by omega)).1 q; first | omega | exact absurd q2 (by assumption) | exact absurd q2.2 (by assumption) | exact absurd q2.2.2 (by assumption) | exact absurd (AllS4.2 q2.2.1) (of_decide_eq_false (by assumption))), M84.bare.take 0⟩ | exact ⟨mayOB_f (fun q => by have q2 := (mayO_2 (by omega)).1 q; first | omega | exact absurd q2 (by assumption) | exact absurd q2.2 (by assumption) | exact absurd q2.2.2 (by assumption) | exact absurd (AllS4.2 q2.2.1) (of_decide_eq_false (by assumption))), M84.bare.take 0⟩ | exact ⟨mayOB_f (fun q => by have q2 := (mayO_3 (by omega)).1 q; first | omega | exact absurd q2 (by assumption) | exact absurd q2.2 (by assumption) | exact absurd q2.2.2 (by assumption) | exact absurd (AllS4.2 q2.2.1) (of_decide_eq_false (by assumption))), M84.bare.take 0⟩ | exact ⟨mayOB_f (fun q => by have q2 := (mayO_4 (by omega)).1 q; first | omega | exact absurd q2 (by assumption) | exact absurd q2.2 (by assumption) | exact absurd q2.2.2 (by assumption) | exact absurd (AllS4.2 q2.2.1) (of_decide_eq_false (by assumption))), M84.bare.take 0⟩ | exact ⟨mayOB_f (fun q => by have q2 := (mayO_5 (by omega)).1 q; first | omega | exact absurd q2 (by assumption) | exact absurd q2.2 (by assumption) | exact absurd q2.2.2 (by assumption) | exact absurd (AllS4.2 q2.2.1) (of_decide_eq_false (by assumption))), M84.bare.take 0⟩ | exact ⟨mayOB_f (fun q => by have q2 := q.1; omega), M84.bare.take 0⟩
        ·
         refine D rfl rfl (F [(1, _), (3, _), (60, _)] rfl ?_)
         refine WC.condF rfl (U (J (D rfl rfl (F [(2, _)] rfl ?_))))
         refine WC.ret (⟨[_], (res_tmp rfl res_nil), ?_⟩)
         first | exact ⟨mayOB_f (fun q => by have q2 := (mayO_1 (by omega)).1 q; first | omega | exact absurd q2 (by assumption) | exact absurd q2.2 (by assumption) | exact absurd q2.2.2 (by assumption) | exact absurd (AllS4.2 q2.2.1) (of_decide_eq_false (by assumption))), M10.bare.take 0⟩ | exact ⟨mayOB_f (fun q => by have q2 := (mayO_2 (by omega)).1 q; first | omega | exact absurd q2 (by assumption) | exact absurd q2.2 (by assumption) | exact absurd q2.2.2 (by assumption) | exact absurd (AllS4.2 q2.2.1) (of_decide_eq_false (by assumption))), M10.bare.take 0⟩ | exact ⟨mayOB_f (fun q => by have q2 := (mayO_3 (by omega)).1 q; first | omega | exact absurd q2 (by assumption) | exact absurd q2.2 (by assumption) | exact absurd q2.2.2 (by assumption) | exact absurd (AllS4.2 q2.2.1) (of_decide_eq_false (by assumption))), M10.bare.take 0⟩ | exact ⟨mayOB_f (fun q => by have q2 := (mayO_4 (by omega)).1 q; first | omega | exact absurd q2 (by assumption) | exact absurd q2.2 (by assumption) | exact absurd q2.2.2 (by assumption) | exact absurd (AllS4.2 q2.2.1) (of_decide_eq_false (by assumption))), M10.bare.take 0⟩ | exact ⟨mayOB_f (fun q => by have q2 := (mayO_5 (by omega)).1 q; first | omega | exact absurd q2 (by assumption) | exact absurd q2.2 (by assumption) | exact absurd q2.2.2 (by assumption) | exact absurd (AllS4.2 q2.2.1) (of_decide_eq_false (by assumption))), M10.bare.take 0⟩ | exact ⟨mayOB_f (fun q => by have q2 := q.1; omega), M10.bare.take 0⟩
end Go.Proofs.Yteikngjiaboeaaa.Wt
namespace Go.Proofs.Yteikngjiaboeaaa.Wt
open Go Go.Proofs.Yteikngjiaboeaaa.Am Go.Proofs.Yteikngjiaboeaaa.IrAll
open Go.Proofs.Yteikngjiaboeaaa.Am.WS renaming op → C
open Nat renaming le_of_ble_eq_true → D
open Go.Proofs.Yteikngjiaboeaaa.Am.WS renaming nil → F
open List renaming length_append → G
open Go.Proofs.Yteikngjiaboeaaa.Am.WC renaming seq → J
open List renaming length_cons → U
open List renaming length_nil → X
open Go.Proofs.Yteikngjiaboeaaa.Am.WC renaming run → Y
set_option linter.unusedVariables false
set_option linter.unusedSimpArgs false
variable {h base : H} {L : List Seg} {R : List Nat}
def nu (x : Int64) : UInt64 := UInt64.ofNat x.toInt.toNat
theorem nu_nat {x : Int64} (h : Sm x.toInt) : ((nu x).toNat : Int) = x.toInt := by
  unfold Sm at h
  have e : ∀ n : Nat, n < 18446744073709551616 → (UInt64.ofNat n).toNat = n := fun n hn => by simp [UInt64.toNat_ofNat']; omega
  unfold nu; rw [e _ (by omega)]; omega
theorem cvU {x : Int64} (h : Sm x.toInt) : Value.int .u64 (IntKind.u64.wrap x.toInt) = .int .u64 (((nu x).toNat : Nat) : Int) := by
  rw [← nu_nat h]; exact cv_u64 (n := (nu x).toNat) (UInt64.toNat_lt _)
theorem cvB {x : Int64} (h : Sm x.toInt) : Value.int .i64 (IntKind.i64.wrap ((min (nu x).toNat 4294967296 : Nat) : Int)) = .int .i64 x.toInt := by
  have hn := nu_nat h
  have h2 := h
  unfold Sm at h2
  have : min (nu x).toNat 4294967296 = (nu x).toNat := by omega
  rw [this, ← hn]; exact cv_i64 (n := (nu x).toNat) (by omega)
def Oper.tok (o : Oper) : List UInt8 := [o.t0, o.t1, o.t2, o.t3, o.t4, o.t5, o.t6, o.t7]
def encO (o : Oper) : List UInt8 :=
  if o.op.toNat = 1 then ((([o.op, o.sl] ++ vb (nu o.ks).toNat) ++ vb (nu o.bt).toNat) ++ vb (nu o.ra).toNat) ++ vb (nu o.bu).toNat
  else if o.op.toNat = 2 then ([o.op, o.sl] ++ o.tok) ++ [o.ro]
  else if o.op.toNat = 3 then [o.op] ++ o.tok
  else if o.op.toNat = 4 then [o.op, o.sl]
  else [o.op, o.nd]
theorem encO_1 {o : Oper} (h : o.op.toNat = 1) : encO o = ((([o.op, o.sl] ++ vb (nu o.ks).toNat) ++ vb (nu o.bt).toNat) ++ vb (nu o.ra).toNat) ++ vb (nu o.bu).toNat := if_pos h
theorem encO_2 {o : Oper} (h : o.op.toNat = 2) : encO o = ([o.op, o.sl] ++ o.tok) ++ [o.ro] := by unfold encO; rw [if_neg (by omega), if_pos h]
theorem encO_3 {o : Oper} (h : o.op.toNat = 3) : encO o = [o.op] ++ o.tok := by unfold encO; rw [if_neg (by omega), if_neg (by omega), if_pos h]
theorem encO_4 {o : Oper} (h : o.op.toNat = 4) : encO o = [o.op, o.sl] := by unfold encO; rw [if_neg (by omega), if_neg (by omega), if_neg (by omega), if_pos h]
theorem encO_5 {o : Oper} (h : 4 < o.op.toNat) : encO o = [o.op, o.nd] := by unfold encO; rw [if_neg (by omega), if_neg (by omega), if_neg (by omega), if_neg (by omega)]
def Sees8 (base : H) (L : List Seg) (p o : Nat) (cs : List Value) : Prop := ∃ B, (base.get p = some B ∨ [(p, B)] ∈ L) ∧ o + 8 ≤ B.cells.length ∧ (B.cells.drop o).take 8 = cs
theorem Sees8.get {p o : Nat} {cs : List Value} {L' : List Seg} (S : Sees8 base L p o cs) (M : Mem base h L' R) (hs : ∀ x ∈ L, x ∈ L') : h.lds ⟨p, o, none⟩ 8 = some cs := by
  obtain ⟨B, hb, hl, hc⟩ := S
  have : h.get p = some B := by
    rcases hb with hb | hb
    · exact M.sub _ _ hb
    · exact (M.own (p, B) (List.mem_flatten.2 ⟨_, hs _ hb, List.mem_singleton.2 rfl⟩)).1
  rw [lds_at this hl, hc]
theorem src8 {p o c : Nat} {l : List UInt8} (hl : l.length = 8) (hb : h.lds ⟨p, o, none⟩ 8 = some (KU8.flat l)) : KU8.Src h (.slice (some ⟨p, o, none⟩) 8 c) l := by
  refine ⟨by rw [hl]; rfl, ?_⟩
  simp only [srcCells]; rw [hl]; exact hb
theorem w_token_ran {w p o : Nat} {l c : List UInt8} {V : Value} {S : Seg} (O : KU8.Own V l S) (M : Mem base h (S :: [(w, ⟨[V], 0, false⟩)] :: L) []) (Z : Sees8 base L p o (KU8.flat c)) (hc : c.length = 8) (hl : l.length + 8 ≤ 10000000) : Cll tab0 100 [.pointer (some ⟨w, 0, none⟩), .pointer (some ⟨p, o, none⟩)] h (fun v h2 => ∃ V2 S2, KU8.Own V2 (l ++ c) S2 ∧ v = .tuple #[] ∧ Mem base h2 (S2 :: [(w, ⟨[V2], 0, false⟩)] :: L) []) := by
  obtain ⟨P, rfl⟩ := O.shape
  refine Cll.code rfl rfl ?_
  refine WC.env [(0, _), (1, _)] rfl ?_
  refine WC.draw M [] rfl ?_
  intro rb1 h2 M3
  refine C rfl rfl (C rfl rfl (C rfl rfl (C rfl rfl (C rfl (op_ld (M3.at 1 rfl) rfl rfl) (C rfl rfl (C rfl rfl (WS.opV (.slice (some ⟨p, o, none⟩) 8 17) rfl rfl rfl ?_)))))))
  refine WS.app (l := l) (m := c) (O) (M3.focus 0 rfl) (src8 hc (Sees8.get Z M3 (by intro x hx; simp [hx]))) rfl (by omega) (by omega) rfl rfl rfl ?_
  intro V4 S5 h6 O7 M8
  obtain ⟨P9, rfl⟩ := Row.Own.shape O7
  refine C rfl rfl (C rfl rfl ?_)
  refine WS.st1 (M8.focus 1 rfl) [_] [_] rfl rfl rfl rfl rfl (D rfl) (D rfl) rfl rfl ?_
  intro h10 M11
  replace M11 : Mem _ _ ([(w, _)] :: S5 :: L) _ := M11
  refine F [] rfl ?_
  refine ⟨[], res_nil, ?_⟩
  exact ⟨_, _, O7, rfl, ((M11.bare.focus 0 rfl).focus 1 rfl)⟩
set_option maxRecDepth 8000 in
theorem walkO_ran {w p : Nat} {l : List UInt8} {o : Oper} {V : Value} {S : Seg} (hm : MayO o) (O : KU8.Own V l S) (M : Mem base h (S :: [(w, ⟨[V], 0, false⟩)] :: [(p, ⟨Oper.cells o, 0, false⟩)] :: L) []) (hl : l.length ≤ 10000) : Cll tab0 54 [.iface 85 (.pointer (some ⟨w, 0, none⟩)), .pointer (some ⟨p, 0, none⟩)] h (fun v h2 => ∃ V2 S2, KU8.Own V2 (l ++ encO o) S2 ∧ v = .tuple #[] ∧ Mem base h2 (S2 :: [(w, ⟨[V2], 0, false⟩)] :: [(p, ⟨Oper.cells o, 0, false⟩)] :: L) []) := by
  obtain ⟨P, rfl⟩ := O.shape
  obtain ⟨m1, m2, m3, m4, m5, b1, b2, b3, b4⟩ := id hm
  have v1 := vb_len (nu o.ks).toNat_lt
  have v2 := vb_len (nu o.bt).toNat_lt
  have v3 := vb_len (nu o.ra).toNat_lt
  have v4 := vb_len (nu o.bu).toNat_lt
  refine Cll.code rfl rfl ?_
  refine WC.env [(0, _), (1, _)] rfl ?_
  refine J (WC.draw M [] rfl ?_)
  intro rb1 h2 M3
  refine C rfl rfl (C rfl rfl (C rfl rfl (C rfl rfl (C rfl rfl (C rfl rfl (C rfl rfl ?_))))))
  refine WS.call rfl rfl rfl (w_byte_ran (c := o.op) O ((M3.focus 1 rfl).focus 1 rfl) ⟨_, .inr (List.Mem.head _), rfl⟩ (by first | omega | (simp only [G, U, X]; omega))) ?_
  rintro _ h4 ⟨V6, S7, O8, rfl, M5⟩
  obtain ⟨P9, rfl⟩ := O8.shape
  replace M5 : Mem _ _ (S7 :: [(w, _)] :: [(p, _)] :: L) _ := M5
  refine F [(0, _), (1, _)] rfl ?_
  refine J (Y (C rfl rfl (C rfl rfl (C rfl rfl (C rfl (op_ld (M5.bare.at 2 rfl) rfl rfl) (F [(0, _), (1, _), (18, _)] rfl ?_))))))
  refine WC.block (J (Y (WS.eqlN (a := (o.op).toNat) (b := 1) rfl rfl rfl (fun e20 => ?_) (fun e20 => ?_))))
  ·
   refine C rfl rfl (F [(0, _), (1, _), (18, _), (19, _)] rfl ?_)
   refine WC.condT rfl (J (WC.draw M5.bare [] rfl ?_))
   intro rb10 h11 M12
   refine C rfl rfl (C rfl rfl (C rfl rfl (C rfl rfl (C rfl rfl (C rfl rfl (C rfl rfl ?_))))))
   refine WS.call rfl rfl rfl (w_byte_ran (c := o.sl) O8 ((M12.focus 1 rfl).focus 1 rfl) ⟨_, .inr (List.Mem.head _), rfl⟩ (by first | omega | (simp only [G, U, X]; omega))) ?_
   rintro _ h13 ⟨V15, S16, O17, rfl, M14⟩
   obtain ⟨P18, rfl⟩ := O17.shape
   replace M14 : Mem _ _ (S16 :: [(w, _)] :: [(p, _)] :: L) _ := M14
   refine F [(0, _), (1, _)] rfl ?_
   refine J (WC.draw M14.bare [12] rfl ?_)
   intro rb19 h20 M21
   refine C rfl rfl (C rfl rfl (C rfl rfl (C rfl rfl (C rfl rfl (C rfl rfl (C rfl rfl (C rfl rfl (C rfl rfl (C rfl rfl ?_)))))))))
   refine C rfl rfl (C rfl rfl (C rfl rfl ?_))
   refine WS.bslA M21 [_, _, _, _] 0 rfl rfl rfl rfl rfl ?_
   intro h23 M24
   refine C rfl rfl (F [(0, _), (41, _), (42, _), (43, _)] rfl ?_)
   refine WC.block (WC.unroll [(0, _), (41, _), (42, _), (43, _)] rfl ?_)
   refine J (Y (WS.opV (.bool true) rfl rfl rfl (F [(0, _), (41, _), (42, _), (43, _), (44, _)] rfl ?_)))
   refine J (WC.condT rfl (WC.skip (J (WC.block (J (Y (C rfl rfl (C rfl (op_ld (M24.bare.at 0 rfl) rfl rfl) (C rfl rfl (F [(0, _), (5, _), (41, _), (42, _), (43, _)] rfl ?_))))))))))
   refine J (Y (C rfl rfl (C rfl rfl (C rfl (op_ld (M24.bare.at 3 rfl) rfl rfl) (WS.opV (.int .u64 (((nu o.ks).toNat : Nat) : Int)) rfl rfl (cvU (by assumption)) ?_)))))
   refine WS.new M24.bare rfl ?_
   intro p25 h26 M27
   refine WS.st1 (M27.focus 0 rfl) [_] [_] rfl rfl rfl rfl rfl (D rfl) (D rfl) rfl rfl ?_
   intro h28 M29
   replace M29 : Mem _ _ ([(p25, _)] :: [((rb19 + 12), _)] :: S16 :: [(w, _)] :: [(p, _)] :: L) _ := M29
   refine F [(0, _), (5, _), (6, _), (41, _), (42, _), (43, _)] rfl ?_
   refine J (Y (C rfl rfl ?_))
   refine WS.call rfl rfl rfl (w_number_ran (c := (nu o.ks)) O17 ((M29.focus 3 rfl).focus 3 rfl) ⟨_, .inr (List.Mem.head _), rfl⟩ (by first | omega | (simp only [G, U, X]; omega))) ?_
   rintro _ h30 ⟨V32, S33, O34, rfl, M31⟩
   obtain ⟨P35, rfl⟩ := O34.shape
   replace M31 : Mem _ _ (S33 :: [(w, _)] :: [(p25, _)] :: [((rb19 + 12), _)] :: [(p, _)] :: L) _ := M31
   refine F [(0, _), (5, _), (6, _), (41, _), (42, _), (43, _)] rfl ?_
   refine Y (C rfl rfl (C rfl (op_ld (M31.at 2 rfl) rfl rfl) (WS.opV (.int .u64 (((min ((nu o.ks).toNat) 4294967296) : Nat) : Int)) rfl rfl (mm_min (a := (nu o.ks).toNat) (b := 4294967296)) (WS.opV (.int .i64 o.ks.toInt) rfl rfl (cvB (by assumption)) (C rfl rfl ?_)))))
   refine WS.st1 (M31.focus 4 rfl) [_] [_, _, _, _, _, _, _, _, _, _, _, _, _, _, _, _] rfl rfl rfl rfl rfl (D rfl) (D rfl) rfl rfl ?_
   intro h36 M37
   replace M37 : Mem _ _ ([(p, _)] :: S33 :: [(w, _)] :: [(p25, _)] :: [((rb19 + 12), _)] :: L) _ := M37
   refine F [(0, _), (41, _), (42, _), (43, _)] rfl ?_
   refine Y (WS.opV (.int .i64 1) rfl rfl rfl (C rfl rfl (F [(0, _), (41, _), (42, _), (43, _)] rfl ?_)))
   refine WC.unroll [(0, _), (41, _), (42, _), (43, _)] rfl ?_
   refine J (Y (WS.opV (.bool true) rfl rfl rfl (F [(0, _), (41, _), (42, _), (43, _), (44, _)] rfl ?_)))
   refine J (WC.condT rfl (WC.skip (J (WC.block (J (Y (C rfl rfl (C rfl (op_ld (M37.at 4 rfl) rfl rfl) (C rfl rfl (F [(0, _), (5, _), (41, _), (42, _), (43, _)] rfl ?_))))))))))
   refine J (Y (C rfl rfl (C rfl rfl (C rfl (op_ld (M37.at 0 rfl) rfl rfl) (WS.opV (.int .u64 (((nu o.bt).toNat : Nat) : Int)) rfl rfl (cvU (by assumption)) ?_)))))
   refine WS.new M37 rfl ?_
   intro p38 h39 M40
   refine WS.st1 (M40.focus 0 rfl) [_] [_] rfl rfl rfl rfl rfl (D rfl) (D rfl) rfl rfl ?_
   intro h41 M42
   replace M42 : Mem _ _ ([(p38, _)] :: [(p, _)] :: S33 :: [(w, _)] :: [(p25, _)] :: [((rb19 + 12), _)] :: L) _ := M42
   refine F [(0, _), (5, _), (6, _), (41, _), (42, _), (43, _)] rfl ?_
   refine J (Y (C rfl rfl ?_))
   refine WS.call rfl rfl rfl (w_number_ran (c := (nu o.bt)) O34 ((M42.focus 3 rfl).focus 3 rfl) ⟨_, .inr (List.Mem.head _), rfl⟩ (by first | omega | (simp only [G, U, X]; omega))) ?_
   rintro _ h43 ⟨V45, S46, O47, rfl, M44⟩
   obtain ⟨P48, rfl⟩ := O47.shape
   replace M44 : Mem _ _ (S46 :: [(w, _)] :: [(p38, _)] :: [(p, _)] :: [(p25, _)] :: [((rb19 + 12), _)] :: L) _ := M44
   refine F [(0, _), (5, _), (6, _), (41, _), (42, _), (43, _)] rfl ?_
   refine Y (C rfl rfl (C rfl (op_ld (M44.at 2 rfl) rfl rfl) (WS.opV (.int .u64 (((min ((nu o.bt).toNat) 4294967296) : Nat) : Int)) rfl rfl (mm_min (a := (nu o.bt).toNat) (b := 4294967296)) (WS.opV (.int .i64 o.bt.toInt) rfl rfl (cvB (by assumption)) (C rfl rfl ?_)))))
   refine WS.st1 (M44.focus 3 rfl) [_] [_, _, _, _, _, _, _, _, _, _, _, _, _, _, _, _] rfl rfl rfl rfl rfl (D rfl) (D rfl) rfl rfl ?_
   intro h49 M50
   replace M50 : Mem _ _ ([(p, _)] :: S46 :: [(w, _)] :: [(p38, _)] :: [(p25, _)] :: [((rb19 + 12), _)] :: L) _ := M50
   refine F [(0, _), (41, _), (42, _), (43, _)] rfl ?_
   refine Y (WS.opV (.int .i64 2) rfl rfl rfl (C rfl rfl (F [(0, _), (41, _), (42, _), (43, _)] rfl ?_)))
   refine WC.unroll [(0, _), (41, _), (42, _), (43, _)] rfl ?_
   refine J (Y (WS.opV (.bool true) rfl rfl rfl (F [(0, _), (41, _), (42, _), (43, _), (44, _)] rfl ?_)))
   refine J (WC.condT rfl (WC.skip (J (WC.block (J (Y (C rfl rfl (C rfl (op_ld (M50.at 5 rfl) rfl rfl) (C rfl rfl (F [(0, _), (5, _), (41, _), (42, _), (43, _)] rfl ?_))))))))))
   refine J (Y (C rfl rfl (C rfl rfl (C rfl (op_ld (M50.at 0 rfl) rfl rfl) (WS.opV (.int .u64 (((nu o.ra).toNat : Nat) : Int)) rfl rfl (cvU (by assumption)) ?_)))))
   refine WS.new M50 rfl ?_
   intro p51 h52 M53
   refine WS.st1 (M53.focus 0 rfl) [_] [_] rfl rfl rfl rfl rfl (D rfl) (D rfl) rfl rfl ?_
   intro h54 M55
   replace M55 : Mem _ _ ([(p51, _)] :: [(p, _)] :: S46 :: [(w, _)] :: [(p38, _)] :: [(p25, _)] :: [((rb19 + 12), _)] :: L) _ := M55
   refine F [(0, _), (5, _), (6, _), (41, _), (42, _), (43, _)] rfl ?_
   refine J (Y (C rfl rfl ?_))
   refine WS.call rfl rfl rfl (w_number_ran (c := (nu o.ra)) O47 ((M55.focus 3 rfl).focus 3 rfl) ⟨_, .inr (List.Mem.head _), rfl⟩ (by first | omega | (simp only [G, U, X]; omega))) ?_
   rintro _ h56 ⟨V58, S59, O60, rfl, M57⟩
   obtain ⟨P61, rfl⟩ := O60.shape
   replace M57 : Mem _ _ (S59 :: [(w, _)] :: [(p51, _)] :: [(p, _)] :: [(p38, _)] :: [(p25, _)] :: [((rb19 + 12), _)] :: L) _ := M57
   refine F [(0, _), (5, _), (6, _), (41, _), (42, _), (43, _)] rfl ?_
   refine Y (C rfl rfl (C rfl (op_ld (M57.at 2 rfl) rfl rfl) (WS.opV (.int .u64 (((min ((nu o.ra).toNat) 4294967296) : Nat) : Int)) rfl rfl (mm_min (a := (nu o.ra).toNat) (b := 4294967296)) (WS.opV (.int .i64 o.ra.toInt) rfl rfl (cvB (by assumption)) (C rfl rfl ?_)))))
   refine WS.st1 (M57.focus 3 rfl) [_] [_, _, _, _, _, _, _, _, _, _, _, _, _, _, _, _] rfl rfl rfl rfl rfl (D rfl) (D rfl) rfl rfl ?_
   intro h62 M63
   replace M63 : Mem _ _ ([(p, _)] :: S59 :: [(w, _)] :: [(p51, _)] :: [(p38, _)] :: [(p25, _)] :: [((rb19 + 12), _)] :: L) _ := M63
   refine F [(0, _), (41, _), (42, _), (43, _)] rfl ?_
   refine Y (WS.opV (.int .i64 3) rfl rfl rfl (C rfl rfl (F [(0, _), (41, _), (42, _), (43, _)] rfl ?_)))
   refine WC.unroll [(0, _), (41, _), (42, _), (43, _)] rfl ?_
   refine J (Y (WS.opV (.bool true) rfl rfl rfl (F [(0, _), (41, _), (42, _), (43, _), (44, _)] rfl ?_)))
   refine J (WC.condT rfl (WC.skip (J (WC.block (J (Y (C rfl rfl (C rfl (op_ld (M63.at 6 rfl) rfl rfl) (C rfl rfl (F [(0, _), (5, _), (41, _), (42, _), (43, _)] rfl ?_))))))))))
   refine J (Y (C rfl rfl (C rfl rfl (C rfl (op_ld (M63.at 0 rfl) rfl rfl) (WS.opV (.int .u64 (((nu o.bu).toNat : Nat) : Int)) rfl rfl (cvU (by assumption)) ?_)))))
   refine WS.new M63 rfl ?_
   intro p64 h65 M66
   refine WS.st1 (M66.focus 0 rfl) [_] [_] rfl rfl rfl rfl rfl (D rfl) (D rfl) rfl rfl ?_
   intro h67 M68
   replace M68 : Mem _ _ ([(p64, _)] :: [(p, _)] :: S59 :: [(w, _)] :: [(p51, _)] :: [(p38, _)] :: [(p25, _)] :: [((rb19 + 12), _)] :: L) _ := M68
   refine F [(0, _), (5, _), (6, _), (41, _), (42, _), (43, _)] rfl ?_
   refine J (Y (C rfl rfl ?_))
   refine WS.call rfl rfl rfl (w_number_ran (c := (nu o.bu)) O60 ((M68.focus 3 rfl).focus 3 rfl) ⟨_, .inr (List.Mem.head _), rfl⟩ (by first | omega | (simp only [G, U, X]; omega))) ?_
   rintro _ h69 ⟨V71, S72, O73, rfl, M70⟩
   obtain ⟨P74, rfl⟩ := O73.shape
   replace M70 : Mem _ _ (S72 :: [(w, _)] :: [(p64, _)] :: [(p, _)] :: [(p51, _)] :: [(p38, _)] :: [(p25, _)] :: [((rb19 + 12), _)] :: L) _ := M70
   refine F [(0, _), (5, _), (6, _), (41, _), (42, _), (43, _)] rfl ?_
   refine Y (C rfl rfl (C rfl (op_ld (M70.at 2 rfl) rfl rfl) (WS.opV (.int .u64 (((min ((nu o.bu).toNat) 4294967296) : Nat) : Int)) rfl rfl (mm_min (a := (nu o.bu).toNat) (b := 4294967296)) (WS.opV (.int .i64 o.bu.toInt) rfl rfl (cvB (by assumption)) (C rfl rfl ?_)))))
   refine WS.st1 (M70.focus 3 rfl) [_] [_, _, _, _, _, _, _, _, _, _, _, _, _, _, _, _] rfl rfl rfl rfl rfl (D rfl) (D rfl) rfl rfl ?_
   intro h75 M76
   replace M76 : Mem _ _ ([(p, _)] :: S72 :: [(w, _)] :: [(p64, _)] :: [(p51, _)] :: [(p38, _)] :: [(p25, _)] :: [((rb19 + 12), _)] :: L) _ := M76
   refine F [(0, _), (41, _), (42, _), (43, _)] rfl ?_
   refine Y (WS.opV (.int .i64 4) rfl rfl rfl (C rfl rfl (F [(0, _), (41, _), (42, _), (43, _)] rfl ?_)))
   refine WC.unroll [(0, _), (41, _), (42, _), (43, _)] rfl ?_
   refine J (Y (WS.opV (.bool false) rfl rfl rfl (F [(0, _), (41, _), (42, _), (43, _), (44, _)] rfl ?_)))
   refine J (WC.condF rfl (WC.exit ?_))
   refine ⟨[], res_nil, ?_⟩
   have q3 : l ++ encO o = ((((((l ++ [o.op]) ++ [o.sl]) ++ (vb (nu o.ks).toNat)) ++ (vb (nu o.bt).toNat)) ++ (vb (nu o.ra).toNat)) ++ (vb (nu o.bu).toNat)) := by rw [encO_1 (by omega)]; simp [Oper.tok]
   rw [q3]
   exact ⟨_, _, O73, rfl, (((((((((((((M76.focus 3 rfl).drop).focus 3 rfl).drop).focus 3 rfl).drop).focus 3 rfl).drop).focus 3 rfl).drop).focus 0 rfl).focus 2 rfl).focus 2 rfl)⟩
  ·
   refine C rfl rfl (F [(0, _), (1, _), (18, _), (19, _)] rfl ?_)
   refine WC.condF rfl (J (Y (WS.eqlN (a := (o.op).toNat) (b := 2) rfl rfl rfl (fun e60 => ?_) (fun e60 => ?_))))
   ·
    refine C rfl rfl (F [(0, _), (1, _), (18, _), (59, _)] rfl ?_)
    refine WC.condT rfl (J (WC.draw M5.bare [] rfl ?_))
    intro rb77 h78 M79
    refine C rfl rfl (C rfl rfl (C rfl rfl (C rfl rfl (C rfl rfl (C rfl rfl (C rfl rfl ?_))))))
    refine WS.call rfl rfl rfl (w_byte_ran (c := o.sl) O8 ((M79.focus 1 rfl).focus 1 rfl) ⟨_, .inr (List.Mem.head _), rfl⟩ (by first | omega | (simp only [G, U, X]; omega))) ?_
    rintro _ h80 ⟨V82, S83, O84, rfl, M81⟩
    obtain ⟨P85, rfl⟩ := O84.shape
    replace M81 : Mem _ _ (S83 :: [(w, _)] :: [(p, _)] :: L) _ := M81
    refine F [(0, _), (1, _)] rfl ?_
    refine J (WC.draw M81.bare [] rfl ?_)
    intro rb86 h87 M88
    refine C rfl rfl (C rfl rfl (C rfl rfl (C rfl rfl (C rfl rfl (C rfl rfl (C rfl rfl ?_))))))
    refine WS.call rfl rfl rfl (w_token_ran (c := [o.t0, o.t1, o.t2, o.t3, o.t4, o.t5, o.t6, o.t7]) O84 ((M88.focus 1 rfl).focus 1 rfl) ⟨_, .inr (List.Mem.head _), D rfl, rfl⟩ rfl (by first | omega | (simp only [G, U, X]; omega))) ?_
    rintro _ h89 ⟨V91, S92, O93, rfl, M90⟩
    obtain ⟨P94, rfl⟩ := O93.shape
    replace M90 : Mem _ _ (S92 :: [(w, _)] :: [(p, _)] :: L) _ := M90
    refine F [(0, _), (1, _)] rfl ?_
    refine WC.draw M90.bare [] rfl ?_
    intro rb95 h96 M97
    refine C rfl rfl (C rfl rfl (C rfl rfl (C rfl rfl (C rfl rfl (C rfl rfl (C rfl rfl ?_))))))
    refine WS.call rfl rfl rfl (w_byte_ran (c := o.ro) O93 ((M97.focus 1 rfl).focus 1 rfl) ⟨_, .inr (List.Mem.head _), rfl⟩ (by first | omega | (simp only [G, U, X]; omega))) ?_
    rintro _ h98 ⟨V100, S101, O102, rfl, M99⟩
    obtain ⟨P103, rfl⟩ := O102.shape
    replace M99 : Mem _ _ (S101 :: [(w, _)] :: [(p, _)] :: L) _ := M99
    refine F [] rfl ?_
    refine ⟨[], res_nil, ?_⟩
    have q3 : l ++ encO o = ((((l ++ [o.op]) ++ [o.sl]) ++ [o.t0, o.t1, o.t2, o.t3, o.t4, o.t5, o.t6, o.t7]) ++ [o.ro]) := by rw [encO_2 (by omega)]; simp [Oper.tok]
    rw [q3]
    exact ⟨_, _, O102, rfl, (M99.bare)⟩
   ·
    refine C rfl rfl (F [(0, _), (1, _), (18, _), (59, _)] rfl ?_)
    refine WC.condF rfl (J (Y (WS.eqlN (a := (o.op).toNat) (b := 3) rfl rfl rfl (fun e86 => ?_) (fun e86 => ?_))))
    ·
     refine C rfl rfl (F [(0, _), (1, _), (18, _), (85, _)] rfl ?_)
     refine WC.condT rfl (WC.draw M5.bare [] rfl ?_)
     intro rb104 h105 M106
     refine C rfl rfl (C rfl rfl (C rfl rfl (C rfl rfl (C rfl rfl (C rfl rfl (C rfl rfl ?_))))))
     refine WS.call rfl rfl rfl (w_token_ran (c := [o.t0, o.t1, o.t2, o.t3, o.t4, o.t5, o.t6, o.t7]) O8 ((M106.focus 1 rfl).focus 1 rfl) ⟨_, .inr (List.Mem.head _), D rfl, rfl⟩ rfl (by first | omega | (simp only [G, U, X]; omega))) ?_
     rintro _ h107 ⟨V109, S110, O111, rfl, M108⟩
     obtain ⟨P112, rfl⟩ := O111.shape
     replace M108 : Mem _ _ (S110 :: [(w, _)] :: [(p, _)] :: L) _ := M108
     refine F [] rfl ?_
     refine ⟨[], res_nil, ?_⟩
     have q3 : l ++ encO o = ((l ++ [o.op]) ++ [o.t0, o.t1, o.t2, o.t3, o.t4, o.t5, o.t6, o.t7]) := by rw [encO_3 (by omega)]; simp [Oper.tok]
     rw [q3]
     exact ⟨_, _, O111, rfl, (M108.bare)⟩
    ·
     refine C rfl rfl (F [(0, _), (1, _), (18, _), (85, _)] rfl ?_)
     refine WC.condF rfl (J (Y (WS.eqlN (a := (o.op).toNat) (b := 4) rfl rfl rfl (fun e96 => ?_) (fun e96 => ?_))))
     ·
      refine C rfl rfl (F [(0, _), (1, _), (18, _), (95, _)] rfl ?_)
      refine WC.condT rfl (WC.draw M5.bare [] rfl ?_)
      intro rb113 h114 M115
      refine C rfl rfl (C rfl rfl (C rfl rfl (C rfl rfl (C rfl rfl (C rfl rfl (C rfl rfl ?_))))))
      refine WS.call rfl rfl rfl (w_byte_ran (c := o.sl) O8 ((M115.focus 1 rfl).focus 1 rfl) ⟨_, .inr (List.Mem.head _), rfl⟩ (by first | omega | (simp only [G, U, X]; omega))) ?_
      rintro _ h116 ⟨V118, S119, O120, rfl, M117⟩
      obtain ⟨P121, rfl⟩ := O120.shape
      replace M117 : Mem _ _ (S119 :: [(w, _)] :: [(p, _)] :: L) _ := M117
      refine F [] rfl ?_
      refine ⟨[], res_nil, ?_⟩
      have q3 : l ++ encO o = ((l ++ [o.op]) ++ [o.sl]) := by rw [encO_4 (by omega)]; simp [Oper.tok]
      rw [q3]
      exact ⟨_, _, O120, rfl, (M117.bare)⟩
     ·
      refine C rfl rfl (F [(0, _), (1, _), (18, _), (95, _)] rfl ?_)
      refine WC.condF rfl (J (J (Y (WS.eqlN (a := (o.op).toNat) (b := 5) rfl rfl rfl (fun e106 => ?_) (fun e106 => ?_)))))
      ·
       refine C rfl rfl (F [(0, _), (1, _), (18, _), (105, _)] rfl ?_)
       refine WC.condT rfl (WC.skip (WC.condT rfl (WC.draw M5.bare [] rfl ?_)))
       intro rb122 h123 M124
       refine C rfl rfl (C rfl rfl (C rfl rfl (C rfl rfl (C rfl rfl (C rfl rfl (C rfl rfl ?_))))))
       refine WS.call rfl rfl rfl (w_byte_ran (c := o.nd) O8 ((M124.focus 1 rfl).focus 1 rfl) ⟨_, .inr (List.Mem.head _), rfl⟩ (by first | omega | (simp only [G, U, X]; omega))) ?_
       rintro _ h125 ⟨V127, S128, O129, rfl, M126⟩
       obtain ⟨P130, rfl⟩ := O129.shape
       replace M126 : Mem _ _ (S128 :: [(w, _)] :: [(p, _)] :: L) _ := M126
       refine F [] rfl ?_
       refine ⟨[], res_nil, ?_⟩
       have q3 : l ++ encO o = ((l ++ [o.op]) ++ [o.nd]) := by rw [encO_5 (by omega)]; simp [Oper.tok]
       rw [q3]
       exact ⟨_, _, O129, rfl, (M126.bare)⟩
      ·
       refine C rfl rfl (F [(0, _), (1, _), (18, _), (105, _)] rfl ?_)
       refine WC.condF rfl (J (Y (WS.eqlN (a := (o.op).toNat) (b := 6) rfl rfl rfl (fun e107 => ?_) (fun e107 => ?_))))
       ·
        refine C rfl rfl (F [(0, _), (1, _), (18, _), (105, _)] rfl ?_)
        refine WC.condT rfl (WC.skip (WC.condT rfl (WC.draw M5.bare [] rfl ?_)))
        intro rb131 h132 M133
        refine C rfl rfl (C rfl rfl (C rfl rfl (C rfl rfl (C rfl rfl (C rfl rfl (C rfl rfl ?_))))))
        refine WS.call rfl rfl rfl (w_byte_ran (c := o.nd) O8 ((M133.focus 1 rfl).focus 1 rfl) ⟨_, .inr (List.Mem.head _), rfl⟩ (by first | omega | (simp only [G, U, X]; omega))) ?_
        rintro _ h134 ⟨V136, S137, O138, rfl, M135⟩
        obtain ⟨P139, rfl⟩ := O138.shape
        replace M135 : Mem _ _ (S137 :: [(w, _)] :: [(p, _)] :: L) _ := M135
        refine F [] rfl ?_
        refine ⟨[], res_nil, ?_⟩
        have q3 : l ++ encO o = ((l ++ [o.op]) ++ [o.nd]) := by rw [encO_5 (by omega)]; simp [Oper.tok]
        rw [q3]
        exact ⟨_, _, O138, rfl, (M135.bare)⟩
       ·
        refine C rfl rfl (F [(0, _), (1, _), (18, _), (105, _)] rfl ?_)
        refine WC.condF rfl (Y (WS.eqlN (a := (o.op).toNat) (b := 7) rfl rfl rfl (fun e108 => ?_) (fun e108 => ?_)))
        ·
         refine C rfl rfl (F [(0, _), (1, _), (105, _)] rfl ?_)
         refine WC.condT rfl (WC.draw M5.bare [] rfl ?_)
         intro rb140 h141 M142
         refine C rfl rfl (C rfl rfl (C rfl rfl (C rfl rfl (C rfl rfl (C rfl rfl (C rfl rfl ?_))))))
         refine WS.call rfl rfl rfl (w_byte_ran (c := o.nd) O8 ((M142.focus 1 rfl).focus 1 rfl) ⟨_, .inr (List.Mem.head _), rfl⟩ (by first | omega | (simp only [G, U, X]; omega))) ?_
         rintro _ h143 ⟨V145, S146, O147, rfl, M144⟩
         obtain ⟨P148, rfl⟩ := O147.shape
         replace M144 : Mem _ _ (S146 :: [(w, _)] :: [(p, _)] :: L) _ := M144
         refine F [] rfl ?_
         refine ⟨[], res_nil, ?_⟩
         have q3 : l ++ encO o = ((l ++ [o.op]) ++ [o.nd]) := by rw [encO_5 (by omega)]; simp [Oper.tok]
         rw [q3]
         exact ⟨_, _, O147, rfl, (M144.bare)⟩
        ·
         refine C rfl rfl (F [(0, _), (1, _), (105, _)] rfl ?_)
         refine WC.condF rfl (WC.skip (⟨[], res_nil, ?_⟩))
         omega
theorem WriteO_ran (W : Mem h h [] []) {o : Oper} : Cll tab0 27 [.agg (Oper.cells o).toArray] h (fun v h2 => v = .string (bs (if mayOB o then encO o else [])) ∧ Mem h h2 [] []) := by
  refine Cll.code rfl rfl ?_
  refine WC.env [(0, _)] rfl ?_
  refine J (Y (WS.box W [_, _, _, _, _, _, _, _, _, _, _, _, _, _, _, _] rfl rfl rfl rfl ?_))
  intro p1 h2 M3
  refine C rfl rfl (F [(1, _)] rfl ?_)
  refine J (J (Y (C rfl (op_lds [_, _, _, _, _, _, _, _, _, _, _, _, _, _, _, _] (M3.at 0 rfl) rfl (D rfl) rfl) ?_)))
  refine WS.call rfl rfl rfl (mayO_ran M3.here (o := o)) ?_
  rintro _ h4 ⟨rfl, N5⟩
  have M6 := M3.trans N5
  cases hb1 : (mayOB o)
  ·
   refine WS.opV (.bool true) rfl rfl rfl (F [(1, _), (6, _)] rfl ?_)
   refine WC.condT rfl (J (Y (C rfl rfl (F [(2, _)] rfl ?_))))
   refine WC.ret (⟨[_], (res_tmp rfl res_nil), ?_⟩)
   exact ⟨rfl, M6.bare.take 0⟩
  ·
   refine WS.opV (.bool false) rfl rfl rfl (F [(1, _), (6, _)] rfl ?_)
   refine WC.condF rfl (WC.skip (J (Y (WS.opV (.agg #[(.slice none 0 0)]) rfl rfl rfl ?_))))
   refine WS.box M6 [_] rfl rfl rfl rfl ?_
   intro p7 h8 M9
   refine C rfl rfl (F [(1, _), (3, _)] rfl ?_)
   refine J (Y ?_)
   have hm := of_decide_eq_true (p := MayO o) hb1
   refine C rfl rfl (C rfl rfl ?_)
   refine WS.call rfl rfl rfl (walkO_ran (o := o) hm (Row.Own.nil (K := KU8)) ((M9.focus 1 rfl).focus 1 rfl).nils (by simp)) ?_
   rintro _ h10 ⟨V12, S13, O14, rfl, M11⟩
   rw [List.nil_append] at O14
   obtain ⟨P15, rfl⟩ := O14.shape
   replace M11 : Mem _ _ (S13 :: [(p7, _)] :: [(p1, _)] :: []) _ := M11
   refine F [(3, _)] rfl ?_
   refine J (Y (C rfl rfl (C rfl rfl (C rfl rfl (C rfl (op_ld (M11.at 1 rfl) rfl rfl) (C rfl (op_cvBO O14 (Mem.owni M11 0 rfl) rfl) (C rfl rfl (F [(2, _)] rfl ?_))))))))
   refine WC.ret (⟨[_], (res_tmp rfl res_nil), ?_⟩)
   exact ⟨rfl, M11.bare.take 0⟩
end Go.Proofs.Yteikngjiaboeaaa.Wt
