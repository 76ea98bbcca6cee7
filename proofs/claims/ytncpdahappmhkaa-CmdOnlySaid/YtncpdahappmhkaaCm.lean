/- Commands: their fields, what is too great, and the reference's functions walked. -/
import Derived.Test.YtncpdahappmhkaaNm
namespace Go.Proofs.Ytncpdahappmhkaa.Wt
open Go Go.Proofs.Ytncpdahappmhkaa.Am Go.Proofs.Ytncpdahappmhkaa.IrAll
set_option linter.unusedVariables false
set_option linter.unusedSimpArgs false
theorem u8_inj {a b : UInt8} (h : a.toNat = b.toNat) : a = b := UInt8.toNat_inj.1 h
theorem u64_inj {a b : UInt64} (h : a.toNat = b.toNat) : a = b := UInt64.toNat_inj.1 h
structure Part where
  op : UInt8
  ky : List UInt8
  va : List UInt8
  deriving DecidableEq
def Part.cells (x : Part) : List Value := [(.int .u8 (((x.op).toNat : Nat) : Int)), (.string (bs x.ky)), (.string (bs x.va))]
def KPart : Row Part := ⟨Part.cells, 3, fun _ => rfl, by decide, fun _ => rfl⟩

theorem Part_eqV (x y : Part) : eqV (.agg [(0, 1), (1, 2), (2, 2)]) (.agg (Part.cells x).toArray) (.agg (Part.cells y).toArray) = some (decide (x = y)) := by
  have e : eqV (.agg [(0, 1), (1, 2), (2, 2)]) (.agg (Part.cells x).toArray) (.agg (Part.cells y).toArray) = some (((((x.op.toNat : Nat) : Int) == ((y.op.toNat : Nat) : Int)) && (((bs x.ky).toList == (bs y.ky).toList) && (((bs x.va).toList == (bs y.va).toList) && true)))) := rfl
  rw [e]; congr 1
  rw [Bool.eq_iff_iff]
  simp only [Bool.and_eq_true, beq_iff_eq, bs_toList, decide_eq_true_eq, Bool.and_true, and_true]
  constructor
  · intro h
    obtain ⟨h0, h1, h2⟩ := h
    obtain ⟨⟩ := x; obtain ⟨⟩ := y
    simp only at *
    rw [u8_inj (Int.ofNat.inj h0), h1, h2]
  · intro h; subst h; exact ⟨rfl, rfl, rfl⟩

structure Cmd where
  op : UInt8
  se : UInt64
  sq : UInt64
  ky : List UInt8
  va : List UInt8
  ex : List UInt8
  fr : List UInt8
  to : List UInt8
  li : UInt8
  le : UInt64
  tt : UInt64
  ps : List Part
  deriving DecidableEq
def Cmd.cells (c : Cmd) (V : Value) : List Value := [(.int .u8 (((c.op).toNat : Nat) : Int)), (.int .u64 (((c.se).toNat : Nat) : Int)), (.int .u64 (((c.sq).toNat : Nat) : Int)), (.string (bs c.ky)), (.string (bs c.va)), (.string (bs c.ex)), (.string (bs c.fr)), (.string (bs c.to)), (.int .u8 (((c.li).toNat : Nat) : Int)), (.int .u64 (((c.le).toNat : Nat) : Int)), (.int .u64 (((c.tt).toNat : Nat) : Int)), V]
def Cmd.val (c : Cmd) (V : Value) : Value := .agg (c.cells V).toArray
variable {h base : H} {L : List Seg} {R : List Nat}
def FitP (ps : List Part) : Prop := ∀ p ∈ ps, p.ky.length ≤ 5000 ∧ p.va.length ≤ 5000
def Fit (c : Cmd) : Prop := c.ky.length ≤ 5000 ∧ c.va.length ≤ 5000 ∧ c.ex.length ≤ 5000 ∧ c.fr.length ≤ 5000 ∧ c.to.length ≤ 5000 ∧ c.ps.length ≤ 40 ∧ FitP c.ps
theorem FitP_snoc {es : List Part} {i : Nat} {y : Part} (h : FitP (es.take i)) (hy : es[i]? = some y) (hr : y.ky.length ≤ 5000 ∧ y.va.length ≤ 5000) : FitP (es.take (i + 1)) := by
  intro e he
  rw [List.take_add_one, hy] at he
  simp only [Option.toList_some, List.mem_append, List.mem_singleton] at he
  rcases he with he | he
  · exact h e he
  · subst he; exact hr
theorem Great_ran (W : Mem h h [] []) {c : Cmd} {V : Value} (A : KPart.Sl h V c.ps) (hl : c.ky.length < 9223372036854775808 ∧ c.va.length < 9223372036854775808 ∧ c.ex.length < 9223372036854775808 ∧ c.fr.length < 9223372036854775808 ∧ c.to.length < 9223372036854775808 ∧ c.ps.length < 9223372036854775808 ∧ ∀ p ∈ c.ps, p.ky.length < 9223372036854775808 ∧ p.va.length < 9223372036854775808) : Cll tab0 10 [c.val V] h (fun v h2 => (∃ g, v = .bool g ∧ (g = false → Fit c)) ∧ Mem h h2 [] []) := by
  obtain ⟨P, n, rfl⟩ := A.shape
  obtain ⟨l1, l2, l3, l4, l5, l6, l7⟩ := hl
  refine Cll.code rfl rfl ?_
  refine WC.env [(0, _)] rfl ?_
  refine WC.seq ?_
  refine WC.run ?_
  refine WS.box W [_, _, _, _, _, _, _, _, _, _, _, _] rfl rfl rfl rfl ?_
  intro p1 h2 M3
  refine WS.op rfl rfl (WS.nil [(1, _)] rfl ?_)
  refine WC.seq ?_
  refine WC.seq ?_
  obtain ⟨L4, eL6, M5⟩ := Mem.name M3.bare
  refine WC.joinB (base := h) (fun b => [(1, (.pointer (some ⟨p1, 0, none⟩))), (37, .bool b)]) L4 (True) (c.ky.length ≤ 5000 ∧ c.va.length ≤ 5000 ∧ c.ex.length ≤ 5000 ∧ c.fr.length ≤ 5000 ∧ c.to.length ≤ 5000 ∧ c.ps.length ≤ 40) ?_ ?_ ?_
  · subst eL6
    refine WS.op rfl rfl (WS.op rfl (op_ld (M5.at 0 rfl) rfl rfl) (WS.op rfl (op_lenS (l := c.ky) rfl) ?_))
    refine WS.gtrN (a := (c.ky).length) (b := 3000) rfl rfl rfl (fun e7 => ?_) (fun e7 => ?_)
    · skip
      refine WS.op rfl rfl (WS.off rfl (WS.off rfl (WS.off rfl (WS.off rfl (WS.op rfl rfl (WS.op rfl rfl (WS.off rfl (WS.off rfl (WS.off rfl ?_)))))))))
      refine WS.off rfl (WS.op rfl rfl (WS.op rfl rfl (WS.off rfl (WS.off rfl (WS.off rfl (WS.off rfl (WS.op rfl rfl (WS.op rfl rfl (WS.off rfl ?_)))))))))
      refine WS.off rfl (WS.off rfl (WS.off rfl (WS.op rfl rfl (WS.op rfl rfl (WS.off rfl (WS.off rfl (WS.off rfl (WS.off rfl (WS.op rfl rfl ?_)))))))))
      refine WS.nil' ⟨true, rfl, ((M5.bare.focus 0 rfl).take 1), fun _ => ?_, fun hh => ?_⟩
      · trivial
      · cases hh
    · skip
      refine WS.op rfl rfl (WS.op rfl rfl (WS.op rfl (op_ld (M5.at 0 rfl) rfl rfl) (WS.op rfl (op_lenS (l := c.va) rfl) ?_)))
      refine WS.gtrN (a := (c.va).length) (b := 3000) rfl rfl rfl (fun e12 => ?_) (fun e12 => ?_)
      · skip
        refine WS.op rfl rfl (WS.op rfl rfl (WS.off rfl (WS.off rfl (WS.off rfl (WS.off rfl (WS.op rfl rfl (WS.op rfl rfl (WS.off rfl (WS.off rfl ?_)))))))))
        refine WS.off rfl (WS.off rfl (WS.op rfl rfl (WS.op rfl rfl (WS.off rfl (WS.off rfl (WS.off rfl (WS.off rfl (WS.op rfl rfl (WS.op rfl rfl ?_)))))))))
        refine WS.off rfl (WS.off rfl (WS.off rfl (WS.off rfl (WS.op rfl rfl ?_))))
        refine WS.nil' ⟨true, rfl, ((M5.bare.focus 0 rfl).take 1), fun _ => ?_, fun hh => ?_⟩
        · trivial
        · cases hh
      · skip
        refine WS.op rfl rfl (WS.op rfl rfl (WS.op rfl rfl (WS.op rfl (op_ld (M5.at 0 rfl) rfl rfl) (WS.op rfl (op_lenS (l := c.ex) rfl) ?_))))
        refine WS.gtrN (a := (c.ex).length) (b := 3000) rfl rfl rfl (fun e18 => ?_) (fun e18 => ?_)
        · skip
          refine WS.op rfl rfl (WS.op rfl rfl (WS.off rfl (WS.off rfl (WS.off rfl (WS.off rfl (WS.op rfl rfl (WS.op rfl rfl (WS.off rfl (WS.off rfl ?_)))))))))
          refine WS.off rfl (WS.off rfl (WS.op rfl rfl (WS.op rfl rfl (WS.off rfl (WS.off rfl (WS.off rfl (WS.off rfl (WS.op rfl rfl ?_))))))))
          refine WS.nil' ⟨true, rfl, ((M5.bare.focus 0 rfl).take 1), fun _ => ?_, fun hh => ?_⟩
          · trivial
          · cases hh
        · skip
          refine WS.op rfl rfl (WS.op rfl rfl (WS.op rfl rfl (WS.op rfl (op_ld (M5.at 0 rfl) rfl rfl) (WS.op rfl (op_lenS (l := c.fr) rfl) ?_))))
          refine WS.gtrN (a := (c.fr).length) (b := 3000) rfl rfl rfl (fun e24 => ?_) (fun e24 => ?_)
          · skip
            refine WS.op rfl rfl (WS.op rfl rfl (WS.off rfl (WS.off rfl (WS.off rfl (WS.off rfl (WS.op rfl rfl (WS.op rfl rfl (WS.off rfl (WS.off rfl ?_)))))))))
            refine WS.off rfl (WS.off rfl (WS.op rfl rfl ?_))
            refine WS.nil' ⟨true, rfl, ((M5.bare.focus 0 rfl).take 1), fun _ => ?_, fun hh => ?_⟩
            · trivial
            · cases hh
          · skip
            refine WS.op rfl rfl (WS.op rfl rfl (WS.op rfl rfl (WS.op rfl (op_ld (M5.at 0 rfl) rfl rfl) (WS.op rfl (op_lenS (l := c.to) rfl) ?_))))
            refine WS.gtrN (a := (c.to).length) (b := 3000) rfl rfl rfl (fun e30 => ?_) (fun e30 => ?_)
            · skip
              refine WS.op rfl rfl (WS.op rfl rfl (WS.off rfl (WS.off rfl (WS.off rfl (WS.off rfl (WS.op rfl rfl ?_))))))
              refine WS.nil' ⟨true, rfl, ((M5.bare.focus 0 rfl).take 1), fun _ => ?_, fun hh => ?_⟩
              · trivial
              · cases hh
            · skip
              refine WS.op rfl rfl (WS.op rfl rfl (WS.op rfl rfl (WS.op rfl (op_ld (M5.at 0 rfl) rfl rfl) (WS.op rfl (op_lenVS A rfl) ?_))))
              refine WS.gtrN (a := (c.ps).length) (b := 40) rfl rfl rfl (fun e36 => ?_) (fun e36 => ?_)
              · skip
                refine WS.op rfl rfl ?_
                refine WS.nil' ⟨true, rfl, ((M5.bare.focus 0 rfl).take 1), fun _ => ?_, fun hh => ?_⟩
                · trivial
                · cases hh
              · skip
                refine WS.op rfl rfl ?_
                refine WS.nil' ⟨false, rfl, ((M5.bare.focus 0 rfl).take 1), fun hh => ?_, fun _ => ?_⟩
                · cases hh
                · omega
  · intro h7 M8 hp37
    subst eL6
    refine WC.condT rfl ?_
    refine WC.seq ?_
    refine WC.run ?_
    refine WS.op rfl rfl (WS.nil [(2, _)] rfl ?_)
    refine WC.ret ?_
    refine ⟨[_], (res_tmp rfl res_nil), ?_⟩
    exact ⟨⟨true, rfl, fun q => by cases q⟩, M8.bare.take 0⟩
  · intro h9 M10 hp37
    subst eL6
    refine WC.condF rfl ?_
    refine WC.skip ?_
    refine WC.seq ?_
    refine WC.seq ?_
    refine WC.run ?_
    refine WS.op rfl rfl (WS.nil [(1, _), (3, _)] rfl ?_)
    refine WC.block ?_
    obtain ⟨L11, eL13, M12⟩ := Mem.name M10.bare
    refine WC.loop (σ := Nat) (fun (i) => [(1, (.pointer (some ⟨p1, 0, none⟩))), (3, (.int .i64 ((i : Nat) : Int)))]) (fun (i) hh => Mem h hh (L11) [] ∧ FitP (c.ps.take i) ∧ i ≤ c.ps.length) (fun (i) => c.ps.length - i) (0) rfl ⟨M12, ?_⟩ ?_
    · exact ⟨by intro x hx; simp at hx, by omega⟩
    · rintro i h14 ⟨M15, ⟨hO, hi1⟩⟩
      subst eL13
      refine WC.env [(1, _), (3, _)] rfl ?_
      refine WC.seq ?_
      refine WC.seq ?_
      refine WC.run ?_
      refine WS.op rfl rfl (WS.op rfl rfl (WS.op rfl (op_ld (M15.at 0 rfl) rfl rfl) (WS.op rfl (op_lenVS A rfl) ?_)))
      refine WS.lssN (a := i) (b := (c.ps).length) rfl rfl rfl (fun e42 => ?_) (fun e42 => ?_)
      · skip
        refine WS.nil [(1, _), (3, _), (42, _)] rfl ?_
        refine WC.condT rfl ?_
        refine WC.skip ?_
        refine WC.seq ?_
        refine WC.block ?_
        refine WC.seq ?_
        refine WC.run ?_
        refine WS.op rfl rfl (WS.op rfl (op_ld (M15.at 0 rfl) rfl rfl) (WS.op rfl rfl ?_))
        obtain ⟨y48, hy48⟩ : ∃ y, (c.ps)[i]? = some y := ⟨_, List.getElem?_eq_getElem (show i < (c.ps).length by first | omega | (simp only [List.length_drop, List.length_take, List.length_append, List.length_cons, List.length_nil, List.length_singleton]; omega) | (simp only [List.length_drop, List.length_take, List.length_append, List.length_cons, List.length_nil, List.length_singleton] at *; omega))⟩
        refine WS.iaVS A i hy48 rfl rfl rfl rfl ?_
        intro b48_ o48_ ha48
        refine WS.op rfl rfl (WS.op rfl (op_ldH rfl (At.ld (ha48.mono M15.sub) rfl)) (WS.op rfl (op_lenS (l := y48.ky) rfl) ?_))
        refine WS.gtrN (a := (y48.ky).length) (b := 3000) rfl rfl rfl (fun e52 => ?_) (fun e52 => ?_)
        · skip
          refine WS.op rfl rfl (WS.off rfl (WS.off rfl (WS.off rfl (WS.off rfl (WS.off rfl (WS.off rfl (WS.off rfl (WS.off rfl (WS.op rfl rfl ?_)))))))))
          refine WS.nil [(1, _), (3, _), (62, _)] rfl ?_
          refine WC.condT rfl ?_
          refine WC.seq ?_
          refine WC.run ?_
          refine WS.op rfl rfl (WS.nil [(2, _)] rfl ?_)
          refine WC.ret ?_
          refine ⟨[_], (res_tmp rfl res_nil), ?_⟩
          exact ⟨⟨true, rfl, fun q => by cases q⟩, M15.bare.take 0⟩
        · skip
          refine WS.op rfl rfl (WS.op rfl rfl (WS.op rfl (op_ld (M15.at 0 rfl) rfl rfl) (WS.op rfl rfl ?_)))
          refine WS.iaVS A i hy48 rfl rfl rfl rfl ?_
          intro b57_ o57_ ha57
          refine WS.op rfl rfl (WS.op rfl (op_ldH rfl (At.ld (ha57.mono M15.sub) rfl)) (WS.op rfl (op_lenS (l := y48.va) rfl) ?_))
          refine WS.gtrN (a := (y48.va).length) (b := 3000) rfl rfl rfl (fun e61 => ?_) (fun e61 => ?_)
          · skip
            refine WS.op rfl rfl (WS.nil [(1, _), (3, _), (62, _)] rfl ?_)
            refine WC.condT rfl ?_
            refine WC.seq ?_
            refine WC.run ?_
            refine WS.op rfl rfl (WS.nil [(2, _)] rfl ?_)
            refine WC.ret ?_
            refine ⟨[_], (res_tmp rfl res_nil), ?_⟩
            exact ⟨⟨true, rfl, fun q => by cases q⟩, M15.bare.take 0⟩
          · skip
            refine WS.op rfl rfl (WS.nil [(1, _), (3, _), (62, _)] rfl ?_)
            refine WC.condF rfl ?_
            refine WC.skip ?_
            refine WC.run ?_
            refine WS.op rfl rfl (WS.opV (.int .i64 (((i + 1) : Nat) : Int)) rfl rfl (add_i64 (a := i) (b := 1) (by omega)) (WS.op rfl rfl (WS.nil [(1, _), (3, _)] rfl ?_)))
            refine ⟨i + 1, rfl, ⟨((M15.bare.focus 0 rfl).take 1), ?_⟩, ?_⟩
            · exact ⟨FitP_snoc hO hy48 ⟨by omega, by omega⟩, by omega⟩
            · simp only []; omega
      · skip
        refine WS.nil [(1, _), (3, _), (42, _)] rfl ?_
        refine WC.condF rfl ?_
        refine WC.exit ?_
        refine WC.seq ?_
        refine WC.run ?_
        refine WS.op rfl rfl (WS.nil [(2, _)] rfl ?_)
        refine WC.ret ?_
        refine ⟨[_], (res_tmp rfl res_nil), ?_⟩
        rw [List.take_of_length_le (by omega)] at hO
        exact ⟨⟨false, rfl, fun _ => ⟨hp37.1, hp37.2.1, hp37.2.2.1, hp37.2.2.2.1, hp37.2.2.2.2.1, hp37.2.2.2.2.2, hO⟩⟩, M15.bare.take 0⟩
/-! ### The reference's bytes -/
theorem one_ran (W : Mem h h [] []) {n : Nat} {b : UInt8} (hb : UInt8.ofNat n = b) : Cll tab0 44 [.int .i64 (n : Int)] h (fun v h2 => v = .string (bs [b]) ∧ Mem h h2 [] []) := by
  subst hb
  refine Cll.code rfl rfl ?_
  refine WC.env [(0, _)] rfl ?_
  refine WC.seq ?_
  refine WC.run ?_
  refine WS.op rfl rfl (WS.nil [(0, _)] rfl ?_)
  refine WC.seq ?_
  refine WC.run ?_
  refine WS.op rfl rfl (WS.opV (.int .u8 (((UInt8.ofNat n).toNat : Nat) : Int)) rfl rfl (u8_ofNat (n := n)) ?_)
  refine WS.bsl W [_] rfl rfl rfl rfl ?_
  intro p1 h2 M3
  refine WS.op rfl (op_cvB (l := [UInt8.ofNat n]) (M3.at 0 rfl) rfl rfl (Nat.le_of_ble_eq_true rfl) rfl) (WS.op rfl rfl (WS.nil [(2, _)] rfl ?_))
  refine WC.ret ?_
  refine ⟨[_], (res_tmp rfl res_nil), ?_⟩
  exact ⟨rfl, M3.bare.take 0⟩
theorem text_ran (W : Mem h h [] []) {l : List UInt8} (hl : l.length ≤ 1000000) : Cll tab0 50 [.string (bs l)] h (fun v h2 => v = .string (bs (sb l)) ∧ Mem h h2 [] []) := by
  refine Cll.code rfl rfl ?_
  refine WC.env [(0, _)] rfl ?_
  refine WC.seq ?_
  refine WC.run ?_
  refine WS.op rfl rfl (WS.nil [(0, _)] rfl ?_)
  refine WC.seq ?_
  refine WC.run ?_
  refine WS.op rfl rfl ?_
  refine WS.bsl W [_] rfl rfl rfl rfl ?_
  intro p1 h2 M3
  refine WS.call rfl rfl rfl (ref_S_ran M3.here (Row.Sl.own (K := KStr) (l := [l]) (M3.at 0 rfl)) (by simp only [List.map_cons, List.map_nil, List.sum_cons, List.sum_nil, List.length_cons, List.length_nil]; omega) (r := (sb l)) (by simp [List.flatMap])) ?_
  rintro _ h4 ⟨rfl, N5⟩
  have M6 := M3.trans N5
  refine WS.op rfl rfl (WS.nil [(2, _)] rfl ?_)
  refine WC.ret ?_
  refine ⟨[_], (res_tmp rfl res_nil), ?_⟩
  exact ⟨rfl, M6.bare.take 0⟩
def partB (p : Part) : List UInt8 := ([p.op] ++ sb p.ky) ++ (if p.op.toNat = 2 then sb p.va else [])
def blank (c : Cmd) : Cmd := ⟨c.op, c.se, c.sq, [], [], [], [], [], 0, 0, 0, []⟩
def plain (c : Cmd) : Cmd :=
  if c.op.toNat = 1 ∨ c.op.toNat = 6 then { blank c with tt := c.tt }
  else if c.op.toNat = 2 then { blank c with ky := c.ky, va := c.va, le := c.le }
  else if c.op.toNat = 3 ∨ c.op.toNat = 8 then { blank c with ky := c.ky }
  else if c.op.toNat = 4 then { blank c with ky := c.ky, ex := c.ex, va := c.va }
  else if c.op.toNat = 5 then { blank c with ps := c.ps }
  else if c.op.toNat = 7 then { blank c with le := c.le }
  else if c.op.toNat = 9 then { blank c with fr := c.fr, to := c.to, li := c.li }
  else blank c
def bodyB (c : Cmd) : List UInt8 :=
  if c.op.toNat = 1 ∨ c.op.toNat = 6 then vb c.tt.toNat
  else if c.op.toNat = 2 then (sb c.ky ++ sb c.va) ++ vb c.le.toNat
  else if c.op.toNat = 3 ∨ c.op.toNat = 8 then sb c.ky
  else if c.op.toNat = 4 then (sb c.ky ++ sb c.ex) ++ sb c.va
  else if c.op.toNat = 5 then [UInt8.ofNat c.ps.length] ++ c.ps.flatMap partB
  else if c.op.toNat = 7 then vb c.le.toNat
  else if c.op.toNat = 9 then (sb c.fr ++ sb c.to) ++ [c.li]
  else []
def headB (c : Cmd) : List UInt8 := ([c.op] ++ vb c.se.toNat) ++ vb c.sq.toNat
def encC (c : Cmd) : List UInt8 := headB c ++ bodyB c
section
variable {c : Cmd}
theorem enc_1 (h : c.op.toNat = 1 ∨ c.op.toNat = 6) : plain c = { blank c with tt := c.tt } ∧ bodyB c = vb c.tt.toNat := ⟨if_pos h, if_pos h⟩
theorem enc_2 (h : c.op.toNat = 2) : plain c = { blank c with ky := c.ky, va := c.va, le := c.le } ∧ bodyB c = (sb c.ky ++ sb c.va) ++ vb c.le.toNat := by unfold plain bodyB; simp [h]
theorem enc_3 (h : c.op.toNat = 3 ∨ c.op.toNat = 8) : plain c = { blank c with ky := c.ky } ∧ bodyB c = sb c.ky := by
  unfold plain bodyB; rw [if_neg (by omega), if_neg (by omega), if_pos h, if_neg (by omega), if_neg (by omega), if_pos h]; exact ⟨rfl, rfl⟩
theorem enc_4 (h : c.op.toNat = 4) : plain c = { blank c with ky := c.ky, ex := c.ex, va := c.va } ∧ bodyB c = (sb c.ky ++ sb c.ex) ++ sb c.va := by unfold plain bodyB; simp [h]
theorem enc_5 (h : c.op.toNat = 5) : plain c = { blank c with ps := c.ps } ∧ bodyB c = [UInt8.ofNat c.ps.length] ++ c.ps.flatMap partB := by unfold plain bodyB; simp [h]
theorem enc_7 (h : c.op.toNat = 7) : plain c = { blank c with le := c.le } ∧ bodyB c = vb c.le.toNat := by unfold plain bodyB; simp [h]
theorem enc_9 (h : c.op.toNat = 9) : plain c = { blank c with fr := c.fr, to := c.to, li := c.li } ∧ bodyB c = (sb c.fr ++ sb c.to) ++ [c.li] := by unfold plain bodyB; simp [h]
theorem enc_0 (h : ¬ (1 ≤ c.op.toNat ∧ c.op.toNat ≤ 9)) : plain c = blank c ∧ bodyB c = [] := by
  unfold plain bodyB; rw [if_neg (by omega), if_neg (by omega), if_neg (by omega), if_neg (by omega), if_neg (by omega), if_neg (by omega), if_neg (by omega), if_neg (by omega), if_neg (by omega), if_neg (by omega), if_neg (by omega), if_neg (by omega), if_neg (by omega), if_neg (by omega)]; exact ⟨rfl, rfl⟩
end
theorem sb_len3 {t : List UInt8} (h : t.length ≤ 5000) : (sb t).length ≤ 5010 := by have := sb_len (t := t) (by omega); omega
theorem partB_len {p : Part} (h : p.ky.length ≤ 5000 ∧ p.va.length ≤ 5000) : (partB p).length ≤ 10100 := by
  have := sb_len3 h.1; have := sb_len3 h.2
  unfold partB; split <;> simp <;> omega
set_option maxRecDepth 8000 in
theorem Bytes_ran (W : Mem h h [] []) {c : Cmd} {V : Value} (A : KPart.Sl h V c.ps) (hf : Fit c) : Cll tab0 37 [c.val V] h (fun v h2 => ∃ V2, (∀ hh, KPart.Sl hh (V) c.ps → KPart.Sl hh V2 (plain c).ps) ∧ v = .tuple #[.string (bs (encC c)), (plain c).val V2] ∧ Mem h h2 [] []) := by
  obtain ⟨P, n, rfl⟩ := A.shape
  obtain ⟨f1, f2, f3, f4, f5, f6, f7⟩ := hf
  have v1 := vb_len c.se.toNat_lt
  have v2 := vb_len c.sq.toNat_lt
  have v3 := vb_len c.tt.toNat_lt
  have v4 := vb_len c.le.toNat_lt
  have s1 := sb_len3 f1
  have s2 := sb_len3 f2
  have s3 := sb_len3 f3
  have s4 := sb_len3 f4
  have s5 := sb_len3 f5
  have u1 := c.se.toNat_lt
  have u2 := c.sq.toNat_lt
  have u3 := c.tt.toNat_lt
  have u4 := c.le.toNat_lt
  refine Cll.code rfl rfl ?_
  refine WC.env [(0, _)] rfl ?_
  refine WC.seq ?_
  refine WC.run ?_
  refine WS.box W [_, _, _, _, _, _, _, _, _, _, _, _] rfl rfl rfl rfl ?_
  intro p1 h2 M3
  refine WS.op rfl rfl ?_
  refine WS.new M3 rfl ?_
  intro p4 h5 M6
  refine WS.nil [(1, _), (3, _)] rfl ?_
  refine WC.seq ?_
  refine WC.run ?_
  refine WS.op rfl rfl (WS.op rfl (op_ld (M6.at 1 rfl) rfl rfl) (WS.op rfl rfl (WS.op rfl (op_ld (M6.at 1 rfl) rfl rfl) (WS.op rfl rfl (WS.op rfl (op_ld (M6.at 1 rfl) rfl rfl) (WS.opV (.agg #[(.int .u8 (((c.op).toNat : Nat) : Int)), (.int .u64 (((c.se).toNat : Nat) : Int)), (.int .u64 (((c.sq).toNat : Nat) : Int)), (.string (bs ([]))), (.string (bs ([]))), (.string (bs ([]))), (.string (bs ([]))), (.string (bs ([]))), (.int .u8 (0 : Int)), (.int .u64 (0 : Int)), (.int .u64 (0 : Int)), (.slice none 0 0)]) rfl rfl rfl ?_))))))
  refine WS.new M6 rfl ?_
  intro p7 h8 M9
  refine WS.st1 (M9.focus 0 rfl) [_, _, _, _, _, _, _, _, _, _, _, _] [_, _, _, _, _, _, _, _, _, _, _, _] rfl rfl rfl rfl rfl (Nat.le_of_ble_eq_true rfl) (Nat.le_of_ble_eq_true rfl) rfl rfl ?_
  intro h10 M11
  replace M11 : Mem _ _ ([(p7, _)] :: [(p4, _)] :: [(p1, _)] :: []) _ := M11
  refine WS.nil [(1, _), (3, _), (4, _)] rfl ?_
  refine WC.seq ?_
  refine WC.draw M11 [] rfl ?_
  intro rb12 h13 M14
  refine WS.op rfl rfl (WS.op rfl (op_ld (M14.at 2 rfl) rfl rfl) (WS.opV (.int .i64 (((c.op).toNat : Nat) : Int)) rfl rfl (cv_i64 (n := (c.op).toNat) (by have := UInt8.toNat_lt (c.op); omega)) (WS.op rfl rfl (WS.op rfl (op_ld (M14.at 2 rfl) rfl rfl) (WS.op rfl rfl (WS.op rfl (op_ld (M14.at 2 rfl) rfl rfl) ?_))))))
  refine WS.call rfl rfl rfl (one_ran M14.here (n := (c.op).toNat) (b := c.op) (by first | rfl | simp)) ?_
  rintro _ h15 ⟨rfl, N16⟩
  have M17 := M14.trans N16
  refine WS.chk rfl (op_ld (M17.at 2 rfl) rfl rfl) rfl (sameV_refl rfl) (WS.chk rfl (op_ld (M17.at 2 rfl) rfl rfl) rfl (sameV_refl rfl) ?_)
  refine WS.call rfl rfl rfl (ref_One_ran M17.here (n := ((c.se).toNat)) (by omega)) ?_
  rintro _ h18 ⟨rfl, N19⟩
  have M20 := M17.trans N19
  refine WS.chk rfl (op_ld (M20.at 2 rfl) rfl rfl) rfl (sameV_refl rfl) (WS.op rfl (op_sadd (l := [c.op]) (m := (vb ((c.se).toNat))) rfl rfl (by simp only [List.length_append, List.length_cons, List.length_nil]; omega)) ?_)
  refine WS.call rfl rfl rfl (ref_One_ran M20.here (n := ((c.sq).toNat)) (by omega)) ?_
  rintro _ h22 ⟨rfl, N23⟩
  have M24 := M20.trans N23
  refine WS.op rfl (op_sadd (l := ([c.op] ++ (vb ((c.se).toNat)))) (m := (vb ((c.sq).toNat))) rfl rfl (by simp only [List.length_append, List.length_cons, List.length_nil]; omega)) (WS.op rfl rfl (WS.nil [(1, _), (3, _), (4, _), (5, _)] rfl ?_))
  refine WC.seq ?_
  refine WC.seq ?_
  refine WC.run ?_
  refine WS.op rfl rfl (WS.op rfl (op_ld (M24.bare.at 2 rfl) rfl rfl) (WS.nil [(1, _), (3, _), (4, _), (5, _), (28, _)] rfl ?_))
  refine WC.block ?_
  refine WC.seq ?_
  refine WC.seq ?_
  refine WC.run ?_
  refine WS.eqlN (a := (c.op).toNat) (b := 1) rfl rfl rfl (fun e30 => ?_) (fun e30 => ?_)
  · skip
    refine WS.op rfl rfl (WS.nil [(1, _), (3, _), (4, _), (5, _), (28, _), (29, _)] rfl ?_)
    refine WC.condT rfl ?_
    refine WC.skip ?_
    refine WC.condT rfl ?_
    refine WC.seq ?_
    refine WC.run ?_
    refine WS.op rfl rfl (WS.op rfl (op_ld (M24.bare.at 2 rfl) rfl rfl) (WS.op rfl rfl ?_))
    refine WS.st1 (M24.bare.focus 0 rfl) [_] [_, _, _, _, _, _, _, _, _, _, _, _] rfl rfl rfl rfl rfl (Nat.le_of_ble_eq_true rfl) (Nat.le_of_ble_eq_true rfl) rfl rfl ?_
    intro h26 M27
    replace M27 : Mem _ _ ([(p7, _)] :: [(p4, _)] :: [(p1, _)] :: []) _ := M27
    refine WS.nil [(1, _), (3, _), (4, _), (5, _)] rfl ?_
    refine WC.run ?_
    refine WS.op rfl rfl (WS.op rfl rfl (WS.op rfl (op_ld (M27.at 2 rfl) rfl rfl) ?_))
    refine WS.call rfl rfl rfl (ref_One_ran M27.here (n := ((c.tt).toNat)) (by omega)) ?_
    rintro _ h28 ⟨rfl, N29⟩
    have M30 := M27.trans N29
    refine WS.op rfl (op_sadd (l := (([c.op] ++ (vb ((c.se).toNat))) ++ (vb ((c.sq).toNat)))) (m := (vb ((c.tt).toNat))) rfl rfl (by simp only [List.length_append, List.length_cons, List.length_nil]; omega)) (WS.op rfl rfl (WS.nil [(3, _), (4, _), (5, _)] rfl ?_))
    refine WC.seq ?_
    refine WC.draw M30 [] rfl ?_
    intro rb32 h33 M34
    refine WS.op rfl rfl (WS.op rfl (op_lds [_, _, _, _, _, _, _, _, _, _, _, _] (M34.at 0 rfl) rfl (Nat.le_of_ble_eq_true rfl) rfl) (WS.op rfl rfl ?_))
    refine WS.st1 (M34.focus 1 rfl) [_, _, _, _, _, _, _, _, _, _, _, _] [_, _, _, _, _, _, _, _, _, _, _, _] rfl rfl rfl rfl rfl (Nat.le_of_ble_eq_true rfl) (Nat.le_of_ble_eq_true rfl) rfl rfl ?_
    intro h35 M36
    replace M36 : Mem _ _ ([(p4, _)] :: [(p7, _)] :: [(p1, _)] :: []) _ := M36
    refine WS.nil [(2, _), (3, _)] rfl ?_
    refine WC.ret ?_
    refine ⟨[_, _], (res_tmp rfl (res_cellN [_, _, _, _, _, _, _, _, _, _, _, _] rfl (M36.bare.at 0 rfl) (Nat.le_of_ble_eq_true rfl) rfl res_nil)), ?_⟩
    obtain ⟨q1, q2⟩ := enc_1 (c := c) (by omega)
    have q3 : encC c = ((([c.op] ++ (vb ((c.se).toNat))) ++ (vb ((c.sq).toNat))) ++ (vb ((c.tt).toNat))) := by unfold encC; rw [q2]; simp [headB]
    rw [q1, q3]
    exact ⟨_, fun _ _ => .nil, rfl, M36.bare.bare.take 0⟩
  · skip
    refine WS.op rfl rfl (WS.nil [(1, _), (3, _), (4, _), (5, _), (28, _), (29, _)] rfl ?_)
    refine WC.condF rfl ?_
    refine WC.run ?_
    refine WS.eqlN (a := (c.op).toNat) (b := 6) rfl rfl rfl (fun e31 => ?_) (fun e31 => ?_)
    · skip
      refine WS.op rfl rfl (WS.nil [(1, _), (3, _), (4, _), (5, _), (28, _), (29, _)] rfl ?_)
      refine WC.condT rfl ?_
      refine WC.seq ?_
      refine WC.run ?_
      refine WS.op rfl rfl (WS.op rfl (op_ld (M24.bare.at 2 rfl) rfl rfl) (WS.op rfl rfl ?_))
      refine WS.st1 (M24.bare.focus 0 rfl) [_] [_, _, _, _, _, _, _, _, _, _, _, _] rfl rfl rfl rfl rfl (Nat.le_of_ble_eq_true rfl) (Nat.le_of_ble_eq_true rfl) rfl rfl ?_
      intro h37 M38
      replace M38 : Mem _ _ ([(p7, _)] :: [(p4, _)] :: [(p1, _)] :: []) _ := M38
      refine WS.nil [(1, _), (3, _), (4, _), (5, _)] rfl ?_
      refine WC.run ?_
      refine WS.op rfl rfl (WS.op rfl rfl (WS.op rfl (op_ld (M38.at 2 rfl) rfl rfl) ?_))
      refine WS.call rfl rfl rfl (ref_One_ran M38.here (n := ((c.tt).toNat)) (by omega)) ?_
      rintro _ h39 ⟨rfl, N40⟩
      have M41 := M38.trans N40
      refine WS.op rfl (op_sadd (l := (([c.op] ++ (vb ((c.se).toNat))) ++ (vb ((c.sq).toNat)))) (m := (vb ((c.tt).toNat))) rfl rfl (by simp only [List.length_append, List.length_cons, List.length_nil]; omega)) (WS.op rfl rfl (WS.nil [(3, _), (4, _), (5, _)] rfl ?_))
      refine WC.seq ?_
      refine WC.draw M41 [] rfl ?_
      intro rb43 h44 M45
      refine WS.op rfl rfl (WS.op rfl (op_lds [_, _, _, _, _, _, _, _, _, _, _, _] (M45.at 0 rfl) rfl (Nat.le_of_ble_eq_true rfl) rfl) (WS.op rfl rfl ?_))
      refine WS.st1 (M45.focus 1 rfl) [_, _, _, _, _, _, _, _, _, _, _, _] [_, _, _, _, _, _, _, _, _, _, _, _] rfl rfl rfl rfl rfl (Nat.le_of_ble_eq_true rfl) (Nat.le_of_ble_eq_true rfl) rfl rfl ?_
      intro h46 M47
      replace M47 : Mem _ _ ([(p4, _)] :: [(p7, _)] :: [(p1, _)] :: []) _ := M47
      refine WS.nil [(2, _), (3, _)] rfl ?_
      refine WC.ret ?_
      refine ⟨[_, _], (res_tmp rfl (res_cellN [_, _, _, _, _, _, _, _, _, _, _, _] rfl (M47.bare.at 0 rfl) (Nat.le_of_ble_eq_true rfl) rfl res_nil)), ?_⟩
      obtain ⟨q1, q2⟩ := enc_1 (c := c) (by omega)
      have q3 : encC c = ((([c.op] ++ (vb ((c.se).toNat))) ++ (vb ((c.sq).toNat))) ++ (vb ((c.tt).toNat))) := by unfold encC; rw [q2]; simp [headB]
      rw [q1, q3]
      exact ⟨_, fun _ _ => .nil, rfl, M47.bare.bare.take 0⟩
    · skip
      refine WS.op rfl rfl (WS.nil [(1, _), (3, _), (4, _), (5, _), (28, _), (29, _)] rfl ?_)
      refine WC.condF rfl ?_
      refine WC.seq ?_
      refine WC.run ?_
      refine WS.eqlN (a := (c.op).toNat) (b := 2) rfl rfl rfl (fun e41 => ?_) (fun e41 => ?_)
      · skip
        refine WS.op rfl rfl (WS.nil [(1, _), (3, _), (4, _), (5, _), (28, _), (40, _)] rfl ?_)
        refine WC.condT rfl ?_
        refine WC.seq ?_
        refine WC.run ?_
        refine WS.op rfl rfl (WS.op rfl (op_ld (M24.bare.at 2 rfl) rfl rfl) (WS.op rfl rfl ?_))
        refine WS.st1 (M24.bare.focus 0 rfl) [_] [_, _, _, _, _, _, _, _, _, _, _, _] rfl rfl rfl rfl rfl (Nat.le_of_ble_eq_true rfl) (Nat.le_of_ble_eq_true rfl) rfl rfl ?_
        intro h48 M49
        replace M49 : Mem _ _ ([(p7, _)] :: [(p4, _)] :: [(p1, _)] :: []) _ := M49
        refine WS.nil [(1, _), (3, _), (4, _), (5, _)] rfl ?_
        refine WC.seq ?_
        refine WC.run ?_
        refine WS.op rfl rfl (WS.op rfl (op_ld (M49.at 2 rfl) rfl rfl) (WS.op rfl rfl ?_))
        refine WS.st1 (M49.focus 0 rfl) [_] [_, _, _, _, _, _, _, _, _, _, _, _] rfl rfl rfl rfl rfl (Nat.le_of_ble_eq_true rfl) (Nat.le_of_ble_eq_true rfl) rfl rfl ?_
        intro h50 M51
        replace M51 : Mem _ _ ([(p7, _)] :: [(p4, _)] :: [(p1, _)] :: []) _ := M51
        refine WS.nil [(1, _), (3, _), (4, _), (5, _)] rfl ?_
        refine WC.seq ?_
        refine WC.run ?_
        refine WS.op rfl rfl (WS.op rfl (op_ld (M51.at 2 rfl) rfl rfl) (WS.op rfl rfl ?_))
        refine WS.st1 (M51.focus 0 rfl) [_] [_, _, _, _, _, _, _, _, _, _, _, _] rfl rfl rfl rfl rfl (Nat.le_of_ble_eq_true rfl) (Nat.le_of_ble_eq_true rfl) rfl rfl ?_
        intro h52 M53
        replace M53 : Mem _ _ ([(p7, _)] :: [(p4, _)] :: [(p1, _)] :: []) _ := M53
        refine WS.nil [(1, _), (3, _), (4, _), (5, _)] rfl ?_
        refine WC.draw M53 [] rfl ?_
        intro rb54 h55 M56
        refine WS.op rfl rfl (WS.op rfl rfl (WS.op rfl (op_ld (M56.at 2 rfl) rfl rfl) (WS.op rfl rfl (WS.op rfl (op_ld (M56.at 2 rfl) rfl rfl) (WS.op rfl rfl (WS.op rfl (op_ld (M56.at 2 rfl) rfl rfl) ?_))))))
        refine WS.call rfl rfl rfl (text_ran M56.here (l := c.ky) (by omega)) ?_
        rintro _ h57 ⟨rfl, N58⟩
        have M59 := M56.trans N58
        refine WS.chk rfl (op_ld (M59.at 2 rfl) rfl rfl) rfl (sameV_refl rfl) (WS.chk rfl (op_ld (M59.at 2 rfl) rfl rfl) rfl (sameV_refl rfl) (WS.op rfl (op_sadd (l := (([c.op] ++ (vb ((c.se).toNat))) ++ (vb ((c.sq).toNat)))) (m := (sb c.ky)) rfl rfl (by simp only [List.length_append, List.length_cons, List.length_nil]; omega)) ?_))
        refine WS.call rfl rfl rfl (text_ran M59.here (l := c.va) (by omega)) ?_
        rintro _ h60 ⟨rfl, N61⟩
        have M62 := M59.trans N61
        refine WS.chk rfl (op_ld (M62.at 2 rfl) rfl rfl) rfl (sameV_refl rfl) (WS.op rfl (op_sadd (l := ((([c.op] ++ (vb ((c.se).toNat))) ++ (vb ((c.sq).toNat))) ++ (sb c.ky))) (m := (sb c.va)) rfl rfl (by simp only [List.length_append, List.length_cons, List.length_nil]; omega)) ?_)
        refine WS.call rfl rfl rfl (ref_One_ran M62.here (n := ((c.le).toNat)) (by omega)) ?_
        rintro _ h63 ⟨rfl, N64⟩
        have M65 := M62.trans N64
        refine WS.op rfl (op_sadd (l := (((([c.op] ++ (vb ((c.se).toNat))) ++ (vb ((c.sq).toNat))) ++ (sb c.ky)) ++ (sb c.va))) (m := (vb ((c.le).toNat))) rfl rfl (by simp only [List.length_append, List.length_cons, List.length_nil]; omega)) (WS.op rfl rfl (WS.nil [(3, _), (4, _), (5, _)] rfl ?_))
        refine WC.seq ?_
        refine WC.draw M65.bare [] rfl ?_
        intro rb67 h68 M69
        refine WS.op rfl rfl (WS.op rfl (op_lds [_, _, _, _, _, _, _, _, _, _, _, _] (M69.at 0 rfl) rfl (Nat.le_of_ble_eq_true rfl) rfl) (WS.op rfl rfl ?_))
        refine WS.st1 (M69.focus 1 rfl) [_, _, _, _, _, _, _, _, _, _, _, _] [_, _, _, _, _, _, _, _, _, _, _, _] rfl rfl rfl rfl rfl (Nat.le_of_ble_eq_true rfl) (Nat.le_of_ble_eq_true rfl) rfl rfl ?_
        intro h70 M71
        replace M71 : Mem _ _ ([(p4, _)] :: [(p7, _)] :: [(p1, _)] :: []) _ := M71
        refine WS.nil [(2, _), (3, _)] rfl ?_
        refine WC.ret ?_
        refine ⟨[_, _], (res_tmp rfl (res_cellN [_, _, _, _, _, _, _, _, _, _, _, _] rfl (M71.bare.at 0 rfl) (Nat.le_of_ble_eq_true rfl) rfl res_nil)), ?_⟩
        obtain ⟨q1, q2⟩ := enc_2 (c := c) (by omega)
        have q3 : encC c = ((((([c.op] ++ (vb ((c.se).toNat))) ++ (vb ((c.sq).toNat))) ++ (sb c.ky)) ++ (sb c.va)) ++ (vb ((c.le).toNat))) := by unfold encC; rw [q2]; simp [headB]
        rw [q1, q3]
        exact ⟨_, fun _ _ => .nil, rfl, M71.bare.bare.take 0⟩
      · skip
        refine WS.op rfl rfl (WS.nil [(1, _), (3, _), (4, _), (5, _), (28, _), (40, _)] rfl ?_)
        refine WC.condF rfl ?_
        refine WC.seq ?_
        refine WC.seq ?_
        refine WC.run ?_
        refine WS.eqlN (a := (c.op).toNat) (b := 3) rfl rfl rfl (fun e65 => ?_) (fun e65 => ?_)
        · skip
          refine WS.op rfl rfl (WS.nil [(1, _), (3, _), (4, _), (5, _), (28, _), (64, _)] rfl ?_)
          refine WC.condT rfl ?_
          refine WC.skip ?_
          refine WC.condT rfl ?_
          refine WC.seq ?_
          refine WC.run ?_
          refine WS.op rfl rfl (WS.op rfl (op_ld (M24.bare.at 2 rfl) rfl rfl) (WS.op rfl rfl ?_))
          refine WS.st1 (M24.bare.focus 0 rfl) [_] [_, _, _, _, _, _, _, _, _, _, _, _] rfl rfl rfl rfl rfl (Nat.le_of_ble_eq_true rfl) (Nat.le_of_ble_eq_true rfl) rfl rfl ?_
          intro h72 M73
          replace M73 : Mem _ _ ([(p7, _)] :: [(p4, _)] :: [(p1, _)] :: []) _ := M73
          refine WS.nil [(1, _), (3, _), (4, _), (5, _)] rfl ?_
          refine WC.run ?_
          refine WS.op rfl rfl (WS.op rfl rfl (WS.op rfl (op_ld (M73.at 2 rfl) rfl rfl) ?_))
          refine WS.call rfl rfl rfl (text_ran M73.here (l := c.ky) (by omega)) ?_
          rintro _ h74 ⟨rfl, N75⟩
          have M76 := M73.trans N75
          refine WS.op rfl (op_sadd (l := (([c.op] ++ (vb ((c.se).toNat))) ++ (vb ((c.sq).toNat)))) (m := (sb c.ky)) rfl rfl (by simp only [List.length_append, List.length_cons, List.length_nil]; omega)) (WS.op rfl rfl (WS.nil [(3, _), (4, _), (5, _)] rfl ?_))
          refine WC.seq ?_
          refine WC.draw M76 [] rfl ?_
          intro rb77 h78 M79
          refine WS.op rfl rfl (WS.op rfl (op_lds [_, _, _, _, _, _, _, _, _, _, _, _] (M79.at 0 rfl) rfl (Nat.le_of_ble_eq_true rfl) rfl) (WS.op rfl rfl ?_))
          refine WS.st1 (M79.focus 1 rfl) [_, _, _, _, _, _, _, _, _, _, _, _] [_, _, _, _, _, _, _, _, _, _, _, _] rfl rfl rfl rfl rfl (Nat.le_of_ble_eq_true rfl) (Nat.le_of_ble_eq_true rfl) rfl rfl ?_
          intro h80 M81
          replace M81 : Mem _ _ ([(p4, _)] :: [(p7, _)] :: [(p1, _)] :: []) _ := M81
          refine WS.nil [(2, _), (3, _)] rfl ?_
          refine WC.ret ?_
          refine ⟨[_, _], (res_tmp rfl (res_cellN [_, _, _, _, _, _, _, _, _, _, _, _] rfl (M81.bare.at 0 rfl) (Nat.le_of_ble_eq_true rfl) rfl res_nil)), ?_⟩
          obtain ⟨q1, q2⟩ := enc_3 (c := c) (by omega)
          have q3 : encC c = ((([c.op] ++ (vb ((c.se).toNat))) ++ (vb ((c.sq).toNat))) ++ (sb c.ky)) := by unfold encC; rw [q2]; simp [headB]
          rw [q1, q3]
          exact ⟨_, fun _ _ => .nil, rfl, M81.bare.bare.take 0⟩
        · skip
          refine WS.op rfl rfl (WS.nil [(1, _), (3, _), (4, _), (5, _), (28, _), (64, _)] rfl ?_)
          refine WC.condF rfl ?_
          refine WC.run ?_
          refine WS.eqlN (a := (c.op).toNat) (b := 8) rfl rfl rfl (fun e66 => ?_) (fun e66 => ?_)
          · skip
            refine WS.op rfl rfl (WS.nil [(1, _), (3, _), (4, _), (5, _), (28, _), (64, _)] rfl ?_)
            refine WC.condT rfl ?_
            refine WC.seq ?_
            refine WC.run ?_
            refine WS.op rfl rfl (WS.op rfl (op_ld (M24.bare.at 2 rfl) rfl rfl) (WS.op rfl rfl ?_))
            refine WS.st1 (M24.bare.focus 0 rfl) [_] [_, _, _, _, _, _, _, _, _, _, _, _] rfl rfl rfl rfl rfl (Nat.le_of_ble_eq_true rfl) (Nat.le_of_ble_eq_true rfl) rfl rfl ?_
            intro h82 M83
            replace M83 : Mem _ _ ([(p7, _)] :: [(p4, _)] :: [(p1, _)] :: []) _ := M83
            refine WS.nil [(1, _), (3, _), (4, _), (5, _)] rfl ?_
            refine WC.run ?_
            refine WS.op rfl rfl (WS.op rfl rfl (WS.op rfl (op_ld (M83.at 2 rfl) rfl rfl) ?_))
            refine WS.call rfl rfl rfl (text_ran M83.here (l := c.ky) (by omega)) ?_
            rintro _ h84 ⟨rfl, N85⟩
            have M86 := M83.trans N85
            refine WS.op rfl (op_sadd (l := (([c.op] ++ (vb ((c.se).toNat))) ++ (vb ((c.sq).toNat)))) (m := (sb c.ky)) rfl rfl (by simp only [List.length_append, List.length_cons, List.length_nil]; omega)) (WS.op rfl rfl (WS.nil [(3, _), (4, _), (5, _)] rfl ?_))
            refine WC.seq ?_
            refine WC.draw M86 [] rfl ?_
            intro rb87 h88 M89
            refine WS.op rfl rfl (WS.op rfl (op_lds [_, _, _, _, _, _, _, _, _, _, _, _] (M89.at 0 rfl) rfl (Nat.le_of_ble_eq_true rfl) rfl) (WS.op rfl rfl ?_))
            refine WS.st1 (M89.focus 1 rfl) [_, _, _, _, _, _, _, _, _, _, _, _] [_, _, _, _, _, _, _, _, _, _, _, _] rfl rfl rfl rfl rfl (Nat.le_of_ble_eq_true rfl) (Nat.le_of_ble_eq_true rfl) rfl rfl ?_
            intro h90 M91
            replace M91 : Mem _ _ ([(p4, _)] :: [(p7, _)] :: [(p1, _)] :: []) _ := M91
            refine WS.nil [(2, _), (3, _)] rfl ?_
            refine WC.ret ?_
            refine ⟨[_, _], (res_tmp rfl (res_cellN [_, _, _, _, _, _, _, _, _, _, _, _] rfl (M91.bare.at 0 rfl) (Nat.le_of_ble_eq_true rfl) rfl res_nil)), ?_⟩
            obtain ⟨q1, q2⟩ := enc_3 (c := c) (by omega)
            have q3 : encC c = ((([c.op] ++ (vb ((c.se).toNat))) ++ (vb ((c.sq).toNat))) ++ (sb c.ky)) := by unfold encC; rw [q2]; simp [headB]
            rw [q1, q3]
            exact ⟨_, fun _ _ => .nil, rfl, M91.bare.bare.take 0⟩
          · skip
            refine WS.op rfl rfl (WS.nil [(1, _), (3, _), (4, _), (5, _), (28, _), (64, _)] rfl ?_)
            refine WC.condF rfl ?_
            refine WC.seq ?_
            refine WC.run ?_
            refine WS.eqlN (a := (c.op).toNat) (b := 4) rfl rfl rfl (fun e76 => ?_) (fun e76 => ?_)
            · skip
              refine WS.op rfl rfl (WS.nil [(1, _), (3, _), (4, _), (5, _), (28, _), (75, _)] rfl ?_)
              refine WC.condT rfl ?_
              refine WC.seq ?_
              refine WC.run ?_
              refine WS.op rfl rfl (WS.op rfl (op_ld (M24.bare.at 2 rfl) rfl rfl) (WS.op rfl rfl ?_))
              refine WS.st1 (M24.bare.focus 0 rfl) [_] [_, _, _, _, _, _, _, _, _, _, _, _] rfl rfl rfl rfl rfl (Nat.le_of_ble_eq_true rfl) (Nat.le_of_ble_eq_true rfl) rfl rfl ?_
              intro h92 M93
              replace M93 : Mem _ _ ([(p7, _)] :: [(p4, _)] :: [(p1, _)] :: []) _ := M93
              refine WS.nil [(1, _), (3, _), (4, _), (5, _)] rfl ?_
              refine WC.seq ?_
              refine WC.run ?_
              refine WS.op rfl rfl (WS.op rfl (op_ld (M93.at 2 rfl) rfl rfl) (WS.op rfl rfl ?_))
              refine WS.st1 (M93.focus 0 rfl) [_] [_, _, _, _, _, _, _, _, _, _, _, _] rfl rfl rfl rfl rfl (Nat.le_of_ble_eq_true rfl) (Nat.le_of_ble_eq_true rfl) rfl rfl ?_
              intro h94 M95
              replace M95 : Mem _ _ ([(p7, _)] :: [(p4, _)] :: [(p1, _)] :: []) _ := M95
              refine WS.nil [(1, _), (3, _), (4, _), (5, _)] rfl ?_
              refine WC.seq ?_
              refine WC.run ?_
              refine WS.op rfl rfl (WS.op rfl (op_ld (M95.at 2 rfl) rfl rfl) (WS.op rfl rfl ?_))
              refine WS.st1 (M95.focus 0 rfl) [_] [_, _, _, _, _, _, _, _, _, _, _, _] rfl rfl rfl rfl rfl (Nat.le_of_ble_eq_true rfl) (Nat.le_of_ble_eq_true rfl) rfl rfl ?_
              intro h96 M97
              replace M97 : Mem _ _ ([(p7, _)] :: [(p4, _)] :: [(p1, _)] :: []) _ := M97
              refine WS.nil [(1, _), (3, _), (4, _), (5, _)] rfl ?_
              refine WC.draw M97 [] rfl ?_
              intro rb98 h99 M100
              refine WS.op rfl rfl (WS.op rfl rfl (WS.op rfl (op_ld (M100.at 2 rfl) rfl rfl) (WS.op rfl rfl (WS.op rfl (op_ld (M100.at 2 rfl) rfl rfl) (WS.op rfl rfl (WS.op rfl (op_ld (M100.at 2 rfl) rfl rfl) ?_))))))
              refine WS.call rfl rfl rfl (text_ran M100.here (l := c.ky) (by omega)) ?_
              rintro _ h101 ⟨rfl, N102⟩
              have M103 := M100.trans N102
              refine WS.chk rfl (op_ld (M103.at 2 rfl) rfl rfl) rfl (sameV_refl rfl) (WS.chk rfl (op_ld (M103.at 2 rfl) rfl rfl) rfl (sameV_refl rfl) (WS.op rfl (op_sadd (l := (([c.op] ++ (vb ((c.se).toNat))) ++ (vb ((c.sq).toNat)))) (m := (sb c.ky)) rfl rfl (by simp only [List.length_append, List.length_cons, List.length_nil]; omega)) ?_))
              refine WS.call rfl rfl rfl (text_ran M103.here (l := c.ex) (by omega)) ?_
              rintro _ h104 ⟨rfl, N105⟩
              have M106 := M103.trans N105
              refine WS.chk rfl (op_ld (M106.at 2 rfl) rfl rfl) rfl (sameV_refl rfl) (WS.op rfl (op_sadd (l := ((([c.op] ++ (vb ((c.se).toNat))) ++ (vb ((c.sq).toNat))) ++ (sb c.ky))) (m := (sb c.ex)) rfl rfl (by simp only [List.length_append, List.length_cons, List.length_nil]; omega)) ?_)
              refine WS.call rfl rfl rfl (text_ran M106.here (l := c.va) (by omega)) ?_
              rintro _ h107 ⟨rfl, N108⟩
              have M109 := M106.trans N108
              refine WS.op rfl (op_sadd (l := (((([c.op] ++ (vb ((c.se).toNat))) ++ (vb ((c.sq).toNat))) ++ (sb c.ky)) ++ (sb c.ex))) (m := (sb c.va)) rfl rfl (by simp only [List.length_append, List.length_cons, List.length_nil]; omega)) (WS.op rfl rfl (WS.nil [(3, _), (4, _), (5, _)] rfl ?_))
              refine WC.seq ?_
              refine WC.draw M109.bare [] rfl ?_
              intro rb110 h111 M112
              refine WS.op rfl rfl (WS.op rfl (op_lds [_, _, _, _, _, _, _, _, _, _, _, _] (M112.at 0 rfl) rfl (Nat.le_of_ble_eq_true rfl) rfl) (WS.op rfl rfl ?_))
              refine WS.st1 (M112.focus 1 rfl) [_, _, _, _, _, _, _, _, _, _, _, _] [_, _, _, _, _, _, _, _, _, _, _, _] rfl rfl rfl rfl rfl (Nat.le_of_ble_eq_true rfl) (Nat.le_of_ble_eq_true rfl) rfl rfl ?_
              intro h113 M114
              replace M114 : Mem _ _ ([(p4, _)] :: [(p7, _)] :: [(p1, _)] :: []) _ := M114
              refine WS.nil [(2, _), (3, _)] rfl ?_
              refine WC.ret ?_
              refine ⟨[_, _], (res_tmp rfl (res_cellN [_, _, _, _, _, _, _, _, _, _, _, _] rfl (M114.bare.at 0 rfl) (Nat.le_of_ble_eq_true rfl) rfl res_nil)), ?_⟩
              obtain ⟨q1, q2⟩ := enc_4 (c := c) (by omega)
              have q3 : encC c = ((((([c.op] ++ (vb ((c.se).toNat))) ++ (vb ((c.sq).toNat))) ++ (sb c.ky)) ++ (sb c.ex)) ++ (sb c.va)) := by unfold encC; rw [q2]; simp [headB]
              rw [q1, q3]
              exact ⟨_, fun _ _ => .nil, rfl, M114.bare.bare.take 0⟩
            · skip
              refine WS.op rfl rfl (WS.nil [(1, _), (3, _), (4, _), (5, _), (28, _), (75, _)] rfl ?_)
              refine WC.condF rfl ?_
              refine WC.seq ?_
              refine WC.run ?_
              refine WS.eqlN (a := (c.op).toNat) (b := 5) rfl rfl rfl (fun e100 => ?_) (fun e100 => ?_)
              · skip
                refine WS.op rfl rfl (WS.nil [(1, _), (3, _), (4, _), (5, _), (28, _), (99, _)] rfl ?_)
                refine WC.condT rfl ?_
                refine WC.seq ?_
                refine WC.run ?_
                refine WS.op rfl rfl (WS.op rfl (op_ld (M24.bare.at 2 rfl) rfl rfl) (WS.op rfl rfl ?_))
                refine WS.st1 (M24.bare.focus 0 rfl) [_] [_, _, _, _, _, _, _, _, _, _, _, _] rfl rfl rfl rfl rfl (Nat.le_of_ble_eq_true rfl) (Nat.le_of_ble_eq_true rfl) rfl rfl ?_
                intro h115 M116
                replace M116 : Mem _ _ ([(p7, _)] :: [(p4, _)] :: [(p1, _)] :: []) _ := M116
                refine WS.nil [(1, _), (3, _), (4, _), (5, _)] rfl ?_
                refine WC.seq ?_
                refine WC.run ?_
                refine WS.op rfl rfl (WS.op rfl rfl (WS.op rfl (op_ld (M116.at 2 rfl) rfl rfl) (WS.op rfl (op_lenVS A rfl) ?_)))
                refine WS.call rfl rfl rfl (one_ran M116.here (n := (c.ps).length) (b := UInt8.ofNat ((c.ps).length)) (by first | rfl | simp)) ?_
                rintro _ h117 ⟨rfl, N118⟩
                have M119 := M116.trans N118
                refine WS.op rfl (op_sadd (l := (([c.op] ++ (vb ((c.se).toNat))) ++ (vb ((c.sq).toNat)))) (m := [UInt8.ofNat ((c.ps).length)]) rfl rfl (by simp only [List.length_append, List.length_cons, List.length_nil]; omega)) (WS.op rfl rfl (WS.nil [(1, _), (3, _), (4, _), (5, _)] rfl ?_))
                refine WC.seq ?_
                refine WC.run ?_
                refine WS.op rfl rfl (WS.nil [(1, _), (3, _), (4, _), (5, _), (6, _)] rfl ?_)
                refine WC.block ?_
                obtain ⟨L120, eL122, M121⟩ := Mem.name M119.bare
                refine WC.loop (σ := List UInt8 × Nat) (fun ((out, i)) => [(1, (.pointer (some ⟨p1, 0, none⟩))), (3, (.pointer (some ⟨p4, 0, none⟩))), (4, (.pointer (some ⟨p7, 0, none⟩))), (5, (.string (bs out))), (6, (.int .i64 ((i : Nat) : Int)))]) (fun ((out, i)) hh => Mem h hh (L120) [] ∧ out = (headB c ++ [UInt8.ofNat c.ps.length]) ++ (c.ps.take i).flatMap partB ∧ i ≤ c.ps.length ∧ out.length ≤ 100 + 11000 * i) (fun ((out, i)) => c.ps.length - i) (((([c.op] ++ (vb ((c.se).toNat))) ++ (vb ((c.sq).toNat))) ++ [UInt8.ofNat ((c.ps).length)]), 0) rfl ⟨M121, ?_⟩ ?_
                · exact ⟨by simp [headB], by omega, by simp only [List.length_append, List.length_cons, List.length_nil]; omega⟩
                · rintro ⟨out, i⟩ h123 ⟨M124, ⟨hO, hi1, hol⟩⟩
                  subst eL122
                  refine WC.env [(1, _), (3, _), (4, _), (5, _), (6, _)] rfl ?_
                  refine WC.seq ?_
                  refine WC.seq ?_
                  refine WC.run ?_
                  refine WS.op rfl rfl (WS.op rfl rfl (WS.op rfl (op_ld (M124.at 2 rfl) rfl rfl) (WS.op rfl (op_lenVS A rfl) ?_)))
                  refine WS.lssN (a := i) (b := (c.ps).length) rfl rfl rfl (fun e114 => ?_) (fun e114 => ?_)
                  · skip
                    refine WS.nil [(1, _), (3, _), (4, _), (5, _), (6, _), (114, _)] rfl ?_
                    refine WC.condT rfl ?_
                    refine WC.skip ?_
                    refine WC.seq ?_
                    refine WC.block ?_
                    refine WC.seq ?_
                    refine WC.run ?_
                    refine WS.op rfl rfl (WS.op rfl (op_ld (M124.at 2 rfl) rfl rfl) (WS.op rfl rfl ?_))
                    obtain ⟨y120, hy120⟩ : ∃ y, (c.ps)[i]? = some y := ⟨_, List.getElem?_eq_getElem (show i < (c.ps).length by first | omega | (simp only [List.length_drop, List.length_take, List.length_append, List.length_cons, List.length_nil, List.length_singleton]; omega) | (simp only [List.length_drop, List.length_take, List.length_append, List.length_cons, List.length_nil, List.length_singleton] at *; omega))⟩
                    refine WS.iaVS A i hy120 rfl rfl rfl rfl ?_
                    intro b120_ o120_ ha120
                    refine WS.op rfl (op_ldAt rfl (ha120.mono M124.sub) rfl) ?_
                    refine WS.new M124 rfl ?_
                    intro p125 h126 M127
                    refine WS.st1 (M127.focus 0 rfl) [_, _, _] [_, _, _] rfl rfl rfl rfl rfl (Nat.le_of_ble_eq_true rfl) (Nat.le_of_ble_eq_true rfl) rfl rfl ?_
                    intro h128 M129
                    replace M129 : Mem _ _ ([(p125, _)] :: [(p7, _)] :: [(p4, _)] :: [(p1, _)] :: []) _ := M129
                    refine WS.nil [(1, _), (3, _), (4, _), (5, _), (6, _), (7, _)] rfl ?_
                    refine WC.seq ?_
                    refine WC.draw M129 [] rfl ?_
                    intro rb130 h131 M132
                    refine WS.op rfl rfl (WS.op rfl rfl (WS.op rfl (op_ld (M132.at 0 rfl) rfl rfl) (WS.opV (.int .i64 (((y120.op).toNat : Nat) : Int)) rfl rfl (cv_i64 (n := (y120.op).toNat) (by have := UInt8.toNat_lt (y120.op); omega)) (WS.op rfl rfl (WS.op rfl (op_ld (M132.at 0 rfl) rfl rfl) ?_)))))
                    refine WS.call rfl rfl rfl (one_ran M132.here (n := (y120.op).toNat) (b := y120.op) (by first | rfl | simp)) ?_
                    rintro _ h133 ⟨rfl, N134⟩
                    have M135 := M132.trans N134
                    refine WS.chk rfl (op_ld (M135.at 0 rfl) rfl rfl) rfl (sameV_refl rfl) (WS.op rfl (op_sadd (l := out) (m := [y120.op]) rfl rfl (by simp only [List.length_append, List.length_cons, List.length_nil]; omega)) ?_)
                    have t1 := sb_len3 (f7 _ (List.mem_of_getElem? hy120)).1
                    have t0 := f7 _ (List.mem_of_getElem? hy120)
                    refine WS.call rfl rfl rfl (text_ran M135.here (l := y120.ky) (by omega)) ?_
                    rintro _ h136 ⟨rfl, N137⟩
                    have M138 := M135.trans N137
                    refine WS.op rfl (op_sadd (l := (out ++ [y120.op])) (m := (sb y120.ky)) rfl rfl (by simp only [List.length_append, List.length_cons, List.length_nil]; omega)) (WS.op rfl rfl (WS.nil [(1, _), (3, _), (4, _), (5, _), (6, _), (7, _)] rfl ?_))
                    refine WC.seq ?_
                    refine WC.run ?_
                    refine WS.op rfl rfl (WS.op rfl (op_ld (M138.bare.at 0 rfl) rfl rfl) ?_)
                    refine WS.eqlN (a := (y120.op).toNat) (b := 2) rfl rfl rfl (fun e134 => ?_) (fun e134 => ?_)
                    · skip
                      refine WS.nil [(1, _), (3, _), (4, _), (5, _), (6, _), (7, _), (134, _)] rfl ?_
                      refine WC.condT rfl ?_
                      refine WC.run ?_
                      refine WS.op rfl rfl (WS.op rfl rfl (WS.op rfl (op_ld (M138.bare.at 0 rfl) rfl rfl) ?_))
                      have t2 := sb_len3 (f7 _ (List.mem_of_getElem? hy120)).2
                      refine WS.call rfl rfl rfl (text_ran M138.bare.here (l := y120.va) (by omega)) ?_
                      rintro _ h139 ⟨rfl, N140⟩
                      have M141 := M138.bare.trans N140
                      refine WS.op rfl (op_sadd (l := ((out ++ [y120.op]) ++ (sb y120.ky))) (m := (sb y120.va)) rfl rfl (by simp only [List.length_append, List.length_cons, List.length_nil]; omega)) (WS.op rfl rfl (WS.nil [(1, _), (3, _), (4, _), (5, _), (6, _)] rfl ?_))
                      refine WC.run ?_
                      refine WS.op rfl rfl (WS.opV (.int .i64 (((i + 1) : Nat) : Int)) rfl rfl (add_i64 (a := i) (b := 1) (by omega)) (WS.op rfl rfl (WS.nil [(1, _), (3, _), (4, _), (5, _), (6, _)] rfl ?_)))
                      refine ⟨((((out ++ [y120.op]) ++ (sb y120.ky)) ++ (sb y120.va)), i + 1), rfl, ⟨((((M141.bare.focus 3 rfl).focus 3 rfl).focus 3 rfl).take 3), ?_⟩, ?_⟩
                      · exact ⟨by rw [flatMap_take_succ partB hy120, hO]; unfold partB; first | (rw [if_pos (by assumption)]; simp; done) | (rw [if_neg (by assumption)]; simp; done), by omega, by simp only [List.length_append, List.length_cons, List.length_nil]; omega⟩
                      · simp only []; omega
                    · skip
                      refine WS.nil [(1, _), (3, _), (4, _), (5, _), (6, _), (7, _), (134, _)] rfl ?_
                      refine WC.condF rfl ?_
                      refine WC.skip ?_
                      refine WC.run ?_
                      refine WS.op rfl rfl (WS.opV (.int .i64 (((i + 1) : Nat) : Int)) rfl rfl (add_i64 (a := i) (b := 1) (by omega)) (WS.op rfl rfl (WS.nil [(1, _), (3, _), (4, _), (5, _), (6, _)] rfl ?_)))
                      refine ⟨(((out ++ [y120.op]) ++ (sb y120.ky)), i + 1), rfl, ⟨((((M138.bare.bare.focus 3 rfl).focus 3 rfl).focus 3 rfl).take 3), ?_⟩, ?_⟩
                      · exact ⟨by rw [flatMap_take_succ partB hy120, hO]; unfold partB; first | (rw [if_pos (by assumption)]; simp; done) | (rw [if_neg (by assumption)]; simp; done), by omega, by simp only [List.length_append, List.length_cons, List.length_nil]; omega⟩
                      · simp only []; omega
                  · skip
                    refine WS.nil [(1, _), (3, _), (4, _), (5, _), (6, _), (114, _)] rfl ?_
                    refine WC.condF rfl ?_
                    refine WC.exit ?_
                    refine WC.seq ?_
                    refine WC.draw M124 [] rfl ?_
                    intro rb142 h143 M144
                    refine WS.op rfl rfl (WS.op rfl (op_lds [_, _, _, _, _, _, _, _, _, _, _, _] (M144.at 0 rfl) rfl (Nat.le_of_ble_eq_true rfl) rfl) (WS.op rfl rfl ?_))
                    refine WS.st1 (M144.focus 1 rfl) [_, _, _, _, _, _, _, _, _, _, _, _] [_, _, _, _, _, _, _, _, _, _, _, _] rfl rfl rfl rfl rfl (Nat.le_of_ble_eq_true rfl) (Nat.le_of_ble_eq_true rfl) rfl rfl ?_
                    intro h145 M146
                    replace M146 : Mem _ _ ([(p4, _)] :: [(p7, _)] :: [(p1, _)] :: []) _ := M146
                    refine WS.nil [(2, _), (3, _)] rfl ?_
                    refine WC.ret ?_
                    refine ⟨[_, _], (res_tmp rfl (res_cellN [_, _, _, _, _, _, _, _, _, _, _, _] rfl (M146.bare.at 0 rfl) (Nat.le_of_ble_eq_true rfl) rfl res_nil)), ?_⟩
                    obtain ⟨q1, q2⟩ := enc_5 (c := c) (by omega)
                    have q3 : encC c = out := by unfold encC; rw [q2]; rw [hO, List.take_of_length_le (by omega)]; simp
                    rw [q1, q3]
                    exact ⟨_, fun _ q => q, rfl, M146.bare.bare.take 0⟩
              · skip
                refine WS.op rfl rfl (WS.nil [(1, _), (3, _), (4, _), (5, _), (28, _), (99, _)] rfl ?_)
                refine WC.condF rfl ?_
                refine WC.seq ?_
                refine WC.run ?_
                refine WS.eqlN (a := (c.op).toNat) (b := 7) rfl rfl rfl (fun e141 => ?_) (fun e141 => ?_)
                · skip
                  refine WS.op rfl rfl (WS.nil [(1, _), (3, _), (4, _), (5, _), (28, _), (140, _)] rfl ?_)
                  refine WC.condT rfl ?_
                  refine WC.seq ?_
                  refine WC.run ?_
                  refine WS.op rfl rfl (WS.op rfl (op_ld (M24.bare.at 2 rfl) rfl rfl) (WS.op rfl rfl ?_))
                  refine WS.st1 (M24.bare.focus 0 rfl) [_] [_, _, _, _, _, _, _, _, _, _, _, _] rfl rfl rfl rfl rfl (Nat.le_of_ble_eq_true rfl) (Nat.le_of_ble_eq_true rfl) rfl rfl ?_
                  intro h147 M148
                  replace M148 : Mem _ _ ([(p7, _)] :: [(p4, _)] :: [(p1, _)] :: []) _ := M148
                  refine WS.nil [(1, _), (3, _), (4, _), (5, _)] rfl ?_
                  refine WC.run ?_
                  refine WS.op rfl rfl (WS.op rfl rfl (WS.op rfl (op_ld (M148.at 2 rfl) rfl rfl) ?_))
                  refine WS.call rfl rfl rfl (ref_One_ran M148.here (n := ((c.le).toNat)) (by omega)) ?_
                  rintro _ h149 ⟨rfl, N150⟩
                  have M151 := M148.trans N150
                  refine WS.op rfl (op_sadd (l := (([c.op] ++ (vb ((c.se).toNat))) ++ (vb ((c.sq).toNat)))) (m := (vb ((c.le).toNat))) rfl rfl (by simp only [List.length_append, List.length_cons, List.length_nil]; omega)) (WS.op rfl rfl (WS.nil [(3, _), (4, _), (5, _)] rfl ?_))
                  refine WC.seq ?_
                  refine WC.draw M151 [] rfl ?_
                  intro rb153 h154 M155
                  refine WS.op rfl rfl (WS.op rfl (op_lds [_, _, _, _, _, _, _, _, _, _, _, _] (M155.at 0 rfl) rfl (Nat.le_of_ble_eq_true rfl) rfl) (WS.op rfl rfl ?_))
                  refine WS.st1 (M155.focus 1 rfl) [_, _, _, _, _, _, _, _, _, _, _, _] [_, _, _, _, _, _, _, _, _, _, _, _] rfl rfl rfl rfl rfl (Nat.le_of_ble_eq_true rfl) (Nat.le_of_ble_eq_true rfl) rfl rfl ?_
                  intro h156 M157
                  replace M157 : Mem _ _ ([(p4, _)] :: [(p7, _)] :: [(p1, _)] :: []) _ := M157
                  refine WS.nil [(2, _), (3, _)] rfl ?_
                  refine WC.ret ?_
                  refine ⟨[_, _], (res_tmp rfl (res_cellN [_, _, _, _, _, _, _, _, _, _, _, _] rfl (M157.bare.at 0 rfl) (Nat.le_of_ble_eq_true rfl) rfl res_nil)), ?_⟩
                  obtain ⟨q1, q2⟩ := enc_7 (c := c) (by omega)
                  have q3 : encC c = ((([c.op] ++ (vb ((c.se).toNat))) ++ (vb ((c.sq).toNat))) ++ (vb ((c.le).toNat))) := by unfold encC; rw [q2]; simp [headB]
                  rw [q1, q3]
                  exact ⟨_, fun _ _ => .nil, rfl, M157.bare.bare.take 0⟩
                · skip
                  refine WS.op rfl rfl (WS.nil [(1, _), (3, _), (4, _), (5, _), (28, _), (140, _)] rfl ?_)
                  refine WC.condF rfl ?_
                  refine WC.seq ?_
                  refine WC.run ?_
                  refine WS.eqlN (a := (c.op).toNat) (b := 9) rfl rfl rfl (fun e151 => ?_) (fun e151 => ?_)
                  · skip
                    refine WS.op rfl rfl (WS.nil [(1, _), (3, _), (4, _), (5, _), (150, _)] rfl ?_)
                    refine WC.condT rfl ?_
                    refine WC.seq ?_
                    refine WC.run ?_
                    refine WS.op rfl rfl (WS.op rfl (op_ld (M24.bare.at 2 rfl) rfl rfl) (WS.op rfl rfl ?_))
                    refine WS.st1 (M24.bare.focus 0 rfl) [_] [_, _, _, _, _, _, _, _, _, _, _, _] rfl rfl rfl rfl rfl (Nat.le_of_ble_eq_true rfl) (Nat.le_of_ble_eq_true rfl) rfl rfl ?_
                    intro h158 M159
                    replace M159 : Mem _ _ ([(p7, _)] :: [(p4, _)] :: [(p1, _)] :: []) _ := M159
                    refine WS.nil [(1, _), (3, _), (4, _), (5, _)] rfl ?_
                    refine WC.seq ?_
                    refine WC.run ?_
                    refine WS.op rfl rfl (WS.op rfl (op_ld (M159.at 2 rfl) rfl rfl) (WS.op rfl rfl ?_))
                    refine WS.st1 (M159.focus 0 rfl) [_] [_, _, _, _, _, _, _, _, _, _, _, _] rfl rfl rfl rfl rfl (Nat.le_of_ble_eq_true rfl) (Nat.le_of_ble_eq_true rfl) rfl rfl ?_
                    intro h160 M161
                    replace M161 : Mem _ _ ([(p7, _)] :: [(p4, _)] :: [(p1, _)] :: []) _ := M161
                    refine WS.nil [(1, _), (3, _), (4, _), (5, _)] rfl ?_
                    refine WC.seq ?_
                    refine WC.run ?_
                    refine WS.op rfl rfl (WS.op rfl (op_ld (M161.at 2 rfl) rfl rfl) (WS.op rfl rfl ?_))
                    refine WS.st1 (M161.focus 0 rfl) [_] [_, _, _, _, _, _, _, _, _, _, _, _] rfl rfl rfl rfl rfl (Nat.le_of_ble_eq_true rfl) (Nat.le_of_ble_eq_true rfl) rfl rfl ?_
                    intro h162 M163
                    replace M163 : Mem _ _ ([(p7, _)] :: [(p4, _)] :: [(p1, _)] :: []) _ := M163
                    refine WS.nil [(1, _), (3, _), (4, _), (5, _)] rfl ?_
                    refine WC.draw M163 [] rfl ?_
                    intro rb164 h165 M166
                    refine WS.op rfl rfl (WS.op rfl rfl (WS.op rfl (op_ld (M166.at 2 rfl) rfl rfl) (WS.op rfl rfl (WS.op rfl (op_ld (M166.at 2 rfl) rfl rfl) (WS.op rfl rfl (WS.op rfl (op_ld (M166.at 2 rfl) rfl rfl) (WS.opV (.int .i64 (((c.li).toNat : Nat) : Int)) rfl rfl (cv_i64 (n := (c.li).toNat) (by have := UInt8.toNat_lt (c.li); omega)) ?_)))))))
                    refine WS.call rfl rfl rfl (text_ran M166.here (l := c.fr) (by omega)) ?_
                    rintro _ h167 ⟨rfl, N168⟩
                    have M169 := M166.trans N168
                    refine WS.chk rfl (op_ld (M169.at 2 rfl) rfl rfl) rfl (sameV_refl rfl) (WS.chk rfl (op_ld (M169.at 2 rfl) rfl rfl) rfl (sameV_refl rfl) (WS.op rfl (op_sadd (l := (([c.op] ++ (vb ((c.se).toNat))) ++ (vb ((c.sq).toNat)))) (m := (sb c.fr)) rfl rfl (by simp only [List.length_append, List.length_cons, List.length_nil]; omega)) ?_))
                    refine WS.call rfl rfl rfl (text_ran M169.here (l := c.to) (by omega)) ?_
                    rintro _ h170 ⟨rfl, N171⟩
                    have M172 := M169.trans N171
                    refine WS.chk rfl (op_ld (M172.at 2 rfl) rfl rfl) rfl (sameV_refl rfl) (WS.op rfl (op_sadd (l := ((([c.op] ++ (vb ((c.se).toNat))) ++ (vb ((c.sq).toNat))) ++ (sb c.fr))) (m := (sb c.to)) rfl rfl (by simp only [List.length_append, List.length_cons, List.length_nil]; omega)) ?_)
                    refine WS.call rfl rfl rfl (one_ran M172.here (n := (c.li).toNat) (b := c.li) (by first | rfl | simp)) ?_
                    rintro _ h173 ⟨rfl, N174⟩
                    have M175 := M172.trans N174
                    refine WS.op rfl (op_sadd (l := (((([c.op] ++ (vb ((c.se).toNat))) ++ (vb ((c.sq).toNat))) ++ (sb c.fr)) ++ (sb c.to))) (m := [c.li]) rfl rfl (by simp only [List.length_append, List.length_cons, List.length_nil]; omega)) (WS.op rfl rfl (WS.nil [(3, _), (4, _), (5, _)] rfl ?_))
                    refine WC.seq ?_
                    refine WC.draw M175.bare [] rfl ?_
                    intro rb176 h177 M178
                    refine WS.op rfl rfl (WS.op rfl (op_lds [_, _, _, _, _, _, _, _, _, _, _, _] (M178.at 0 rfl) rfl (Nat.le_of_ble_eq_true rfl) rfl) (WS.op rfl rfl ?_))
                    refine WS.st1 (M178.focus 1 rfl) [_, _, _, _, _, _, _, _, _, _, _, _] [_, _, _, _, _, _, _, _, _, _, _, _] rfl rfl rfl rfl rfl (Nat.le_of_ble_eq_true rfl) (Nat.le_of_ble_eq_true rfl) rfl rfl ?_
                    intro h179 M180
                    replace M180 : Mem _ _ ([(p4, _)] :: [(p7, _)] :: [(p1, _)] :: []) _ := M180
                    refine WS.nil [(2, _), (3, _)] rfl ?_
                    refine WC.ret ?_
                    refine ⟨[_, _], (res_tmp rfl (res_cellN [_, _, _, _, _, _, _, _, _, _, _, _] rfl (M180.bare.at 0 rfl) (Nat.le_of_ble_eq_true rfl) rfl res_nil)), ?_⟩
                    obtain ⟨q1, q2⟩ := enc_9 (c := c) (by omega)
                    have q3 : encC c = ((((([c.op] ++ (vb ((c.se).toNat))) ++ (vb ((c.sq).toNat))) ++ (sb c.fr)) ++ (sb c.to)) ++ [c.li]) := by unfold encC; rw [q2]; simp [headB]
                    rw [q1, q3]
                    exact ⟨_, fun _ _ => .nil, rfl, M180.bare.bare.take 0⟩
                  · skip
                    refine WS.op rfl rfl (WS.nil [(1, _), (3, _), (4, _), (5, _), (150, _)] rfl ?_)
                    refine WC.condF rfl ?_
                    refine WC.skip ?_
                    refine WC.seq ?_
                    refine WC.draw M24.bare [] rfl ?_
                    intro rb181 h182 M183
                    refine WS.op rfl rfl (WS.op rfl (op_lds [_, _, _, _, _, _, _, _, _, _, _, _] (M183.at 0 rfl) rfl (Nat.le_of_ble_eq_true rfl) rfl) (WS.op rfl rfl ?_))
                    refine WS.st1 (M183.focus 1 rfl) [_, _, _, _, _, _, _, _, _, _, _, _] [_, _, _, _, _, _, _, _, _, _, _, _] rfl rfl rfl rfl rfl (Nat.le_of_ble_eq_true rfl) (Nat.le_of_ble_eq_true rfl) rfl rfl ?_
                    intro h184 M185
                    replace M185 : Mem _ _ ([(p4, _)] :: [(p7, _)] :: [(p1, _)] :: []) _ := M185
                    refine WS.nil [(2, _), (3, _)] rfl ?_
                    refine WC.ret ?_
                    refine ⟨[_, _], (res_tmp rfl (res_cellN [_, _, _, _, _, _, _, _, _, _, _, _] rfl (M185.bare.at 0 rfl) (Nat.le_of_ble_eq_true rfl) rfl res_nil)), ?_⟩
                    obtain ⟨q1, q2⟩ := enc_0 (c := c) (by omega)
                    have q3 : encC c = (([c.op] ++ (vb ((c.se).toNat))) ++ (vb ((c.sq).toNat))) := by unfold encC; rw [q2]; simp [headB]
                    rw [q1, q3]
                    exact ⟨_, fun _ _ => .nil, rfl, M185.bare.bare.take 0⟩
end Go.Proofs.Ytncpdahappmhkaa.Wt
