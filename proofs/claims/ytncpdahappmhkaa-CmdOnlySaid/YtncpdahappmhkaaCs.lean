/- Results: their bytes; the statement CmdOthers, walked. -/
import Derived.Test.YtncpdahappmhkaaCr
import Derived.Test.YtncpdahappmhkaaAmZO
import Derived.KernelRfl
namespace Go.Proofs.Ytncpdahappmhkaa.Wt
open Go Go.Proofs.Ytncpdahappmhkaa.Am Go.Proofs.Ytncpdahappmhkaa.IrAll
set_option linter.unusedVariables false
set_option linter.unusedSimpArgs false
structure Rrow where
  ky : List UInt8
  va : List UInt8
  vn : UInt64
  deriving DecidableEq
def Rrow.cells (x : Rrow) : List Value := [(.string (bs x.ky)), (.string (bs x.va)), (.int .u64 (((x.vn).toNat : Nat) : Int))]
def KRrow : Row Rrow := ⟨Rrow.cells, 3, fun _ => rfl, by decide, fun _ => rfl⟩

theorem Rrow_eqV (x y : Rrow) : eqV (.agg [(0, 2), (1, 2), (2, 1)]) (.agg (Rrow.cells x).toArray) (.agg (Rrow.cells y).toArray) = some (decide (x = y)) := by
  have e : eqV (.agg [(0, 2), (1, 2), (2, 1)]) (.agg (Rrow.cells x).toArray) (.agg (Rrow.cells y).toArray) = some ((((bs x.ky).toList == (bs y.ky).toList) && (((bs x.va).toList == (bs y.va).toList) && ((((x.vn.toNat : Nat) : Int) == ((y.vn.toNat : Nat) : Int)) && true)))) := rfl
  rw [e]; congr 1
  rw [Bool.eq_iff_iff]
  simp only [Bool.and_eq_true, beq_iff_eq, bs_toList, decide_eq_true_eq, Bool.and_true, and_true]
  constructor
  · intro h
    obtain ⟨h0, h1, h2⟩ := h
    obtain ⟨⟩ := x; obtain ⟨⟩ := y
    simp only at *
    rw [h0, h1, u64_inj (Int.ofNat.inj h2)]
  · intro h; subst h; exact ⟨rfl, rfl, rfl⟩

structure Res where
  cd : UInt8
  n : UInt64
  va : List UInt8
  rs : List Rrow
  deriving DecidableEq
def Res.cells (r : Res) (V : Value) : List Value := [(.int .u8 (((r.cd).toNat : Nat) : Int)), (.int .u64 (((r.n).toNat : Nat) : Int)), (.string (bs r.va)), V]
def Res.val (r : Res) (V : Value) : Value := .agg (r.cells V).toArray
variable {h base : H} {L : List Seg} {R : List Nat}
def FitR (rs : List Rrow) : Prop := ∀ p ∈ rs, p.ky.length ≤ 5000 ∧ p.va.length ≤ 5000
def FitRes (r : Res) : Prop := r.va.length ≤ 5000 ∧ r.rs.length ≤ 5000 ∧ FitR r.rs
theorem FitR_snoc {es : List Rrow} {i : Nat} {y : Rrow} (h : FitR (es.take i)) (hy : es[i]? = some y) (hr : y.ky.length ≤ 5000 ∧ y.va.length ≤ 5000) : FitR (es.take (i + 1)) := by
  intro e he
  rw [List.take_add_one, hy] at he
  simp only [Option.toList_some, List.mem_append, List.mem_singleton] at he
  rcases he with he | he
  · exact h e he
  · subst he; exact hr
theorem GreatR_ran (W : Mem h h [] []) {r : Res} {V : Value} (A : KRrow.Sl h V r.rs) (hl : r.va.length < 9223372036854775808 ∧ r.rs.length < 9223372036854775808 ∧ ∀ p ∈ r.rs, p.ky.length < 9223372036854775808 ∧ p.va.length < 9223372036854775808) : Cll tab0 20 [r.val V] h (fun v h2 => (∃ g, v = .bool g ∧ (g = false → FitRes r)) ∧ Mem h h2 [] []) := by
  obtain ⟨P, n, rfl⟩ := A.shape
  obtain ⟨l1, l2, l3⟩ := hl
  refine Cll.code rfl rfl ?_
  refine WC.env [(0, _)] rfl ?_
  refine WC.seq ?_
  refine WC.run ?_
  refine WS.box W [_, _, _, _] rfl rfl rfl rfl ?_
  intro p1 h2 M3
  refine WS.op rfl rfl (WS.nil [(1, _)] rfl ?_)
  refine WC.seq ?_
  refine WC.seq ?_
  obtain ⟨L4, eL6, M5⟩ := Mem.name M3.bare
  refine WC.joinB (base := h) (fun b => [(1, (.pointer (some ⟨p1, 0, none⟩))), (13, .bool b)]) L4 (True) (r.va.length ≤ 5000 ∧ r.rs.length ≤ 5000) ?_ ?_ ?_
  · subst eL6
    refine WS.op rfl rfl (WS.op rfl (op_ld (M5.at 0 rfl) rfl rfl) (WS.op rfl (op_lenS (l := r.va) rfl) ?_))
    refine WS.gtrN (a := (r.va).length) (b := 3000) rfl rfl rfl (fun e7 => ?_) (fun e7 => ?_)
    · skip
      refine WS.op rfl rfl (WS.off rfl (WS.off rfl (WS.off rfl (WS.off rfl (WS.op rfl rfl ?_)))))
      refine WS.nil' ⟨true, rfl, ((M5.bare.focus 0 rfl).take 1), fun _ => ?_, fun hh => ?_⟩
      · trivial
      · cases hh
    · skip
      refine WS.op rfl rfl (WS.op rfl rfl (WS.op rfl (op_ld (M5.at 0 rfl) rfl rfl) (WS.op rfl (op_lenVS A rfl) ?_)))
      refine WS.gtrN (a := (r.rs).length) (b := 40) rfl rfl rfl (fun e12 => ?_) (fun e12 => ?_)
      · skip
        refine WS.op rfl rfl ?_
        refine WS.nil' ⟨true, rfl, ((M5.bare.focus 0 rfl).take 1), fun _ => ?_, fun hh => ?_⟩
        · trivial
        · cases hh
      · skip
        refine WS.op rfl rfl ?_
        refine WS.nil' ⟨false, rfl, ((M5.bare.focus 0 rfl).take 1), fun hh => ?_, fun _ => ?_⟩
        · cases hh
        · omega
  · intro h7 M8 hp13
    subst eL6
    refine WC.condT rfl ?_
    refine WC.seq ?_
    refine WC.run ?_
    refine WS.op rfl rfl (WS.nil [(2, _)] rfl ?_)
    refine WC.ret ?_
    refine ⟨[_], (res_tmp rfl res_nil), ?_⟩
    exact ⟨⟨true, rfl, fun q => by cases q⟩, M8.bare.take 0⟩
  · intro h9 M10 hp13
    subst eL6
    refine WC.condF rfl ?_
    refine WC.skip ?_
    refine WC.seq ?_
    refine WC.seq ?_
    refine WC.run ?_
    refine WS.op rfl rfl (WS.nil [(1, _), (3, _)] rfl ?_)
    refine WC.block ?_
    obtain ⟨L11, eL13, M12⟩ := Mem.name M10.bare
    refine WC.loop (σ := Nat) (fun (i) => [(1, (.pointer (some ⟨p1, 0, none⟩))), (3, (.int .i64 ((i : Nat) : Int)))]) (fun (i) hh => Mem h hh (L11) [] ∧ FitR (r.rs.take i) ∧ i ≤ r.rs.length) (fun (i) => r.rs.length - i) (0) rfl ⟨M12, ?_⟩ ?_
    · exact ⟨by intro x hx; simp at hx, by omega⟩
    · rintro i h14 ⟨M15, ⟨hO, hi1⟩⟩
      subst eL13
      refine WC.env [(1, _), (3, _)] rfl ?_
      refine WC.seq ?_
      refine WC.seq ?_
      refine WC.run ?_
      refine WS.op rfl rfl (WS.op rfl rfl (WS.op rfl (op_ld (M15.at 0 rfl) rfl rfl) (WS.op rfl (op_lenVS A rfl) ?_)))
      refine WS.lssN (a := i) (b := (r.rs).length) rfl rfl rfl (fun e18 => ?_) (fun e18 => ?_)
      · skip
        refine WS.nil [(1, _), (3, _), (18, _)] rfl ?_
        refine WC.condT rfl ?_
        refine WC.skip ?_
        refine WC.seq ?_
        refine WC.block ?_
        refine WC.seq ?_
        refine WC.run ?_
        refine WS.op rfl rfl (WS.op rfl (op_ld (M15.at 0 rfl) rfl rfl) (WS.op rfl rfl ?_))
        obtain ⟨y24, hy24⟩ : ∃ y, (r.rs)[i]? = some y := ⟨_, List.getElem?_eq_getElem (show i < (r.rs).length by first | omega | (simp only [List.length_drop, List.length_take, List.length_append, List.length_cons, List.length_nil, List.length_singleton]; omega) | (simp only [List.length_drop, List.length_take, List.length_append, List.length_cons, List.length_nil, List.length_singleton] at *; omega))⟩
        refine WS.iaVS A i hy24 rfl rfl rfl rfl ?_
        intro b24_ o24_ ha24
        refine WS.op rfl rfl (WS.op rfl (op_ldH rfl (At.ld0 (ha24.mono M15.sub) rfl)) (WS.op rfl (op_lenS (l := y24.ky) rfl) ?_))
        refine WS.gtrN (a := (y24.ky).length) (b := 3000) rfl rfl rfl (fun e28 => ?_) (fun e28 => ?_)
        · skip
          refine WS.op rfl rfl (WS.off rfl (WS.off rfl (WS.off rfl (WS.off rfl (WS.off rfl (WS.off rfl (WS.off rfl (WS.off rfl (WS.op rfl rfl ?_)))))))))
          refine WS.nil [(1, _), (3, _), (38, _)] rfl ?_
          refine WC.condT rfl ?_
          refine WC.seq ?_
          refine WC.run ?_
          refine WS.op rfl rfl (WS.nil [(2, _)] rfl ?_)
          refine WC.ret ?_
          refine ⟨[_], (res_tmp rfl res_nil), ?_⟩
          exact ⟨⟨true, rfl, fun q => by cases q⟩, M15.bare.take 0⟩
        · skip
          refine WS.op rfl rfl (WS.op rfl rfl (WS.op rfl (op_ld (M15.at 0 rfl) rfl rfl) (WS.op rfl rfl ?_)))
          refine WS.iaVS A i hy24 rfl rfl rfl rfl ?_
          intro b33_ o33_ ha33
          refine WS.op rfl rfl (WS.op rfl (op_ldH rfl (At.ld (ha33.mono M15.sub) rfl)) (WS.op rfl (op_lenS (l := y24.va) rfl) ?_))
          refine WS.gtrN (a := (y24.va).length) (b := 3000) rfl rfl rfl (fun e37 => ?_) (fun e37 => ?_)
          · skip
            refine WS.op rfl rfl (WS.nil [(1, _), (3, _), (38, _)] rfl ?_)
            refine WC.condT rfl ?_
            refine WC.seq ?_
            refine WC.run ?_
            refine WS.op rfl rfl (WS.nil [(2, _)] rfl ?_)
            refine WC.ret ?_
            refine ⟨[_], (res_tmp rfl res_nil), ?_⟩
            exact ⟨⟨true, rfl, fun q => by cases q⟩, M15.bare.take 0⟩
          · skip
            refine WS.op rfl rfl (WS.nil [(1, _), (3, _), (38, _)] rfl ?_)
            refine WC.condF rfl ?_
            refine WC.skip ?_
            refine WC.run ?_
            refine WS.op rfl rfl (WS.opV (.int .i64 (((i + 1) : Nat) : Int)) rfl rfl (add_i64 (a := i) (b := 1) (by omega)) (WS.op rfl rfl (WS.nil [(1, _), (3, _)] rfl ?_)))
            refine ⟨i + 1, rfl, ⟨((M15.bare.focus 0 rfl).take 1), ?_⟩, ?_⟩
            · exact ⟨FitR_snoc hO hy24 ⟨by omega, by omega⟩, by omega⟩
            · simp only []; omega
      · skip
        refine WS.nil [(1, _), (3, _), (18, _)] rfl ?_
        refine WC.condF rfl ?_
        refine WC.exit ?_
        refine WC.seq ?_
        refine WC.run ?_
        refine WS.op rfl rfl (WS.nil [(2, _)] rfl ?_)
        refine WC.ret ?_
        refine ⟨[_], (res_tmp rfl res_nil), ?_⟩
        rw [List.take_of_length_le (by omega)] at hO
        exact ⟨⟨false, rfl, fun _ => ⟨hp13.1, hp13.2, hO⟩⟩, M15.bare.take 0⟩
def rowR (x : Rrow) : List UInt8 := (sb x.ky ++ sb x.va) ++ vb x.vn.toNat
def headR (r : Res) : List UInt8 := (([r.cd] ++ vb r.n.toNat) ++ sb r.va) ++ vb r.rs.length
def encR (r : Res) : List UInt8 := headR r ++ r.rs.flatMap rowR
theorem n64 {n : Nat} (h : n < 18446744073709551616) : (UInt64.ofNat n).toNat = n := by simp [UInt64.toNat_ofNat']; omega
theorem cvLen {n : Nat} (h : n < 18446744073709551616) : Value.int .u64 (IntKind.u64.wrap (n : Int)) = .int .u64 (((UInt64.ofNat n).toNat : Nat) : Int) := by rw [n64 h]; exact cv_u64 h
theorem walkRowW_ran {w p o : Nat} {l : List UInt8} {x : Rrow} {V : Value} {S : Seg} (ha : At base p o (Rrow.cells x)) (O : KU8.Own V l S) (M : Mem base h (S :: [(w, ⟨[V], 0, false⟩)] :: L) []) (hl : l.length ≤ 500000000 ∧ x.ky.length ≤ 5000 ∧ x.va.length ≤ 5000) : Cll tab0 48 [.iface 64 (.pointer (some ⟨w, 0, none⟩)), .pointer (some ⟨p, o, none⟩)] h (fun v h2 => ∃ V2 S2, KU8.Own V2 (l ++ rowR x) S2 ∧ v = .tuple #[] ∧ Mem base h2 (S2 :: [(w, ⟨[V2], 0, false⟩)] :: L) []) := by
  obtain ⟨P, rfl⟩ := O.shape
  obtain ⟨l1, l2, l3⟩ := hl
  have s1 := sb_len3 l2
  have s2 := sb_len3 l3
  have s3 := vb_len x.vn.toNat_lt
  refine Cll.code rfl rfl ?_
  refine WC.env [(0, _), (1, _)] rfl ?_
  refine WC.seq ?_
  refine WC.draw M [] rfl ?_
  intro rb1 h2 M3
  refine WS.op rfl rfl (WS.op rfl rfl (WS.op rfl rfl (WS.op rfl rfl (WS.op rfl rfl (WS.op rfl rfl (WS.op rfl rfl ?_))))))
  refine WS.call rfl rfl rfl (w_text_ran (c := x.ky) O ((M3.focus 1 rfl).focus 1 rfl) (At.sees ha (k := 0) rfl) (by first | omega | (simp only [List.length_append, List.length_cons, List.length_nil]; omega))) ?_
  rintro _ h4 ⟨V6, S7, O8, rfl, M5⟩
  obtain ⟨P9, rfl⟩ := O8.shape
  replace M5 : Mem _ _ (S7 :: [(w, _)] :: L) _ := M5
  refine WS.nil [(0, _), (1, _)] rfl ?_
  refine WC.seq ?_
  refine WC.draw M5.bare [] rfl ?_
  intro rb10 h11 M12
  refine WS.op rfl rfl (WS.op rfl rfl (WS.op rfl rfl (WS.op rfl rfl (WS.op rfl rfl (WS.op rfl rfl (WS.op rfl rfl ?_))))))
  refine WS.call rfl rfl rfl (w_text_ran (c := x.va) O8 ((M12.focus 1 rfl).focus 1 rfl) (At.sees ha (k := 1) rfl) (by first | omega | (simp only [List.length_append, List.length_cons, List.length_nil]; omega))) ?_
  rintro _ h13 ⟨V15, S16, O17, rfl, M14⟩
  obtain ⟨P18, rfl⟩ := O17.shape
  replace M14 : Mem _ _ (S16 :: [(w, _)] :: L) _ := M14
  refine WS.nil [(0, _), (1, _)] rfl ?_
  refine WC.draw M14.bare [] rfl ?_
  intro rb19 h20 M21
  refine WS.op rfl rfl (WS.op rfl rfl (WS.op rfl rfl (WS.op rfl rfl (WS.op rfl rfl (WS.op rfl rfl (WS.op rfl rfl ?_))))))
  refine WS.call rfl rfl rfl (w_number_ran (c := x.vn) O17 ((M21.focus 1 rfl).focus 1 rfl) (At.sees ha (k := 2) rfl) (by first | omega | (simp only [List.length_append, List.length_cons, List.length_nil]; omega))) ?_
  rintro _ h22 ⟨V24, S25, O26, rfl, M23⟩
  obtain ⟨P27, rfl⟩ := O26.shape
  replace M23 : Mem _ _ (S25 :: [(w, _)] :: L) _ := M23
  refine WS.nil [] rfl ?_
  refine ⟨[], res_nil, ?_⟩
  exact ⟨_, _, by rw [show l ++ rowR x = (((l ++ (sb x.ky)) ++ (sb x.va)) ++ (vb x.vn.toNat)) by simp [rowR]]; exact O26, rfl, (M23.bare)⟩
theorem walkResW_ran {w p : Nat} {l : List UInt8} {r : Res} {V Vp : Value} {S : Seg} (A : KRrow.Sl base Vp r.rs) (hf : FitRes r) (O : KU8.Own V l S) (M : Mem base h (S :: [(w, ⟨[V], 0, false⟩)] :: [(p, ⟨r.cells Vp, 0, false⟩)] :: L) []) (hl : l.length ≤ 100000) : Cll tab0 47 [.iface 64 (.pointer (some ⟨w, 0, none⟩)), .pointer (some ⟨p, 0, none⟩)] h (fun v h2 => ∃ V2 S2, KU8.Own V2 (l ++ headR r) S2 ∧ v = .int .u64 (((UInt64.ofNat r.rs.length).toNat : Nat) : Int) ∧ Mem base h2 (S2 :: [(w, ⟨[V2], 0, false⟩)] :: [(p, ⟨r.cells Vp, 0, false⟩)] :: L) []) := by
  obtain ⟨P, rfl⟩ := O.shape
  obtain ⟨Pp, n, rfl⟩ := A.shape
  obtain ⟨f1, f2, f3⟩ := hf
  have s1 := sb_len3 f1
  have s2 := vb_len r.n.toNat_lt
  have s3 := vb_len (UInt64.ofNat r.rs.length).toNat_lt
  have hn := n64 (n := r.rs.length) (by omega)
  refine Cll.code rfl rfl ?_
  refine WC.env [(0, _), (1, _)] rfl ?_
  refine WC.seq ?_
  refine WC.run ?_
  refine WS.op rfl rfl (WS.nil [(0, _), (1, _)] rfl ?_)
  refine WC.seq ?_
  refine WC.run ?_
  refine WS.op rfl rfl (WS.op rfl rfl (WS.op rfl rfl (WS.op rfl (op_ld (M.at 2 rfl) rfl rfl) (WS.op rfl (op_lenVS A rfl) (WS.opV (.int .u64 (((UInt64.ofNat r.rs.length).toNat : Nat) : Int)) rfl rfl (cvLen (by omega)) ?_)))))
  refine WS.new M rfl ?_
  intro p1 h2 M3
  refine WS.st1 (M3.focus 0 rfl) [_] [_] rfl rfl rfl rfl rfl (Nat.le_of_ble_eq_true rfl) (Nat.le_of_ble_eq_true rfl) rfl rfl ?_
  intro h4 M5
  replace M5 : Mem _ _ ([(p1, _)] :: S :: [(w, _)] :: [(p, _)] :: L) _ := M5
  refine WS.nil [(0, _), (1, _), (5, _)] rfl ?_
  refine WC.seq ?_
  refine WC.draw M5 [] rfl ?_
  intro rb6 h7 M8
  refine WS.op rfl rfl (WS.op rfl rfl (WS.op rfl rfl (WS.op rfl rfl (WS.op rfl rfl (WS.op rfl rfl (WS.op rfl rfl ?_))))))
  refine WS.call rfl rfl rfl (w_byte_ran (c := r.cd) O ((M8.focus 2 rfl).focus 2 rfl) ⟨_, .inr (List.Mem.tail _ (List.Mem.head _)), rfl⟩ (by first | omega | (simp only [List.length_append, List.length_cons, List.length_nil]; omega))) ?_
  rintro _ h9 ⟨V11, S12, O13, rfl, M10⟩
  obtain ⟨P14, rfl⟩ := O13.shape
  replace M10 : Mem _ _ (S12 :: [(w, _)] :: [(p1, _)] :: [(p, _)] :: L) _ := M10
  refine WS.nil [(0, _), (1, _), (5, _)] rfl ?_
  refine WC.seq ?_
  refine WC.draw M10.bare [] rfl ?_
  intro rb15 h16 M17
  refine WS.op rfl rfl (WS.op rfl rfl (WS.op rfl rfl (WS.op rfl rfl (WS.op rfl rfl (WS.op rfl rfl (WS.op rfl rfl ?_))))))
  refine WS.call rfl rfl rfl (w_number_ran (c := r.n) O13 ((M17.focus 1 rfl).focus 1 rfl) ⟨_, .inr (List.Mem.tail _ (List.Mem.head _)), rfl⟩ (by first | omega | (simp only [List.length_append, List.length_cons, List.length_nil]; omega))) ?_
  rintro _ h18 ⟨V20, S21, O22, rfl, M19⟩
  obtain ⟨P23, rfl⟩ := O22.shape
  replace M19 : Mem _ _ (S21 :: [(w, _)] :: [(p1, _)] :: [(p, _)] :: L) _ := M19
  refine WS.nil [(0, _), (1, _), (5, _)] rfl ?_
  refine WC.seq ?_
  refine WC.draw M19.bare [] rfl ?_
  intro rb24 h25 M26
  refine WS.op rfl rfl (WS.op rfl rfl (WS.op rfl rfl (WS.op rfl rfl (WS.op rfl rfl (WS.op rfl rfl (WS.op rfl rfl ?_))))))
  refine WS.call rfl rfl rfl (w_text_ran (c := r.va) O22 ((M26.focus 1 rfl).focus 1 rfl) ⟨_, .inr (List.Mem.tail _ (List.Mem.head _)), rfl⟩ (by first | omega | (simp only [List.length_append, List.length_cons, List.length_nil]; omega))) ?_
  rintro _ h27 ⟨V29, S30, O31, rfl, M28⟩
  obtain ⟨P32, rfl⟩ := O31.shape
  replace M28 : Mem _ _ (S30 :: [(w, _)] :: [(p1, _)] :: [(p, _)] :: L) _ := M28
  refine WS.nil [(0, _), (5, _)] rfl ?_
  refine WC.seq ?_
  refine WC.run ?_
  refine WS.op rfl rfl ?_
  refine WS.call rfl rfl rfl (w_number_ran (c := (UInt64.ofNat r.rs.length)) O31 ((M28.bare.focus 1 rfl).focus 1 rfl) ⟨_, .inr (List.Mem.head _), rfl⟩ (by first | omega | (simp only [List.length_append, List.length_cons, List.length_nil]; omega))) ?_
  rintro _ h33 ⟨V35, S36, O37, rfl, M34⟩
  obtain ⟨P38, rfl⟩ := O37.shape
  replace M34 : Mem _ _ (S36 :: [(w, _)] :: [(p1, _)] :: [(p, _)] :: L) _ := M34
  refine WS.nil [(5, _)] rfl ?_
  refine WC.seq ?_
  refine WC.run ?_
  refine WS.op rfl (op_ld (M34.at 2 rfl) rfl rfl) (WS.op rfl rfl (WS.nil [(4, _)] rfl ?_))
  refine WC.ret ?_
  refine ⟨[_], (res_tmp rfl res_nil), ?_⟩
  exact ⟨_, _, by rw [show l ++ headR r = ((((l ++ [r.cd]) ++ (vb r.n.toNat)) ++ (sb r.va)) ++ (vb (UInt64.ofNat r.rs.length).toNat)) by unfold headR; rw [hn]; simp]; exact O37, rfl, (M34.focus 2 rfl).drop⟩
theorem WriteR_ran (W : Mem h h [] []) {r : Res} {V : Value} (A : KRrow.Sl h V r.rs) (hf : FitRes r) : Cll tab0 23 [r.val V] h (fun v h2 => v = .string (bs (encR r)) ∧ Mem h h2 [] []) := by
  obtain ⟨P, n, rfl⟩ := A.shape
  obtain ⟨f1, f2, f3⟩ := id hf
  have s1 := sb_len3 f1
  have s2 := vb_len r.n.toNat_lt
  have s3 := vb_len (n := r.rs.length) (by omega)
  have hh : (headR r).length ≤ 6000 := by unfold headR; simp only [List.length_append, List.length_cons, List.length_nil]; omega
  refine Cll.code rfl rfl ?_
  refine WC.env [(0, _)] rfl ?_
  refine WC.seq ?_
  refine WC.run ?_
  refine WS.box W [_, _, _, _] rfl rfl rfl rfl ?_
  intro p1 h2 M3
  refine WS.op rfl rfl (WS.nil [(1, _)] rfl ?_)
  refine WC.seq ?_
  refine WC.run ?_
  refine WS.opV (.agg #[(.slice none 0 0)]) rfl rfl rfl ?_
  refine WS.box M3 [_] rfl rfl rfl rfl ?_
  intro p4 h5 M6
  refine WS.op rfl rfl (WS.nil [(1, _), (3, _)] rfl ?_)
  refine WC.seq ?_
  refine WC.run ?_
  refine WS.op rfl rfl (WS.op rfl rfl ?_)
  refine WS.call rfl rfl rfl (walkResW_ran (r := r) A (by assumption) (Row.Own.nil (K := KU8)) ((M6.focus 1 rfl).focus 1 rfl).nils (by simp)) ?_
  rintro _ h7 ⟨V9, S10, O11, rfl, M8⟩
  rw [List.nil_append] at O11
  obtain ⟨P12, rfl⟩ := O11.shape
  replace M8 : Mem _ _ (S10 :: [(p4, _)] :: [(p1, _)] :: []) _ := M8
  refine WS.nil [(1, _), (3, _)] rfl ?_
  refine WC.seq ?_
  refine WC.seq ?_
  refine WC.run ?_
  refine WS.op rfl rfl (WS.op rfl (op_ld (M8.at 2 rfl) rfl rfl) (WS.op rfl (op_lenVS A rfl) (WS.op rfl rfl (WS.nil [(1, _), (3, _), (12, _), (13, _)] rfl ?_))))
  refine WC.block ?_
  obtain ⟨L13, eL15, M14⟩ := Mem.name2 ((M8.bare.focus 1 rfl).focus 1 rfl)
  refine WC.loop (σ := Value × Seg × List UInt8 × Nat) (fun ((V_, S_, out, i)) => [(1, (.pointer (some ⟨p1, 0, none⟩))), (3, (.pointer (some ⟨p4, 0, none⟩))), (12, (.int .i64 (((r.rs).length : Nat) : Int))), (13, (.int .i64 ((i : Nat) : Int)))]) (fun ((V_, S_, out, i)) hh => Mem h hh (S_ :: [(p4, ⟨[V_], 0, false⟩)] :: L13) [] ∧ KU8.Own V_ out S_ ∧ out = headR r ++ (r.rs.take i).flatMap rowR ∧ i ≤ r.rs.length ∧ out.length ≤ 6000 + 11000 * i) (fun ((V_, S_, out, i)) => r.rs.length - i) ((.slice P12 ((headR r)).length (2 * ((headR r)).length)), S10, (headR r), 0) rfl ⟨(by exact M14), ?_⟩ ?_
  · exact ⟨by assumption, by simp, by omega, by omega⟩
  · rintro ⟨V_, S_, out, i⟩ h16 ⟨M17, ⟨hO, hE, hi1, hol⟩⟩
    subst eL15
    refine WC.env [(1, _), (3, _), (12, _), (13, _)] rfl ?_
    obtain ⟨P_, rfl⟩ := hO.shape
    refine WC.seq ?_
    refine WC.run ?_
    refine WS.lssN (a := i) (b := (r.rs).length) rfl rfl rfl (fun e14 => ?_) (fun e14 => ?_)
    · skip
      refine WS.nil [(1, _), (3, _), (12, _), (13, _), (14, _)] rfl ?_
      refine WC.seq ?_
      refine WC.condT rfl ?_
      refine WC.skip ?_
      refine WC.seq ?_
      refine WC.block ?_
      refine WC.seq ?_
      refine WC.run ?_
      refine WS.op rfl rfl (WS.op rfl rfl (WS.nil [(1, _), (3, _), (4, _), (12, _), (13, _)] rfl ?_))
      refine WC.run ?_
      refine WS.op rfl rfl (WS.op rfl rfl (WS.op rfl rfl (WS.op rfl (op_ld (M17.at 2 rfl) rfl rfl) (WS.op rfl rfl ?_))))
      obtain ⟨y21, hy21⟩ : ∃ y, (r.rs)[i]? = some y := ⟨_, List.getElem?_eq_getElem (show i < (r.rs).length by first | omega | (simp only [List.length_drop, List.length_take, List.length_append, List.length_cons, List.length_nil, List.length_singleton]; omega) | (simp only [List.length_drop, List.length_take, List.length_append, List.length_cons, List.length_nil, List.length_singleton] at *; omega))⟩
      refine WS.iaVS A i hy21 rfl rfl rfl rfl ?_
      intro b21_ o21_ ha21
      refine WS.call rfl rfl rfl (walkRowW_ran (x := y21) ha21 hO ((M17.focus 1 rfl).focus 1 rfl) (by exact ⟨by omega, f3 _ (List.mem_of_getElem? hy21)⟩)) ?_
      rintro _ h18 ⟨V20, S21, O22, rfl, M19⟩
      obtain ⟨P23, rfl⟩ := O22.shape
      replace M19 : Mem _ _ (S21 :: [(p4, _)] :: [(p1, _)] :: []) _ := M19
      refine WS.nil [(1, _), (3, _), (12, _), (13, _)] rfl ?_
      refine WC.run ?_
      refine WS.opV (.int .i64 (((i + 1) : Nat) : Int)) rfl rfl (add_i64 (a := i) (b := 1) (by omega)) (WS.op rfl rfl (WS.nil [(1, _), (3, _), (12, _), (13, _)] rfl ?_))
      refine ⟨((.slice P23 ((out ++ rowR y21)).length (2 * ((out ++ rowR y21)).length)), S21, (out ++ rowR y21), i + 1), rfl, ⟨((((M19.bare.focus 2 rfl).focus 2 rfl).focus 2 rfl).take 3), ?_⟩, ?_⟩
      · exact ⟨by assumption, by rw [flatMap_take_succ rowR hy21, hE]; simp, by omega, by have t0 := f3 _ (List.mem_of_getElem? hy21); have t1 := sb_len3 t0.1; have t2 := sb_len3 t0.2; have t3 := vb_len y21.vn.toNat_lt; simp only [rowR, List.length_append]; omega⟩
      · simp only []; omega
    · skip
      refine WS.nil [(1, _), (3, _), (12, _), (13, _), (14, _)] rfl ?_
      refine WC.seq ?_
      refine WC.condF rfl ?_
      refine WC.exit ?_
      refine WC.seq ?_
      refine WC.run ?_
      refine WS.op rfl rfl (WS.op rfl rfl (WS.op rfl rfl (WS.op rfl (op_ld (M17.at 1 rfl) rfl rfl) (WS.op rfl (op_cvBO hO (Mem.owni M17 0 rfl) rfl) (WS.op rfl rfl (WS.nil [(2, _)] rfl ?_))))))
      refine WC.ret ?_
      refine ⟨[_], (res_tmp rfl res_nil), ?_⟩
      rw [List.take_of_length_le (by omega)] at hE
      exact ⟨by rw [hE]; rfl, M17.bare.take 0⟩
set_option maxRecDepth 8000 in
theorem refWriteR_ran (W : Mem h h [] []) {r : Res} {V : Value} (A : KRrow.Sl h V r.rs) (hf : FitRes r) : Cll tab0 24 [r.val V] h (fun v h2 => v = .string (bs (encR r)) ∧ Mem h h2 [] []) := by
  obtain ⟨P, n, rfl⟩ := A.shape
  obtain ⟨f1, f2, f3⟩ := id hf
  have s1 := sb_len3 f1
  have s2 := vb_len r.n.toNat_lt
  have u1 := r.n.toNat_lt
  have s3 := vb_len (n := r.rs.length) (by omega)
  refine Cll.code rfl rfl ?_
  refine WC.env [(0, _)] rfl ?_
  refine WC.seq ?_
  refine WC.run ?_
  refine WS.box W [_, _, _, _] rfl rfl rfl rfl ?_
  intro p1 h2 M3
  refine WS.op rfl rfl (WS.nil [(1, _)] rfl ?_)
  refine WC.seq ?_
  refine WC.draw M3 [] rfl ?_
  intro rb4 h5 M6
  refine WS.op rfl rfl (WS.op rfl (op_ld (M6.at 0 rfl) rfl rfl) (WS.opV (.int .i64 (((r.cd).toNat : Nat) : Int)) rfl rfl (cv_i64 (n := (r.cd).toNat) (by have := UInt8.toNat_lt (r.cd); omega)) (WS.op rfl rfl (WS.op rfl (op_ld (M6.at 0 rfl) rfl rfl) (WS.op rfl rfl (WS.op rfl (op_ld (M6.at 0 rfl) rfl rfl) (WS.op rfl rfl (WS.op rfl (op_ld (M6.at 0 rfl) rfl rfl) (WS.op rfl (op_lenVS A rfl) ?_)))))))))
  refine WS.opV (.int .u64 (((r.rs).length : Nat) : Int)) rfl rfl (cv_u64 (n := (r.rs).length) (by omega)) ?_
  refine WS.call rfl rfl rfl (one_ran M6.here (n := (r.cd).toNat) (b := r.cd) (by first | rfl | simp)) ?_
  rintro _ h7 ⟨rfl, N8⟩
  have M9 := M6.trans N8
  refine WS.chk rfl (op_ld (M9.at 0 rfl) rfl rfl) rfl (sameV_refl rfl) (WS.chk rfl (op_ld (M9.at 0 rfl) rfl rfl) rfl (sameV_refl rfl) (WS.chk rfl (op_ld (M9.at 0 rfl) rfl rfl) rfl same_sl ?_))
  refine WS.call rfl rfl rfl (ref_One_ran M9.here (n := ((r.n).toNat)) (by omega)) ?_
  rintro _ h10 ⟨rfl, N11⟩
  have M12 := M9.trans N11
  refine WS.chk rfl (op_ld (M12.at 0 rfl) rfl rfl) rfl (sameV_refl rfl) (WS.chk rfl (op_ld (M12.at 0 rfl) rfl rfl) rfl same_sl (WS.op rfl (op_sadd (l := [r.cd]) (m := (vb ((r.n).toNat))) rfl rfl (by first | omega | (simp only [List.length_append, List.length_cons, List.length_nil]; omega))) ?_))
  refine WS.call rfl rfl rfl (text_ran M12.here (l := r.va) (by omega)) ?_
  rintro _ h14 ⟨rfl, N15⟩
  have M16 := M12.trans N15
  refine WS.chk rfl (op_ld (M16.at 0 rfl) rfl rfl) rfl same_sl (WS.op rfl (op_sadd (l := ([r.cd] ++ (vb ((r.n).toNat)))) (m := (sb r.va)) rfl rfl (by first | omega | (simp only [List.length_append, List.length_cons, List.length_nil]; omega))) ?_)
  refine WS.call rfl rfl rfl (ref_One_ran M16.here (n := ((r.rs).length)) (by omega)) ?_
  rintro _ h17 ⟨rfl, N18⟩
  have M19 := M16.trans N18
  refine WS.op rfl (op_sadd (l := (([r.cd] ++ (vb ((r.n).toNat))) ++ (sb r.va))) (m := (vb ((r.rs).length))) rfl rfl (by first | omega | (simp only [List.length_append, List.length_cons, List.length_nil]; omega))) (WS.op rfl rfl (WS.nil [(1, _), (3, _)] rfl ?_))
  refine WC.seq ?_
  refine WC.seq ?_
  refine WC.run ?_
  refine WS.op rfl rfl (WS.nil [(1, _), (3, _), (4, _)] rfl ?_)
  refine WC.block ?_
  obtain ⟨L21, eL23, M22⟩ := Mem.name M19.bare.bare
  refine WC.loop (σ := List UInt8 × Nat) (fun ((out, i)) => [(1, (.pointer (some ⟨p1, 0, none⟩))), (3, (.string (bs out))), (4, (.int .i64 ((i : Nat) : Int)))]) (fun ((out, i)) hh => Mem h hh (L21) [] ∧ out = headR r ++ (r.rs.take i).flatMap rowR ∧ i ≤ r.rs.length ∧ out.length ≤ 6000 + 11000 * i) (fun ((out, i)) => r.rs.length - i) (((([r.cd] ++ (vb ((r.n).toNat))) ++ (sb r.va)) ++ (vb ((r.rs).length))), 0) rfl ⟨M22, ?_⟩ ?_
  · exact ⟨by simp [headR], by omega, by simp only [List.length_append, List.length_cons, List.length_nil]; omega⟩
  · rintro ⟨out, i⟩ h24 ⟨M25, ⟨hE, hi1, hol⟩⟩
    subst eL23
    refine WC.env [(1, _), (3, _), (4, _)] rfl ?_
    refine WC.seq ?_
    refine WC.seq ?_
    refine WC.run ?_
    refine WS.op rfl rfl (WS.op rfl rfl (WS.op rfl (op_ld (M25.at 0 rfl) rfl rfl) (WS.op rfl (op_lenVS A rfl) ?_)))
    refine WS.lssN (a := i) (b := (r.rs).length) rfl rfl rfl (fun e27 => ?_) (fun e27 => ?_)
    · skip
      refine WS.nil [(1, _), (3, _), (4, _), (27, _)] rfl ?_
      refine WC.condT rfl ?_
      refine WC.skip ?_
      refine WC.seq ?_
      refine WC.block ?_
      refine WC.draw M25 [] rfl ?_
      intro rb26 h27 M28
      refine WS.op rfl rfl (WS.op rfl rfl (WS.op rfl (op_ld (M28.at 0 rfl) rfl rfl) (WS.op rfl rfl ?_)))
      obtain ⟨y34, hy34⟩ : ∃ y, (r.rs)[i]? = some y := ⟨_, List.getElem?_eq_getElem (show i < (r.rs).length by first | omega | (simp only [List.length_drop, List.length_take, List.length_append, List.length_cons, List.length_nil, List.length_singleton]; omega) | (simp only [List.length_drop, List.length_take, List.length_append, List.length_cons, List.length_nil, List.length_singleton] at *; omega))⟩
      refine WS.iaVS A i hy34 rfl rfl rfl rfl ?_
      intro b34_ o34_ ha34
      refine WS.op rfl rfl (WS.op rfl (op_ldH rfl (At.ld0 (ha34.mono M28.sub) rfl)) (WS.op rfl rfl (WS.op rfl (op_ld (M28.at 0 rfl) rfl rfl) (WS.op rfl rfl ?_))))
      refine WS.iaVS A i hy34 rfl rfl rfl rfl ?_
      intro b42_ o42_ ha42
      refine WS.op rfl rfl (WS.op rfl (op_ldH rfl (At.ld (ha42.mono M28.sub) rfl)) (WS.op rfl rfl (WS.op rfl (op_ld (M28.at 0 rfl) rfl rfl) (WS.op rfl rfl ?_))))
      refine WS.iaVS A i hy34 rfl rfl rfl rfl ?_
      intro b50_ o50_ ha50
      refine WS.op rfl rfl (WS.op rfl (op_ldH rfl (At.ld (ha50.mono M28.sub) rfl)) ?_)
      have t0 := f3 _ (List.mem_of_getElem? hy34)
      have t1 := sb_len3 t0.1
      have t2 := sb_len3 t0.2
      have t3 := vb_len y34.vn.toNat_lt
      have t4 := y34.vn.toNat_lt
      refine WS.call rfl rfl rfl (text_ran M28.here (l := y34.ky) (by omega)) ?_
      rintro _ h29 ⟨rfl, N30⟩
      have M31 := M28.trans N30
      refine WS.chk rfl (op_ld (M31.at 0 rfl) rfl rfl) rfl same_sl (WS.chk rfl (op_ldH rfl (At.ld (ha42.mono M31.sub) rfl)) rfl (sameV_refl rfl) (WS.chk rfl (op_ld (M31.at 0 rfl) rfl rfl) rfl same_sl (WS.chk rfl (op_ldH rfl (At.ld (ha50.mono M31.sub) rfl)) rfl (sameV_refl rfl) (WS.op rfl (op_sadd (l := out) (m := (sb y34.ky)) rfl rfl (by first | omega | (simp only [List.length_append, List.length_cons, List.length_nil]; omega))) ?_))))
      refine WS.call rfl rfl rfl (text_ran M31.here (l := y34.va) (by omega)) ?_
      rintro _ h32 ⟨rfl, N33⟩
      have M34 := M31.trans N33
      refine WS.chk rfl (op_ld (M34.at 0 rfl) rfl rfl) rfl same_sl (WS.chk rfl (op_ldH rfl (At.ld (ha50.mono M34.sub) rfl)) rfl (sameV_refl rfl) (WS.op rfl (op_sadd (l := (out ++ (sb y34.ky))) (m := (sb y34.va)) rfl rfl (by first | omega | (simp only [List.length_append, List.length_cons, List.length_nil]; omega))) ?_))
      refine WS.call rfl rfl rfl (ref_One_ran M34.here (n := ((y34.vn).toNat)) (by omega)) ?_
      rintro _ h35 ⟨rfl, N36⟩
      have M37 := M34.trans N36
      refine WS.op rfl (op_sadd (l := ((out ++ (sb y34.ky)) ++ (sb y34.va))) (m := (vb ((y34.vn).toNat))) rfl rfl (by first | omega | (simp only [List.length_append, List.length_cons, List.length_nil]; omega))) (WS.op rfl rfl (WS.nil [(1, _), (3, _), (4, _)] rfl ?_))
      refine WC.run ?_
      refine WS.op rfl rfl (WS.opV (.int .i64 (((i + 1) : Nat) : Int)) rfl rfl (add_i64 (a := i) (b := 1) (by omega)) (WS.op rfl rfl (WS.nil [(1, _), (3, _), (4, _)] rfl ?_)))
      refine ⟨((((out ++ (sb y34.ky)) ++ (sb y34.va)) ++ (vb ((y34.vn).toNat))), i + 1), rfl, ⟨((M37.bare.bare.focus 0 rfl).take 1), ?_⟩, ?_⟩
      · exact ⟨by rw [flatMap_take_succ rowR hy34, hE]; simp [rowR], by omega, by simp only [List.length_append, List.length_cons, List.length_nil]; omega⟩
      · simp only []; omega
    · skip
      refine WS.nil [(1, _), (3, _), (4, _), (27, _)] rfl ?_
      refine WC.condF rfl ?_
      refine WC.exit ?_
      refine WC.seq ?_
      refine WC.run ?_
      refine WS.op rfl rfl (WS.op rfl rfl (WS.nil [(2, _)] rfl ?_))
      refine WC.ret ?_
      refine ⟨[_], (res_tmp rfl res_nil), ?_⟩
      rw [List.take_of_length_le (by omega)] at hE
      exact ⟨by rw [hE]; rfl, M25.bare.take 0⟩
theorem opens_5 : OpensL Try.prog 5 layU8 1 (fun _ => True) := OpensL.u8 Try.underlying5 (by kernel_rfl)
theorem opens_37 : OpensL Try.prog 37 (layP layU8 (layP layU8 (layP layU8 (layP layU8 (layP layU8 (layP layU8 (layP layU8 layU8))))))) 8 (fun _ => True) := OpensL.array (fs := [(5, 0), (5, 1), (5, 2), (5, 3), (5, 4), (5, 5), (5, 6), (5, 7)]) id (fun _ _ _ h => h) (fun _ _ => trivial) Try.underlying37 (by kernel_rfl) (by kernel_rfl) (OpensLF.cons (by decide) (by decide) opens_5 (OpensLF.cons (by decide) (by decide) opens_5 (OpensLF.cons (by decide) (by decide) opens_5 (OpensLF.cons (by decide) (by decide) opens_5 (OpensLF.cons (by decide) (by decide) opens_5 (OpensLF.cons (by decide) (by decide) opens_5 (OpensLF.cons (by decide) (by decide) opens_5 (OpensLF.one opens_5))))))))
theorem opens_3 : OpensL Try.prog 3 layI64 1 (fun _ => True) := OpensL.i64 Try.underlying3 (by kernel_rfl)
set_option maxRecDepth 100000 in
theorem opens_39 : OpensL Try.prog 39 (α := Oper) (fun _ o cs => cs = Oper.cells o) 16 (fun _ => True) := by
  refine OpensL.struct (fs := [(5, 0), (5, 1), (37, 2), (5, 10), (3, 11), (3, 12), (3, 13), (3, 14), (5, 15)]) (L := (layP layU8 (layP layU8 (layP (layP layU8 (layP layU8 (layP layU8 (layP layU8 (layP layU8 (layP layU8 (layP layU8 layU8))))))) (layP layU8 (layP layI64 (layP layI64 (layP layI64 (layP layI64 layU8))))))))) (mk := fun (op, sl, (t0, t1, t2, t3, t4, t5, t6, t7), ro, ks, bt, ra, bu, nd) => ⟨op, sl, t0, t1, t2, t3, t4, t5, t6, t7, ro, ks, bt, ra, bu, nd⟩) ?_ ?_ (by kernel_rfl) (by kernel_rfl) (OpensLF.cons (by decide) (by decide) opens_5 (OpensLF.cons (by decide) (by decide) opens_5 (OpensLF.cons (by decide) (by decide) opens_37 (OpensLF.cons (by decide) (by decide) opens_5 (OpensLF.cons (by decide) (by decide) opens_3 (OpensLF.cons (by decide) (by decide) opens_3 (OpensLF.cons (by decide) (by decide) opens_3 (OpensLF.cons (by decide) (by decide) opens_3 (OpensLF.one opens_5)))))))))
  · rintro h ⟨op, sl, ⟨t0, t1, t2, t3, t4, t5, t6, t7⟩, ro, ks, bt, ra, bu, nd⟩ cs ⟨_, _, rfl, rfl, ⟨_, _, rfl, rfl, ⟨_, _, rfl, ⟨_, _, rfl, rfl, ⟨_, _, rfl, rfl, ⟨_, _, rfl, rfl, ⟨_, _, rfl, rfl, ⟨_, _, rfl, rfl, ⟨_, _, rfl, rfl, ⟨_, _, rfl, rfl, rfl⟩⟩⟩⟩⟩⟩⟩, ⟨_, _, rfl, rfl, ⟨_, _, rfl, rfl, ⟨_, _, rfl, rfl, ⟨_, _, rfl, rfl, ⟨_, _, rfl, rfl, rfl⟩⟩⟩⟩⟩⟩⟩⟩
    rfl
  · rintro ⟨op, sl, ⟨t0, t1, t2, t3, t4, t5, t6, t7⟩, ro, ks, bt, ra, bu, nd⟩ ⟨k0, k1, k2, k3, k4, k5, k6, k7, k8⟩
    exact trivial
theorem opens_9 : OpensL Try.prog 9 layStr 1 (fun a => a.length < 9223372036854775808) := OpensL.string Try.underlying9 (by kernel_rfl)
theorem opens_22 : OpensL Try.prog 22 layU64 1 (fun _ => True) := OpensL.u64 Try.underlying22 (by kernel_rfl)
set_option maxRecDepth 100000 in
theorem opens_62 : OpensL Try.prog 62 (α := Rrow) (fun _ y cs => cs = KRrow.cells y) 3 (fun y => y.ky.length < 9223372036854775808 ∧ y.va.length < 9223372036854775808) := by
  refine OpensL.struct (fs := [(9, 0), (9, 1), (22, 2)]) (L := (layP layStr (layP layStr layU64))) (mk := fun (ky, va, vn) => ⟨ky, va, vn⟩) ?_ ?_ (by kernel_rfl) (by kernel_rfl) (OpensLF.cons (by decide) (by decide) opens_9 (OpensLF.cons (by decide) (by decide) opens_9 (OpensLF.one opens_22)))
  · rintro h ⟨ky, va, vn⟩ cs ⟨_, _, rfl, rfl, ⟨_, _, rfl, rfl, rfl⟩⟩
    rfl
  · rintro ⟨ky, va, vn⟩ ⟨k0, k1, k2⟩
    exact ⟨k0, k1⟩
theorem opens_40 : OpensL Try.prog 40 (laySl (fun _ y cs => cs = KRrow.cells y) 3) 1 (fun l => l.length < 9223372036854775808 ∧ ∀ x ∈ l, (fun y => y.ky.length < 9223372036854775808 ∧ y.va.length < 9223372036854775808) x) := OpensL.slice Try.underlying40 (by kernel_rfl) (by decide) opens_62
set_option maxRecDepth 100000 in
theorem opens_42 : OpensL Try.prog 42 (α := Res) (fun h c cs => ∃ V, cs = Res.cells c V ∧ SlL (fun _ y cs => cs = KRrow.cells y) 3 h V c.rs) 4 (fun r => r.va.length < 9223372036854775808 ∧ r.rs.length < 9223372036854775808 ∧ ∀ p ∈ r.rs, p.ky.length < 9223372036854775808 ∧ p.va.length < 9223372036854775808) := by
  refine OpensL.struct (fs := [(5, 0), (22, 1), (9, 2), (40, 3)]) (L := (layP layU8 (layP layU64 (layP layStr (laySl (fun _ y cs => cs = KRrow.cells y) 3))))) (mk := fun (cd, n, va, rs) => ⟨cd, n, va, rs⟩) ?_ ?_ (by kernel_rfl) (by kernel_rfl) (OpensLF.cons (by decide) (by decide) opens_5 (OpensLF.cons (by decide) (by decide) opens_22 (OpensLF.cons (by decide) (by decide) opens_9 (OpensLF.one opens_40))))
  · rintro h ⟨cd, n, va, rs⟩ cs ⟨_, _, rfl, rfl, ⟨_, _, rfl, rfl, ⟨_, _, rfl, rfl, ⟨V, rfl, hS⟩⟩⟩⟩
    exact ⟨V, rfl, hS⟩
  · rintro ⟨cd, n, va, rs⟩ ⟨k0, k1, k2, k3⟩
    exact ⟨k2, k3⟩
theorem awake_ran (W : Mem h h [] []) : Cll tab0 11 [] h (fun v h2 => v = .bool true ∧ Mem h h2 [] []) := ⟨_, h, awake_run h, rfl, W⟩
set_option maxRecDepth 8000 in
theorem law_CmdOthers (W : Mem h h [] []) {o : Oper} {r : Res} {a0 a1 : List Value} (l0 : a0 = Oper.cells o) (l1 : ∃ V, a1 = Res.cells r V ∧ SlL (fun _ y cs => cs = KRrow.cells y) 3 h V r.rs) (k0 : True) (k1 : r.va.length < 9223372036854775808 ∧ r.rs.length < 9223372036854775808 ∧ ∀ p ∈ r.rs, p.ky.length < 9223372036854775808 ∧ p.va.length < 9223372036854775808) : Cll tab0 5 [.agg a0.toArray, .agg a1.toArray] h (fun v _ => v = .bool true) := by
  subst l0
  obtain ⟨V0, rfl, S0⟩ := l1
  have A : KRrow.Sl h V0 r.rs := SlL.sl S0
  obtain ⟨P, n, rfl⟩ := A.shape
  refine Cll.code rfl rfl ?_
  refine WC.env [(0, _), (1, _)] rfl ?_
  refine WC.seq ?_
  refine WC.run ?_
  refine WS.box W [_, _, _, _, _, _, _, _, _, _, _, _, _, _, _, _] rfl rfl rfl rfl ?_
  intro p1 h2 M3
  refine WS.box M3 [_, _, _, _] rfl rfl rfl rfl ?_
  intro p4 h5 M6
  refine WS.op rfl rfl (WS.nil [(2, _), (3, _)] rfl ?_)
  refine WC.seq ?_
  refine WC.seq ?_
  refine WC.run ?_
  refine WS.op rfl (op_lds [_, _, _, _] (M6.at 0 rfl) rfl (Nat.le_of_ble_eq_true rfl) rfl) ?_
  refine WS.call rfl rfl rfl (GreatR_ran M6.here (r := r) (A.mono M6.sub) (by assumption)) ?_
  rintro _ h7 ⟨⟨g6, rfl, hg6⟩, N8⟩
  have M9 := M6.trans N8
  refine WS.nil [(2, _), (3, _), (6, _)] rfl ?_
  cases hb1 : g6
  · skip
    refine WC.condF rfl ?_
    refine WC.skip ?_
    refine WC.seq ?_
    refine WC.draw M9 [] rfl ?_
    intro rb10 h11 M12
    refine WS.op rfl (op_lds [_, _, _, _, _, _, _, _, _, _, _, _, _, _, _, _] (M12.at 1 rfl) rfl (Nat.le_of_ble_eq_true rfl) rfl) (WS.op rfl (op_lds [_, _, _, _, _, _, _, _, _, _, _, _, _, _, _, _] (M12.at 1 rfl) rfl (Nat.le_of_ble_eq_true rfl) rfl) ?_)
    refine WS.call rfl rfl rfl (WriteO_ran M12.here (o := o)) ?_
    rintro _ h13 ⟨rfl, N14⟩
    have M15 := M12.trans N14
    refine WS.chk rfl (op_lds [_, _, _, _, _, _, _, _, _, _, _, _, _, _, _, _] (M15.at 1 rfl) rfl (Nat.le_of_ble_eq_true rfl) rfl) rfl (same_agg rfl) ?_
    refine WS.call rfl rfl rfl (refWriteO_ran M15.here (o := o)) ?_
    rintro _ h16 ⟨rfl, N17⟩
    have M18 := M15.trans N17
    refine WS.seql (l := (if mayOB o then encO o else [])) (m := (if mayOB o then encO o else [])) rfl rfl rfl (fun e12 => ?_) (fun e12 => ?_)
    · skip
      refine WS.op rfl rfl (WS.op rfl (op_lds [_, _, _, _] (M18.at 0 rfl) rfl (Nat.le_of_ble_eq_true rfl) rfl) (WS.op rfl (op_lds [_, _, _, _] (M18.at 0 rfl) rfl (Nat.le_of_ble_eq_true rfl) rfl) ?_))
      refine WS.call rfl rfl rfl (WriteR_ran M18.here (r := r) (A.mono M18.sub) (by exact hg6 (by assumption))) ?_
      rintro _ h19 ⟨rfl, N20⟩
      have M21 := M18.trans N20
      refine WS.chk rfl (op_lds [_, _, _, _] (M21.at 0 rfl) rfl (Nat.le_of_ble_eq_true rfl) rfl) rfl (same_agg rfl) ?_
      refine WS.call rfl rfl rfl (refWriteR_ran M21.here (r := r) (A.mono M21.sub) (by exact hg6 (by assumption))) ?_
      rintro _ h22 ⟨rfl, N23⟩
      have M24 := M21.trans N23
      refine WS.seql (l := (encR r)) (m := (encR r)) rfl rfl rfl (fun e18 => ?_) (fun e18 => ?_)
      · skip
        refine WS.op rfl rfl (WS.op rfl rfl ?_)
        refine WS.call rfl rfl rfl (awake_ran M24.here ) ?_
        rintro _ h25 ⟨rfl, N26⟩
        have M27 := M24.trans N26
        refine WS.op rfl rfl (WS.op rfl rfl (WS.nil [(4, _)] rfl ?_))
        refine WC.ret ?_
        refine ⟨[_], (res_tmp rfl res_nil), ?_⟩
        rfl
      · skip
        exact absurd rfl e18
    · skip
      exact absurd rfl e12
  · skip
    refine WC.condT rfl ?_
    refine WC.seq ?_
    refine WC.run ?_
    refine WS.call rfl rfl rfl (awake_ran M9.here ) ?_
    rintro _ h28 ⟨rfl, N29⟩
    have M30 := M9.trans N29
    refine WS.op rfl rfl (WS.nil [(4, _)] rfl ?_)
    refine WC.ret ?_
    refine ⟨[_], (res_tmp rfl res_nil), ?_⟩
    rfl
end Go.Proofs.Ytncpdahappmhkaa.Wt
