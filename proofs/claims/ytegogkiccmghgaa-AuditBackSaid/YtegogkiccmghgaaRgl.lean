/- The statements of chapter 19, walked. -/
import Derived.Test.YtegogkiccmghgaaRgc
import Derived.Test.YtegogkiccmghgaaAmZO
import Derived.KernelRfl
namespace Go.Proofs.Ytegogkiccmghgaa.Wt
open Go Go.Proofs.Ytegogkiccmghgaa.Am Go.Proofs.Ytegogkiccmghgaa.IrAll
set_option linter.unusedVariables false
set_option linter.unusedSimpArgs false
theorem opens_5 : OpensL Try.prog 5 layU8 1 (fun _ => True) := OpensL.u8 Try.underlying5 (by kernel_rfl)
theorem opens_32 : OpensL Try.prog 32 (layP layU8 (layP layU8 (layP layU8 (layP layU8 (layP layU8 (layP layU8 (layP layU8 layU8))))))) 8 (fun _ => True) := OpensL.array (fs := [(5, 0), (5, 1), (5, 2), (5, 3), (5, 4), (5, 5), (5, 6), (5, 7)]) id (fun _ _ _ h => h) (fun _ _ => trivial) Try.underlying32 (by kernel_rfl) (by kernel_rfl) (OpensLF.cons (by decide) (by decide) opens_5 (OpensLF.cons (by decide) (by decide) opens_5 (OpensLF.cons (by decide) (by decide) opens_5 (OpensLF.cons (by decide) (by decide) opens_5 (OpensLF.cons (by decide) (by decide) opens_5 (OpensLF.cons (by decide) (by decide) opens_5 (OpensLF.cons (by decide) (by decide) opens_5 (OpensLF.one opens_5))))))))
theorem opens_27 : OpensL Try.prog 27 layU64 1 (fun _ => True) := OpensL.u64 Try.underlying27 (by kernel_rfl)
set_option maxRecDepth 100000 in
theorem opens_34 : OpensL Try.prog 34 (α := Rw) (fun _ y cs => cs = KRw.cells y) 11 (fun _ => True) := by
  refine OpensL.struct (fs := [(5, 0), (5, 1), (32, 2), (27, 10)]) (L := (layP layU8 (layP layU8 (layP (layP layU8 (layP layU8 (layP layU8 (layP layU8 (layP layU8 (layP layU8 (layP layU8 layU8))))))) layU64)))) (mk := fun (op, cd, (t0, t1, t2, t3, t4, t5, t6, t7), sq) => ⟨op, cd, t0, t1, t2, t3, t4, t5, t6, t7, sq⟩) ?_ ?_ (by kernel_rfl) (by kernel_rfl) (OpensLF.cons (by decide) (by decide) opens_5 (OpensLF.cons (by decide) (by decide) opens_5 (OpensLF.cons (by decide) (by decide) opens_32 (OpensLF.one opens_27))))
  · rintro h ⟨op, cd, ⟨t0, t1, t2, t3, t4, t5, t6, t7⟩, sq⟩ cs ⟨_, _, rfl, rfl, ⟨_, _, rfl, rfl, ⟨_, _, rfl, ⟨_, _, rfl, rfl, ⟨_, _, rfl, rfl, ⟨_, _, rfl, rfl, ⟨_, _, rfl, rfl, ⟨_, _, rfl, rfl, ⟨_, _, rfl, rfl, ⟨_, _, rfl, rfl, rfl⟩⟩⟩⟩⟩⟩⟩, rfl⟩⟩⟩
    rfl
  · rintro ⟨op, cd, ⟨t0, t1, t2, t3, t4, t5, t6, t7⟩, sq⟩ ⟨k0, k1, k2, k3⟩
    exact trivial
theorem opens_22 : OpensL Try.prog 22 (laySl (fun _ y cs => cs = KRw.cells y) 11) 1 (fun l => l.length < 9223372036854775808 ∧ ∀ x ∈ l, (fun _ => True) x) := OpensL.slice Try.underlying22 (by kernel_rfl) (by decide) opens_34
theorem opens_50 : OpensL Try.prog 50 layU16 1 (fun _ => True) := OpensL.u16 Try.underlying50 (by kernel_rfl)
theorem opens_9 : OpensL Try.prog 9 layStr 1 (fun a => a.length < 9223372036854775808) := OpensL.string Try.underlying9 (by kernel_rfl)
variable {h base : H} {L : List Seg} {R : List Nat}
theorem awake_ran (W : Mem h h [] []) : Cll tab0 8 [] h (fun v h2 => v = .bool true ∧ Mem h h2 [] []) := ⟨_, h, awake_run h, rfl, W⟩
theorem same_self_ran (W : Mem h h [] []) {V V2 : Value} {l : List Rw} (A : KRw.Sl h V l) (B : KRw.Sl h V2 l) (hl : l.length ≤ 1000000) : Cll tab0 14 [V, V2] h (fun v h2 => v = .bool true ∧ Mem h h2 [] []) := by
  obtain ⟨v, h2, r, hv, M⟩ := same_ran W A B hl
  exact ⟨v, h2, r, by rw [hv]; simp, M⟩
/-! ### What is written is read -/
theorem rdRows_flat : ∀ (l : List Rw) (q : List UInt8), rdRows l.length (l.flatMap rowb ++ q) = some (l, q) := by
  intro l
  induction l with
  | nil => intro q; simp [rdRows]
  | cons x l ih =>
    intro q
    have e : (x :: l).flatMap rowb ++ q = x.op :: x.cd :: x.t0 :: x.t1 :: x.t2 :: x.t3 :: x.t4 :: x.t5 :: x.t6 :: x.t7 :: (vb x.sq.toNat ++ (l.flatMap rowb ++ q)) := by
      simp [rowb, Rw.tok]
    rw [e, List.length_cons, rdRows, getV_vb x.sq.toNat_lt]
    simp only [List.drop_left]
    rw [ih]
    simp [cont]
theorem rd_wr {t : Nat} {l : List Rw} (ht : t < 18446744073709551616) (hl : l.length = min t 8) (q : List UInt8) : rd (wr t l ++ q) = if q = [] then some (t, l) else none := by
  unfold rd
  have e : wr t l ++ q = vb t ++ (l.flatMap rowb ++ q) := by unfold wr; rw [List.append_assoc]
  rw [e, getV_vb ht]
  simp only [List.drop_left]
  rw [← hl, rdRows_flat]
theorem rd_wr0 {t : Nat} {l : List Rw} (ht : t < 18446744073709551616) (hl : l.length = min t 8) : rd (wr t l) = some (t, l) := by
  have := rd_wr ht hl []
  rw [List.append_nil, if_pos rfl] at this; exact this
theorem rdRows_sound : ∀ (n : Nat) (s : List UInt8) (l : List Rw) (r : List UInt8), rdRows n s = some (l, r) → s = l.flatMap rowb ++ r ∧ l.length = n := by
  intro n
  induction n with
  | zero => intro s l r h; simp [rdRows] at h; obtain ⟨rfl, rfl⟩ := h; simp
  | succ n ih =>
    intro s l r h
    by_cases c : s.length < 10
    · rw [rdRows_short c] at h; cases h
    · obtain ⟨a, b, c0, c1, c2, c3, c4, c5, c6, c7, t, rfl⟩ := ten (by omega : 10 ≤ s.length)
      rw [rdRows] at h
      cases g : getV t with
      | none => rw [g] at h; cases h
      | some p =>
        obtain ⟨q, k⟩ := p
        rw [g] at h
        simp only at h
        obtain ⟨g1, _, g3⟩ := getV_some g
        cases e : rdRows n (t.drop k) with
        | none => rw [e] at h; cases h
        | some p2 =>
          obtain ⟨l2, r2⟩ := p2
          rw [e] at h
          simp only [cont, Option.some.injEq, Prod.mk.injEq] at h
          obtain ⟨rfl, rfl⟩ := h
          obtain ⟨i1, i2⟩ := ih _ _ _ e
          have hq : (UInt64.ofNat q).toNat = q := by simp [UInt64.toNat_ofNat']; omega
          refine ⟨?_, by simp [i2]⟩
          rw [g1, i1]
          simp [rowb, Rw.tok, hq, i1]
theorem rd_sound {s : List UInt8} {t : Nat} {l : List Rw} (h : rd s = some (t, l)) : s = wr t l ∧ l.length = min t 8 ∧ t < 18446744073709551616 := by
  unfold rd at h
  cases g : getV s with
  | none => rw [g] at h; cases h
  | some p =>
    obtain ⟨n, k⟩ := p
    rw [g] at h
    simp only at h
    obtain ⟨g1, _, g3⟩ := getV_some g
    cases e : rdRows (min n 8) (s.drop k) with
    | none => rw [e] at h; cases h
    | some q =>
      obtain ⟨l2, r⟩ := q
      rw [e] at h
      simp only at h
      split at h
      · rename_i hr
        simp only [Option.some.injEq, Prod.mk.injEq] at h
        obtain ⟨rfl, rfl⟩ := h
        obtain ⟨i1, i2⟩ := rdRows_sound _ _ _ _ e
        refine ⟨?_, i2, g3⟩
        rw [hr, List.append_nil] at i1
        unfold wr; rw [← i1]; exact g1
      · cases h
theorem rd_pre {t t2 n : Nat} {l l2 : List Rw} (ht : t < 18446744073709551616) (hl : l.length = min t 8) (hn : n < (wr t l).length) (h : rd ((wr t l).take n) = some (t2, l2)) : False := by
  obtain ⟨e1, e2, e3⟩ := rd_sound h
  have e4 : wr t l = wr t2 l2 ++ (wr t l).drop n := by rw [← e1, List.take_append_drop]
  have e5 := rd_wr e3 e2 ((wr t l).drop n)
  rw [← e4, rd_wr0 ht hl, if_neg] at e5
  · cases e5
  · intro q; have := congrArg List.length q; rw [List.length_drop] at this; simp at this; omega
theorem same_sl {P : Option Addr} {n c : Nat} : sameV (.slice P n c) (.slice P n c) = true := by first | (simp [sameV, same1]; done) | (have := sameL_self (l := [.slice P n c]) rfl; simpa [sameL, sameV] using this)
theorem held_nil : Held KRw (.slice none 0 0) [] [] := fun _ _ => .nil
set_option maxRecDepth 8000 in
theorem law_AuditPlays (W : Mem h h [] []) {l : List Rw} {u0 : Value} (l0 : laySl (fun _ y cs => cs = KRw.cells y) 11 h l [u0]) (k0 : l.length < 9223372036854775808 ∧ ∀ x ∈ l, True) : Cll tab0 3 [u0] h (fun v _ => v = .bool true) := by
  obtain ⟨V0, hV, S0⟩ := l0
  cases hV
  have A : KRw.Sl h u0 l := SlL.sl S0
  obtain ⟨P, c, rfl⟩ := A.shape
  refine Cll.code rfl rfl ?_
  refine WC.env [(0, _)] rfl ?_
  refine WC.seq ?_
  refine WC.run ?_
  refine WS.op rfl rfl (WS.nil [(0, _)] rfl ?_)
  refine WC.seq ?_
  refine WC.seq ?_
  refine WC.run ?_
  refine WS.op rfl rfl (WS.op rfl (op_lenVS A rfl) ?_)
  refine WS.gtrN (a := (l).length) (b := 200) rfl rfl rfl (fun e9 => ?_) (fun e9 => ?_)
  · skip
    refine WS.nil [(0, _), (9, _)] rfl ?_
    refine WC.condT rfl ?_
    refine WC.seq ?_
    refine WC.run ?_
    refine WS.call rfl rfl rfl (awake_ran W.here ) ?_
    rintro _ h1 ⟨rfl, N2⟩
    have M3 := W.trans N2
    refine WS.op rfl rfl (WS.nil [(2, _)] rfl ?_)
    refine WC.ret ?_
    refine ⟨[_], (res_tmp rfl res_nil), ?_⟩
    rfl
  · skip
    refine WS.nil [(0, _), (9, _)] rfl ?_
    refine WC.condF rfl ?_
    refine WC.skip ?_
    refine WC.seq ?_
    refine WC.run ?_
    refine WS.call rfl rfl rfl (ring_New_ran W.here) ?_
    rintro _ h4 ⟨p7, cs8, G9, rfl, N5⟩
    have M6 := W.trans N5
    replace M6 : Mem _ _ ([(p7, _)] :: []) _ := M6
    refine WS.op rfl rfl (WS.nil [(0, _), (3, _)] rfl ?_)
    refine WC.seq ?_
    refine WC.run ?_
    refine WS.opV (.agg #[(.slice none 0 0), (.int .u64 (0 : Int))]) rfl rfl rfl ?_
    refine WS.new M6 rfl ?_
    intro p10 h11 M12
    refine WS.st1 (M12.focus 0 rfl) [_, _] [_, _] rfl rfl rfl rfl rfl (Nat.le_of_ble_eq_true rfl) (Nat.le_of_ble_eq_true rfl) rfl rfl ?_
    intro h13 M14
    replace M14 : Mem _ _ ([(p10, _)] :: [(p7, _)] :: []) _ := M14
    refine WS.nil [(0, _), (3, _), (4, _)] rfl ?_
    refine WC.seq ?_
    refine WC.seq ?_
    refine WC.run ?_
    refine WS.op rfl rfl (WS.nil [(0, _), (3, _), (4, _), (5, _)] rfl ?_)
    refine WC.block ?_
    obtain ⟨L15, eL17, M16⟩ := Mem.name3 (((M14.bare.focus 0 rfl)).nils.focus 2 rfl)
    refine WC.loop (σ := List Value × List Rw × Nat × Value × Seg × Nat) (fun ((cs, rl, t, Vw, S, i)) => [(0, (.slice P l.length c)), (3, (.pointer (some ⟨p7, 0, none⟩))), (4, (.pointer (some ⟨p10, 0, none⟩))), (5, (.int .i64 ((i : Nat) : Int)))]) (fun ((cs, rl, t, Vw, S, i)) hh => Mem h hh ([(p7, ⟨cs, 0, false⟩)] :: S :: [(p10, ⟨[Vw, (.int .u64 ((t : Nat) : Int))], 0, false⟩)] :: L15) [] ∧ Ring cs rl t ∧ Held KRw Vw rl S ∧ i ≤ l.length) (fun ((cs, rl, t, Vw, S, i)) => l.length - i) (cs8, [], 0, .slice none 0 0, [], 0) rfl ⟨(by exact M16), ?_⟩ ?_
    · exact ⟨by assumption, held_nil, by omega⟩
    · rintro ⟨cs, rl, t, Vw, S, i⟩ h18 ⟨M19, ⟨G, hH, hi1⟩⟩
      subst eL17
      refine WC.env [(0, _), (3, _), (4, _), (5, _)] rfl ?_
      obtain ⟨P_, c_, rfl⟩ := (hH _ (Mem.owni M19 1 rfl)).shape
      refine WC.seq ?_
      refine WC.seq ?_
      refine WC.run ?_
      refine WS.op rfl rfl (WS.op rfl rfl (WS.op rfl (op_lenVS A rfl) ?_))
      refine WS.lssN (a := i) (b := (l).length) rfl rfl rfl (fun e16 => ?_) (fun e16 => ?_)
      · skip
        refine WS.nil [(0, _), (3, _), (4, _), (5, _), (16, _)] rfl ?_
        refine WC.condT rfl ?_
        refine WC.skip ?_
        refine WC.seq ?_
        refine WC.block ?_
        refine WC.seq ?_
        refine WC.run ?_
        refine WS.op rfl rfl (WS.op rfl rfl (WS.op rfl rfl ?_))
        obtain ⟨y22, hy22⟩ : ∃ y, (l)[i]? = some y := ⟨_, List.getElem?_eq_getElem (show i < (l).length by first | omega | (simp only [List.length_drop, List.length_take, List.length_append, List.length_cons, List.length_nil, List.length_singleton]; omega) | (simp only [List.length_drop, List.length_take, List.length_append, List.length_cons, List.length_nil, List.length_singleton] at *; omega))⟩
        refine WS.iaVS A i hy22 rfl rfl rfl rfl ?_
        intro b22_ o22_ ha22
        refine WS.op rfl (op_ldAt rfl (ha22.mono M19.sub) rfl) ?_
        refine WS.call rfl rfl rfl (ring_Add_ran (x := y22) G (M19.focus 0 rfl)) ?_
        rintro _ h20 ⟨cs22, G23, rfl, M21⟩
        replace M21 : Mem _ _ ([(p7, _)] :: S :: [(p10, _)] :: []) _ := M21
        refine WS.nil [(0, _), (3, _), (4, _), (5, _)] rfl ?_
        refine WC.seq ?_
        refine WC.draw M21 [] rfl ?_
        intro rb24 h25 M26
        refine WS.op rfl (op_lds [_, _] (M26.at 2 rfl) rfl (Nat.le_of_ble_eq_true rfl) rfl) (WS.op rfl rfl (WS.op rfl rfl ?_))
        refine WS.iaVS A i hy22 rfl rfl rfl rfl ?_
        intro b28_ o28_ ha28
        refine WS.op rfl (op_ldAt rfl (ha28.mono M26.sub) rfl) ?_
        refine WS.call rfl rfl rfl (given_ran M26.here (x := y22)) ?_
        rintro _ h27 ⟨rfl, N28⟩
        have M29 := M26.trans N28
        refine WS.chk rfl (op_lds [_, _] (M29.at 2 rfl) rfl (Nat.le_of_ble_eq_true rfl) rfl) rfl (same_agg rfl) ?_
        refine WS.call rfl rfl rfl (ref19_Add_ran M29.here (x := y22) (t := t) (hH _ (Mem.owni M29 1 rfl)) (by exact G.le) (by exact G.lt)) ?_
        rintro _ h30 ⟨V37, S35, O36, rfl, N31⟩
        obtain ⟨P33, c34, rfl⟩ := (O36 _ (Mem.owni N31 0 rfl)).shape
        have M32 := M29.trans N31
        replace M32 : Mem _ _ (S35 :: [(p7, _)] :: S :: [(p10, _)] :: []) _ := M32
        refine WS.st1 (M32.focus 3 rfl) [_, _] [_, _] rfl rfl rfl rfl rfl (Nat.le_of_ble_eq_true rfl) (Nat.le_of_ble_eq_true rfl) rfl rfl ?_
        intro h38 M39
        replace M39 : Mem _ _ ([(p10, _)] :: S35 :: [(p7, _)] :: S :: []) _ := M39
        refine WS.nil [(0, _), (3, _), (4, _), (5, _)] rfl ?_
        refine WC.seq ?_
        refine WC.run ?_
        refine WS.op rfl rfl ?_
        refine WS.call rfl rfl rfl (ring_Rows_ran M39.bare.here (M39.bare.at 2 rfl) G23) ?_
        rintro _ h40 ⟨V43, S44, O45, rfl, N41⟩
        obtain ⟨p47, rfl, rfl⟩ := own_block O45 (addv_ne _ _)
        have M42 := M39.bare.trans N41
        replace M42 : Mem _ _ ([(p47, _)] :: [(p10, _)] :: S35 :: [(p7, _)] :: S :: []) _ := M42
        refine WS.op rfl rfl (WS.nil [(0, _), (3, _), (4, _), (5, _), (6, _)] rfl ?_)
        refine WC.seq ?_
        refine WC.seq ?_
        refine WC.draw M42 [] rfl ?_
        intro rb48 h49 M50
        refine WS.op rfl rfl (WS.op rfl rfl (WS.op rfl (op_ld (M50.at 1 rfl) rfl rfl) ?_))
        refine WS.call rfl rfl rfl (same_self_ran M50.here (Row.Sl.own (K := KRw) (l := (addv rl y22)) (M50.at 0 rfl)) (O36 _ (Mem.owni M50 2 rfl)) (by first | (have := addv_le y22 G.le; omega) | omega)) ?_
        rintro _ h51 ⟨rfl, N52⟩
        have M53 := M50.trans N52
        refine WS.opV (.bool false) rfl rfl rfl (WS.op rfl rfl (WS.op rfl rfl (WS.op rfl rfl (WS.op rfl (op_ld (M53.at 1 rfl) rfl rfl) ?_))))
        refine WS.call rfl rfl rfl (ring_Total_ran M53.here (M53.at 3 rfl) G23) ?_
        rintro _ h54 ⟨rfl, N55⟩
        have M56 := M53.trans N55
        refine WS.chk rfl (op_ld (M56.at 1 rfl) rfl rfl) rfl (sameV_refl rfl) ?_
        refine WS.neqN (a := (addt t)) (b := (addt t)) rfl rfl rfl (fun e44 => ?_) (fun e44 => ?_)
        · skip
          exact absurd rfl e44
        · skip
          refine WS.op rfl rfl (WS.nil [(0, _), (3, _), (4, _), (5, _), (6, _), (45, _)] rfl ?_)
          refine WC.condF rfl ?_
          refine WC.skip ?_
          refine WC.seq ?_
          refine WC.run ?_
          refine WS.op rfl rfl ?_
          obtain ⟨y47, hy47⟩ : ∃ y, ((addv rl y22))[0]? = some y := ⟨_, List.getElem?_eq_getElem (show 0 < ((addv rl y22)).length by exact addv_pos _ _)⟩
          refine WS.op rfl (op_iaV2 0 rfl rfl (by exact addv_pos _ _)) (WS.op rfl rfl (WS.op rfl (op_ldH rfl (Row.ld (K := KRw) (k := 10) (M56.bare.at 0 rfl) hy47 rfl)) (WS.opV (.int .u64 (((y47.sq + 1).toNat : Nat) : Int)) rfl rfl add1_u64 ?_)))
          obtain ⟨y51, hy51⟩ : ∃ y, ((addv rl y22))[0]? = some y := ⟨_, List.getElem?_eq_getElem (show 0 < ((addv rl y22)).length by exact addv_pos _ _)⟩
          refine WS.op rfl (op_iaV2 0 rfl rfl (by exact addv_pos _ _)) (WS.op rfl rfl ?_)
          refine WS.stE (K := KRw) (y' := { y51 with sq := (y47.sq + 1) }) (M56.bare.focus 0 rfl) hy51 (by decide) rfl rfl rfl rfl rfl rfl ?_
          intro h57 M58
          replace M58 : Mem _ _ ([(p47, _)] :: [(p10, _)] :: S35 :: [(p7, _)] :: S :: []) _ := M58
          refine WS.nil [(0, _), (3, _), (4, _), (5, _)] rfl ?_
          refine WC.seq ?_
          refine WC.draw M58 [] rfl ?_
          intro rb59 h60 M61
          refine WS.op rfl rfl (WS.op rfl rfl (WS.op rfl (op_ld (M61.at 1 rfl) rfl rfl) ?_))
          refine WS.call rfl rfl rfl (ring_Rows_ran M61.here (M61.at 3 rfl) G23) ?_
          rintro _ h62 ⟨V65, S66, O67, rfl, N63⟩
          obtain ⟨P68, rfl⟩ := O67.shape
          have M64 := M61.trans N63
          replace M64 : Mem _ _ (S66 :: [(p47, _)] :: [(p10, _)] :: S35 :: [(p7, _)] :: S :: []) _ := M64
          refine WS.chk rfl (op_ld (M64.at 2 rfl) rfl rfl) rfl same_sl ?_
          refine WS.call rfl rfl rfl (same_self_ran M64.here (Row.Own.sl O67 (Mem.owni M64 0 rfl)) (O36 _ (Mem.owni M64 3 rfl)) (by first | (have := addv_le y22 G.le; omega) | omega)) ?_
          rintro _ h69 ⟨rfl, N70⟩
          have M71 := M64.trans N70
          refine WS.opV (.bool false) rfl rfl rfl (WS.nil [(0, _), (3, _), (4, _), (5, _), (58, _)] rfl ?_)
          refine WC.condF rfl ?_
          refine WC.skip ?_
          refine WC.run ?_
          refine WS.op rfl rfl (WS.opV (.int .i64 (((i + 1) : Nat) : Int)) rfl rfl (add_i64 (a := i) (b := 1) (by omega)) (WS.op rfl rfl (WS.nil [(0, _), (3, _), (4, _), (5, _)] rfl ?_)))
          refine ⟨(cs22, (addv rl y22), (addt t), (.slice P33 ((addv rl y22)).length c34), S35, i + 1), rfl, ⟨((((M71.bare.bare.focus 2 rfl).focus 3 rfl).focus 4 rfl).take 3), ?_⟩, ?_⟩
          · exact ⟨by assumption, by assumption, by omega⟩
          · simp only []; omega
      · skip
        refine WS.nil [(0, _), (3, _), (4, _), (5, _), (16, _)] rfl ?_
        refine WC.condF rfl ?_
        refine WC.exit ?_
        refine WC.seq ?_
        refine WC.draw M19 [] rfl ?_
        intro rb72 h73 M74
        refine WS.op rfl rfl (WS.op rfl (op_lds [_, _] (M74.at 2 rfl) rfl (Nat.le_of_ble_eq_true rfl) rfl) ?_)
        refine WS.call rfl rfl rfl (ring_Write_ran M74.here (M74.at 0 rfl) G) ?_
        rintro _ h75 ⟨rfl, N76⟩
        have M77 := M74.trans N76
        refine WS.chk rfl (op_lds [_, _] (M77.at 2 rfl) rfl (Nat.le_of_ble_eq_true rfl) rfl) rfl (same_agg rfl) ?_
        refine WS.call rfl rfl rfl (ref19_Write_ran M77.here (t := t) (hH _ (Mem.owni M77 1 rfl)) (by exact G.le) (by exact G.lt)) ?_
        rintro _ h78 ⟨rfl, N79⟩
        have M80 := M77.trans N79
        refine WS.seql (l := (wr t rl)) (m := (wr t rl)) rfl rfl rfl (fun e63 => ?_) (fun e63 => ?_)
        · skip
          refine WS.op rfl rfl ?_
          refine WS.call rfl rfl rfl (awake_ran M80.here ) ?_
          rintro _ h81 ⟨rfl, N82⟩
          have M83 := M80.trans N82
          refine WS.op rfl rfl (WS.op rfl rfl (WS.nil [(2, _)] rfl ?_))
          refine WC.ret ?_
          refine ⟨[_], (res_tmp rfl res_nil), ?_⟩
          rfl
        · skip
          exact absurd rfl e63
end Go.Proofs.Ytegogkiccmghgaa.Wt
