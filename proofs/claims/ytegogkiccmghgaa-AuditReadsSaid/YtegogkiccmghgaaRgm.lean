/- The statement AuditReads of chapter 19, walked. -/
import Derived.Test.YtegogkiccmghgaaRgl
namespace Go.Proofs.Ytegogkiccmghgaa.Wt
open Go Go.Proofs.Ytegogkiccmghgaa.Am Go.Proofs.Ytegogkiccmghgaa.IrAll
set_option linter.unusedVariables false
set_option linter.unusedSimpArgs false
variable {h base : H} {L : List Seg} {R : List Nat}
set_option maxRecDepth 8000 in
theorem law_AuditReads (W : Mem h h [] []) {s : List UInt8} {l : List Rw} {u0 u1 : Value} (l0 : layStr h s [u0]) (l1 : laySl (fun _ y cs => cs = KRw.cells y) 11 h l [u1]) (k0 : s.length < 9223372036854775808) (k1 : l.length < 9223372036854775808 ∧ ∀ x ∈ l, True) : Cll tab0 5 [u0, u1] h (fun v _ => v = .bool true) := by
  have l0 : [u0] = [_] := l0
  cases l0
  obtain ⟨V0, hV, S0⟩ := l1
  cases hV
  have A : KRw.Sl h u1 l := SlL.sl S0
  obtain ⟨P, c, rfl⟩ := A.shape
  refine Cll.code rfl rfl ?_
  refine WC.env [(0, _), (1, _)] rfl ?_
  refine WC.seq ?_
  refine WC.run ?_
  refine WS.op rfl rfl (WS.nil [(0, _), (1, _)] rfl ?_)
  refine WC.seq ?_
  refine WC.seq ?_
  refine WC.run ?_
  refine WS.op rfl rfl (WS.op rfl (op_lenVS A rfl) ?_)
  refine WS.gtrN (a := (l).length) (b := 40) rfl rfl rfl (fun e12 => ?_) (fun e12 => ?_)
  · skip
    refine WS.nil [(0, _), (1, _), (12, _)] rfl ?_
    refine WC.condT rfl ?_
    refine WC.seq ?_
    refine WC.run ?_
    refine WS.call rfl rfl rfl (awake_ran W.here ) ?_
    rintro _ h1 ⟨rfl, N2⟩
    have M3 := W.trans N2
    refine WS.op rfl rfl (WS.nil [(4, _)] rfl ?_)
    refine WC.ret ?_
    refine ⟨[_], (res_tmp rfl res_nil), ?_⟩
    rfl
  · skip
    refine WS.nil [(0, _), (1, _), (12, _)] rfl ?_
    refine WC.condF rfl ?_
    refine WC.skip ?_
    refine WC.seq ?_
    refine WC.seq ?_
    refine WC.run ?_
    refine WS.op rfl rfl (WS.op rfl (op_lenS (l := s) rfl) ?_)
    refine WS.gtrN (a := (s).length) (b := 1000) rfl rfl rfl (fun e16 => ?_) (fun e16 => ?_)
    · skip
      refine WS.nil [(0, _), (1, _), (16, _)] rfl ?_
      refine WC.condT rfl ?_
      refine WC.run ?_
      refine WS.op rfl rfl (WS.op rfl (op_slS1 (l := s) 1000 rfl rfl (by first | omega | (simp only [List.length_drop, List.length_take, List.length_append, List.length_cons, List.length_nil, List.length_singleton]; omega) | (simp only [List.length_drop, List.length_take, List.length_append, List.length_cons, List.length_nil, List.length_singleton] at *; omega))) (WS.op rfl rfl (WS.nil [(0, _), (1, _)] rfl ?_)))
      refine WC.seq ?_
      refine WC.run ?_
      refine WS.op rfl rfl ?_
      refine WS.call rfl rfl rfl (ring_Read_ran W.here (s := ((s).take 1000)) (by first | omega | (simp only [List.length_drop, List.length_take, List.length_append, List.length_cons, List.length_nil, List.length_singleton]; omega) | (simp only [List.length_drop, List.length_take, List.length_append, List.length_cons, List.length_nil, List.length_singleton] at *; omega))) ?_
      rintro _ h4 (⟨hr21, rfl, N5⟩ | ⟨n21, l21, p7, cs8, hr21, G9, rfl, N5⟩)
      · skip
        have M6 := W.trans N5
        refine WS.op rfl rfl (WS.op rfl rfl (WS.op rfl rfl (WS.op rfl rfl (WS.op rfl rfl (WS.nil [(0, _), (1, _), (5, _), (6, _)] rfl ?_)))))
        refine WC.seq ?_
        refine WC.run ?_
        refine WS.op rfl rfl ?_
        refine WS.call rfl rfl rfl (ref19_Read_ran M6.here (s := ((s).take 1000)) (by first | omega | (simp only [List.length_drop, List.length_take, List.length_append, List.length_cons, List.length_nil, List.length_singleton]; omega) | (simp only [List.length_drop, List.length_take, List.length_append, List.length_cons, List.length_nil, List.length_singleton] at *; omega))) ?_
        rintro _ h10 ⟨V13, S14, l26, n26, ok26, O15, rfl, hn26, hy26, hz26, N11⟩
        obtain ⟨P16, rfl⟩ := O15.shape
        have M12 := M6.trans N11
        replace M12 : Mem _ _ (S14 :: []) _ := M12
        refine WS.op rfl rfl (WS.op rfl rfl (WS.op rfl rfl ?_))
        refine WS.new M12 rfl ?_
        intro p17 h18 M19
        refine WS.st1 (M19.focus 0 rfl) [_, _] [_, _] rfl rfl rfl rfl rfl (Nat.le_of_ble_eq_true rfl) (Nat.le_of_ble_eq_true rfl) rfl rfl ?_
        intro h20 M21
        replace M21 : Mem _ _ ([(p17, _)] :: S14 :: []) _ := M21
        refine WS.op rfl rfl (WS.nil [(0, _), (1, _), (5, _), (6, _), (7, _), (8, _)] rfl ?_)
        refine WC.seq ?_
        refine WC.seq ?_
        refine WC.run ?_
        refine WS.op rfl rfl (WS.op rfl rfl ?_)
        cases hb1 : ok26
        · skip
          refine WS.opV (.bool false) rfl rfl rfl (WS.op rfl rfl (WS.op rfl rfl (WS.op rfl rfl (WS.opV (.bool false) rfl rfl rfl (WS.opV (.bool false) rfl rfl rfl (WS.op rfl rfl (WS.nil [(0, _), (1, _), (5, _), (6, _), (7, _), (37, _)] rfl ?_)))))))
          refine WC.condF rfl ?_
          refine WC.skip ?_
          refine WC.seq ?_
          refine WC.seq ?_
          refine WC.run ?_
          refine WS.op rfl rfl (WS.opV (.bool true) rfl rfl rfl (WS.nil [(0, _), (1, _), (5, _), (7, _), (39, _)] rfl ?_))
          refine WC.condT rfl ?_
          refine WC.seq ?_
          refine WC.run ?_
          refine WS.call rfl rfl rfl (awake_ran M21.here ) ?_
          rintro _ h22 ⟨rfl, N23⟩
          have M24 := M21.trans N23
          refine WS.op rfl rfl (WS.nil [(4, _)] rfl ?_)
          refine WC.ret ?_
          refine ⟨[_], (res_tmp rfl res_nil), ?_⟩
          rfl
        · skip
          refine WS.opV (.bool true) rfl rfl rfl (WS.op rfl rfl (WS.off rfl (WS.off rfl (WS.off rfl (WS.off rfl (WS.op rfl rfl (WS.nil [(0, _), (1, _), (5, _), (6, _), (7, _), (37, _)] rfl ?_)))))))
          refine WC.condT rfl ?_
          refine WC.seq ?_
          refine WC.run ?_
          refine WS.op rfl rfl (WS.nil [(4, _)] rfl ?_)
          refine WC.ret ?_
          refine ⟨[_], (res_tmp rfl res_nil), ?_⟩
          exfalso; first | (have := hr21.symm.trans (hy26 (by assumption)); cases this; done) | (have := hr21.symm.trans (hz26 (by assumption)); cases this; done)
      · skip
        have M6 := W.trans N5
        replace M6 : Mem _ _ ([(p7, _)] :: []) _ := M6
        refine WS.op rfl rfl (WS.op rfl rfl (WS.op rfl rfl (WS.op rfl rfl (WS.op rfl rfl (WS.nil [(0, _), (1, _), (5, _), (6, _)] rfl ?_)))))
        refine WC.seq ?_
        refine WC.run ?_
        refine WS.op rfl rfl ?_
        refine WS.call rfl rfl rfl (ref19_Read_ran M6.here (s := ((s).take 1000)) (by first | omega | (simp only [List.length_drop, List.length_take, List.length_append, List.length_cons, List.length_nil, List.length_singleton]; omega) | (simp only [List.length_drop, List.length_take, List.length_append, List.length_cons, List.length_nil, List.length_singleton] at *; omega))) ?_
        rintro _ h25 ⟨V28, S29, l26, n26, ok26, O30, rfl, hn26, hy26, hz26, N26⟩
        obtain ⟨P31, rfl⟩ := O30.shape
        have M27 := M6.trans N26
        replace M27 : Mem _ _ (S29 :: [(p7, _)] :: []) _ := M27
        refine WS.op rfl rfl (WS.op rfl rfl (WS.op rfl rfl ?_))
        refine WS.new M27 rfl ?_
        intro p32 h33 M34
        refine WS.st1 (M34.focus 0 rfl) [_, _] [_, _] rfl rfl rfl rfl rfl (Nat.le_of_ble_eq_true rfl) (Nat.le_of_ble_eq_true rfl) rfl rfl ?_
        intro h35 M36
        replace M36 : Mem _ _ ([(p32, _)] :: S29 :: [(p7, _)] :: []) _ := M36
        refine WS.op rfl rfl (WS.nil [(0, _), (1, _), (5, _), (6, _), (7, _), (8, _)] rfl ?_)
        refine WC.seq ?_
        refine WC.seq ?_
        refine WC.run ?_
        refine WS.op rfl rfl (WS.op rfl rfl ?_)
        cases hb1 : ok26
        · skip
          refine WS.opV (.bool true) rfl rfl rfl (WS.op rfl rfl (WS.off rfl (WS.off rfl (WS.off rfl (WS.off rfl (WS.op rfl rfl (WS.nil [(0, _), (1, _), (5, _), (6, _), (7, _), (37, _)] rfl ?_)))))))
          refine WC.condT rfl ?_
          refine WC.seq ?_
          refine WC.run ?_
          refine WS.op rfl rfl (WS.nil [(4, _)] rfl ?_)
          refine WC.ret ?_
          refine ⟨[_], (res_tmp rfl res_nil), ?_⟩
          exfalso; first | (have := hr21.symm.trans (hy26 (by assumption)); cases this; done) | (have := hr21.symm.trans (hz26 (by assumption)); cases this; done)
        · skip
          refine WS.opV (.bool false) rfl rfl rfl (WS.op rfl rfl (WS.op rfl rfl (WS.op rfl rfl (WS.opV (.bool true) rfl rfl rfl (WS.opV (.bool false) rfl rfl rfl (WS.op rfl rfl (WS.nil [(0, _), (1, _), (5, _), (6, _), (7, _), (37, _)] rfl ?_)))))))
          refine WC.condF rfl ?_
          refine WC.skip ?_
          refine WC.seq ?_
          refine WC.seq ?_
          refine WC.run ?_
          refine WS.op rfl rfl (WS.opV (.bool false) rfl rfl rfl (WS.nil [(0, _), (1, _), (5, _), (7, _), (39, _)] rfl ?_))
          refine WC.condF rfl ?_
          refine WC.skip ?_
          refine WC.seq ?_
          refine WC.seq ?_
          refine WC.draw M36 [] rfl ?_
          intro rb37 h38 M39
          obtain ⟨rfl, rfl⟩ : n21 = n26 ∧ l21 = l26 := by have := hr21.symm.trans (hy26 (by assumption)); simpa using this
          have hw := (rd_sound hr21).1
          have hl8 := G9.le
          have ht8 := G9.lt
          refine WS.op rfl rfl (WS.op rfl rfl ?_)
          refine WS.call rfl rfl rfl (ring_Write_ran M39.here (M39.at 2 rfl) G9) ?_
          rintro _ h40 ⟨rfl, N41⟩
          have M42 := M39.trans N41
          refine WS.sneq (l := (wr n21 l21)) (m := ((s).take 1000)) rfl rfl rfl (fun e44 => ?_) (fun e44 => ?_)
          · skip
            exact absurd hw.symm e44
          · skip
            refine WS.op rfl rfl (WS.op rfl rfl (WS.op rfl rfl (WS.op rfl (op_ld (M42.at 0 rfl) rfl rfl) ?_)))
            refine WS.call rfl rfl rfl (ring_Rows_ran M42.here (M42.at 2 rfl) G9) ?_
            rintro _ h43 ⟨V46, S47, O48, rfl, N44⟩
            obtain ⟨P49, rfl⟩ := O48.shape
            have M45 := M42.trans N44
            replace M45 : Mem _ _ (S47 :: [(p32, _)] :: S29 :: [(p7, _)] :: []) _ := M45
            refine WS.chk rfl (op_ld (M45.at 1 rfl) rfl rfl) rfl same_sl ?_
            refine WS.call rfl rfl rfl (same_self_ran M45.here (Row.Own.sl O48 (Mem.owni M45 0 rfl)) (Row.Own.sl O30 (Mem.owni M45 2 rfl)) (by first | omega | (have := G.le; omega))) ?_
            rintro _ h50 ⟨rfl, N51⟩
            have M52 := M45.trans N51
            refine WS.opV (.bool false) rfl rfl rfl (WS.op rfl rfl (WS.op rfl rfl (WS.op rfl rfl (WS.op rfl rfl (WS.op rfl (op_ld (M52.at 1 rfl) rfl rfl) ?_)))))
            refine WS.call rfl rfl rfl (ring_Total_ran M52.here (M52.at 3 rfl) G9) ?_
            rintro _ h53 ⟨rfl, N54⟩
            have M55 := M52.trans N54
            refine WS.chk rfl (op_ld (M55.at 1 rfl) rfl rfl) rfl (sameV_refl rfl) ?_
            refine WS.neqN (a := n21) (b := n21) rfl rfl rfl (fun e58 => ?_) (fun e58 => ?_)
            · skip
              exact absurd rfl e58
            · skip
              refine WS.op rfl rfl (WS.nil [(1, _), (5, _), (7, _), (59, _)] rfl ?_)
              refine WC.condF rfl ?_
              refine WC.skip ?_
              refine WC.seq ?_
              refine WC.seq ?_
              refine WC.run ?_
              refine WS.op rfl rfl (WS.nil [(1, _), (5, _), (7, _), (9, _)] rfl ?_)
              refine WC.block ?_
              obtain ⟨L56, eL58, M57⟩ := Mem.name3 (((M55.bare.bare.focus 1 rfl).focus 2 rfl).focus 3 rfl)
              refine WC.loop (σ := List Value × List Rw × Nat × Value × Seg × Nat) (fun ((cs, rl, t, Vw, S, i)) => [(1, (.slice P l.length c)), (5, (.pointer (some ⟨p7, 0, none⟩))), (7, (.pointer (some ⟨p32, 0, none⟩))), (9, (.int .i64 ((i : Nat) : Int)))]) (fun ((cs, rl, t, Vw, S, i)) hh => Mem h hh ([(p7, ⟨cs, 0, false⟩)] :: S :: [(p32, ⟨[Vw, (.int .u64 ((t : Nat) : Int))], 0, false⟩)] :: L56) [] ∧ Ring cs rl t ∧ Held KRw Vw rl S ∧ i ≤ l.length) (fun ((cs, rl, t, Vw, S, i)) => l.length - i) (cs8, l21, n21, (.slice P31 (l21).length (2 * (l21).length)), S29, 0) rfl ⟨(by exact M57), ?_⟩ ?_
              · exact ⟨by assumption, held_own (by assumption) rfl, by omega⟩
              · rintro ⟨cs, rl, t, Vw, S, i⟩ h59 ⟨M60, ⟨G, hH, hi1⟩⟩
                subst eL58
                refine WC.env [(1, _), (5, _), (7, _), (9, _)] rfl ?_
                obtain ⟨P_, c_, rfl⟩ := (hH _ (Mem.owni M60 1 rfl)).shape
                refine WC.seq ?_
                refine WC.seq ?_
                refine WC.run ?_
                refine WS.op rfl rfl (WS.op rfl rfl (WS.op rfl (op_lenVS A rfl) ?_))
                refine WS.lssN (a := i) (b := (l).length) rfl rfl rfl (fun e63 => ?_) (fun e63 => ?_)
                · skip
                  refine WS.nil [(1, _), (5, _), (7, _), (9, _), (63, _)] rfl ?_
                  refine WC.condT rfl ?_
                  refine WC.skip ?_
                  refine WC.seq ?_
                  refine WC.block ?_
                  refine WC.seq ?_
                  refine WC.run ?_
                  refine WS.op rfl rfl (WS.op rfl rfl (WS.op rfl rfl ?_))
                  obtain ⟨y69, hy69⟩ : ∃ y, (l)[i]? = some y := ⟨_, List.getElem?_eq_getElem (show i < (l).length by first | omega | (simp only [List.length_drop, List.length_take, List.length_append, List.length_cons, List.length_nil, List.length_singleton]; omega) | (simp only [List.length_drop, List.length_take, List.length_append, List.length_cons, List.length_nil, List.length_singleton] at *; omega))⟩
                  refine WS.iaVS A i hy69 rfl rfl rfl rfl ?_
                  intro b69_ o69_ ha69
                  refine WS.op rfl (op_ldAt rfl (ha69.mono M60.sub) rfl) ?_
                  refine WS.call rfl rfl rfl (ring_Add_ran (x := y69) G (M60.focus 0 rfl)) ?_
                  rintro _ h61 ⟨cs63, G64, rfl, M62⟩
                  replace M62 : Mem _ _ ([(p7, _)] :: S :: [(p32, _)] :: S47 :: []) _ := M62
                  refine WS.nil [(1, _), (5, _), (7, _), (9, _)] rfl ?_
                  refine WC.draw M62 [] rfl ?_
                  intro rb65 h66 M67
                  refine WS.op rfl (op_lds [_, _] (M67.at 2 rfl) rfl (Nat.le_of_ble_eq_true rfl) rfl) (WS.op rfl rfl (WS.op rfl rfl ?_))
                  refine WS.iaVS A i hy69 rfl rfl rfl rfl ?_
                  intro b75_ o75_ ha75
                  refine WS.op rfl (op_ldAt rfl (ha75.mono M67.sub) rfl) ?_
                  refine WS.call rfl rfl rfl (given_ran M67.here (x := y69)) ?_
                  rintro _ h68 ⟨rfl, N69⟩
                  have M70 := M67.trans N69
                  refine WS.chk rfl (op_lds [_, _] (M70.at 2 rfl) rfl (Nat.le_of_ble_eq_true rfl) rfl) rfl (same_agg rfl) ?_
                  refine WS.call rfl rfl rfl (ref19_Add_ran M70.here (x := y69) (t := t) (hH _ (Mem.owni M70 1 rfl)) (by exact G.le) (by exact G.lt)) ?_
                  rintro _ h71 ⟨V78, S76, O77, rfl, N72⟩
                  obtain ⟨P74, c75, rfl⟩ := (O77 _ (Mem.owni N72 0 rfl)).shape
                  have M73 := M70.trans N72
                  replace M73 : Mem _ _ (S76 :: [(p7, _)] :: S :: [(p32, _)] :: S47 :: []) _ := M73
                  refine WS.st1 (M73.focus 3 rfl) [_, _] [_, _] rfl rfl rfl rfl rfl (Nat.le_of_ble_eq_true rfl) (Nat.le_of_ble_eq_true rfl) rfl rfl ?_
                  intro h79 M80
                  replace M80 : Mem _ _ ([(p32, _)] :: S76 :: [(p7, _)] :: S :: S47 :: []) _ := M80
                  refine WS.nil [(1, _), (5, _), (7, _), (9, _)] rfl ?_
                  refine WC.run ?_
                  refine WS.op rfl rfl (WS.opV (.int .i64 (((i + 1) : Nat) : Int)) rfl rfl (add_i64 (a := i) (b := 1) (by omega)) (WS.op rfl rfl (WS.nil [(1, _), (5, _), (7, _), (9, _)] rfl ?_)))
                  refine ⟨(cs63, (addv rl y69), (addt t), (.slice P74 ((addv rl y69)).length c75), S76, i + 1), rfl, ⟨(((((M80.bare.bare.focus 4 rfl).focus 1 rfl).focus 2 rfl).focus 3 rfl).take 4), ?_⟩, ?_⟩
                  · exact ⟨by assumption, by assumption, by omega⟩
                  · simp only []; omega
                · skip
                  refine WS.nil [(1, _), (5, _), (7, _), (9, _), (63, _)] rfl ?_
                  refine WC.condF rfl ?_
                  refine WC.exit ?_
                  refine WC.seq ?_
                  refine WC.draw M60 [] rfl ?_
                  intro rb81 h82 M83
                  refine WS.op rfl rfl (WS.op rfl rfl (WS.op rfl (op_ld (M83.at 2 rfl) rfl rfl) ?_))
                  refine WS.call rfl rfl rfl (ring_Rows_ran M83.here (M83.at 0 rfl) G) ?_
                  rintro _ h84 ⟨V87, S88, O89, rfl, N85⟩
                  obtain ⟨P90, rfl⟩ := O89.shape
                  have M86 := M83.trans N85
                  replace M86 : Mem _ _ (S88 :: [(p7, _)] :: S :: [(p32, _)] :: S47 :: []) _ := M86
                  refine WS.chk rfl (op_ld (M86.at 3 rfl) rfl rfl) rfl same_sl ?_
                  refine WS.call rfl rfl rfl (same_self_ran M86.here (Row.Own.sl O89 (Mem.owni M86 0 rfl)) (hH _ (Mem.owni M86 2 rfl)) (by first | omega | (have := G.le; omega))) ?_
                  rintro _ h91 ⟨rfl, N92⟩
                  have M93 := M86.trans N92
                  refine WS.op rfl rfl (WS.op rfl rfl (WS.op rfl rfl (WS.op rfl (op_ld (M93.at 3 rfl) rfl rfl) ?_)))
                  refine WS.call rfl rfl rfl (ring_Total_ran M93.here (M93.at 1 rfl) G) ?_
                  rintro _ h94 ⟨rfl, N95⟩
                  have M96 := M93.trans N95
                  refine WS.chk rfl (op_ld (M96.at 3 rfl) rfl rfl) rfl (sameV_refl rfl) ?_
                  refine WS.eqlN (a := t) (b := t) rfl rfl rfl (fun e89 => ?_) (fun e89 => ?_)
                  · skip
                    refine WS.op rfl rfl (WS.op rfl rfl ?_)
                    refine WS.call rfl rfl rfl (awake_ran M96.here ) ?_
                    rintro _ h97 ⟨rfl, N98⟩
                    have M99 := M96.trans N98
                    refine WS.op rfl rfl (WS.op rfl rfl (WS.nil [(4, _)] rfl ?_))
                    refine WC.ret ?_
                    refine ⟨[_], (res_tmp rfl res_nil), ?_⟩
                    rfl
                  · skip
                    exact absurd rfl e89
    · skip
      refine WS.nil [(0, _), (1, _), (16, _)] rfl ?_
      refine WC.condF rfl ?_
      refine WC.skip ?_
      refine WC.seq ?_
      refine WC.run ?_
      refine WS.op rfl rfl ?_
      refine WS.call rfl rfl rfl (ring_Read_ran W.here (s := s) (by first | omega | (simp only [List.length_drop, List.length_take, List.length_append, List.length_cons, List.length_nil, List.length_singleton]; omega) | (simp only [List.length_drop, List.length_take, List.length_append, List.length_cons, List.length_nil, List.length_singleton] at *; omega))) ?_
      rintro _ h100 (⟨hr21, rfl, N101⟩ | ⟨n21, l21, p103, cs104, hr21, G105, rfl, N101⟩)
      · skip
        have M102 := W.trans N101
        refine WS.op rfl rfl (WS.op rfl rfl (WS.op rfl rfl (WS.op rfl rfl (WS.op rfl rfl (WS.nil [(0, _), (1, _), (5, _), (6, _)] rfl ?_)))))
        refine WC.seq ?_
        refine WC.run ?_
        refine WS.op rfl rfl ?_
        refine WS.call rfl rfl rfl (ref19_Read_ran M102.here (s := s) (by first | omega | (simp only [List.length_drop, List.length_take, List.length_append, List.length_cons, List.length_nil, List.length_singleton]; omega) | (simp only [List.length_drop, List.length_take, List.length_append, List.length_cons, List.length_nil, List.length_singleton] at *; omega))) ?_
        rintro _ h106 ⟨V109, S110, l26, n26, ok26, O111, rfl, hn26, hy26, hz26, N107⟩
        obtain ⟨P112, rfl⟩ := O111.shape
        have M108 := M102.trans N107
        replace M108 : Mem _ _ (S110 :: []) _ := M108
        refine WS.op rfl rfl (WS.op rfl rfl (WS.op rfl rfl ?_))
        refine WS.new M108 rfl ?_
        intro p113 h114 M115
        refine WS.st1 (M115.focus 0 rfl) [_, _] [_, _] rfl rfl rfl rfl rfl (Nat.le_of_ble_eq_true rfl) (Nat.le_of_ble_eq_true rfl) rfl rfl ?_
        intro h116 M117
        replace M117 : Mem _ _ ([(p113, _)] :: S110 :: []) _ := M117
        refine WS.op rfl rfl (WS.nil [(0, _), (1, _), (5, _), (6, _), (7, _), (8, _)] rfl ?_)
        refine WC.seq ?_
        refine WC.seq ?_
        refine WC.run ?_
        refine WS.op rfl rfl (WS.op rfl rfl ?_)
        cases hb1 : ok26
        · skip
          refine WS.opV (.bool false) rfl rfl rfl (WS.op rfl rfl (WS.op rfl rfl (WS.op rfl rfl (WS.opV (.bool false) rfl rfl rfl (WS.opV (.bool false) rfl rfl rfl (WS.op rfl rfl (WS.nil [(0, _), (1, _), (5, _), (6, _), (7, _), (37, _)] rfl ?_)))))))
          refine WC.condF rfl ?_
          refine WC.skip ?_
          refine WC.seq ?_
          refine WC.seq ?_
          refine WC.run ?_
          refine WS.op rfl rfl (WS.opV (.bool true) rfl rfl rfl (WS.nil [(0, _), (1, _), (5, _), (7, _), (39, _)] rfl ?_))
          refine WC.condT rfl ?_
          refine WC.seq ?_
          refine WC.run ?_
          refine WS.call rfl rfl rfl (awake_ran M117.here ) ?_
          rintro _ h118 ⟨rfl, N119⟩
          have M120 := M117.trans N119
          refine WS.op rfl rfl (WS.nil [(4, _)] rfl ?_)
          refine WC.ret ?_
          refine ⟨[_], (res_tmp rfl res_nil), ?_⟩
          rfl
        · skip
          refine WS.opV (.bool true) rfl rfl rfl (WS.op rfl rfl (WS.off rfl (WS.off rfl (WS.off rfl (WS.off rfl (WS.op rfl rfl (WS.nil [(0, _), (1, _), (5, _), (6, _), (7, _), (37, _)] rfl ?_)))))))
          refine WC.condT rfl ?_
          refine WC.seq ?_
          refine WC.run ?_
          refine WS.op rfl rfl (WS.nil [(4, _)] rfl ?_)
          refine WC.ret ?_
          refine ⟨[_], (res_tmp rfl res_nil), ?_⟩
          exfalso; first | (have := hr21.symm.trans (hy26 (by assumption)); cases this; done) | (have := hr21.symm.trans (hz26 (by assumption)); cases this; done)
      · skip
        have M102 := W.trans N101
        replace M102 : Mem _ _ ([(p103, _)] :: []) _ := M102
        refine WS.op rfl rfl (WS.op rfl rfl (WS.op rfl rfl (WS.op rfl rfl (WS.op rfl rfl (WS.nil [(0, _), (1, _), (5, _), (6, _)] rfl ?_)))))
        refine WC.seq ?_
        refine WC.run ?_
        refine WS.op rfl rfl ?_
        refine WS.call rfl rfl rfl (ref19_Read_ran M102.here (s := s) (by first | omega | (simp only [List.length_drop, List.length_take, List.length_append, List.length_cons, List.length_nil, List.length_singleton]; omega) | (simp only [List.length_drop, List.length_take, List.length_append, List.length_cons, List.length_nil, List.length_singleton] at *; omega))) ?_
        rintro _ h121 ⟨V124, S125, l26, n26, ok26, O126, rfl, hn26, hy26, hz26, N122⟩
        obtain ⟨P127, rfl⟩ := O126.shape
        have M123 := M102.trans N122
        replace M123 : Mem _ _ (S125 :: [(p103, _)] :: []) _ := M123
        refine WS.op rfl rfl (WS.op rfl rfl (WS.op rfl rfl ?_))
        refine WS.new M123 rfl ?_
        intro p128 h129 M130
        refine WS.st1 (M130.focus 0 rfl) [_, _] [_, _] rfl rfl rfl rfl rfl (Nat.le_of_ble_eq_true rfl) (Nat.le_of_ble_eq_true rfl) rfl rfl ?_
        intro h131 M132
        replace M132 : Mem _ _ ([(p128, _)] :: S125 :: [(p103, _)] :: []) _ := M132
        refine WS.op rfl rfl (WS.nil [(0, _), (1, _), (5, _), (6, _), (7, _), (8, _)] rfl ?_)
        refine WC.seq ?_
        refine WC.seq ?_
        refine WC.run ?_
        refine WS.op rfl rfl (WS.op rfl rfl ?_)
        cases hb1 : ok26
        · skip
          refine WS.opV (.bool true) rfl rfl rfl (WS.op rfl rfl (WS.off rfl (WS.off rfl (WS.off rfl (WS.off rfl (WS.op rfl rfl (WS.nil [(0, _), (1, _), (5, _), (6, _), (7, _), (37, _)] rfl ?_)))))))
          refine WC.condT rfl ?_
          refine WC.seq ?_
          refine WC.run ?_
          refine WS.op rfl rfl (WS.nil [(4, _)] rfl ?_)
          refine WC.ret ?_
          refine ⟨[_], (res_tmp rfl res_nil), ?_⟩
          exfalso; first | (have := hr21.symm.trans (hy26 (by assumption)); cases this; done) | (have := hr21.symm.trans (hz26 (by assumption)); cases this; done)
        · skip
          refine WS.opV (.bool false) rfl rfl rfl (WS.op rfl rfl (WS.op rfl rfl (WS.op rfl rfl (WS.opV (.bool true) rfl rfl rfl (WS.opV (.bool false) rfl rfl rfl (WS.op rfl rfl (WS.nil [(0, _), (1, _), (5, _), (6, _), (7, _), (37, _)] rfl ?_)))))))
          refine WC.condF rfl ?_
          refine WC.skip ?_
          refine WC.seq ?_
          refine WC.seq ?_
          refine WC.run ?_
          refine WS.op rfl rfl (WS.opV (.bool false) rfl rfl rfl (WS.nil [(0, _), (1, _), (5, _), (7, _), (39, _)] rfl ?_))
          refine WC.condF rfl ?_
          refine WC.skip ?_
          refine WC.seq ?_
          refine WC.seq ?_
          refine WC.draw M132 [] rfl ?_
          intro rb133 h134 M135
          obtain ⟨rfl, rfl⟩ : n21 = n26 ∧ l21 = l26 := by have := hr21.symm.trans (hy26 (by assumption)); simpa using this
          have hw := (rd_sound hr21).1
          have hl8 := G105.le
          have ht8 := G105.lt
          refine WS.op rfl rfl (WS.op rfl rfl ?_)
          refine WS.call rfl rfl rfl (ring_Write_ran M135.here (M135.at 2 rfl) G105) ?_
          rintro _ h136 ⟨rfl, N137⟩
          have M138 := M135.trans N137
          refine WS.sneq (l := (wr n21 l21)) (m := s) rfl rfl rfl (fun e44 => ?_) (fun e44 => ?_)
          · skip
            exact absurd hw.symm e44
          · skip
            refine WS.op rfl rfl (WS.op rfl rfl (WS.op rfl rfl (WS.op rfl (op_ld (M138.at 0 rfl) rfl rfl) ?_)))
            refine WS.call rfl rfl rfl (ring_Rows_ran M138.here (M138.at 2 rfl) G105) ?_
            rintro _ h139 ⟨V142, S143, O144, rfl, N140⟩
            obtain ⟨P145, rfl⟩ := O144.shape
            have M141 := M138.trans N140
            replace M141 : Mem _ _ (S143 :: [(p128, _)] :: S125 :: [(p103, _)] :: []) _ := M141
            refine WS.chk rfl (op_ld (M141.at 1 rfl) rfl rfl) rfl same_sl ?_
            refine WS.call rfl rfl rfl (same_self_ran M141.here (Row.Own.sl O144 (Mem.owni M141 0 rfl)) (Row.Own.sl O126 (Mem.owni M141 2 rfl)) (by first | omega | (have := G.le; omega))) ?_
            rintro _ h146 ⟨rfl, N147⟩
            have M148 := M141.trans N147
            refine WS.opV (.bool false) rfl rfl rfl (WS.op rfl rfl (WS.op rfl rfl (WS.op rfl rfl (WS.op rfl rfl (WS.op rfl (op_ld (M148.at 1 rfl) rfl rfl) ?_)))))
            refine WS.call rfl rfl rfl (ring_Total_ran M148.here (M148.at 3 rfl) G105) ?_
            rintro _ h149 ⟨rfl, N150⟩
            have M151 := M148.trans N150
            refine WS.chk rfl (op_ld (M151.at 1 rfl) rfl rfl) rfl (sameV_refl rfl) ?_
            refine WS.neqN (a := n21) (b := n21) rfl rfl rfl (fun e58 => ?_) (fun e58 => ?_)
            · skip
              exact absurd rfl e58
            · skip
              refine WS.op rfl rfl (WS.nil [(1, _), (5, _), (7, _), (59, _)] rfl ?_)
              refine WC.condF rfl ?_
              refine WC.skip ?_
              refine WC.seq ?_
              refine WC.seq ?_
              refine WC.run ?_
              refine WS.op rfl rfl (WS.nil [(1, _), (5, _), (7, _), (9, _)] rfl ?_)
              refine WC.block ?_
              obtain ⟨L152, eL154, M153⟩ := Mem.name3 (((M151.bare.bare.focus 1 rfl).focus 2 rfl).focus 3 rfl)
              refine WC.loop (σ := List Value × List Rw × Nat × Value × Seg × Nat) (fun ((cs, rl, t, Vw, S, i)) => [(1, (.slice P l.length c)), (5, (.pointer (some ⟨p103, 0, none⟩))), (7, (.pointer (some ⟨p128, 0, none⟩))), (9, (.int .i64 ((i : Nat) : Int)))]) (fun ((cs, rl, t, Vw, S, i)) hh => Mem h hh ([(p103, ⟨cs, 0, false⟩)] :: S :: [(p128, ⟨[Vw, (.int .u64 ((t : Nat) : Int))], 0, false⟩)] :: L152) [] ∧ Ring cs rl t ∧ Held KRw Vw rl S ∧ i ≤ l.length) (fun ((cs, rl, t, Vw, S, i)) => l.length - i) (cs104, l21, n21, (.slice P127 (l21).length (2 * (l21).length)), S125, 0) rfl ⟨(by exact M153), ?_⟩ ?_
              · exact ⟨by assumption, held_own (by assumption) rfl, by omega⟩
              · rintro ⟨cs, rl, t, Vw, S, i⟩ h155 ⟨M156, ⟨G, hH, hi1⟩⟩
                subst eL154
                refine WC.env [(1, _), (5, _), (7, _), (9, _)] rfl ?_
                obtain ⟨P_, c_, rfl⟩ := (hH _ (Mem.owni M156 1 rfl)).shape
                refine WC.seq ?_
                refine WC.seq ?_
                refine WC.run ?_
                refine WS.op rfl rfl (WS.op rfl rfl (WS.op rfl (op_lenVS A rfl) ?_))
                refine WS.lssN (a := i) (b := (l).length) rfl rfl rfl (fun e63 => ?_) (fun e63 => ?_)
                · skip
                  refine WS.nil [(1, _), (5, _), (7, _), (9, _), (63, _)] rfl ?_
                  refine WC.condT rfl ?_
                  refine WC.skip ?_
                  refine WC.seq ?_
                  refine WC.block ?_
                  refine WC.seq ?_
                  refine WC.run ?_
                  refine WS.op rfl rfl (WS.op rfl rfl (WS.op rfl rfl ?_))
                  obtain ⟨y69, hy69⟩ : ∃ y, (l)[i]? = some y := ⟨_, List.getElem?_eq_getElem (show i < (l).length by first | omega | (simp only [List.length_drop, List.length_take, List.length_append, List.length_cons, List.length_nil, List.length_singleton]; omega) | (simp only [List.length_drop, List.length_take, List.length_append, List.length_cons, List.length_nil, List.length_singleton] at *; omega))⟩
                  refine WS.iaVS A i hy69 rfl rfl rfl rfl ?_
                  intro b69_ o69_ ha69
                  refine WS.op rfl (op_ldAt rfl (ha69.mono M156.sub) rfl) ?_
                  refine WS.call rfl rfl rfl (ring_Add_ran (x := y69) G (M156.focus 0 rfl)) ?_
                  rintro _ h157 ⟨cs159, G160, rfl, M158⟩
                  replace M158 : Mem _ _ ([(p103, _)] :: S :: [(p128, _)] :: S143 :: []) _ := M158
                  refine WS.nil [(1, _), (5, _), (7, _), (9, _)] rfl ?_
                  refine WC.draw M158 [] rfl ?_
                  intro rb161 h162 M163
                  refine WS.op rfl (op_lds [_, _] (M163.at 2 rfl) rfl (Nat.le_of_ble_eq_true rfl) rfl) (WS.op rfl rfl (WS.op rfl rfl ?_))
                  refine WS.iaVS A i hy69 rfl rfl rfl rfl ?_
                  intro b75_ o75_ ha75
                  refine WS.op rfl (op_ldAt rfl (ha75.mono M163.sub) rfl) ?_
                  refine WS.call rfl rfl rfl (given_ran M163.here (x := y69)) ?_
                  rintro _ h164 ⟨rfl, N165⟩
                  have M166 := M163.trans N165
                  refine WS.chk rfl (op_lds [_, _] (M166.at 2 rfl) rfl (Nat.le_of_ble_eq_true rfl) rfl) rfl (same_agg rfl) ?_
                  refine WS.call rfl rfl rfl (ref19_Add_ran M166.here (x := y69) (t := t) (hH _ (Mem.owni M166 1 rfl)) (by exact G.le) (by exact G.lt)) ?_
                  rintro _ h167 ⟨V174, S172, O173, rfl, N168⟩
                  obtain ⟨P170, c171, rfl⟩ := (O173 _ (Mem.owni N168 0 rfl)).shape
                  have M169 := M166.trans N168
                  replace M169 : Mem _ _ (S172 :: [(p103, _)] :: S :: [(p128, _)] :: S143 :: []) _ := M169
                  refine WS.st1 (M169.focus 3 rfl) [_, _] [_, _] rfl rfl rfl rfl rfl (Nat.le_of_ble_eq_true rfl) (Nat.le_of_ble_eq_true rfl) rfl rfl ?_
                  intro h175 M176
                  replace M176 : Mem _ _ ([(p128, _)] :: S172 :: [(p103, _)] :: S :: S143 :: []) _ := M176
                  refine WS.nil [(1, _), (5, _), (7, _), (9, _)] rfl ?_
                  refine WC.run ?_
                  refine WS.op rfl rfl (WS.opV (.int .i64 (((i + 1) : Nat) : Int)) rfl rfl (add_i64 (a := i) (b := 1) (by omega)) (WS.op rfl rfl (WS.nil [(1, _), (5, _), (7, _), (9, _)] rfl ?_)))
                  refine ⟨(cs159, (addv rl y69), (addt t), (.slice P170 ((addv rl y69)).length c171), S172, i + 1), rfl, ⟨(((((M176.bare.bare.focus 4 rfl).focus 1 rfl).focus 2 rfl).focus 3 rfl).take 4), ?_⟩, ?_⟩
                  · exact ⟨by assumption, by assumption, by omega⟩
                  · simp only []; omega
                · skip
                  refine WS.nil [(1, _), (5, _), (7, _), (9, _), (63, _)] rfl ?_
                  refine WC.condF rfl ?_
                  refine WC.exit ?_
                  refine WC.seq ?_
                  refine WC.draw M156 [] rfl ?_
                  intro rb177 h178 M179
                  refine WS.op rfl rfl (WS.op rfl rfl (WS.op rfl (op_ld (M179.at 2 rfl) rfl rfl) ?_))
                  refine WS.call rfl rfl rfl (ring_Rows_ran M179.here (M179.at 0 rfl) G) ?_
                  rintro _ h180 ⟨V183, S184, O185, rfl, N181⟩
                  obtain ⟨P186, rfl⟩ := O185.shape
                  have M182 := M179.trans N181
                  replace M182 : Mem _ _ (S184 :: [(p103, _)] :: S :: [(p128, _)] :: S143 :: []) _ := M182
                  refine WS.chk rfl (op_ld (M182.at 3 rfl) rfl rfl) rfl same_sl ?_
                  refine WS.call rfl rfl rfl (same_self_ran M182.here (Row.Own.sl O185 (Mem.owni M182 0 rfl)) (hH _ (Mem.owni M182 2 rfl)) (by first | omega | (have := G.le; omega))) ?_
                  rintro _ h187 ⟨rfl, N188⟩
                  have M189 := M182.trans N188
                  refine WS.op rfl rfl (WS.op rfl rfl (WS.op rfl rfl (WS.op rfl (op_ld (M189.at 3 rfl) rfl rfl) ?_)))
                  refine WS.call rfl rfl rfl (ring_Total_ran M189.here (M189.at 1 rfl) G) ?_
                  rintro _ h190 ⟨rfl, N191⟩
                  have M192 := M189.trans N191
                  refine WS.chk rfl (op_ld (M192.at 3 rfl) rfl rfl) rfl (sameV_refl rfl) ?_
                  refine WS.eqlN (a := t) (b := t) rfl rfl rfl (fun e89 => ?_) (fun e89 => ?_)
                  · skip
                    refine WS.op rfl rfl (WS.op rfl rfl ?_)
                    refine WS.call rfl rfl rfl (awake_ran M192.here ) ?_
                    rintro _ h193 ⟨rfl, N194⟩
                    have M195 := M192.trans N194
                    refine WS.op rfl rfl (WS.op rfl rfl (WS.nil [(4, _)] rfl ?_))
                    refine WC.ret ?_
                    refine ⟨[_], (res_tmp rfl res_nil), ?_⟩
                    rfl
                  · skip
                    exact absurd rfl e89
end Go.Proofs.Ytegogkiccmghgaa.Wt
