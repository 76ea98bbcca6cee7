/- The law 'CmdReads' returns true for all arguments: what its proof stands on, part 10. -/
import Derived.Test.YtncpdahappmhkaaZCmdReads9
namespace Go.Proofs.Ytncpdahappmhkaa.Wt
open Go Go.Proofs.Ytncpdahappmhkaa.Am Go.Proofs.Ytncpdahappmhkaa.IrAll
set_option linter.unusedVariables false
set_option linter.unusedSimpArgs false
variable {h base : H} {L : List Seg} {R : List Nat}
set_option maxRecDepth 8000 in
theorem law_CmdReads (W : Mem h h [] []) {s : List UInt8} {u0 : Value} (l0 : layStr h s [u0]) (k0 : s.length < 9223372036854775808) : Cll tab0 7 [u0] h (fun v _ => v = .bool true) := by
  have l0 : [u0] = [_] := l0
  cases l0
  refine Cll.code rfl rfl ?_
  refine WC.env [(0, _)] rfl ?_
  refine WC.seq ?_
  refine WC.run ?_
  refine WS.op rfl rfl (WS.nil [(0, _)] rfl ?_)
  refine WC.seq ?_
  refine WC.seq ?_
  refine WC.run ?_
  refine WS.op rfl rfl (WS.op rfl (op_lenS (l := s) rfl) ?_)
  refine WS.gtrN (a := (s).length) (b := 4000) rfl rfl rfl (fun e17 => ?_) (fun e17 => ?_)
  ·
   refine WS.nil [(0, _), (17, _)] rfl ?_
   refine WC.condT rfl ?_
   refine WC.run ?_
   refine WS.op rfl rfl (WS.op rfl (op_slS1 (l := s) 4000 rfl rfl (by first | omega | (simp only [List.length_drop, List.length_take, List.length_append, List.length_cons, List.length_nil, List.length_singleton]; omega) | (simp only [List.length_drop, List.length_take, List.length_append, List.length_cons, List.length_nil, List.length_singleton] at *; omega))) (WS.op rfl rfl (WS.nil [(0, _)] rfl ?_)))
   refine WC.seq ?_
   refine WC.run ?_
   refine WS.op rfl rfl ?_
   refine WS.call rfl rfl rfl (Read_ran W.here (s := ((s).take 4000)) (by first | omega | (simp only [List.length_drop, List.length_take, List.length_append, List.length_cons, List.length_nil, List.length_singleton]; omega) | (simp only [List.length_drop, List.length_take, List.length_append, List.length_cons, List.length_nil, List.length_singleton] at *; omega))) ?_
   rintro _ h1 ⟨c22, V4, S5, ok22, O6, rfl, hF22, hy22, hn22, hC22, N2⟩
   obtain ⟨P7, rfl⟩ := O6.shape
   have M3 := W.trans N2
   replace M3 : Mem _ _ (S5 :: []) _ := M3
   refine WS.op rfl rfl (WS.op rfl rfl (WS.op rfl rfl ?_))
   refine WS.new M3 rfl ?_
   intro p8 h9 M10
   refine WS.st1 (M10.focus 0 rfl) [_, _, _, _, _, _, _, _, _, _, _, _] [_, _, _, _, _, _, _, _, _, _, _, _] rfl rfl rfl rfl rfl (Nat.le_of_ble_eq_true rfl) (Nat.le_of_ble_eq_true rfl) rfl rfl ?_
   intro h11 M12
   replace M12 : Mem _ _ ([(p8, _)] :: S5 :: []) _ := M12
   refine WS.op rfl rfl (WS.nil [(0, _), (3, _), (4, _)] rfl ?_)
   refine WC.seq ?_
   refine WC.run ?_
   refine WS.op rfl rfl ?_
   refine WS.call rfl rfl rfl (refRead_ran M12.here (s := ((s).take 4000)) (by first | omega | (simp only [List.length_drop, List.length_take, List.length_append, List.length_cons, List.length_nil, List.length_singleton]; omega) | (simp only [List.length_drop, List.length_take, List.length_append, List.length_cons, List.length_nil, List.length_singleton] at *; omega))) ?_
   rintro _ h13 ⟨c27, V16, S17, ok27, O18, rfl, hF27, hC27, N14⟩
   obtain ⟨P19, rfl⟩ := O18.shape
   have M15 := M12.trans N14
   replace M15 : Mem _ _ (S17 :: [(p8, _)] :: S5 :: []) _ := M15
   refine WS.op rfl rfl (WS.op rfl rfl (WS.op rfl rfl ?_))
   refine WS.new M15 rfl ?_
   intro p20 h21 M22
   refine WS.st1 (M22.focus 0 rfl) [_, _, _, _, _, _, _, _, _, _, _, _] [_, _, _, _, _, _, _, _, _, _, _, _] rfl rfl rfl rfl rfl (Nat.le_of_ble_eq_true rfl) (Nat.le_of_ble_eq_true rfl) rfl rfl ?_
   intro h23 M24
   replace M24 : Mem _ _ ([(p20, _)] :: S17 :: [(p8, _)] :: S5 :: []) _ := M24
   refine WS.op rfl rfl (WS.nil [(0, _), (3, _), (4, _), (5, _), (6, _)] rfl ?_)
   refine WC.seq ?_
   refine WC.run ?_
   refine WS.op rfl rfl ?_
   refine WS.call rfl rfl rfl (ReadO_ran M24.here (s := ((s).take 4000)) (by first | omega | (simp only [List.length_drop, List.length_take, List.length_append, List.length_cons, List.length_nil, List.length_singleton]; omega) | (simp only [List.length_drop, List.length_take, List.length_append, List.length_cons, List.length_nil, List.length_singleton] at *; omega))) ?_
   rintro _ h25 ⟨o32, ok32, rfl, hy32, hn32, hC32, N26⟩
   have M27 := M24.trans N26
   refine WS.op rfl rfl (WS.op rfl rfl (WS.op rfl rfl ?_))
   refine WS.new M27 rfl ?_
   intro p28 h29 M30
   refine WS.st1 (M30.focus 0 rfl) [_, _, _, _, _, _, _, _, _, _, _, _, _, _, _, _] [_, _, _, _, _, _, _, _, _, _, _, _, _, _, _, _] rfl rfl rfl rfl rfl (Nat.le_of_ble_eq_true rfl) (Nat.le_of_ble_eq_true rfl) rfl rfl ?_
   intro h31 M32
   replace M32 : Mem _ _ ([(p28, _)] :: [(p20, _)] :: S17 :: [(p8, _)] :: S5 :: []) _ := M32
   refine WS.op rfl rfl (WS.nil [(0, _), (3, _), (4, _), (5, _), (6, _), (7, _), (8, _)] rfl ?_)
   refine WC.seq ?_
   refine WC.run ?_
   refine WS.op rfl rfl ?_
   refine WS.call rfl rfl rfl (refReadO_ran M32.here (s := ((s).take 4000)) (by first | omega | (simp only [List.length_drop, List.length_take, List.length_append, List.length_cons, List.length_nil, List.length_singleton]; omega) | (simp only [List.length_drop, List.length_take, List.length_append, List.length_cons, List.length_nil, List.length_singleton] at *; omega))) ?_
   rintro _ h33 ⟨o37, ok37, rfl, hC37, N34⟩
   have M35 := M32.trans N34
   refine WS.op rfl rfl (WS.op rfl rfl (WS.op rfl rfl ?_))
   refine WS.new M35 rfl ?_
   intro p36 h37 M38
   refine WS.st1 (M38.focus 0 rfl) [_, _, _, _, _, _, _, _, _, _, _, _, _, _, _, _] [_, _, _, _, _, _, _, _, _, _, _, _, _, _, _, _] rfl rfl rfl rfl rfl (Nat.le_of_ble_eq_true rfl) (Nat.le_of_ble_eq_true rfl) rfl rfl ?_
   intro h39 M40
   replace M40 : Mem _ _ ([(p36, _)] :: [(p28, _)] :: [(p20, _)] :: S17 :: [(p8, _)] :: S5 :: []) _ := M40
   refine WS.op rfl rfl (WS.nil [(0, _), (3, _), (4, _), (5, _), (6, _), (7, _), (8, _), (9, _), (10, _)] rfl ?_)
   refine WC.seq ?_
   refine WC.run ?_
   refine WS.op rfl rfl ?_
   refine WS.call rfl rfl rfl (ReadR_ran M40.here (s := ((s).take 4000)) (by first | omega | (simp only [List.length_drop, List.length_take, List.length_append, List.length_cons, List.length_nil, List.length_singleton]; omega) | (simp only [List.length_drop, List.length_take, List.length_append, List.length_cons, List.length_nil, List.length_singleton] at *; omega))) ?_
   rintro _ h41 ⟨r42, V44, S45, ok42, O46, rfl, hF42, hy42, hn42, hC42, N42⟩
   obtain ⟨P47, rfl⟩ := O46.shape
   have M43 := M40.trans N42
   replace M43 : Mem _ _ (S45 :: [(p36, _)] :: [(p28, _)] :: [(p20, _)] :: S17 :: [(p8, _)] :: S5 :: []) _ := M43
   refine WS.op rfl rfl (WS.op rfl rfl (WS.op rfl rfl ?_))
   refine WS.new M43 rfl ?_
   intro p48 h49 M50
   refine WS.st1 (M50.focus 0 rfl) [_, _, _, _] [_, _, _, _] rfl rfl rfl rfl rfl (Nat.le_of_ble_eq_true rfl) (Nat.le_of_ble_eq_true rfl) rfl rfl ?_
   intro h51 M52
   replace M52 : Mem _ _ ([(p48, _)] :: S45 :: [(p36, _)] :: [(p28, _)] :: [(p20, _)] :: S17 :: [(p8, _)] :: S5 :: []) _ := M52
   refine WS.op rfl rfl (WS.nil [(0, _), (3, _), (4, _), (5, _), (6, _), (7, _), (8, _), (9, _), (10, _), (11, _), (12, _)] rfl ?_)
   refine WC.seq ?_
   refine WC.run ?_
   refine WS.op rfl rfl ?_
   refine WS.call rfl rfl rfl (refReadR_ran M52.here (s := ((s).take 4000)) (by first | omega | (simp only [List.length_drop, List.length_take, List.length_append, List.length_cons, List.length_nil, List.length_singleton]; omega) | (simp only [List.length_drop, List.length_take, List.length_append, List.length_cons, List.length_nil, List.length_singleton] at *; omega))) ?_
   rintro _ h53 ⟨r47, V56, S57, ok47, O58, rfl, hF47, hC47, N54⟩
   obtain ⟨P59, rfl⟩ := O58.shape
   have M55 := M52.trans N54
   replace M55 : Mem _ _ (S57 :: [(p48, _)] :: S45 :: [(p36, _)] :: [(p28, _)] :: [(p20, _)] :: S17 :: [(p8, _)] :: S5 :: []) _ := M55
   refine WS.op rfl rfl (WS.op rfl rfl (WS.op rfl rfl ?_))
   refine WS.new M55 rfl ?_
   intro p60 h61 M62
   refine WS.st1 (M62.focus 0 rfl) [_, _, _, _] [_, _, _, _] rfl rfl rfl rfl rfl (Nat.le_of_ble_eq_true rfl) (Nat.le_of_ble_eq_true rfl) rfl rfl ?_
   intro h63 M64
   replace M64 : Mem _ _ ([(p60, _)] :: S57 :: [(p48, _)] :: S45 :: [(p36, _)] :: [(p28, _)] :: [(p20, _)] :: S17 :: [(p8, _)] :: S5 :: []) _ := M64
   refine WS.op rfl rfl (WS.nil [(3, _), (4, _), (5, _), (6, _), (7, _), (8, _), (9, _), (10, _), (11, _), (12, _), (13, _), (14, _)] rfl ?_)
   refine WC.seq ?_
   refine WC.run ?_
   refine WS.op rfl (op_lds [_, _, _, _, _, _, _, _, _, _, _, _] (M64.at 8 rfl) rfl (Nat.le_of_ble_eq_true rfl) rfl) (WS.op rfl (op_lds [_, _, _, _, _, _, _, _, _, _, _, _] (M64.at 6 rfl) rfl (Nat.le_of_ble_eq_true rfl) rfl) ?_)
   obtain ⟨q1, q2⟩ := rd_uniq encC_pf (hC22.rd hF22) (hC27.rd hF27)
   obtain ⟨q3, q4⟩ := rd_uniq encO_pf hC32.rd hC37.rd
   obtain ⟨q5, q6⟩ := rd_uniq encR_pf (hC42.rd hF42) (hC47.rd hF47)
   refine WS.call rfl rfl rfl (Same_ran M64.here (a := c22) (b := c27) (Row.Own.sl O6 (Mem.owni M64 9 rfl)) (Row.Own.sl O18 (Mem.owni M64 7 rfl)) (by first | (have := hF22.2.2.2.2.2.1; omega) | (have := hF42.2.1; omega))) ?_
   rintro _ h65 ⟨rfl, N66⟩
   have M67 := M64.trans N66
   refine WS.op rfl rfl ?_
   cases hb1 : (decide (c22 = c27))
   ·
    exact absurd q1 (of_decide_eq_false hb1)
   ·
    refine WS.op rfl rfl (WS.op rfl rfl ?_)
    cases hb2 : ok22
    ·
     cases hb3 : ok27
     ·
      refine WS.opV (.bool true) rfl rfl rfl (WS.op rfl rfl (WS.op rfl rfl (WS.op rfl (op_lds [_, _, _, _, _, _, _, _, _, _, _, _, _, _, _, _] (M67.at 5 rfl) rfl (Nat.le_of_ble_eq_true rfl) rfl) (WS.op rfl (op_lds [_, _, _, _, _, _, _, _, _, _, _, _, _, _, _, _] (M67.at 4 rfl) rfl (Nat.le_of_ble_eq_true rfl) rfl) ?_))))
      refine WS.eqqD (p := o32 = o37) rfl rfl rfl (Oper_eqV _ _) (fun e61 => ?_) (fun e61 => ?_)
      ·
       refine WS.op rfl rfl (WS.op rfl rfl (WS.op rfl rfl (WS.op rfl rfl ?_)))
       cases hb4 : ok32
       ·
        cases hb5 : ok37
        ·
         refine WS.opV (.bool true) rfl rfl rfl (WS.op rfl rfl (WS.op rfl rfl (WS.op rfl (op_lds [_, _, _, _] (M67.at 2 rfl) rfl (Nat.le_of_ble_eq_true rfl) rfl) (WS.op rfl (op_lds [_, _, _, _] (M67.at 0 rfl) rfl (Nat.le_of_ble_eq_true rfl) rfl) ?_))))
         refine WS.call rfl rfl rfl (SameR_ran M67.here (a := r42) (b := r47) (Row.Own.sl O46 (Mem.owni M67 3 rfl)) (Row.Own.sl O58 (Mem.owni M67 1 rfl)) (by first | (have := hF22.2.2.2.2.2.1; omega) | (have := hF42.2.1; omega))) ?_
         rintro _ h68 ⟨rfl, N69⟩
         have M70 := M67.trans N69
         refine WS.op rfl rfl (WS.op rfl rfl ?_)
         cases hb6 : (decide (r42 = r47))
         ·
          exact absurd q5 (of_decide_eq_false hb6)
         ·
          refine WS.op rfl rfl (WS.op rfl rfl ?_)
          cases hb7 : ok42
          ·
           cases hb8 : ok47
           ·
            refine WS.opV (.bool true) rfl rfl rfl (WS.op rfl rfl (WS.op rfl rfl ?_))
            refine WS.call rfl rfl rfl (awake_ran M70.here ) ?_
            rintro _ h71 ⟨rfl, N72⟩
            have M73 := M70.trans N72
            refine WS.op rfl rfl (WS.op rfl rfl (WS.nil [(2, _)] rfl ?_))
            refine WC.ret ?_
            refine ⟨[_], (res_tmp rfl res_nil), ?_⟩
            rfl
           ·
            refine WS.opV (.bool false) rfl rfl rfl (WS.op rfl rfl (WS.op rfl rfl (WS.offC rfl (WS.op rfl rfl (WS.op rfl rfl (WS.nil [(2, _)] rfl ?_))))))
            refine WC.ret ?_
            refine ⟨[_], (res_tmp rfl res_nil), ?_⟩
            exfalso; first | exact Bool.noConfusion (((show ok22 = true by assumption).symm.trans q2).trans (show ok27 = false by assumption)) | exact Bool.noConfusion (((show ok22 = false by assumption).symm.trans q2).trans (show ok27 = true by assumption)) | exact Bool.noConfusion (((show ok32 = true by assumption).symm.trans q4).trans (show ok37 = false by assumption)) | exact Bool.noConfusion (((show ok32 = false by assumption).symm.trans q4).trans (show ok37 = true by assumption)) | exact Bool.noConfusion (((show ok42 = true by assumption).symm.trans q6).trans (show ok47 = false by assumption)) | exact Bool.noConfusion (((show ok42 = false by assumption).symm.trans q6).trans (show ok47 = true by assumption))
          ·
           cases hb8 : ok47
           ·
            refine WS.opV (.bool false) rfl rfl rfl (WS.op rfl rfl (WS.op rfl rfl (WS.offC rfl (WS.op rfl rfl (WS.op rfl rfl (WS.nil [(2, _)] rfl ?_))))))
            refine WC.ret ?_
            refine ⟨[_], (res_tmp rfl res_nil), ?_⟩
            exfalso; first | exact Bool.noConfusion (((show ok22 = true by assumption).symm.trans q2).trans (show ok27 = false by assumption)) | exact Bool.noConfusion (((show ok22 = false by assumption).symm.trans q2).trans (show ok27 = true by assumption)) | exact Bool.noConfusion (((show ok32 = true by assumption).symm.trans q4).trans (show ok37 = false by assumption)) | exact Bool.noConfusion (((show ok32 = false by assumption).symm.trans q4).trans (show ok37 = true by assumption)) | exact Bool.noConfusion (((show ok42 = true by assumption).symm.trans q6).trans (show ok47 = false by assumption)) | exact Bool.noConfusion (((show ok42 = false by assumption).symm.trans q6).trans (show ok47 = true by assumption))
           ·
            refine WS.opV (.bool true) rfl rfl rfl (WS.op rfl rfl (WS.op rfl rfl ?_))
            refine WS.call rfl rfl rfl (awake_ran M70.here ) ?_
            rintro _ h74 ⟨rfl, N75⟩
            have M76 := M70.trans N75
            refine WS.op rfl rfl (WS.op rfl rfl (WS.nil [(2, _)] rfl ?_))
            refine WC.ret ?_
            refine ⟨[_], (res_tmp rfl res_nil), ?_⟩
            rfl
        ·
         refine WS.opV (.bool false) rfl rfl rfl (WS.op rfl rfl (WS.op rfl rfl (WS.off rfl (WS.off rfl (WS.offC rfl (WS.op rfl rfl (WS.op rfl rfl (WS.off rfl (WS.off rfl ?_)))))))))
         refine WS.off rfl (WS.op rfl rfl (WS.op rfl rfl (WS.offC rfl (WS.op rfl rfl (WS.op rfl rfl (WS.nil [(2, _)] rfl ?_))))))
         refine WC.ret ?_
         refine ⟨[_], (res_tmp rfl res_nil), ?_⟩
         exfalso; first | exact Bool.noConfusion (((show ok22 = true by assumption).symm.trans q2).trans (show ok27 = false by assumption)) | exact Bool.noConfusion (((show ok22 = false by assumption).symm.trans q2).trans (show ok27 = true by assumption)) | exact Bool.noConfusion (((show ok32 = true by assumption).symm.trans q4).trans (show ok37 = false by assumption)) | exact Bool.noConfusion (((show ok32 = false by assumption).symm.trans q4).trans (show ok37 = true by assumption)) | exact Bool.noConfusion (((show ok42 = true by assumption).symm.trans q6).trans (show ok47 = false by assumption)) | exact Bool.noConfusion (((show ok42 = false by assumption).symm.trans q6).trans (show ok47 = true by assumption))
       ·
        cases hb5 : ok37
        ·
         refine WS.opV (.bool false) rfl rfl rfl (WS.op rfl rfl (WS.op rfl rfl (WS.off rfl (WS.off rfl (WS.offC rfl (WS.op rfl rfl (WS.op rfl rfl (WS.off rfl (WS.off rfl ?_)))))))))
         refine WS.off rfl (WS.op rfl rfl (WS.op rfl rfl (WS.offC rfl (WS.op rfl rfl (WS.op rfl rfl (WS.nil [(2, _)] rfl ?_))))))
         refine WC.ret ?_
         refine ⟨[_], (res_tmp rfl res_nil), ?_⟩
         exfalso; first | exact Bool.noConfusion (((show ok22 = true by assumption).symm.trans q2).trans (show ok27 = false by assumption)) | exact Bool.noConfusion (((show ok22 = false by assumption).symm.trans q2).trans (show ok27 = true by assumption)) | exact Bool.noConfusion (((show ok32 = true by assumption).symm.trans q4).trans (show ok37 = false by assumption)) | exact Bool.noConfusion (((show ok32 = false by assumption).symm.trans q4).trans (show ok37 = true by assumption)) | exact Bool.noConfusion (((show ok42 = true by assumption).symm.trans q6).trans (show ok47 = false by assumption)) | exact Bool.noConfusion (((show ok42 = false by assumption).symm.trans q6).trans (show ok47 = true by assumption))
        ·
         refine WS.opV (.bool true) rfl rfl rfl (WS.op rfl rfl (WS.op rfl rfl (WS.op rfl (op_lds [_, _, _, _] (M67.at 2 rfl) rfl (Nat.le_of_ble_eq_true rfl) rfl) (WS.op rfl (op_lds [_, _, _, _] (M67.at 0 rfl) rfl (Nat.le_of_ble_eq_true rfl) rfl) ?_))))
         refine WS.call rfl rfl rfl (SameR_ran M67.here (a := r42) (b := r47) (Row.Own.sl O46 (Mem.owni M67 3 rfl)) (Row.Own.sl O58 (Mem.owni M67 1 rfl)) (by first | (have := hF22.2.2.2.2.2.1; omega) | (have := hF42.2.1; omega))) ?_
         rintro _ h77 ⟨rfl, N78⟩
         have M79 := M67.trans N78
         refine WS.op rfl rfl (WS.op rfl rfl ?_)
         cases hb6 : (decide (r42 = r47))
         ·
          exact absurd q5 (of_decide_eq_false hb6)
         ·
          refine WS.op rfl rfl (WS.op rfl rfl ?_)
          cases hb7 : ok42
          ·
           cases hb8 : ok47
           ·
            refine WS.opV (.bool true) rfl rfl rfl (WS.op rfl rfl (WS.op rfl rfl ?_))
            refine WS.call rfl rfl rfl (awake_ran M79.here ) ?_
            rintro _ h80 ⟨rfl, N81⟩
            have M82 := M79.trans N81
            refine WS.op rfl rfl (WS.op rfl rfl (WS.nil [(2, _)] rfl ?_))
            refine WC.ret ?_
            refine ⟨[_], (res_tmp rfl res_nil), ?_⟩
            rfl
           ·
            refine WS.opV (.bool false) rfl rfl rfl (WS.op rfl rfl (WS.op rfl rfl (WS.offC rfl (WS.op rfl rfl (WS.op rfl rfl (WS.nil [(2, _)] rfl ?_))))))
            refine WC.ret ?_
            refine ⟨[_], (res_tmp rfl res_nil), ?_⟩
            exfalso; first | exact Bool.noConfusion (((show ok22 = true by assumption).symm.trans q2).trans (show ok27 = false by assumption)) | exact Bool.noConfusion (((show ok22 = false by assumption).symm.trans q2).trans (show ok27 = true by assumption)) | exact Bool.noConfusion (((show ok32 = true by assumption).symm.trans q4).trans (show ok37 = false by assumption)) | exact Bool.noConfusion (((show ok32 = false by assumption).symm.trans q4).trans (show ok37 = true by assumption)) | exact Bool.noConfusion (((show ok42 = true by assumption).symm.trans q6).trans (show ok47 = false by assumption)) | exact Bool.noConfusion (((show ok42 = false by assumption).symm.trans q6).trans (show ok47 = true by assumption))
          ·
           cases hb8 : ok47
           ·
            refine WS.opV (.bool false) rfl rfl rfl (WS.op rfl rfl (WS.op rfl rfl (WS.offC rfl (WS.op rfl rfl (WS.op rfl rfl (WS.nil [(2, _)] rfl ?_))))))
            refine WC.ret ?_
            refine ⟨[_], (res_tmp rfl res_nil), ?_⟩
            exfalso; first | exact Bool.noConfusion (((show ok22 = true by assumption).symm.trans q2).trans (show ok27 = false by assumption)) | exact Bool.noConfusion (((show ok22 = false by assumption).symm.trans q2).trans (show ok27 = true by assumption)) | exact Bool.noConfusion (((show ok32 = true by assumption).symm.trans q4).trans (show ok37 = false by assumption)) | exact Bool.noConfusion (((show ok32 = false by assumption).symm.trans q4).trans (show ok37 = true by assumption)) | exact Bool.noConfusion (((show ok42 = true by assumption).symm.trans q6).trans (show ok47 = false by assumption)) | exact Bool.noConfusion (((show ok42 = false by assumption).symm.trans q6).trans (show ok47 = true by assumption))
           ·
            refine WS.opV (.bool true) rfl rfl rfl (WS.op rfl rfl (WS.op rfl rfl ?_))
            refine WS.call rfl rfl rfl (awake_ran M79.here ) ?_
            rintro _ h83 ⟨rfl, N84⟩
            have M85 := M79.trans N84
            refine WS.op rfl rfl (WS.op rfl rfl (WS.nil [(2, _)] rfl ?_))
            refine WC.ret ?_
            refine ⟨[_], (res_tmp rfl res_nil), ?_⟩
            rfl
      ·
       exact absurd q3 e61
     ·
      refine WS.opV (.bool false) rfl rfl rfl (WS.op rfl rfl (WS.op rfl rfl (WS.off rfl (WS.off rfl (WS.off rfl (WS.op rfl rfl (WS.op rfl rfl (WS.off rfl (WS.off rfl ?_)))))))))
      refine WS.off rfl (WS.op rfl rfl (WS.op rfl rfl (WS.off rfl (WS.off rfl (WS.offC rfl (WS.op rfl rfl (WS.op rfl rfl (WS.off rfl (WS.off rfl ?_)))))))))
      refine WS.off rfl (WS.op rfl rfl (WS.op rfl rfl (WS.offC rfl (WS.op rfl rfl (WS.op rfl rfl (WS.nil [(2, _)] rfl ?_))))))
      refine WC.ret ?_
      refine ⟨[_], (res_tmp rfl res_nil), ?_⟩
      exfalso; first | exact Bool.noConfusion (((show ok22 = true by assumption).symm.trans q2).trans (show ok27 = false by assumption)) | exact Bool.noConfusion (((show ok22 = false by assumption).symm.trans q2).trans (show ok27 = true by assumption)) | exact Bool.noConfusion (((show ok32 = true by assumption).symm.trans q4).trans (show ok37 = false by assumption)) | exact Bool.noConfusion (((show ok32 = false by assumption).symm.trans q4).trans (show ok37 = true by assumption)) | exact Bool.noConfusion (((show ok42 = true by assumption).symm.trans q6).trans (show ok47 = false by assumption)) | exact Bool.noConfusion (((show ok42 = false by assumption).symm.trans q6).trans (show ok47 = true by assumption))
    ·
     cases hb3 : ok27
     ·
      refine WS.opV (.bool false) rfl rfl rfl (WS.op rfl rfl (WS.op rfl rfl (WS.off rfl (WS.off rfl (WS.off rfl (WS.op rfl rfl (WS.op rfl rfl (WS.off rfl (WS.off rfl ?_)))))))))
      refine WS.off rfl (WS.op rfl rfl (WS.op rfl rfl (WS.off rfl (WS.off rfl (WS.offC rfl (WS.op rfl rfl (WS.op rfl rfl (WS.off rfl (WS.off rfl ?_)))))))))
      refine WS.off rfl (WS.op rfl rfl (WS.op rfl rfl (WS.offC rfl (WS.op rfl rfl (WS.op rfl rfl (WS.nil [(2, _)] rfl ?_))))))
      refine WC.ret ?_
      refine ⟨[_], (res_tmp rfl res_nil), ?_⟩
      exfalso; first | exact Bool.noConfusion (((show ok22 = true by assumption).symm.trans q2).trans (show ok27 = false by assumption)) | exact Bool.noConfusion (((show ok22 = false by assumption).symm.trans q2).trans (show ok27 = true by assumption)) | exact Bool.noConfusion (((show ok32 = true by assumption).symm.trans q4).trans (show ok37 = false by assumption)) | exact Bool.noConfusion (((show ok32 = false by assumption).symm.trans q4).trans (show ok37 = true by assumption)) | exact Bool.noConfusion (((show ok42 = true by assumption).symm.trans q6).trans (show ok47 = false by assumption)) | exact Bool.noConfusion (((show ok42 = false by assumption).symm.trans q6).trans (show ok47 = true by assumption))
     ·
      refine WS.opV (.bool true) rfl rfl rfl (WS.op rfl rfl (WS.op rfl rfl (WS.op rfl (op_lds [_, _, _, _, _, _, _, _, _, _, _, _, _, _, _, _] (M67.at 5 rfl) rfl (Nat.le_of_ble_eq_true rfl) rfl) (WS.op rfl (op_lds [_, _, _, _, _, _, _, _, _, _, _, _, _, _, _, _] (M67.at 4 rfl) rfl (Nat.le_of_ble_eq_true rfl) rfl) ?_))))
      refine WS.eqqD (p := o32 = o37) rfl rfl rfl (Oper_eqV _ _) (fun e61 => ?_) (fun e61 => ?_)
      ·
       refine WS.op rfl rfl (WS.op rfl rfl (WS.op rfl rfl (WS.op rfl rfl ?_)))
       cases hb4 : ok32
       ·
        cases hb5 : ok37
        ·
         refine WS.opV (.bool true) rfl rfl rfl (WS.op rfl rfl (WS.op rfl rfl (WS.op rfl (op_lds [_, _, _, _] (M67.at 2 rfl) rfl (Nat.le_of_ble_eq_true rfl) rfl) (WS.op rfl (op_lds [_, _, _, _] (M67.at 0 rfl) rfl (Nat.le_of_ble_eq_true rfl) rfl) ?_))))
         refine WS.call rfl rfl rfl (SameR_ran M67.here (a := r42) (b := r47) (Row.Own.sl O46 (Mem.owni M67 3 rfl)) (Row.Own.sl O58 (Mem.owni M67 1 rfl)) (by first | (have := hF22.2.2.2.2.2.1; omega) | (have := hF42.2.1; omega))) ?_
         rintro _ h86 ⟨rfl, N87⟩
         have M88 := M67.trans N87
         refine WS.op rfl rfl (WS.op rfl rfl ?_)
         cases hb6 : (decide (r42 = r47))
         ·
          exact absurd q5 (of_decide_eq_false hb6)
         ·
          refine WS.op rfl rfl (WS.op rfl rfl ?_)
          cases hb7 : ok42
          ·
           cases hb8 : ok47
           ·
            refine WS.opV (.bool true) rfl rfl rfl (WS.op rfl rfl (WS.op rfl rfl ?_))
            refine WS.call rfl rfl rfl (awake_ran M88.here ) ?_
            rintro _ h89 ⟨rfl, N90⟩
            have M91 := M88.trans N90
            refine WS.op rfl rfl (WS.op rfl rfl (WS.nil [(2, _)] rfl ?_))
            refine WC.ret ?_
            refine ⟨[_], (res_tmp rfl res_nil), ?_⟩
            rfl
           ·
            refine WS.opV (.bool false) rfl rfl rfl (WS.op rfl rfl (WS.op rfl rfl (WS.offC rfl (WS.op rfl rfl (WS.op rfl rfl (WS.nil [(2, _)] rfl ?_))))))
            refine WC.ret ?_
            refine ⟨[_], (res_tmp rfl res_nil), ?_⟩
            exfalso; first | exact Bool.noConfusion (((show ok22 = true by assumption).symm.trans q2).trans (show ok27 = false by assumption)) | exact Bool.noConfusion (((show ok22 = false by assumption).symm.trans q2).trans (show ok27 = true by assumption)) | exact Bool.noConfusion (((show ok32 = true by assumption).symm.trans q4).trans (show ok37 = false by assumption)) | exact Bool.noConfusion (((show ok32 = false by assumption).symm.trans q4).trans (show ok37 = true by assumption)) | exact Bool.noConfusion (((show ok42 = true by assumption).symm.trans q6).trans (show ok47 = false by assumption)) | exact Bool.noConfusion (((show ok42 = false by assumption).symm.trans q6).trans (show ok47 = true by assumption))
          ·
           cases hb8 : ok47
           ·
            refine WS.opV (.bool false) rfl rfl rfl (WS.op rfl rfl (WS.op rfl rfl (WS.offC rfl (WS.op rfl rfl (WS.op rfl rfl (WS.nil [(2, _)] rfl ?_))))))
            refine WC.ret ?_
            refine ⟨[_], (res_tmp rfl res_nil), ?_⟩
            exfalso; first | exact Bool.noConfusion (((show ok22 = true by assumption).symm.trans q2).trans (show ok27 = false by assumption)) | exact Bool.noConfusion (((show ok22 = false by assumption).symm.trans q2).trans (show ok27 = true by assumption)) | exact Bool.noConfusion (((show ok32 = true by assumption).symm.trans q4).trans (show ok37 = false by assumption)) | exact Bool.noConfusion (((show ok32 = false by assumption).symm.trans q4).trans (show ok37 = true by assumption)) | exact Bool.noConfusion (((show ok42 = true by assumption).symm.trans q6).trans (show ok47 = false by assumption)) | exact Bool.noConfusion (((show ok42 = false by assumption).symm.trans q6).trans (show ok47 = true by assumption))
           ·
            refine WS.opV (.bool true) rfl rfl rfl (WS.op rfl rfl (WS.op rfl rfl ?_))
            refine WS.call rfl rfl rfl (awake_ran M88.here ) ?_
            rintro _ h92 ⟨rfl, N93⟩
            have M94 := M88.trans N93
            refine WS.op rfl rfl (WS.op rfl rfl (WS.nil [(2, _)] rfl ?_))
            refine WC.ret ?_
            refine ⟨[_], (res_tmp rfl res_nil), ?_⟩
            rfl
        ·
         refine WS.opV (.bool false) rfl rfl rfl (WS.op rfl rfl (WS.op rfl rfl (WS.off rfl (WS.off rfl (WS.offC rfl (WS.op rfl rfl (WS.op rfl rfl (WS.off rfl (WS.off rfl ?_)))))))))
         refine WS.off rfl (WS.op rfl rfl (WS.op rfl rfl (WS.offC rfl (WS.op rfl rfl (WS.op rfl rfl (WS.nil [(2, _)] rfl ?_))))))
         refine WC.ret ?_
         refine ⟨[_], (res_tmp rfl res_nil), ?_⟩
         exfalso; first | exact Bool.noConfusion (((show ok22 = true by assumption).symm.trans q2).trans (show ok27 = false by assumption)) | exact Bool.noConfusion (((show ok22 = false by assumption).symm.trans q2).trans (show ok27 = true by assumption)) | exact Bool.noConfusion (((show ok32 = true by assumption).symm.trans q4).trans (show ok37 = false by assumption)) | exact Bool.noConfusion (((show ok32 = false by assumption).symm.trans q4).trans (show ok37 = true by assumption)) | exact Bool.noConfusion (((show ok42 = true by assumption).symm.trans q6).trans (show ok47 = false by assumption)) | exact Bool.noConfusion (((show ok42 = false by assumption).symm.trans q6).trans (show ok47 = true by assumption))
       ·
        cases hb5 : ok37
        ·
         refine WS.opV (.bool false) rfl rfl rfl (WS.op rfl rfl (WS.op rfl rfl (WS.off rfl (WS.off rfl (WS.offC rfl (WS.op rfl rfl (WS.op rfl rfl (WS.off rfl (WS.off rfl ?_)))))))))
         refine WS.off rfl (WS.op rfl rfl (WS.op rfl rfl (WS.offC rfl (WS.op rfl rfl (WS.op rfl rfl (WS.nil [(2, _)] rfl ?_))))))
         refine WC.ret ?_
         refine ⟨[_], (res_tmp rfl res_nil), ?_⟩
         exfalso; first | exact Bool.noConfusion (((show ok22 = true by assumption).symm.trans q2).trans (show ok27 = false by assumption)) | exact Bool.noConfusion (((show ok22 = false by assumption).symm.trans q2).trans (show ok27 = true by assumption)) | exact Bool.noConfusion (((show ok32 = true by assumption).symm.trans q4).trans (show ok37 = false by assumption)) | exact Bool.noConfusion (((show ok32 = false by assumption).symm.trans q4).trans (show ok37 = true by assumption)) | exact Bool.noConfusion (((show ok42 = true by assumption).symm.trans q6).trans (show ok47 = false by assumption)) | exact Bool.noConfusion (((show ok42 = false by assumption).symm.trans q6).trans (show ok47 = true by assumption))
        ·
         refine WS.opV (.bool true) rfl rfl rfl (WS.op rfl rfl (WS.op rfl rfl (WS.op rfl (op_lds [_, _, _, _] (M67.at 2 rfl) rfl (Nat.le_of_ble_eq_true rfl) rfl) (WS.op rfl (op_lds [_, _, _, _] (M67.at 0 rfl) rfl (Nat.le_of_ble_eq_true rfl) rfl) ?_))))
         refine WS.call rfl rfl rfl (SameR_ran M67.here (a := r42) (b := r47) (Row.Own.sl O46 (Mem.owni M67 3 rfl)) (Row.Own.sl O58 (Mem.owni M67 1 rfl)) (by first | (have := hF22.2.2.2.2.2.1; omega) | (have := hF42.2.1; omega))) ?_
         rintro _ h95 ⟨rfl, N96⟩
         have M97 := M67.trans N96
         refine WS.op rfl rfl (WS.op rfl rfl ?_)
         cases hb6 : (decide (r42 = r47))
         ·
          exact absurd q5 (of_decide_eq_false hb6)
         ·
          refine WS.op rfl rfl (WS.op rfl rfl ?_)
          cases hb7 : ok42
          ·
           cases hb8 : ok47
           ·
            refine WS.opV (.bool true) rfl rfl rfl (WS.op rfl rfl (WS.op rfl rfl ?_))
            refine WS.call rfl rfl rfl (awake_ran M97.here ) ?_
            rintro _ h98 ⟨rfl, N99⟩
            have M100 := M97.trans N99
            refine WS.op rfl rfl (WS.op rfl rfl (WS.nil [(2, _)] rfl ?_))
            refine WC.ret ?_
            refine ⟨[_], (res_tmp rfl res_nil), ?_⟩
            rfl
           ·
            refine WS.opV (.bool false) rfl rfl rfl (WS.op rfl rfl (WS.op rfl rfl (WS.offC rfl (WS.op rfl rfl (WS.op rfl rfl (WS.nil [(2, _)] rfl ?_))))))
            refine WC.ret ?_
            refine ⟨[_], (res_tmp rfl res_nil), ?_⟩
            exfalso; first | exact Bool.noConfusion (((show ok22 = true by assumption).symm.trans q2).trans (show ok27 = false by assumption)) | exact Bool.noConfusion (((show ok22 = false by assumption).symm.trans q2).trans (show ok27 = true by assumption)) | exact Bool.noConfusion (((show ok32 = true by assumption).symm.trans q4).trans (show ok37 = false by assumption)) | exact Bool.noConfusion (((show ok32 = false by assumption).symm.trans q4).trans (show ok37 = true by assumption)) | exact Bool.noConfusion (((show ok42 = true by assumption).symm.trans q6).trans (show ok47 = false by assumption)) | exact Bool.noConfusion (((show ok42 = false by assumption).symm.trans q6).trans (show ok47 = true by assumption))
          ·
           cases hb8 : ok47
           ·
            refine WS.opV (.bool false) rfl rfl rfl (WS.op rfl rfl (WS.op rfl rfl (WS.offC rfl (WS.op rfl rfl (WS.op rfl rfl (WS.nil [(2, _)] rfl ?_))))))
            refine WC.ret ?_
            refine ⟨[_], (res_tmp rfl res_nil), ?_⟩
            exfalso; first | exact Bool.noConfusion (((show ok22 = true by assumption).symm.trans q2).trans (show ok27 = false by assumption)) | exact Bool.noConfusion (((show ok22 = false by assumption).symm.trans q2).trans (show ok27 = true by assumption)) | exact Bool.noConfusion (((show ok32 = true by assumption).symm.trans q4).trans (show ok37 = false by assumption)) | exact Bool.noConfusion (((show ok32 = false by assumption).symm.trans q4).trans (show ok37 = true by assumption)) | exact Bool.noConfusion (((show ok42 = true by assumption).symm.trans q6).trans (show ok47 = false by assumption)) | exact Bool.noConfusion (((show ok42 = false by assumption).symm.trans q6).trans (show ok47 = true by assumption))
           ·
            refine WS.opV (.bool true) rfl rfl rfl (WS.op rfl rfl (WS.op rfl rfl ?_))
            refine WS.call rfl rfl rfl (awake_ran M97.here ) ?_
            rintro _ h101 ⟨rfl, N102⟩
            have M103 := M97.trans N102
            refine WS.op rfl rfl (WS.op rfl rfl (WS.nil [(2, _)] rfl ?_))
            refine WC.ret ?_
            refine ⟨[_], (res_tmp rfl res_nil), ?_⟩
            rfl
      ·
       exact absurd q3 e61
  ·
   refine WS.nil [(0, _), (17, _)] rfl ?_
   refine WC.condF rfl ?_
   refine WC.skip ?_
   refine WC.seq ?_
   refine WC.run ?_
   refine WS.op rfl rfl ?_
   refine WS.call rfl rfl rfl (Read_ran W.here (s := s) (by first | omega | (simp only [List.length_drop, List.length_take, List.length_append, List.length_cons, List.length_nil, List.length_singleton]; omega) | (simp only [List.length_drop, List.length_take, List.length_append, List.length_cons, List.length_nil, List.length_singleton] at *; omega))) ?_
   rintro _ h104 ⟨c22, V107, S108, ok22, O109, rfl, hF22, hy22, hn22, hC22, N105⟩
   obtain ⟨P110, rfl⟩ := O109.shape
   have M106 := W.trans N105
   replace M106 : Mem _ _ (S108 :: []) _ := M106
   refine WS.op rfl rfl (WS.op rfl rfl (WS.op rfl rfl ?_))
   refine WS.new M106 rfl ?_
   intro p111 h112 M113
   refine WS.st1 (M113.focus 0 rfl) [_, _, _, _, _, _, _, _, _, _, _, _] [_, _, _, _, _, _, _, _, _, _, _, _] rfl rfl rfl rfl rfl (Nat.le_of_ble_eq_true rfl) (Nat.le_of_ble_eq_true rfl) rfl rfl ?_
   intro h114 M115
   replace M115 : Mem _ _ ([(p111, _)] :: S108 :: []) _ := M115
   refine WS.op rfl rfl (WS.nil [(0, _), (3, _), (4, _)] rfl ?_)
   refine WC.seq ?_
   refine WC.run ?_
   refine WS.op rfl rfl ?_
   refine WS.call rfl rfl rfl (refRead_ran M115.here (s := s) (by first | omega | (simp only [List.length_drop, List.length_take, List.length_append, List.length_cons, List.length_nil, List.length_singleton]; omega) | (simp only [List.length_drop, List.length_take, List.length_append, List.length_cons, List.length_nil, List.length_singleton] at *; omega))) ?_
   rintro _ h116 ⟨c27, V119, S120, ok27, O121, rfl, hF27, hC27, N117⟩
   obtain ⟨P122, rfl⟩ := O121.shape
   have M118 := M115.trans N117
   replace M118 : Mem _ _ (S120 :: [(p111, _)] :: S108 :: []) _ := M118
   refine WS.op rfl rfl (WS.op rfl rfl (WS.op rfl rfl ?_))
   refine WS.new M118 rfl ?_
   intro p123 h124 M125
   refine WS.st1 (M125.focus 0 rfl) [_, _, _, _, _, _, _, _, _, _, _, _] [_, _, _, _, _, _, _, _, _, _, _, _] rfl rfl rfl rfl rfl (Nat.le_of_ble_eq_true rfl) (Nat.le_of_ble_eq_true rfl) rfl rfl ?_
   intro h126 M127
   replace M127 : Mem _ _ ([(p123, _)] :: S120 :: [(p111, _)] :: S108 :: []) _ := M127
   refine WS.op rfl rfl (WS.nil [(0, _), (3, _), (4, _), (5, _), (6, _)] rfl ?_)
   refine WC.seq ?_
   refine WC.run ?_
   refine WS.op rfl rfl ?_
   refine WS.call rfl rfl rfl (ReadO_ran M127.here (s := s) (by first | omega | (simp only [List.length_drop, List.length_take, List.length_append, List.length_cons, List.length_nil, List.length_singleton]; omega) | (simp only [List.length_drop, List.length_take, List.length_append, List.length_cons, List.length_nil, List.length_singleton] at *; omega))) ?_
   rintro _ h128 ⟨o32, ok32, rfl, hy32, hn32, hC32, N129⟩
   have M130 := M127.trans N129
   refine WS.op rfl rfl (WS.op rfl rfl (WS.op rfl rfl ?_))
   refine WS.new M130 rfl ?_
   intro p131 h132 M133
   refine WS.st1 (M133.focus 0 rfl) [_, _, _, _, _, _, _, _, _, _, _, _, _, _, _, _] [_, _, _, _, _, _, _, _, _, _, _, _, _, _, _, _] rfl rfl rfl rfl rfl (Nat.le_of_ble_eq_true rfl) (Nat.le_of_ble_eq_true rfl) rfl rfl ?_
   intro h134 M135
   replace M135 : Mem _ _ ([(p131, _)] :: [(p123, _)] :: S120 :: [(p111, _)] :: S108 :: []) _ := M135
   refine WS.op rfl rfl (WS.nil [(0, _), (3, _), (4, _), (5, _), (6, _), (7, _), (8, _)] rfl ?_)
   refine WC.seq ?_
   refine WC.run ?_
   refine WS.op rfl rfl ?_
   refine WS.call rfl rfl rfl (refReadO_ran M135.here (s := s) (by first | omega | (simp only [List.length_drop, List.length_take, List.length_append, List.length_cons, List.length_nil, List.length_singleton]; omega) | (simp only [List.length_drop, List.length_take, List.length_append, List.length_cons, List.length_nil, List.length_singleton] at *; omega))) ?_
   rintro _ h136 ⟨o37, ok37, rfl, hC37, N137⟩
   have M138 := M135.trans N137
   refine WS.op rfl rfl (WS.op rfl rfl (WS.op rfl rfl ?_))
   refine WS.new M138 rfl ?_
   intro p139 h140 M141
   refine WS.st1 (M141.focus 0 rfl) [_, _, _, _, _, _, _, _, _, _, _, _, _, _, _, _] [_, _, _, _, _, _, _, _, _, _, _, _, _, _, _, _] rfl rfl rfl rfl rfl (Nat.le_of_ble_eq_true rfl) (Nat.le_of_ble_eq_true rfl) rfl rfl ?_
   intro h142 M143
   replace M143 : Mem _ _ ([(p139, _)] :: [(p131, _)] :: [(p123, _)] :: S120 :: [(p111, _)] :: S108 :: []) _ := M143
   refine WS.op rfl rfl (WS.nil [(0, _), (3, _), (4, _), (5, _), (6, _), (7, _), (8, _), (9, _), (10, _)] rfl ?_)
   refine WC.seq ?_
   refine WC.run ?_
   refine WS.op rfl rfl ?_
   refine WS.call rfl rfl rfl (ReadR_ran M143.here (s := s) (by first | omega | (simp only [List.length_drop, List.length_take, List.length_append, List.length_cons, List.length_nil, List.length_singleton]; omega) | (simp only [List.length_drop, List.length_take, List.length_append, List.length_cons, List.length_nil, List.length_singleton] at *; omega))) ?_
   rintro _ h144 ⟨r42, V147, S148, ok42, O149, rfl, hF42, hy42, hn42, hC42, N145⟩
   obtain ⟨P150, rfl⟩ := O149.shape
   have M146 := M143.trans N145
   replace M146 : Mem _ _ (S148 :: [(p139, _)] :: [(p131, _)] :: [(p123, _)] :: S120 :: [(p111, _)] :: S108 :: []) _ := M146
   refine WS.op rfl rfl (WS.op rfl rfl (WS.op rfl rfl ?_))
   refine WS.new M146 rfl ?_
   intro p151 h152 M153
   refine WS.st1 (M153.focus 0 rfl) [_, _, _, _] [_, _, _, _] rfl rfl rfl rfl rfl (Nat.le_of_ble_eq_true rfl) (Nat.le_of_ble_eq_true rfl) rfl rfl ?_
   intro h154 M155
   replace M155 : Mem _ _ ([(p151, _)] :: S148 :: [(p139, _)] :: [(p131, _)] :: [(p123, _)] :: S120 :: [(p111, _)] :: S108 :: []) _ := M155
   refine WS.op rfl rfl (WS.nil [(0, _), (3, _), (4, _), (5, _), (6, _), (7, _), (8, _), (9, _), (10, _), (11, _), (12, _)] rfl ?_)
   refine WC.seq ?_
   refine WC.run ?_
   refine WS.op rfl rfl ?_
   refine WS.call rfl rfl rfl (refReadR_ran M155.here (s := s) (by first | omega | (simp only [List.length_drop, List.length_take, List.length_append, List.length_cons, List.length_nil, List.length_singleton]; omega) | (simp only [List.length_drop, List.length_take, List.length_append, List.length_cons, List.length_nil, List.length_singleton] at *; omega))) ?_
   rintro _ h156 ⟨r47, V159, S160, ok47, O161, rfl, hF47, hC47, N157⟩
   obtain ⟨P162, rfl⟩ := O161.shape
   have M158 := M155.trans N157
   replace M158 : Mem _ _ (S160 :: [(p151, _)] :: S148 :: [(p139, _)] :: [(p131, _)] :: [(p123, _)] :: S120 :: [(p111, _)] :: S108 :: []) _ := M158
   refine WS.op rfl rfl (WS.op rfl rfl (WS.op rfl rfl ?_))
   refine WS.new M158 rfl ?_
   intro p163 h164 M165
   refine WS.st1 (M165.focus 0 rfl) [_, _, _, _] [_, _, _, _] rfl rfl rfl rfl rfl (Nat.le_of_ble_eq_true rfl) (Nat.le_of_ble_eq_true rfl) rfl rfl ?_
   intro h166 M167
   replace M167 : Mem _ _ ([(p163, _)] :: S160 :: [(p151, _)] :: S148 :: [(p139, _)] :: [(p131, _)] :: [(p123, _)] :: S120 :: [(p111, _)] :: S108 :: []) _ := M167
   refine WS.op rfl rfl (WS.nil [(3, _), (4, _), (5, _), (6, _), (7, _), (8, _), (9, _), (10, _), (11, _), (12, _), (13, _), (14, _)] rfl ?_)
   refine WC.seq ?_
   refine WC.run ?_
   refine WS.op rfl (op_lds [_, _, _, _, _, _, _, _, _, _, _, _] (M167.at 8 rfl) rfl (Nat.le_of_ble_eq_true rfl) rfl) (WS.op rfl (op_lds [_, _, _, _, _, _, _, _, _, _, _, _] (M167.at 6 rfl) rfl (Nat.le_of_ble_eq_true rfl) rfl) ?_)
   obtain ⟨q1, q2⟩ := rd_uniq encC_pf (hC22.rd hF22) (hC27.rd hF27)
   obtain ⟨q3, q4⟩ := rd_uniq encO_pf hC32.rd hC37.rd
   obtain ⟨q5, q6⟩ := rd_uniq encR_pf (hC42.rd hF42) (hC47.rd hF47)
   refine WS.call rfl rfl rfl (Same_ran M167.here (a := c22) (b := c27) (Row.Own.sl O109 (Mem.owni M167 9 rfl)) (Row.Own.sl O121 (Mem.owni M167 7 rfl)) (by first | (have := hF22.2.2.2.2.2.1; omega) | (have := hF42.2.1; omega))) ?_
   rintro _ h168 ⟨rfl, N169⟩
   have M170 := M167.trans N169
   refine WS.op rfl rfl ?_
   cases hb1 : (decide (c22 = c27))
   ·
    exact absurd q1 (of_decide_eq_false hb1)
   ·
    refine WS.op rfl rfl (WS.op rfl rfl ?_)
    cases hb2 : ok22
    ·
     cases hb3 : ok27
     ·
      refine WS.opV (.bool true) rfl rfl rfl (WS.op rfl rfl (WS.op rfl rfl (WS.op rfl (op_lds [_, _, _, _, _, _, _, _, _, _, _, _, _, _, _, _] (M170.at 5 rfl) rfl (Nat.le_of_ble_eq_true rfl) rfl) (WS.op rfl (op_lds [_, _, _, _, _, _, _, _, _, _, _, _, _, _, _, _] (M170.at 4 rfl) rfl (Nat.le_of_ble_eq_true rfl) rfl) ?_))))
      refine WS.eqqD (p := o32 = o37) rfl rfl rfl (Oper_eqV _ _) (fun e61 => ?_) (fun e61 => ?_)
      ·
       refine WS.op rfl rfl (WS.op rfl rfl (WS.op rfl rfl (WS.op rfl rfl ?_)))
       cases hb4 : ok32
       ·
        cases hb5 : ok37
        ·
         refine WS.opV (.bool true) rfl rfl rfl (WS.op rfl rfl (WS.op rfl rfl (WS.op rfl (op_lds [_, _, _, _] (M170.at 2 rfl) rfl (Nat.le_of_ble_eq_true rfl) rfl) (WS.op rfl (op_lds [_, _, _, _] (M170.at 0 rfl) rfl (Nat.le_of_ble_eq_true rfl) rfl) ?_))))
         refine WS.call rfl rfl rfl (SameR_ran M170.here (a := r42) (b := r47) (Row.Own.sl O149 (Mem.owni M170 3 rfl)) (Row.Own.sl O161 (Mem.owni M170 1 rfl)) (by first | (have := hF22.2.2.2.2.2.1; omega) | (have := hF42.2.1; omega))) ?_
         rintro _ h171 ⟨rfl, N172⟩
         have M173 := M170.trans N172
         refine WS.op rfl rfl (WS.op rfl rfl ?_)
         cases hb6 : (decide (r42 = r47))
         ·
          exact absurd q5 (of_decide_eq_false hb6)
         ·
          refine WS.op rfl rfl (WS.op rfl rfl ?_)
          cases hb7 : ok42
          ·
           cases hb8 : ok47
           ·
            refine WS.opV (.bool true) rfl rfl rfl (WS.op rfl rfl (WS.op rfl rfl ?_))
            refine WS.call rfl rfl rfl (awake_ran M173.here ) ?_
            rintro _ h174 ⟨rfl, N175⟩
            have M176 := M173.trans N175
            refine WS.op rfl rfl (WS.op rfl rfl (WS.nil [(2, _)] rfl ?_))
            refine WC.ret ?_
            refine ⟨[_], (res_tmp rfl res_nil), ?_⟩
            rfl
           ·
            refine WS.opV (.bool false) rfl rfl rfl (WS.op rfl rfl (WS.op rfl rfl (WS.offC rfl (WS.op rfl rfl (WS.op rfl rfl (WS.nil [(2, _)] rfl ?_))))))
            refine WC.ret ?_
            refine ⟨[_], (res_tmp rfl res_nil), ?_⟩
            exfalso; first | exact Bool.noConfusion (((show ok22 = true by assumption).symm.trans q2).trans (show ok27 = false by assumption)) | exact Bool.noConfusion (((show ok22 = false by assumption).symm.trans q2).trans (show ok27 = true by assumption)) | exact Bool.noConfusion (((show ok32 = true by assumption).symm.trans q4).trans (show ok37 = false by assumption)) | exact Bool.noConfusion (((show ok32 = false by assumption).symm.trans q4).trans (show ok37 = true by assumption)) | exact Bool.noConfusion (((show ok42 = true by assumption).symm.trans q6).trans (show ok47 = false by assumption)) | exact Bool.noConfusion (((show ok42 = false by assumption).symm.trans q6).trans (show ok47 = true by assumption))
          ·
           cases hb8 : ok47
           ·
            refine WS.opV (.bool false) rfl rfl rfl (WS.op rfl rfl (WS.op rfl rfl (WS.offC rfl (WS.op rfl rfl (WS.op rfl rfl (WS.nil [(2, _)] rfl ?_))))))
            refine WC.ret ?_
            refine ⟨[_], (res_tmp rfl res_nil), ?_⟩
            exfalso; first | exact Bool.noConfusion (((show ok22 = true by assumption).symm.trans q2).trans (show ok27 = false by assumption)) | exact Bool.noConfusion (((show ok22 = false by assumption).symm.trans q2).trans (show ok27 = true by assumption)) | exact Bool.noConfusion (((show ok32 = true by assumption).symm.trans q4).trans (show ok37 = false by assumption)) | exact Bool.noConfusion (((show ok32 = false by assumption).symm.trans q4).trans (show ok37 = true by assumption)) | exact Bool.noConfusion (((show ok42 = true by assumption).symm.trans q6).trans (show ok47 = false by assumption)) | exact Bool.noConfusion (((show ok42 = false by assumption).symm.trans q6).trans (show ok47 = true by assumption))
           ·
            refine WS.opV (.bool true) rfl rfl rfl (WS.op rfl rfl (WS.op rfl rfl ?_))
            refine WS.call rfl rfl rfl (awake_ran M173.here ) ?_
            rintro _ h177 ⟨rfl, N178⟩
            have M179 := M173.trans N178
            refine WS.op rfl rfl (WS.op rfl rfl (WS.nil [(2, _)] rfl ?_))
            refine WC.ret ?_
            refine ⟨[_], (res_tmp rfl res_nil), ?_⟩
            rfl
        ·
         refine WS.opV (.bool false) rfl rfl rfl (WS.op rfl rfl (WS.op rfl rfl (WS.off rfl (WS.off rfl (WS.offC rfl (WS.op rfl rfl (WS.op rfl rfl (WS.off rfl (WS.off rfl ?_)))))))))
         refine WS.off rfl (WS.op rfl rfl (WS.op rfl rfl (WS.offC rfl (WS.op rfl rfl (WS.op rfl rfl (WS.nil [(2, _)] rfl ?_))))))
         refine WC.ret ?_
         refine ⟨[_], (res_tmp rfl res_nil), ?_⟩
         exfalso; first | exact Bool.noConfusion (((show ok22 = true by assumption).symm.trans q2).trans (show ok27 = false by assumption)) | exact Bool.noConfusion (((show ok22 = false by assumption).symm.trans q2).trans (show ok27 = true by assumption)) | exact Bool.noConfusion (((show ok32 = true by assumption).symm.trans q4).trans (show ok37 = false by assumption)) | exact Bool.noConfusion (((show ok32 = false by assumption).symm.trans q4).trans (show ok37 = true by assumption)) | exact Bool.noConfusion (((show ok42 = true by assumption).symm.trans q6).trans (show ok47 = false by assumption)) | exact Bool.noConfusion (((show ok42 = false by assumption).symm.trans q6).trans (show ok47 = true by assumption))
       ·
        cases hb5 : ok37
        ·
         refine WS.opV (.bool false) rfl rfl rfl (WS.op rfl rfl (WS.op rfl rfl (WS.off rfl (WS.off rfl (WS.offC rfl (WS.op rfl rfl (WS.op rfl rfl (WS.off rfl (WS.off rfl ?_)))))))))
         refine WS.off rfl (WS.op rfl rfl (WS.op rfl rfl (WS.offC rfl (WS.op rfl rfl (WS.op rfl rfl (WS.nil [(2, _)] rfl ?_))))))
         refine WC.ret ?_
         refine ⟨[_], (res_tmp rfl res_nil), ?_⟩
         exfalso; first | exact Bool.noConfusion (((show ok22 = true by assumption).symm.trans q2).trans (show ok27 = false by assumption)) | exact Bool.noConfusion (((show ok22 = false by assumption).symm.trans q2).trans (show ok27 = true by assumption)) | exact Bool.noConfusion (((show ok32 = true by assumption).symm.trans q4).trans (show ok37 = false by assumption)) | exact Bool.noConfusion (((show ok32 = false by assumption).symm.trans q4).trans (show ok37 = true by assumption)) | exact Bool.noConfusion (((show ok42 = true by assumption).symm.trans q6).trans (show ok47 = false by assumption)) | exact Bool.noConfusion (((show ok42 = false by assumption).symm.trans q6).trans (show ok47 = true by assumption))
        ·
         refine WS.opV (.bool true) rfl rfl rfl (WS.op rfl rfl (WS.op rfl rfl (WS.op rfl (op_lds [_, _, _, _] (M170.at 2 rfl) rfl (Nat.le_of_ble_eq_true rfl) rfl) (WS.op rfl (op_lds [_, _, _, _] (M170.at 0 rfl) rfl (Nat.le_of_ble_eq_true rfl) rfl) ?_))))
         refine WS.call rfl rfl rfl (SameR_ran M170.here (a := r42) (b := r47) (Row.Own.sl O149 (Mem.owni M170 3 rfl)) (Row.Own.sl O161 (Mem.owni M170 1 rfl)) (by first | (have := hF22.2.2.2.2.2.1; omega) | (have := hF42.2.1; omega))) ?_
         rintro _ h180 ⟨rfl, N181⟩
         have M182 := M170.trans N181
         refine WS.op rfl rfl (WS.op rfl rfl ?_)
         cases hb6 : (decide (r42 = r47))
         ·
          exact absurd q5 (of_decide_eq_false hb6)
         ·
          refine WS.op rfl rfl (WS.op rfl rfl ?_)
          cases hb7 : ok42
          ·
           cases hb8 : ok47
           ·
            refine WS.opV (.bool true) rfl rfl rfl (WS.op rfl rfl (WS.op rfl rfl ?_))
            refine WS.call rfl rfl rfl (awake_ran M182.here ) ?_
            rintro _ h183 ⟨rfl, N184⟩
            have M185 := M182.trans N184
            refine WS.op rfl rfl (WS.op rfl rfl (WS.nil [(2, _)] rfl ?_))
            refine WC.ret ?_
            refine ⟨[_], (res_tmp rfl res_nil), ?_⟩
            rfl
           ·
            refine WS.opV (.bool false) rfl rfl rfl (WS.op rfl rfl (WS.op rfl rfl (WS.offC rfl (WS.op rfl rfl (WS.op rfl rfl (WS.nil [(2, _)] rfl ?_))))))
            refine WC.ret ?_
            refine ⟨[_], (res_tmp rfl res_nil), ?_⟩
            exfalso; first | exact Bool.noConfusion (((show ok22 = true by assumption).symm.trans q2).trans (show ok27 = false by assumption)) | exact Bool.noConfusion (((show ok22 = false by assumption).symm.trans q2).trans (show ok27 = true by assumption)) | exact Bool.noConfusion (((show ok32 = true by assumption).symm.trans q4).trans (show ok37 = false by assumption)) | exact Bool.noConfusion (((show ok32 = false by assumption).symm.trans q4).trans (show ok37 = true by assumption)) | exact Bool.noConfusion (((show ok42 = true by assumption).symm.trans q6).trans (show ok47 = false by assumption)) | exact Bool.noConfusion (((show ok42 = false by assumption).symm.trans q6).trans (show ok47 = true by assumption))
          ·
           cases hb8 : ok47
           ·
            refine WS.opV (.bool false) rfl rfl rfl (WS.op rfl rfl (WS.op rfl rfl (WS.offC rfl (WS.op rfl rfl (WS.op rfl rfl (WS.nil [(2, _)] rfl ?_))))))
            refine WC.ret ?_
            refine ⟨[_], (res_tmp rfl res_nil), ?_⟩
            exfalso; first | exact Bool.noConfusion (((show ok22 = true by assumption).symm.trans q2).trans (show ok27 = false by assumption)) | exact Bool.noConfusion (((show ok22 = false by assumption).symm.trans q2).trans (show ok27 = true by assumption)) | exact Bool.noConfusion (((show ok32 = true by assumption).symm.trans q4).trans (show ok37 = false by assumption)) | exact Bool.noConfusion (((show ok32 = false by assumption).symm.trans q4).trans (show ok37 = true by assumption)) | exact Bool.noConfusion (((show ok42 = true by assumption).symm.trans q6).trans (show ok47 = false by assumption)) | exact Bool.noConfusion (((show ok42 = false by assumption).symm.trans q6).trans (show ok47 = true by assumption))
           ·
            refine WS.opV (.bool true) rfl rfl rfl (WS.op rfl rfl (WS.op rfl rfl ?_))
            refine WS.call rfl rfl rfl (awake_ran M182.here ) ?_
            rintro _ h186 ⟨rfl, N187⟩
            have M188 := M182.trans N187
            refine WS.op rfl rfl (WS.op rfl rfl (WS.nil [(2, _)] rfl ?_))
            refine WC.ret ?_
            refine ⟨[_], (res_tmp rfl res_nil), ?_⟩
            rfl
      ·
       exact absurd q3 e61
     ·
      refine WS.opV (.bool false) rfl rfl rfl (WS.op rfl rfl (WS.op rfl rfl (WS.off rfl (WS.off rfl (WS.off rfl (WS.op rfl rfl (WS.op rfl rfl (WS.off rfl (WS.off rfl ?_)))))))))
      refine WS.off rfl (WS.op rfl rfl (WS.op rfl rfl (WS.off rfl (WS.off rfl (WS.offC rfl (WS.op rfl rfl (WS.op rfl rfl (WS.off rfl (WS.off rfl ?_)))))))))
      refine WS.off rfl (WS.op rfl rfl (WS.op rfl rfl (WS.offC rfl (WS.op rfl rfl (WS.op rfl rfl (WS.nil [(2, _)] rfl ?_))))))
      refine WC.ret ?_
      refine ⟨[_], (res_tmp rfl res_nil), ?_⟩
      exfalso; first | exact Bool.noConfusion (((show ok22 = true by assumption).symm.trans q2).trans (show ok27 = false by assumption)) | exact Bool.noConfusion (((show ok22 = false by assumption).symm.trans q2).trans (show ok27 = true by assumption)) | exact Bool.noConfusion (((show ok32 = true by assumption).symm.trans q4).trans (show ok37 = false by assumption)) | exact Bool.noConfusion (((show ok32 = false by assumption).symm.trans q4).trans (show ok37 = true by assumption)) | exact Bool.noConfusion (((show ok42 = true by assumption).symm.trans q6).trans (show ok47 = false by assumption)) | exact Bool.noConfusion (((show ok42 = false by assumption).symm.trans q6).trans (show ok47 = true by assumption))
    ·
     cases hb3 : ok27
     ·
      refine WS.opV (.bool false) rfl rfl rfl (WS.op rfl rfl (WS.op rfl rfl (WS.off rfl (WS.off rfl (WS.off rfl (WS.op rfl rfl (WS.op rfl rfl (WS.off rfl (WS.off rfl ?_)))))))))
      refine WS.off rfl (WS.op rfl rfl (WS.op rfl rfl (WS.off rfl (WS.off rfl (WS.offC rfl (WS.op rfl rfl (WS.op rfl rfl (WS.off rfl (WS.off rfl ?_)))))))))
      refine WS.off rfl (WS.op rfl rfl (WS.op rfl rfl (WS.offC rfl (WS.op rfl rfl (WS.op rfl rfl (WS.nil [(2, _)] rfl ?_))))))
      refine WC.ret ?_
      refine ⟨[_], (res_tmp rfl res_nil), ?_⟩
      exfalso; first | exact Bool.noConfusion (((show ok22 = true by assumption).symm.trans q2).trans (show ok27 = false by assumption)) | exact Bool.noConfusion (((show ok22 = false by assumption).symm.trans q2).trans (show ok27 = true by assumption)) | exact Bool.noConfusion (((show ok32 = true by assumption).symm.trans q4).trans (show ok37 = false by assumption)) | exact Bool.noConfusion (((show ok32 = false by assumption).symm.trans q4).trans (show ok37 = true by assumption)) | exact Bool.noConfusion (((show ok42 = true by assumption).symm.trans q6).trans (show ok47 = false by assumption)) | exact Bool.noConfusion (((show ok42 = false by assumption).symm.trans q6).trans (show ok47 = true by assumption))
     ·
      refine WS.opV (.bool true) rfl rfl rfl (WS.op rfl rfl (WS.op rfl rfl (WS.op rfl (op_lds [_, _, _, _, _, _, _, _, _, _, _, _, _, _, _, _] (M170.at 5 rfl) rfl (Nat.le_of_ble_eq_true rfl) rfl) (WS.op rfl (op_lds [_, _, _, _, _, _, _, _, _, _, _, _, _, _, _, _] (M170.at 4 rfl) rfl (Nat.le_of_ble_eq_true rfl) rfl) ?_))))
      refine WS.eqqD (p := o32 = o37) rfl rfl rfl (Oper_eqV _ _) (fun e61 => ?_) (fun e61 => ?_)
      ·
       refine WS.op rfl rfl (WS.op rfl rfl (WS.op rfl rfl (WS.op rfl rfl ?_)))
       cases hb4 : ok32
       ·
        cases hb5 : ok37
        ·
         refine WS.opV (.bool true) rfl rfl rfl (WS.op rfl rfl (WS.op rfl rfl (WS.op rfl (op_lds [_, _, _, _] (M170.at 2 rfl) rfl (Nat.le_of_ble_eq_true rfl) rfl) (WS.op rfl (op_lds [_, _, _, _] (M170.at 0 rfl) rfl (Nat.le_of_ble_eq_true rfl) rfl) ?_))))
         refine WS.call rfl rfl rfl (SameR_ran M170.here (a := r42) (b := r47) (Row.Own.sl O149 (Mem.owni M170 3 rfl)) (Row.Own.sl O161 (Mem.owni M170 1 rfl)) (by first | (have := hF22.2.2.2.2.2.1; omega) | (have := hF42.2.1; omega))) ?_
         rintro _ h189 ⟨rfl, N190⟩
         have M191 := M170.trans N190
         refine WS.op rfl rfl (WS.op rfl rfl ?_)
         cases hb6 : (decide (r42 = r47))
         ·
          exact absurd q5 (of_decide_eq_false hb6)
         ·
          refine WS.op rfl rfl (WS.op rfl rfl ?_)
          cases hb7 : ok42
          ·
           cases hb8 : ok47
           ·
            refine WS.opV (.bool true) rfl rfl rfl (WS.op rfl rfl (WS.op rfl rfl ?_))
            refine WS.call rfl rfl rfl (awake_ran M191.here ) ?_
            rintro _ h192 ⟨rfl, N193⟩
            have M194 := M191.trans N193
            refine WS.op rfl rfl (WS.op rfl rfl (WS.nil [(2, _)] rfl ?_))
            refine WC.ret ?_
            refine ⟨[_], (res_tmp rfl res_nil), ?_⟩
            rfl
           ·
            refine WS.opV (.bool false) rfl rfl rfl (WS.op rfl rfl (WS.op rfl rfl (WS.offC rfl (WS.op rfl rfl (WS.op rfl rfl (WS.nil [(2, _)] rfl ?_))))))
            refine WC.ret ?_
            refine ⟨[_], (res_tmp rfl res_nil), ?_⟩
            exfalso; first | exact Bool.noConfusion (((show ok22 = true by assumption).symm.trans q2).trans (show ok27 = false by assumption)) | exact Bool.noConfusion (((show ok22 = false by assumption).symm.trans q2).trans (show ok27 = true by assumption)) | exact Bool.noConfusion (((show ok32 = true by assumption).symm.trans q4).trans (show ok37 = false by assumption)) | exact Bool.noConfusion (((show ok32 = false by assumption).symm.trans q4).trans (show ok37 = true by assumption)) | exact Bool.noConfusion (((show ok42 = true by assumption).symm.trans q6).trans (show ok47 = false by assumption)) | exact Bool.noConfusion (((show ok42 = false by assumption).symm.trans q6).trans (show ok47 = true by assumption))
          ·
           cases hb8 : ok47
           ·
            refine WS.opV (.bool false) rfl rfl rfl (WS.op rfl rfl (WS.op rfl rfl (WS.offC rfl (WS.op rfl rfl (WS.op rfl rfl (WS.nil [(2, _)] rfl ?_))))))
            refine WC.ret ?_
            refine ⟨[_], (res_tmp rfl res_nil), ?_⟩
            exfalso; first | exact Bool.noConfusion (((show ok22 = true by assumption).symm.trans q2).trans (show ok27 = false by assumption)) | exact Bool.noConfusion (((show ok22 = false by assumption).symm.trans q2).trans (show ok27 = true by assumption)) | exact Bool.noConfusion (((show ok32 = true by assumption).symm.trans q4).trans (show ok37 = false by assumption)) | exact Bool.noConfusion (((show ok32 = false by assumption).symm.trans q4).trans (show ok37 = true by assumption)) | exact Bool.noConfusion (((show ok42 = true by assumption).symm.trans q6).trans (show ok47 = false by assumption)) | exact Bool.noConfusion (((show ok42 = false by assumption).symm.trans q6).trans (show ok47 = true by assumption))
           ·
            refine WS.opV (.bool true) rfl rfl rfl (WS.op rfl rfl (WS.op rfl rfl ?_))
            refine WS.call rfl rfl rfl (awake_ran M191.here ) ?_
            rintro _ h195 ⟨rfl, N196⟩
            have M197 := M191.trans N196
            refine WS.op rfl rfl (WS.op rfl rfl (WS.nil [(2, _)] rfl ?_))
            refine WC.ret ?_
            refine ⟨[_], (res_tmp rfl res_nil), ?_⟩
            rfl
        ·
         refine WS.opV (.bool false) rfl rfl rfl (WS.op rfl rfl (WS.op rfl rfl (WS.off rfl (WS.off rfl (WS.offC rfl (WS.op rfl rfl (WS.op rfl rfl (WS.off rfl (WS.off rfl ?_)))))))))
         refine WS.off rfl (WS.op rfl rfl (WS.op rfl rfl (WS.offC rfl (WS.op rfl rfl (WS.op rfl rfl (WS.nil [(2, _)] rfl ?_))))))
         refine WC.ret ?_
         refine ⟨[_], (res_tmp rfl res_nil), ?_⟩
         exfalso; first | exact Bool.noConfusion (((show ok22 = true by assumption).symm.trans q2).trans (show ok27 = false by assumption)) | exact Bool.noConfusion (((show ok22 = false by assumption).symm.trans q2).trans (show ok27 = true by assumption)) | exact Bool.noConfusion (((show ok32 = true by assumption).symm.trans q4).trans (show ok37 = false by assumption)) | exact Bool.noConfusion (((show ok32 = false by assumption).symm.trans q4).trans (show ok37 = true by assumption)) | exact Bool.noConfusion (((show ok42 = true by assumption).symm.trans q6).trans (show ok47 = false by assumption)) | exact Bool.noConfusion (((show ok42 = false by assumption).symm.trans q6).trans (show ok47 = true by assumption))
       ·
        cases hb5 : ok37
        ·
         refine WS.opV (.bool false) rfl rfl rfl (WS.op rfl rfl (WS.op rfl rfl (WS.off rfl (WS.off rfl (WS.offC rfl (WS.op rfl rfl (WS.op rfl rfl (WS.off rfl (WS.off rfl ?_)))))))))
         refine WS.off rfl (WS.op rfl rfl (WS.op rfl rfl (WS.offC rfl (WS.op rfl rfl (WS.op rfl rfl (WS.nil [(2, _)] rfl ?_))))))
         refine WC.ret ?_
         refine ⟨[_], (res_tmp rfl res_nil), ?_⟩
         exfalso; first | exact Bool.noConfusion (((show ok22 = true by assumption).symm.trans q2).trans (show ok27 = false by assumption)) | exact Bool.noConfusion (((show ok22 = false by assumption).symm.trans q2).trans (show ok27 = true by assumption)) | exact Bool.noConfusion (((show ok32 = true by assumption).symm.trans q4).trans (show ok37 = false by assumption)) | exact Bool.noConfusion (((show ok32 = false by assumption).symm.trans q4).trans (show ok37 = true by assumption)) | exact Bool.noConfusion (((show ok42 = true by assumption).symm.trans q6).trans (show ok47 = false by assumption)) | exact Bool.noConfusion (((show ok42 = false by assumption).symm.trans q6).trans (show ok47 = true by assumption))
        ·
         refine WS.opV (.bool true) rfl rfl rfl (WS.op rfl rfl (WS.op rfl rfl (WS.op rfl (op_lds [_, _, _, _] (M170.at 2 rfl) rfl (Nat.le_of_ble_eq_true rfl) rfl) (WS.op rfl (op_lds [_, _, _, _] (M170.at 0 rfl) rfl (Nat.le_of_ble_eq_true rfl) rfl) ?_))))
         refine WS.call rfl rfl rfl (SameR_ran M170.here (a := r42) (b := r47) (Row.Own.sl O149 (Mem.owni M170 3 rfl)) (Row.Own.sl O161 (Mem.owni M170 1 rfl)) (by first | (have := hF22.2.2.2.2.2.1; omega) | (have := hF42.2.1; omega))) ?_
         rintro _ h198 ⟨rfl, N199⟩
         have M200 := M170.trans N199
         refine WS.op rfl rfl (WS.op rfl rfl ?_)
         cases hb6 : (decide (r42 = r47))
         ·
          exact absurd q5 (of_decide_eq_false hb6)
         ·
          refine WS.op rfl rfl (WS.op rfl rfl ?_)
          cases hb7 : ok42
          ·
           cases hb8 : ok47
           ·
            refine WS.opV (.bool true) rfl rfl rfl (WS.op rfl rfl (WS.op rfl rfl ?_))
            refine WS.call rfl rfl rfl (awake_ran M200.here ) ?_
            rintro _ h201 ⟨rfl, N202⟩
            have M203 := M200.trans N202
            refine WS.op rfl rfl (WS.op rfl rfl (WS.nil [(2, _)] rfl ?_))
            refine WC.ret ?_
            refine ⟨[_], (res_tmp rfl res_nil), ?_⟩
            rfl
           ·
            refine WS.opV (.bool false) rfl rfl rfl (WS.op rfl rfl (WS.op rfl rfl (WS.offC rfl (WS.op rfl rfl (WS.op rfl rfl (WS.nil [(2, _)] rfl ?_))))))
            refine WC.ret ?_
            refine ⟨[_], (res_tmp rfl res_nil), ?_⟩
            exfalso; first | exact Bool.noConfusion (((show ok22 = true by assumption).symm.trans q2).trans (show ok27 = false by assumption)) | exact Bool.noConfusion (((show ok22 = false by assumption).symm.trans q2).trans (show ok27 = true by assumption)) | exact Bool.noConfusion (((show ok32 = true by assumption).symm.trans q4).trans (show ok37 = false by assumption)) | exact Bool.noConfusion (((show ok32 = false by assumption).symm.trans q4).trans (show ok37 = true by assumption)) | exact Bool.noConfusion (((show ok42 = true by assumption).symm.trans q6).trans (show ok47 = false by assumption)) | exact Bool.noConfusion (((show ok42 = false by assumption).symm.trans q6).trans (show ok47 = true by assumption))
          ·
           cases hb8 : ok47
           ·
            refine WS.opV (.bool false) rfl rfl rfl (WS.op rfl rfl (WS.op rfl rfl (WS.offC rfl (WS.op rfl rfl (WS.op rfl rfl (WS.nil [(2, _)] rfl ?_))))))
            refine WC.ret ?_
            refine ⟨[_], (res_tmp rfl res_nil), ?_⟩
            exfalso; first | exact Bool.noConfusion (((show ok22 = true by assumption).symm.trans q2).trans (show ok27 = false by assumption)) | exact Bool.noConfusion (((show ok22 = false by assumption).symm.trans q2).trans (show ok27 = true by assumption)) | exact Bool.noConfusion (((show ok32 = true by assumption).symm.trans q4).trans (show ok37 = false by assumption)) | exact Bool.noConfusion (((show ok32 = false by assumption).symm.trans q4).trans (show ok37 = true by assumption)) | exact Bool.noConfusion (((show ok42 = true by assumption).symm.trans q6).trans (show ok47 = false by assumption)) | exact Bool.noConfusion (((show ok42 = false by assumption).symm.trans q6).trans (show ok47 = true by assumption))
           ·
            refine WS.opV (.bool true) rfl rfl rfl (WS.op rfl rfl (WS.op rfl rfl ?_))
            refine WS.call rfl rfl rfl (awake_ran M200.here ) ?_
            rintro _ h204 ⟨rfl, N205⟩
            have M206 := M200.trans N205
            refine WS.op rfl rfl (WS.op rfl rfl (WS.nil [(2, _)] rfl ?_))
            refine WC.ret ?_
            refine ⟨[_], (res_tmp rfl res_nil), ?_⟩
            rfl
      ·
       exact absurd q3 e61
end Go.Proofs.Ytncpdahappmhkaa.Wt
