/- The statements AuditLast and AuditBack of chapter 19, walked. -/
import Derived.Test.YtegogkiccmghgaaRgl
namespace Go.Proofs.Ytegogkiccmghgaa.Wt
open Go Go.Proofs.Ytegogkiccmghgaa.Am Go.Proofs.Ytegogkiccmghgaa.IrAll
set_option linter.unusedVariables false
set_option linter.unusedSimpArgs false

variable {h base : H} {L : List Seg} {R : List Nat}
/-- The last ones of the first i. -/
def last8 (l : List Rw) (i : Nat) : List Rw := (l.take i).drop (i - 8)
theorem last8_len {l : List Rw} {i : Nat} (h : i ≤ l.length) : (last8 l i).length = min i 8 := by
  unfold last8; rw [List.length_drop, List.length_take]; omega
theorem last8_step {l : List Rw} {i : Nat} {x : Rw} (hx : l[i]? = some x) : addv (last8 l i) x = last8 l (i + 1) := by
  have hi := (List.getElem?_eq_some_iff.1 hx).1
  have hl := last8_len (l := l) (i := i) (by omega)
  unfold addv
  have e : l.take (i + 1) = l.take i ++ [x] := by rw [List.take_add_one, hx]; rfl
  unfold last8 at *
  by_cases c : i < 8
  · rw [if_pos (by omega), e, show i - 8 = 0 by omega, show i + 1 - 8 = 0 by omega]; rfl
  · rw [if_neg (by omega), e, List.drop_append_of_le_length (by rw [List.length_take]; omega), List.drop_drop]
    congr 2; omega
theorem last8_get {l : List Rw} {k : Nat} (hk : k < min l.length 8) : (last8 l l.length)[k]? = l[l.length - min l.length 8 + k]? := by
  unfold last8
  rw [List.take_length, List.getElem?_drop]; congr 1; omega
theorem last8_eq {l : List Rw} {k i : Nat} {x y : Rw} (hi : l.length ≤ i) (hi2 : i ≤ l.length) (hx : (last8 l i)[k]? = some x) (hy : l[l.length - min l.length 8 + k]? = some y) : x = y := by
  have e : i = l.length := by omega
  subst e
  have hk := (List.getElem?_eq_some_iff.1 hx).1
  rw [last8_len (by omega)] at hk
  rw [last8_get hk, hy] at hx; cases hx; rfl
theorem addt_small {t : Nat} (h : t < 1000) : addt t = t + 1 := by unfold addt; rw [if_pos (by omega)]
set_option maxRecDepth 8000 in
theorem law_AuditLast (W : Mem h h [] []) {l : List Rw} {ct : UInt8} {u0 u1 : Value} (l0 : laySl (fun _ y cs => cs = KRw.cells y) 11 h l [u0]) (l1 : layU8 h ct [u1]) (k0 : l.length < 9223372036854775808 ∧ ∀ x ∈ l, True) (k1 : True) : Cll tab0 6 [u0, u1] h (fun v _ => v = .bool true) := by
  obtain ⟨V0, hV, S0⟩ := l0
  cases hV
  have l1 : [u1] = [_] := l1
  cases l1
  have A : KRw.Sl h u0 l := SlL.sl S0
  obtain ⟨P, c, rfl⟩ := A.shape
  refine Cll.code rfl rfl ?_
  refine WC.env [(0, _), (1, _)] rfl ?_
  refine WC.seq ?_
  refine WC.run ?_
  refine WS.op rfl rfl (WS.nil [(0, _), (1, _)] rfl ?_)
  refine WC.seq ?_
  refine WC.seq ?_
  refine WC.run ?_
  refine WS.op rfl rfl (WS.op rfl (op_lenVS A rfl) ?_)
  refine WS.gtrN (a := (l).length) (b := 200) rfl rfl rfl (fun e14 => ?_) (fun e14 => ?_)
  · skip
    refine WS.nil [(0, _), (1, _), (14, _)] rfl ?_
    refine WC.condT rfl ?_
    refine WC.seq ?_
    refine WC.run ?_
    refine WS.call rfl rfl rfl (awake_ran W.here ) ?_
    rintro _ h1 ⟨rfl, N2⟩
    have M3 := W.trans N2
    refine WS.op rfl rfl (WS.nil [(4, _)] rfl ?_)
    refine WC.ret ?_
    refine ⟨[_], (res_tmp rfl res_nil), ?_⟩
    rfl
  · skip
    refine WS.nil [(0, _), (1, _), (14, _)] rfl ?_
    refine WC.condF rfl ?_
    refine WC.skip ?_
    refine WC.seq ?_
    refine WC.run ?_
    refine WS.call rfl rfl rfl (ring_New_ran W.here) ?_
    rintro _ h4 ⟨p7, cs8, G9, rfl, N5⟩
    have M6 := W.trans N5
    replace M6 : Mem _ _ ([(p7, _)] :: []) _ := M6
    refine WS.op rfl rfl (WS.nil [(0, _), (1, _), (5, _)] rfl ?_)
    refine WC.seq ?_
    refine WC.seq ?_
    refine WC.run ?_
    refine WS.op rfl rfl (WS.nil [(0, _), (1, _), (5, _), (6, _)] rfl ?_)
    refine WC.block ?_
    obtain ⟨L10, eL12, M11⟩ := Mem.name1 (M6.bare.focus 0 rfl)
    refine WC.loop (σ := Nat × List Value × Nat) (fun ((p_, cs, i)) => [(0, (.slice P l.length c)), (1, (.int .u8 (((ct).toNat : Nat) : Int))), (5, (.pointer (some ⟨p_, 0, none⟩))), (6, (.int .i64 ((i : Nat) : Int)))]) (fun ((p_, cs, i)) hh => Mem h hh ([(p_, ⟨cs, 0, false⟩)] :: L10) [] ∧ Ring cs (last8 l i) i ∧ i ≤ l.length) (fun ((p_, cs, i)) => l.length - i) (p7, cs8, 0) rfl ⟨(by exact M11), ?_⟩ ?_
    · exact ⟨by assumption, by omega⟩
    · rintro ⟨p_, cs, i⟩ h13 ⟨M14, ⟨G, hi1⟩⟩
      subst eL12
      refine WC.env [(0, _), (1, _), (5, _), (6, _)] rfl ?_
      refine WC.seq ?_
      refine WC.seq ?_
      refine WC.run ?_
      refine WS.op rfl rfl (WS.op rfl rfl (WS.op rfl (op_lenVS A rfl) ?_))
      refine WS.lssN (a := i) (b := (l).length) rfl rfl rfl (fun e20 => ?_) (fun e20 => ?_)
      · skip
        refine WS.nil [(0, _), (1, _), (5, _), (6, _), (20, _)] rfl ?_
        refine WC.condT rfl ?_
        refine WC.skip ?_
        refine WC.seq ?_
        refine WC.block ?_
        refine WC.seq ?_
        refine WC.seq ?_
        refine WC.run ?_
        refine WS.op rfl rfl (WS.op rfl rfl (WS.opV (.int .i64 (((ct).toNat : Nat) : Int)) rfl rfl (cv_i64 (n := (ct).toNat) (by have := UInt8.toNat_lt (ct); omega)) ?_))
        refine WS.eqlN (a := i) (b := (ct).toNat) rfl rfl rfl (fun e26 => ?_) (fun e26 => ?_)
        · skip
          refine WS.nil [(0, _), (1, _), (5, _), (6, _), (26, _)] rfl ?_
          refine WC.condT rfl ?_
          refine WC.seq ?_
          refine WC.run ?_
          refine WS.op rfl rfl ?_
          refine WS.call rfl rfl rfl (ring_Write_ran M14.here (M14.at 0 rfl) G) ?_
          rintro _ h15 ⟨rfl, N16⟩
          have M17 := M14.trans N16
          refine WS.call rfl rfl rfl (ring_Read_ran M17.here (s := (wr i (last8 l i))) (by have := wr_len G.lt G.le; omega)) ?_
          rintro _ h18 (⟨hr30, rfl, N19⟩ | ⟨n30, l30, p21, cs22, hr30, G23, rfl, N19⟩)
          · skip
            exact absurd ((rd_wr0 G.lt (by rw [last8_len hi1])).symm.trans hr30) (by simp)
          · skip
            have M20 := M17.trans N19
            replace M20 : Mem _ _ ([(p21, _)] :: [(p_, _)] :: []) _ := M20
            obtain ⟨e1_, e2_⟩ : i = n30 ∧ last8 l i = l30 := by have := (rd_wr0 G.lt (by rw [last8_len hi1])).symm.trans hr30; simpa using this
            subst e1_; subst e2_
            refine WS.op rfl rfl (WS.op rfl rfl (WS.op rfl rfl (WS.op rfl rfl (WS.op rfl rfl (WS.nil [(0, _), (1, _), (6, _), (7, _), (8, _)] rfl ?_)))))
            refine WC.seq ?_
            refine WC.seq ?_
            refine WC.run ?_
            refine WS.op rfl rfl (WS.opV (.bool false) rfl rfl rfl (WS.op rfl rfl (WS.op rfl rfl (WS.opV (.bool false) rfl rfl rfl (WS.op rfl rfl (WS.nil [(0, _), (1, _), (6, _), (7, _), (38, _)] rfl ?_))))))
            refine WC.condF rfl ?_
            refine WC.skip ?_
            refine WC.run ?_
            refine WS.op rfl rfl (WS.op rfl rfl (WS.nil [(0, _), (1, _), (5, _), (6, _)] rfl ?_))
            refine WC.run ?_
            refine WS.op rfl rfl (WS.op rfl rfl (WS.op rfl rfl ?_))
            obtain ⟨y43, hy43⟩ : ∃ y, (l)[i]? = some y := ⟨_, List.getElem?_eq_getElem (show i < (l).length by first | omega | (simp only [List.length_drop, List.length_take, List.length_append, List.length_cons, List.length_nil, List.length_singleton]; omega) | (simp only [List.length_drop, List.length_take, List.length_append, List.length_cons, List.length_nil, List.length_singleton] at *; omega))⟩
            refine WS.iaVS A i hy43 rfl rfl rfl rfl ?_
            intro b43_ o43_ ha43
            refine WS.op rfl (op_ldAt rfl (ha43.mono M20.sub) rfl) ?_
            refine WS.call rfl rfl rfl (ring_Add_ran (x := y43) G23 (M20.focus 0 rfl)) ?_
            rintro _ h24 ⟨cs26, G27, rfl, M25⟩
            replace M25 : Mem _ _ ([(p21, _)] :: [(p_, _)] :: []) _ := M25
            refine WS.nil [(0, _), (1, _), (5, _), (6, _)] rfl ?_
            refine WC.run ?_
            refine WS.op rfl rfl (WS.opV (.int .i64 (((i + 1) : Nat) : Int)) rfl rfl (add_i64 (a := i) (b := 1) (by omega)) (WS.op rfl rfl (WS.nil [(0, _), (1, _), (5, _), (6, _)] rfl ?_)))
            refine ⟨(p21, cs26, i + 1), rfl, ⟨((M25.bare.focus 0 rfl).take 1), ?_⟩, ?_⟩
            · exact ⟨by have g_ := G27; rw [last8_step hy43, addt_small (by omega)] at g_; exact g_, by omega⟩
            · simp only []; omega
        · skip
          refine WS.nil [(0, _), (1, _), (5, _), (6, _), (26, _)] rfl ?_
          refine WC.condF rfl ?_
          refine WC.skip ?_
          refine WC.run ?_
          refine WS.op rfl rfl (WS.op rfl rfl (WS.op rfl rfl ?_))
          obtain ⟨y43, hy43⟩ : ∃ y, (l)[i]? = some y := ⟨_, List.getElem?_eq_getElem (show i < (l).length by first | omega | (simp only [List.length_drop, List.length_take, List.length_append, List.length_cons, List.length_nil, List.length_singleton]; omega) | (simp only [List.length_drop, List.length_take, List.length_append, List.length_cons, List.length_nil, List.length_singleton] at *; omega))⟩
          refine WS.iaVS A i hy43 rfl rfl rfl rfl ?_
          intro b43_ o43_ ha43
          refine WS.op rfl (op_ldAt rfl (ha43.mono M14.sub) rfl) ?_
          refine WS.call rfl rfl rfl (ring_Add_ran (x := y43) G (M14.focus 0 rfl)) ?_
          rintro _ h28 ⟨cs30, G31, rfl, M29⟩
          replace M29 : Mem _ _ ([(p_, _)] :: []) _ := M29
          refine WS.nil [(0, _), (1, _), (5, _), (6, _)] rfl ?_
          refine WC.run ?_
          refine WS.op rfl rfl (WS.opV (.int .i64 (((i + 1) : Nat) : Int)) rfl rfl (add_i64 (a := i) (b := 1) (by omega)) (WS.op rfl rfl (WS.nil [(0, _), (1, _), (5, _), (6, _)] rfl ?_)))
          refine ⟨(p_, cs30, i + 1), rfl, ⟨((M29.bare.focus 0 rfl).take 1), ?_⟩, ?_⟩
          · exact ⟨by have g_ := G31; rw [last8_step hy43, addt_small (by omega)] at g_; exact g_, by omega⟩
          · simp only []; omega
      · skip
        refine WS.nil [(0, _), (1, _), (5, _), (6, _), (20, _)] rfl ?_
        refine WC.condF rfl ?_
        refine WC.exit ?_
        refine WC.seq ?_
        refine WC.run ?_
        refine WS.op rfl rfl ?_
        have hrl := last8_len hi1
        refine WS.call rfl rfl rfl (ring_Rows_ran M14.here (M14.at 0 rfl) G) ?_
        rintro _ h32 ⟨V35, S36, O37, rfl, N33⟩
        obtain ⟨P38, rfl⟩ := O37.shape
        have M34 := M14.trans N33
        replace M34 : Mem _ _ (S36 :: [(p_, _)] :: []) _ := M34
        refine WS.op rfl rfl (WS.nil [(0, _), (5, _), (9, _)] rfl ?_)
        refine WC.seq ?_
        refine WC.run ?_
        refine WS.op rfl rfl (WS.op rfl (op_lenVS A rfl) (WS.opV (.int .i64 (((min ((l).length) 8) : Nat) : Int)) rfl rfl (mm_min (a := (l).length) (b := 8)) (WS.op rfl rfl (WS.nil [(0, _), (5, _), (9, _), (10, _)] rfl ?_))))
        refine WC.seq ?_
        refine WC.seq ?_
        refine WC.run ?_
        refine WS.op rfl rfl (WS.op rfl (op_lenVO O37 rfl) (WS.op rfl rfl ?_))
        refine WS.neqN (a := ((last8 l i)).length) (b := (min ((l).length) 8)) rfl rfl rfl (fun e54 => ?_) (fun e54 => ?_)
        · skip
          exact absurd (hrl.trans (by omega)) e54
        · skip
          refine WS.op rfl rfl (WS.op rfl rfl ?_)
          refine WS.call rfl rfl rfl (ring_Total_ran M34.here (M34.at 1 rfl) G) ?_
          rintro _ h39 ⟨rfl, N40⟩
          have M41 := M34.trans N40
          refine WS.op rfl rfl (WS.op rfl (op_lenVS A rfl) (WS.opV (.int .u64 (((l).length : Nat) : Int)) rfl rfl (cv_u64 (n := (l).length) (by omega)) ?_))
          refine WS.neqN (a := i) (b := (l).length) rfl rfl rfl (fun e61 => ?_) (fun e61 => ?_)
          · skip
            exact absurd (by omega) e61
          · skip
            refine WS.op rfl rfl (WS.nil [(0, _), (9, _), (10, _), (62, _)] rfl ?_)
            refine WC.condF rfl ?_
            refine WC.skip ?_
            refine WC.seq ?_
            refine WC.seq ?_
            refine WC.run ?_
            refine WS.op rfl rfl (WS.nil [(0, _), (9, _), (10, _), (11, _)] rfl ?_)
            refine WC.block ?_
            obtain ⟨L42, eL44, M43⟩ := Mem.name M41.bare
            refine WC.loop (σ := Nat) (fun (k) => [(0, (.slice P l.length c)), (9, (.slice P38 ((last8 l i)).length (2 * ((last8 l i)).length))), (10, (.int .i64 (((min ((l).length) 8) : Nat) : Int))), (11, (.int .i64 ((k : Nat) : Int)))]) (fun (k) hh => Mem h hh (L42) [] ∧ k ≤ min l.length 8) (fun (k) => min l.length 8 - k) (0) rfl ⟨M43, ?_⟩ ?_
            · omega
            · rintro k h45 ⟨M46, hk1⟩
              subst eL44
              refine WC.env [(0, _), (9, _), (10, _), (11, _)] rfl ?_
              refine WC.seq ?_
              refine WC.seq ?_
              refine WC.run ?_
              refine WS.op rfl rfl (WS.op rfl rfl ?_)
              refine WS.lssN (a := k) (b := (min ((l).length) 8)) rfl rfl rfl (fun e65 => ?_) (fun e65 => ?_)
              · skip
                refine WS.nil [(0, _), (9, _), (10, _), (11, _), (65, _)] rfl ?_
                refine WC.condT rfl ?_
                refine WC.skip ?_
                refine WC.seq ?_
                refine WC.block ?_
                refine WC.seq ?_
                refine WC.draw M46 [] rfl ?_
                intro rb47 h48 M49
                refine WS.op rfl rfl (WS.op rfl rfl ?_)
                obtain ⟨y70, hy70⟩ : ∃ y, ((last8 l i))[k]? = some y := ⟨_, List.getElem?_eq_getElem (show k < ((last8 l i)).length by first | omega | (simp only [List.length_drop, List.length_take, List.length_append, List.length_cons, List.length_nil, List.length_singleton]; omega) | (simp only [List.length_drop, List.length_take, List.length_append, List.length_cons, List.length_nil, List.length_singleton] at *; omega))⟩
                refine WS.iaVS (Row.Own.sl O37 (Mem.owni M49 0 rfl)) k hy70 rfl rfl rfl rfl ?_
                intro b70_ o70_ ha70
                refine WS.op rfl (op_ldAt rfl ha70 rfl) (WS.op rfl rfl (WS.op rfl rfl (WS.op rfl (op_lenVS A rfl) (WS.op rfl rfl (WS.opV (.int .i64 ((((l).length - (min ((l).length) 8)) : Nat) : Int)) rfl rfl (sub_i64 (a := (l).length) (b := (min ((l).length) 8)) (by omega)) (WS.op rfl rfl (WS.opV (.int .i64 (((((l).length - (min ((l).length) 8)) + k) : Nat) : Int)) rfl rfl (add_i64 (a := ((l).length - (min ((l).length) 8))) (b := k) (by omega)) ?_)))))))
                obtain ⟨y79, hy79⟩ : ∃ y, (l)[(((l).length - (min ((l).length) 8)) + k)]? = some y := ⟨_, List.getElem?_eq_getElem (show (((l).length - (min ((l).length) 8)) + k) < (l).length by first | omega | (simp only [List.length_drop, List.length_take, List.length_append, List.length_cons, List.length_nil, List.length_singleton]; omega) | (simp only [List.length_drop, List.length_take, List.length_append, List.length_cons, List.length_nil, List.length_singleton] at *; omega))⟩
                refine WS.iaVS A (((l).length - (min ((l).length) 8)) + k) hy79 rfl rfl rfl rfl ?_
                intro b79_ o79_ ha79
                refine WS.op rfl (op_ldAt rfl (ha79.mono M49.sub) rfl) ?_
                refine WS.eqqDn (p := y70 = y79) rfl rfl rfl (Rw_eqV _ _) (fun e81 => ?_) (fun e81 => ?_)
                · skip
                  exact absurd (last8_eq (by omega) hi1 hy70 hy79) e81
                · skip
                  refine WS.nil [(0, _), (9, _), (10, _), (11, _), (81, _)] rfl ?_
                  refine WC.condF rfl ?_
                  refine WC.skip ?_
                  refine WC.run ?_
                  refine WS.op rfl rfl (WS.opV (.int .i64 (((k + 1) : Nat) : Int)) rfl rfl (add_i64 (a := k) (b := 1) (by omega)) (WS.op rfl rfl (WS.nil [(0, _), (9, _), (10, _), (11, _)] rfl ?_)))
                  refine ⟨k + 1, rfl, ⟨(((M49.bare.bare.focus 1 rfl).focus 1 rfl).take 2), ?_⟩, ?_⟩
                  · omega
                  · simp only []; omega
              · skip
                refine WS.nil [(0, _), (9, _), (10, _), (11, _), (65, _)] rfl ?_
                refine WC.condF rfl ?_
                refine WC.exit ?_
                refine WC.seq ?_
                refine WC.run ?_
                refine WS.call rfl rfl rfl (awake_ran M46.here ) ?_
                rintro _ h50 ⟨rfl, N51⟩
                have M52 := M46.trans N51
                refine WS.op rfl rfl (WS.nil [(4, _)] rfl ?_)
                refine WC.ret ?_
                refine ⟨[_], (res_tmp rfl res_nil), ?_⟩
                rfl
set_option maxRecDepth 8000 in
theorem law_AuditBack (W : Mem h h [] []) {l : List Rw} {ct : UInt16} {bh : List UInt8} {u0 u1 u2 : Value} (l0 : laySl (fun _ y cs => cs = KRw.cells y) 11 h l [u0]) (l1 : layU16 h ct [u1]) (l2 : layStr h bh [u2]) (k0 : l.length < 9223372036854775808 ∧ ∀ x ∈ l, True) (k1 : True) (k2 : bh.length < 9223372036854775808) : Cll tab0 7 [u0, u1, u2] h (fun v _ => v = .bool true) := by
  obtain ⟨V0, hV, S0⟩ := l0
  cases hV
  have l1 : [u1] = [_] := l1
  have l2 : [u2] = [_] := l2
  cases l1; cases l2
  have A : KRw.Sl h u0 l := SlL.sl S0
  obtain ⟨P, c, rfl⟩ := A.shape
  refine Cll.code rfl rfl ?_
  refine WC.env [(0, _), (1, _), (2, _)] rfl ?_
  refine WC.seq ?_
  refine WC.run ?_
  refine WS.op rfl rfl (WS.nil [(0, _), (1, _), (2, _)] rfl ?_)
  refine WC.seq ?_
  refine WC.seq ?_
  obtain ⟨L1, eL3, M2⟩ := Mem.name W.bare
  refine WC.joinB (base := h) (fun b => [(0, (.slice P l.length c)), (1, (.int .u16 (((ct).toNat : Nat) : Int))), (2, (.string (bs bh))), (23, .bool b)]) L1 (True) (l.length ≤ 200 ∧ bh.length ≤ 100) ?_ ?_ ?_
  · subst eL3
    refine WS.op rfl rfl (WS.op rfl (op_lenVS A rfl) ?_)
    refine WS.gtrN (a := (l).length) (b := 200) rfl rfl rfl (fun e18 => ?_) (fun e18 => ?_)
    · skip
      refine WS.op rfl rfl (WS.off rfl (WS.off rfl (WS.off rfl (WS.op rfl rfl ?_))))
      refine WS.nil' ⟨true, rfl, (M2.bare.take 0), fun _ => ?_, fun hh => ?_⟩
      · trivial
      · cases hh
    · skip
      refine WS.op rfl rfl (WS.op rfl rfl (WS.op rfl (op_lenS (l := bh) rfl) ?_))
      refine WS.gtrN (a := (bh).length) (b := 100) rfl rfl rfl (fun e22 => ?_) (fun e22 => ?_)
      · skip
        refine WS.op rfl rfl ?_
        refine WS.nil' ⟨true, rfl, (M2.bare.take 0), fun _ => ?_, fun hh => ?_⟩
        · trivial
        · cases hh
      · skip
        refine WS.op rfl rfl ?_
        refine WS.nil' ⟨false, rfl, (M2.bare.take 0), fun hh => ?_, fun _ => ?_⟩
        · cases hh
        · omega
  · intro h4 M5 hp23
    subst eL3
    refine WC.condT rfl ?_
    refine WC.seq ?_
    refine WC.run ?_
    refine WS.call rfl rfl rfl (awake_ran M5.here ) ?_
    rintro _ h6 ⟨rfl, N7⟩
    have M8 := M5.trans N7
    refine WS.op rfl rfl (WS.nil [(6, _)] rfl ?_)
    refine WC.ret ?_
    refine ⟨[_], (res_tmp rfl res_nil), ?_⟩
    rfl
  · intro h9 M10 hp23
    subst eL3
    refine WC.condF rfl ?_
    refine WC.skip ?_
    refine WC.seq ?_
    refine WC.run ?_
    refine WS.call rfl rfl rfl (ring_New_ran M10.here) ?_
    rintro _ h11 ⟨p14, cs15, G16, rfl, N12⟩
    have M13 := M10.trans N12
    replace M13 : Mem _ _ ([(p14, _)] :: []) _ := M13
    refine WS.op rfl rfl (WS.nil [(0, _), (1, _), (2, _), (7, _)] rfl ?_)
    refine WC.seq ?_
    refine WC.seq ?_
    refine WC.run ?_
    refine WS.op rfl rfl (WS.nil [(0, _), (1, _), (2, _), (7, _), (8, _)] rfl ?_)
    refine WC.block ?_
    obtain ⟨L17, eL19, M18⟩ := Mem.name1 (M13.bare.focus 0 rfl)
    refine WC.loop (σ := List Value × Nat) (fun ((cs, i)) => [(0, (.slice P l.length c)), (1, (.int .u16 (((ct).toNat : Nat) : Int))), (2, (.string (bs bh))), (7, (.pointer (some ⟨p14, 0, none⟩))), (8, (.int .i64 ((i : Nat) : Int)))]) (fun ((cs, i)) hh => Mem h hh ([(p14, ⟨cs, 0, false⟩)] :: L17) [] ∧ Ring cs (last8 l i) i ∧ i ≤ l.length) (fun ((cs, i)) => l.length - i) (cs15, 0) rfl ⟨(by exact M18), ?_⟩ ?_
    · exact ⟨by assumption, by omega⟩
    · rintro ⟨cs, i⟩ h20 ⟨M21, ⟨G, hi1⟩⟩
      subst eL19
      refine WC.env [(0, _), (1, _), (2, _), (7, _), (8, _)] rfl ?_
      refine WC.seq ?_
      refine WC.seq ?_
      refine WC.run ?_
      refine WS.op rfl rfl (WS.op rfl rfl (WS.op rfl (op_lenVS A rfl) ?_))
      refine WS.lssN (a := i) (b := (l).length) rfl rfl rfl (fun e29 => ?_) (fun e29 => ?_)
      · skip
        refine WS.nil [(0, _), (1, _), (2, _), (7, _), (8, _), (29, _)] rfl ?_
        refine WC.condT rfl ?_
        refine WC.skip ?_
        refine WC.seq ?_
        refine WC.block ?_
        refine WC.run ?_
        refine WS.op rfl rfl (WS.op rfl rfl (WS.op rfl rfl ?_))
        obtain ⟨y35, hy35⟩ : ∃ y, (l)[i]? = some y := ⟨_, List.getElem?_eq_getElem (show i < (l).length by first | omega | (simp only [List.length_drop, List.length_take, List.length_append, List.length_cons, List.length_nil, List.length_singleton]; omega) | (simp only [List.length_drop, List.length_take, List.length_append, List.length_cons, List.length_nil, List.length_singleton] at *; omega))⟩
        refine WS.iaVS A i hy35 rfl rfl rfl rfl ?_
        intro b35_ o35_ ha35
        refine WS.op rfl (op_ldAt rfl (ha35.mono M21.sub) rfl) ?_
        refine WS.call rfl rfl rfl (ring_Add_ran (x := y35) G (M21.focus 0 rfl)) ?_
        rintro _ h22 ⟨cs24, G25, rfl, M23⟩
        replace M23 : Mem _ _ ([(p14, _)] :: []) _ := M23
        refine WS.nil [(0, _), (1, _), (2, _), (7, _), (8, _)] rfl ?_
        refine WC.run ?_
        refine WS.op rfl rfl (WS.opV (.int .i64 (((i + 1) : Nat) : Int)) rfl rfl (add_i64 (a := i) (b := 1) (by omega)) (WS.op rfl rfl (WS.nil [(0, _), (1, _), (2, _), (7, _), (8, _)] rfl ?_)))
        refine ⟨(cs24, i + 1), rfl, ⟨((M23.bare.focus 0 rfl).take 1), ?_⟩, ?_⟩
        · exact ⟨by have g_ := G25; rw [last8_step hy35, addt_small (by omega)] at g_; exact g_, by omega⟩
        · simp only []; omega
      · skip
        refine WS.nil [(0, _), (1, _), (2, _), (7, _), (8, _), (29, _)] rfl ?_
        refine WC.condF rfl ?_
        refine WC.exit ?_
        refine WC.seq ?_
        refine WC.run ?_
        refine WS.op rfl rfl ?_
        have hpos := wr_pos i (last8 l i)
        have hwl := wr_len G.lt G.le
        have hr0 := rd_wr0 G.lt (show (last8 l i).length = min i 8 by rw [last8_len hi1])
        refine WS.call rfl rfl rfl (ring_Write_ran M21.here (M21.at 0 rfl) G) ?_
        rintro _ h26 ⟨rfl, N27⟩
        have M28 := M21.trans N27
        refine WS.op rfl rfl (WS.nil [(1, _), (2, _), (9, _)] rfl ?_)
        refine WC.seq ?_
        refine WC.seq ?_
        refine WC.run ?_
        refine WS.op rfl rfl (WS.op rfl (op_lenS (l := (wr i (last8 l i))) rfl) ?_)
        refine WS.eqlN (a := ((wr i (last8 l i))).length) (b := 0) rfl rfl rfl (fun e42 => ?_) (fun e42 => ?_)
        · skip
          exact absurd e42 (by omega)
        · skip
          refine WS.nil [(1, _), (2, _), (9, _), (42, _)] rfl ?_
          refine WC.condF rfl ?_
          refine WC.skip ?_
          refine WC.seq ?_
          refine WC.run ?_
          refine WS.op rfl rfl ?_
          refine WS.call rfl rfl rfl (ring_Read_ran M28.here (s := (wr i (last8 l i))) (by omega)) ?_
          rintro _ h29 (⟨hr45, rfl, N30⟩ | ⟨n45, l45, p32, cs33, hr45, G34, rfl, N30⟩)
          · skip
            exact absurd (hr0.symm.trans hr45) (by simp)
          · skip
            have M31 := M28.trans N30
            replace M31 : Mem _ _ ([(p32, _)] :: [(p14, _)] :: []) _ := M31
            obtain ⟨e1_, e2_⟩ : i = n45 ∧ last8 l i = l45 := by have := hr0.symm.trans hr45; simpa using this
            subst e1_; subst e2_
            refine WS.op rfl rfl (WS.op rfl rfl (WS.op rfl rfl (WS.op rfl rfl (WS.op rfl rfl (WS.nil [(1, _), (2, _), (9, _), (10, _), (11, _)] rfl ?_)))))
            refine WC.seq ?_
            refine WC.run ?_
            refine WS.op rfl rfl (WS.op rfl rfl (WS.opV (.int .i64 (((ct).toNat : Nat) : Int)) rfl rfl (cv_i64 (n := (ct).toNat) (by have := UInt16.toNat_lt ct; omega)) (WS.op rfl rfl (WS.op rfl (op_lenS (l := (wr i (last8 l i))) rfl) (WS.op rfl (op_remN (a := (ct).toNat) (b := ((wr i (last8 l i))).length) rfl rfl (by omega)) (WS.op rfl (op_slS1 (l := (wr i (last8 l i))) (((ct).toNat) % (((wr i (last8 l i))).length)) rfl rfl (by exact Nat.le_of_lt (Nat.mod_lt _ hpos))) ?_))))))
            refine WS.call rfl rfl rfl (ring_Read_ran M31.here (s := (((wr i (last8 l i))).take (((ct).toNat) % (((wr i (last8 l i))).length)))) (by rw [List.length_take]; omega)) ?_
            rintro _ h35 (⟨hr56, rfl, N36⟩ | ⟨n56, l56, p38, cs39, hr56, G40, rfl, N36⟩)
            · skip
              have M37 := M31.trans N36
              refine WS.op rfl rfl (WS.op rfl rfl (WS.op rfl rfl (WS.op rfl rfl (WS.op rfl rfl (WS.nil [(2, _), (9, _), (10, _), (11, _), (13, _)] rfl ?_)))))
              refine WC.seq ?_
              refine WC.run ?_
              refine WS.op rfl rfl (WS.op rfl rfl (WS.op rfl (op_sadd (l := (wr i (last8 l i))) (m := bh) rfl rfl (by omega)) ?_))
              refine WS.call rfl rfl rfl (ring_Read_ran M37.here (s := ((wr i (last8 l i)) ++ bh)) (by rw [List.length_append]; omega)) ?_
              rintro _ h41 (⟨hr63, rfl, N42⟩ | ⟨n63, l63, p44, cs45, hr63, G46, rfl, N42⟩)
              · skip
                have M43 := M37.trans N42
                refine WS.op rfl rfl (WS.op rfl rfl (WS.op rfl rfl (WS.op rfl rfl (WS.op rfl rfl (WS.nil [(2, _), (9, _), (10, _), (11, _), (13, _), (15, _)] rfl ?_)))))
                refine WC.seq ?_
                refine WC.run ?_
                refine WS.op rfl rfl (WS.op rfl rfl (WS.op rfl rfl (WS.opV (.bool true) rfl rfl rfl (WS.op rfl rfl (WS.op rfl rfl (WS.op rfl rfl ?_))))))
                refine WS.call rfl rfl rfl (ring_Write_ran M43.here (M43.at 0 rfl) G34) ?_
                rintro _ h47 ⟨rfl, N48⟩
                have M49 := M43.trans N48
                refine WS.op rfl rfl ?_
                refine WS.seql (l := (wr i (last8 l i))) (m := (wr i (last8 l i))) rfl rfl rfl (fun e75 => ?_) (fun e75 => ?_)
                · skip
                  refine WS.op rfl rfl (WS.op rfl rfl (WS.op rfl rfl (WS.opV (.bool true) rfl rfl rfl (WS.op rfl rfl (WS.op rfl rfl (WS.op rfl rfl (WS.op rfl rfl ?_)))))))
                  refine WS.seql (l := bh) (m := []) rfl rfl rfl (fun e84 => ?_) (fun e84 => ?_)
                  · skip
                    refine WS.opV (.bool false) rfl rfl rfl (WS.op rfl rfl (WS.op rfl rfl (WS.offC rfl (WS.op rfl rfl (WS.op rfl rfl (WS.nil [(6, _)] rfl ?_))))))
                    refine WC.ret ?_
                    refine ⟨[_], (res_tmp rfl res_nil), ?_⟩
                    exfalso; have hm := rd_wr G.lt (show (last8 l i).length = min i 8 by rw [last8_len hi1]) bh; first | (rw [hr63, if_pos (by assumption)] at hm; cases hm; done) | (rw [hr63, if_neg (by assumption)] at hm; cases hm; done)
                  · skip
                    refine WS.opV (.bool true) rfl rfl rfl (WS.op rfl rfl (WS.op rfl rfl ?_))
                    refine WS.call rfl rfl rfl (awake_ran M49.here ) ?_
                    rintro _ h50 ⟨rfl, N51⟩
                    have M52 := M49.trans N51
                    refine WS.op rfl rfl (WS.op rfl rfl (WS.nil [(6, _)] rfl ?_))
                    refine WC.ret ?_
                    refine ⟨[_], (res_tmp rfl res_nil), ?_⟩
                    rfl
                · skip
                  exact absurd rfl e75
              · skip
                have M43 := M37.trans N42
                replace M43 : Mem _ _ ([(p44, _)] :: [(p32, _)] :: [(p14, _)] :: []) _ := M43
                refine WS.op rfl rfl (WS.op rfl rfl (WS.op rfl rfl (WS.op rfl rfl (WS.op rfl rfl (WS.nil [(2, _), (9, _), (10, _), (11, _), (13, _), (15, _)] rfl ?_)))))
                refine WC.seq ?_
                refine WC.run ?_
                refine WS.op rfl rfl (WS.op rfl rfl (WS.op rfl rfl (WS.opV (.bool true) rfl rfl rfl (WS.op rfl rfl (WS.op rfl rfl (WS.op rfl rfl ?_))))))
                refine WS.call rfl rfl rfl (ring_Write_ran M43.here (M43.at 1 rfl) G34) ?_
                rintro _ h53 ⟨rfl, N54⟩
                have M55 := M43.trans N54
                refine WS.op rfl rfl ?_
                refine WS.seql (l := (wr i (last8 l i))) (m := (wr i (last8 l i))) rfl rfl rfl (fun e75 => ?_) (fun e75 => ?_)
                · skip
                  refine WS.op rfl rfl (WS.op rfl rfl (WS.op rfl rfl (WS.opV (.bool true) rfl rfl rfl (WS.op rfl rfl (WS.op rfl rfl (WS.op rfl rfl (WS.op rfl rfl ?_)))))))
                  refine WS.seql (l := bh) (m := []) rfl rfl rfl (fun e84 => ?_) (fun e84 => ?_)
                  · skip
                    refine WS.opV (.bool true) rfl rfl rfl (WS.op rfl rfl (WS.op rfl rfl ?_))
                    refine WS.call rfl rfl rfl (awake_ran M55.here ) ?_
                    rintro _ h56 ⟨rfl, N57⟩
                    have M58 := M55.trans N57
                    refine WS.op rfl rfl (WS.op rfl rfl (WS.nil [(6, _)] rfl ?_))
                    refine WC.ret ?_
                    refine ⟨[_], (res_tmp rfl res_nil), ?_⟩
                    rfl
                  · skip
                    refine WS.opV (.bool false) rfl rfl rfl (WS.op rfl rfl (WS.op rfl rfl (WS.offC rfl (WS.op rfl rfl (WS.op rfl rfl (WS.nil [(6, _)] rfl ?_))))))
                    refine WC.ret ?_
                    refine ⟨[_], (res_tmp rfl res_nil), ?_⟩
                    exfalso; have hm := rd_wr G.lt (show (last8 l i).length = min i 8 by rw [last8_len hi1]) bh; first | (rw [hr63, if_pos (by assumption)] at hm; cases hm; done) | (rw [hr63, if_neg (by assumption)] at hm; cases hm; done)
                · skip
                  exact absurd rfl e75
            · skip
              exact (rd_pre G.lt (by rw [last8_len hi1]) (Nat.mod_lt _ hpos) hr56).elim
end Go.Proofs.Ytegogkiccmghgaa.Wt
