/- The law 'FrameBack' returns true for all arguments: what its proof stands on, part 8. -/
import Derived.Test.YteikngjiaboeaaaZFrameBack7
namespace Go.Proofs.Yteikngjiaboeaaa.Wt
open Go Go.Proofs.Yteikngjiaboeaaa.Am Go.Proofs.Yteikngjiaboeaaa.IrAll
set_option linter.unusedVariables false
set_option linter.unusedSimpArgs false
theorem hd9 {s : List UInt8} {a c0 c1 c2 c3 c4 c5 c6 c7 : UInt8} (h0 : s[0]? = some a) (h8 : (s.drop 1).take 8 = [c0, c1, c2, c3, c4, c5, c6, c7]) : s = [a, c0, c1, c2, c3, c4, c5, c6, c7] ++ s.drop 9 := by
  have e := drop_cons h0
  rw [List.drop_zero] at e
  have e2 := List.take_append_drop 8 (s.drop 1)
  rw [h8, List.drop_drop] at e2
  conv => lhs; rw [e, ← e2]
  rfl
variable {h base : H} {L : List Seg} {R : List Nat}
theorem encF_drop (f : Frm) : (encF f).drop 9 = tailF f := rfl
theorem rdF_no {s : List UInt8} (h : ∀ f0, GoodF f0 → encF f0 ≠ s) : Rd GoodF encF zeroF s zeroF false := ⟨fun q => (nomatch q), fun _ => ⟨rfl, h⟩⟩
theorem rdF_yes {s : List UInt8} {f : Frm} (g : GoodF f) (h : encF f = s) : Rd GoodF encF zeroF s f true := ⟨fun _ => ⟨g, h⟩, fun q => (nomatch q)⟩
theorem noF_short {s : List UInt8} (h : s.length < 9) : ∀ f0, GoodF f0 → encF f0 ≠ s := fun f0 _ e => by
  have := congrArg List.length e
  simp [encF] at this; omega
theorem noF_1 {s : List UInt8} {a : UInt8} {c : Cmd} (h0 : s[0]? = some a) (ha : a.toNat = 1) (hC : RdC (s.drop 9) c false) : ∀ f0, GoodF f0 → encF f0 ≠ s := fun f0 g e => by
  have hk : f0.kd = a := by rw [← e] at h0; simpa [encF] using h0
  rcases g.1 with ⟨q1, q2, q3⟩ | ⟨q1, q2, q3⟩
  · exact (hC.2 rfl).2 f0.c q3 g.2 (by rw [← e, encF_drop, tailF_1 q1])
  · rw [hk] at q1; omega
theorem noF_2 {s : List UInt8} {a : UInt8} {o : Oper} (h0 : s[0]? = some a) (ha : a.toNat = 2) (hC : RdO (s.drop 9) o false) : ∀ f0, GoodF f0 → encF f0 ≠ s := fun f0 g e => by
  have hk : f0.kd = a := by rw [← e] at h0; simpa [encF] using h0
  rcases g.1 with ⟨q1, q2, q3⟩ | ⟨q1, q2, q3⟩
  · rw [hk] at q1; omega
  · exact (hC.2 rfl).2 f0.o q3 (by rw [← e, encF_drop, tailF_2 q1])
theorem noF_0 {s : List UInt8} {a : UInt8} (h0 : s[0]? = some a) (ha : a.toNat ≠ 1) (hb : a.toNat ≠ 2) : ∀ f0, GoodF f0 → encF f0 ≠ s := fun f0 g e => by
  have hk : f0.kd = a := by rw [← e] at h0; simpa [encF] using h0
  rcases g.1 with ⟨q1, q2, q3⟩ | ⟨q1, q2, q3⟩
  · rw [hk] at q1; omega
  · rw [hk] at q1; omega
set_option maxRecDepth 8000 in
theorem ReadF_ran (W : Mem h h [] []) {s : List UInt8} (hl : s.length ≤ 300000) : Cll tab0 13 [.string (bs s)] h (fun v h2 => ∃ f V S ok, KPart.Own V (Cmd.ps f.c) S ∧ v = .tuple #[Frm.val f V, .bool ok] ∧ Fit f.c ∧ Rd GoodF encF zeroF s f ok ∧ Mem h h2 [S] []) := by
  refine Cll.code rfl rfl ?_
  refine WC.env [(0, _)] rfl ?_
  refine WC.seq ?_
  refine WC.run ?_
  refine WS.new W rfl ?_
  intro p1 h2 M3
  refine WS.op rfl rfl (WS.nil [(0, _), (2, _)] rfl ?_)
  refine WC.seq ?_
  refine WC.seq ?_
  refine WC.run ?_
  refine WS.op rfl rfl (WS.op rfl (op_lenS (l := s) rfl) ?_)
  refine WS.lssN (a := (s).length) (b := 9) rfl rfl rfl (fun e8 => ?_) (fun e8 => ?_)
  ·
   refine WS.nil [(0, _), (2, _), (8, _)] rfl ?_
   refine WC.condT rfl ?_
   refine WC.seq ?_
   refine WC.run ?_
   refine WS.opV (.agg #[(.int .u8 (0 : Int)), (.int .u8 (0 : Int)), (.int .u8 (0 : Int)), (.int .u8 (0 : Int)), (.int .u8 (0 : Int)), (.int .u8 (0 : Int)), (.int .u8 (0 : Int)), (.int .u8 (0 : Int)), (.int .u8 (0 : Int)), (.int .u8 (0 : Int)), (.int .u64 (0 : Int)), (.int .u64 (0 : Int)), (.string (bs ([]))), (.string (bs ([]))), (.string (bs ([]))), (.string (bs ([]))), (.string (bs ([]))), (.int .u8 (0 : Int)), (.int .u64 (0 : Int)), (.int .u64 (0 : Int)), (.slice none 0 0), (.int .u8 (0 : Int)), (.int .u8 (0 : Int)), (.int .u8 (0 : Int)), (.int .u8 (0 : Int)), (.int .u8 (0 : Int)), (.int .u8 (0 : Int)), (.int .u8 (0 : Int)), (.int .u8 (0 : Int)), (.int .u8 (0 : Int)), (.int .u8 (0 : Int)), (.int .u8 (0 : Int)), (.int .i64 (0 : Int)), (.int .i64 (0 : Int)), (.int .i64 (0 : Int)), (.int .i64 (0 : Int)), (.int .u8 (0 : Int))]) rfl rfl rfl ?_
   refine WS.st1 (M3.focus 0 rfl) [_, _, _, _, _, _, _, _, _, _, _, _, _, _, _, _, _, _, _, _, _, _, _, _, _, _, _, _, _, _, _, _, _, _, _, _, _] [_, _, _, _, _, _, _, _, _, _, _, _, _, _, _, _, _, _, _, _, _, _, _, _, _, _, _, _, _, _, _, _, _, _, _, _, _] rfl rfl rfl rfl rfl (Nat.le_of_ble_eq_true rfl) (Nat.le_of_ble_eq_true rfl) rfl rfl ?_
   intro h4 M5
   replace M5 : Mem _ _ ([(p1, _)] :: []) _ := M5
   refine WS.op rfl rfl (WS.nil [(2, _), (3, _)] rfl ?_)
   refine WC.ret ?_
   refine ⟨[_, _], (res_cellN [_, _, _, _, _, _, _, _, _, _, _, _, _, _, _, _, _, _, _, _, _, _, _, _, _, _, _, _, _, _, _, _, _, _, _, _, _] rfl (M5.at 0 rfl) (Nat.le_of_ble_eq_true rfl) rfl (res_tmp rfl res_nil)), ?_⟩
   have hno : ∀ f0, GoodF f0 → encF f0 ≠ s := by
     first
     | exact noF_short (by omega)
     | exact noF_1 x (by omega) (by rw [show ok25 = false by assumption] at hC25; exact hC25)
     | exact noF_2 x (by omega) (by rw [show ok34 = false by assumption] at hC34; exact hC34)
     | exact noF_0 x (by omega) (by omega)
   exact ⟨zeroF, .slice none 0 0, [], false, .nil, rfl, fit0, rdF_no hno, (M5.bare.take 0).nils⟩
  ·
   refine WS.nil [(0, _), (2, _), (8, _)] rfl ?_
   refine WC.condF rfl ?_
   refine WC.skip ?_
   refine WC.seq ?_
   refine WC.run ?_
   refine WS.op rfl rfl ?_
   obtain ⟨c6, hc7⟩ : ∃ c, (s)[0]? = some c := ⟨_, List.getElem?_eq_getElem (show 0 < (s).length by first | omega | (simp only [List.length_drop, List.length_take, List.length_append, List.length_cons, List.length_nil, List.length_singleton]; omega) | (simp only [List.length_drop, List.length_take, List.length_append, List.length_cons, List.length_nil, List.length_singleton] at *; omega))⟩
   refine WS.op rfl (op_ixS 0 rfl rfl hc7) (WS.opV (.agg #[(.int .u8 (((c6).toNat : Nat) : Int)), (.int .u8 (0 : Int)), (.int .u8 (0 : Int)), (.int .u8 (0 : Int)), (.int .u8 (0 : Int)), (.int .u8 (0 : Int)), (.int .u8 (0 : Int)), (.int .u8 (0 : Int)), (.int .u8 (0 : Int)), (.int .u8 (0 : Int)), (.int .u64 (0 : Int)), (.int .u64 (0 : Int)), (.string (bs ([]))), (.string (bs ([]))), (.string (bs ([]))), (.string (bs ([]))), (.string (bs ([]))), (.int .u8 (0 : Int)), (.int .u64 (0 : Int)), (.int .u64 (0 : Int)), (.slice none 0 0), (.int .u8 (0 : Int)), (.int .u8 (0 : Int)), (.int .u8 (0 : Int)), (.int .u8 (0 : Int)), (.int .u8 (0 : Int)), (.int .u8 (0 : Int)), (.int .u8 (0 : Int)), (.int .u8 (0 : Int)), (.int .u8 (0 : Int)), (.int .u8 (0 : Int)), (.int .u8 (0 : Int)), (.int .i64 (0 : Int)), (.int .i64 (0 : Int)), (.int .i64 (0 : Int)), (.int .i64 (0 : Int)), (.int .u8 (0 : Int))]) rfl rfl rfl ?_)
   refine WS.new M3 rfl ?_
   intro p8 h9 M10
   refine WS.st1 (M10.focus 0 rfl) [_, _, _, _, _, _, _, _, _, _, _, _, _, _, _, _, _, _, _, _, _, _, _, _, _, _, _, _, _, _, _, _, _, _, _, _, _] [_, _, _, _, _, _, _, _, _, _, _, _, _, _, _, _, _, _, _, _, _, _, _, _, _, _, _, _, _, _, _, _, _, _, _, _, _] rfl rfl rfl rfl rfl (Nat.le_of_ble_eq_true rfl) (Nat.le_of_ble_eq_true rfl) rfl rfl ?_
   intro h11 M12
   replace M12 : Mem _ _ ([(p8, _)] :: [(p1, _)] :: []) _ := M12
   refine WS.nil [(0, _), (2, _), (4, _)] rfl ?_
   refine WC.seq ?_
   refine WC.draw M12 [] rfl ?_
   intro rb13 h14 M15
   refine WS.op rfl rfl (WS.opV (.slice (some ⟨p8, 1, none⟩) 8 17) rfl rfl rfl (WS.op rfl rfl (WS.op rfl (op_slS0 (l := s) 1 rfl rfl (by first | omega | (simp only [List.length_drop, List.length_take, List.length_append, List.length_cons, List.length_nil, List.length_singleton]; omega) | (simp only [List.length_drop, List.length_take, List.length_append, List.length_cons, List.length_nil, List.length_singleton] at *; omega))) ?_)))
   obtain ⟨c16, c17, c18, c19, c20, c21, c22, c23, h8_24⟩ := take8 (l := ((s).drop 1)) (by first | omega | (simp only [List.length_drop, List.length_take, List.length_append, List.length_cons, List.length_nil, List.length_singleton]; omega) | (simp only [List.length_drop, List.length_take, List.length_append, List.length_cons, List.length_nil, List.length_singleton] at *; omega))
   refine WS.cpyS (l := ((s).drop 1)) (M15.focus 0 rfl) [(.int .u8 (((c16).toNat : Nat) : Int)), (.int .u8 (((c17).toNat : Nat) : Int)), (.int .u8 (((c18).toNat : Nat) : Int)), (.int .u8 (((c19).toNat : Nat) : Int)), (.int .u8 (((c20).toNat : Nat) : Int)), (.int .u8 (((c21).toNat : Nat) : Int)), (.int .u8 (((c22).toNat : Nat) : Int)), (.int .u8 (((c23).toNat : Nat) : Int))] [_, _, _, _, _, _, _, _, _, _, _, _, _, _, _, _, _, _, _, _, _, _, _, _, _, _, _, _, _, _, _, _, _, _, _, _, _] rfl rfl rfl rfl (by rw [h8_24]; rfl) rfl (Nat.le_of_ble_eq_true rfl) (Nat.le_of_ble_eq_true rfl) rfl rfl ?_
   intro h25 M26
   replace M26 : Mem _ _ ([(p8, _)] :: [(p1, _)] :: []) _ := M26
   refine WS.nil [(0, _), (2, _), (4, _)] rfl ?_
   refine WC.seq ?_
   refine WC.run ?_
   refine WS.op rfl rfl (WS.nil [(0, _), (2, _), (4, _), (5, _)] rfl ?_)
   refine WC.seq ?_
   refine WC.seq ?_
   refine WC.run ?_
   refine WS.op rfl rfl (WS.op rfl (op_ld (M26.bare.at 0 rfl) rfl rfl) (WS.nil [(0, _), (2, _), (4, _), (5, _), (19, _)] rfl ?_))
   refine WC.block ?_
   refine WC.seq ?_
   refine WC.run ?_
   refine WS.eqlN (a := (c6).toNat) (b := 1) rfl rfl rfl (fun e21 => ?_) (fun e21 => ?_)
   ·
    refine WS.op rfl rfl (WS.nil [(0, _), (2, _), (4, _), (5, _), (19, _), (20, _)] rfl ?_)
    refine WC.condT rfl ?_
    refine WC.run ?_
    refine WS.op rfl rfl (WS.op rfl (op_slS0 (l := s) 9 rfl rfl (by first | omega | (simp only [List.length_drop, List.length_take, List.length_append, List.length_cons, List.length_nil, List.length_singleton]; omega) | (simp only [List.length_drop, List.length_take, List.length_append, List.length_cons, List.length_nil, List.length_singleton] at *; omega))) ?_)
    refine WS.call rfl rfl rfl (Read_ran M26.bare.here (s := ((s).drop 9)) (by first | omega | (simp only [List.length_drop, List.length_take, List.length_append, List.length_cons, List.length_nil, List.length_singleton]; omega) | (simp only [List.length_drop, List.length_take, List.length_append, List.length_cons, List.length_nil, List.length_singleton] at *; omega))) ?_
    rintro _ h27 ⟨c25, V30, S31, ok25, O32, rfl, hF25, hy25, hn25, hC25, N28⟩
    obtain ⟨P33, rfl⟩ := O32.shape
    have M29 := M26.bare.trans N28
    replace M29 : Mem _ _ (S31 :: [(p8, _)] :: [(p1, _)] :: []) _ := M29
    refine WS.op rfl rfl (WS.op rfl rfl (WS.op rfl rfl (WS.op rfl rfl ?_)))
    refine WS.st1 (M29.focus 1 rfl) [_, _, _, _, _, _, _, _, _, _, _, _] [_, _, _, _, _, _, _, _, _, _, _, _, _, _, _, _, _, _, _, _, _, _, _, _, _, _, _, _, _, _, _, _, _, _, _, _, _] rfl rfl rfl rfl rfl (Nat.le_of_ble_eq_true rfl) (Nat.le_of_ble_eq_true rfl) rfl rfl ?_
    intro h34 M35
    replace M35 : Mem _ _ ([(p8, _)] :: S31 :: [(p1, _)] :: []) _ := M35
    refine WS.op rfl rfl (WS.nil [(2, _), (4, _), (5, _)] rfl ?_)
    refine WC.seq ?_
    refine WC.seq ?_
    refine WC.run ?_
    refine WS.op rfl rfl ?_
    cases hb1 : ok25
    ·
     refine WS.opV (.bool true) rfl rfl rfl (WS.nil [(2, _), (4, _), (39, _)] rfl ?_)
     refine WC.condT rfl ?_
     refine WC.seq ?_
     refine WC.run ?_
     refine WS.opV (.agg #[(.int .u8 (0 : Int)), (.int .u8 (0 : Int)), (.int .u8 (0 : Int)), (.int .u8 (0 : Int)), (.int .u8 (0 : Int)), (.int .u8 (0 : Int)), (.int .u8 (0 : Int)), (.int .u8 (0 : Int)), (.int .u8 (0 : Int)), (.int .u8 (0 : Int)), (.int .u64 (0 : Int)), (.int .u64 (0 : Int)), (.string (bs ([]))), (.string (bs ([]))), (.string (bs ([]))), (.string (bs ([]))), (.string (bs ([]))), (.int .u8 (0 : Int)), (.int .u64 (0 : Int)), (.int .u64 (0 : Int)), (.slice none 0 0), (.int .u8 (0 : Int)), (.int .u8 (0 : Int)), (.int .u8 (0 : Int)), (.int .u8 (0 : Int)), (.int .u8 (0 : Int)), (.int .u8 (0 : Int)), (.int .u8 (0 : Int)), (.int .u8 (0 : Int)), (.int .u8 (0 : Int)), (.int .u8 (0 : Int)), (.int .u8 (0 : Int)), (.int .i64 (0 : Int)), (.int .i64 (0 : Int)), (.int .i64 (0 : Int)), (.int .i64 (0 : Int)), (.int .u8 (0 : Int))]) rfl rfl rfl ?_
     refine WS.st1 (M35.focus 2 rfl) [_, _, _, _, _, _, _, _, _, _, _, _, _, _, _, _, _, _, _, _, _, _, _, _, _, _, _, _, _, _, _, _, _, _, _, _, _] [_, _, _, _, _, _, _, _, _, _, _, _, _, _, _, _, _, _, _, _, _, _, _, _, _, _, _, _, _, _, _, _, _, _, _, _, _] rfl rfl rfl rfl rfl (Nat.le_of_ble_eq_true rfl) (Nat.le_of_ble_eq_true rfl) rfl rfl ?_
     intro h36 M37
     replace M37 : Mem _ _ ([(p1, _)] :: [(p8, _)] :: S31 :: []) _ := M37
     refine WS.op rfl rfl (WS.nil [(2, _), (3, _)] rfl ?_)
     refine WC.ret ?_
     refine ⟨[_, _], (res_cellN [_, _, _, _, _, _, _, _, _, _, _, _, _, _, _, _, _, _, _, _, _, _, _, _, _, _, _, _, _, _, _, _, _, _, _, _, _] rfl (M37.at 0 rfl) (Nat.le_of_ble_eq_true rfl) rfl (res_tmp rfl res_nil)), ?_⟩
     have hno : ∀ f0, GoodF f0 → encF f0 ≠ s := by
       first
       | exact noF_short (by omega)
       | exact noF_1 hc7 (by omega) (by rw [show ok25 = false by assumption] at hC25; exact hC25)
       | exact noF_2 hc7 (by omega) (by rw [show ok34 = false by assumption] at hC34; exact hC34)
       | exact noF_0 hc7 (by omega) (by omega)
     exact ⟨zeroF, .slice none 0 0, [], false, .nil, rfl, fit0, rdF_no hno, (M37.bare.take 0).nils⟩
    ·
     refine WS.opV (.bool false) rfl rfl rfl (WS.nil [(2, _), (4, _), (39, _)] rfl ?_)
     refine WC.condF rfl ?_
     refine WC.skip ?_
     refine WC.seq ?_
     refine WC.run ?_
     refine WS.op rfl (op_lds [_, _, _, _, _, _, _, _, _, _, _, _, _, _, _, _, _, _, _, _, _, _, _, _, _, _, _, _, _, _, _, _, _, _, _, _, _] (M35.at 0 rfl) rfl (Nat.le_of_ble_eq_true rfl) rfl) ?_
     refine WS.st1 (M35.focus 2 rfl) [_, _, _, _, _, _, _, _, _, _, _, _, _, _, _, _, _, _, _, _, _, _, _, _, _, _, _, _, _, _, _, _, _, _, _, _, _] [_, _, _, _, _, _, _, _, _, _, _, _, _, _, _, _, _, _, _, _, _, _, _, _, _, _, _, _, _, _, _, _, _, _, _, _, _] rfl rfl rfl rfl rfl (Nat.le_of_ble_eq_true rfl) (Nat.le_of_ble_eq_true rfl) rfl rfl ?_
     intro h38 M39
     replace M39 : Mem _ _ ([(p1, _)] :: [(p8, _)] :: S31 :: []) _ := M39
     refine WS.op rfl rfl (WS.nil [(2, _), (3, _)] rfl ?_)
     refine WC.ret ?_
     refine ⟨[_, _], (res_cellN [_, _, _, _, _, _, _, _, _, _, _, _, _, _, _, _, _, _, _, _, _, _, _, _, _, _, _, _, _, _, _, _, _, _, _, _, _] rfl (M39.at 0 rfl) (Nat.le_of_ble_eq_true rfl) rfl (res_tmp rfl res_nil)), ?_⟩
     obtain ⟨g1, g2⟩ := hC25.1 (by assumption)
     have hh : s = [c6, c16, c17, c18, c19, c20, c21, c22, c23] ++ s.drop 9 := hd9 hc7 h8_24
     have henc : encF (⟨c6, c16, c17, c18, c19, c20, c21, c22, c23, c25, (⟨0, 0, 0, 0, 0, 0, 0, 0, 0, 0, 0, 0, 0, 0, 0, 0⟩ : Oper)⟩ : Frm) = s := by
       unfold encF
       rw [tailF_1 (by dsimp only; omega)]
       dsimp only
       rw [g2]
       exact hh.symm
     exact ⟨(⟨c6, c16, c17, c18, c19, c20, c21, c22, c23, c25, (⟨0, 0, 0, 0, 0, 0, 0, 0, 0, 0, 0, 0, 0, 0, 0, 0⟩ : Oper)⟩ : Frm), _, _, true, O32, rfl, hF25, rdF_yes ⟨.inl ⟨by dsimp only; omega, rfl, g1⟩, hF25⟩ henc, ((M39.bare.focus 2 rfl).take 1)⟩
   ·
    refine WS.op rfl rfl (WS.nil [(0, _), (2, _), (4, _), (5, _), (19, _), (20, _)] rfl ?_)
    refine WC.condF rfl ?_
    refine WC.seq ?_
    refine WC.run ?_
    refine WS.eqlN (a := (c6).toNat) (b := 2) rfl rfl rfl (fun e30 => ?_) (fun e30 => ?_)
    ·
     refine WS.op rfl rfl (WS.nil [(0, _), (2, _), (4, _), (5, _), (29, _)] rfl ?_)
     refine WC.condT rfl ?_
     refine WC.run ?_
     refine WS.op rfl rfl (WS.op rfl (op_slS0 (l := s) 9 rfl rfl (by first | omega | (simp only [List.length_drop, List.length_take, List.length_append, List.length_cons, List.length_nil, List.length_singleton]; omega) | (simp only [List.length_drop, List.length_take, List.length_append, List.length_cons, List.length_nil, List.length_singleton] at *; omega))) ?_)
     refine WS.call rfl rfl rfl (ReadO_ran M26.bare.here (s := ((s).drop 9)) (by first | omega | (simp only [List.length_drop, List.length_take, List.length_append, List.length_cons, List.length_nil, List.length_singleton]; omega) | (simp only [List.length_drop, List.length_take, List.length_append, List.length_cons, List.length_nil, List.length_singleton] at *; omega))) ?_
     rintro _ h40 ⟨o34, ok34, rfl, hy34, hn34, hC34, N41⟩
     have M42 := M26.bare.trans N41
     refine WS.op rfl rfl (WS.op rfl rfl (WS.op rfl rfl (WS.op rfl rfl ?_)))
     refine WS.st1 (M42.focus 0 rfl) [_, _, _, _, _, _, _, _, _, _, _, _, _, _, _, _] [_, _, _, _, _, _, _, _, _, _, _, _, _, _, _, _, _, _, _, _, _, _, _, _, _, _, _, _, _, _, _, _, _, _, _, _, _] rfl rfl rfl rfl rfl (Nat.le_of_ble_eq_true rfl) (Nat.le_of_ble_eq_true rfl) rfl rfl ?_
     intro h43 M44
     replace M44 : Mem _ _ ([(p8, _)] :: [(p1, _)] :: []) _ := M44
     refine WS.op rfl rfl (WS.nil [(2, _), (4, _), (5, _)] rfl ?_)
     refine WC.seq ?_
     refine WC.seq ?_
     refine WC.run ?_
     refine WS.op rfl rfl ?_
     cases hb2 : ok34
     ·
      refine WS.opV (.bool true) rfl rfl rfl (WS.nil [(2, _), (4, _), (39, _)] rfl ?_)
      refine WC.condT rfl ?_
      refine WC.seq ?_
      refine WC.run ?_
      refine WS.opV (.agg #[(.int .u8 (0 : Int)), (.int .u8 (0 : Int)), (.int .u8 (0 : Int)), (.int .u8 (0 : Int)), (.int .u8 (0 : Int)), (.int .u8 (0 : Int)), (.int .u8 (0 : Int)), (.int .u8 (0 : Int)), (.int .u8 (0 : Int)), (.int .u8 (0 : Int)), (.int .u64 (0 : Int)), (.int .u64 (0 : Int)), (.string (bs ([]))), (.string (bs ([]))), (.string (bs ([]))), (.string (bs ([]))), (.string (bs ([]))), (.int .u8 (0 : Int)), (.int .u64 (0 : Int)), (.int .u64 (0 : Int)), (.slice none 0 0), (.int .u8 (0 : Int)), (.int .u8 (0 : Int)), (.int .u8 (0 : Int)), (.int .u8 (0 : Int)), (.int .u8 (0 : Int)), (.int .u8 (0 : Int)), (.int .u8 (0 : Int)), (.int .u8 (0 : Int)), (.int .u8 (0 : Int)), (.int .u8 (0 : Int)), (.int .u8 (0 : Int)), (.int .i64 (0 : Int)), (.int .i64 (0 : Int)), (.int .i64 (0 : Int)), (.int .i64 (0 : Int)), (.int .u8 (0 : Int))]) rfl rfl rfl ?_
      refine WS.st1 (M44.focus 1 rfl) [_, _, _, _, _, _, _, _, _, _, _, _, _, _, _, _, _, _, _, _, _, _, _, _, _, _, _, _, _, _, _, _, _, _, _, _, _] [_, _, _, _, _, _, _, _, _, _, _, _, _, _, _, _, _, _, _, _, _, _, _, _, _, _, _, _, _, _, _, _, _, _, _, _, _] rfl rfl rfl rfl rfl (Nat.le_of_ble_eq_true rfl) (Nat.le_of_ble_eq_true rfl) rfl rfl ?_
      intro h45 M46
      replace M46 : Mem _ _ ([(p1, _)] :: [(p8, _)] :: []) _ := M46
      refine WS.op rfl rfl (WS.nil [(2, _), (3, _)] rfl ?_)
      refine WC.ret ?_
      refine ⟨[_, _], (res_cellN [_, _, _, _, _, _, _, _, _, _, _, _, _, _, _, _, _, _, _, _, _, _, _, _, _, _, _, _, _, _, _, _, _, _, _, _, _] rfl (M46.at 0 rfl) (Nat.le_of_ble_eq_true rfl) rfl (res_tmp rfl res_nil)), ?_⟩
      have hno : ∀ f0, GoodF f0 → encF f0 ≠ s := by
        first
        | exact noF_short (by omega)
        | exact noF_1 hc7 (by omega) (by rw [show ok25 = false by assumption] at hC25; exact hC25)
        | exact noF_2 hc7 (by omega) (by rw [show ok34 = false by assumption] at hC34; exact hC34)
        | exact noF_0 hc7 (by omega) (by omega)
      exact ⟨zeroF, .slice none 0 0, [], false, .nil, rfl, fit0, rdF_no hno, (M46.bare.take 0).nils⟩
     ·
      refine WS.opV (.bool false) rfl rfl rfl (WS.nil [(2, _), (4, _), (39, _)] rfl ?_)
      refine WC.condF rfl ?_
      refine WC.skip ?_
      refine WC.seq ?_
      refine WC.run ?_
      refine WS.op rfl (op_lds [_, _, _, _, _, _, _, _, _, _, _, _, _, _, _, _, _, _, _, _, _, _, _, _, _, _, _, _, _, _, _, _, _, _, _, _, _] (M44.at 0 rfl) rfl (Nat.le_of_ble_eq_true rfl) rfl) ?_
      refine WS.st1 (M44.focus 1 rfl) [_, _, _, _, _, _, _, _, _, _, _, _, _, _, _, _, _, _, _, _, _, _, _, _, _, _, _, _, _, _, _, _, _, _, _, _, _] [_, _, _, _, _, _, _, _, _, _, _, _, _, _, _, _, _, _, _, _, _, _, _, _, _, _, _, _, _, _, _, _, _, _, _, _, _] rfl rfl rfl rfl rfl (Nat.le_of_ble_eq_true rfl) (Nat.le_of_ble_eq_true rfl) rfl rfl ?_
      intro h47 M48
      replace M48 : Mem _ _ ([(p1, _)] :: [(p8, _)] :: []) _ := M48
      refine WS.op rfl rfl (WS.nil [(2, _), (3, _)] rfl ?_)
      refine WC.ret ?_
      refine ⟨[_, _], (res_cellN [_, _, _, _, _, _, _, _, _, _, _, _, _, _, _, _, _, _, _, _, _, _, _, _, _, _, _, _, _, _, _, _, _, _, _, _, _] rfl (M48.at 0 rfl) (Nat.le_of_ble_eq_true rfl) rfl (res_tmp rfl res_nil)), ?_⟩
      obtain ⟨g1, g2⟩ := hC34.1 (by assumption)
      have hh : s = [c6, c16, c17, c18, c19, c20, c21, c22, c23] ++ s.drop 9 := hd9 hc7 h8_24
      have henc : encF (⟨c6, c16, c17, c18, c19, c20, c21, c22, c23, (⟨0, 0, 0, ([]), ([]), ([]), ([]), ([]), 0, 0, 0, []⟩ : Cmd), o34⟩ : Frm) = s := by
        unfold encF
        rw [tailF_2 (by dsimp only; omega)]
        dsimp only
        rw [g2]
        exact hh.symm
      exact ⟨(⟨c6, c16, c17, c18, c19, c20, c21, c22, c23, (⟨0, 0, 0, ([]), ([]), ([]), ([]), ([]), 0, 0, 0, []⟩ : Cmd), o34⟩ : Frm), _, _, true, .nil, rfl, fit0, rdF_yes ⟨.inr ⟨by dsimp only; omega, rfl, g1⟩, fit0⟩ henc, (M48.bare.take 0).nils⟩
    ·
     refine WS.op rfl rfl (WS.nil [(0, _), (2, _), (4, _), (5, _), (29, _)] rfl ?_)
     refine WC.condF rfl ?_
     refine WC.skip ?_
     refine WC.seq ?_
     refine WC.seq ?_
     refine WC.run ?_
     refine WS.op rfl rfl (WS.opV (.bool true) rfl rfl rfl (WS.nil [(2, _), (4, _), (39, _)] rfl ?_))
     refine WC.condT rfl ?_
     refine WC.seq ?_
     refine WC.run ?_
     refine WS.opV (.agg #[(.int .u8 (0 : Int)), (.int .u8 (0 : Int)), (.int .u8 (0 : Int)), (.int .u8 (0 : Int)), (.int .u8 (0 : Int)), (.int .u8 (0 : Int)), (.int .u8 (0 : Int)), (.int .u8 (0 : Int)), (.int .u8 (0 : Int)), (.int .u8 (0 : Int)), (.int .u64 (0 : Int)), (.int .u64 (0 : Int)), (.string (bs ([]))), (.string (bs ([]))), (.string (bs ([]))), (.string (bs ([]))), (.string (bs ([]))), (.int .u8 (0 : Int)), (.int .u64 (0 : Int)), (.int .u64 (0 : Int)), (.slice none 0 0), (.int .u8 (0 : Int)), (.int .u8 (0 : Int)), (.int .u8 (0 : Int)), (.int .u8 (0 : Int)), (.int .u8 (0 : Int)), (.int .u8 (0 : Int)), (.int .u8 (0 : Int)), (.int .u8 (0 : Int)), (.int .u8 (0 : Int)), (.int .u8 (0 : Int)), (.int .u8 (0 : Int)), (.int .i64 (0 : Int)), (.int .i64 (0 : Int)), (.int .i64 (0 : Int)), (.int .i64 (0 : Int)), (.int .u8 (0 : Int))]) rfl rfl rfl ?_
     refine WS.st1 (M26.bare.focus 1 rfl) [_, _, _, _, _, _, _, _, _, _, _, _, _, _, _, _, _, _, _, _, _, _, _, _, _, _, _, _, _, _, _, _, _, _, _, _, _] [_, _, _, _, _, _, _, _, _, _, _, _, _, _, _, _, _, _, _, _, _, _, _, _, _, _, _, _, _, _, _, _, _, _, _, _, _] rfl rfl rfl rfl rfl (Nat.le_of_ble_eq_true rfl) (Nat.le_of_ble_eq_true rfl) rfl rfl ?_
     intro h49 M50
     replace M50 : Mem _ _ ([(p1, _)] :: [(p8, _)] :: []) _ := M50
     refine WS.op rfl rfl (WS.nil [(2, _), (3, _)] rfl ?_)
     refine WC.ret ?_
     refine ⟨[_, _], (res_cellN [_, _, _, _, _, _, _, _, _, _, _, _, _, _, _, _, _, _, _, _, _, _, _, _, _, _, _, _, _, _, _, _, _, _, _, _, _] rfl (M50.at 0 rfl) (Nat.le_of_ble_eq_true rfl) rfl (res_tmp rfl res_nil)), ?_⟩
     have hno : ∀ f0, GoodF f0 → encF f0 ≠ s := by
       first
       | exact noF_short (by omega)
       | exact noF_1 hc7 (by omega) (by rw [show ok25 = false by assumption] at hC25; exact hC25)
       | exact noF_2 hc7 (by omega) (by rw [show ok34 = false by assumption] at hC34; exact hC34)
       | exact noF_0 hc7 (by omega) (by omega)
     exact ⟨zeroF, .slice none 0 0, [], false, .nil, rfl, fit0, rdF_no hno, (M50.bare.take 0).nils⟩
end Go.Proofs.Yteikngjiaboeaaa.Wt
namespace Go.Proofs.Yteikngjiaboeaaa.Wt
open Go Go.Proofs.Yteikngjiaboeaaa.Am Go.Proofs.Yteikngjiaboeaaa.IrAll
set_option linter.unusedVariables false
set_option linter.unusedSimpArgs false
structure Rep where
  kd : UInt8
  se : UInt64
  sq : UInt64
  ld : UInt8
  r : Res
  deriving DecidableEq
def Rep.cells (p : Rep) (V : Value) : List Value := [(.int .u8 (((p.kd).toNat : Nat) : Int)), (.int .u64 (((p.se).toNat : Nat) : Int)), (.int .u64 (((p.sq).toNat : Nat) : Int)), (.int .u8 (((p.ld).toNat : Nat) : Int)), (.int .u8 (((p.r.cd).toNat : Nat) : Int)), (.int .u64 (((p.r.n).toNat : Nat) : Int)), (.string (bs p.r.va)), V]
def Rep.val (p : Rep) (V : Value) : Value := .agg (p.cells V).toArray
variable {h base : H} {L : List Seg} {R : List Nat}
def MayP (p : Rep) : Prop := (1 ≤ p.kd.toNat ∧ p.kd.toNat ≤ 6) ∧ (p.kd.toNat = 1 → p.se = 0 ∧ p.sq = 0) ∧ (p.kd.toNat ≠ 3 → p.ld = 0) ∧ (p.kd.toNat = 3 → p.ld.toNat ≤ 5) ∧ (p.kd.toNat ≠ 6 → p.r = zeroR)
instance (p : Rep) : Decidable (MayP p) := by unfold MayP; infer_instance
def mayPB (p : Rep) : Bool := decide (MayP p)
theorem mayPB_t {p : Rep} (q : MayP p) : packE [.bool true] = .bool (mayPB p) := by unfold mayPB; rw [decide_eq_true q]; rfl
theorem mayPB_f {p : Rep} (q : ¬ MayP p) : packE [.bool false] = .bool (mayPB p) := by unfold mayPB; rw [decide_eq_false q]; rfl
def lastP (p : Rep) : List UInt8 := if p.kd.toNat = 3 then [p.ld] else if p.kd.toNat = 6 then encR p.r else []
def encP (p : Rep) : List UInt8 := if p.kd.toNat = 1 then [p.kd] else ([p.kd] ++ (vb p.se.toNat ++ vb p.sq.toNat)) ++ lastP p
theorem encP_1 {p : Rep} (h : p.kd.toNat = 1) : encP p = [p.kd] := if_pos h
theorem encP_n {p : Rep} (h : p.kd.toNat ≠ 1) : encP p = ([p.kd] ++ (vb p.se.toNat ++ vb p.sq.toNat)) ++ lastP p := if_neg h
theorem encP_3 {p : Rep} (h : p.kd.toNat = 3) : encP p = ([p.kd] ++ (vb p.se.toNat ++ vb p.sq.toNat)) ++ [p.ld] := by rw [encP_n (by omega)]; unfold lastP; rw [if_pos h]
theorem encP_6 {p : Rep} (h : p.kd.toNat = 6) : encP p = ([p.kd] ++ (vb p.se.toNat ++ vb p.sq.toNat)) ++ encR p.r := by rw [encP_n (by omega)]; unfold lastP; rw [if_neg (by omega), if_pos h]
theorem encP_0 {p : Rep} (h : p.kd.toNat ≠ 1) (h3 : p.kd.toNat ≠ 3) (h6 : p.kd.toNat ≠ 6) : encP p = ([p.kd] ++ (vb p.se.toNat ++ vb p.sq.toNat)) ++ [] := by rw [encP_n h]; unfold lastP; rw [if_neg h3, if_neg h6]
theorem encP_cons (p : Rep) : encP p = p.kd :: (encP p).tail := by
  by_cases h : p.kd.toNat = 1
  · rw [encP_1 h]; rfl
  · rw [encP_n h]; rfl
def GoodP2 (p : Rep) : Prop := MayP p ∧ FitRes p.r
def zeroP : Rep := ⟨0, 0, 0, 0, zeroR⟩
theorem rep_eq {a b : Rep} (h1 : a.kd = b.kd) (h2 : a.se = b.se) (h3 : a.sq = b.sq) (h4 : a.ld = b.ld) (h5 : a.r = b.r) : a = b := by
  obtain ⟨⟩ := a; obtain ⟨⟩ := b
  simp only at *
  rw [h1, h2, h3, h4, h5]
theorem encP_pf : PF GoodP2 encP := by
  rintro a b x y ⟨ma, fa⟩ ⟨mb, fb⟩ h
  obtain ⟨a1, a2, a3, a4, a5⟩ := ma
  obtain ⟨b1, b2, b3, b4, b5⟩ := mb
  have h0 : a.kd = b.kd := by
    rw [encP_cons a, encP_cons b] at h
    exact (List.cons.inj h).1
  have ho : a.kd.toNat = b.kd.toNat := by rw [h0]
  by_cases k1 : a.kd.toNat = 1
  · rw [encP_1 k1, encP_1 (by omega)] at h
    exact ⟨rep_eq h0 (by rw [(a2 k1).1, (b2 (by omega)).1]) (by rw [(a2 k1).2, (b2 (by omega)).2]) (by rw [a3 (by omega), b3 (by omega)]) (by rw [a5 (by omega), b5 (by omega)]), (List.cons.inj h).2⟩
  rw [encP_n k1, encP_n (by omega)] at h
  simp only [List.append_assoc, List.cons_append, List.nil_append, List.cons.injEq] at h
  obtain ⟨_, h⟩ := h
  obtain ⟨e1, h⟩ := n64c h
  obtain ⟨e2, h⟩ := n64c h
  unfold lastP at h
  by_cases k3 : a.kd.toNat = 3
  · rw [if_pos k3, if_pos (show b.kd.toNat = 3 by omega)] at h
    obtain ⟨e3, h⟩ := List.cons.inj h
    exact ⟨rep_eq h0 e1 e2 e3 (by rw [a5 (by omega), b5 (by omega)]), h⟩
  rw [if_neg k3, if_neg (show ¬ b.kd.toNat = 3 by omega)] at h
  by_cases k6 : a.kd.toNat = 6
  · rw [if_pos k6, if_pos (show b.kd.toNat = 6 by omega)] at h
    obtain ⟨e3, h⟩ := encR_pf _ _ _ _ fa fb h
    exact ⟨rep_eq h0 e1 e2 (by rw [a3 k3, b3 (by omega)]) e3, h⟩
  rw [if_neg k6, if_neg (show ¬ b.kd.toNat = 6 by omega)] at h
  exact ⟨rep_eq h0 e1 e2 (by rw [a3 k3, b3 (by omega)]) (by rw [a5 k6, b5 (by omega)]), h⟩
theorem none_ran (W : Mem h h [] []) {r : Res} {V : Value} (A : KRrow.Sl h V r.rs) (hf : FitRes r) : Cll tab0 55 [r.val V] h (fun v h2 => v = .bool (decide (r = zeroR)) ∧ Mem h h2 [] []) := by
  obtain ⟨P, n, rfl⟩ := A.shape
  refine Cll.code rfl rfl ?_
  refine WC.env [(0, _)] rfl ?_
  refine WC.seq ?_
  refine WC.run ?_
  refine WS.box W [_, _, _, _] rfl rfl rfl rfl ?_
  intro p1 h2 M3
  refine WS.op rfl rfl (WS.nil [(1, _)] rfl ?_)
  refine WC.seq ?_
  refine WC.run ?_
  refine WS.op rfl rfl (WS.op rfl (op_ld (M3.at 0 rfl) rfl rfl) ?_)
  refine WS.eqlN (a := (r.cd).toNat) (b := 0) rfl rfl rfl (fun e5 => ?_) (fun e5 => ?_)
  ·
   refine WS.op rfl rfl (WS.op rfl rfl (WS.op rfl (op_ld (M3.at 0 rfl) rfl rfl) ?_))
   refine WS.eqlN (a := (r.n).toNat) (b := 0) rfl rfl rfl (fun e9 => ?_) (fun e9 => ?_)
   ·
    refine WS.op rfl rfl (WS.op rfl rfl (WS.op rfl rfl (WS.op rfl (op_ld (M3.at 0 rfl) rfl rfl) ?_)))
    refine WS.seql (l := r.va) (m := []) rfl rfl rfl (fun e14 => ?_) (fun e14 => ?_)
    ·
     refine WS.op rfl rfl (WS.op rfl rfl (WS.op rfl rfl (WS.op rfl (op_ld (M3.at 0 rfl) rfl rfl) (WS.op rfl (op_lenVS A rfl) ?_))))
     refine WS.eqlN (a := (r.rs).length) (b := 0) rfl rfl rfl (fun e20 => ?_) (fun e20 => ?_)
     ·
      refine WS.op rfl rfl (WS.op rfl rfl (WS.nil [(2, _)] rfl ?_))
      refine WC.ret ?_
      refine ⟨[_], (res_tmp rfl res_nil), ?_⟩
      exact ⟨vbt (by obtain ⟨a, b, c, d⟩ := r; unfold zeroR; simp only at *; rw [u8_0 e5, u64_0 e9, e14, List.eq_nil_of_length_eq_zero e20]), M3.bare.take 0⟩
     ·
      refine WS.op rfl rfl (WS.op rfl rfl (WS.nil [(2, _)] rfl ?_))
      refine WC.ret ?_
      refine ⟨[_], (res_tmp rfl res_nil), ?_⟩
      exact ⟨vbf (fun q => by subst q; first | exact absurd rfl e5 | exact absurd rfl e9 | exact absurd rfl e14 | exact absurd rfl e20), M3.bare.take 0⟩
    ·
     refine WS.op rfl rfl (WS.op rfl rfl (WS.off rfl (WS.off rfl (WS.off rfl (WS.off rfl (WS.op rfl rfl (WS.op rfl rfl (WS.nil [(2, _)] rfl ?_))))))))
     refine WC.ret ?_
     refine ⟨[_], (res_tmp rfl res_nil), ?_⟩
     exact ⟨vbf (fun q => by subst q; first | exact absurd rfl e5 | exact absurd rfl e9 | exact absurd rfl e14 | exact absurd rfl e20), M3.bare.take 0⟩
   ·
    refine WS.op rfl rfl (WS.op rfl rfl (WS.off rfl (WS.off rfl (WS.off rfl (WS.op rfl rfl (WS.op rfl rfl (WS.off rfl (WS.off rfl (WS.off rfl ?_)))))))))
    refine WS.off rfl (WS.op rfl rfl (WS.op rfl rfl (WS.nil [(2, _)] rfl ?_)))
    refine WC.ret ?_
    refine ⟨[_], (res_tmp rfl res_nil), ?_⟩
    exact ⟨vbf (fun q => by subst q; first | exact absurd rfl e5 | exact absurd rfl e9 | exact absurd rfl e14 | exact absurd rfl e20), M3.bare.take 0⟩
  ·
   refine WS.op rfl rfl (WS.off rfl (WS.off rfl (WS.off rfl (WS.op rfl rfl (WS.op rfl rfl (WS.off rfl (WS.off rfl (WS.off rfl (WS.op rfl rfl ?_)))))))))
   refine WS.op rfl rfl (WS.off rfl (WS.off rfl (WS.off rfl (WS.off rfl (WS.op rfl rfl (WS.op rfl rfl (WS.nil [(2, _)] rfl ?_)))))))
   refine WC.ret ?_
   refine ⟨[_], (res_tmp rfl res_nil), ?_⟩
   exact ⟨vbf (fun q => by subst q; first | exact absurd rfl e5 | exact absurd rfl e9 | exact absurd rfl e14 | exact absurd rfl e20), M3.bare.take 0⟩
set_option maxRecDepth 8000 in
theorem mayP_ran (W : Mem h h [] []) {p : Rep} {V : Value} (A : KRrow.Sl h V p.r.rs) (hf : FitRes p.r) : Cll tab0 28 [p.val V] h (fun v h2 => v = .bool (mayPB p) ∧ Mem h h2 [] []) := by
  obtain ⟨P, n, rfl⟩ := A.shape
  refine Cll.code rfl rfl ?_
  refine WC.env [(0, _)] rfl ?_
  refine WC.seq ?_
  refine WC.run ?_
  refine WS.box W [_, _, _, _, _, _, _, _] rfl rfl rfl rfl ?_
  intro p1 h2 M3
  refine WS.op rfl rfl (WS.nil [(1, _)] rfl ?_)
  refine WC.seq ?_
  refine WC.draw M3 [] rfl ?_
  intro rb4 h5 M6
  refine WS.op rfl rfl (WS.op rfl (op_ld (M6.at 0 rfl) rfl rfl) ?_)
  refine WS.eqlN (a := (p.ld).toNat) (b := 0) rfl rfl rfl (fun e7 => ?_) (fun e7 => ?_)
  ·
   refine WS.op rfl rfl (WS.op rfl (op_lds [_, _, _, _] (M6.at 0 rfl) rfl (Nat.le_of_ble_eq_true rfl) rfl) ?_)
   refine WS.call rfl rfl rfl (none_ran M6.here (r := p.r) (A.mono M6.sub) (by assumption)) ?_
   rintro _ h7 ⟨rfl, N8⟩
   have M9 := M6.trans N8
   refine WS.chk rfl (op_ld (M9.at 0 rfl) rfl rfl) rfl (sameV_refl rfl) (WS.op rfl rfl (WS.op rfl rfl (WS.nil [(1, _), (3, _), (4, _)] rfl ?_)))
   refine WC.seq ?_
   refine WC.seq ?_
   refine WC.run ?_
   refine WS.op rfl rfl (WS.op rfl (op_ld (M9.bare.at 0 rfl) rfl rfl) (WS.nil [(1, _), (3, _), (4, _), (12, _)] rfl ?_))
   refine WC.block ?_
   refine WC.seq ?_
   refine WC.run ?_
   refine WS.eqlN (a := (p.kd).toNat) (b := 1) rfl rfl rfl (fun e14 => ?_) (fun e14 => ?_)
   ·
    refine WS.op rfl rfl (WS.nil [(1, _), (3, _), (4, _), (12, _), (13, _)] rfl ?_)
    refine WC.condT rfl ?_
    refine WC.seq ?_
    refine WC.run ?_
    refine WS.op rfl rfl (WS.op rfl rfl (WS.op rfl rfl (WS.op rfl rfl (WS.op rfl rfl ?_))))
    cases hb1 : (decide (p.r = zeroR))
    ·
     refine WS.off rfl (WS.off rfl (WS.off rfl (WS.op rfl rfl (WS.op rfl rfl (WS.off rfl (WS.off rfl (WS.off rfl (WS.op rfl rfl (WS.op rfl rfl ?_)))))))))
     refine WS.nil [(2, _)] rfl ?_
     refine WC.ret ?_
     refine ⟨[_], (res_tmp rfl res_nil), ?_⟩
     exact ⟨mayPB_f (by rintro ⟨q1, q2, q3, q4, q5⟩; first | omega | (have := q4 (by omega); omega) | exact absurd (q5 (by omega)) (of_decide_eq_false (by assumption)) | (have := q3 (by omega); rw [this] at e7; exact absurd rfl e7) | (have := (q2 (by omega)).1; rw [this] at e22; exact absurd rfl e22) | (have := (q2 (by omega)).2; rw [this] at e27; exact absurd rfl e27)), M9.bare.bare.take 0⟩
    ·
     refine WS.op rfl rfl (WS.op rfl (op_ld (M9.bare.at 0 rfl) rfl rfl) ?_)
     refine WS.eqlN (a := (p.se).toNat) (b := 0) rfl rfl rfl (fun e22 => ?_) (fun e22 => ?_)
     ·
      refine WS.op rfl rfl (WS.op rfl rfl (WS.op rfl rfl (WS.op rfl (op_ld (M9.bare.at 0 rfl) rfl rfl) ?_)))
      refine WS.eqlN (a := (p.sq).toNat) (b := 0) rfl rfl rfl (fun e27 => ?_) (fun e27 => ?_)
      ·
       refine WS.op rfl rfl (WS.op rfl rfl (WS.nil [(2, _)] rfl ?_))
       refine WC.ret ?_
       refine ⟨[_], (res_tmp rfl res_nil), ?_⟩
       refine ⟨mayPB_t ⟨by omega, fun q => ?_, fun q => ?_, fun q => ?_, fun q => ?_⟩, M9.bare.bare.take 0⟩
       · first | (exfalso; omega) | exact ⟨u64_0 e22, u64_0 e27⟩
       · first | (exfalso; omega) | exact u8_0 (by omega)
       · omega
       · first | (exfalso; omega) | exact of_decide_eq_true (by assumption)
      ·
       refine WS.op rfl rfl (WS.op rfl rfl (WS.nil [(2, _)] rfl ?_))
       refine WC.ret ?_
       refine ⟨[_], (res_tmp rfl res_nil), ?_⟩
       exact ⟨mayPB_f (by rintro ⟨q1, q2, q3, q4, q5⟩; first | omega | (have := q4 (by omega); omega) | exact absurd (q5 (by omega)) (of_decide_eq_false (by assumption)) | (have := q3 (by omega); rw [this] at e7; exact absurd rfl e7) | (have := (q2 (by omega)).1; rw [this] at e22; exact absurd rfl e22) | (have := (q2 (by omega)).2; rw [this] at e27; exact absurd rfl e27)), M9.bare.bare.take 0⟩
     ·
      refine WS.op rfl rfl (WS.op rfl rfl (WS.off rfl (WS.off rfl (WS.off rfl (WS.op rfl rfl (WS.op rfl rfl (WS.nil [(2, _)] rfl ?_)))))))
      refine WC.ret ?_
      refine ⟨[_], (res_tmp rfl res_nil), ?_⟩
      exact ⟨mayPB_f (by rintro ⟨q1, q2, q3, q4, q5⟩; first | omega | (have := q4 (by omega); omega) | exact absurd (q5 (by omega)) (of_decide_eq_false (by assumption)) | (have := q3 (by omega); rw [this] at e7; exact absurd rfl e7) | (have := (q2 (by omega)).1; rw [this] at e22; exact absurd rfl e22) | (have := (q2 (by omega)).2; rw [this] at e27; exact absurd rfl e27)), M9.bare.bare.take 0⟩
   ·
    refine WS.op rfl rfl (WS.nil [(1, _), (3, _), (4, _), (12, _), (13, _)] rfl ?_)
    refine WC.condF rfl ?_
    refine WC.seq ?_
    refine WC.seq ?_
    refine WC.run ?_
    refine WS.eqlN (a := (p.kd).toNat) (b := 2) rfl rfl rfl (fun e30 => ?_) (fun e30 => ?_)
    ·
     refine WS.op rfl rfl (WS.nil [(1, _), (3, _), (4, _), (12, _), (29, _)] rfl ?_)
     refine WC.condT rfl ?_
     refine WC.skip ?_
     refine WC.condT rfl ?_
     refine WC.seq ?_
     refine WC.run ?_
     refine WS.op rfl rfl (WS.op rfl rfl (WS.op rfl rfl (WS.op rfl rfl (WS.op rfl rfl (WS.nil [(2, _)] rfl ?_)))))
     refine WC.ret ?_
     cases hb1 : (decide (p.r = zeroR))
     ·
      refine ⟨[_], (res_tmp rfl res_nil), ?_⟩
      exact ⟨mayPB_f (by rintro ⟨q1, q2, q3, q4, q5⟩; first | omega | (have := q4 (by omega); omega) | exact absurd (q5 (by omega)) (of_decide_eq_false (by assumption)) | (have := q3 (by omega); rw [this] at e7; exact absurd rfl e7) | (have := (q2 (by omega)).1; rw [this] at e22; exact absurd rfl e22) | (have := (q2 (by omega)).2; rw [this] at e27; exact absurd rfl e27)), M9.bare.bare.take 0⟩
     ·
      refine ⟨[_], (res_tmp rfl res_nil), ?_⟩
      refine ⟨mayPB_t ⟨by omega, fun q => ?_, fun q => ?_, fun q => ?_, fun q => ?_⟩, M9.bare.bare.take 0⟩
      · first | (exfalso; omega) | exact ⟨u64_0 e22, u64_0 e27⟩
      · first | (exfalso; omega) | exact u8_0 (by omega)
      · omega
      · first | (exfalso; omega) | exact of_decide_eq_true (by assumption)
    ·
     refine WS.op rfl rfl (WS.nil [(1, _), (3, _), (4, _), (12, _), (29, _)] rfl ?_)
     refine WC.condF rfl ?_
     refine WC.seq ?_
     refine WC.run ?_
     refine WS.eqlN (a := (p.kd).toNat) (b := 4) rfl rfl rfl (fun e31 => ?_) (fun e31 => ?_)
     ·
      refine WS.op rfl rfl (WS.nil [(1, _), (3, _), (4, _), (12, _), (29, _)] rfl ?_)
      refine WC.condT rfl ?_
      refine WC.skip ?_
      refine WC.condT rfl ?_
      refine WC.seq ?_
      refine WC.run ?_
      refine WS.op rfl rfl (WS.op rfl rfl (WS.op rfl rfl (WS.op rfl rfl (WS.op rfl rfl (WS.nil [(2, _)] rfl ?_)))))
      refine WC.ret ?_
      cases hb1 : (decide (p.r = zeroR))
      ·
       refine ⟨[_], (res_tmp rfl res_nil), ?_⟩
       exact ⟨mayPB_f (by rintro ⟨q1, q2, q3, q4, q5⟩; first | omega | (have := q4 (by omega); omega) | exact absurd (q5 (by omega)) (of_decide_eq_false (by assumption)) | (have := q3 (by omega); rw [this] at e7; exact absurd rfl e7) | (have := (q2 (by omega)).1; rw [this] at e22; exact absurd rfl e22) | (have := (q2 (by omega)).2; rw [this] at e27; exact absurd rfl e27)), M9.bare.bare.take 0⟩
      ·
       refine ⟨[_], (res_tmp rfl res_nil), ?_⟩
       refine ⟨mayPB_t ⟨by omega, fun q => ?_, fun q => ?_, fun q => ?_, fun q => ?_⟩, M9.bare.bare.take 0⟩
       · first | (exfalso; omega) | exact ⟨u64_0 e22, u64_0 e27⟩
       · first | (exfalso; omega) | exact u8_0 (by omega)
       · omega
       · first | (exfalso; omega) | exact of_decide_eq_true (by assumption)
     ·
      refine WS.op rfl rfl (WS.nil [(1, _), (3, _), (4, _), (12, _), (29, _)] rfl ?_)
      refine WC.condF rfl ?_
      refine WC.run ?_
      refine WS.eqlN (a := (p.kd).toNat) (b := 5) rfl rfl rfl (fun e32 => ?_) (fun e32 => ?_)
      ·
       refine WS.op rfl rfl (WS.nil [(1, _), (3, _), (4, _), (12, _), (29, _)] rfl ?_)
       refine WC.condT rfl ?_
       refine WC.seq ?_
       refine WC.run ?_
       refine WS.op rfl rfl (WS.op rfl rfl (WS.op rfl rfl (WS.op rfl rfl (WS.op rfl rfl (WS.nil [(2, _)] rfl ?_)))))
       refine WC.ret ?_
       cases hb1 : (decide (p.r = zeroR))
       ·
        refine ⟨[_], (res_tmp rfl res_nil), ?_⟩
        exact ⟨mayPB_f (by rintro ⟨q1, q2, q3, q4, q5⟩; first | omega | (have := q4 (by omega); omega) | exact absurd (q5 (by omega)) (of_decide_eq_false (by assumption)) | (have := q3 (by omega); rw [this] at e7; exact absurd rfl e7) | (have := (q2 (by omega)).1; rw [this] at e22; exact absurd rfl e22) | (have := (q2 (by omega)).2; rw [this] at e27; exact absurd rfl e27)), M9.bare.bare.take 0⟩
       ·
        refine ⟨[_], (res_tmp rfl res_nil), ?_⟩
        refine ⟨mayPB_t ⟨by omega, fun q => ?_, fun q => ?_, fun q => ?_, fun q => ?_⟩, M9.bare.bare.take 0⟩
        · first | (exfalso; omega) | exact ⟨u64_0 e22, u64_0 e27⟩
        · first | (exfalso; omega) | exact u8_0 (by omega)
        · omega
        · first | (exfalso; omega) | exact of_decide_eq_true (by assumption)
      ·
       refine WS.op rfl rfl (WS.nil [(1, _), (3, _), (4, _), (12, _), (29, _)] rfl ?_)
       refine WC.condF rfl ?_
       refine WC.seq ?_
       refine WC.run ?_
       refine WS.eqlN (a := (p.kd).toNat) (b := 3) rfl rfl rfl (fun e38 => ?_) (fun e38 => ?_)
       ·
        refine WS.op rfl rfl (WS.nil [(1, _), (3, _), (4, _), (37, _)] rfl ?_)
        refine WC.condT rfl ?_
        refine WC.seq ?_
        refine WC.run ?_
        refine WS.op rfl rfl (WS.op rfl (op_ld (M9.bare.at 0 rfl) rfl rfl) ?_)
        refine WS.leqN (a := (p.ld).toNat) (b := 5) rfl rfl rfl (fun e41 => ?_) (fun e41 => ?_)
        ·
         refine WS.op rfl rfl (WS.op rfl rfl (WS.op rfl rfl (WS.op rfl rfl (WS.nil [(2, _)] rfl ?_))))
         refine WC.ret ?_
         cases hb1 : (decide (p.r = zeroR))
         ·
          refine ⟨[_], (res_tmp rfl res_nil), ?_⟩
          exact ⟨mayPB_f (by rintro ⟨q1, q2, q3, q4, q5⟩; first | omega | (have := q4 (by omega); omega) | exact absurd (q5 (by omega)) (of_decide_eq_false (by assumption)) | (have := q3 (by omega); rw [this] at e7; exact absurd rfl e7) | (have := (q2 (by omega)).1; rw [this] at e22; exact absurd rfl e22) | (have := (q2 (by omega)).2; rw [this] at e27; exact absurd rfl e27)), M9.bare.bare.take 0⟩
         ·
          refine ⟨[_], (res_tmp rfl res_nil), ?_⟩
          refine ⟨mayPB_t ⟨by omega, fun q => ?_, fun q => ?_, fun q => ?_, fun q => ?_⟩, M9.bare.bare.take 0⟩
          · first | (exfalso; omega) | exact ⟨u64_0 e22, u64_0 e27⟩
          · first | (exfalso; omega) | exact u8_0 (by omega)
          · omega
          · first | (exfalso; omega) | exact of_decide_eq_true (by assumption)
        ·
         refine WS.op rfl rfl (WS.off rfl (WS.op rfl rfl (WS.op rfl rfl (WS.nil [(2, _)] rfl ?_))))
         refine WC.ret ?_
         refine ⟨[_], (res_tmp rfl res_nil), ?_⟩
         exact ⟨mayPB_f (by rintro ⟨q1, q2, q3, q4, q5⟩; first | omega | (have := q4 (by omega); omega) | exact absurd (q5 (by omega)) (of_decide_eq_false (by assumption)) | (have := q3 (by omega); rw [this] at e7; exact absurd rfl e7) | (have := (q2 (by omega)).1; rw [this] at e22; exact absurd rfl e22) | (have := (q2 (by omega)).2; rw [this] at e27; exact absurd rfl e27)), M9.bare.bare.take 0⟩
       ·
        refine WS.op rfl rfl (WS.nil [(1, _), (3, _), (4, _), (37, _)] rfl ?_)
        refine WC.condF rfl ?_
        refine WC.skip ?_
        refine WC.seq ?_
        refine WC.run ?_
        refine WS.op rfl rfl (WS.op rfl (op_ld (M9.bare.at 0 rfl) rfl rfl) ?_)
        refine WS.eqlN (a := (p.kd).toNat) (b := 6) rfl rfl rfl (fun e47 => ?_) (fun e47 => ?_)
        ·
         refine WS.op rfl rfl (WS.op rfl rfl (WS.op rfl rfl (WS.op rfl rfl (WS.nil [(2, _)] rfl ?_))))
         refine WC.ret ?_
         refine ⟨[_], (res_tmp rfl res_nil), ?_⟩
         refine ⟨mayPB_t ⟨by omega, fun q => ?_, fun q => ?_, fun q => ?_, fun q => ?_⟩, M9.bare.bare.take 0⟩
         · first | (exfalso; omega) | exact ⟨u64_0 e22, u64_0 e27⟩
         · first | (exfalso; omega) | exact u8_0 (by omega)
         · omega
         · first | (exfalso; omega) | exact of_decide_eq_true (by assumption)
        ·
         refine WS.op rfl rfl (WS.off rfl (WS.op rfl rfl (WS.op rfl rfl (WS.nil [(2, _)] rfl ?_))))
         refine WC.ret ?_
         refine ⟨[_], (res_tmp rfl res_nil), ?_⟩
         exact ⟨mayPB_f (by rintro ⟨q1, q2, q3, q4, q5⟩; first | omega | (have := q4 (by omega); omega) | exact absurd (q5 (by omega)) (of_decide_eq_false (by assumption)) | (have := q3 (by omega); rw [this] at e7; exact absurd rfl e7) | (have := (q2 (by omega)).1; rw [this] at e22; exact absurd rfl e22) | (have := (q2 (by omega)).2; rw [this] at e27; exact absurd rfl e27)), M9.bare.bare.take 0⟩
  ·
   refine WS.op rfl rfl (WS.op rfl (op_lds [_, _, _, _] (M6.at 0 rfl) rfl (Nat.le_of_ble_eq_true rfl) rfl) ?_)
   refine WS.call rfl rfl rfl (none_ran M6.here (r := p.r) (A.mono M6.sub) (by assumption)) ?_
   rintro _ h10 ⟨rfl, N11⟩
   have M12 := M6.trans N11
   refine WS.chk rfl (op_ld (M12.at 0 rfl) rfl rfl) rfl (sameV_refl rfl) (WS.op rfl rfl (WS.op rfl rfl (WS.nil [(1, _), (3, _), (4, _)] rfl ?_)))
   refine WC.seq ?_
   refine WC.seq ?_
   refine WC.run ?_
   refine WS.op rfl rfl (WS.op rfl (op_ld (M12.bare.at 0 rfl) rfl rfl) (WS.nil [(1, _), (3, _), (4, _), (12, _)] rfl ?_))
   refine WC.block ?_
   refine WC.seq ?_
   refine WC.run ?_
   refine WS.eqlN (a := (p.kd).toNat) (b := 1) rfl rfl rfl (fun e14 => ?_) (fun e14 => ?_)
   ·
    refine WS.op rfl rfl (WS.nil [(1, _), (3, _), (4, _), (12, _), (13, _)] rfl ?_)
    refine WC.condT rfl ?_
    refine WC.seq ?_
    refine WC.run ?_
    refine WS.op rfl rfl (WS.op rfl rfl (WS.off rfl (WS.op rfl rfl (WS.op rfl rfl (WS.off rfl (WS.off rfl (WS.off rfl (WS.op rfl rfl (WS.op rfl rfl ?_)))))))))
    refine WS.off rfl (WS.off rfl (WS.off rfl (WS.op rfl rfl (WS.op rfl rfl (WS.nil [(2, _)] rfl ?_)))))
    refine WC.ret ?_
    refine ⟨[_], (res_tmp rfl res_nil), ?_⟩
    exact ⟨mayPB_f (by rintro ⟨q1, q2, q3, q4, q5⟩; first | omega | (have := q4 (by omega); omega) | exact absurd (q5 (by omega)) (of_decide_eq_false (by assumption)) | (have := q3 (by omega); rw [this] at e7; exact absurd rfl e7) | (have := (q2 (by omega)).1; rw [this] at e22; exact absurd rfl e22) | (have := (q2 (by omega)).2; rw [this] at e27; exact absurd rfl e27)), M12.bare.bare.take 0⟩
   ·
    refine WS.op rfl rfl (WS.nil [(1, _), (3, _), (4, _), (12, _), (13, _)] rfl ?_)
    refine WC.condF rfl ?_
    refine WC.seq ?_
    refine WC.seq ?_
    refine WC.run ?_
    refine WS.eqlN (a := (p.kd).toNat) (b := 2) rfl rfl rfl (fun e30 => ?_) (fun e30 => ?_)
    ·
     refine WS.op rfl rfl (WS.nil [(1, _), (3, _), (4, _), (12, _), (29, _)] rfl ?_)
     refine WC.condT rfl ?_
     refine WC.skip ?_
     refine WC.condT rfl ?_
     refine WC.seq ?_
     refine WC.run ?_
     refine WS.op rfl rfl (WS.op rfl rfl (WS.off rfl (WS.op rfl rfl (WS.op rfl rfl (WS.nil [(2, _)] rfl ?_)))))
     refine WC.ret ?_
     refine ⟨[_], (res_tmp rfl res_nil), ?_⟩
     exact ⟨mayPB_f (by rintro ⟨q1, q2, q3, q4, q5⟩; first | omega | (have := q4 (by omega); omega) | exact absurd (q5 (by omega)) (of_decide_eq_false (by assumption)) | (have := q3 (by omega); rw [this] at e7; exact absurd rfl e7) | (have := (q2 (by omega)).1; rw [this] at e22; exact absurd rfl e22) | (have := (q2 (by omega)).2; rw [this] at e27; exact absurd rfl e27)), M12.bare.bare.take 0⟩
    ·
     refine WS.op rfl rfl (WS.nil [(1, _), (3, _), (4, _), (12, _), (29, _)] rfl ?_)
     refine WC.condF rfl ?_
     refine WC.seq ?_
     refine WC.run ?_
     refine WS.eqlN (a := (p.kd).toNat) (b := 4) rfl rfl rfl (fun e31 => ?_) (fun e31 => ?_)
     ·
      refine WS.op rfl rfl (WS.nil [(1, _), (3, _), (4, _), (12, _), (29, _)] rfl ?_)
      refine WC.condT rfl ?_
      refine WC.skip ?_
      refine WC.condT rfl ?_
      refine WC.seq ?_
      refine WC.run ?_
      refine WS.op rfl rfl (WS.op rfl rfl (WS.off rfl (WS.op rfl rfl (WS.op rfl rfl (WS.nil [(2, _)] rfl ?_)))))
      refine WC.ret ?_
      refine ⟨[_], (res_tmp rfl res_nil), ?_⟩
      exact ⟨mayPB_f (by rintro ⟨q1, q2, q3, q4, q5⟩; first | omega | (have := q4 (by omega); omega) | exact absurd (q5 (by omega)) (of_decide_eq_false (by assumption)) | (have := q3 (by omega); rw [this] at e7; exact absurd rfl e7) | (have := (q2 (by omega)).1; rw [this] at e22; exact absurd rfl e22) | (have := (q2 (by omega)).2; rw [this] at e27; exact absurd rfl e27)), M12.bare.bare.take 0⟩
     ·
      refine WS.op rfl rfl (WS.nil [(1, _), (3, _), (4, _), (12, _), (29, _)] rfl ?_)
      refine WC.condF rfl ?_
      refine WC.run ?_
      refine WS.eqlN (a := (p.kd).toNat) (b := 5) rfl rfl rfl (fun e32 => ?_) (fun e32 => ?_)
      ·
       refine WS.op rfl rfl (WS.nil [(1, _), (3, _), (4, _), (12, _), (29, _)] rfl ?_)
       refine WC.condT rfl ?_
       refine WC.seq ?_
       refine WC.run ?_
       refine WS.op rfl rfl (WS.op rfl rfl (WS.off rfl (WS.op rfl rfl (WS.op rfl rfl (WS.nil [(2, _)] rfl ?_)))))
       refine WC.ret ?_
       refine ⟨[_], (res_tmp rfl res_nil), ?_⟩
       exact ⟨mayPB_f (by rintro ⟨q1, q2, q3, q4, q5⟩; first | omega | (have := q4 (by omega); omega) | exact absurd (q5 (by omega)) (of_decide_eq_false (by assumption)) | (have := q3 (by omega); rw [this] at e7; exact absurd rfl e7) | (have := (q2 (by omega)).1; rw [this] at e22; exact absurd rfl e22) | (have := (q2 (by omega)).2; rw [this] at e27; exact absurd rfl e27)), M12.bare.bare.take 0⟩
      ·
       refine WS.op rfl rfl (WS.nil [(1, _), (3, _), (4, _), (12, _), (29, _)] rfl ?_)
       refine WC.condF rfl ?_
       refine WC.seq ?_
       refine WC.run ?_
       refine WS.eqlN (a := (p.kd).toNat) (b := 3) rfl rfl rfl (fun e38 => ?_) (fun e38 => ?_)
       ·
        refine WS.op rfl rfl (WS.nil [(1, _), (3, _), (4, _), (37, _)] rfl ?_)
        refine WC.condT rfl ?_
        refine WC.seq ?_
        refine WC.run ?_
        refine WS.op rfl rfl (WS.op rfl (op_ld (M12.bare.at 0 rfl) rfl rfl) ?_)
        refine WS.leqN (a := (p.ld).toNat) (b := 5) rfl rfl rfl (fun e41 => ?_) (fun e41 => ?_)
        ·
         refine WS.op rfl rfl (WS.op rfl rfl (WS.op rfl rfl (WS.op rfl rfl (WS.nil [(2, _)] rfl ?_))))
         refine WC.ret ?_
         cases hb1 : (decide (p.r = zeroR))
         ·
          refine ⟨[_], (res_tmp rfl res_nil), ?_⟩
          exact ⟨mayPB_f (by rintro ⟨q1, q2, q3, q4, q5⟩; first | omega | (have := q4 (by omega); omega) | exact absurd (q5 (by omega)) (of_decide_eq_false (by assumption)) | (have := q3 (by omega); rw [this] at e7; exact absurd rfl e7) | (have := (q2 (by omega)).1; rw [this] at e22; exact absurd rfl e22) | (have := (q2 (by omega)).2; rw [this] at e27; exact absurd rfl e27)), M12.bare.bare.take 0⟩
         ·
          refine ⟨[_], (res_tmp rfl res_nil), ?_⟩
          refine ⟨mayPB_t ⟨by omega, fun q => ?_, fun q => ?_, fun q => ?_, fun q => ?_⟩, M12.bare.bare.take 0⟩
          · first | (exfalso; omega) | exact ⟨u64_0 e22, u64_0 e27⟩
          · first | (exfalso; omega) | exact u8_0 (by omega)
          · omega
          · first | (exfalso; omega) | exact of_decide_eq_true (by assumption)
        ·
         refine WS.op rfl rfl (WS.off rfl (WS.op rfl rfl (WS.op rfl rfl (WS.nil [(2, _)] rfl ?_))))
         refine WC.ret ?_
         refine ⟨[_], (res_tmp rfl res_nil), ?_⟩
         exact ⟨mayPB_f (by rintro ⟨q1, q2, q3, q4, q5⟩; first | omega | (have := q4 (by omega); omega) | exact absurd (q5 (by omega)) (of_decide_eq_false (by assumption)) | (have := q3 (by omega); rw [this] at e7; exact absurd rfl e7) | (have := (q2 (by omega)).1; rw [this] at e22; exact absurd rfl e22) | (have := (q2 (by omega)).2; rw [this] at e27; exact absurd rfl e27)), M12.bare.bare.take 0⟩
       ·
        refine WS.op rfl rfl (WS.nil [(1, _), (3, _), (4, _), (37, _)] rfl ?_)
        refine WC.condF rfl ?_
        refine WC.skip ?_
        refine WC.seq ?_
        refine WC.run ?_
        refine WS.op rfl rfl (WS.op rfl (op_ld (M12.bare.at 0 rfl) rfl rfl) ?_)
        refine WS.eqlN (a := (p.kd).toNat) (b := 6) rfl rfl rfl (fun e47 => ?_) (fun e47 => ?_)
        ·
         refine WS.op rfl rfl (WS.op rfl rfl (WS.op rfl rfl (WS.op rfl rfl (WS.nil [(2, _)] rfl ?_))))
         refine WC.ret ?_
         refine ⟨[_], (res_tmp rfl res_nil), ?_⟩
         exact ⟨mayPB_f (by rintro ⟨q1, q2, q3, q4, q5⟩; first | omega | (have := q4 (by omega); omega) | exact absurd (q5 (by omega)) (of_decide_eq_false (by assumption)) | (have := q3 (by omega); rw [this] at e7; exact absurd rfl e7) | (have := (q2 (by omega)).1; rw [this] at e22; exact absurd rfl e22) | (have := (q2 (by omega)).2; rw [this] at e27; exact absurd rfl e27)), M12.bare.bare.take 0⟩
        ·
         refine WS.op rfl rfl (WS.off rfl (WS.op rfl rfl (WS.op rfl rfl (WS.nil [(2, _)] rfl ?_))))
         refine WC.ret ?_
         refine ⟨[_], (res_tmp rfl res_nil), ?_⟩
         exact ⟨mayPB_f (by rintro ⟨q1, q2, q3, q4, q5⟩; first | omega | (have := q4 (by omega); omega) | exact absurd (q5 (by omega)) (of_decide_eq_false (by assumption)) | (have := q3 (by omega); rw [this] at e7; exact absurd rfl e7) | (have := (q2 (by omega)).1; rw [this] at e22; exact absurd rfl e22) | (have := (q2 (by omega)).2; rw [this] at e27; exact absurd rfl e27)), M12.bare.bare.take 0⟩
set_option maxRecDepth 8000 in
theorem WriteP_ran (W : Mem h h [] []) {p : Rep} {V : Value} (A : KRrow.Sl h V p.r.rs) (hf : FitRes p.r) : Cll tab0 11 [p.val V] h (fun v h2 => v = .string (bs (if mayPB p then encP p else [])) ∧ Mem h h2 [] []) := by
  obtain ⟨P, n, rfl⟩ := A.shape
  have v1 := vb_len p.se.toNat_lt
  have v2 := vb_len p.sq.toNat_lt
  have u1 := p.se.toNat_lt
  have u2 := p.sq.toNat_lt
  have hr := encR_lenF hf
  refine Cll.code rfl rfl ?_
  refine WC.env [(0, _)] rfl ?_
  refine WC.seq ?_
  refine WC.run ?_
  refine WS.box W [_, _, _, _, _, _, _, _] rfl rfl rfl rfl ?_
  intro p1 h2 M3
  refine WS.op rfl rfl (WS.nil [(1, _)] rfl ?_)
  refine WC.seq ?_
  refine WC.seq ?_
  refine WC.run ?_
  refine WS.op rfl (op_lds [_, _, _, _, _, _, _, _] (M3.at 0 rfl) rfl (Nat.le_of_ble_eq_true rfl) rfl) ?_
  refine WS.call rfl rfl rfl (mayP_ran M3.here (p := p) (A.mono M3.sub) (by exact hf)) ?_
  rintro _ h4 ⟨rfl, N5⟩
  have M6 := M3.trans N5
  cases hb1 : (mayPB p)
  ·
   refine WS.opV (.bool true) rfl rfl rfl (WS.nil [(1, _), (6, _)] rfl ?_)
   refine WC.condT rfl ?_
   refine WC.seq ?_
   refine WC.run ?_
   refine WS.op rfl rfl (WS.nil [(2, _)] rfl ?_)
   refine WC.ret ?_
   refine ⟨[_], (res_tmp rfl res_nil), ?_⟩
   exact ⟨rfl, M6.bare.take 0⟩
  ·
   refine WS.opV (.bool false) rfl rfl rfl (WS.nil [(1, _), (6, _)] rfl ?_)
   refine WC.condF rfl ?_
   refine WC.skip ?_
   refine WC.seq ?_
   refine WC.run ?_
   refine WS.op rfl rfl (WS.op rfl (op_ld (M6.at 0 rfl) rfl rfl) ?_)
   refine WS.bsl M6 [_] rfl rfl rfl rfl ?_
   intro p7 h8 M9
   refine WS.op rfl (op_cvB (l := [p.kd]) (M9.at 0 rfl) rfl rfl (Nat.le_of_ble_eq_true rfl) rfl) (WS.op rfl rfl (WS.nil [(1, _), (3, _)] rfl ?_))
   refine WC.seq ?_
   refine WC.seq ?_
   refine WC.run ?_
   refine WS.op rfl rfl (WS.op rfl (op_ld (M9.at 1 rfl) rfl rfl) ?_)
   refine WS.eqlN (a := (p.kd).toNat) (b := 1) rfl rfl rfl (fun e13 => ?_) (fun e13 => ?_)
   ·
    refine WS.nil [(1, _), (3, _), (13, _)] rfl ?_
    refine WC.condT rfl ?_
    refine WC.seq ?_
    refine WC.run ?_
    refine WS.op rfl rfl (WS.op rfl rfl (WS.nil [(2, _)] rfl ?_))
    refine WC.ret ?_
    refine ⟨[_], (res_tmp rfl res_nil), ?_⟩
    have q3 : encP p = [p.kd] := by first | (exfalso; omega) | (rw [encP_1 (by omega)]; done) | (rw [encP_3 (by omega)]; done) | (rw [encP_6 (by omega)]; done) | (rw [encP_0 (by omega) (by omega) (by omega), List.append_nil]; done)
    exact ⟨by rw [if_pos rfl, q3]; rfl, M9.bare.take 0⟩
   ·
    refine WS.nil [(1, _), (3, _), (13, _)] rfl ?_
    refine WC.condF rfl ?_
    refine WC.skip ?_
    refine WC.seq ?_
    refine WC.run ?_
    refine WS.op rfl rfl (WS.op rfl rfl (WS.op rfl (op_ld (M9.at 1 rfl) rfl rfl) (WS.op rfl rfl (WS.op rfl (op_ld (M9.at 1 rfl) rfl rfl) ?_))))
    refine WS.bsl M9 [_, _] rfl rfl rfl rfl ?_
    intro p10 h11 M12
    refine WS.call rfl rfl rfl (num_V_ran M12.here (Row.Sl.own (K := KNat) (l := [(p.se).toNat, (p.sq).toNat]) (M12.at 0 rfl)) (by intro n hn; simp only [List.mem_cons, List.mem_nil_iff, or_false] at hn; omega) (by simp) (r := ((vb ((p.se).toNat)) ++ (vb ((p.sq).toNat)))) (by simp [List.flatMap])) ?_
    rintro _ h13 ⟨rfl, N14⟩
    have M15 := M12.trans N14
    refine WS.op rfl (op_sadd (l := [p.kd]) (m := ((vb ((p.se).toNat)) ++ (vb ((p.sq).toNat)))) rfl rfl (by first | omega | (simp only [List.length_append, List.length_cons, List.length_nil]; omega))) (WS.op rfl rfl (WS.nil [(1, _), (3, _)] rfl ?_))
    refine WC.seq ?_
    refine WC.seq ?_
    refine WC.run ?_
    refine WS.op rfl rfl (WS.op rfl (op_ld (M15.at 2 rfl) rfl rfl) (WS.nil [(1, _), (3, _), (24, _)] rfl ?_))
    refine WC.block ?_
    refine WC.seq ?_
    refine WC.run ?_
    refine WS.eqlN (a := (p.kd).toNat) (b := 3) rfl rfl rfl (fun e26 => ?_) (fun e26 => ?_)
    ·
     refine WS.op rfl rfl (WS.nil [(1, _), (3, _), (24, _), (25, _)] rfl ?_)
     refine WC.condT rfl ?_
     refine WC.run ?_
     refine WS.op rfl rfl (WS.op rfl rfl (WS.op rfl (op_ld (M15.at 2 rfl) rfl rfl) ?_))
     refine WS.bsl M15 [_] rfl rfl rfl rfl ?_
     intro p16 h17 M18
     refine WS.op rfl (op_cvB (l := [p.ld]) (M18.at 0 rfl) rfl rfl (Nat.le_of_ble_eq_true rfl) rfl) (WS.op rfl (op_sadd (l := ([p.kd] ++ ((vb ((p.se).toNat)) ++ (vb ((p.sq).toNat))))) (m := [p.ld]) rfl rfl (by first | omega | (simp only [List.length_append, List.length_cons, List.length_nil]; omega))) (WS.op rfl rfl (WS.nil [(3, _)] rfl ?_)))
     refine WC.seq ?_
     refine WC.run ?_
     refine WS.op rfl rfl (WS.op rfl rfl (WS.nil [(2, _)] rfl ?_))
     refine WC.ret ?_
     refine ⟨[_], (res_tmp rfl res_nil), ?_⟩
     have q3 : encP p = (([p.kd] ++ ((vb ((p.se).toNat)) ++ (vb ((p.sq).toNat)))) ++ [p.ld]) := by first | (exfalso; omega) | (rw [encP_1 (by omega)]; done) | (rw [encP_3 (by omega)]; done) | (rw [encP_6 (by omega)]; done) | (rw [encP_0 (by omega) (by omega) (by omega), List.append_nil]; done)
     exact ⟨by rw [if_pos rfl, q3]; rfl, M18.bare.take 0⟩
    ·
     refine WS.op rfl rfl (WS.nil [(1, _), (3, _), (24, _), (25, _)] rfl ?_)
     refine WC.condF rfl ?_
     refine WC.seq ?_
     refine WC.run ?_
     refine WS.eqlN (a := (p.kd).toNat) (b := 6) rfl rfl rfl (fun e34 => ?_) (fun e34 => ?_)
     ·
      refine WS.op rfl rfl (WS.nil [(1, _), (3, _), (33, _)] rfl ?_)
      refine WC.condT rfl ?_
      refine WC.run ?_
      refine WS.op rfl rfl (WS.op rfl rfl (WS.op rfl (op_lds [_, _, _, _] (M15.at 2 rfl) rfl (Nat.le_of_ble_eq_true rfl) rfl) ?_))
      refine WS.call rfl rfl rfl (WriteR_ran M15.here (r := p.r) (A.mono M15.sub) (by exact hf)) ?_
      rintro _ h19 ⟨rfl, N20⟩
      have M21 := M15.trans N20
      refine WS.op rfl (op_sadd (l := ([p.kd] ++ ((vb ((p.se).toNat)) ++ (vb ((p.sq).toNat))))) (m := (encR p.r)) rfl rfl (by first | omega | (simp only [List.length_append, List.length_cons, List.length_nil]; omega))) (WS.op rfl rfl (WS.nil [(3, _)] rfl ?_))
      refine WC.seq ?_
      refine WC.run ?_
      refine WS.op rfl rfl (WS.op rfl rfl (WS.nil [(2, _)] rfl ?_))
      refine WC.ret ?_
      refine ⟨[_], (res_tmp rfl res_nil), ?_⟩
      have q3 : encP p = (([p.kd] ++ ((vb ((p.se).toNat)) ++ (vb ((p.sq).toNat)))) ++ (encR p.r)) := by first | (exfalso; omega) | (rw [encP_1 (by omega)]; done) | (rw [encP_3 (by omega)]; done) | (rw [encP_6 (by omega)]; done) | (rw [encP_0 (by omega) (by omega) (by omega), List.append_nil]; done)
      exact ⟨by rw [if_pos rfl, q3]; rfl, M21.bare.take 0⟩
     ·
      refine WS.op rfl rfl (WS.nil [(1, _), (3, _), (33, _)] rfl ?_)
      refine WC.condF rfl ?_
      refine WC.skip ?_
      refine WC.seq ?_
      refine WC.run ?_
      refine WS.op rfl rfl (WS.op rfl rfl (WS.nil [(2, _)] rfl ?_))
      refine WC.ret ?_
      refine ⟨[_], (res_tmp rfl res_nil), ?_⟩
      have q3 : encP p = ([p.kd] ++ ((vb ((p.se).toNat)) ++ (vb ((p.sq).toNat)))) := by first | (exfalso; omega) | (rw [encP_1 (by omega)]; done) | (rw [encP_3 (by omega)]; done) | (rw [encP_6 (by omega)]; done) | (rw [encP_0 (by omega) (by omega) (by omega), List.append_nil]; done)
      exact ⟨by rw [if_pos rfl, q3]; rfl, M15.bare.take 0⟩
theorem SameP_ran (W : Mem h h [] []) {a b : Rep} {V V2 : Value} (A : KRrow.Sl h V a.r.rs) (B : KRrow.Sl h V2 b.r.rs) (hl : a.r.rs.length ≤ 1000000) : Cll tab0 23 [a.val V, b.val V2] h (fun v h2 => v = .bool (decide (a = b)) ∧ Mem h h2 [] []) := by
  obtain ⟨P, n, rfl⟩ := A.shape
  obtain ⟨P2, n2, rfl⟩ := B.shape
  refine Cll.code rfl rfl ?_
  refine WC.env [(0, _), (1, _)] rfl ?_
  refine WC.seq ?_
  refine WC.run ?_
  refine WS.box W [_, _, _, _, _, _, _, _] rfl rfl rfl rfl ?_
  intro p1 h2 M3
  refine WS.box M3 [_, _, _, _, _, _, _, _] rfl rfl rfl rfl ?_
  intro p4 h5 M6
  refine WS.op rfl rfl (WS.nil [(2, _), (3, _)] rfl ?_)
  refine WC.seq ?_
  refine WC.run ?_
  refine WS.op rfl rfl (WS.op rfl (op_ld (M6.at 1 rfl) rfl rfl) (WS.op rfl rfl (WS.op rfl (op_ld (M6.at 0 rfl) rfl rfl) ?_)))
  refine WS.eqlN (a := (a.kd).toNat) (b := (b.kd).toNat) rfl rfl rfl (fun e9 => ?_) (fun e9 => ?_)
  ·
   refine WS.op rfl rfl (WS.op rfl rfl (WS.op rfl (op_ld (M6.at 1 rfl) rfl rfl) (WS.op rfl rfl (WS.op rfl (op_ld (M6.at 0 rfl) rfl rfl) ?_))))
   refine WS.eqlN (a := (a.se).toNat) (b := (b.se).toNat) rfl rfl rfl (fun e15 => ?_) (fun e15 => ?_)
   ·
    refine WS.op rfl rfl (WS.op rfl rfl (WS.op rfl rfl (WS.op rfl (op_ld (M6.at 1 rfl) rfl rfl) (WS.op rfl rfl (WS.op rfl (op_ld (M6.at 0 rfl) rfl rfl) ?_)))))
    refine WS.eqlN (a := (a.sq).toNat) (b := (b.sq).toNat) rfl rfl rfl (fun e22 => ?_) (fun e22 => ?_)
    ·
     refine WS.op rfl rfl (WS.op rfl rfl (WS.op rfl rfl (WS.op rfl (op_ld (M6.at 1 rfl) rfl rfl) (WS.op rfl rfl (WS.op rfl (op_ld (M6.at 0 rfl) rfl rfl) ?_)))))
     refine WS.eqlN (a := (a.ld).toNat) (b := (b.ld).toNat) rfl rfl rfl (fun e29 => ?_) (fun e29 => ?_)
     ·
      refine WS.op rfl rfl (WS.op rfl rfl (WS.op rfl rfl (WS.op rfl (op_lds [_, _, _, _] (M6.at 1 rfl) rfl (Nat.le_of_ble_eq_true rfl) rfl) (WS.op rfl rfl (WS.op rfl (op_lds [_, _, _, _] (M6.at 0 rfl) rfl (Nat.le_of_ble_eq_true rfl) rfl) ?_)))))
      refine WS.call rfl rfl rfl (SameR_ran M6.here (a := a.r) (b := b.r) (A.mono M6.sub) (B.mono M6.sub) (by omega)) ?_
      rintro _ h7 ⟨rfl, N8⟩
      have M9 := M6.trans N8
      refine WS.op rfl rfl (WS.op rfl rfl (WS.nil [(4, _)] rfl ?_))
      refine WC.ret ?_
      cases hb1 : (decide (a.r = b.r))
      ·
       refine ⟨[_], (res_tmp rfl res_nil), ?_⟩
       exact ⟨vbf (fun q => by first | exact absurd (by rw [q]) e9 | exact absurd (by rw [q]) e15 | exact absurd (by rw [q]) e22 | exact absurd (by rw [q]) e29 | exact absurd (by rw [q]) (of_decide_eq_false (p := a.r = b.r) (by assumption))), M9.bare.take 0⟩
      ·
       refine ⟨[_], (res_tmp rfl res_nil), ?_⟩
       exact ⟨vbt (rep_eq (u8_inj e9) (u64_inj e15) (u64_inj e22) (u8_inj e29) (of_decide_eq_true (p := a.r = b.r) (by assumption))), M9.bare.take 0⟩
     ·
      refine WS.op rfl rfl (WS.op rfl rfl (WS.off rfl (WS.off rfl (WS.off rfl (WS.off rfl (WS.offC rfl (WS.op rfl rfl (WS.op rfl rfl (WS.nil [(4, _)] rfl ?_)))))))))
      refine WC.ret ?_
      refine ⟨[_], (res_tmp rfl res_nil), ?_⟩
      exact ⟨vbf (fun q => by first | exact absurd (by rw [q]) e9 | exact absurd (by rw [q]) e15 | exact absurd (by rw [q]) e22 | exact absurd (by rw [q]) e29 | exact absurd (by rw [q]) (of_decide_eq_false (p := a.r = b.r) (by assumption))), M6.bare.take 0⟩
    ·
     refine WS.op rfl rfl (WS.op rfl rfl (WS.off rfl (WS.off rfl (WS.off rfl (WS.off rfl (WS.off rfl (WS.op rfl rfl (WS.op rfl rfl (WS.off rfl ?_)))))))))
     refine WS.off rfl (WS.off rfl (WS.off rfl (WS.offC rfl (WS.op rfl rfl (WS.op rfl rfl (WS.nil [(4, _)] rfl ?_))))))
     refine WC.ret ?_
     refine ⟨[_], (res_tmp rfl res_nil), ?_⟩
     exact ⟨vbf (fun q => by first | exact absurd (by rw [q]) e9 | exact absurd (by rw [q]) e15 | exact absurd (by rw [q]) e22 | exact absurd (by rw [q]) e29 | exact absurd (by rw [q]) (of_decide_eq_false (p := a.r = b.r) (by assumption))), M6.bare.take 0⟩
   ·
    refine WS.op rfl rfl (WS.op rfl rfl (WS.off rfl (WS.off rfl (WS.off rfl (WS.off rfl (WS.off rfl (WS.op rfl rfl (WS.op rfl rfl (WS.off rfl ?_)))))))))
    refine WS.off rfl (WS.off rfl (WS.off rfl (WS.off rfl (WS.op rfl rfl (WS.op rfl rfl (WS.off rfl (WS.off rfl (WS.off rfl (WS.off rfl ?_)))))))))
    refine WS.offC rfl (WS.op rfl rfl (WS.op rfl rfl (WS.nil [(4, _)] rfl ?_)))
    refine WC.ret ?_
    refine ⟨[_], (res_tmp rfl res_nil), ?_⟩
    exact ⟨vbf (fun q => by first | exact absurd (by rw [q]) e9 | exact absurd (by rw [q]) e15 | exact absurd (by rw [q]) e22 | exact absurd (by rw [q]) e29 | exact absurd (by rw [q]) (of_decide_eq_false (p := a.r = b.r) (by assumption))), M6.bare.take 0⟩
  ·
   refine WS.op rfl rfl (WS.off rfl (WS.off rfl (WS.off rfl (WS.off rfl (WS.off rfl (WS.op rfl rfl (WS.op rfl rfl (WS.off rfl (WS.off rfl ?_)))))))))
   refine WS.off rfl (WS.off rfl (WS.off rfl (WS.op rfl rfl (WS.op rfl rfl (WS.off rfl (WS.off rfl (WS.off rfl (WS.off rfl (WS.off rfl ?_)))))))))
   refine WS.op rfl rfl (WS.op rfl rfl (WS.off rfl (WS.off rfl (WS.off rfl (WS.off rfl (WS.offC rfl (WS.op rfl rfl (WS.op rfl rfl (WS.nil [(4, _)] rfl ?_)))))))))
   refine WC.ret ?_
   refine ⟨[_], (res_tmp rfl res_nil), ?_⟩
   exact ⟨vbf (fun q => by first | exact absurd (by rw [q]) e9 | exact absurd (by rw [q]) e15 | exact absurd (by rw [q]) e22 | exact absurd (by rw [q]) e29 | exact absurd (by rw [q]) (of_decide_eq_false (p := a.r = b.r) (by assumption))), M6.bare.take 0⟩
theorem rdP_no {s : List UInt8} (h : ∀ p0, GoodP2 p0 → encP p0 ≠ s) : Rd GoodP2 encP zeroP s zeroP false := ⟨fun q => (nomatch q), fun _ => ⟨rfl, h⟩⟩
theorem rdP_yes {s : List UInt8} {p : Rep} (g : GoodP2 p) (h : encP p = s) : Rd GoodP2 encP zeroP s p true := ⟨fun _ => ⟨g, h⟩, fun q => (nomatch q)⟩
theorem encP_ne (p : Rep) : encP p ≠ [] := by rw [encP_cons]; simp
theorem wrP_t {p : Rep} (h : (if mayPB p then encP p else []) ≠ []) : MayP p := by
  cases q : mayPB p with
  | true => exact of_decide_eq_true q
  | false => rw [q] at h; exact absurd rfl h
theorem rv2 {s : List UInt8} {a b : UInt64} {t : List UInt8} (h : s.drop 1 = vb a.toNat ++ (vb b.toNat ++ t)) : rvN (s.drop 1) = a.toNat ∧ rvOK (s.drop 1) = true ∧ rvK (s.drop 1) = (vb a.toNat).length ∧ (s.drop 1).drop (rvK (s.drop 1)) = vb b.toNat ++ t ∧ rvN ((s.drop 1).drop (rvK (s.drop 1))) = b.toNat ∧ rvOK ((s.drop 1).drop (rvK (s.drop 1))) = true ∧ (s.drop 1).drop (rvK (s.drop 1) + rvK ((s.drop 1).drop (rvK (s.drop 1)))) = t := by
  obtain ⟨e1, e2, e3⟩ := rv_eq_some (show getV (s.drop 1) = some (a.toNat, (vb a.toNat).length) by rw [h]; exact getV_vb a.toNat_lt _)
  have e4 : (s.drop 1).drop (rvK (s.drop 1)) = vb b.toNat ++ t := by rw [e2, h, List.drop_left]
  obtain ⟨f1, f2, f3⟩ := rv_eq_some (show getV ((s.drop 1).drop (rvK (s.drop 1))) = some (b.toNat, (vb b.toNat).length) by rw [e4]; exact getV_vb b.toNat_lt _)
  refine ⟨e1, e3, e2, e4, f1, f3, ?_⟩
  rw [← List.drop_drop, f2, e4, List.drop_left]
set_option maxRecDepth 8000 in
theorem ReadP_ran (W : Mem h h [] []) {s : List UInt8} (hl : s.length ≤ 299000) : Cll tab0 14 [.string (bs s)] h (fun v h2 => ∃ p V S ok, KRrow.Own V (Res.rs p.r) S ∧ v = .tuple #[Rep.val p V, .bool ok] ∧ FitRes p.r ∧ Rd GoodP2 encP zeroP s p ok ∧ Mem h h2 [S] []) := by
  have hk1 := rvK_le (s.drop 1)
  have hk2 := rvK_le ((s.drop 1).drop (rvK (s.drop 1)))
  have hn1 := rvN_lt (s.drop 1)
  have hn2 := rvN_lt ((s.drop 1).drop (rvK (s.drop 1)))
  have hd1 : (s.drop 1).length = s.length - 1 := List.length_drop
  have hd2 : ((s.drop 1).drop (rvK (s.drop 1))).length = s.length - 1 - rvK (s.drop 1) := by rw [List.length_drop, hd1]
  refine Cll.code rfl rfl ?_
  refine WC.env [(0, _)] rfl ?_
  refine WC.seq ?_
  refine WC.run ?_
  refine WS.new W rfl ?_
  intro p1 h2 M3
  refine WS.op rfl rfl (WS.nil [(0, _), (2, _)] rfl ?_)
  refine WC.seq ?_
  refine WC.seq ?_
  refine WC.run ?_
  refine WS.op rfl rfl ?_
  refine WS.seql (l := s) (m := []) rfl rfl rfl (fun e13 => ?_) (fun e13 => ?_)
  ·
   refine WS.nil [(0, _), (2, _), (13, _)] rfl ?_
   refine WC.condT rfl ?_
   refine WC.seq ?_
   refine WC.run ?_
   refine WS.opV (.agg #[(.int .u8 (0 : Int)), (.int .u64 (0 : Int)), (.int .u64 (0 : Int)), (.int .u8 (0 : Int)), (.int .u8 (0 : Int)), (.int .u64 (0 : Int)), (.string (bs ([]))), (.slice none 0 0)]) rfl rfl rfl ?_
   refine WS.st1 (M3.focus 0 rfl) [_, _, _, _, _, _, _, _] [_, _, _, _, _, _, _, _] rfl rfl rfl rfl rfl (Nat.le_of_ble_eq_true rfl) (Nat.le_of_ble_eq_true rfl) rfl rfl ?_
   intro h4 M5
   replace M5 : Mem _ _ ([(p1, _)] :: []) _ := M5
   refine WS.op rfl rfl (WS.nil [(2, _), (3, _)] rfl ?_)
   refine WC.ret ?_
   refine ⟨[_, _], (res_cellN [_, _, _, _, _, _, _, _] rfl (M5.at 0 rfl) (Nat.le_of_ble_eq_true rfl) rfl (res_tmp rfl res_nil)), ?_⟩
   exact ⟨zeroP, .slice none 0 0, [], false, .nil, rfl, fitR0, rdP_no (fun p0 _ e => encP_ne p0 (by rw [e]; assumption)), (M5.bare.take 0).nils⟩
  ·
   refine WS.nil [(0, _), (2, _), (13, _)] rfl ?_
   refine WC.condF rfl ?_
   refine WC.skip ?_
   refine WC.seq ?_
   refine WC.run ?_
   refine WS.op rfl rfl ?_
   obtain ⟨a, ha⟩ : ∃ c, (s)[0]? = some c := ⟨_, List.getElem?_eq_getElem (show 0 < (s).length by exact List.length_pos_iff.2 e13)⟩
   refine WS.op rfl (op_ixS 0 rfl rfl ha) (WS.opV (.agg #[(.int .u8 (((a).toNat : Nat) : Int)), (.int .u64 (0 : Int)), (.int .u64 (0 : Int)), (.int .u8 (0 : Int)), (.int .u8 (0 : Int)), (.int .u64 (0 : Int)), (.string (bs ([]))), (.slice none 0 0)]) rfl rfl rfl ?_)
   refine WS.new M3 rfl ?_
   intro p6 h7 M8
   refine WS.st1 (M8.focus 0 rfl) [_, _, _, _, _, _, _, _] [_, _, _, _, _, _, _, _] rfl rfl rfl rfl rfl (Nat.le_of_ble_eq_true rfl) (Nat.le_of_ble_eq_true rfl) rfl rfl ?_
   intro h9 M10
   replace M10 : Mem _ _ ([(p6, _)] :: [(p1, _)] :: []) _ := M10
   refine WS.nil [(0, _), (2, _), (4, _)] rfl ?_
   refine WC.seq ?_
   refine WC.run ?_
   refine WS.op rfl rfl ?_
   have hpos := List.length_pos_iff.2 e13
   refine WS.op rfl (op_slS0 (l := s) 1 rfl rfl (by first | omega | (simp only [List.length_drop, List.length_take, List.length_append, List.length_cons, List.length_nil, List.length_singleton]; omega) | (simp only [List.length_drop, List.length_take, List.length_append, List.length_cons, List.length_nil, List.length_singleton] at *; omega))) (WS.op rfl rfl (WS.nil [(0, _), (2, _), (4, _), (5, _)] rfl ?_))
   refine WC.seq ?_
   refine WC.seq ?_
   refine WC.run ?_
   refine WS.op rfl rfl (WS.op rfl (op_ld (M10.at 0 rfl) rfl rfl) ?_)
   refine WS.neqN (a := (a).toNat) (b := 1) rfl rfl rfl (fun e22 => ?_) (fun e22 => ?_)
   ·
    refine WS.nil [(0, _), (2, _), (4, _), (5, _), (22, _)] rfl ?_
    refine WC.condT rfl ?_
    refine WC.seq ?_
    refine WC.run ?_
    refine WS.op rfl rfl ?_
    refine WS.call rfl rfl rfl (num_ReadV_ran M10.here (l := ((s).drop 1)) (by first | omega | (simp only [List.length_drop, List.length_take, List.length_append, List.length_cons, List.length_nil, List.length_singleton]; omega) | (simp only [List.length_drop, List.length_take, List.length_append, List.length_cons, List.length_nil, List.length_singleton] at *; omega))) ?_
    rintro _ h11 ⟨rfl, N12⟩
    have M13 := M10.trans N12
    refine WS.op rfl rfl (WS.opV (.int .u64 (((UInt64.ofNat (rvN ((s).drop 1))).toNat : Nat) : Int)) rfl rfl (u64_ofNat (n := (rvN ((s).drop 1))) (by have := rvN_lt ((s).drop 1); omega)) (WS.op rfl rfl (WS.op rfl rfl (WS.op rfl rfl (WS.op rfl rfl (WS.op rfl rfl (WS.nil [(0, _), (2, _), (4, _), (5, _), (6, _), (7, _)] rfl ?_)))))))
    refine WC.seq ?_
    refine WC.run ?_
    refine WS.op rfl rfl (WS.op rfl rfl (WS.op rfl (op_slS0 (l := ((s).drop 1)) (rvK ((s).drop 1)) rfl rfl (by omega)) ?_))
    refine WS.call rfl rfl rfl (num_ReadV_ran M13.here (l := ((((s).drop 1)).drop (rvK ((s).drop 1)))) (by first | omega | (simp only [List.length_drop, List.length_take, List.length_append, List.length_cons, List.length_nil, List.length_singleton]; omega) | (simp only [List.length_drop, List.length_take, List.length_append, List.length_cons, List.length_nil, List.length_singleton] at *; omega))) ?_
    rintro _ h15 ⟨rfl, N16⟩
    have M17 := M13.trans N16
    refine WS.op rfl rfl (WS.opV (.int .u64 (((UInt64.ofNat (rvN ((((s).drop 1)).drop (rvK ((s).drop 1))))).toNat : Nat) : Int)) rfl rfl (u64_ofNat (n := (rvN ((((s).drop 1)).drop (rvK ((s).drop 1))))) (by have := rvN_lt ((((s).drop 1)).drop (rvK ((s).drop 1))); omega)) (WS.op rfl rfl (WS.op rfl rfl (WS.op rfl rfl (WS.op rfl rfl (WS.op rfl rfl (WS.nil [(0, _), (2, _), (4, _), (5, _), (6, _), (7, _), (9, _), (10, _)] rfl ?_)))))))
    refine WC.draw M17 [] rfl ?_
    intro rb19 h20 M21
    refine WS.op rfl rfl (WS.op rfl rfl (WS.op rfl rfl (WS.op rfl rfl (WS.op rfl rfl (WS.opV (.int .i64 ((((rvK ((s).drop 1)) + (rvK ((((s).drop 1)).drop (rvK ((s).drop 1))))) : Nat) : Int)) rfl rfl (add_i64 (a := (rvK ((s).drop 1))) (b := (rvK ((((s).drop 1)).drop (rvK ((s).drop 1))))) (by have := rvK_le ((s).drop 1); have := rvK_le ((((s).drop 1)).drop (rvK ((s).drop 1))); omega)) (WS.op rfl (op_slS0 (l := ((s).drop 1)) ((rvK ((s).drop 1)) + (rvK ((((s).drop 1)).drop (rvK ((s).drop 1))))) rfl rfl (by omega)) (WS.op rfl rfl ?_)))))))
    refine WS.st1 (M21.focus 0 rfl) [_] [_, _, _, _, _, _, _, _] rfl rfl rfl rfl rfl (Nat.le_of_ble_eq_true rfl) (Nat.le_of_ble_eq_true rfl) rfl rfl ?_
    intro h22 M23
    replace M23 : Mem _ _ ([(p6, _)] :: [(p1, _)] :: []) _ := M23
    refine WS.op rfl rfl ?_
    refine WS.st1 (M23.focus 0 rfl) [_] [_, _, _, _, _, _, _, _] rfl rfl rfl rfl rfl (Nat.le_of_ble_eq_true rfl) (Nat.le_of_ble_eq_true rfl) rfl rfl ?_
    intro h24 M25
    replace M25 : Mem _ _ ([(p6, _)] :: [(p1, _)] :: []) _ := M25
    refine WS.op rfl rfl (WS.nil [(0, _), (2, _), (4, _), (5, _)] rfl ?_)
    refine WC.seq ?_
    refine WC.block ?_
    refine WC.seq ?_
    refine WC.run ?_
    refine WS.op rfl rfl (WS.op rfl (op_ld (M25.bare.at 0 rfl) rfl rfl) ?_)
    refine WS.eqlN (a := (a).toNat) (b := 3) rfl rfl rfl (fun e49 => ?_) (fun e49 => ?_)
    ·
     refine WS.op rfl rfl (WS.op rfl rfl ?_)
     refine WS.sneq (l := ((((s).drop 1)).drop ((rvK ((s).drop 1)) + (rvK ((((s).drop 1)).drop (rvK ((s).drop 1))))))) (m := []) rfl rfl rfl (fun e52 => ?_) (fun e52 => ?_)
     ·
      refine WS.op rfl rfl (WS.op rfl rfl (WS.nil [(0, _), (2, _), (4, _), (5, _), (46, _)] rfl ?_))
      refine WC.condT rfl ?_
      refine WC.run ?_
      refine WS.op rfl rfl ?_
      obtain ⟨b_, hb_⟩ : ∃ c, (((((s).drop 1)).drop ((rvK ((s).drop 1)) + (rvK ((((s).drop 1)).drop (rvK ((s).drop 1)))))))[0]? = some c := ⟨_, List.getElem?_eq_getElem (show 0 < (((((s).drop 1)).drop ((rvK ((s).drop 1)) + (rvK ((((s).drop 1)).drop (rvK ((s).drop 1))))))).length by exact List.length_pos_iff.2 e52)⟩
      refine WS.op rfl (op_ixS 0 rfl rfl hb_) (WS.op rfl rfl ?_)
      refine WS.st1 (M25.bare.focus 0 rfl) [_] [_, _, _, _, _, _, _, _] rfl rfl rfl rfl rfl (Nat.le_of_ble_eq_true rfl) (Nat.le_of_ble_eq_true rfl) rfl rfl ?_
      intro h26 M27
      replace M27 : Mem _ _ ([(p6, _)] :: [(p1, _)] :: []) _ := M27
      refine WS.nil [(0, _), (2, _), (4, _)] rfl ?_
      refine WC.seq ?_
      refine WC.seq ?_
      refine WC.run ?_
      refine WS.op rfl (op_lds [_, _, _, _, _, _, _, _] (M27.at 0 rfl) rfl (Nat.le_of_ble_eq_true rfl) rfl) ?_
      refine WS.call rfl rfl rfl (WriteP_ran M27.here (p := (⟨a, (UInt64.ofNat (rvN ((s).drop 1))), (UInt64.ofNat (rvN ((((s).drop 1)).drop (rvK ((s).drop 1))))), b_, (⟨0, 0, ([]), []⟩ : Res)⟩ : Rep)) Row.Sl.nil (by first | exact hF63 | exact fitR0)) ?_
      rintro _ h28 ⟨rfl, N29⟩
      have M30 := M27.trans N29
      refine WS.op rfl rfl ?_
      refine WS.sneq (l := (if mayPB (⟨a, (UInt64.ofNat (rvN ((s).drop 1))), (UInt64.ofNat (rvN ((((s).drop 1)).drop (rvK ((s).drop 1))))), b_, (⟨0, 0, ([]), []⟩ : Res)⟩ : Rep) then encP (⟨a, (UInt64.ofNat (rvN ((s).drop 1))), (UInt64.ofNat (rvN ((((s).drop 1)).drop (rvK ((s).drop 1))))), b_, (⟨0, 0, ([]), []⟩ : Res)⟩ : Rep) else [])) (m := s) rfl rfl rfl (fun e70 => ?_) (fun e70 => ?_)
      ·
       refine WS.nil [(2, _), (4, _), (70, _)] rfl ?_
       refine WC.condT rfl ?_
       refine WC.seq ?_
       refine WC.run ?_
       refine WS.opV (.agg #[(.int .u8 (0 : Int)), (.int .u64 (0 : Int)), (.int .u64 (0 : Int)), (.int .u8 (0 : Int)), (.int .u8 (0 : Int)), (.int .u64 (0 : Int)), (.string (bs ([]))), (.slice none 0 0)]) rfl rfl rfl ?_
       refine WS.st1 (M30.focus 1 rfl) [_, _, _, _, _, _, _, _] [_, _, _, _, _, _, _, _] rfl rfl rfl rfl rfl (Nat.le_of_ble_eq_true rfl) (Nat.le_of_ble_eq_true rfl) rfl rfl ?_
       intro h31 M32
       replace M32 : Mem _ _ ([(p1, _)] :: [(p6, _)] :: []) _ := M32
       refine WS.op rfl rfl (WS.nil [(2, _), (3, _)] rfl ?_)
       refine WC.ret ?_
       refine ⟨[_, _], (res_cellN [_, _, _, _, _, _, _, _] rfl (M32.at 0 rfl) (Nat.le_of_ble_eq_true rfl) rfl (res_tmp rfl res_nil)), ?_⟩
       have hno : ∀ p0, GoodP2 p0 → encP p0 ≠ s := by
         intro p0 hg he
         have hs0 : s = a :: s.drop 1 := by simpa using drop_cons ha
         have hka : p0.kd = a := by rw [hs0, encP_cons] at he; exact (List.cons.inj he).1
         have htl : (encP p0).tail = s.drop 1 := by rw [hs0, encP_cons] at he; exact (List.cons.inj he).2
         obtain ⟨⟨g1, g2, g3, g4, g5⟩, hfr⟩ := id hg
         apply absurd (show (if mayPB (⟨a, (UInt64.ofNat (rvN ((s).drop 1))), (UInt64.ofNat (rvN ((((s).drop 1)).drop (rvK ((s).drop 1))))), b_, (⟨0, 0, ([]), []⟩ : Res)⟩ : Rep) then encP (⟨a, (UInt64.ofNat (rvN ((s).drop 1))), (UInt64.ofNat (rvN ((((s).drop 1)).drop (rvK ((s).drop 1))))), b_, (⟨0, 0, ([]), []⟩ : Res)⟩ : Rep) else []) = s from ?_) (by assumption)
         have hp : (⟨a, (UInt64.ofNat (rvN ((s).drop 1))), (UInt64.ofNat (rvN ((((s).drop 1)).drop (rvK ((s).drop 1))))), b_, (⟨0, 0, ([]), []⟩ : Res)⟩ : Rep) = p0 := by
           by_cases k1 : a.toNat = 1
           · first
             | (exfalso; omega)
             | exact rep_eq hka.symm (g2 (by rw [hka]; exact k1)).1.symm (g2 (by rw [hka]; exact k1)).2.symm (by first | (exfalso; omega) | exact (g3 (by rw [hka]; omega)).symm) (by first | (exfalso; omega) | exact (g5 (by rw [hka]; omega)).symm)
           have htl2 : s.drop 1 = vb p0.se.toNat ++ (vb p0.sq.toNat ++ lastP p0) := by
             rw [← htl, encP_n (by rw [hka]; exact k1)]; simp
           obtain ⟨r1, r2, r3, r4, r5, r6, r7⟩ := rv2 htl2
           have s1 : UInt64.ofNat (rvN (s.drop 1)) = p0.se := by rw [r1]; simp
           have s2 : UInt64.ofNat (rvN ((s.drop 1).drop (rvK (s.drop 1)))) = p0.sq := by rw [r5]; simp
           first
           | (exfalso; omega)
           | exact rep_eq hka.symm s1 s2 (g3 (by rw [hka]; omega)).symm (g5 (by rw [hka]; omega)).symm
           | (have l3 : lastP p0 = [p0.ld] := if_pos (by rw [hka]; omega)
              rw [l3] at r7
              first
              | exact rep_eq hka.symm s1 s2 (by rw [r7] at hb_; simpa using hb_.symm) (g5 (by rw [hka]; omega)).symm
              | (exfalso; rw [r7] at e52; cases e52; done))
           | (have l6 : lastP p0 = encR p0.r := by (unfold lastP; rw [if_neg (by rw [hka]; omega), if_pos (by rw [hka]; omega)])
              rw [l6] at r7
              rw [r7] at hC63
              exact rep_eq hka.symm s1 s2 (g3 (by rw [hka]; omega)).symm (rd_self encR_pf hfr (hC63.rd hF63)).2)
         rw [hp, if_pos (show mayPB p0 = true from decide_eq_true hg.1)]; exact he
       exact ⟨zeroP, .slice none 0 0, [], false, .nil, rfl, fitR0, rdP_no hno, (M32.bare.take 0).nils⟩
      ·
       refine WS.nil [(2, _), (4, _), (70, _)] rfl ?_
       refine WC.condF rfl ?_
       refine WC.skip ?_
       refine WC.seq ?_
       refine WC.run ?_
       refine WS.op rfl (op_lds [_, _, _, _, _, _, _, _] (M30.at 0 rfl) rfl (Nat.le_of_ble_eq_true rfl) rfl) ?_
       refine WS.st1 (M30.focus 1 rfl) [_, _, _, _, _, _, _, _] [_, _, _, _, _, _, _, _] rfl rfl rfl rfl rfl (Nat.le_of_ble_eq_true rfl) (Nat.le_of_ble_eq_true rfl) rfl rfl ?_
       intro h33 M34
       replace M34 : Mem _ _ ([(p1, _)] :: [(p6, _)] :: []) _ := M34
       refine WS.op rfl rfl (WS.nil [(2, _), (3, _)] rfl ?_)
       refine WC.ret ?_
       refine ⟨[_, _], (res_cellN [_, _, _, _, _, _, _, _] rfl (M34.at 0 rfl) (Nat.le_of_ble_eq_true rfl) rfl (res_tmp rfl res_nil)), ?_⟩
       have e70b : (if mayPB (⟨a, (UInt64.ofNat (rvN ((s).drop 1))), (UInt64.ofNat (rvN ((((s).drop 1)).drop (rvK ((s).drop 1))))), b_, (⟨0, 0, ([]), []⟩ : Res)⟩ : Rep) then encP (⟨a, (UInt64.ofNat (rvN ((s).drop 1))), (UInt64.ofNat (rvN ((((s).drop 1)).drop (rvK ((s).drop 1))))), b_, (⟨0, 0, ([]), []⟩ : Res)⟩ : Rep) else []) = s := by assumption
       have hm : MayP (⟨a, (UInt64.ofNat (rvN ((s).drop 1))), (UInt64.ofNat (rvN ((((s).drop 1)).drop (rvK ((s).drop 1))))), b_, (⟨0, 0, ([]), []⟩ : Res)⟩ : Rep) := wrP_t (by rw [e70b]; exact e13)
       have henc : encP (⟨a, (UInt64.ofNat (rvN ((s).drop 1))), (UInt64.ofNat (rvN ((((s).drop 1)).drop (rvK ((s).drop 1))))), b_, (⟨0, 0, ([]), []⟩ : Res)⟩ : Rep) = s := by rw [if_pos (show mayPB (⟨a, (UInt64.ofNat (rvN ((s).drop 1))), (UInt64.ofNat (rvN ((((s).drop 1)).drop (rvK ((s).drop 1))))), b_, (⟨0, 0, ([]), []⟩ : Res)⟩ : Rep) = true from decide_eq_true hm)] at e70b; exact e70b
       exact ⟨(⟨a, (UInt64.ofNat (rvN ((s).drop 1))), (UInt64.ofNat (rvN ((((s).drop 1)).drop (rvK ((s).drop 1))))), b_, (⟨0, 0, ([]), []⟩ : Res)⟩ : Rep), _, _, true, .nil, rfl, (by first | exact hF63 | exact fitR0), rdP_yes ⟨hm, by first | exact hF63 | exact fitR0⟩ henc, (M34.bare.take 0).nils⟩
     ·
      refine WS.op rfl rfl (WS.op rfl rfl (WS.nil [(0, _), (2, _), (4, _), (5, _), (46, _)] rfl ?_))
      refine WC.condF rfl ?_
      refine WC.seq ?_
      refine WC.run ?_
      refine WS.op rfl rfl (WS.op rfl (op_ld (M25.bare.at 0 rfl) rfl rfl) ?_)
      refine WS.eqlN (a := (a).toNat) (b := 6) rfl rfl rfl (fun e60 => ?_) (fun e60 => ?_)
      ·
       refine WS.op rfl rfl (WS.nil [(0, _), (2, _), (4, _), (5, _), (57, _)] rfl ?_)
       refine WC.condT rfl ?_
       refine WC.run ?_
       refine WS.op rfl rfl ?_
       refine WS.call rfl rfl rfl (ReadR_ran M25.bare.here (s := ((((s).drop 1)).drop ((rvK ((s).drop 1)) + (rvK ((((s).drop 1)).drop (rvK ((s).drop 1))))))) (by first | omega | (simp only [List.length_drop]; omega))) ?_
       rintro _ h35 ⟨r63, V38, S39, ok63, O40, rfl, hF63, hy63, hn63, hC63, N36⟩
       obtain ⟨P41, rfl⟩ := O40.shape
       have M37 := M25.bare.trans N36
       replace M37 : Mem _ _ (S39 :: [(p6, _)] :: [(p1, _)] :: []) _ := M37
       refine WS.op rfl rfl (WS.op rfl rfl (WS.op rfl rfl (WS.op rfl rfl ?_)))
       refine WS.st1 (M37.focus 1 rfl) [_, _, _, _] [_, _, _, _, _, _, _, _] rfl rfl rfl rfl rfl (Nat.le_of_ble_eq_true rfl) (Nat.le_of_ble_eq_true rfl) rfl rfl ?_
       intro h42 M43
       replace M43 : Mem _ _ ([(p6, _)] :: S39 :: [(p1, _)] :: []) _ := M43
       refine WS.nil [(0, _), (2, _), (4, _)] rfl ?_
       refine WC.seq ?_
       refine WC.seq ?_
       refine WC.run ?_
       refine WS.op rfl (op_lds [_, _, _, _, _, _, _, _] (M43.at 0 rfl) rfl (Nat.le_of_ble_eq_true rfl) rfl) ?_
       refine WS.call rfl rfl rfl (WriteP_ran M43.here (p := (⟨a, (UInt64.ofNat (rvN ((s).drop 1))), (UInt64.ofNat (rvN ((((s).drop 1)).drop (rvK ((s).drop 1))))), 0, r63⟩ : Rep)) (Row.Own.sl O40 (Mem.owni M43 1 rfl)) (by first | exact hF63 | exact fitR0)) ?_
       rintro _ h44 ⟨rfl, N45⟩
       have M46 := M43.trans N45
       refine WS.op rfl rfl ?_
       refine WS.sneq (l := (if mayPB (⟨a, (UInt64.ofNat (rvN ((s).drop 1))), (UInt64.ofNat (rvN ((((s).drop 1)).drop (rvK ((s).drop 1))))), 0, r63⟩ : Rep) then encP (⟨a, (UInt64.ofNat (rvN ((s).drop 1))), (UInt64.ofNat (rvN ((((s).drop 1)).drop (rvK ((s).drop 1))))), 0, r63⟩ : Rep) else [])) (m := s) rfl rfl rfl (fun e70 => ?_) (fun e70 => ?_)
       ·
        refine WS.nil [(2, _), (4, _), (70, _)] rfl ?_
        refine WC.condT rfl ?_
        refine WC.seq ?_
        refine WC.run ?_
        refine WS.opV (.agg #[(.int .u8 (0 : Int)), (.int .u64 (0 : Int)), (.int .u64 (0 : Int)), (.int .u8 (0 : Int)), (.int .u8 (0 : Int)), (.int .u64 (0 : Int)), (.string (bs ([]))), (.slice none 0 0)]) rfl rfl rfl ?_
        refine WS.st1 (M46.focus 2 rfl) [_, _, _, _, _, _, _, _] [_, _, _, _, _, _, _, _] rfl rfl rfl rfl rfl (Nat.le_of_ble_eq_true rfl) (Nat.le_of_ble_eq_true rfl) rfl rfl ?_
        intro h47 M48
        replace M48 : Mem _ _ ([(p1, _)] :: [(p6, _)] :: S39 :: []) _ := M48
        refine WS.op rfl rfl (WS.nil [(2, _), (3, _)] rfl ?_)
        refine WC.ret ?_
        refine ⟨[_, _], (res_cellN [_, _, _, _, _, _, _, _] rfl (M48.at 0 rfl) (Nat.le_of_ble_eq_true rfl) rfl (res_tmp rfl res_nil)), ?_⟩
        have hno : ∀ p0, GoodP2 p0 → encP p0 ≠ s := by
          intro p0 hg he
          have hs0 : s = a :: s.drop 1 := by simpa using drop_cons ha
          have hka : p0.kd = a := by rw [hs0, encP_cons] at he; exact (List.cons.inj he).1
          have htl : (encP p0).tail = s.drop 1 := by rw [hs0, encP_cons] at he; exact (List.cons.inj he).2
          obtain ⟨⟨g1, g2, g3, g4, g5⟩, hfr⟩ := id hg
          apply absurd (show (if mayPB (⟨a, (UInt64.ofNat (rvN ((s).drop 1))), (UInt64.ofNat (rvN ((((s).drop 1)).drop (rvK ((s).drop 1))))), 0, r63⟩ : Rep) then encP (⟨a, (UInt64.ofNat (rvN ((s).drop 1))), (UInt64.ofNat (rvN ((((s).drop 1)).drop (rvK ((s).drop 1))))), 0, r63⟩ : Rep) else []) = s from ?_) (by assumption)
          have hp : (⟨a, (UInt64.ofNat (rvN ((s).drop 1))), (UInt64.ofNat (rvN ((((s).drop 1)).drop (rvK ((s).drop 1))))), 0, r63⟩ : Rep) = p0 := by
            by_cases k1 : a.toNat = 1
            · first
              | (exfalso; omega)
              | exact rep_eq hka.symm (g2 (by rw [hka]; exact k1)).1.symm (g2 (by rw [hka]; exact k1)).2.symm (by first | (exfalso; omega) | exact (g3 (by rw [hka]; omega)).symm) (by first | (exfalso; omega) | exact (g5 (by rw [hka]; omega)).symm)
            have htl2 : s.drop 1 = vb p0.se.toNat ++ (vb p0.sq.toNat ++ lastP p0) := by
              rw [← htl, encP_n (by rw [hka]; exact k1)]; simp
            obtain ⟨r1, r2, r3, r4, r5, r6, r7⟩ := rv2 htl2
            have s1 : UInt64.ofNat (rvN (s.drop 1)) = p0.se := by rw [r1]; simp
            have s2 : UInt64.ofNat (rvN ((s.drop 1).drop (rvK (s.drop 1)))) = p0.sq := by rw [r5]; simp
            first
            | (exfalso; omega)
            | exact rep_eq hka.symm s1 s2 (g3 (by rw [hka]; omega)).symm (g5 (by rw [hka]; omega)).symm
            | (have l3 : lastP p0 = [p0.ld] := if_pos (by rw [hka]; omega)
               rw [l3] at r7
               first
               | exact rep_eq hka.symm s1 s2 (by rw [r7] at hb_; simpa using hb_.symm) (g5 (by rw [hka]; omega)).symm
               | (exfalso; rw [r7] at e52; cases e52; done))
            | (have l6 : lastP p0 = encR p0.r := by (unfold lastP; rw [if_neg (by rw [hka]; omega), if_pos (by rw [hka]; omega)])
               rw [l6] at r7
               rw [r7] at hC63
               exact rep_eq hka.symm s1 s2 (g3 (by rw [hka]; omega)).symm (rd_self encR_pf hfr (hC63.rd hF63)).2)
          rw [hp, if_pos (show mayPB p0 = true from decide_eq_true hg.1)]; exact he
        exact ⟨zeroP, .slice none 0 0, [], false, .nil, rfl, fitR0, rdP_no hno, (M48.bare.take 0).nils⟩
       ·
        refine WS.nil [(2, _), (4, _), (70, _)] rfl ?_
        refine WC.condF rfl ?_
        refine WC.skip ?_
        refine WC.seq ?_
        refine WC.run ?_
        refine WS.op rfl (op_lds [_, _, _, _, _, _, _, _] (M46.at 0 rfl) rfl (Nat.le_of_ble_eq_true rfl) rfl) ?_
        refine WS.st1 (M46.focus 2 rfl) [_, _, _, _, _, _, _, _] [_, _, _, _, _, _, _, _] rfl rfl rfl rfl rfl (Nat.le_of_ble_eq_true rfl) (Nat.le_of_ble_eq_true rfl) rfl rfl ?_
        intro h49 M50
        replace M50 : Mem _ _ ([(p1, _)] :: [(p6, _)] :: S39 :: []) _ := M50
        refine WS.op rfl rfl (WS.nil [(2, _), (3, _)] rfl ?_)
        refine WC.ret ?_
        refine ⟨[_, _], (res_cellN [_, _, _, _, _, _, _, _] rfl (M50.at 0 rfl) (Nat.le_of_ble_eq_true rfl) rfl (res_tmp rfl res_nil)), ?_⟩
        have e70b : (if mayPB (⟨a, (UInt64.ofNat (rvN ((s).drop 1))), (UInt64.ofNat (rvN ((((s).drop 1)).drop (rvK ((s).drop 1))))), 0, r63⟩ : Rep) then encP (⟨a, (UInt64.ofNat (rvN ((s).drop 1))), (UInt64.ofNat (rvN ((((s).drop 1)).drop (rvK ((s).drop 1))))), 0, r63⟩ : Rep) else []) = s := by assumption
        have hm : MayP (⟨a, (UInt64.ofNat (rvN ((s).drop 1))), (UInt64.ofNat (rvN ((((s).drop 1)).drop (rvK ((s).drop 1))))), 0, r63⟩ : Rep) := wrP_t (by rw [e70b]; exact e13)
        have henc : encP (⟨a, (UInt64.ofNat (rvN ((s).drop 1))), (UInt64.ofNat (rvN ((((s).drop 1)).drop (rvK ((s).drop 1))))), 0, r63⟩ : Rep) = s := by rw [if_pos (show mayPB (⟨a, (UInt64.ofNat (rvN ((s).drop 1))), (UInt64.ofNat (rvN ((((s).drop 1)).drop (rvK ((s).drop 1))))), 0, r63⟩ : Rep) = true from decide_eq_true hm)] at e70b; exact e70b
        exact ⟨(⟨a, (UInt64.ofNat (rvN ((s).drop 1))), (UInt64.ofNat (rvN ((((s).drop 1)).drop (rvK ((s).drop 1))))), 0, r63⟩ : Rep), _, _, true, O40, rfl, (by first | exact hF63 | exact fitR0), rdP_yes ⟨hm, by first | exact hF63 | exact fitR0⟩ henc, ((M50.bare.focus 2 rfl).take 1)⟩
      ·
       refine WS.op rfl rfl (WS.nil [(0, _), (2, _), (4, _), (5, _), (57, _)] rfl ?_)
       refine WC.condF rfl ?_
       refine WC.skip ?_
       refine WC.seq ?_
       refine WC.seq ?_
       refine WC.run ?_
       refine WS.op rfl (op_lds [_, _, _, _, _, _, _, _] (M25.bare.at 0 rfl) rfl (Nat.le_of_ble_eq_true rfl) rfl) ?_
       refine WS.call rfl rfl rfl (WriteP_ran M25.bare.here (p := (⟨a, (UInt64.ofNat (rvN ((s).drop 1))), (UInt64.ofNat (rvN ((((s).drop 1)).drop (rvK ((s).drop 1))))), 0, (⟨0, 0, ([]), []⟩ : Res)⟩ : Rep)) Row.Sl.nil (by first | exact hF63 | exact fitR0)) ?_
       rintro _ h51 ⟨rfl, N52⟩
       have M53 := M25.bare.trans N52
       refine WS.op rfl rfl ?_
       refine WS.sneq (l := (if mayPB (⟨a, (UInt64.ofNat (rvN ((s).drop 1))), (UInt64.ofNat (rvN ((((s).drop 1)).drop (rvK ((s).drop 1))))), 0, (⟨0, 0, ([]), []⟩ : Res)⟩ : Rep) then encP (⟨a, (UInt64.ofNat (rvN ((s).drop 1))), (UInt64.ofNat (rvN ((((s).drop 1)).drop (rvK ((s).drop 1))))), 0, (⟨0, 0, ([]), []⟩ : Res)⟩ : Rep) else [])) (m := s) rfl rfl rfl (fun e70 => ?_) (fun e70 => ?_)
       ·
        refine WS.nil [(2, _), (4, _), (70, _)] rfl ?_
        refine WC.condT rfl ?_
        refine WC.seq ?_
        refine WC.run ?_
        refine WS.opV (.agg #[(.int .u8 (0 : Int)), (.int .u64 (0 : Int)), (.int .u64 (0 : Int)), (.int .u8 (0 : Int)), (.int .u8 (0 : Int)), (.int .u64 (0 : Int)), (.string (bs ([]))), (.slice none 0 0)]) rfl rfl rfl ?_
        refine WS.st1 (M53.focus 1 rfl) [_, _, _, _, _, _, _, _] [_, _, _, _, _, _, _, _] rfl rfl rfl rfl rfl (Nat.le_of_ble_eq_true rfl) (Nat.le_of_ble_eq_true rfl) rfl rfl ?_
        intro h54 M55
        replace M55 : Mem _ _ ([(p1, _)] :: [(p6, _)] :: []) _ := M55
        refine WS.op rfl rfl (WS.nil [(2, _), (3, _)] rfl ?_)
        refine WC.ret ?_
        refine ⟨[_, _], (res_cellN [_, _, _, _, _, _, _, _] rfl (M55.at 0 rfl) (Nat.le_of_ble_eq_true rfl) rfl (res_tmp rfl res_nil)), ?_⟩
        have hno : ∀ p0, GoodP2 p0 → encP p0 ≠ s := by
          intro p0 hg he
          have hs0 : s = a :: s.drop 1 := by simpa using drop_cons ha
          have hka : p0.kd = a := by rw [hs0, encP_cons] at he; exact (List.cons.inj he).1
          have htl : (encP p0).tail = s.drop 1 := by rw [hs0, encP_cons] at he; exact (List.cons.inj he).2
          obtain ⟨⟨g1, g2, g3, g4, g5⟩, hfr⟩ := id hg
          apply absurd (show (if mayPB (⟨a, (UInt64.ofNat (rvN ((s).drop 1))), (UInt64.ofNat (rvN ((((s).drop 1)).drop (rvK ((s).drop 1))))), 0, (⟨0, 0, ([]), []⟩ : Res)⟩ : Rep) then encP (⟨a, (UInt64.ofNat (rvN ((s).drop 1))), (UInt64.ofNat (rvN ((((s).drop 1)).drop (rvK ((s).drop 1))))), 0, (⟨0, 0, ([]), []⟩ : Res)⟩ : Rep) else []) = s from ?_) (by assumption)
          have hp : (⟨a, (UInt64.ofNat (rvN ((s).drop 1))), (UInt64.ofNat (rvN ((((s).drop 1)).drop (rvK ((s).drop 1))))), 0, (⟨0, 0, ([]), []⟩ : Res)⟩ : Rep) = p0 := by
            by_cases k1 : a.toNat = 1
            · first
              | (exfalso; omega)
              | exact rep_eq hka.symm (g2 (by rw [hka]; exact k1)).1.symm (g2 (by rw [hka]; exact k1)).2.symm (by first | (exfalso; omega) | exact (g3 (by rw [hka]; omega)).symm) (by first | (exfalso; omega) | exact (g5 (by rw [hka]; omega)).symm)
            have htl2 : s.drop 1 = vb p0.se.toNat ++ (vb p0.sq.toNat ++ lastP p0) := by
              rw [← htl, encP_n (by rw [hka]; exact k1)]; simp
            obtain ⟨r1, r2, r3, r4, r5, r6, r7⟩ := rv2 htl2
            have s1 : UInt64.ofNat (rvN (s.drop 1)) = p0.se := by rw [r1]; simp
            have s2 : UInt64.ofNat (rvN ((s.drop 1).drop (rvK (s.drop 1)))) = p0.sq := by rw [r5]; simp
            first
            | (exfalso; omega)
            | exact rep_eq hka.symm s1 s2 (g3 (by rw [hka]; omega)).symm (g5 (by rw [hka]; omega)).symm
            | (have l3 : lastP p0 = [p0.ld] := if_pos (by rw [hka]; omega)
               rw [l3] at r7
               first
               | exact rep_eq hka.symm s1 s2 (by rw [r7] at hb_; simpa using hb_.symm) (g5 (by rw [hka]; omega)).symm
               | (exfalso; rw [r7] at e52; cases e52; done))
            | (have l6 : lastP p0 = encR p0.r := by (unfold lastP; rw [if_neg (by rw [hka]; omega), if_pos (by rw [hka]; omega)])
               rw [l6] at r7
               rw [r7] at hC63
               exact rep_eq hka.symm s1 s2 (g3 (by rw [hka]; omega)).symm (rd_self encR_pf hfr (hC63.rd hF63)).2)
          rw [hp, if_pos (show mayPB p0 = true from decide_eq_true hg.1)]; exact he
        exact ⟨zeroP, .slice none 0 0, [], false, .nil, rfl, fitR0, rdP_no hno, (M55.bare.take 0).nils⟩
       ·
        refine WS.nil [(2, _), (4, _), (70, _)] rfl ?_
        refine WC.condF rfl ?_
        refine WC.skip ?_
        refine WC.seq ?_
        refine WC.run ?_
        refine WS.op rfl (op_lds [_, _, _, _, _, _, _, _] (M53.at 0 rfl) rfl (Nat.le_of_ble_eq_true rfl) rfl) ?_
        refine WS.st1 (M53.focus 1 rfl) [_, _, _, _, _, _, _, _] [_, _, _, _, _, _, _, _] rfl rfl rfl rfl rfl (Nat.le_of_ble_eq_true rfl) (Nat.le_of_ble_eq_true rfl) rfl rfl ?_
        intro h56 M57
        replace M57 : Mem _ _ ([(p1, _)] :: [(p6, _)] :: []) _ := M57
        refine WS.op rfl rfl (WS.nil [(2, _), (3, _)] rfl ?_)
        refine WC.ret ?_
        refine ⟨[_, _], (res_cellN [_, _, _, _, _, _, _, _] rfl (M57.at 0 rfl) (Nat.le_of_ble_eq_true rfl) rfl (res_tmp rfl res_nil)), ?_⟩
        have e70b : (if mayPB (⟨a, (UInt64.ofNat (rvN ((s).drop 1))), (UInt64.ofNat (rvN ((((s).drop 1)).drop (rvK ((s).drop 1))))), 0, (⟨0, 0, ([]), []⟩ : Res)⟩ : Rep) then encP (⟨a, (UInt64.ofNat (rvN ((s).drop 1))), (UInt64.ofNat (rvN ((((s).drop 1)).drop (rvK ((s).drop 1))))), 0, (⟨0, 0, ([]), []⟩ : Res)⟩ : Rep) else []) = s := by assumption
        have hm : MayP (⟨a, (UInt64.ofNat (rvN ((s).drop 1))), (UInt64.ofNat (rvN ((((s).drop 1)).drop (rvK ((s).drop 1))))), 0, (⟨0, 0, ([]), []⟩ : Res)⟩ : Rep) := wrP_t (by rw [e70b]; exact e13)
        have henc : encP (⟨a, (UInt64.ofNat (rvN ((s).drop 1))), (UInt64.ofNat (rvN ((((s).drop 1)).drop (rvK ((s).drop 1))))), 0, (⟨0, 0, ([]), []⟩ : Res)⟩ : Rep) = s := by rw [if_pos (show mayPB (⟨a, (UInt64.ofNat (rvN ((s).drop 1))), (UInt64.ofNat (rvN ((((s).drop 1)).drop (rvK ((s).drop 1))))), 0, (⟨0, 0, ([]), []⟩ : Res)⟩ : Rep) = true from decide_eq_true hm)] at e70b; exact e70b
        exact ⟨(⟨a, (UInt64.ofNat (rvN ((s).drop 1))), (UInt64.ofNat (rvN ((((s).drop 1)).drop (rvK ((s).drop 1))))), 0, (⟨0, 0, ([]), []⟩ : Res)⟩ : Rep), _, _, true, .nil, rfl, (by first | exact hF63 | exact fitR0), rdP_yes ⟨hm, by first | exact hF63 | exact fitR0⟩ henc, (M57.bare.take 0).nils⟩
    ·
     refine WS.op rfl rfl (WS.off rfl (WS.off rfl (WS.op rfl rfl (WS.op rfl rfl (WS.nil [(0, _), (2, _), (4, _), (5, _), (46, _)] rfl ?_)))))
     refine WC.condF rfl ?_
     refine WC.seq ?_
     refine WC.run ?_
     refine WS.op rfl rfl (WS.op rfl (op_ld (M25.bare.at 0 rfl) rfl rfl) ?_)
     refine WS.eqlN (a := (a).toNat) (b := 6) rfl rfl rfl (fun e60 => ?_) (fun e60 => ?_)
     ·
      refine WS.op rfl rfl (WS.nil [(0, _), (2, _), (4, _), (5, _), (57, _)] rfl ?_)
      refine WC.condT rfl ?_
      refine WC.run ?_
      refine WS.op rfl rfl ?_
      refine WS.call rfl rfl rfl (ReadR_ran M25.bare.here (s := ((((s).drop 1)).drop ((rvK ((s).drop 1)) + (rvK ((((s).drop 1)).drop (rvK ((s).drop 1))))))) (by first | omega | (simp only [List.length_drop]; omega))) ?_
      rintro _ h58 ⟨r63, V61, S62, ok63, O63, rfl, hF63, hy63, hn63, hC63, N59⟩
      obtain ⟨P64, rfl⟩ := O63.shape
      have M60 := M25.bare.trans N59
      replace M60 : Mem _ _ (S62 :: [(p6, _)] :: [(p1, _)] :: []) _ := M60
      refine WS.op rfl rfl (WS.op rfl rfl (WS.op rfl rfl (WS.op rfl rfl ?_)))
      refine WS.st1 (M60.focus 1 rfl) [_, _, _, _] [_, _, _, _, _, _, _, _] rfl rfl rfl rfl rfl (Nat.le_of_ble_eq_true rfl) (Nat.le_of_ble_eq_true rfl) rfl rfl ?_
      intro h65 M66
      replace M66 : Mem _ _ ([(p6, _)] :: S62 :: [(p1, _)] :: []) _ := M66
      refine WS.nil [(0, _), (2, _), (4, _)] rfl ?_
      refine WC.seq ?_
      refine WC.seq ?_
      refine WC.run ?_
      refine WS.op rfl (op_lds [_, _, _, _, _, _, _, _] (M66.at 0 rfl) rfl (Nat.le_of_ble_eq_true rfl) rfl) ?_
      refine WS.call rfl rfl rfl (WriteP_ran M66.here (p := (⟨a, (UInt64.ofNat (rvN ((s).drop 1))), (UInt64.ofNat (rvN ((((s).drop 1)).drop (rvK ((s).drop 1))))), 0, r63⟩ : Rep)) (Row.Own.sl O63 (Mem.owni M66 1 rfl)) (by first | exact hF63 | exact fitR0)) ?_
      rintro _ h67 ⟨rfl, N68⟩
      have M69 := M66.trans N68
      refine WS.op rfl rfl ?_
      refine WS.sneq (l := (if mayPB (⟨a, (UInt64.ofNat (rvN ((s).drop 1))), (UInt64.ofNat (rvN ((((s).drop 1)).drop (rvK ((s).drop 1))))), 0, r63⟩ : Rep) then encP (⟨a, (UInt64.ofNat (rvN ((s).drop 1))), (UInt64.ofNat (rvN ((((s).drop 1)).drop (rvK ((s).drop 1))))), 0, r63⟩ : Rep) else [])) (m := s) rfl rfl rfl (fun e70 => ?_) (fun e70 => ?_)
      ·
       refine WS.nil [(2, _), (4, _), (70, _)] rfl ?_
       refine WC.condT rfl ?_
       refine WC.seq ?_
       refine WC.run ?_
       refine WS.opV (.agg #[(.int .u8 (0 : Int)), (.int .u64 (0 : Int)), (.int .u64 (0 : Int)), (.int .u8 (0 : Int)), (.int .u8 (0 : Int)), (.int .u64 (0 : Int)), (.string (bs ([]))), (.slice none 0 0)]) rfl rfl rfl ?_
       refine WS.st1 (M69.focus 2 rfl) [_, _, _, _, _, _, _, _] [_, _, _, _, _, _, _, _] rfl rfl rfl rfl rfl (Nat.le_of_ble_eq_true rfl) (Nat.le_of_ble_eq_true rfl) rfl rfl ?_
       intro h70 M71
       replace M71 : Mem _ _ ([(p1, _)] :: [(p6, _)] :: S62 :: []) _ := M71
       refine WS.op rfl rfl (WS.nil [(2, _), (3, _)] rfl ?_)
       refine WC.ret ?_
       refine ⟨[_, _], (res_cellN [_, _, _, _, _, _, _, _] rfl (M71.at 0 rfl) (Nat.le_of_ble_eq_true rfl) rfl (res_tmp rfl res_nil)), ?_⟩
       have hno : ∀ p0, GoodP2 p0 → encP p0 ≠ s := by
         intro p0 hg he
         have hs0 : s = a :: s.drop 1 := by simpa using drop_cons ha
         have hka : p0.kd = a := by rw [hs0, encP_cons] at he; exact (List.cons.inj he).1
         have htl : (encP p0).tail = s.drop 1 := by rw [hs0, encP_cons] at he; exact (List.cons.inj he).2
         obtain ⟨⟨g1, g2, g3, g4, g5⟩, hfr⟩ := id hg
         apply absurd (show (if mayPB (⟨a, (UInt64.ofNat (rvN ((s).drop 1))), (UInt64.ofNat (rvN ((((s).drop 1)).drop (rvK ((s).drop 1))))), 0, r63⟩ : Rep) then encP (⟨a, (UInt64.ofNat (rvN ((s).drop 1))), (UInt64.ofNat (rvN ((((s).drop 1)).drop (rvK ((s).drop 1))))), 0, r63⟩ : Rep) else []) = s from ?_) (by assumption)
         have hp : (⟨a, (UInt64.ofNat (rvN ((s).drop 1))), (UInt64.ofNat (rvN ((((s).drop 1)).drop (rvK ((s).drop 1))))), 0, r63⟩ : Rep) = p0 := by
           by_cases k1 : a.toNat = 1
           · first
             | (exfalso; omega)
             | exact rep_eq hka.symm (g2 (by rw [hka]; exact k1)).1.symm (g2 (by rw [hka]; exact k1)).2.symm (by first | (exfalso; omega) | exact (g3 (by rw [hka]; omega)).symm) (by first | (exfalso; omega) | exact (g5 (by rw [hka]; omega)).symm)
           have htl2 : s.drop 1 = vb p0.se.toNat ++ (vb p0.sq.toNat ++ lastP p0) := by
             rw [← htl, encP_n (by rw [hka]; exact k1)]; simp
           obtain ⟨r1, r2, r3, r4, r5, r6, r7⟩ := rv2 htl2
           have s1 : UInt64.ofNat (rvN (s.drop 1)) = p0.se := by rw [r1]; simp
           have s2 : UInt64.ofNat (rvN ((s.drop 1).drop (rvK (s.drop 1)))) = p0.sq := by rw [r5]; simp
           first
           | (exfalso; omega)
           | exact rep_eq hka.symm s1 s2 (g3 (by rw [hka]; omega)).symm (g5 (by rw [hka]; omega)).symm
           | (have l3 : lastP p0 = [p0.ld] := if_pos (by rw [hka]; omega)
              rw [l3] at r7
              first
              | exact rep_eq hka.symm s1 s2 (by rw [r7] at hb_; simpa using hb_.symm) (g5 (by rw [hka]; omega)).symm
              | (exfalso; rw [r7] at e52; cases e52; done))
           | (have l6 : lastP p0 = encR p0.r := by (unfold lastP; rw [if_neg (by rw [hka]; omega), if_pos (by rw [hka]; omega)])
              rw [l6] at r7
              rw [r7] at hC63
              exact rep_eq hka.symm s1 s2 (g3 (by rw [hka]; omega)).symm (rd_self encR_pf hfr (hC63.rd hF63)).2)
         rw [hp, if_pos (show mayPB p0 = true from decide_eq_true hg.1)]; exact he
       exact ⟨zeroP, .slice none 0 0, [], false, .nil, rfl, fitR0, rdP_no hno, (M71.bare.take 0).nils⟩
      ·
       refine WS.nil [(2, _), (4, _), (70, _)] rfl ?_
       refine WC.condF rfl ?_
       refine WC.skip ?_
       refine WC.seq ?_
       refine WC.run ?_
       refine WS.op rfl (op_lds [_, _, _, _, _, _, _, _] (M69.at 0 rfl) rfl (Nat.le_of_ble_eq_true rfl) rfl) ?_
       refine WS.st1 (M69.focus 2 rfl) [_, _, _, _, _, _, _, _] [_, _, _, _, _, _, _, _] rfl rfl rfl rfl rfl (Nat.le_of_ble_eq_true rfl) (Nat.le_of_ble_eq_true rfl) rfl rfl ?_
       intro h72 M73
       replace M73 : Mem _ _ ([(p1, _)] :: [(p6, _)] :: S62 :: []) _ := M73
       refine WS.op rfl rfl (WS.nil [(2, _), (3, _)] rfl ?_)
       refine WC.ret ?_
       refine ⟨[_, _], (res_cellN [_, _, _, _, _, _, _, _] rfl (M73.at 0 rfl) (Nat.le_of_ble_eq_true rfl) rfl (res_tmp rfl res_nil)), ?_⟩
       have e70b : (if mayPB (⟨a, (UInt64.ofNat (rvN ((s).drop 1))), (UInt64.ofNat (rvN ((((s).drop 1)).drop (rvK ((s).drop 1))))), 0, r63⟩ : Rep) then encP (⟨a, (UInt64.ofNat (rvN ((s).drop 1))), (UInt64.ofNat (rvN ((((s).drop 1)).drop (rvK ((s).drop 1))))), 0, r63⟩ : Rep) else []) = s := by assumption
       have hm : MayP (⟨a, (UInt64.ofNat (rvN ((s).drop 1))), (UInt64.ofNat (rvN ((((s).drop 1)).drop (rvK ((s).drop 1))))), 0, r63⟩ : Rep) := wrP_t (by rw [e70b]; exact e13)
       have henc : encP (⟨a, (UInt64.ofNat (rvN ((s).drop 1))), (UInt64.ofNat (rvN ((((s).drop 1)).drop (rvK ((s).drop 1))))), 0, r63⟩ : Rep) = s := by rw [if_pos (show mayPB (⟨a, (UInt64.ofNat (rvN ((s).drop 1))), (UInt64.ofNat (rvN ((((s).drop 1)).drop (rvK ((s).drop 1))))), 0, r63⟩ : Rep) = true from decide_eq_true hm)] at e70b; exact e70b
       exact ⟨(⟨a, (UInt64.ofNat (rvN ((s).drop 1))), (UInt64.ofNat (rvN ((((s).drop 1)).drop (rvK ((s).drop 1))))), 0, r63⟩ : Rep), _, _, true, O63, rfl, (by first | exact hF63 | exact fitR0), rdP_yes ⟨hm, by first | exact hF63 | exact fitR0⟩ henc, ((M73.bare.focus 2 rfl).take 1)⟩
     ·
      refine WS.op rfl rfl (WS.nil [(0, _), (2, _), (4, _), (5, _), (57, _)] rfl ?_)
      refine WC.condF rfl ?_
      refine WC.skip ?_
      refine WC.seq ?_
      refine WC.seq ?_
      refine WC.run ?_
      refine WS.op rfl (op_lds [_, _, _, _, _, _, _, _] (M25.bare.at 0 rfl) rfl (Nat.le_of_ble_eq_true rfl) rfl) ?_
      refine WS.call rfl rfl rfl (WriteP_ran M25.bare.here (p := (⟨a, (UInt64.ofNat (rvN ((s).drop 1))), (UInt64.ofNat (rvN ((((s).drop 1)).drop (rvK ((s).drop 1))))), 0, (⟨0, 0, ([]), []⟩ : Res)⟩ : Rep)) Row.Sl.nil (by first | exact hF63 | exact fitR0)) ?_
      rintro _ h74 ⟨rfl, N75⟩
      have M76 := M25.bare.trans N75
      refine WS.op rfl rfl ?_
      refine WS.sneq (l := (if mayPB (⟨a, (UInt64.ofNat (rvN ((s).drop 1))), (UInt64.ofNat (rvN ((((s).drop 1)).drop (rvK ((s).drop 1))))), 0, (⟨0, 0, ([]), []⟩ : Res)⟩ : Rep) then encP (⟨a, (UInt64.ofNat (rvN ((s).drop 1))), (UInt64.ofNat (rvN ((((s).drop 1)).drop (rvK ((s).drop 1))))), 0, (⟨0, 0, ([]), []⟩ : Res)⟩ : Rep) else [])) (m := s) rfl rfl rfl (fun e70 => ?_) (fun e70 => ?_)
      ·
       refine WS.nil [(2, _), (4, _), (70, _)] rfl ?_
       refine WC.condT rfl ?_
       refine WC.seq ?_
       refine WC.run ?_
       refine WS.opV (.agg #[(.int .u8 (0 : Int)), (.int .u64 (0 : Int)), (.int .u64 (0 : Int)), (.int .u8 (0 : Int)), (.int .u8 (0 : Int)), (.int .u64 (0 : Int)), (.string (bs ([]))), (.slice none 0 0)]) rfl rfl rfl ?_
       refine WS.st1 (M76.focus 1 rfl) [_, _, _, _, _, _, _, _] [_, _, _, _, _, _, _, _] rfl rfl rfl rfl rfl (Nat.le_of_ble_eq_true rfl) (Nat.le_of_ble_eq_true rfl) rfl rfl ?_
       intro h77 M78
       replace M78 : Mem _ _ ([(p1, _)] :: [(p6, _)] :: []) _ := M78
       refine WS.op rfl rfl (WS.nil [(2, _), (3, _)] rfl ?_)
       refine WC.ret ?_
       refine ⟨[_, _], (res_cellN [_, _, _, _, _, _, _, _] rfl (M78.at 0 rfl) (Nat.le_of_ble_eq_true rfl) rfl (res_tmp rfl res_nil)), ?_⟩
       have hno : ∀ p0, GoodP2 p0 → encP p0 ≠ s := by
         intro p0 hg he
         have hs0 : s = a :: s.drop 1 := by simpa using drop_cons ha
         have hka : p0.kd = a := by rw [hs0, encP_cons] at he; exact (List.cons.inj he).1
         have htl : (encP p0).tail = s.drop 1 := by rw [hs0, encP_cons] at he; exact (List.cons.inj he).2
         obtain ⟨⟨g1, g2, g3, g4, g5⟩, hfr⟩ := id hg
         apply absurd (show (if mayPB (⟨a, (UInt64.ofNat (rvN ((s).drop 1))), (UInt64.ofNat (rvN ((((s).drop 1)).drop (rvK ((s).drop 1))))), 0, (⟨0, 0, ([]), []⟩ : Res)⟩ : Rep) then encP (⟨a, (UInt64.ofNat (rvN ((s).drop 1))), (UInt64.ofNat (rvN ((((s).drop 1)).drop (rvK ((s).drop 1))))), 0, (⟨0, 0, ([]), []⟩ : Res)⟩ : Rep) else []) = s from ?_) (by assumption)
         have hp : (⟨a, (UInt64.ofNat (rvN ((s).drop 1))), (UInt64.ofNat (rvN ((((s).drop 1)).drop (rvK ((s).drop 1))))), 0, (⟨0, 0, ([]), []⟩ : Res)⟩ : Rep) = p0 := by
           by_cases k1 : a.toNat = 1
           · first
             | (exfalso; omega)
             | exact rep_eq hka.symm (g2 (by rw [hka]; exact k1)).1.symm (g2 (by rw [hka]; exact k1)).2.symm (by first | (exfalso; omega) | exact (g3 (by rw [hka]; omega)).symm) (by first | (exfalso; omega) | exact (g5 (by rw [hka]; omega)).symm)
           have htl2 : s.drop 1 = vb p0.se.toNat ++ (vb p0.sq.toNat ++ lastP p0) := by
             rw [← htl, encP_n (by rw [hka]; exact k1)]; simp
           obtain ⟨r1, r2, r3, r4, r5, r6, r7⟩ := rv2 htl2
           have s1 : UInt64.ofNat (rvN (s.drop 1)) = p0.se := by rw [r1]; simp
           have s2 : UInt64.ofNat (rvN ((s.drop 1).drop (rvK (s.drop 1)))) = p0.sq := by rw [r5]; simp
           first
           | (exfalso; omega)
           | exact rep_eq hka.symm s1 s2 (g3 (by rw [hka]; omega)).symm (g5 (by rw [hka]; omega)).symm
           | (have l3 : lastP p0 = [p0.ld] := if_pos (by rw [hka]; omega)
              rw [l3] at r7
              first
              | exact rep_eq hka.symm s1 s2 (by rw [r7] at hb_; simpa using hb_.symm) (g5 (by rw [hka]; omega)).symm
              | (exfalso; rw [r7] at e52; cases e52; done))
           | (have l6 : lastP p0 = encR p0.r := by (unfold lastP; rw [if_neg (by rw [hka]; omega), if_pos (by rw [hka]; omega)])
              rw [l6] at r7
              rw [r7] at hC63
              exact rep_eq hka.symm s1 s2 (g3 (by rw [hka]; omega)).symm (rd_self encR_pf hfr (hC63.rd hF63)).2)
         rw [hp, if_pos (show mayPB p0 = true from decide_eq_true hg.1)]; exact he
       exact ⟨zeroP, .slice none 0 0, [], false, .nil, rfl, fitR0, rdP_no hno, (M78.bare.take 0).nils⟩
      ·
       refine WS.nil [(2, _), (4, _), (70, _)] rfl ?_
       refine WC.condF rfl ?_
       refine WC.skip ?_
       refine WC.seq ?_
       refine WC.run ?_
       refine WS.op rfl (op_lds [_, _, _, _, _, _, _, _] (M76.at 0 rfl) rfl (Nat.le_of_ble_eq_true rfl) rfl) ?_
       refine WS.st1 (M76.focus 1 rfl) [_, _, _, _, _, _, _, _] [_, _, _, _, _, _, _, _] rfl rfl rfl rfl rfl (Nat.le_of_ble_eq_true rfl) (Nat.le_of_ble_eq_true rfl) rfl rfl ?_
       intro h79 M80
       replace M80 : Mem _ _ ([(p1, _)] :: [(p6, _)] :: []) _ := M80
       refine WS.op rfl rfl (WS.nil [(2, _), (3, _)] rfl ?_)
       refine WC.ret ?_
       refine ⟨[_, _], (res_cellN [_, _, _, _, _, _, _, _] rfl (M80.at 0 rfl) (Nat.le_of_ble_eq_true rfl) rfl (res_tmp rfl res_nil)), ?_⟩
       have e70b : (if mayPB (⟨a, (UInt64.ofNat (rvN ((s).drop 1))), (UInt64.ofNat (rvN ((((s).drop 1)).drop (rvK ((s).drop 1))))), 0, (⟨0, 0, ([]), []⟩ : Res)⟩ : Rep) then encP (⟨a, (UInt64.ofNat (rvN ((s).drop 1))), (UInt64.ofNat (rvN ((((s).drop 1)).drop (rvK ((s).drop 1))))), 0, (⟨0, 0, ([]), []⟩ : Res)⟩ : Rep) else []) = s := by assumption
       have hm : MayP (⟨a, (UInt64.ofNat (rvN ((s).drop 1))), (UInt64.ofNat (rvN ((((s).drop 1)).drop (rvK ((s).drop 1))))), 0, (⟨0, 0, ([]), []⟩ : Res)⟩ : Rep) := wrP_t (by rw [e70b]; exact e13)
       have henc : encP (⟨a, (UInt64.ofNat (rvN ((s).drop 1))), (UInt64.ofNat (rvN ((((s).drop 1)).drop (rvK ((s).drop 1))))), 0, (⟨0, 0, ([]), []⟩ : Res)⟩ : Rep) = s := by rw [if_pos (show mayPB (⟨a, (UInt64.ofNat (rvN ((s).drop 1))), (UInt64.ofNat (rvN ((((s).drop 1)).drop (rvK ((s).drop 1))))), 0, (⟨0, 0, ([]), []⟩ : Res)⟩ : Rep) = true from decide_eq_true hm)] at e70b; exact e70b
       exact ⟨(⟨a, (UInt64.ofNat (rvN ((s).drop 1))), (UInt64.ofNat (rvN ((((s).drop 1)).drop (rvK ((s).drop 1))))), 0, (⟨0, 0, ([]), []⟩ : Res)⟩ : Rep), _, _, true, .nil, rfl, (by first | exact hF63 | exact fitR0), rdP_yes ⟨hm, by first | exact hF63 | exact fitR0⟩ henc, (M80.bare.take 0).nils⟩
   ·
    refine WS.nil [(0, _), (2, _), (4, _), (5, _), (22, _)] rfl ?_
    refine WC.condF rfl ?_
    refine WC.skip ?_
    refine WC.seq ?_
    refine WC.block ?_
    refine WC.seq ?_
    refine WC.run ?_
    refine WS.op rfl rfl (WS.op rfl (op_ld (M10.at 0 rfl) rfl rfl) ?_)
    refine WS.eqlN (a := (a).toNat) (b := 3) rfl rfl rfl (fun e49 => ?_) (fun e49 => ?_)
    ·
     refine WS.op rfl rfl (WS.op rfl rfl ?_)
     refine WS.sneq (l := ((s).drop 1)) (m := []) rfl rfl rfl (fun e52 => ?_) (fun e52 => ?_)
     ·
      refine WS.op rfl rfl (WS.op rfl rfl (WS.nil [(0, _), (2, _), (4, _), (5, _), (46, _)] rfl ?_))
      refine WC.condT rfl ?_
      refine WC.run ?_
      refine WS.op rfl rfl ?_
      obtain ⟨b_, hb_⟩ : ∃ c, (((s).drop 1))[0]? = some c := ⟨_, List.getElem?_eq_getElem (show 0 < (((s).drop 1)).length by exact List.length_pos_iff.2 e52)⟩
      refine WS.op rfl (op_ixS 0 rfl rfl hb_) (WS.op rfl rfl ?_)
      refine WS.st1 (M10.focus 0 rfl) [_] [_, _, _, _, _, _, _, _] rfl rfl rfl rfl rfl (Nat.le_of_ble_eq_true rfl) (Nat.le_of_ble_eq_true rfl) rfl rfl ?_
      intro h81 M82
      replace M82 : Mem _ _ ([(p6, _)] :: [(p1, _)] :: []) _ := M82
      refine WS.nil [(0, _), (2, _), (4, _)] rfl ?_
      refine WC.seq ?_
      refine WC.seq ?_
      refine WC.run ?_
      refine WS.op rfl (op_lds [_, _, _, _, _, _, _, _] (M82.at 0 rfl) rfl (Nat.le_of_ble_eq_true rfl) rfl) ?_
      refine WS.call rfl rfl rfl (WriteP_ran M82.here (p := (⟨a, 0, 0, b_, (⟨0, 0, ([]), []⟩ : Res)⟩ : Rep)) Row.Sl.nil (by first | exact hF63 | exact fitR0)) ?_
      rintro _ h83 ⟨rfl, N84⟩
      have M85 := M82.trans N84
      refine WS.op rfl rfl ?_
      refine WS.sneq (l := (if mayPB (⟨a, 0, 0, b_, (⟨0, 0, ([]), []⟩ : Res)⟩ : Rep) then encP (⟨a, 0, 0, b_, (⟨0, 0, ([]), []⟩ : Res)⟩ : Rep) else [])) (m := s) rfl rfl rfl (fun e70 => ?_) (fun e70 => ?_)
      ·
       refine WS.nil [(2, _), (4, _), (70, _)] rfl ?_
       refine WC.condT rfl ?_
       refine WC.seq ?_
       refine WC.run ?_
       refine WS.opV (.agg #[(.int .u8 (0 : Int)), (.int .u64 (0 : Int)), (.int .u64 (0 : Int)), (.int .u8 (0 : Int)), (.int .u8 (0 : Int)), (.int .u64 (0 : Int)), (.string (bs ([]))), (.slice none 0 0)]) rfl rfl rfl ?_
       refine WS.st1 (M85.focus 1 rfl) [_, _, _, _, _, _, _, _] [_, _, _, _, _, _, _, _] rfl rfl rfl rfl rfl (Nat.le_of_ble_eq_true rfl) (Nat.le_of_ble_eq_true rfl) rfl rfl ?_
       intro h86 M87
       replace M87 : Mem _ _ ([(p1, _)] :: [(p6, _)] :: []) _ := M87
       refine WS.op rfl rfl (WS.nil [(2, _), (3, _)] rfl ?_)
       refine WC.ret ?_
       refine ⟨[_, _], (res_cellN [_, _, _, _, _, _, _, _] rfl (M87.at 0 rfl) (Nat.le_of_ble_eq_true rfl) rfl (res_tmp rfl res_nil)), ?_⟩
       have hno : ∀ p0, GoodP2 p0 → encP p0 ≠ s := by
         intro p0 hg he
         have hs0 : s = a :: s.drop 1 := by simpa using drop_cons ha
         have hka : p0.kd = a := by rw [hs0, encP_cons] at he; exact (List.cons.inj he).1
         have htl : (encP p0).tail = s.drop 1 := by rw [hs0, encP_cons] at he; exact (List.cons.inj he).2
         obtain ⟨⟨g1, g2, g3, g4, g5⟩, hfr⟩ := id hg
         apply absurd (show (if mayPB (⟨a, 0, 0, b_, (⟨0, 0, ([]), []⟩ : Res)⟩ : Rep) then encP (⟨a, 0, 0, b_, (⟨0, 0, ([]), []⟩ : Res)⟩ : Rep) else []) = s from ?_) (by assumption)
         have hp : (⟨a, 0, 0, b_, (⟨0, 0, ([]), []⟩ : Res)⟩ : Rep) = p0 := by
           by_cases k1 : a.toNat = 1
           · first
             | (exfalso; omega)
             | exact rep_eq hka.symm (g2 (by rw [hka]; exact k1)).1.symm (g2 (by rw [hka]; exact k1)).2.symm (by first | (exfalso; omega) | exact (g3 (by rw [hka]; omega)).symm) (by first | (exfalso; omega) | exact (g5 (by rw [hka]; omega)).symm)
           have htl2 : s.drop 1 = vb p0.se.toNat ++ (vb p0.sq.toNat ++ lastP p0) := by
             rw [← htl, encP_n (by rw [hka]; exact k1)]; simp
           obtain ⟨r1, r2, r3, r4, r5, r6, r7⟩ := rv2 htl2
           have s1 : UInt64.ofNat (rvN (s.drop 1)) = p0.se := by rw [r1]; simp
           have s2 : UInt64.ofNat (rvN ((s.drop 1).drop (rvK (s.drop 1)))) = p0.sq := by rw [r5]; simp
           first
           | (exfalso; omega)
           | exact rep_eq hka.symm s1 s2 (g3 (by rw [hka]; omega)).symm (g5 (by rw [hka]; omega)).symm
           | (have l3 : lastP p0 = [p0.ld] := if_pos (by rw [hka]; omega)
              rw [l3] at r7
              first
              | exact rep_eq hka.symm s1 s2 (by rw [r7] at hb_; simpa using hb_.symm) (g5 (by rw [hka]; omega)).symm
              | (exfalso; rw [r7] at e52; cases e52; done))
           | (have l6 : lastP p0 = encR p0.r := by (unfold lastP; rw [if_neg (by rw [hka]; omega), if_pos (by rw [hka]; omega)])
              rw [l6] at r7
              rw [r7] at hC63
              exact rep_eq hka.symm s1 s2 (g3 (by rw [hka]; omega)).symm (rd_self encR_pf hfr (hC63.rd hF63)).2)
         rw [hp, if_pos (show mayPB p0 = true from decide_eq_true hg.1)]; exact he
       exact ⟨zeroP, .slice none 0 0, [], false, .nil, rfl, fitR0, rdP_no hno, (M87.bare.take 0).nils⟩
      ·
       refine WS.nil [(2, _), (4, _), (70, _)] rfl ?_
       refine WC.condF rfl ?_
       refine WC.skip ?_
       refine WC.seq ?_
       refine WC.run ?_
       refine WS.op rfl (op_lds [_, _, _, _, _, _, _, _] (M85.at 0 rfl) rfl (Nat.le_of_ble_eq_true rfl) rfl) ?_
       refine WS.st1 (M85.focus 1 rfl) [_, _, _, _, _, _, _, _] [_, _, _, _, _, _, _, _] rfl rfl rfl rfl rfl (Nat.le_of_ble_eq_true rfl) (Nat.le_of_ble_eq_true rfl) rfl rfl ?_
       intro h88 M89
       replace M89 : Mem _ _ ([(p1, _)] :: [(p6, _)] :: []) _ := M89
       refine WS.op rfl rfl (WS.nil [(2, _), (3, _)] rfl ?_)
       refine WC.ret ?_
       refine ⟨[_, _], (res_cellN [_, _, _, _, _, _, _, _] rfl (M89.at 0 rfl) (Nat.le_of_ble_eq_true rfl) rfl (res_tmp rfl res_nil)), ?_⟩
       have e70b : (if mayPB (⟨a, 0, 0, b_, (⟨0, 0, ([]), []⟩ : Res)⟩ : Rep) then encP (⟨a, 0, 0, b_, (⟨0, 0, ([]), []⟩ : Res)⟩ : Rep) else []) = s := by assumption
       have hm : MayP (⟨a, 0, 0, b_, (⟨0, 0, ([]), []⟩ : Res)⟩ : Rep) := wrP_t (by rw [e70b]; exact e13)
       have henc : encP (⟨a, 0, 0, b_, (⟨0, 0, ([]), []⟩ : Res)⟩ : Rep) = s := by rw [if_pos (show mayPB (⟨a, 0, 0, b_, (⟨0, 0, ([]), []⟩ : Res)⟩ : Rep) = true from decide_eq_true hm)] at e70b; exact e70b
       exact ⟨(⟨a, 0, 0, b_, (⟨0, 0, ([]), []⟩ : Res)⟩ : Rep), _, _, true, .nil, rfl, (by first | exact hF63 | exact fitR0), rdP_yes ⟨hm, by first | exact hF63 | exact fitR0⟩ henc, (M89.bare.take 0).nils⟩
     ·
      refine WS.op rfl rfl (WS.op rfl rfl (WS.nil [(0, _), (2, _), (4, _), (5, _), (46, _)] rfl ?_))
      refine WC.condF rfl ?_
      refine WC.seq ?_
      refine WC.run ?_
      refine WS.op rfl rfl (WS.op rfl (op_ld (M10.at 0 rfl) rfl rfl) ?_)
      refine WS.eqlN (a := (a).toNat) (b := 6) rfl rfl rfl (fun e60 => ?_) (fun e60 => ?_)
      ·
       refine WS.op rfl rfl (WS.nil [(0, _), (2, _), (4, _), (5, _), (57, _)] rfl ?_)
       refine WC.condT rfl ?_
       refine WC.run ?_
       refine WS.op rfl rfl ?_
       refine WS.call rfl rfl rfl (ReadR_ran M10.here (s := ((s).drop 1)) (by first | omega | (simp only [List.length_drop]; omega))) ?_
       rintro _ h90 ⟨r63, V93, S94, ok63, O95, rfl, hF63, hy63, hn63, hC63, N91⟩
       obtain ⟨P96, rfl⟩ := O95.shape
       have M92 := M10.trans N91
       replace M92 : Mem _ _ (S94 :: [(p6, _)] :: [(p1, _)] :: []) _ := M92
       refine WS.op rfl rfl (WS.op rfl rfl (WS.op rfl rfl (WS.op rfl rfl ?_)))
       refine WS.st1 (M92.focus 1 rfl) [_, _, _, _] [_, _, _, _, _, _, _, _] rfl rfl rfl rfl rfl (Nat.le_of_ble_eq_true rfl) (Nat.le_of_ble_eq_true rfl) rfl rfl ?_
       intro h97 M98
       replace M98 : Mem _ _ ([(p6, _)] :: S94 :: [(p1, _)] :: []) _ := M98
       refine WS.nil [(0, _), (2, _), (4, _)] rfl ?_
       refine WC.seq ?_
       refine WC.seq ?_
       refine WC.run ?_
       refine WS.op rfl (op_lds [_, _, _, _, _, _, _, _] (M98.at 0 rfl) rfl (Nat.le_of_ble_eq_true rfl) rfl) ?_
       refine WS.call rfl rfl rfl (WriteP_ran M98.here (p := (⟨a, 0, 0, 0, r63⟩ : Rep)) (Row.Own.sl O95 (Mem.owni M98 1 rfl)) (by first | exact hF63 | exact fitR0)) ?_
       rintro _ h99 ⟨rfl, N100⟩
       have M101 := M98.trans N100
       refine WS.op rfl rfl ?_
       refine WS.sneq (l := (if mayPB (⟨a, 0, 0, 0, r63⟩ : Rep) then encP (⟨a, 0, 0, 0, r63⟩ : Rep) else [])) (m := s) rfl rfl rfl (fun e70 => ?_) (fun e70 => ?_)
       ·
        refine WS.nil [(2, _), (4, _), (70, _)] rfl ?_
        refine WC.condT rfl ?_
        refine WC.seq ?_
        refine WC.run ?_
        refine WS.opV (.agg #[(.int .u8 (0 : Int)), (.int .u64 (0 : Int)), (.int .u64 (0 : Int)), (.int .u8 (0 : Int)), (.int .u8 (0 : Int)), (.int .u64 (0 : Int)), (.string (bs ([]))), (.slice none 0 0)]) rfl rfl rfl ?_
        refine WS.st1 (M101.focus 2 rfl) [_, _, _, _, _, _, _, _] [_, _, _, _, _, _, _, _] rfl rfl rfl rfl rfl (Nat.le_of_ble_eq_true rfl) (Nat.le_of_ble_eq_true rfl) rfl rfl ?_
        intro h102 M103
        replace M103 : Mem _ _ ([(p1, _)] :: [(p6, _)] :: S94 :: []) _ := M103
        refine WS.op rfl rfl (WS.nil [(2, _), (3, _)] rfl ?_)
        refine WC.ret ?_
        refine ⟨[_, _], (res_cellN [_, _, _, _, _, _, _, _] rfl (M103.at 0 rfl) (Nat.le_of_ble_eq_true rfl) rfl (res_tmp rfl res_nil)), ?_⟩
        have hno : ∀ p0, GoodP2 p0 → encP p0 ≠ s := by
          intro p0 hg he
          have hs0 : s = a :: s.drop 1 := by simpa using drop_cons ha
          have hka : p0.kd = a := by rw [hs0, encP_cons] at he; exact (List.cons.inj he).1
          have htl : (encP p0).tail = s.drop 1 := by rw [hs0, encP_cons] at he; exact (List.cons.inj he).2
          obtain ⟨⟨g1, g2, g3, g4, g5⟩, hfr⟩ := id hg
          apply absurd (show (if mayPB (⟨a, 0, 0, 0, r63⟩ : Rep) then encP (⟨a, 0, 0, 0, r63⟩ : Rep) else []) = s from ?_) (by assumption)
          have hp : (⟨a, 0, 0, 0, r63⟩ : Rep) = p0 := by
            by_cases k1 : a.toNat = 1
            · first
              | (exfalso; omega)
              | exact rep_eq hka.symm (g2 (by rw [hka]; exact k1)).1.symm (g2 (by rw [hka]; exact k1)).2.symm (by first | (exfalso; omega) | exact (g3 (by rw [hka]; omega)).symm) (by first | (exfalso; omega) | exact (g5 (by rw [hka]; omega)).symm)
            have htl2 : s.drop 1 = vb p0.se.toNat ++ (vb p0.sq.toNat ++ lastP p0) := by
              rw [← htl, encP_n (by rw [hka]; exact k1)]; simp
            obtain ⟨r1, r2, r3, r4, r5, r6, r7⟩ := rv2 htl2
            have s1 : UInt64.ofNat (rvN (s.drop 1)) = p0.se := by rw [r1]; simp
            have s2 : UInt64.ofNat (rvN ((s.drop 1).drop (rvK (s.drop 1)))) = p0.sq := by rw [r5]; simp
            first
            | (exfalso; omega)
            | exact rep_eq hka.symm s1 s2 (g3 (by rw [hka]; omega)).symm (g5 (by rw [hka]; omega)).symm
            | (have l3 : lastP p0 = [p0.ld] := if_pos (by rw [hka]; omega)
               rw [l3] at r7
               first
               | exact rep_eq hka.symm s1 s2 (by rw [r7] at hb_; simpa using hb_.symm) (g5 (by rw [hka]; omega)).symm
               | (exfalso; rw [r7] at e52; cases e52; done))
            | (have l6 : lastP p0 = encR p0.r := by (unfold lastP; rw [if_neg (by rw [hka]; omega), if_pos (by rw [hka]; omega)])
               rw [l6] at r7
               rw [r7] at hC63
               exact rep_eq hka.symm s1 s2 (g3 (by rw [hka]; omega)).symm (rd_self encR_pf hfr (hC63.rd hF63)).2)
          rw [hp, if_pos (show mayPB p0 = true from decide_eq_true hg.1)]; exact he
        exact ⟨zeroP, .slice none 0 0, [], false, .nil, rfl, fitR0, rdP_no hno, (M103.bare.take 0).nils⟩
       ·
        refine WS.nil [(2, _), (4, _), (70, _)] rfl ?_
        refine WC.condF rfl ?_
        refine WC.skip ?_
        refine WC.seq ?_
        refine WC.run ?_
        refine WS.op rfl (op_lds [_, _, _, _, _, _, _, _] (M101.at 0 rfl) rfl (Nat.le_of_ble_eq_true rfl) rfl) ?_
        refine WS.st1 (M101.focus 2 rfl) [_, _, _, _, _, _, _, _] [_, _, _, _, _, _, _, _] rfl rfl rfl rfl rfl (Nat.le_of_ble_eq_true rfl) (Nat.le_of_ble_eq_true rfl) rfl rfl ?_
        intro h104 M105
        replace M105 : Mem _ _ ([(p1, _)] :: [(p6, _)] :: S94 :: []) _ := M105
        refine WS.op rfl rfl (WS.nil [(2, _), (3, _)] rfl ?_)
        refine WC.ret ?_
        refine ⟨[_, _], (res_cellN [_, _, _, _, _, _, _, _] rfl (M105.at 0 rfl) (Nat.le_of_ble_eq_true rfl) rfl (res_tmp rfl res_nil)), ?_⟩
        have e70b : (if mayPB (⟨a, 0, 0, 0, r63⟩ : Rep) then encP (⟨a, 0, 0, 0, r63⟩ : Rep) else []) = s := by assumption
        have hm : MayP (⟨a, 0, 0, 0, r63⟩ : Rep) := wrP_t (by rw [e70b]; exact e13)
        have henc : encP (⟨a, 0, 0, 0, r63⟩ : Rep) = s := by rw [if_pos (show mayPB (⟨a, 0, 0, 0, r63⟩ : Rep) = true from decide_eq_true hm)] at e70b; exact e70b
        exact ⟨(⟨a, 0, 0, 0, r63⟩ : Rep), _, _, true, O95, rfl, (by first | exact hF63 | exact fitR0), rdP_yes ⟨hm, by first | exact hF63 | exact fitR0⟩ henc, ((M105.bare.focus 2 rfl).take 1)⟩
      ·
       refine WS.op rfl rfl (WS.nil [(0, _), (2, _), (4, _), (5, _), (57, _)] rfl ?_)
       refine WC.condF rfl ?_
       refine WC.skip ?_
       refine WC.seq ?_
       refine WC.seq ?_
       refine WC.run ?_
       refine WS.op rfl (op_lds [_, _, _, _, _, _, _, _] (M10.at 0 rfl) rfl (Nat.le_of_ble_eq_true rfl) rfl) ?_
       refine WS.call rfl rfl rfl (WriteP_ran M10.here (p := (⟨a, 0, 0, 0, (⟨0, 0, ([]), []⟩ : Res)⟩ : Rep)) Row.Sl.nil (by first | exact hF63 | exact fitR0)) ?_
       rintro _ h106 ⟨rfl, N107⟩
       have M108 := M10.trans N107
       refine WS.op rfl rfl ?_
       refine WS.sneq (l := (if mayPB (⟨a, 0, 0, 0, (⟨0, 0, ([]), []⟩ : Res)⟩ : Rep) then encP (⟨a, 0, 0, 0, (⟨0, 0, ([]), []⟩ : Res)⟩ : Rep) else [])) (m := s) rfl rfl rfl (fun e70 => ?_) (fun e70 => ?_)
       ·
        refine WS.nil [(2, _), (4, _), (70, _)] rfl ?_
        refine WC.condT rfl ?_
        refine WC.seq ?_
        refine WC.run ?_
        refine WS.opV (.agg #[(.int .u8 (0 : Int)), (.int .u64 (0 : Int)), (.int .u64 (0 : Int)), (.int .u8 (0 : Int)), (.int .u8 (0 : Int)), (.int .u64 (0 : Int)), (.string (bs ([]))), (.slice none 0 0)]) rfl rfl rfl ?_
        refine WS.st1 (M108.focus 1 rfl) [_, _, _, _, _, _, _, _] [_, _, _, _, _, _, _, _] rfl rfl rfl rfl rfl (Nat.le_of_ble_eq_true rfl) (Nat.le_of_ble_eq_true rfl) rfl rfl ?_
        intro h109 M110
        replace M110 : Mem _ _ ([(p1, _)] :: [(p6, _)] :: []) _ := M110
        refine WS.op rfl rfl (WS.nil [(2, _), (3, _)] rfl ?_)
        refine WC.ret ?_
        refine ⟨[_, _], (res_cellN [_, _, _, _, _, _, _, _] rfl (M110.at 0 rfl) (Nat.le_of_ble_eq_true rfl) rfl (res_tmp rfl res_nil)), ?_⟩
        have hno : ∀ p0, GoodP2 p0 → encP p0 ≠ s := by
          intro p0 hg he
          have hs0 : s = a :: s.drop 1 := by simpa using drop_cons ha
          have hka : p0.kd = a := by rw [hs0, encP_cons] at he; exact (List.cons.inj he).1
          have htl : (encP p0).tail = s.drop 1 := by rw [hs0, encP_cons] at he; exact (List.cons.inj he).2
          obtain ⟨⟨g1, g2, g3, g4, g5⟩, hfr⟩ := id hg
          apply absurd (show (if mayPB (⟨a, 0, 0, 0, (⟨0, 0, ([]), []⟩ : Res)⟩ : Rep) then encP (⟨a, 0, 0, 0, (⟨0, 0, ([]), []⟩ : Res)⟩ : Rep) else []) = s from ?_) (by assumption)
          have hp : (⟨a, 0, 0, 0, (⟨0, 0, ([]), []⟩ : Res)⟩ : Rep) = p0 := by
            by_cases k1 : a.toNat = 1
            · first
              | (exfalso; omega)
              | exact rep_eq hka.symm (g2 (by rw [hka]; exact k1)).1.symm (g2 (by rw [hka]; exact k1)).2.symm (by first | (exfalso; omega) | exact (g3 (by rw [hka]; omega)).symm) (by first | (exfalso; omega) | exact (g5 (by rw [hka]; omega)).symm)
            have htl2 : s.drop 1 = vb p0.se.toNat ++ (vb p0.sq.toNat ++ lastP p0) := by
              rw [← htl, encP_n (by rw [hka]; exact k1)]; simp
            obtain ⟨r1, r2, r3, r4, r5, r6, r7⟩ := rv2 htl2
            have s1 : UInt64.ofNat (rvN (s.drop 1)) = p0.se := by rw [r1]; simp
            have s2 : UInt64.ofNat (rvN ((s.drop 1).drop (rvK (s.drop 1)))) = p0.sq := by rw [r5]; simp
            first
            | (exfalso; omega)
            | exact rep_eq hka.symm s1 s2 (g3 (by rw [hka]; omega)).symm (g5 (by rw [hka]; omega)).symm
            | (have l3 : lastP p0 = [p0.ld] := if_pos (by rw [hka]; omega)
               rw [l3] at r7
               first
               | exact rep_eq hka.symm s1 s2 (by rw [r7] at hb_; simpa using hb_.symm) (g5 (by rw [hka]; omega)).symm
               | (exfalso; rw [r7] at e52; cases e52; done))
            | (have l6 : lastP p0 = encR p0.r := by (unfold lastP; rw [if_neg (by rw [hka]; omega), if_pos (by rw [hka]; omega)])
               rw [l6] at r7
               rw [r7] at hC63
               exact rep_eq hka.symm s1 s2 (g3 (by rw [hka]; omega)).symm (rd_self encR_pf hfr (hC63.rd hF63)).2)
          rw [hp, if_pos (show mayPB p0 = true from decide_eq_true hg.1)]; exact he
        exact ⟨zeroP, .slice none 0 0, [], false, .nil, rfl, fitR0, rdP_no hno, (M110.bare.take 0).nils⟩
       ·
        refine WS.nil [(2, _), (4, _), (70, _)] rfl ?_
        refine WC.condF rfl ?_
        refine WC.skip ?_
        refine WC.seq ?_
        refine WC.run ?_
        refine WS.op rfl (op_lds [_, _, _, _, _, _, _, _] (M108.at 0 rfl) rfl (Nat.le_of_ble_eq_true rfl) rfl) ?_
        refine WS.st1 (M108.focus 1 rfl) [_, _, _, _, _, _, _, _] [_, _, _, _, _, _, _, _] rfl rfl rfl rfl rfl (Nat.le_of_ble_eq_true rfl) (Nat.le_of_ble_eq_true rfl) rfl rfl ?_
        intro h111 M112
        replace M112 : Mem _ _ ([(p1, _)] :: [(p6, _)] :: []) _ := M112
        refine WS.op rfl rfl (WS.nil [(2, _), (3, _)] rfl ?_)
        refine WC.ret ?_
        refine ⟨[_, _], (res_cellN [_, _, _, _, _, _, _, _] rfl (M112.at 0 rfl) (Nat.le_of_ble_eq_true rfl) rfl (res_tmp rfl res_nil)), ?_⟩
        have e70b : (if mayPB (⟨a, 0, 0, 0, (⟨0, 0, ([]), []⟩ : Res)⟩ : Rep) then encP (⟨a, 0, 0, 0, (⟨0, 0, ([]), []⟩ : Res)⟩ : Rep) else []) = s := by assumption
        have hm : MayP (⟨a, 0, 0, 0, (⟨0, 0, ([]), []⟩ : Res)⟩ : Rep) := wrP_t (by rw [e70b]; exact e13)
        have henc : encP (⟨a, 0, 0, 0, (⟨0, 0, ([]), []⟩ : Res)⟩ : Rep) = s := by rw [if_pos (show mayPB (⟨a, 0, 0, 0, (⟨0, 0, ([]), []⟩ : Res)⟩ : Rep) = true from decide_eq_true hm)] at e70b; exact e70b
        exact ⟨(⟨a, 0, 0, 0, (⟨0, 0, ([]), []⟩ : Res)⟩ : Rep), _, _, true, .nil, rfl, (by first | exact hF63 | exact fitR0), rdP_yes ⟨hm, by first | exact hF63 | exact fitR0⟩ henc, (M112.bare.take 0).nils⟩
    ·
     refine WS.op rfl rfl (WS.off rfl (WS.off rfl (WS.op rfl rfl (WS.op rfl rfl (WS.nil [(0, _), (2, _), (4, _), (5, _), (46, _)] rfl ?_)))))
     refine WC.condF rfl ?_
     refine WC.seq ?_
     refine WC.run ?_
     refine WS.op rfl rfl (WS.op rfl (op_ld (M10.at 0 rfl) rfl rfl) ?_)
     refine WS.eqlN (a := (a).toNat) (b := 6) rfl rfl rfl (fun e60 => ?_) (fun e60 => ?_)
     ·
      refine WS.op rfl rfl (WS.nil [(0, _), (2, _), (4, _), (5, _), (57, _)] rfl ?_)
      refine WC.condT rfl ?_
      refine WC.run ?_
      refine WS.op rfl rfl ?_
      refine WS.call rfl rfl rfl (ReadR_ran M10.here (s := ((s).drop 1)) (by first | omega | (simp only [List.length_drop]; omega))) ?_
      rintro _ h113 ⟨r63, V116, S117, ok63, O118, rfl, hF63, hy63, hn63, hC63, N114⟩
      obtain ⟨P119, rfl⟩ := O118.shape
      have M115 := M10.trans N114
      replace M115 : Mem _ _ (S117 :: [(p6, _)] :: [(p1, _)] :: []) _ := M115
      refine WS.op rfl rfl (WS.op rfl rfl (WS.op rfl rfl (WS.op rfl rfl ?_)))
      refine WS.st1 (M115.focus 1 rfl) [_, _, _, _] [_, _, _, _, _, _, _, _] rfl rfl rfl rfl rfl (Nat.le_of_ble_eq_true rfl) (Nat.le_of_ble_eq_true rfl) rfl rfl ?_
      intro h120 M121
      replace M121 : Mem _ _ ([(p6, _)] :: S117 :: [(p1, _)] :: []) _ := M121
      refine WS.nil [(0, _), (2, _), (4, _)] rfl ?_
      refine WC.seq ?_
      refine WC.seq ?_
      refine WC.run ?_
      refine WS.op rfl (op_lds [_, _, _, _, _, _, _, _] (M121.at 0 rfl) rfl (Nat.le_of_ble_eq_true rfl) rfl) ?_
      refine WS.call rfl rfl rfl (WriteP_ran M121.here (p := (⟨a, 0, 0, 0, r63⟩ : Rep)) (Row.Own.sl O118 (Mem.owni M121 1 rfl)) (by first | exact hF63 | exact fitR0)) ?_
      rintro _ h122 ⟨rfl, N123⟩
      have M124 := M121.trans N123
      refine WS.op rfl rfl ?_
      refine WS.sneq (l := (if mayPB (⟨a, 0, 0, 0, r63⟩ : Rep) then encP (⟨a, 0, 0, 0, r63⟩ : Rep) else [])) (m := s) rfl rfl rfl (fun e70 => ?_) (fun e70 => ?_)
      ·
       refine WS.nil [(2, _), (4, _), (70, _)] rfl ?_
       refine WC.condT rfl ?_
       refine WC.seq ?_
       refine WC.run ?_
       refine WS.opV (.agg #[(.int .u8 (0 : Int)), (.int .u64 (0 : Int)), (.int .u64 (0 : Int)), (.int .u8 (0 : Int)), (.int .u8 (0 : Int)), (.int .u64 (0 : Int)), (.string (bs ([]))), (.slice none 0 0)]) rfl rfl rfl ?_
       refine WS.st1 (M124.focus 2 rfl) [_, _, _, _, _, _, _, _] [_, _, _, _, _, _, _, _] rfl rfl rfl rfl rfl (Nat.le_of_ble_eq_true rfl) (Nat.le_of_ble_eq_true rfl) rfl rfl ?_
       intro h125 M126
       replace M126 : Mem _ _ ([(p1, _)] :: [(p6, _)] :: S117 :: []) _ := M126
       refine WS.op rfl rfl (WS.nil [(2, _), (3, _)] rfl ?_)
       refine WC.ret ?_
       refine ⟨[_, _], (res_cellN [_, _, _, _, _, _, _, _] rfl (M126.at 0 rfl) (Nat.le_of_ble_eq_true rfl) rfl (res_tmp rfl res_nil)), ?_⟩
       have hno : ∀ p0, GoodP2 p0 → encP p0 ≠ s := by
         intro p0 hg he
         have hs0 : s = a :: s.drop 1 := by simpa using drop_cons ha
         have hka : p0.kd = a := by rw [hs0, encP_cons] at he; exact (List.cons.inj he).1
         have htl : (encP p0).tail = s.drop 1 := by rw [hs0, encP_cons] at he; exact (List.cons.inj he).2
         obtain ⟨⟨g1, g2, g3, g4, g5⟩, hfr⟩ := id hg
         apply absurd (show (if mayPB (⟨a, 0, 0, 0, r63⟩ : Rep) then encP (⟨a, 0, 0, 0, r63⟩ : Rep) else []) = s from ?_) (by assumption)
         have hp : (⟨a, 0, 0, 0, r63⟩ : Rep) = p0 := by
           by_cases k1 : a.toNat = 1
           · first
             | (exfalso; omega)
             | exact rep_eq hka.symm (g2 (by rw [hka]; exact k1)).1.symm (g2 (by rw [hka]; exact k1)).2.symm (by first | (exfalso; omega) | exact (g3 (by rw [hka]; omega)).symm) (by first | (exfalso; omega) | exact (g5 (by rw [hka]; omega)).symm)
           have htl2 : s.drop 1 = vb p0.se.toNat ++ (vb p0.sq.toNat ++ lastP p0) := by
             rw [← htl, encP_n (by rw [hka]; exact k1)]; simp
           obtain ⟨r1, r2, r3, r4, r5, r6, r7⟩ := rv2 htl2
           have s1 : UInt64.ofNat (rvN (s.drop 1)) = p0.se := by rw [r1]; simp
           have s2 : UInt64.ofNat (rvN ((s.drop 1).drop (rvK (s.drop 1)))) = p0.sq := by rw [r5]; simp
           first
           | (exfalso; omega)
           | exact rep_eq hka.symm s1 s2 (g3 (by rw [hka]; omega)).symm (g5 (by rw [hka]; omega)).symm
           | (have l3 : lastP p0 = [p0.ld] := if_pos (by rw [hka]; omega)
              rw [l3] at r7
              first
              | exact rep_eq hka.symm s1 s2 (by rw [r7] at hb_; simpa using hb_.symm) (g5 (by rw [hka]; omega)).symm
              | (exfalso; rw [r7] at e52; cases e52; done))
           | (have l6 : lastP p0 = encR p0.r := by (unfold lastP; rw [if_neg (by rw [hka]; omega), if_pos (by rw [hka]; omega)])
              rw [l6] at r7
              rw [r7] at hC63
              exact rep_eq hka.symm s1 s2 (g3 (by rw [hka]; omega)).symm (rd_self encR_pf hfr (hC63.rd hF63)).2)
         rw [hp, if_pos (show mayPB p0 = true from decide_eq_true hg.1)]; exact he
       exact ⟨zeroP, .slice none 0 0, [], false, .nil, rfl, fitR0, rdP_no hno, (M126.bare.take 0).nils⟩
      ·
       refine WS.nil [(2, _), (4, _), (70, _)] rfl ?_
       refine WC.condF rfl ?_
       refine WC.skip ?_
       refine WC.seq ?_
       refine WC.run ?_
       refine WS.op rfl (op_lds [_, _, _, _, _, _, _, _] (M124.at 0 rfl) rfl (Nat.le_of_ble_eq_true rfl) rfl) ?_
       refine WS.st1 (M124.focus 2 rfl) [_, _, _, _, _, _, _, _] [_, _, _, _, _, _, _, _] rfl rfl rfl rfl rfl (Nat.le_of_ble_eq_true rfl) (Nat.le_of_ble_eq_true rfl) rfl rfl ?_
       intro h127 M128
       replace M128 : Mem _ _ ([(p1, _)] :: [(p6, _)] :: S117 :: []) _ := M128
       refine WS.op rfl rfl (WS.nil [(2, _), (3, _)] rfl ?_)
       refine WC.ret ?_
       refine ⟨[_, _], (res_cellN [_, _, _, _, _, _, _, _] rfl (M128.at 0 rfl) (Nat.le_of_ble_eq_true rfl) rfl (res_tmp rfl res_nil)), ?_⟩
       have e70b : (if mayPB (⟨a, 0, 0, 0, r63⟩ : Rep) then encP (⟨a, 0, 0, 0, r63⟩ : Rep) else []) = s := by assumption
       have hm : MayP (⟨a, 0, 0, 0, r63⟩ : Rep) := wrP_t (by rw [e70b]; exact e13)
       have henc : encP (⟨a, 0, 0, 0, r63⟩ : Rep) = s := by rw [if_pos (show mayPB (⟨a, 0, 0, 0, r63⟩ : Rep) = true from decide_eq_true hm)] at e70b; exact e70b
       exact ⟨(⟨a, 0, 0, 0, r63⟩ : Rep), _, _, true, O118, rfl, (by first | exact hF63 | exact fitR0), rdP_yes ⟨hm, by first | exact hF63 | exact fitR0⟩ henc, ((M128.bare.focus 2 rfl).take 1)⟩
     ·
      refine WS.op rfl rfl (WS.nil [(0, _), (2, _), (4, _), (5, _), (57, _)] rfl ?_)
      refine WC.condF rfl ?_
      refine WC.skip ?_
      refine WC.seq ?_
      refine WC.seq ?_
      refine WC.run ?_
      refine WS.op rfl (op_lds [_, _, _, _, _, _, _, _] (M10.at 0 rfl) rfl (Nat.le_of_ble_eq_true rfl) rfl) ?_
      refine WS.call rfl rfl rfl (WriteP_ran M10.here (p := (⟨a, 0, 0, 0, (⟨0, 0, ([]), []⟩ : Res)⟩ : Rep)) Row.Sl.nil (by first | exact hF63 | exact fitR0)) ?_
      rintro _ h129 ⟨rfl, N130⟩
      have M131 := M10.trans N130
      refine WS.op rfl rfl ?_
      refine WS.sneq (l := (if mayPB (⟨a, 0, 0, 0, (⟨0, 0, ([]), []⟩ : Res)⟩ : Rep) then encP (⟨a, 0, 0, 0, (⟨0, 0, ([]), []⟩ : Res)⟩ : Rep) else [])) (m := s) rfl rfl rfl (fun e70 => ?_) (fun e70 => ?_)
      ·
       refine WS.nil [(2, _), (4, _), (70, _)] rfl ?_
       refine WC.condT rfl ?_
       refine WC.seq ?_
       refine WC.run ?_
       refine WS.opV (.agg #[(.int .u8 (0 : Int)), (.int .u64 (0 : Int)), (.int .u64 (0 : Int)), (.int .u8 (0 : Int)), (.int .u8 (0 : Int)), (.int .u64 (0 : Int)), (.string (bs ([]))), (.slice none 0 0)]) rfl rfl rfl ?_
       refine WS.st1 (M131.focus 1 rfl) [_, _, _, _, _, _, _, _] [_, _, _, _, _, _, _, _] rfl rfl rfl rfl rfl (Nat.le_of_ble_eq_true rfl) (Nat.le_of_ble_eq_true rfl) rfl rfl ?_
       intro h132 M133
       replace M133 : Mem _ _ ([(p1, _)] :: [(p6, _)] :: []) _ := M133
       refine WS.op rfl rfl (WS.nil [(2, _), (3, _)] rfl ?_)
       refine WC.ret ?_
       refine ⟨[_, _], (res_cellN [_, _, _, _, _, _, _, _] rfl (M133.at 0 rfl) (Nat.le_of_ble_eq_true rfl) rfl (res_tmp rfl res_nil)), ?_⟩
       have hno : ∀ p0, GoodP2 p0 → encP p0 ≠ s := by
         intro p0 hg he
         have hs0 : s = a :: s.drop 1 := by simpa using drop_cons ha
         have hka : p0.kd = a := by rw [hs0, encP_cons] at he; exact (List.cons.inj he).1
         have htl : (encP p0).tail = s.drop 1 := by rw [hs0, encP_cons] at he; exact (List.cons.inj he).2
         obtain ⟨⟨g1, g2, g3, g4, g5⟩, hfr⟩ := id hg
         apply absurd (show (if mayPB (⟨a, 0, 0, 0, (⟨0, 0, ([]), []⟩ : Res)⟩ : Rep) then encP (⟨a, 0, 0, 0, (⟨0, 0, ([]), []⟩ : Res)⟩ : Rep) else []) = s from ?_) (by assumption)
         have hp : (⟨a, 0, 0, 0, (⟨0, 0, ([]), []⟩ : Res)⟩ : Rep) = p0 := by
           by_cases k1 : a.toNat = 1
           · first
             | (exfalso; omega)
             | exact rep_eq hka.symm (g2 (by rw [hka]; exact k1)).1.symm (g2 (by rw [hka]; exact k1)).2.symm (by first | (exfalso; omega) | exact (g3 (by rw [hka]; omega)).symm) (by first | (exfalso; omega) | exact (g5 (by rw [hka]; omega)).symm)
           have htl2 : s.drop 1 = vb p0.se.toNat ++ (vb p0.sq.toNat ++ lastP p0) := by
             rw [← htl, encP_n (by rw [hka]; exact k1)]; simp
           obtain ⟨r1, r2, r3, r4, r5, r6, r7⟩ := rv2 htl2
           have s1 : UInt64.ofNat (rvN (s.drop 1)) = p0.se := by rw [r1]; simp
           have s2 : UInt64.ofNat (rvN ((s.drop 1).drop (rvK (s.drop 1)))) = p0.sq := by rw [r5]; simp
           first
           | (exfalso; omega)
           | exact rep_eq hka.symm s1 s2 (g3 (by rw [hka]; omega)).symm (g5 (by rw [hka]; omega)).symm
           | (have l3 : lastP p0 = [p0.ld] := if_pos (by rw [hka]; omega)
              rw [l3] at r7
              first
              | exact rep_eq hka.symm s1 s2 (by rw [r7] at hb_; simpa using hb_.symm) (g5 (by rw [hka]; omega)).symm
              | (exfalso; rw [r7] at e52; cases e52; done))
           | (have l6 : lastP p0 = encR p0.r := by (unfold lastP; rw [if_neg (by rw [hka]; omega), if_pos (by rw [hka]; omega)])
              rw [l6] at r7
              rw [r7] at hC63
              exact rep_eq hka.symm s1 s2 (g3 (by rw [hka]; omega)).symm (rd_self encR_pf hfr (hC63.rd hF63)).2)
         rw [hp, if_pos (show mayPB p0 = true from decide_eq_true hg.1)]; exact he
       exact ⟨zeroP, .slice none 0 0, [], false, .nil, rfl, fitR0, rdP_no hno, (M133.bare.take 0).nils⟩
      ·
       refine WS.nil [(2, _), (4, _), (70, _)] rfl ?_
       refine WC.condF rfl ?_
       refine WC.skip ?_
       refine WC.seq ?_
       refine WC.run ?_
       refine WS.op rfl (op_lds [_, _, _, _, _, _, _, _] (M131.at 0 rfl) rfl (Nat.le_of_ble_eq_true rfl) rfl) ?_
       refine WS.st1 (M131.focus 1 rfl) [_, _, _, _, _, _, _, _] [_, _, _, _, _, _, _, _] rfl rfl rfl rfl rfl (Nat.le_of_ble_eq_true rfl) (Nat.le_of_ble_eq_true rfl) rfl rfl ?_
       intro h134 M135
       replace M135 : Mem _ _ ([(p1, _)] :: [(p6, _)] :: []) _ := M135
       refine WS.op rfl rfl (WS.nil [(2, _), (3, _)] rfl ?_)
       refine WC.ret ?_
       refine ⟨[_, _], (res_cellN [_, _, _, _, _, _, _, _] rfl (M135.at 0 rfl) (Nat.le_of_ble_eq_true rfl) rfl (res_tmp rfl res_nil)), ?_⟩
       have e70b : (if mayPB (⟨a, 0, 0, 0, (⟨0, 0, ([]), []⟩ : Res)⟩ : Rep) then encP (⟨a, 0, 0, 0, (⟨0, 0, ([]), []⟩ : Res)⟩ : Rep) else []) = s := by assumption
       have hm : MayP (⟨a, 0, 0, 0, (⟨0, 0, ([]), []⟩ : Res)⟩ : Rep) := wrP_t (by rw [e70b]; exact e13)
       have henc : encP (⟨a, 0, 0, 0, (⟨0, 0, ([]), []⟩ : Res)⟩ : Rep) = s := by rw [if_pos (show mayPB (⟨a, 0, 0, 0, (⟨0, 0, ([]), []⟩ : Res)⟩ : Rep) = true from decide_eq_true hm)] at e70b; exact e70b
       exact ⟨(⟨a, 0, 0, 0, (⟨0, 0, ([]), []⟩ : Res)⟩ : Rep), _, _, true, .nil, rfl, (by first | exact hF63 | exact fitR0), rdP_yes ⟨hm, by first | exact hF63 | exact fitR0⟩ henc, (M135.bare.take 0).nils⟩
end Go.Proofs.Yteikngjiaboeaaa.Wt
namespace Go.Proofs.Yteikngjiaboeaaa.Wt
open Go Go.Proofs.Yteikngjiaboeaaa.Am Go.Proofs.Yteikngjiaboeaaa.IrAll
set_option linter.unusedVariables false
set_option linter.unusedSimpArgs false
set_option maxRecDepth 100000 in
theorem opens_32 : OpensL Try.prog 32 (α := Frm) (fun h f cs => ∃ V, cs = Frm.cells f V ∧ SlL (fun _ y cs => cs = KPart.cells y) 3 h V f.c.ps) 37 (fun f => f.c.ky.length < 9223372036854775808 ∧ f.c.va.length < 9223372036854775808 ∧ f.c.ex.length < 9223372036854775808 ∧ f.c.fr.length < 9223372036854775808 ∧ f.c.to.length < 9223372036854775808 ∧ f.c.ps.length < 9223372036854775808 ∧ ∀ z ∈ f.c.ps, z.ky.length < 9223372036854775808 ∧ z.va.length < 9223372036854775808) := by
  refine OpensL.struct (fs := [(5, 0), (23, 1), (30, 9), (26, 21)]) (L := (layP layU8 (layP (layP layU8 (layP layU8 (layP layU8 (layP layU8 (layP layU8 (layP layU8 (layP layU8 layU8))))))) (layP (fun h c cs => ∃ V, cs = Cmd.cells c V ∧ SlL (fun _ y cs => cs = KPart.cells y) 3 h V c.ps) (fun _ o cs => cs = Oper.cells o))))) (mk := fun (kd, (t0, t1, t2, t3, t4, t5, t6, t7), c, o) => ⟨kd, t0, t1, t2, t3, t4, t5, t6, t7, c, o⟩) ?_ ?_ (by kernel_rfl) (by kernel_rfl) (OpensLF.cons (by decide) (by decide) opens_5 (OpensLF.cons (by decide) (by decide) opens_23 (OpensLF.cons (by decide) (by decide) opens_30 (OpensLF.one opens_26))))
  · rintro h ⟨kd, ⟨t0, t1, t2, t3, t4, t5, t6, t7⟩, c, o⟩ cs ⟨_, _, rfl, rfl, ⟨_, _, rfl, ⟨_, _, rfl, rfl, ⟨_, _, rfl, rfl, ⟨_, _, rfl, rfl, ⟨_, _, rfl, rfl, ⟨_, _, rfl, rfl, ⟨_, _, rfl, rfl, ⟨_, _, rfl, rfl, rfl⟩⟩⟩⟩⟩⟩⟩, ⟨_, _, rfl, ⟨V, rfl, hS⟩, rfl⟩⟩⟩
    exact ⟨V, rfl, hS⟩
  · rintro ⟨kd, ⟨t0, t1, t2, t3, t4, t5, t6, t7⟩, c, o⟩ ⟨k0, k1, k2, k3⟩
    exact k2
set_option maxRecDepth 100000 in
theorem opens_39 : OpensL Try.prog 39 (α := Rep) (fun h p cs => ∃ V, cs = Rep.cells p V ∧ SlL (fun _ y cs => cs = KRrow.cells y) 3 h V p.r.rs) 8 (fun p => p.r.va.length < 9223372036854775808 ∧ p.r.rs.length < 9223372036854775808 ∧ ∀ z ∈ p.r.rs, z.ky.length < 9223372036854775808 ∧ z.va.length < 9223372036854775808) := by
  refine OpensL.struct (fs := [(5, 0), (27, 1), (27, 2), (5, 3), (37, 4)]) (L := (layP layU8 (layP layU64 (layP layU64 (layP layU8 (fun h c cs => ∃ V, cs = Res.cells c V ∧ SlL (fun _ y cs => cs = KRrow.cells y) 3 h V c.rs)))))) (mk := fun (kd, se, sq, ld, r) => ⟨kd, se, sq, ld, r⟩) ?_ ?_ (by kernel_rfl) (by kernel_rfl) (OpensLF.cons (by decide) (by decide) opens_5 (OpensLF.cons (by decide) (by decide) opens_27 (OpensLF.cons (by decide) (by decide) opens_27 (OpensLF.cons (by decide) (by decide) opens_5 (OpensLF.one opens_37)))))
  · rintro h ⟨kd, se, sq, ld, r⟩ cs ⟨_, _, rfl, rfl, ⟨_, _, rfl, rfl, ⟨_, _, rfl, rfl, ⟨_, _, rfl, rfl, ⟨V, rfl, hS⟩⟩⟩⟩⟩
    exact ⟨V, rfl, hS⟩
  · rintro ⟨kd, se, sq, ld, r⟩ ⟨k0, k1, k2, k3, k4⟩
    exact k4
theorem opens_57 : OpensL Try.prog 57 layU16 1 (fun _ => True) := OpensL.u16 Try.underlying57 (by kernel_rfl)
variable {h base : H} {L : List Seg} {R : List Nat}
theorem awake6_ran (W : Mem h h [] []) : Cll tab0 15 [] h (fun v h2 => v = .bool true ∧ Mem h h2 [] []) := ⟨_, h, awake_run h, rfl, W⟩
theorem Great6_ran (W : Mem h h [] []) {f : Frm} {V : Value} (A : KPart.Sl h V f.c.ps) (hl : f.c.ky.length < 9223372036854775808 ∧ f.c.va.length < 9223372036854775808 ∧ f.c.ex.length < 9223372036854775808 ∧ f.c.fr.length < 9223372036854775808 ∧ f.c.to.length < 9223372036854775808 ∧ f.c.ps.length < 9223372036854775808 ∧ ∀ z ∈ f.c.ps, z.ky.length < 9223372036854775808 ∧ z.va.length < 9223372036854775808) : Cll tab0 16 [f.val V] h (fun v h2 => (∃ g, v = .bool g ∧ (g = false → Fit f.c ∧ TightC f.c)) ∧ Mem h h2 [] []) := by
  obtain ⟨P, n, rfl⟩ := A.shape
  refine Cll.code rfl rfl ?_
  refine WC.env [(0, _)] rfl ?_
  refine WC.seq ?_
  refine WC.run ?_
  refine WS.box W [_, _, _, _, _, _, _, _, _, _, _, _, _, _, _, _, _, _, _, _, _, _, _, _, _, _, _, _, _, _, _, _, _, _, _, _, _] rfl rfl rfl rfl ?_
  intro p1 h2 M3
  refine WS.op rfl rfl (WS.nil [(1, _)] rfl ?_)
  refine WC.seq ?_
  refine WC.run ?_
  refine WS.op rfl rfl (WS.op rfl (op_lds [_, _, _, _, _, _, _, _, _, _, _, _] (M3.at 0 rfl) rfl (Nat.le_of_ble_eq_true rfl) rfl) ?_)
  refine WS.call rfl rfl rfl (Great_ran M3.here (c := f.c) (A.mono M3.sub) (by exact hl)) ?_
  rintro _ h4 ⟨⟨g5, rfl, hg5⟩, N5⟩
  have M6 := M3.trans N5
  refine WS.op rfl rfl (WS.nil [(2, _)] rfl ?_)
  refine WC.ret ?_
  refine ⟨[_], (res_tmp rfl res_nil), ?_⟩
  exact ⟨⟨g5, rfl, hg5⟩, M6.bare.take 0⟩
theorem wrF_t {f : Frm} (h : (if mayFB f then encF f else []) ≠ []) : mayFB f = true := by
  cases q : mayFB f with
  | true => rfl
  | false => rw [q] at h; exact absurd rfl h
theorem wrF_len {f : Frm} (ht : TightC f.c) : (if mayFB f then encF f else []).length ≤ 26100 := by
  split
  · rename_i q
    rcases of_decide_eq_true (p := MayF f) q with ⟨q1, q2, q3⟩ | ⟨q1, q2, q3⟩
    · have := encC_len q3 ht
      unfold encF; rw [tailF_1 q1]; simp only [List.length_append, List.length_cons, List.length_nil]; omega
    · have := encO_len (o := f.o)
      unfold encF; rw [tailF_2 q1]; simp only [List.length_append, List.length_cons, List.length_nil]; omega
  · simp
theorem wrP_len {p : Rep} (ht : TightR p.r) : (if mayPB p then encP p else []).length ≤ 260000 := by
  have v1 := vb_len p.se.toNat_lt
  have v2 := vb_len p.sq.toNat_lt
  have := encR_len ht
  split
  · unfold encP lastP
    repeat' split
    all_goals simp only [List.length_append, List.length_cons, List.length_nil]; omega
  · simp
theorem short_reply {p : Rep} (h : p.kd.toNat ≠ 6) : (if mayPB p then encP p else []).length ≤ 22 := by
  have v1 := vb_len p.se.toNat_lt
  have v2 := vb_len p.sq.toNat_lt
  split
  · unfold encP lastP
    rw [if_neg h]
    repeat' split
    all_goals simp only [List.length_append, List.length_cons, List.length_nil]; omega
  · simp
set_option maxRecDepth 8000 in
theorem law_FrameBack (W : Mem h h [] []) {f : Frm} {p : Rep} {ct : UInt16} {bh : List UInt8} {a0 a1 : List Value} {u2 u3 : Value} (l0 : ∃ V, a0 = Frm.cells f V ∧ SlL (fun _ y cs => cs = KPart.cells y) 3 h V f.c.ps) (l1 : ∃ V, a1 = Rep.cells p V ∧ SlL (fun _ y cs => cs = KRrow.cells y) 3 h V p.r.rs) (l2 : layU16 h ct [u2]) (l3 : layStr h bh [u3]) (k0 : f.c.ky.length < 9223372036854775808 ∧ f.c.va.length < 9223372036854775808 ∧ f.c.ex.length < 9223372036854775808 ∧ f.c.fr.length < 9223372036854775808 ∧ f.c.to.length < 9223372036854775808 ∧ f.c.ps.length < 9223372036854775808 ∧ ∀ z ∈ f.c.ps, z.ky.length < 9223372036854775808 ∧ z.va.length < 9223372036854775808) (k1 : p.r.va.length < 9223372036854775808 ∧ p.r.rs.length < 9223372036854775808 ∧ ∀ z ∈ p.r.rs, z.ky.length < 9223372036854775808 ∧ z.va.length < 9223372036854775808) (k2 : True) (k3 : bh.length < 9223372036854775808) : Cll tab0 7 [.agg a0.toArray, .agg a1.toArray, u2, u3] h (fun v _ => v = .bool true) := by
  obtain ⟨V0, rfl, S0⟩ := l0
  have A : KPart.Sl h V0 f.c.ps := SlL.sl S0
  obtain ⟨P, n, rfl⟩ := A.shape
  obtain ⟨V1, rfl, S1⟩ := l1
  have A2 : KRrow.Sl h V1 p.r.rs := SlL.sl S1
  obtain ⟨P2, n2, rfl⟩ := A2.shape
  have l2 : [u2] = [_] := l2
  have l3 : [u3] = [_] := l3
  cases l2; cases l3
  refine Cll.code rfl rfl ?_
  refine WC.env [(0, _), (1, _), (2, _), (3, _)] rfl ?_
  refine WC.seq ?_
  refine WC.run ?_
  refine WS.box W [_, _, _, _, _, _, _, _, _, _, _, _, _, _, _, _, _, _, _, _, _, _, _, _, _, _, _, _, _, _, _, _, _, _, _, _, _] rfl rfl rfl rfl ?_
  intro p1 h2 M3
  refine WS.box M3 [_, _, _, _, _, _, _, _] rfl rfl rfl rfl ?_
  intro p4 h5 M6
  refine WS.op rfl rfl (WS.nil [(2, _), (3, _), (4, _), (5, _)] rfl ?_)
  refine WC.seq ?_
  refine WC.seq ?_
  obtain ⟨L7, eL9, M8⟩ := Mem.name M6.bare
  refine WC.joinB (base := h) (fun b => [(2, (.int .u16 (((ct).toNat : Nat) : Int))), (3, (.string (bs bh))), (4, (.pointer (some ⟨p1, 0, none⟩))), (5, (.pointer (some ⟨p4, 0, none⟩))), (33, .bool b)]) L7 (True) ((Fit f.c ∧ TightC f.c) ∧ (FitRes p.r ∧ TightR p.r) ∧ bh.length ≤ 100) ?_ ?_ ?_
  ·subst eL9
   refine WS.op rfl (op_lds [_, _, _, _, _, _, _, _, _, _, _, _, _, _, _, _, _, _, _, _, _, _, _, _, _, _, _, _, _, _, _, _, _, _, _, _, _] (M8.at 1 rfl) rfl (Nat.le_of_ble_eq_true rfl) rfl) ?_
   refine WS.call rfl rfl rfl (Great6_ran M8.here (f := f) (A.mono M8.sub) (by assumption)) ?_
   rintro _ h10 ⟨⟨g23, rfl, hg23⟩, N11⟩
   have M12 := M8.trans N11
   refine WS.op rfl rfl ?_
   cases hb1 : g23
   ·
    refine WS.op rfl rfl (WS.op rfl (op_lds [_, _, _, _] (M12.at 0 rfl) rfl (Nat.le_of_ble_eq_true rfl) rfl) ?_)
    refine WS.call rfl rfl rfl (GreatR_ran M12.here (r := p.r) (A2.mono M12.sub) (by assumption)) ?_
    rintro _ h13 ⟨⟨g27, rfl, hg27⟩, N14⟩
    have M15 := M12.trans N14
    refine WS.op rfl rfl (WS.op rfl rfl ?_)
    cases hb2 : g27
    ·
     refine WS.op rfl rfl (WS.op rfl (op_lenS (l := bh) rfl) ?_)
     refine WS.gtrN (a := (bh).length) (b := 100) rfl rfl rfl (fun e32 => ?_) (fun e32 => ?_)
     ·
      refine WS.op rfl rfl ?_
      refine WS.nil' ⟨true, rfl, (((M15.bare.focus 1 rfl).focus 1 rfl).take 2), fun _ => ?_, fun hh => ?_⟩
      · trivial
      · cases hh
     ·
      refine WS.op rfl rfl ?_
      refine WS.nil' ⟨false, rfl, (((M15.bare.focus 1 rfl).focus 1 rfl).take 2), fun hh => ?_, fun _ => ?_⟩
      · cases hh
      · exact ⟨hg23 (by first | assumption | rfl), hg27 (by first | assumption | rfl), by omega⟩
    ·
     refine WS.off rfl (WS.off rfl (WS.off rfl (WS.op rfl rfl ?_)))
     refine WS.nil' ⟨true, rfl, (((M15.bare.focus 1 rfl).focus 1 rfl).take 2), fun _ => ?_, fun hh => ?_⟩
     · trivial
     · cases hh
   ·
    refine WS.off rfl (WS.off rfl (WS.offC rfl (WS.op rfl rfl (WS.op rfl rfl (WS.off rfl (WS.off rfl (WS.off rfl (WS.op rfl rfl ?_))))))))
    refine WS.nil' ⟨true, rfl, (((M12.bare.focus 1 rfl).focus 1 rfl).take 2), fun _ => ?_, fun hh => ?_⟩
    · trivial
    · cases hh
  ·intro h16 M17 hp33
   subst eL9
   refine WC.condT rfl ?_
   refine WC.seq ?_
   refine WC.run ?_
   refine WS.call rfl rfl rfl (awake6_ran M17.here ) ?_
   rintro _ h18 ⟨rfl, N19⟩
   have M20 := M17.trans N19
   refine WS.op rfl rfl (WS.nil [(8, _)] rfl ?_)
   refine WC.ret ?_
   refine ⟨[_], (res_tmp rfl res_nil), ?_⟩
   rfl
  ·intro h21 M22 hp33
   subst eL9
   refine WC.condF rfl ?_
   refine WC.skip ?_
   refine WC.seq ?_
   refine WC.run ?_
   refine WS.op rfl (op_lds [_, _, _, _, _, _, _, _, _, _, _, _, _, _, _, _, _, _, _, _, _, _, _, _, _, _, _, _, _, _, _, _, _, _, _, _, _] (M22.at 1 rfl) rfl (Nat.le_of_ble_eq_true rfl) rfl) ?_
   refine WS.call rfl rfl rfl (WriteF_ran M22.here (f := f) (A.mono M22.sub) (by exact hp33.1.1)) ?_
   rintro _ h23 ⟨rfl, N24⟩
   have M25 := M22.trans N24
   refine WS.op rfl rfl (WS.nil [(2, _), (3, _), (5, _), (9, _)] rfl ?_)
   refine WC.seq ?_
   refine WC.seq ?_
   refine WC.run ?_
   refine WS.op rfl rfl ?_
   refine WS.sneq (l := (if mayFB f then encF f else [])) (m := []) rfl rfl rfl (fun e38 => ?_) (fun e38 => ?_)
   ·
    refine WS.nil [(2, _), (3, _), (5, _), (9, _), (38, _)] rfl ?_
    refine WC.condT rfl ?_
    refine WC.seq ?_
    refine WC.run ?_
    have hwf := wrF_len hp33.1.2
    have hpf := List.length_pos_iff.2 e38
    have hb4 := hp33.2.2
    refine WS.op rfl rfl ?_
    refine WS.call rfl rfl rfl (ReadF_ran M25.here (s := (if mayFB f then encF f else [])) (by first | omega | (rw [List.length_take]; omega) | (rw [List.length_append]; omega))) ?_
    rintro _ h26 ⟨f41, V29, S30, ok41, O31, rfl, hF41, hC41, N27⟩
    obtain ⟨P32, rfl⟩ := O31.shape
    have M28 := M25.trans N27
    replace M28 : Mem _ _ (S30 :: [(p4, _)] :: [(p1, _)] :: []) _ := M28
    refine WS.op rfl rfl (WS.op rfl rfl (WS.op rfl rfl ?_))
    refine WS.new M28 rfl ?_
    intro p33 h34 M35
    refine WS.st1 (M35.focus 0 rfl) [_, _, _, _, _, _, _, _, _, _, _, _, _, _, _, _, _, _, _, _, _, _, _, _, _, _, _, _, _, _, _, _, _, _, _, _, _] [_, _, _, _, _, _, _, _, _, _, _, _, _, _, _, _, _, _, _, _, _, _, _, _, _, _, _, _, _, _, _, _, _, _, _, _, _] rfl rfl rfl rfl rfl (Nat.le_of_ble_eq_true rfl) (Nat.le_of_ble_eq_true rfl) rfl rfl ?_
    intro h36 M37
    replace M37 : Mem _ _ ([(p33, _)] :: S30 :: [(p4, _)] :: [(p1, _)] :: []) _ := M37
    refine WS.op rfl rfl (WS.nil [(2, _), (3, _), (5, _), (9, _), (11, _)] rfl ?_)
    refine WC.seq ?_
    refine WC.run ?_
    refine WS.op rfl rfl (WS.op rfl rfl (WS.opV (.int .i64 (((ct).toNat : Nat) : Int)) rfl rfl (cv_i64 (n := (ct).toNat) (by have := UInt16.toNat_lt ct; omega)) (WS.op rfl rfl (WS.op rfl (op_lenS (l := (if mayFB f then encF f else [])) rfl) (WS.op rfl (op_remN (a := (ct).toNat) (b := ((if mayFB f then encF f else [])).length) rfl rfl (by exact hpf)) (WS.op rfl (op_slS1 (l := (if mayFB f then encF f else [])) (((ct).toNat) % (((if mayFB f then encF f else [])).length)) rfl rfl (by have := Nat.mod_lt ct.toNat hpf; omega)) ?_))))))
    refine WS.call rfl rfl rfl (ReadF_ran M37.here (s := (((if mayFB f then encF f else [])).take (((ct).toNat) % (((if mayFB f then encF f else [])).length)))) (by first | omega | (rw [List.length_take]; omega) | (rw [List.length_append]; omega))) ?_
    rintro _ h38 ⟨f52, V41, S42, ok52, O43, rfl, hF52, hC52, N39⟩
    obtain ⟨P44, rfl⟩ := O43.shape
    have M40 := M37.trans N39
    replace M40 : Mem _ _ (S42 :: [(p33, _)] :: S30 :: [(p4, _)] :: [(p1, _)] :: []) _ := M40
    refine WS.op rfl rfl (WS.op rfl rfl (WS.op rfl rfl ?_))
    refine WS.new M40 rfl ?_
    intro p45 h46 M47
    refine WS.st1 (M47.focus 0 rfl) [_, _, _, _, _, _, _, _, _, _, _, _, _, _, _, _, _, _, _, _, _, _, _, _, _, _, _, _, _, _, _, _, _, _, _, _, _] [_, _, _, _, _, _, _, _, _, _, _, _, _, _, _, _, _, _, _, _, _, _, _, _, _, _, _, _, _, _, _, _, _, _, _, _, _] rfl rfl rfl rfl rfl (Nat.le_of_ble_eq_true rfl) (Nat.le_of_ble_eq_true rfl) rfl rfl ?_
    intro h48 M49
    replace M49 : Mem _ _ ([(p45, _)] :: S42 :: [(p33, _)] :: S30 :: [(p4, _)] :: [(p1, _)] :: []) _ := M49
    refine WS.op rfl rfl (WS.nil [(2, _), (3, _), (5, _), (9, _), (11, _), (13, _)] rfl ?_)
    refine WC.seq ?_
    refine WC.run ?_
    refine WS.op rfl rfl (WS.op rfl rfl (WS.op rfl (op_sadd (l := (if mayFB f then encF f else [])) (m := bh) rfl rfl (by omega)) ?_))
    refine WS.call rfl rfl rfl (ReadF_ran M49.here (s := ((if mayFB f then encF f else []) ++ bh)) (by first | omega | (rw [List.length_take]; omega) | (rw [List.length_append]; omega))) ?_
    rintro _ h50 ⟨f59, V53, S54, ok59, O55, rfl, hF59, hC59, N51⟩
    obtain ⟨P56, rfl⟩ := O55.shape
    have M52 := M49.trans N51
    replace M52 : Mem _ _ (S54 :: [(p45, _)] :: S42 :: [(p33, _)] :: S30 :: [(p4, _)] :: [(p1, _)] :: []) _ := M52
    refine WS.op rfl rfl (WS.op rfl rfl (WS.op rfl rfl ?_))
    refine WS.new M52 rfl ?_
    intro p57 h58 M59
    refine WS.st1 (M59.focus 0 rfl) [_, _, _, _, _, _, _, _, _, _, _, _, _, _, _, _, _, _, _, _, _, _, _, _, _, _, _, _, _, _, _, _, _, _, _, _, _] [_, _, _, _, _, _, _, _, _, _, _, _, _, _, _, _, _, _, _, _, _, _, _, _, _, _, _, _, _, _, _, _, _, _, _, _, _] rfl rfl rfl rfl rfl (Nat.le_of_ble_eq_true rfl) (Nat.le_of_ble_eq_true rfl) rfl rfl ?_
    intro h60 M61
    replace M61 : Mem _ _ ([(p57, _)] :: S54 :: [(p45, _)] :: S42 :: [(p33, _)] :: S30 :: [(p4, _)] :: [(p1, _)] :: []) _ := M61
    refine WS.op rfl rfl (WS.nil [(2, _), (3, _), (5, _), (11, _), (13, _), (15, _)] rfl ?_)
    refine WC.seq ?_
    refine WC.run ?_
    have hM := wrF_t e38
    have hE : (if mayFB f then encF f else []) = encF f := if_pos hM
    have hG : GoodF f := ⟨of_decide_eq_true hM, hp33.1.1⟩
    rw [hE] at hC41 hC52 hC59 hpf
    obtain ⟨f1, f2⟩ := rd_self encF_pf hG hC41
    have f3 := rd_short encF_pf hG (Nat.mod_lt _ hpf) hC52
    have f4 := rd_more encF_pf hG hC59
    refine WS.op rfl rfl ?_
    cases hb3 : ok41
    ·
     rw [f1] at hb3; cases hb3
    ·
     refine WS.opV (.bool false) rfl rfl rfl (WS.op rfl rfl (WS.op rfl rfl (WS.op rfl rfl (WS.op rfl rfl ?_))))
     cases hb4 : ok52
     ·
      refine WS.op rfl rfl (WS.op rfl rfl ?_)
      refine WS.seql (l := bh) (m := []) rfl rfl rfl (fun e70 => ?_) (fun e70 => ?_)
      ·
       cases hb5 : ok59
       ·
        refine WS.opV (.bool true) rfl rfl rfl (WS.op rfl rfl (WS.nil [(2, _), (3, _), (5, _), (72, _)] rfl ?_))
        refine WC.condT rfl ?_
        refine WC.seq ?_
        refine WC.run ?_
        refine WS.op rfl rfl (WS.nil [(8, _)] rfl ?_)
        refine WC.ret ?_
        refine ⟨[_], (res_tmp rfl res_nil), ?_⟩
        exfalso; first | exact absurd (f4.1 (by assumption)) e70 | exact absurd (f4.2 e70) (by rw [Bool.not_eq_true]; assumption) | exact absurd (f8.1 (by assumption)) e114 | exact absurd (f8.2 e114) (by rw [Bool.not_eq_true]; assumption)
       ·
        refine WS.opV (.bool false) rfl rfl rfl (WS.op rfl rfl (WS.nil [(2, _), (3, _), (5, _), (72, _)] rfl ?_))
        refine WC.condF rfl ?_
        refine WC.skip ?_
        refine WC.seq ?_
        refine WC.run ?_
        refine WS.op rfl (op_lds [_, _, _, _, _, _, _, _] (M61.at 6 rfl) rfl (Nat.le_of_ble_eq_true rfl) rfl) ?_
        refine WS.call rfl rfl rfl (WriteP_ran M61.here (p := p) (A2.mono M61.sub) (by exact hp33.2.1.1)) ?_
        rintro _ h62 ⟨rfl, N63⟩
        have M64 := M61.trans N63
        refine WS.op rfl rfl (WS.nil [(2, _), (3, _), (5, _), (9, _)] rfl ?_)
        refine WC.seq ?_
        refine WC.seq ?_
        refine WC.run ?_
        refine WS.op rfl rfl ?_
        refine WS.sneq (l := (if mayPB p then encP p else [])) (m := []) rfl rfl rfl (fun e76 => ?_) (fun e76 => ?_)
        ·
         refine WS.nil [(2, _), (3, _), (5, _), (9, _), (76, _)] rfl ?_
         refine WC.condT rfl ?_
         refine WC.seq ?_
         refine WC.run ?_
         have hwp := wrP_len hp33.2.1.2
         have hpp := List.length_pos_iff.2 e76
         have hb5 := hp33.2.2
         refine WS.op rfl rfl ?_
         refine WS.call rfl rfl rfl (ReadP_ran M64.here (s := (if mayPB p then encP p else [])) (by first | omega | (rw [List.length_take]; omega) | (rw [List.length_append]; omega))) ?_
         rintro _ h65 ⟨p79r, V68, S69, ok79, O70, rfl, hF79, hC79, N66⟩
         obtain ⟨P71, rfl⟩ := O70.shape
         have M67 := M64.trans N66
         replace M67 : Mem _ _ (S69 :: [(p57, _)] :: S54 :: [(p45, _)] :: S42 :: [(p33, _)] :: S30 :: [(p4, _)] :: [(p1, _)] :: []) _ := M67
         refine WS.op rfl rfl (WS.op rfl rfl (WS.op rfl rfl ?_))
         refine WS.new M67 rfl ?_
         intro p72 h73 M74
         refine WS.st1 (M74.focus 0 rfl) [_, _, _, _, _, _, _, _] [_, _, _, _, _, _, _, _] rfl rfl rfl rfl rfl (Nat.le_of_ble_eq_true rfl) (Nat.le_of_ble_eq_true rfl) rfl rfl ?_
         intro h75 M76
         replace M76 : Mem _ _ ([(p72, _)] :: S69 :: [(p57, _)] :: S54 :: [(p45, _)] :: S42 :: [(p33, _)] :: S30 :: [(p4, _)] :: [(p1, _)] :: []) _ := M76
         refine WS.op rfl rfl (WS.nil [(2, _), (3, _), (5, _), (9, _), (16, _), (17, _)] rfl ?_)
         refine WC.seq ?_
         refine WC.run ?_
         refine WS.op rfl rfl (WS.op rfl rfl (WS.opV (.int .i64 (((ct).toNat : Nat) : Int)) rfl rfl (cv_i64 (n := (ct).toNat) (by have := UInt16.toNat_lt ct; omega)) (WS.op rfl rfl (WS.op rfl (op_lenS (l := (if mayPB p then encP p else [])) rfl) (WS.op rfl (op_remN (a := (ct).toNat) (b := ((if mayPB p then encP p else [])).length) rfl rfl (by exact hpp)) (WS.op rfl (op_slS1 (l := (if mayPB p then encP p else [])) (((ct).toNat) % (((if mayPB p then encP p else [])).length)) rfl rfl (by have := Nat.mod_lt ct.toNat hpp; omega)) ?_))))))
         refine WS.call rfl rfl rfl (ReadP_ran M76.here (s := (((if mayPB p then encP p else [])).take (((ct).toNat) % (((if mayPB p then encP p else [])).length)))) (by first | omega | (rw [List.length_take]; omega) | (rw [List.length_append]; omega))) ?_
         rintro _ h77 ⟨p90r, V80, S81, ok90, O82, rfl, hF90, hC90, N78⟩
         obtain ⟨P83, rfl⟩ := O82.shape
         have M79 := M76.trans N78
         replace M79 : Mem _ _ (S81 :: [(p72, _)] :: S69 :: [(p57, _)] :: S54 :: [(p45, _)] :: S42 :: [(p33, _)] :: S30 :: [(p4, _)] :: [(p1, _)] :: []) _ := M79
         refine WS.op rfl rfl (WS.op rfl rfl (WS.op rfl rfl ?_))
         refine WS.new M79 rfl ?_
         intro p84 h85 M86
         refine WS.st1 (M86.focus 0 rfl) [_, _, _, _, _, _, _, _] [_, _, _, _, _, _, _, _] rfl rfl rfl rfl rfl (Nat.le_of_ble_eq_true rfl) (Nat.le_of_ble_eq_true rfl) rfl rfl ?_
         intro h87 M88
         replace M88 : Mem _ _ ([(p84, _)] :: S81 :: [(p72, _)] :: S69 :: [(p57, _)] :: S54 :: [(p45, _)] :: S42 :: [(p33, _)] :: S30 :: [(p4, _)] :: [(p1, _)] :: []) _ := M88
         refine WS.op rfl rfl (WS.nil [(3, _), (5, _), (9, _), (16, _), (17, _), (19, _)] rfl ?_)
         refine WC.seq ?_
         refine WC.run ?_
         refine WS.op rfl rfl (WS.op rfl rfl (WS.op rfl (op_sadd (l := (if mayPB p then encP p else [])) (m := bh) rfl rfl (by omega)) ?_))
         refine WS.call rfl rfl rfl (ReadP_ran M88.here (s := ((if mayPB p then encP p else []) ++ bh)) (by first | omega | (rw [List.length_take]; omega) | (rw [List.length_append]; omega))) ?_
         rintro _ h89 ⟨p97r, V92, S93, ok97, O94, rfl, hF97, hC97, N90⟩
         obtain ⟨P95, rfl⟩ := O94.shape
         have M91 := M88.trans N90
         replace M91 : Mem _ _ (S93 :: [(p84, _)] :: S81 :: [(p72, _)] :: S69 :: [(p57, _)] :: S54 :: [(p45, _)] :: S42 :: [(p33, _)] :: S30 :: [(p4, _)] :: [(p1, _)] :: []) _ := M91
         refine WS.op rfl rfl (WS.op rfl rfl (WS.op rfl rfl ?_))
         refine WS.new M91 rfl ?_
         intro p96 h97 M98
         refine WS.st1 (M98.focus 0 rfl) [_, _, _, _, _, _, _, _] [_, _, _, _, _, _, _, _] rfl rfl rfl rfl rfl (Nat.le_of_ble_eq_true rfl) (Nat.le_of_ble_eq_true rfl) rfl rfl ?_
         intro h99 M100
         replace M100 : Mem _ _ ([(p96, _)] :: S93 :: [(p84, _)] :: S81 :: [(p72, _)] :: S69 :: [(p57, _)] :: S54 :: [(p45, _)] :: S42 :: [(p33, _)] :: S30 :: [(p4, _)] :: [(p1, _)] :: []) _ := M100
         refine WS.op rfl rfl (WS.nil [(3, _), (5, _), (9, _), (16, _), (17, _), (19, _), (21, _)] rfl ?_)
         refine WC.seq ?_
         refine WC.run ?_
         have hM2 := wrP_t e76
         have hE2 : (if mayPB p then encP p else []) = encP p := if_pos (show mayPB p = true from decide_eq_true hM2)
         have hG2 : GoodP2 p := ⟨hM2, hp33.2.1.1⟩
         rw [hE2] at hC79 hC90 hC97 hpp
         obtain ⟨f5, f6⟩ := rd_self encP_pf hG2 hC79
         have f7 := rd_short encP_pf hG2 (Nat.mod_lt _ hpp) hC90
         have f8 := rd_more encP_pf hG2 hC97
         refine WS.op rfl rfl ?_
         cases hb6 : ok79
         ·
          rw [f5] at hb6; cases hb6
         ·
          refine WS.opV (.bool false) rfl rfl rfl (WS.op rfl rfl (WS.op rfl (op_lds [_, _, _, _, _, _, _, _] (M100.at 4 rfl) rfl (Nat.le_of_ble_eq_true rfl) rfl) (WS.op rfl (op_lds [_, _, _, _, _, _, _, _] (M100.at 12 rfl) rfl (Nat.le_of_ble_eq_true rfl) rfl) ?_)))
          refine WS.call rfl rfl rfl (SameP_ran M100.here (a := p79r) (b := p) (Row.Own.sl O70 (Mem.owni M100 5 rfl)) (A2.mono M100.sub) (by have := hF79.2.1; omega)) ?_
          rintro _ h101 ⟨rfl, N102⟩
          have M103 := M100.trans N102
          cases hb7 : (decide (p79r = p))
          ·
           exact absurd f6 (of_decide_eq_false hb7)
          ·
           refine WS.opV (.bool false) rfl rfl rfl (WS.op rfl rfl (WS.op rfl rfl (WS.op rfl rfl (WS.op rfl rfl (WS.op rfl rfl ?_)))))
           cases hb8 : ok90
           ·
            refine WS.op rfl rfl (WS.op rfl rfl ?_)
            refine WS.seql (l := bh) (m := []) rfl rfl rfl (fun e114 => ?_) (fun e114 => ?_)
            ·
             cases hb9 : ok97
             ·
              refine WS.opV (.bool true) rfl rfl rfl (WS.op rfl rfl (WS.op rfl rfl (WS.off rfl (WS.off rfl (WS.off rfl (WS.off rfl (WS.off rfl (WS.off rfl (WS.off rfl ?_)))))))))
              refine WS.off rfl (WS.op rfl rfl (WS.nil [(126, _)] rfl ?_))
              refine WC.condT rfl ?_
              refine WC.seq ?_
              refine WC.run ?_
              refine WS.op rfl rfl (WS.nil [(8, _)] rfl ?_)
              refine WC.ret ?_
              refine ⟨[_], (res_tmp rfl res_nil), ?_⟩
              exfalso; first | exact absurd (f4.1 (by assumption)) e70 | exact absurd (f4.2 e70) (by rw [Bool.not_eq_true]; assumption) | exact absurd (f8.1 (by assumption)) e114 | exact absurd (f8.2 e114) (by rw [Bool.not_eq_true]; assumption)
             ·
              refine WS.opV (.bool false) rfl rfl rfl (WS.op rfl rfl (WS.op rfl rfl (WS.op rfl rfl (WS.op rfl (op_ld (M103.at 12 rfl) rfl rfl) ?_))))
              refine WS.neqN (a := (p.kd).toNat) (b := 6) rfl rfl rfl (fun e120 => ?_) (fun e120 => ?_)
              ·
               refine WS.op rfl rfl (WS.op rfl rfl (WS.op rfl (op_lenS (l := (if mayPB p then encP p else [])) rfl) ?_))
               have hsh := short_reply (p := p) (by assumption)
               refine WS.gtrN (a := ((if mayPB p then encP p else [])).length) (b := 22) rfl rfl rfl (fun e124 => ?_) (fun e124 => ?_)
               ·
                exact absurd e124 (by omega)
               ·
                refine WS.op rfl rfl (WS.op rfl rfl (WS.nil [(126, _)] rfl ?_))
                refine WC.condF rfl ?_
                refine WC.skip ?_
                refine WC.seq ?_
                refine WC.run ?_
                refine WS.call rfl rfl rfl (awake6_ran M103.here ) ?_
                rintro _ h104 ⟨rfl, N105⟩
                have M106 := M103.trans N105
                refine WS.op rfl rfl (WS.nil [(8, _)] rfl ?_)
                refine WC.ret ?_
                refine ⟨[_], (res_tmp rfl res_nil), ?_⟩
                rfl
              ·
               refine WS.op rfl rfl (WS.off rfl (WS.off rfl (WS.off rfl (WS.op rfl rfl (WS.op rfl rfl (WS.nil [(126, _)] rfl ?_))))))
               refine WC.condF rfl ?_
               refine WC.skip ?_
               refine WC.seq ?_
               refine WC.run ?_
               refine WS.call rfl rfl rfl (awake6_ran M103.here ) ?_
               rintro _ h107 ⟨rfl, N108⟩
               have M109 := M103.trans N108
               refine WS.op rfl rfl (WS.nil [(8, _)] rfl ?_)
               refine WC.ret ?_
               refine ⟨[_], (res_tmp rfl res_nil), ?_⟩
               rfl
            ·
             cases hb9 : ok97
             ·
              refine WS.opV (.bool false) rfl rfl rfl (WS.op rfl rfl (WS.op rfl rfl (WS.op rfl rfl (WS.op rfl (op_ld (M103.at 12 rfl) rfl rfl) ?_))))
              refine WS.neqN (a := (p.kd).toNat) (b := 6) rfl rfl rfl (fun e120 => ?_) (fun e120 => ?_)
              ·
               refine WS.op rfl rfl (WS.op rfl rfl (WS.op rfl (op_lenS (l := (if mayPB p then encP p else [])) rfl) ?_))
               have hsh := short_reply (p := p) (by assumption)
               refine WS.gtrN (a := ((if mayPB p then encP p else [])).length) (b := 22) rfl rfl rfl (fun e124 => ?_) (fun e124 => ?_)
               ·
                exact absurd e124 (by omega)
               ·
                refine WS.op rfl rfl (WS.op rfl rfl (WS.nil [(126, _)] rfl ?_))
                refine WC.condF rfl ?_
                refine WC.skip ?_
                refine WC.seq ?_
                refine WC.run ?_
                refine WS.call rfl rfl rfl (awake6_ran M103.here ) ?_
                rintro _ h110 ⟨rfl, N111⟩
                have M112 := M103.trans N111
                refine WS.op rfl rfl (WS.nil [(8, _)] rfl ?_)
                refine WC.ret ?_
                refine ⟨[_], (res_tmp rfl res_nil), ?_⟩
                rfl
              ·
               refine WS.op rfl rfl (WS.off rfl (WS.off rfl (WS.off rfl (WS.op rfl rfl (WS.op rfl rfl (WS.nil [(126, _)] rfl ?_))))))
               refine WC.condF rfl ?_
               refine WC.skip ?_
               refine WC.seq ?_
               refine WC.run ?_
               refine WS.call rfl rfl rfl (awake6_ran M103.here ) ?_
               rintro _ h113 ⟨rfl, N114⟩
               have M115 := M103.trans N114
               refine WS.op rfl rfl (WS.nil [(8, _)] rfl ?_)
               refine WC.ret ?_
               refine ⟨[_], (res_tmp rfl res_nil), ?_⟩
               rfl
             ·
              refine WS.opV (.bool true) rfl rfl rfl (WS.op rfl rfl (WS.op rfl rfl (WS.off rfl (WS.off rfl (WS.off rfl (WS.off rfl (WS.off rfl (WS.off rfl (WS.off rfl ?_)))))))))
              refine WS.off rfl (WS.op rfl rfl (WS.nil [(126, _)] rfl ?_))
              refine WC.condT rfl ?_
              refine WC.seq ?_
              refine WC.run ?_
              refine WS.op rfl rfl (WS.nil [(8, _)] rfl ?_)
              refine WC.ret ?_
              refine ⟨[_], (res_tmp rfl res_nil), ?_⟩
              exfalso; first | exact absurd (f4.1 (by assumption)) e70 | exact absurd (f4.2 e70) (by rw [Bool.not_eq_true]; assumption) | exact absurd (f8.1 (by assumption)) e114 | exact absurd (f8.2 e114) (by rw [Bool.not_eq_true]; assumption)
           ·
            rw [f7] at hb8; cases hb8
        ·
         refine WS.nil [(2, _), (3, _), (5, _), (9, _), (76, _)] rfl ?_
         refine WC.condF rfl ?_
         refine WC.skip ?_
         refine WC.seq ?_
         refine WC.run ?_
         refine WS.call rfl rfl rfl (awake6_ran M64.here ) ?_
         rintro _ h116 ⟨rfl, N117⟩
         have M118 := M64.trans N117
         refine WS.op rfl rfl (WS.nil [(8, _)] rfl ?_)
         refine WC.ret ?_
         refine ⟨[_], (res_tmp rfl res_nil), ?_⟩
         rfl
      ·
       cases hb5 : ok59
       ·
        refine WS.opV (.bool false) rfl rfl rfl (WS.op rfl rfl (WS.nil [(2, _), (3, _), (5, _), (72, _)] rfl ?_))
        refine WC.condF rfl ?_
        refine WC.skip ?_
        refine WC.seq ?_
        refine WC.run ?_
        refine WS.op rfl (op_lds [_, _, _, _, _, _, _, _] (M61.at 6 rfl) rfl (Nat.le_of_ble_eq_true rfl) rfl) ?_
        refine WS.call rfl rfl rfl (WriteP_ran M61.here (p := p) (A2.mono M61.sub) (by exact hp33.2.1.1)) ?_
        rintro _ h119 ⟨rfl, N120⟩
        have M121 := M61.trans N120
        refine WS.op rfl rfl (WS.nil [(2, _), (3, _), (5, _), (9, _)] rfl ?_)
        refine WC.seq ?_
        refine WC.seq ?_
        refine WC.run ?_
        refine WS.op rfl rfl ?_
        refine WS.sneq (l := (if mayPB p then encP p else [])) (m := []) rfl rfl rfl (fun e76 => ?_) (fun e76 => ?_)
        ·
         refine WS.nil [(2, _), (3, _), (5, _), (9, _), (76, _)] rfl ?_
         refine WC.condT rfl ?_
         refine WC.seq ?_
         refine WC.run ?_
         have hwp := wrP_len hp33.2.1.2
         have hpp := List.length_pos_iff.2 e76
         have hb5 := hp33.2.2
         refine WS.op rfl rfl ?_
         refine WS.call rfl rfl rfl (ReadP_ran M121.here (s := (if mayPB p then encP p else [])) (by first | omega | (rw [List.length_take]; omega) | (rw [List.length_append]; omega))) ?_
         rintro _ h122 ⟨p79r, V125, S126, ok79, O127, rfl, hF79, hC79, N123⟩
         obtain ⟨P128, rfl⟩ := O127.shape
         have M124 := M121.trans N123
         replace M124 : Mem _ _ (S126 :: [(p57, _)] :: S54 :: [(p45, _)] :: S42 :: [(p33, _)] :: S30 :: [(p4, _)] :: [(p1, _)] :: []) _ := M124
         refine WS.op rfl rfl (WS.op rfl rfl (WS.op rfl rfl ?_))
         refine WS.new M124 rfl ?_
         intro p129 h130 M131
         refine WS.st1 (M131.focus 0 rfl) [_, _, _, _, _, _, _, _] [_, _, _, _, _, _, _, _] rfl rfl rfl rfl rfl (Nat.le_of_ble_eq_true rfl) (Nat.le_of_ble_eq_true rfl) rfl rfl ?_
         intro h132 M133
         replace M133 : Mem _ _ ([(p129, _)] :: S126 :: [(p57, _)] :: S54 :: [(p45, _)] :: S42 :: [(p33, _)] :: S30 :: [(p4, _)] :: [(p1, _)] :: []) _ := M133
         refine WS.op rfl rfl (WS.nil [(2, _), (3, _), (5, _), (9, _), (16, _), (17, _)] rfl ?_)
         refine WC.seq ?_
         refine WC.run ?_
         refine WS.op rfl rfl (WS.op rfl rfl (WS.opV (.int .i64 (((ct).toNat : Nat) : Int)) rfl rfl (cv_i64 (n := (ct).toNat) (by have := UInt16.toNat_lt ct; omega)) (WS.op rfl rfl (WS.op rfl (op_lenS (l := (if mayPB p then encP p else [])) rfl) (WS.op rfl (op_remN (a := (ct).toNat) (b := ((if mayPB p then encP p else [])).length) rfl rfl (by exact hpp)) (WS.op rfl (op_slS1 (l := (if mayPB p then encP p else [])) (((ct).toNat) % (((if mayPB p then encP p else [])).length)) rfl rfl (by have := Nat.mod_lt ct.toNat hpp; omega)) ?_))))))
         refine WS.call rfl rfl rfl (ReadP_ran M133.here (s := (((if mayPB p then encP p else [])).take (((ct).toNat) % (((if mayPB p then encP p else [])).length)))) (by first | omega | (rw [List.length_take]; omega) | (rw [List.length_append]; omega))) ?_
         rintro _ h134 ⟨p90r, V137, S138, ok90, O139, rfl, hF90, hC90, N135⟩
         obtain ⟨P140, rfl⟩ := O139.shape
         have M136 := M133.trans N135
         replace M136 : Mem _ _ (S138 :: [(p129, _)] :: S126 :: [(p57, _)] :: S54 :: [(p45, _)] :: S42 :: [(p33, _)] :: S30 :: [(p4, _)] :: [(p1, _)] :: []) _ := M136
         refine WS.op rfl rfl (WS.op rfl rfl (WS.op rfl rfl ?_))
         refine WS.new M136 rfl ?_
         intro p141 h142 M143
         refine WS.st1 (M143.focus 0 rfl) [_, _, _, _, _, _, _, _] [_, _, _, _, _, _, _, _] rfl rfl rfl rfl rfl (Nat.le_of_ble_eq_true rfl) (Nat.le_of_ble_eq_true rfl) rfl rfl ?_
         intro h144 M145
         replace M145 : Mem _ _ ([(p141, _)] :: S138 :: [(p129, _)] :: S126 :: [(p57, _)] :: S54 :: [(p45, _)] :: S42 :: [(p33, _)] :: S30 :: [(p4, _)] :: [(p1, _)] :: []) _ := M145
         refine WS.op rfl rfl (WS.nil [(3, _), (5, _), (9, _), (16, _), (17, _), (19, _)] rfl ?_)
         refine WC.seq ?_
         refine WC.run ?_
         refine WS.op rfl rfl (WS.op rfl rfl (WS.op rfl (op_sadd (l := (if mayPB p then encP p else [])) (m := bh) rfl rfl (by omega)) ?_))
         refine WS.call rfl rfl rfl (ReadP_ran M145.here (s := ((if mayPB p then encP p else []) ++ bh)) (by first | omega | (rw [List.length_take]; omega) | (rw [List.length_append]; omega))) ?_
         rintro _ h146 ⟨p97r, V149, S150, ok97, O151, rfl, hF97, hC97, N147⟩
         obtain ⟨P152, rfl⟩ := O151.shape
         have M148 := M145.trans N147
         replace M148 : Mem _ _ (S150 :: [(p141, _)] :: S138 :: [(p129, _)] :: S126 :: [(p57, _)] :: S54 :: [(p45, _)] :: S42 :: [(p33, _)] :: S30 :: [(p4, _)] :: [(p1, _)] :: []) _ := M148
         refine WS.op rfl rfl (WS.op rfl rfl (WS.op rfl rfl ?_))
         refine WS.new M148 rfl ?_
         intro p153 h154 M155
         refine WS.st1 (M155.focus 0 rfl) [_, _, _, _, _, _, _, _] [_, _, _, _, _, _, _, _] rfl rfl rfl rfl rfl (Nat.le_of_ble_eq_true rfl) (Nat.le_of_ble_eq_true rfl) rfl rfl ?_
         intro h156 M157
         replace M157 : Mem _ _ ([(p153, _)] :: S150 :: [(p141, _)] :: S138 :: [(p129, _)] :: S126 :: [(p57, _)] :: S54 :: [(p45, _)] :: S42 :: [(p33, _)] :: S30 :: [(p4, _)] :: [(p1, _)] :: []) _ := M157
         refine WS.op rfl rfl (WS.nil [(3, _), (5, _), (9, _), (16, _), (17, _), (19, _), (21, _)] rfl ?_)
         refine WC.seq ?_
         refine WC.run ?_
         have hM2 := wrP_t e76
         have hE2 : (if mayPB p then encP p else []) = encP p := if_pos (show mayPB p = true from decide_eq_true hM2)
         have hG2 : GoodP2 p := ⟨hM2, hp33.2.1.1⟩
         rw [hE2] at hC79 hC90 hC97 hpp
         obtain ⟨f5, f6⟩ := rd_self encP_pf hG2 hC79
         have f7 := rd_short encP_pf hG2 (Nat.mod_lt _ hpp) hC90
         have f8 := rd_more encP_pf hG2 hC97
         refine WS.op rfl rfl ?_
         cases hb6 : ok79
         ·
          rw [f5] at hb6; cases hb6
         ·
          refine WS.opV (.bool false) rfl rfl rfl (WS.op rfl rfl (WS.op rfl (op_lds [_, _, _, _, _, _, _, _] (M157.at 4 rfl) rfl (Nat.le_of_ble_eq_true rfl) rfl) (WS.op rfl (op_lds [_, _, _, _, _, _, _, _] (M157.at 12 rfl) rfl (Nat.le_of_ble_eq_true rfl) rfl) ?_)))
          refine WS.call rfl rfl rfl (SameP_ran M157.here (a := p79r) (b := p) (Row.Own.sl O127 (Mem.owni M157 5 rfl)) (A2.mono M157.sub) (by have := hF79.2.1; omega)) ?_
          rintro _ h158 ⟨rfl, N159⟩
          have M160 := M157.trans N159
          cases hb7 : (decide (p79r = p))
          ·
           exact absurd f6 (of_decide_eq_false hb7)
          ·
           refine WS.opV (.bool false) rfl rfl rfl (WS.op rfl rfl (WS.op rfl rfl (WS.op rfl rfl (WS.op rfl rfl (WS.op rfl rfl ?_)))))
           cases hb8 : ok90
           ·
            refine WS.op rfl rfl (WS.op rfl rfl ?_)
            refine WS.seql (l := bh) (m := []) rfl rfl rfl (fun e114 => ?_) (fun e114 => ?_)
            ·
             cases hb9 : ok97
             ·
              refine WS.opV (.bool true) rfl rfl rfl (WS.op rfl rfl (WS.op rfl rfl (WS.off rfl (WS.off rfl (WS.off rfl (WS.off rfl (WS.off rfl (WS.off rfl (WS.off rfl ?_)))))))))
              refine WS.off rfl (WS.op rfl rfl (WS.nil [(126, _)] rfl ?_))
              refine WC.condT rfl ?_
              refine WC.seq ?_
              refine WC.run ?_
              refine WS.op rfl rfl (WS.nil [(8, _)] rfl ?_)
              refine WC.ret ?_
              refine ⟨[_], (res_tmp rfl res_nil), ?_⟩
              exfalso; first | exact absurd (f4.1 (by assumption)) e70 | exact absurd (f4.2 e70) (by rw [Bool.not_eq_true]; assumption) | exact absurd (f8.1 (by assumption)) e114 | exact absurd (f8.2 e114) (by rw [Bool.not_eq_true]; assumption)
             ·
              refine WS.opV (.bool false) rfl rfl rfl (WS.op rfl rfl (WS.op rfl rfl (WS.op rfl rfl (WS.op rfl (op_ld (M160.at 12 rfl) rfl rfl) ?_))))
              refine WS.neqN (a := (p.kd).toNat) (b := 6) rfl rfl rfl (fun e120 => ?_) (fun e120 => ?_)
              ·
               refine WS.op rfl rfl (WS.op rfl rfl (WS.op rfl (op_lenS (l := (if mayPB p then encP p else [])) rfl) ?_))
               have hsh := short_reply (p := p) (by assumption)
               refine WS.gtrN (a := ((if mayPB p then encP p else [])).length) (b := 22) rfl rfl rfl (fun e124 => ?_) (fun e124 => ?_)
               ·
                exact absurd e124 (by omega)
               ·
                refine WS.op rfl rfl (WS.op rfl rfl (WS.nil [(126, _)] rfl ?_))
                refine WC.condF rfl ?_
                refine WC.skip ?_
                refine WC.seq ?_
                refine WC.run ?_
                refine WS.call rfl rfl rfl (awake6_ran M160.here ) ?_
                rintro _ h161 ⟨rfl, N162⟩
                have M163 := M160.trans N162
                refine WS.op rfl rfl (WS.nil [(8, _)] rfl ?_)
                refine WC.ret ?_
                refine ⟨[_], (res_tmp rfl res_nil), ?_⟩
                rfl
              ·
               refine WS.op rfl rfl (WS.off rfl (WS.off rfl (WS.off rfl (WS.op rfl rfl (WS.op rfl rfl (WS.nil [(126, _)] rfl ?_))))))
               refine WC.condF rfl ?_
               refine WC.skip ?_
               refine WC.seq ?_
               refine WC.run ?_
               refine WS.call rfl rfl rfl (awake6_ran M160.here ) ?_
               rintro _ h164 ⟨rfl, N165⟩
               have M166 := M160.trans N165
               refine WS.op rfl rfl (WS.nil [(8, _)] rfl ?_)
               refine WC.ret ?_
               refine ⟨[_], (res_tmp rfl res_nil), ?_⟩
               rfl
            ·
             cases hb9 : ok97
             ·
              refine WS.opV (.bool false) rfl rfl rfl (WS.op rfl rfl (WS.op rfl rfl (WS.op rfl rfl (WS.op rfl (op_ld (M160.at 12 rfl) rfl rfl) ?_))))
              refine WS.neqN (a := (p.kd).toNat) (b := 6) rfl rfl rfl (fun e120 => ?_) (fun e120 => ?_)
              ·
               refine WS.op rfl rfl (WS.op rfl rfl (WS.op rfl (op_lenS (l := (if mayPB p then encP p else [])) rfl) ?_))
               have hsh := short_reply (p := p) (by assumption)
               refine WS.gtrN (a := ((if mayPB p then encP p else [])).length) (b := 22) rfl rfl rfl (fun e124 => ?_) (fun e124 => ?_)
               ·
                exact absurd e124 (by omega)
               ·
                refine WS.op rfl rfl (WS.op rfl rfl (WS.nil [(126, _)] rfl ?_))
                refine WC.condF rfl ?_
                refine WC.skip ?_
                refine WC.seq ?_
                refine WC.run ?_
                refine WS.call rfl rfl rfl (awake6_ran M160.here ) ?_
                rintro _ h167 ⟨rfl, N168⟩
                have M169 := M160.trans N168
                refine WS.op rfl rfl (WS.nil [(8, _)] rfl ?_)
                refine WC.ret ?_
                refine ⟨[_], (res_tmp rfl res_nil), ?_⟩
                rfl
              ·
               refine WS.op rfl rfl (WS.off rfl (WS.off rfl (WS.off rfl (WS.op rfl rfl (WS.op rfl rfl (WS.nil [(126, _)] rfl ?_))))))
               refine WC.condF rfl ?_
               refine WC.skip ?_
               refine WC.seq ?_
               refine WC.run ?_
               refine WS.call rfl rfl rfl (awake6_ran M160.here ) ?_
               rintro _ h170 ⟨rfl, N171⟩
               have M172 := M160.trans N171
               refine WS.op rfl rfl (WS.nil [(8, _)] rfl ?_)
               refine WC.ret ?_
               refine ⟨[_], (res_tmp rfl res_nil), ?_⟩
               rfl
             ·
              refine WS.opV (.bool true) rfl rfl rfl (WS.op rfl rfl (WS.op rfl rfl (WS.off rfl (WS.off rfl (WS.off rfl (WS.off rfl (WS.off rfl (WS.off rfl (WS.off rfl ?_)))))))))
              refine WS.off rfl (WS.op rfl rfl (WS.nil [(126, _)] rfl ?_))
              refine WC.condT rfl ?_
              refine WC.seq ?_
              refine WC.run ?_
              refine WS.op rfl rfl (WS.nil [(8, _)] rfl ?_)
              refine WC.ret ?_
              refine ⟨[_], (res_tmp rfl res_nil), ?_⟩
              exfalso; first | exact absurd (f4.1 (by assumption)) e70 | exact absurd (f4.2 e70) (by rw [Bool.not_eq_true]; assumption) | exact absurd (f8.1 (by assumption)) e114 | exact absurd (f8.2 e114) (by rw [Bool.not_eq_true]; assumption)
           ·
            rw [f7] at hb8; cases hb8
        ·
         refine WS.nil [(2, _), (3, _), (5, _), (9, _), (76, _)] rfl ?_
         refine WC.condF rfl ?_
         refine WC.skip ?_
         refine WC.seq ?_
         refine WC.run ?_
         refine WS.call rfl rfl rfl (awake6_ran M121.here ) ?_
         rintro _ h173 ⟨rfl, N174⟩
         have M175 := M121.trans N174
         refine WS.op rfl rfl (WS.nil [(8, _)] rfl ?_)
         refine WC.ret ?_
         refine ⟨[_], (res_tmp rfl res_nil), ?_⟩
         rfl
       ·
        refine WS.opV (.bool true) rfl rfl rfl (WS.op rfl rfl (WS.nil [(2, _), (3, _), (5, _), (72, _)] rfl ?_))
        refine WC.condT rfl ?_
        refine WC.seq ?_
        refine WC.run ?_
        refine WS.op rfl rfl (WS.nil [(8, _)] rfl ?_)
        refine WC.ret ?_
        refine ⟨[_], (res_tmp rfl res_nil), ?_⟩
        exfalso; first | exact absurd (f4.1 (by assumption)) e70 | exact absurd (f4.2 e70) (by rw [Bool.not_eq_true]; assumption) | exact absurd (f8.1 (by assumption)) e114 | exact absurd (f8.2 e114) (by rw [Bool.not_eq_true]; assumption)
     ·
      rw [f3] at hb4; cases hb4
   ·
    refine WS.nil [(2, _), (3, _), (5, _), (9, _), (38, _)] rfl ?_
    refine WC.condF rfl ?_
    refine WC.skip ?_
    refine WC.seq ?_
    refine WC.run ?_
    refine WS.op rfl (op_lds [_, _, _, _, _, _, _, _] (M25.at 0 rfl) rfl (Nat.le_of_ble_eq_true rfl) rfl) ?_
    refine WS.call rfl rfl rfl (WriteP_ran M25.here (p := p) (A2.mono M25.sub) (by exact hp33.2.1.1)) ?_
    rintro _ h176 ⟨rfl, N177⟩
    have M178 := M25.trans N177
    refine WS.op rfl rfl (WS.nil [(2, _), (3, _), (5, _), (9, _)] rfl ?_)
    refine WC.seq ?_
    refine WC.seq ?_
    refine WC.run ?_
    refine WS.op rfl rfl ?_
    refine WS.sneq (l := (if mayPB p then encP p else [])) (m := []) rfl rfl rfl (fun e76 => ?_) (fun e76 => ?_)
    ·
     refine WS.nil [(2, _), (3, _), (5, _), (9, _), (76, _)] rfl ?_
     refine WC.condT rfl ?_
     refine WC.seq ?_
     refine WC.run ?_
     have hwp := wrP_len hp33.2.1.2
     have hpp := List.length_pos_iff.2 e76
     have hb5 := hp33.2.2
     refine WS.op rfl rfl ?_
     refine WS.call rfl rfl rfl (ReadP_ran M178.here (s := (if mayPB p then encP p else [])) (by first | omega | (rw [List.length_take]; omega) | (rw [List.length_append]; omega))) ?_
     rintro _ h179 ⟨p79r, V182, S183, ok79, O184, rfl, hF79, hC79, N180⟩
     obtain ⟨P185, rfl⟩ := O184.shape
     have M181 := M178.trans N180
     replace M181 : Mem _ _ (S183 :: [(p4, _)] :: [(p1, _)] :: []) _ := M181
     refine WS.op rfl rfl (WS.op rfl rfl (WS.op rfl rfl ?_))
     refine WS.new M181 rfl ?_
     intro p186 h187 M188
     refine WS.st1 (M188.focus 0 rfl) [_, _, _, _, _, _, _, _] [_, _, _, _, _, _, _, _] rfl rfl rfl rfl rfl (Nat.le_of_ble_eq_true rfl) (Nat.le_of_ble_eq_true rfl) rfl rfl ?_
     intro h189 M190
     replace M190 : Mem _ _ ([(p186, _)] :: S183 :: [(p4, _)] :: [(p1, _)] :: []) _ := M190
     refine WS.op rfl rfl (WS.nil [(2, _), (3, _), (5, _), (9, _), (16, _), (17, _)] rfl ?_)
     refine WC.seq ?_
     refine WC.run ?_
     refine WS.op rfl rfl (WS.op rfl rfl (WS.opV (.int .i64 (((ct).toNat : Nat) : Int)) rfl rfl (cv_i64 (n := (ct).toNat) (by have := UInt16.toNat_lt ct; omega)) (WS.op rfl rfl (WS.op rfl (op_lenS (l := (if mayPB p then encP p else [])) rfl) (WS.op rfl (op_remN (a := (ct).toNat) (b := ((if mayPB p then encP p else [])).length) rfl rfl (by exact hpp)) (WS.op rfl (op_slS1 (l := (if mayPB p then encP p else [])) (((ct).toNat) % (((if mayPB p then encP p else [])).length)) rfl rfl (by have := Nat.mod_lt ct.toNat hpp; omega)) ?_))))))
     refine WS.call rfl rfl rfl (ReadP_ran M190.here (s := (((if mayPB p then encP p else [])).take (((ct).toNat) % (((if mayPB p then encP p else [])).length)))) (by first | omega | (rw [List.length_take]; omega) | (rw [List.length_append]; omega))) ?_
     rintro _ h191 ⟨p90r, V194, S195, ok90, O196, rfl, hF90, hC90, N192⟩
     obtain ⟨P197, rfl⟩ := O196.shape
     have M193 := M190.trans N192
     replace M193 : Mem _ _ (S195 :: [(p186, _)] :: S183 :: [(p4, _)] :: [(p1, _)] :: []) _ := M193
     refine WS.op rfl rfl (WS.op rfl rfl (WS.op rfl rfl ?_))
     refine WS.new M193 rfl ?_
     intro p198 h199 M200
     refine WS.st1 (M200.focus 0 rfl) [_, _, _, _, _, _, _, _] [_, _, _, _, _, _, _, _] rfl rfl rfl rfl rfl (Nat.le_of_ble_eq_true rfl) (Nat.le_of_ble_eq_true rfl) rfl rfl ?_
     intro h201 M202
     replace M202 : Mem _ _ ([(p198, _)] :: S195 :: [(p186, _)] :: S183 :: [(p4, _)] :: [(p1, _)] :: []) _ := M202
     refine WS.op rfl rfl (WS.nil [(3, _), (5, _), (9, _), (16, _), (17, _), (19, _)] rfl ?_)
     refine WC.seq ?_
     refine WC.run ?_
     refine WS.op rfl rfl (WS.op rfl rfl (WS.op rfl (op_sadd (l := (if mayPB p then encP p else [])) (m := bh) rfl rfl (by omega)) ?_))
     refine WS.call rfl rfl rfl (ReadP_ran M202.here (s := ((if mayPB p then encP p else []) ++ bh)) (by first | omega | (rw [List.length_take]; omega) | (rw [List.length_append]; omega))) ?_
     rintro _ h203 ⟨p97r, V206, S207, ok97, O208, rfl, hF97, hC97, N204⟩
     obtain ⟨P209, rfl⟩ := O208.shape
     have M205 := M202.trans N204
     replace M205 : Mem _ _ (S207 :: [(p198, _)] :: S195 :: [(p186, _)] :: S183 :: [(p4, _)] :: [(p1, _)] :: []) _ := M205
     refine WS.op rfl rfl (WS.op rfl rfl (WS.op rfl rfl ?_))
     refine WS.new M205 rfl ?_
     intro p210 h211 M212
     refine WS.st1 (M212.focus 0 rfl) [_, _, _, _, _, _, _, _] [_, _, _, _, _, _, _, _] rfl rfl rfl rfl rfl (Nat.le_of_ble_eq_true rfl) (Nat.le_of_ble_eq_true rfl) rfl rfl ?_
     intro h213 M214
     replace M214 : Mem _ _ ([(p210, _)] :: S207 :: [(p198, _)] :: S195 :: [(p186, _)] :: S183 :: [(p4, _)] :: [(p1, _)] :: []) _ := M214
     refine WS.op rfl rfl (WS.nil [(3, _), (5, _), (9, _), (16, _), (17, _), (19, _), (21, _)] rfl ?_)
     refine WC.seq ?_
     refine WC.run ?_
     have hM2 := wrP_t e76
     have hE2 : (if mayPB p then encP p else []) = encP p := if_pos (show mayPB p = true from decide_eq_true hM2)
     have hG2 : GoodP2 p := ⟨hM2, hp33.2.1.1⟩
     rw [hE2] at hC79 hC90 hC97 hpp
     obtain ⟨f5, f6⟩ := rd_self encP_pf hG2 hC79
     have f7 := rd_short encP_pf hG2 (Nat.mod_lt _ hpp) hC90
     have f8 := rd_more encP_pf hG2 hC97
     refine WS.op rfl rfl ?_
     cases hb6 : ok79
     ·
      rw [f5] at hb6; cases hb6
     ·
      refine WS.opV (.bool false) rfl rfl rfl (WS.op rfl rfl (WS.op rfl (op_lds [_, _, _, _, _, _, _, _] (M214.at 4 rfl) rfl (Nat.le_of_ble_eq_true rfl) rfl) (WS.op rfl (op_lds [_, _, _, _, _, _, _, _] (M214.at 6 rfl) rfl (Nat.le_of_ble_eq_true rfl) rfl) ?_)))
      refine WS.call rfl rfl rfl (SameP_ran M214.here (a := p79r) (b := p) (Row.Own.sl O184 (Mem.owni M214 5 rfl)) (A2.mono M214.sub) (by have := hF79.2.1; omega)) ?_
      rintro _ h215 ⟨rfl, N216⟩
      have M217 := M214.trans N216
      cases hb7 : (decide (p79r = p))
      ·
       exact absurd f6 (of_decide_eq_false hb7)
      ·
       refine WS.opV (.bool false) rfl rfl rfl (WS.op rfl rfl (WS.op rfl rfl (WS.op rfl rfl (WS.op rfl rfl (WS.op rfl rfl ?_)))))
       cases hb8 : ok90
       ·
        refine WS.op rfl rfl (WS.op rfl rfl ?_)
        refine WS.seql (l := bh) (m := []) rfl rfl rfl (fun e114 => ?_) (fun e114 => ?_)
        ·
         cases hb9 : ok97
         ·
          refine WS.opV (.bool true) rfl rfl rfl (WS.op rfl rfl (WS.op rfl rfl (WS.off rfl (WS.off rfl (WS.off rfl (WS.off rfl (WS.off rfl (WS.off rfl (WS.off rfl ?_)))))))))
          refine WS.off rfl (WS.op rfl rfl (WS.nil [(126, _)] rfl ?_))
          refine WC.condT rfl ?_
          refine WC.seq ?_
          refine WC.run ?_
          refine WS.op rfl rfl (WS.nil [(8, _)] rfl ?_)
          refine WC.ret ?_
          refine ⟨[_], (res_tmp rfl res_nil), ?_⟩
          exfalso; first | exact absurd (f4.1 (by assumption)) e70 | exact absurd (f4.2 e70) (by rw [Bool.not_eq_true]; assumption) | exact absurd (f8.1 (by assumption)) e114 | exact absurd (f8.2 e114) (by rw [Bool.not_eq_true]; assumption)
         ·
          refine WS.opV (.bool false) rfl rfl rfl (WS.op rfl rfl (WS.op rfl rfl (WS.op rfl rfl (WS.op rfl (op_ld (M217.at 6 rfl) rfl rfl) ?_))))
          refine WS.neqN (a := (p.kd).toNat) (b := 6) rfl rfl rfl (fun e120 => ?_) (fun e120 => ?_)
          ·
           refine WS.op rfl rfl (WS.op rfl rfl (WS.op rfl (op_lenS (l := (if mayPB p then encP p else [])) rfl) ?_))
           have hsh := short_reply (p := p) (by assumption)
           refine WS.gtrN (a := ((if mayPB p then encP p else [])).length) (b := 22) rfl rfl rfl (fun e124 => ?_) (fun e124 => ?_)
           ·
            exact absurd e124 (by omega)
           ·
            refine WS.op rfl rfl (WS.op rfl rfl (WS.nil [(126, _)] rfl ?_))
            refine WC.condF rfl ?_
            refine WC.skip ?_
            refine WC.seq ?_
            refine WC.run ?_
            refine WS.call rfl rfl rfl (awake6_ran M217.here ) ?_
            rintro _ h218 ⟨rfl, N219⟩
            have M220 := M217.trans N219
            refine WS.op rfl rfl (WS.nil [(8, _)] rfl ?_)
            refine WC.ret ?_
            refine ⟨[_], (res_tmp rfl res_nil), ?_⟩
            rfl
          ·
           refine WS.op rfl rfl (WS.off rfl (WS.off rfl (WS.off rfl (WS.op rfl rfl (WS.op rfl rfl (WS.nil [(126, _)] rfl ?_))))))
           refine WC.condF rfl ?_
           refine WC.skip ?_
           refine WC.seq ?_
           refine WC.run ?_
           refine WS.call rfl rfl rfl (awake6_ran M217.here ) ?_
           rintro _ h221 ⟨rfl, N222⟩
           have M223 := M217.trans N222
           refine WS.op rfl rfl (WS.nil [(8, _)] rfl ?_)
           refine WC.ret ?_
           refine ⟨[_], (res_tmp rfl res_nil), ?_⟩
           rfl
        ·
         cases hb9 : ok97
         ·
          refine WS.opV (.bool false) rfl rfl rfl (WS.op rfl rfl (WS.op rfl rfl (WS.op rfl rfl (WS.op rfl (op_ld (M217.at 6 rfl) rfl rfl) ?_))))
          refine WS.neqN (a := (p.kd).toNat) (b := 6) rfl rfl rfl (fun e120 => ?_) (fun e120 => ?_)
          ·
           refine WS.op rfl rfl (WS.op rfl rfl (WS.op rfl (op_lenS (l := (if mayPB p then encP p else [])) rfl) ?_))
           have hsh := short_reply (p := p) (by assumption)
           refine WS.gtrN (a := ((if mayPB p then encP p else [])).length) (b := 22) rfl rfl rfl (fun e124 => ?_) (fun e124 => ?_)
           ·
            exact absurd e124 (by omega)
           ·
            refine WS.op rfl rfl (WS.op rfl rfl (WS.nil [(126, _)] rfl ?_))
            refine WC.condF rfl ?_
            refine WC.skip ?_
            refine WC.seq ?_
            refine WC.run ?_
            refine WS.call rfl rfl rfl (awake6_ran M217.here ) ?_
            rintro _ h224 ⟨rfl, N225⟩
            have M226 := M217.trans N225
            refine WS.op rfl rfl (WS.nil [(8, _)] rfl ?_)
            refine WC.ret ?_
            refine ⟨[_], (res_tmp rfl res_nil), ?_⟩
            rfl
          ·
           refine WS.op rfl rfl (WS.off rfl (WS.off rfl (WS.off rfl (WS.op rfl rfl (WS.op rfl rfl (WS.nil [(126, _)] rfl ?_))))))
           refine WC.condF rfl ?_
           refine WC.skip ?_
           refine WC.seq ?_
           refine WC.run ?_
           refine WS.call rfl rfl rfl (awake6_ran M217.here ) ?_
           rintro _ h227 ⟨rfl, N228⟩
           have M229 := M217.trans N228
           refine WS.op rfl rfl (WS.nil [(8, _)] rfl ?_)
           refine WC.ret ?_
           refine ⟨[_], (res_tmp rfl res_nil), ?_⟩
           rfl
         ·
          refine WS.opV (.bool true) rfl rfl rfl (WS.op rfl rfl (WS.op rfl rfl (WS.off rfl (WS.off rfl (WS.off rfl (WS.off rfl (WS.off rfl (WS.off rfl (WS.off rfl ?_)))))))))
          refine WS.off rfl (WS.op rfl rfl (WS.nil [(126, _)] rfl ?_))
          refine WC.condT rfl ?_
          refine WC.seq ?_
          refine WC.run ?_
          refine WS.op rfl rfl (WS.nil [(8, _)] rfl ?_)
          refine WC.ret ?_
          refine ⟨[_], (res_tmp rfl res_nil), ?_⟩
          exfalso; first | exact absurd (f4.1 (by assumption)) e70 | exact absurd (f4.2 e70) (by rw [Bool.not_eq_true]; assumption) | exact absurd (f8.1 (by assumption)) e114 | exact absurd (f8.2 e114) (by rw [Bool.not_eq_true]; assumption)
       ·
        rw [f7] at hb8; cases hb8
    ·
     refine WS.nil [(2, _), (3, _), (5, _), (9, _), (76, _)] rfl ?_
     refine WC.condF rfl ?_
     refine WC.skip ?_
     refine WC.seq ?_
     refine WC.run ?_
     refine WS.call rfl rfl rfl (awake6_ran M178.here ) ?_
     rintro _ h230 ⟨rfl, N231⟩
     have M232 := M178.trans N231
     refine WS.op rfl rfl (WS.nil [(8, _)] rfl ?_)
     refine WC.ret ?_
     refine ⟨[_], (res_tmp rfl res_nil), ?_⟩
     rfl
end Go.Proofs.Yteikngjiaboeaaa.Wt
