/- The law 'CmdReads' returns true for all arguments: what its proof stands on, part 9. -/
import Derived.Test.YtncpdahappmhkaaZCmdReads8
namespace Go.Proofs.Ytncpdahappmhkaa.Wt
open Go Go.Proofs.Ytncpdahappmhkaa.Am Go.Proofs.Ytncpdahappmhkaa.IrAll
set_option linter.unusedVariables false
set_option linter.unusedSimpArgs false
variable {h base : H} {L : List Seg} {R : List Nat}
set_option maxRecDepth 8000 in
theorem refRead_ran (W : Mem h h [] []) {s : List UInt8} (hl : s.length ≤ 300000) : Cll tab0 25 [.string (bs s)] h (fun v h2 => ∃ c V S ok, KPart.Own V (Cmd.ps c) S ∧ v = .tuple #[c.val V, .bool ok] ∧ Fit c ∧ RdC s c ok ∧ Mem h h2 [S] []) := by
  refine Cll.code rfl rfl ?_
  refine WC.env [(0, _)] rfl ?_
  refine WC.seq ?_
  refine WC.run ?_
  refine WS.new W rfl ?_
  intro p1 h2 M3
  refine WS.op rfl rfl (WS.nil [(0, _), (2, _)] rfl ?_)
  refine WC.seq ?_
  refine WC.run ?_
  refine WS.op rfl rfl (WS.opV (.agg #[(.string (bs s)), (.bool true)]) rfl rfl rfl ?_)
  refine WS.box M3 [_, _] rfl rfl rfl rfl ?_
  intro p4 h5 M6
  refine WS.op rfl rfl (WS.nil [(2, _), (4, _)] rfl ?_)
  refine WC.seq ?_
  refine WC.run ?_
  refine WS.op rfl rfl ?_
  refine WS.call rfl rfl rfl (tk_byte_ran (s := s) (w := true) (M6.focus 0 rfl) (by omega)) ?_
  rintro _ h7 ⟨s7_, b7_, m7_, rfl, M8, R7_⟩
  have R7_l := R7_.1
  replace M8 : Mem _ _ ([(p4, _)] :: [(p1, _)] :: []) _ := M8
  refine WS.opV (.int .u8 (((m7_).toNat : Nat) : Int)) rfl rfl (cv_u8 (n := (m7_).toNat) (by have := UInt8.toNat_lt (m7_); omega)) (WS.opV (.agg #[(.int .u8 (((m7_).toNat : Nat) : Int)), (.int .u64 (0 : Int)), (.int .u64 (0 : Int)), (.string (bs ([]))), (.string (bs ([]))), (.string (bs ([]))), (.string (bs ([]))), (.string (bs ([]))), (.int .u8 (0 : Int)), (.int .u64 (0 : Int)), (.int .u64 (0 : Int)), (.slice none 0 0)]) rfl rfl rfl ?_)
  refine WS.new M8 rfl ?_
  intro p9 h10 M11
  refine WS.st1 (M11.focus 0 rfl) [_, _, _, _, _, _, _, _, _, _, _, _] [_, _, _, _, _, _, _, _, _, _, _, _] rfl rfl rfl rfl rfl (Nat.le_of_ble_eq_true rfl) (Nat.le_of_ble_eq_true rfl) rfl rfl ?_
  intro h12 M13
  replace M13 : Mem _ _ ([(p9, _)] :: [(p4, _)] :: [(p1, _)] :: []) _ := M13
  refine WS.nil [(2, _), (4, _), (5, _)] rfl ?_
  refine WC.seq ?_
  refine WC.run ?_
  refine WS.op rfl rfl ?_
  refine WS.call rfl rfl rfl (tk_number_ran (s := s7_) (w := b7_) (M13.focus 1 rfl) (by omega)) ?_
  rintro _ h14 ⟨s14_, b14_, m14_, rfl, M15, R14_⟩
  have R14_l := R14_.1
  replace M15 : Mem _ _ ([(p4, _)] :: [(p9, _)] :: [(p1, _)] :: []) _ := M15
  refine WS.op rfl rfl ?_
  refine WS.st1 (M15.focus 1 rfl) [_] [_, _, _, _, _, _, _, _, _, _, _, _] rfl rfl rfl rfl rfl (Nat.le_of_ble_eq_true rfl) (Nat.le_of_ble_eq_true rfl) rfl rfl ?_
  intro h16 M17
  replace M17 : Mem _ _ ([(p9, _)] :: [(p4, _)] :: [(p1, _)] :: []) _ := M17
  refine WS.nil [(2, _), (4, _), (5, _)] rfl ?_
  refine WC.seq ?_
  refine WC.run ?_
  refine WS.op rfl rfl ?_
  refine WS.call rfl rfl rfl (tk_number_ran (s := s14_) (w := b14_) (M17.focus 1 rfl) (by omega)) ?_
  rintro _ h18 ⟨s18_, b18_, m18_, rfl, M19, R18_⟩
  have R18_l := R18_.1
  replace M19 : Mem _ _ ([(p4, _)] :: [(p9, _)] :: [(p1, _)] :: []) _ := M19
  refine WS.op rfl rfl ?_
  refine WS.st1 (M19.focus 1 rfl) [_] [_, _, _, _, _, _, _, _, _, _, _, _] rfl rfl rfl rfl rfl (Nat.le_of_ble_eq_true rfl) (Nat.le_of_ble_eq_true rfl) rfl rfl ?_
  intro h20 M21
  replace M21 : Mem _ _ ([(p9, _)] :: [(p4, _)] :: [(p1, _)] :: []) _ := M21
  refine WS.nil [(2, _), (4, _), (5, _)] rfl ?_
  refine WC.seq ?_
  refine WC.seq ?_
  refine WC.run ?_
  refine WS.op rfl rfl (WS.op rfl (op_ld (M21.at 0 rfl) rfl rfl) (WS.nil [(2, _), (4, _), (5, _), (23, _)] rfl ?_))
  refine WC.block ?_
  refine WC.seq ?_
  refine WC.seq ?_
  refine WC.run ?_
  refine WS.eqlN (a := (m7_).toNat) (b := 1) rfl rfl rfl (fun e25 => ?_) (fun e25 => ?_)
  ·
   refine WS.op rfl rfl (WS.nil [(2, _), (4, _), (5, _), (23, _), (24, _)] rfl ?_)
   refine WC.condT rfl ?_
   refine WC.skip ?_
   refine WC.condT rfl ?_
   refine WC.run ?_
   refine WS.op rfl rfl ?_
   refine WS.call rfl rfl rfl (tk_number_ran (s := s18_) (w := b18_) (M21.focus 1 rfl) (by omega)) ?_
   rintro _ h22 ⟨s22_, b22_, m22_, rfl, M23, R22_⟩
   have R22_l := R22_.1
   replace M23 : Mem _ _ ([(p4, _)] :: [(p9, _)] :: [(p1, _)] :: []) _ := M23
   refine WS.op rfl rfl ?_
   refine WS.st1 (M23.focus 1 rfl) [_] [_, _, _, _, _, _, _, _, _, _, _, _] rfl rfl rfl rfl rfl (Nat.le_of_ble_eq_true rfl) (Nat.le_of_ble_eq_true rfl) rfl rfl ?_
   intro h24 M25
   replace M25 : Mem _ _ ([(p9, _)] :: [(p4, _)] :: [(p1, _)] :: []) _ := M25
   refine WS.nil [(2, _), (4, _), (5, _)] rfl ?_
   refine WC.seq ?_
   refine WC.seq ?_
   refine WC.run ?_
   refine WS.op rfl rfl (WS.op rfl rfl (WS.op rfl rfl (WS.op rfl (op_ld (M25.at 1 rfl) rfl rfl) ?_)))
   cases hb1 : b22_
   ·
    refine WS.opV (.bool true) rfl rfl rfl (WS.op rfl rfl (WS.off rfl (WS.off rfl (WS.off rfl (WS.off rfl (WS.off rfl (WS.off rfl (WS.op rfl rfl (WS.op rfl rfl ?_)))))))))
    refine WS.off rfl (WS.offC rfl (WS.off rfl (WS.op rfl rfl (WS.nil [(2, _), (5, _), (126, _)] rfl ?_))))
    refine WC.condT rfl ?_
    refine WC.seq ?_
    refine WC.run ?_
    refine WS.opV (.agg #[(.int .u8 (0 : Int)), (.int .u64 (0 : Int)), (.int .u64 (0 : Int)), (.string (bs ([]))), (.string (bs ([]))), (.string (bs ([]))), (.string (bs ([]))), (.string (bs ([]))), (.int .u8 (0 : Int)), (.int .u64 (0 : Int)), (.int .u64 (0 : Int)), (.slice none 0 0)]) rfl rfl rfl ?_
    refine WS.st1 (M25.focus 2 rfl) [_, _, _, _, _, _, _, _, _, _, _, _] [_, _, _, _, _, _, _, _, _, _, _, _] rfl rfl rfl rfl rfl (Nat.le_of_ble_eq_true rfl) (Nat.le_of_ble_eq_true rfl) rfl rfl ?_
    intro h26 M27
    replace M27 : Mem _ _ ([(p1, _)] :: [(p9, _)] :: [(p4, _)] :: []) _ := M27
    refine WS.op rfl rfl (WS.nil [(2, _), (3, _)] rfl ?_)
    refine WC.ret ?_
    refine ⟨[_, _], (res_cellN [_, _, _, _, _, _, _, _, _, _, _, _] rfl (M27.at 0 rfl) (Nat.le_of_ble_eq_true rfl) rfl (res_tmp rfl res_nil)), ?_⟩
    have hno : ∀ c0, MayC c0 → Fit c0 → encC c0 ≠ s := by
      intro c0 hm hf0 he2
      have he := he2.symm
      obtain ⟨a1, a2, a3⟩ := R7_.2.2 c0.op (vb c0.se.toNat ++ (vb c0.sq.toNat ++ bodyB c0)) rfl (by rw [he]; simp [encC, headB])
      obtain ⟨b1, b2, b3⟩ := R14_.2.2 c0.se.toNat _ c0.se.toNat_lt a1 a3
      obtain ⟨d1, d2, d3⟩ := R18_.2.2 c0.sq.toNat _ c0.sq.toNat_lt b1 b3
      obtain ⟨g1, g2, g3, g4, g5, g6, g7⟩ := id hf0
      obtain ⟨p1, p2⟩ := enc_1 (c := c0) (by rw [← a2]; omega)
      rw [p2] at d3
      obtain ⟨z0a, z0b, z0c⟩ := R22_.2.2 c0.tt.toNat ([]) (UInt64.toNat_lt _) d1 (by first | (rw [d3]; done) | (rw [d3]; simp))
      have eqc : (⟨m7_, m14_, m18_, ([]), ([]), ([]), ([]), ([]), 0, 0, m22_, []⟩ : Cmd) = c0 := by (rw [hm.2.1, p1]; simp only [blank]; rw [a2, u64_inj b2, u64_inj d2, u64_inj z0b])
      first
      | (cases z0a; done)
      | exact Bool.noConfusion (z0a.symm.trans (show b22_ = false by assumption))
      | (have q := congrArg List.length z0c; simp only [List.length_nil] at q; omega)
      | exact absurd (show mayB (⟨m7_, m14_, m18_, ([]), ([]), ([]), ([]), ([]), 0, 0, m22_, []⟩ : Cmd) = true by rw [eqc]; exact decide_eq_true hm) (by rw [show mayB (⟨m7_, m14_, m18_, ([]), ([]), ([]), ([]), ([]), 0, 0, m22_, []⟩ : Cmd) = false by assumption]; decide)
    exact ⟨zeroC, .slice none 0 0, [], false, .nil, rfl, fit0, rdC_no hno, (M27.bare.take 0).nils⟩
   ·
    refine WS.opV (.bool false) rfl rfl rfl (WS.op rfl rfl (WS.op rfl rfl (WS.op rfl rfl (WS.op rfl rfl (WS.op rfl (op_ld (M25.at 1 rfl) rfl rfl) (WS.op rfl (op_lenS (l := s22_) rfl) ?_))))))
    refine WS.gtrN (a := (s22_).length) (b := 0) rfl rfl rfl (fun e120 => ?_) (fun e120 => ?_)
    ·
     refine WS.op rfl rfl (WS.op rfl rfl (WS.off rfl (WS.offC rfl (WS.off rfl (WS.op rfl rfl (WS.nil [(2, _), (5, _), (126, _)] rfl ?_))))))
     refine WC.condT rfl ?_
     refine WC.seq ?_
     refine WC.run ?_
     refine WS.opV (.agg #[(.int .u8 (0 : Int)), (.int .u64 (0 : Int)), (.int .u64 (0 : Int)), (.string (bs ([]))), (.string (bs ([]))), (.string (bs ([]))), (.string (bs ([]))), (.string (bs ([]))), (.int .u8 (0 : Int)), (.int .u64 (0 : Int)), (.int .u64 (0 : Int)), (.slice none 0 0)]) rfl rfl rfl ?_
     refine WS.st1 (M25.focus 2 rfl) [_, _, _, _, _, _, _, _, _, _, _, _] [_, _, _, _, _, _, _, _, _, _, _, _] rfl rfl rfl rfl rfl (Nat.le_of_ble_eq_true rfl) (Nat.le_of_ble_eq_true rfl) rfl rfl ?_
     intro h28 M29
     replace M29 : Mem _ _ ([(p1, _)] :: [(p9, _)] :: [(p4, _)] :: []) _ := M29
     refine WS.op rfl rfl (WS.nil [(2, _), (3, _)] rfl ?_)
     refine WC.ret ?_
     refine ⟨[_, _], (res_cellN [_, _, _, _, _, _, _, _, _, _, _, _] rfl (M29.at 0 rfl) (Nat.le_of_ble_eq_true rfl) rfl (res_tmp rfl res_nil)), ?_⟩
     have hno : ∀ c0, MayC c0 → Fit c0 → encC c0 ≠ s := by
       intro c0 hm hf0 he2
       have he := he2.symm
       obtain ⟨a1, a2, a3⟩ := R7_.2.2 c0.op (vb c0.se.toNat ++ (vb c0.sq.toNat ++ bodyB c0)) rfl (by rw [he]; simp [encC, headB])
       obtain ⟨b1, b2, b3⟩ := R14_.2.2 c0.se.toNat _ c0.se.toNat_lt a1 a3
       obtain ⟨d1, d2, d3⟩ := R18_.2.2 c0.sq.toNat _ c0.sq.toNat_lt b1 b3
       obtain ⟨g1, g2, g3, g4, g5, g6, g7⟩ := id hf0
       obtain ⟨p1, p2⟩ := enc_1 (c := c0) (by rw [← a2]; omega)
       rw [p2] at d3
       obtain ⟨z0a, z0b, z0c⟩ := R22_.2.2 c0.tt.toNat ([]) (UInt64.toNat_lt _) d1 (by first | (rw [d3]; done) | (rw [d3]; simp))
       have eqc : (⟨m7_, m14_, m18_, ([]), ([]), ([]), ([]), ([]), 0, 0, m22_, []⟩ : Cmd) = c0 := by (rw [hm.2.1, p1]; simp only [blank]; rw [a2, u64_inj b2, u64_inj d2, u64_inj z0b])
       first
       | (cases z0a; done)
       | exact Bool.noConfusion (z0a.symm.trans (show b22_ = false by assumption))
       | (have q := congrArg List.length z0c; simp only [List.length_nil] at q; omega)
       | exact absurd (show mayB (⟨m7_, m14_, m18_, ([]), ([]), ([]), ([]), ([]), 0, 0, m22_, []⟩ : Cmd) = true by rw [eqc]; exact decide_eq_true hm) (by rw [show mayB (⟨m7_, m14_, m18_, ([]), ([]), ([]), ([]), ([]), 0, 0, m22_, []⟩ : Cmd) = false by assumption]; decide)
     exact ⟨zeroC, .slice none 0 0, [], false, .nil, rfl, fit0, rdC_no hno, (M29.bare.take 0).nils⟩
    ·
     refine WS.op rfl rfl (WS.op rfl rfl (WS.op rfl (op_lds [_, _, _, _, _, _, _, _, _, _, _, _] (M25.at 0 rfl) rfl (Nat.le_of_ble_eq_true rfl) rfl) ?_))
     refine WS.call rfl rfl rfl (refMay_ran M25.here (c := (⟨m7_, m14_, m18_, ([]), ([]), ([]), ([]), ([]), 0, 0, m22_, []⟩ : Cmd)) Row.Sl.nil (by unfold Fit; dsimp only; exact ⟨by first | omega | simp, by first | omega | simp, by first | omega | simp, by first | omega | simp, by first | omega | simp, by first | omega | simp, by first | exact hF | (intro p hp; cases hp)⟩)) ?_
     rintro _ h30 ⟨rfl, N31⟩
     have M32 := M25.trans N31
     cases hb2 : (mayB (⟨m7_, m14_, m18_, ([]), ([]), ([]), ([]), ([]), 0, 0, m22_, []⟩ : Cmd))
     ·
      refine WS.opV (.bool true) rfl rfl rfl (WS.op rfl rfl (WS.nil [(2, _), (5, _), (126, _)] rfl ?_))
      refine WC.condT rfl ?_
      refine WC.seq ?_
      refine WC.run ?_
      refine WS.opV (.agg #[(.int .u8 (0 : Int)), (.int .u64 (0 : Int)), (.int .u64 (0 : Int)), (.string (bs ([]))), (.string (bs ([]))), (.string (bs ([]))), (.string (bs ([]))), (.string (bs ([]))), (.int .u8 (0 : Int)), (.int .u64 (0 : Int)), (.int .u64 (0 : Int)), (.slice none 0 0)]) rfl rfl rfl ?_
      refine WS.st1 (M32.focus 2 rfl) [_, _, _, _, _, _, _, _, _, _, _, _] [_, _, _, _, _, _, _, _, _, _, _, _] rfl rfl rfl rfl rfl (Nat.le_of_ble_eq_true rfl) (Nat.le_of_ble_eq_true rfl) rfl rfl ?_
      intro h33 M34
      replace M34 : Mem _ _ ([(p1, _)] :: [(p9, _)] :: [(p4, _)] :: []) _ := M34
      refine WS.op rfl rfl (WS.nil [(2, _), (3, _)] rfl ?_)
      refine WC.ret ?_
      refine ⟨[_, _], (res_cellN [_, _, _, _, _, _, _, _, _, _, _, _] rfl (M34.at 0 rfl) (Nat.le_of_ble_eq_true rfl) rfl (res_tmp rfl res_nil)), ?_⟩
      have hno : ∀ c0, MayC c0 → Fit c0 → encC c0 ≠ s := by
        intro c0 hm hf0 he2
        have he := he2.symm
        obtain ⟨a1, a2, a3⟩ := R7_.2.2 c0.op (vb c0.se.toNat ++ (vb c0.sq.toNat ++ bodyB c0)) rfl (by rw [he]; simp [encC, headB])
        obtain ⟨b1, b2, b3⟩ := R14_.2.2 c0.se.toNat _ c0.se.toNat_lt a1 a3
        obtain ⟨d1, d2, d3⟩ := R18_.2.2 c0.sq.toNat _ c0.sq.toNat_lt b1 b3
        obtain ⟨g1, g2, g3, g4, g5, g6, g7⟩ := id hf0
        obtain ⟨p1, p2⟩ := enc_1 (c := c0) (by rw [← a2]; omega)
        rw [p2] at d3
        obtain ⟨z0a, z0b, z0c⟩ := R22_.2.2 c0.tt.toNat ([]) (UInt64.toNat_lt _) d1 (by first | (rw [d3]; done) | (rw [d3]; simp))
        have eqc : (⟨m7_, m14_, m18_, ([]), ([]), ([]), ([]), ([]), 0, 0, m22_, []⟩ : Cmd) = c0 := by (rw [hm.2.1, p1]; simp only [blank]; rw [a2, u64_inj b2, u64_inj d2, u64_inj z0b])
        first
        | (cases z0a; done)
        | exact Bool.noConfusion (z0a.symm.trans (show b22_ = false by assumption))
        | (have q := congrArg List.length z0c; simp only [List.length_nil] at q; omega)
        | exact absurd (show mayB (⟨m7_, m14_, m18_, ([]), ([]), ([]), ([]), ([]), 0, 0, m22_, []⟩ : Cmd) = true by rw [eqc]; exact decide_eq_true hm) (by rw [show mayB (⟨m7_, m14_, m18_, ([]), ([]), ([]), ([]), ([]), 0, 0, m22_, []⟩ : Cmd) = false by assumption]; decide)
      exact ⟨zeroC, .slice none 0 0, [], false, .nil, rfl, fit0, rdC_no hno, (M34.bare.take 0).nils⟩
     ·
      refine WS.opV (.bool false) rfl rfl rfl (WS.op rfl rfl (WS.nil [(2, _), (5, _), (126, _)] rfl ?_))
      refine WC.condF rfl ?_
      refine WC.skip ?_
      refine WC.seq ?_
      refine WC.run ?_
      refine WS.op rfl (op_lds [_, _, _, _, _, _, _, _, _, _, _, _] (M32.at 0 rfl) rfl (Nat.le_of_ble_eq_true rfl) rfl) ?_
      refine WS.st1 (M32.focus 2 rfl) [_, _, _, _, _, _, _, _, _, _, _, _] [_, _, _, _, _, _, _, _, _, _, _, _] rfl rfl rfl rfl rfl (Nat.le_of_ble_eq_true rfl) (Nat.le_of_ble_eq_true rfl) rfl rfl ?_
      intro h35 M36
      replace M36 : Mem _ _ ([(p1, _)] :: [(p9, _)] :: [(p4, _)] :: []) _ := M36
      refine WS.op rfl rfl (WS.nil [(2, _), (3, _)] rfl ?_)
      refine WC.ret ?_
      refine ⟨[_, _], (res_cellN [_, _, _, _, _, _, _, _, _, _, _, _] rfl (M36.at 0 rfl) (Nat.le_of_ble_eq_true rfl) rfl (res_tmp rfl res_nil)), ?_⟩
      have hs0 : s22_ = [] := List.eq_nil_of_length_eq_zero (by omega)
      have hm : MayC (⟨m7_, m14_, m18_, ([]), ([]), ([]), ([]), ([]), 0, 0, m22_, []⟩ : Cmd) := of_decide_eq_true (p := MayC (⟨m7_, m14_, m18_, ([]), ([]), ([]), ([]), ([]), 0, 0, m22_, []⟩ : Cmd)) (by assumption)
      obtain ⟨y3, e3'⟩ := R22_.2.1 (show b22_ = true by first | assumption | rfl)
      obtain ⟨y2, e2'⟩ := R18_.2.1 y3
      obtain ⟨y1, e1'⟩ := R14_.2.1 y2
      obtain ⟨y0, e0'⟩ := R7_.2.1 y1
      obtain ⟨p1, p2⟩ := enc_1 (c := (⟨m7_, m14_, m18_, ([]), ([]), ([]), ([]), ([]), 0, 0, m22_, []⟩ : Cmd)) (by dsimp only; omega)
      have henc : encC (⟨m7_, m14_, m18_, ([]), ([]), ([]), ([]), ([]), 0, 0, m22_, []⟩ : Cmd) = s := by
        unfold encC
        rw [p2]
        unfold headB
        dsimp only
        rw [e0', e1', e2', e3', hs0]
        simp
      exact ⟨(⟨m7_, m14_, m18_, ([]), ([]), ([]), ([]), ([]), 0, 0, m22_, []⟩ : Cmd), _, _, true, .nil, rfl, (by unfold Fit; dsimp only; exact ⟨by first | omega | simp, by first | omega | simp, by first | omega | simp, by first | omega | simp, by first | omega | simp, by first | omega | simp, by first | exact hF | (intro p hp; cases hp)⟩), ⟨fun _ => ⟨hm, henc⟩, fun q => nomatch q⟩, (M36.bare.take 0).nils⟩
  ·
   refine WS.op rfl rfl (WS.nil [(2, _), (4, _), (5, _), (23, _), (24, _)] rfl ?_)
   refine WC.condF rfl ?_
   refine WC.run ?_
   refine WS.eqlN (a := (m7_).toNat) (b := 6) rfl rfl rfl (fun e26 => ?_) (fun e26 => ?_)
   ·
    refine WS.op rfl rfl (WS.nil [(2, _), (4, _), (5, _), (23, _), (24, _)] rfl ?_)
    refine WC.condT rfl ?_
    refine WC.run ?_
    refine WS.op rfl rfl ?_
    refine WS.call rfl rfl rfl (tk_number_ran (s := s18_) (w := b18_) (M21.focus 1 rfl) (by omega)) ?_
    rintro _ h37 ⟨s37_, b37_, m37_, rfl, M38, R37_⟩
    have R37_l := R37_.1
    replace M38 : Mem _ _ ([(p4, _)] :: [(p9, _)] :: [(p1, _)] :: []) _ := M38
    refine WS.op rfl rfl ?_
    refine WS.st1 (M38.focus 1 rfl) [_] [_, _, _, _, _, _, _, _, _, _, _, _] rfl rfl rfl rfl rfl (Nat.le_of_ble_eq_true rfl) (Nat.le_of_ble_eq_true rfl) rfl rfl ?_
    intro h39 M40
    replace M40 : Mem _ _ ([(p9, _)] :: [(p4, _)] :: [(p1, _)] :: []) _ := M40
    refine WS.nil [(2, _), (4, _), (5, _)] rfl ?_
    refine WC.seq ?_
    refine WC.seq ?_
    refine WC.run ?_
    refine WS.op rfl rfl (WS.op rfl rfl (WS.op rfl rfl (WS.op rfl (op_ld (M40.at 1 rfl) rfl rfl) ?_)))
    cases hb3 : b37_
    ·
     refine WS.opV (.bool true) rfl rfl rfl (WS.op rfl rfl (WS.off rfl (WS.off rfl (WS.off rfl (WS.off rfl (WS.off rfl (WS.off rfl (WS.op rfl rfl (WS.op rfl rfl ?_)))))))))
     refine WS.off rfl (WS.offC rfl (WS.off rfl (WS.op rfl rfl (WS.nil [(2, _), (5, _), (126, _)] rfl ?_))))
     refine WC.condT rfl ?_
     refine WC.seq ?_
     refine WC.run ?_
     refine WS.opV (.agg #[(.int .u8 (0 : Int)), (.int .u64 (0 : Int)), (.int .u64 (0 : Int)), (.string (bs ([]))), (.string (bs ([]))), (.string (bs ([]))), (.string (bs ([]))), (.string (bs ([]))), (.int .u8 (0 : Int)), (.int .u64 (0 : Int)), (.int .u64 (0 : Int)), (.slice none 0 0)]) rfl rfl rfl ?_
     refine WS.st1 (M40.focus 2 rfl) [_, _, _, _, _, _, _, _, _, _, _, _] [_, _, _, _, _, _, _, _, _, _, _, _] rfl rfl rfl rfl rfl (Nat.le_of_ble_eq_true rfl) (Nat.le_of_ble_eq_true rfl) rfl rfl ?_
     intro h41 M42
     replace M42 : Mem _ _ ([(p1, _)] :: [(p9, _)] :: [(p4, _)] :: []) _ := M42
     refine WS.op rfl rfl (WS.nil [(2, _), (3, _)] rfl ?_)
     refine WC.ret ?_
     refine ⟨[_, _], (res_cellN [_, _, _, _, _, _, _, _, _, _, _, _] rfl (M42.at 0 rfl) (Nat.le_of_ble_eq_true rfl) rfl (res_tmp rfl res_nil)), ?_⟩
     have hno : ∀ c0, MayC c0 → Fit c0 → encC c0 ≠ s := by
       intro c0 hm hf0 he2
       have he := he2.symm
       obtain ⟨a1, a2, a3⟩ := R7_.2.2 c0.op (vb c0.se.toNat ++ (vb c0.sq.toNat ++ bodyB c0)) rfl (by rw [he]; simp [encC, headB])
       obtain ⟨b1, b2, b3⟩ := R14_.2.2 c0.se.toNat _ c0.se.toNat_lt a1 a3
       obtain ⟨d1, d2, d3⟩ := R18_.2.2 c0.sq.toNat _ c0.sq.toNat_lt b1 b3
       obtain ⟨g1, g2, g3, g4, g5, g6, g7⟩ := id hf0
       obtain ⟨p1, p2⟩ := enc_1 (c := c0) (by rw [← a2]; omega)
       rw [p2] at d3
       obtain ⟨z0a, z0b, z0c⟩ := R37_.2.2 c0.tt.toNat ([]) (UInt64.toNat_lt _) d1 (by first | (rw [d3]; done) | (rw [d3]; simp))
       have eqc : (⟨m7_, m14_, m18_, ([]), ([]), ([]), ([]), ([]), 0, 0, m37_, []⟩ : Cmd) = c0 := by (rw [hm.2.1, p1]; simp only [blank]; rw [a2, u64_inj b2, u64_inj d2, u64_inj z0b])
       first
       | (cases z0a; done)
       | exact Bool.noConfusion (z0a.symm.trans (show b37_ = false by assumption))
       | (have q := congrArg List.length z0c; simp only [List.length_nil] at q; omega)
       | exact absurd (show mayB (⟨m7_, m14_, m18_, ([]), ([]), ([]), ([]), ([]), 0, 0, m37_, []⟩ : Cmd) = true by rw [eqc]; exact decide_eq_true hm) (by rw [show mayB (⟨m7_, m14_, m18_, ([]), ([]), ([]), ([]), ([]), 0, 0, m37_, []⟩ : Cmd) = false by assumption]; decide)
     exact ⟨zeroC, .slice none 0 0, [], false, .nil, rfl, fit0, rdC_no hno, (M42.bare.take 0).nils⟩
    ·
     refine WS.opV (.bool false) rfl rfl rfl (WS.op rfl rfl (WS.op rfl rfl (WS.op rfl rfl (WS.op rfl rfl (WS.op rfl (op_ld (M40.at 1 rfl) rfl rfl) (WS.op rfl (op_lenS (l := s37_) rfl) ?_))))))
     refine WS.gtrN (a := (s37_).length) (b := 0) rfl rfl rfl (fun e120 => ?_) (fun e120 => ?_)
     ·
      refine WS.op rfl rfl (WS.op rfl rfl (WS.off rfl (WS.offC rfl (WS.off rfl (WS.op rfl rfl (WS.nil [(2, _), (5, _), (126, _)] rfl ?_))))))
      refine WC.condT rfl ?_
      refine WC.seq ?_
      refine WC.run ?_
      refine WS.opV (.agg #[(.int .u8 (0 : Int)), (.int .u64 (0 : Int)), (.int .u64 (0 : Int)), (.string (bs ([]))), (.string (bs ([]))), (.string (bs ([]))), (.string (bs ([]))), (.string (bs ([]))), (.int .u8 (0 : Int)), (.int .u64 (0 : Int)), (.int .u64 (0 : Int)), (.slice none 0 0)]) rfl rfl rfl ?_
      refine WS.st1 (M40.focus 2 rfl) [_, _, _, _, _, _, _, _, _, _, _, _] [_, _, _, _, _, _, _, _, _, _, _, _] rfl rfl rfl rfl rfl (Nat.le_of_ble_eq_true rfl) (Nat.le_of_ble_eq_true rfl) rfl rfl ?_
      intro h43 M44
      replace M44 : Mem _ _ ([(p1, _)] :: [(p9, _)] :: [(p4, _)] :: []) _ := M44
      refine WS.op rfl rfl (WS.nil [(2, _), (3, _)] rfl ?_)
      refine WC.ret ?_
      refine ⟨[_, _], (res_cellN [_, _, _, _, _, _, _, _, _, _, _, _] rfl (M44.at 0 rfl) (Nat.le_of_ble_eq_true rfl) rfl (res_tmp rfl res_nil)), ?_⟩
      have hno : ∀ c0, MayC c0 → Fit c0 → encC c0 ≠ s := by
        intro c0 hm hf0 he2
        have he := he2.symm
        obtain ⟨a1, a2, a3⟩ := R7_.2.2 c0.op (vb c0.se.toNat ++ (vb c0.sq.toNat ++ bodyB c0)) rfl (by rw [he]; simp [encC, headB])
        obtain ⟨b1, b2, b3⟩ := R14_.2.2 c0.se.toNat _ c0.se.toNat_lt a1 a3
        obtain ⟨d1, d2, d3⟩ := R18_.2.2 c0.sq.toNat _ c0.sq.toNat_lt b1 b3
        obtain ⟨g1, g2, g3, g4, g5, g6, g7⟩ := id hf0
        obtain ⟨p1, p2⟩ := enc_1 (c := c0) (by rw [← a2]; omega)
        rw [p2] at d3
        obtain ⟨z0a, z0b, z0c⟩ := R37_.2.2 c0.tt.toNat ([]) (UInt64.toNat_lt _) d1 (by first | (rw [d3]; done) | (rw [d3]; simp))
        have eqc : (⟨m7_, m14_, m18_, ([]), ([]), ([]), ([]), ([]), 0, 0, m37_, []⟩ : Cmd) = c0 := by (rw [hm.2.1, p1]; simp only [blank]; rw [a2, u64_inj b2, u64_inj d2, u64_inj z0b])
        first
        | (cases z0a; done)
        | exact Bool.noConfusion (z0a.symm.trans (show b37_ = false by assumption))
        | (have q := congrArg List.length z0c; simp only [List.length_nil] at q; omega)
        | exact absurd (show mayB (⟨m7_, m14_, m18_, ([]), ([]), ([]), ([]), ([]), 0, 0, m37_, []⟩ : Cmd) = true by rw [eqc]; exact decide_eq_true hm) (by rw [show mayB (⟨m7_, m14_, m18_, ([]), ([]), ([]), ([]), ([]), 0, 0, m37_, []⟩ : Cmd) = false by assumption]; decide)
      exact ⟨zeroC, .slice none 0 0, [], false, .nil, rfl, fit0, rdC_no hno, (M44.bare.take 0).nils⟩
     ·
      refine WS.op rfl rfl (WS.op rfl rfl (WS.op rfl (op_lds [_, _, _, _, _, _, _, _, _, _, _, _] (M40.at 0 rfl) rfl (Nat.le_of_ble_eq_true rfl) rfl) ?_))
      refine WS.call rfl rfl rfl (refMay_ran M40.here (c := (⟨m7_, m14_, m18_, ([]), ([]), ([]), ([]), ([]), 0, 0, m37_, []⟩ : Cmd)) Row.Sl.nil (by unfold Fit; dsimp only; exact ⟨by first | omega | simp, by first | omega | simp, by first | omega | simp, by first | omega | simp, by first | omega | simp, by first | omega | simp, by first | exact hF | (intro p hp; cases hp)⟩)) ?_
      rintro _ h45 ⟨rfl, N46⟩
      have M47 := M40.trans N46
      cases hb4 : (mayB (⟨m7_, m14_, m18_, ([]), ([]), ([]), ([]), ([]), 0, 0, m37_, []⟩ : Cmd))
      ·
       refine WS.opV (.bool true) rfl rfl rfl (WS.op rfl rfl (WS.nil [(2, _), (5, _), (126, _)] rfl ?_))
       refine WC.condT rfl ?_
       refine WC.seq ?_
       refine WC.run ?_
       refine WS.opV (.agg #[(.int .u8 (0 : Int)), (.int .u64 (0 : Int)), (.int .u64 (0 : Int)), (.string (bs ([]))), (.string (bs ([]))), (.string (bs ([]))), (.string (bs ([]))), (.string (bs ([]))), (.int .u8 (0 : Int)), (.int .u64 (0 : Int)), (.int .u64 (0 : Int)), (.slice none 0 0)]) rfl rfl rfl ?_
       refine WS.st1 (M47.focus 2 rfl) [_, _, _, _, _, _, _, _, _, _, _, _] [_, _, _, _, _, _, _, _, _, _, _, _] rfl rfl rfl rfl rfl (Nat.le_of_ble_eq_true rfl) (Nat.le_of_ble_eq_true rfl) rfl rfl ?_
       intro h48 M49
       replace M49 : Mem _ _ ([(p1, _)] :: [(p9, _)] :: [(p4, _)] :: []) _ := M49
       refine WS.op rfl rfl (WS.nil [(2, _), (3, _)] rfl ?_)
       refine WC.ret ?_
       refine ⟨[_, _], (res_cellN [_, _, _, _, _, _, _, _, _, _, _, _] rfl (M49.at 0 rfl) (Nat.le_of_ble_eq_true rfl) rfl (res_tmp rfl res_nil)), ?_⟩
       have hno : ∀ c0, MayC c0 → Fit c0 → encC c0 ≠ s := by
         intro c0 hm hf0 he2
         have he := he2.symm
         obtain ⟨a1, a2, a3⟩ := R7_.2.2 c0.op (vb c0.se.toNat ++ (vb c0.sq.toNat ++ bodyB c0)) rfl (by rw [he]; simp [encC, headB])
         obtain ⟨b1, b2, b3⟩ := R14_.2.2 c0.se.toNat _ c0.se.toNat_lt a1 a3
         obtain ⟨d1, d2, d3⟩ := R18_.2.2 c0.sq.toNat _ c0.sq.toNat_lt b1 b3
         obtain ⟨g1, g2, g3, g4, g5, g6, g7⟩ := id hf0
         obtain ⟨p1, p2⟩ := enc_1 (c := c0) (by rw [← a2]; omega)
         rw [p2] at d3
         obtain ⟨z0a, z0b, z0c⟩ := R37_.2.2 c0.tt.toNat ([]) (UInt64.toNat_lt _) d1 (by first | (rw [d3]; done) | (rw [d3]; simp))
         have eqc : (⟨m7_, m14_, m18_, ([]), ([]), ([]), ([]), ([]), 0, 0, m37_, []⟩ : Cmd) = c0 := by (rw [hm.2.1, p1]; simp only [blank]; rw [a2, u64_inj b2, u64_inj d2, u64_inj z0b])
         first
         | (cases z0a; done)
         | exact Bool.noConfusion (z0a.symm.trans (show b37_ = false by assumption))
         | (have q := congrArg List.length z0c; simp only [List.length_nil] at q; omega)
         | exact absurd (show mayB (⟨m7_, m14_, m18_, ([]), ([]), ([]), ([]), ([]), 0, 0, m37_, []⟩ : Cmd) = true by rw [eqc]; exact decide_eq_true hm) (by rw [show mayB (⟨m7_, m14_, m18_, ([]), ([]), ([]), ([]), ([]), 0, 0, m37_, []⟩ : Cmd) = false by assumption]; decide)
       exact ⟨zeroC, .slice none 0 0, [], false, .nil, rfl, fit0, rdC_no hno, (M49.bare.take 0).nils⟩
      ·
       refine WS.opV (.bool false) rfl rfl rfl (WS.op rfl rfl (WS.nil [(2, _), (5, _), (126, _)] rfl ?_))
       refine WC.condF rfl ?_
       refine WC.skip ?_
       refine WC.seq ?_
       refine WC.run ?_
       refine WS.op rfl (op_lds [_, _, _, _, _, _, _, _, _, _, _, _] (M47.at 0 rfl) rfl (Nat.le_of_ble_eq_true rfl) rfl) ?_
       refine WS.st1 (M47.focus 2 rfl) [_, _, _, _, _, _, _, _, _, _, _, _] [_, _, _, _, _, _, _, _, _, _, _, _] rfl rfl rfl rfl rfl (Nat.le_of_ble_eq_true rfl) (Nat.le_of_ble_eq_true rfl) rfl rfl ?_
       intro h50 M51
       replace M51 : Mem _ _ ([(p1, _)] :: [(p9, _)] :: [(p4, _)] :: []) _ := M51
       refine WS.op rfl rfl (WS.nil [(2, _), (3, _)] rfl ?_)
       refine WC.ret ?_
       refine ⟨[_, _], (res_cellN [_, _, _, _, _, _, _, _, _, _, _, _] rfl (M51.at 0 rfl) (Nat.le_of_ble_eq_true rfl) rfl (res_tmp rfl res_nil)), ?_⟩
       have hs0 : s37_ = [] := List.eq_nil_of_length_eq_zero (by omega)
       have hm : MayC (⟨m7_, m14_, m18_, ([]), ([]), ([]), ([]), ([]), 0, 0, m37_, []⟩ : Cmd) := of_decide_eq_true (p := MayC (⟨m7_, m14_, m18_, ([]), ([]), ([]), ([]), ([]), 0, 0, m37_, []⟩ : Cmd)) (by assumption)
       obtain ⟨y3, e3'⟩ := R37_.2.1 (show b37_ = true by first | assumption | rfl)
       obtain ⟨y2, e2'⟩ := R18_.2.1 y3
       obtain ⟨y1, e1'⟩ := R14_.2.1 y2
       obtain ⟨y0, e0'⟩ := R7_.2.1 y1
       obtain ⟨p1, p2⟩ := enc_1 (c := (⟨m7_, m14_, m18_, ([]), ([]), ([]), ([]), ([]), 0, 0, m37_, []⟩ : Cmd)) (by dsimp only; omega)
       have henc : encC (⟨m7_, m14_, m18_, ([]), ([]), ([]), ([]), ([]), 0, 0, m37_, []⟩ : Cmd) = s := by
         unfold encC
         rw [p2]
         unfold headB
         dsimp only
         rw [e0', e1', e2', e3', hs0]
         simp
       exact ⟨(⟨m7_, m14_, m18_, ([]), ([]), ([]), ([]), ([]), 0, 0, m37_, []⟩ : Cmd), _, _, true, .nil, rfl, (by unfold Fit; dsimp only; exact ⟨by first | omega | simp, by first | omega | simp, by first | omega | simp, by first | omega | simp, by first | omega | simp, by first | omega | simp, by first | exact hF | (intro p hp; cases hp)⟩), ⟨fun _ => ⟨hm, henc⟩, fun q => nomatch q⟩, (M51.bare.take 0).nils⟩
   ·
    refine WS.op rfl rfl (WS.nil [(2, _), (4, _), (5, _), (23, _), (24, _)] rfl ?_)
    refine WC.condF rfl ?_
    refine WC.seq ?_
    refine WC.run ?_
    refine WS.eqlN (a := (m7_).toNat) (b := 2) rfl rfl rfl (fun e31 => ?_) (fun e31 => ?_)
    ·
     refine WS.op rfl rfl (WS.nil [(2, _), (4, _), (5, _), (23, _), (30, _)] rfl ?_)
     refine WC.condT rfl ?_
     refine WC.seq ?_
     refine WC.run ?_
     refine WS.op rfl rfl ?_
     refine WS.call rfl rfl rfl (tk_text_ran (s := s18_) (w := b18_) (M21.focus 1 rfl) (by omega)) ?_
     rintro _ h52 ⟨s52_, b52_, m52_, rfl, M53, R52_⟩
     have R52_l := R52_.1
     have R52_t := R52_.2.1
     replace M53 : Mem _ _ ([(p4, _)] :: [(p9, _)] :: [(p1, _)] :: []) _ := M53
     refine WS.op rfl rfl ?_
     refine WS.st1 (M53.focus 1 rfl) [_] [_, _, _, _, _, _, _, _, _, _, _, _] rfl rfl rfl rfl rfl (Nat.le_of_ble_eq_true rfl) (Nat.le_of_ble_eq_true rfl) rfl rfl ?_
     intro h54 M55
     replace M55 : Mem _ _ ([(p9, _)] :: [(p4, _)] :: [(p1, _)] :: []) _ := M55
     refine WS.nil [(2, _), (4, _), (5, _)] rfl ?_
     refine WC.seq ?_
     refine WC.run ?_
     refine WS.op rfl rfl ?_
     refine WS.call rfl rfl rfl (tk_text_ran (s := s52_) (w := b52_) (M55.focus 1 rfl) (by omega)) ?_
     rintro _ h56 ⟨s56_, b56_, m56_, rfl, M57, R56_⟩
     have R56_l := R56_.1
     have R56_t := R56_.2.1
     replace M57 : Mem _ _ ([(p4, _)] :: [(p9, _)] :: [(p1, _)] :: []) _ := M57
     refine WS.op rfl rfl ?_
     refine WS.st1 (M57.focus 1 rfl) [_] [_, _, _, _, _, _, _, _, _, _, _, _] rfl rfl rfl rfl rfl (Nat.le_of_ble_eq_true rfl) (Nat.le_of_ble_eq_true rfl) rfl rfl ?_
     intro h58 M59
     replace M59 : Mem _ _ ([(p9, _)] :: [(p4, _)] :: [(p1, _)] :: []) _ := M59
     refine WS.nil [(2, _), (4, _), (5, _)] rfl ?_
     refine WC.run ?_
     refine WS.op rfl rfl ?_
     refine WS.call rfl rfl rfl (tk_number_ran (s := s56_) (w := b56_) (M59.focus 1 rfl) (by omega)) ?_
     rintro _ h60 ⟨s60_, b60_, m60_, rfl, M61, R60_⟩
     have R60_l := R60_.1
     replace M61 : Mem _ _ ([(p4, _)] :: [(p9, _)] :: [(p1, _)] :: []) _ := M61
     refine WS.op rfl rfl ?_
     refine WS.st1 (M61.focus 1 rfl) [_] [_, _, _, _, _, _, _, _, _, _, _, _] rfl rfl rfl rfl rfl (Nat.le_of_ble_eq_true rfl) (Nat.le_of_ble_eq_true rfl) rfl rfl ?_
     intro h62 M63
     replace M63 : Mem _ _ ([(p9, _)] :: [(p4, _)] :: [(p1, _)] :: []) _ := M63
     refine WS.nil [(2, _), (4, _), (5, _)] rfl ?_
     refine WC.seq ?_
     refine WC.seq ?_
     refine WC.run ?_
     refine WS.op rfl rfl (WS.op rfl rfl (WS.op rfl rfl (WS.op rfl (op_ld (M63.at 1 rfl) rfl rfl) ?_)))
     cases hb5 : b60_
     ·
      refine WS.opV (.bool true) rfl rfl rfl (WS.op rfl rfl (WS.off rfl (WS.off rfl (WS.off rfl (WS.off rfl (WS.off rfl (WS.off rfl (WS.op rfl rfl (WS.op rfl rfl ?_)))))))))
      refine WS.off rfl (WS.offC rfl (WS.off rfl (WS.op rfl rfl (WS.nil [(2, _), (5, _), (126, _)] rfl ?_))))
      refine WC.condT rfl ?_
      refine WC.seq ?_
      refine WC.run ?_
      refine WS.opV (.agg #[(.int .u8 (0 : Int)), (.int .u64 (0 : Int)), (.int .u64 (0 : Int)), (.string (bs ([]))), (.string (bs ([]))), (.string (bs ([]))), (.string (bs ([]))), (.string (bs ([]))), (.int .u8 (0 : Int)), (.int .u64 (0 : Int)), (.int .u64 (0 : Int)), (.slice none 0 0)]) rfl rfl rfl ?_
      refine WS.st1 (M63.focus 2 rfl) [_, _, _, _, _, _, _, _, _, _, _, _] [_, _, _, _, _, _, _, _, _, _, _, _] rfl rfl rfl rfl rfl (Nat.le_of_ble_eq_true rfl) (Nat.le_of_ble_eq_true rfl) rfl rfl ?_
      intro h64 M65
      replace M65 : Mem _ _ ([(p1, _)] :: [(p9, _)] :: [(p4, _)] :: []) _ := M65
      refine WS.op rfl rfl (WS.nil [(2, _), (3, _)] rfl ?_)
      refine WC.ret ?_
      refine ⟨[_, _], (res_cellN [_, _, _, _, _, _, _, _, _, _, _, _] rfl (M65.at 0 rfl) (Nat.le_of_ble_eq_true rfl) rfl (res_tmp rfl res_nil)), ?_⟩
      have hno : ∀ c0, MayC c0 → Fit c0 → encC c0 ≠ s := by
        intro c0 hm hf0 he2
        have he := he2.symm
        obtain ⟨a1, a2, a3⟩ := R7_.2.2 c0.op (vb c0.se.toNat ++ (vb c0.sq.toNat ++ bodyB c0)) rfl (by rw [he]; simp [encC, headB])
        obtain ⟨b1, b2, b3⟩ := R14_.2.2 c0.se.toNat _ c0.se.toNat_lt a1 a3
        obtain ⟨d1, d2, d3⟩ := R18_.2.2 c0.sq.toNat _ c0.sq.toNat_lt b1 b3
        obtain ⟨g1, g2, g3, g4, g5, g6, g7⟩ := id hf0
        obtain ⟨p1, p2⟩ := enc_2 (c := c0) (by rw [← a2]; omega)
        rw [p2] at d3
        obtain ⟨z0a, z0b, z0c⟩ := R52_.2.2.2 c0.ky (sb c0.va ++ vb c0.le.toNat) (by omega) d1 (by first | (rw [d3]; done) | (rw [d3]; simp))
        obtain ⟨z1a, z1b, z1c⟩ := R56_.2.2.2 c0.va (vb c0.le.toNat) (by omega) z0a (by first | (rw [z0c]; done) | (rw [z0c]; simp))
        obtain ⟨z2a, z2b, z2c⟩ := R60_.2.2 c0.le.toNat ([]) (UInt64.toNat_lt _) z1a (by first | (rw [z1c]; done) | (rw [z1c]; simp))
        have eqc : (⟨m7_, m14_, m18_, m52_, m56_, ([]), ([]), ([]), 0, m60_, 0, []⟩ : Cmd) = c0 := by (rw [hm.2.1, p1]; simp only [blank]; rw [a2, u64_inj b2, u64_inj d2, z0b, z1b, u64_inj z2b])
        first
        | (cases z2a; done)
        | exact Bool.noConfusion (z2a.symm.trans (show b60_ = false by assumption))
        | (have q := congrArg List.length z2c; simp only [List.length_nil] at q; omega)
        | exact absurd (show mayB (⟨m7_, m14_, m18_, m52_, m56_, ([]), ([]), ([]), 0, m60_, 0, []⟩ : Cmd) = true by rw [eqc]; exact decide_eq_true hm) (by rw [show mayB (⟨m7_, m14_, m18_, m52_, m56_, ([]), ([]), ([]), 0, m60_, 0, []⟩ : Cmd) = false by assumption]; decide)
      exact ⟨zeroC, .slice none 0 0, [], false, .nil, rfl, fit0, rdC_no hno, (M65.bare.take 0).nils⟩
     ·
      refine WS.opV (.bool false) rfl rfl rfl (WS.op rfl rfl (WS.op rfl rfl (WS.op rfl rfl (WS.op rfl rfl (WS.op rfl (op_ld (M63.at 1 rfl) rfl rfl) (WS.op rfl (op_lenS (l := s60_) rfl) ?_))))))
      refine WS.gtrN (a := (s60_).length) (b := 0) rfl rfl rfl (fun e120 => ?_) (fun e120 => ?_)
      ·
       refine WS.op rfl rfl (WS.op rfl rfl (WS.off rfl (WS.offC rfl (WS.off rfl (WS.op rfl rfl (WS.nil [(2, _), (5, _), (126, _)] rfl ?_))))))
       refine WC.condT rfl ?_
       refine WC.seq ?_
       refine WC.run ?_
       refine WS.opV (.agg #[(.int .u8 (0 : Int)), (.int .u64 (0 : Int)), (.int .u64 (0 : Int)), (.string (bs ([]))), (.string (bs ([]))), (.string (bs ([]))), (.string (bs ([]))), (.string (bs ([]))), (.int .u8 (0 : Int)), (.int .u64 (0 : Int)), (.int .u64 (0 : Int)), (.slice none 0 0)]) rfl rfl rfl ?_
       refine WS.st1 (M63.focus 2 rfl) [_, _, _, _, _, _, _, _, _, _, _, _] [_, _, _, _, _, _, _, _, _, _, _, _] rfl rfl rfl rfl rfl (Nat.le_of_ble_eq_true rfl) (Nat.le_of_ble_eq_true rfl) rfl rfl ?_
       intro h66 M67
       replace M67 : Mem _ _ ([(p1, _)] :: [(p9, _)] :: [(p4, _)] :: []) _ := M67
       refine WS.op rfl rfl (WS.nil [(2, _), (3, _)] rfl ?_)
       refine WC.ret ?_
       refine ⟨[_, _], (res_cellN [_, _, _, _, _, _, _, _, _, _, _, _] rfl (M67.at 0 rfl) (Nat.le_of_ble_eq_true rfl) rfl (res_tmp rfl res_nil)), ?_⟩
       have hno : ∀ c0, MayC c0 → Fit c0 → encC c0 ≠ s := by
         intro c0 hm hf0 he2
         have he := he2.symm
         obtain ⟨a1, a2, a3⟩ := R7_.2.2 c0.op (vb c0.se.toNat ++ (vb c0.sq.toNat ++ bodyB c0)) rfl (by rw [he]; simp [encC, headB])
         obtain ⟨b1, b2, b3⟩ := R14_.2.2 c0.se.toNat _ c0.se.toNat_lt a1 a3
         obtain ⟨d1, d2, d3⟩ := R18_.2.2 c0.sq.toNat _ c0.sq.toNat_lt b1 b3
         obtain ⟨g1, g2, g3, g4, g5, g6, g7⟩ := id hf0
         obtain ⟨p1, p2⟩ := enc_2 (c := c0) (by rw [← a2]; omega)
         rw [p2] at d3
         obtain ⟨z0a, z0b, z0c⟩ := R52_.2.2.2 c0.ky (sb c0.va ++ vb c0.le.toNat) (by omega) d1 (by first | (rw [d3]; done) | (rw [d3]; simp))
         obtain ⟨z1a, z1b, z1c⟩ := R56_.2.2.2 c0.va (vb c0.le.toNat) (by omega) z0a (by first | (rw [z0c]; done) | (rw [z0c]; simp))
         obtain ⟨z2a, z2b, z2c⟩ := R60_.2.2 c0.le.toNat ([]) (UInt64.toNat_lt _) z1a (by first | (rw [z1c]; done) | (rw [z1c]; simp))
         have eqc : (⟨m7_, m14_, m18_, m52_, m56_, ([]), ([]), ([]), 0, m60_, 0, []⟩ : Cmd) = c0 := by (rw [hm.2.1, p1]; simp only [blank]; rw [a2, u64_inj b2, u64_inj d2, z0b, z1b, u64_inj z2b])
         first
         | (cases z2a; done)
         | exact Bool.noConfusion (z2a.symm.trans (show b60_ = false by assumption))
         | (have q := congrArg List.length z2c; simp only [List.length_nil] at q; omega)
         | exact absurd (show mayB (⟨m7_, m14_, m18_, m52_, m56_, ([]), ([]), ([]), 0, m60_, 0, []⟩ : Cmd) = true by rw [eqc]; exact decide_eq_true hm) (by rw [show mayB (⟨m7_, m14_, m18_, m52_, m56_, ([]), ([]), ([]), 0, m60_, 0, []⟩ : Cmd) = false by assumption]; decide)
       exact ⟨zeroC, .slice none 0 0, [], false, .nil, rfl, fit0, rdC_no hno, (M67.bare.take 0).nils⟩
      ·
       refine WS.op rfl rfl (WS.op rfl rfl (WS.op rfl (op_lds [_, _, _, _, _, _, _, _, _, _, _, _] (M63.at 0 rfl) rfl (Nat.le_of_ble_eq_true rfl) rfl) ?_))
       refine WS.call rfl rfl rfl (refMay_ran M63.here (c := (⟨m7_, m14_, m18_, m52_, m56_, ([]), ([]), ([]), 0, m60_, 0, []⟩ : Cmd)) Row.Sl.nil (by unfold Fit; dsimp only; exact ⟨by first | omega | simp, by first | omega | simp, by first | omega | simp, by first | omega | simp, by first | omega | simp, by first | omega | simp, by first | exact hF | (intro p hp; cases hp)⟩)) ?_
       rintro _ h68 ⟨rfl, N69⟩
       have M70 := M63.trans N69
       cases hb6 : (mayB (⟨m7_, m14_, m18_, m52_, m56_, ([]), ([]), ([]), 0, m60_, 0, []⟩ : Cmd))
       ·
        refine WS.opV (.bool true) rfl rfl rfl (WS.op rfl rfl (WS.nil [(2, _), (5, _), (126, _)] rfl ?_))
        refine WC.condT rfl ?_
        refine WC.seq ?_
        refine WC.run ?_
        refine WS.opV (.agg #[(.int .u8 (0 : Int)), (.int .u64 (0 : Int)), (.int .u64 (0 : Int)), (.string (bs ([]))), (.string (bs ([]))), (.string (bs ([]))), (.string (bs ([]))), (.string (bs ([]))), (.int .u8 (0 : Int)), (.int .u64 (0 : Int)), (.int .u64 (0 : Int)), (.slice none 0 0)]) rfl rfl rfl ?_
        refine WS.st1 (M70.focus 2 rfl) [_, _, _, _, _, _, _, _, _, _, _, _] [_, _, _, _, _, _, _, _, _, _, _, _] rfl rfl rfl rfl rfl (Nat.le_of_ble_eq_true rfl) (Nat.le_of_ble_eq_true rfl) rfl rfl ?_
        intro h71 M72
        replace M72 : Mem _ _ ([(p1, _)] :: [(p9, _)] :: [(p4, _)] :: []) _ := M72
        refine WS.op rfl rfl (WS.nil [(2, _), (3, _)] rfl ?_)
        refine WC.ret ?_
        refine ⟨[_, _], (res_cellN [_, _, _, _, _, _, _, _, _, _, _, _] rfl (M72.at 0 rfl) (Nat.le_of_ble_eq_true rfl) rfl (res_tmp rfl res_nil)), ?_⟩
        have hno : ∀ c0, MayC c0 → Fit c0 → encC c0 ≠ s := by
          intro c0 hm hf0 he2
          have he := he2.symm
          obtain ⟨a1, a2, a3⟩ := R7_.2.2 c0.op (vb c0.se.toNat ++ (vb c0.sq.toNat ++ bodyB c0)) rfl (by rw [he]; simp [encC, headB])
          obtain ⟨b1, b2, b3⟩ := R14_.2.2 c0.se.toNat _ c0.se.toNat_lt a1 a3
          obtain ⟨d1, d2, d3⟩ := R18_.2.2 c0.sq.toNat _ c0.sq.toNat_lt b1 b3
          obtain ⟨g1, g2, g3, g4, g5, g6, g7⟩ := id hf0
          obtain ⟨p1, p2⟩ := enc_2 (c := c0) (by rw [← a2]; omega)
          rw [p2] at d3
          obtain ⟨z0a, z0b, z0c⟩ := R52_.2.2.2 c0.ky (sb c0.va ++ vb c0.le.toNat) (by omega) d1 (by first | (rw [d3]; done) | (rw [d3]; simp))
          obtain ⟨z1a, z1b, z1c⟩ := R56_.2.2.2 c0.va (vb c0.le.toNat) (by omega) z0a (by first | (rw [z0c]; done) | (rw [z0c]; simp))
          obtain ⟨z2a, z2b, z2c⟩ := R60_.2.2 c0.le.toNat ([]) (UInt64.toNat_lt _) z1a (by first | (rw [z1c]; done) | (rw [z1c]; simp))
          have eqc : (⟨m7_, m14_, m18_, m52_, m56_, ([]), ([]), ([]), 0, m60_, 0, []⟩ : Cmd) = c0 := by (rw [hm.2.1, p1]; simp only [blank]; rw [a2, u64_inj b2, u64_inj d2, z0b, z1b, u64_inj z2b])
          first
          | (cases z2a; done)
          | exact Bool.noConfusion (z2a.symm.trans (show b60_ = false by assumption))
          | (have q := congrArg List.length z2c; simp only [List.length_nil] at q; omega)
          | exact absurd (show mayB (⟨m7_, m14_, m18_, m52_, m56_, ([]), ([]), ([]), 0, m60_, 0, []⟩ : Cmd) = true by rw [eqc]; exact decide_eq_true hm) (by rw [show mayB (⟨m7_, m14_, m18_, m52_, m56_, ([]), ([]), ([]), 0, m60_, 0, []⟩ : Cmd) = false by assumption]; decide)
        exact ⟨zeroC, .slice none 0 0, [], false, .nil, rfl, fit0, rdC_no hno, (M72.bare.take 0).nils⟩
       ·
        refine WS.opV (.bool false) rfl rfl rfl (WS.op rfl rfl (WS.nil [(2, _), (5, _), (126, _)] rfl ?_))
        refine WC.condF rfl ?_
        refine WC.skip ?_
        refine WC.seq ?_
        refine WC.run ?_
        refine WS.op rfl (op_lds [_, _, _, _, _, _, _, _, _, _, _, _] (M70.at 0 rfl) rfl (Nat.le_of_ble_eq_true rfl) rfl) ?_
        refine WS.st1 (M70.focus 2 rfl) [_, _, _, _, _, _, _, _, _, _, _, _] [_, _, _, _, _, _, _, _, _, _, _, _] rfl rfl rfl rfl rfl (Nat.le_of_ble_eq_true rfl) (Nat.le_of_ble_eq_true rfl) rfl rfl ?_
        intro h73 M74
        replace M74 : Mem _ _ ([(p1, _)] :: [(p9, _)] :: [(p4, _)] :: []) _ := M74
        refine WS.op rfl rfl (WS.nil [(2, _), (3, _)] rfl ?_)
        refine WC.ret ?_
        refine ⟨[_, _], (res_cellN [_, _, _, _, _, _, _, _, _, _, _, _] rfl (M74.at 0 rfl) (Nat.le_of_ble_eq_true rfl) rfl (res_tmp rfl res_nil)), ?_⟩
        have hs0 : s60_ = [] := List.eq_nil_of_length_eq_zero (by omega)
        have hm : MayC (⟨m7_, m14_, m18_, m52_, m56_, ([]), ([]), ([]), 0, m60_, 0, []⟩ : Cmd) := of_decide_eq_true (p := MayC (⟨m7_, m14_, m18_, m52_, m56_, ([]), ([]), ([]), 0, m60_, 0, []⟩ : Cmd)) (by assumption)
        obtain ⟨y5, e5'⟩ := R60_.2.1 (show b60_ = true by first | assumption | rfl)
        obtain ⟨y4, e4'⟩ := R56_.2.2.1 y5
        obtain ⟨y3, e3'⟩ := R52_.2.2.1 y4
        obtain ⟨y2, e2'⟩ := R18_.2.1 y3
        obtain ⟨y1, e1'⟩ := R14_.2.1 y2
        obtain ⟨y0, e0'⟩ := R7_.2.1 y1
        obtain ⟨p1, p2⟩ := enc_2 (c := (⟨m7_, m14_, m18_, m52_, m56_, ([]), ([]), ([]), 0, m60_, 0, []⟩ : Cmd)) (by dsimp only; omega)
        have henc : encC (⟨m7_, m14_, m18_, m52_, m56_, ([]), ([]), ([]), 0, m60_, 0, []⟩ : Cmd) = s := by
          unfold encC
          rw [p2]
          unfold headB
          dsimp only
          rw [e0', e1', e2', e3', e4', e5', hs0]
          simp
        exact ⟨(⟨m7_, m14_, m18_, m52_, m56_, ([]), ([]), ([]), 0, m60_, 0, []⟩ : Cmd), _, _, true, .nil, rfl, (by unfold Fit; dsimp only; exact ⟨by first | omega | simp, by first | omega | simp, by first | omega | simp, by first | omega | simp, by first | omega | simp, by first | omega | simp, by first | exact hF | (intro p hp; cases hp)⟩), ⟨fun _ => ⟨hm, henc⟩, fun q => nomatch q⟩, (M74.bare.take 0).nils⟩
    ·
     refine WS.op rfl rfl (WS.nil [(2, _), (4, _), (5, _), (23, _), (30, _)] rfl ?_)
     refine WC.condF rfl ?_
     refine WC.seq ?_
     refine WC.seq ?_
     refine WC.run ?_
     refine WS.eqlN (a := (m7_).toNat) (b := 3) rfl rfl rfl (fun e42 => ?_) (fun e42 => ?_)
     ·
      refine WS.op rfl rfl (WS.nil [(2, _), (4, _), (5, _), (23, _), (41, _)] rfl ?_)
      refine WC.condT rfl ?_
      refine WC.skip ?_
      refine WC.condT rfl ?_
      refine WC.run ?_
      refine WS.op rfl rfl ?_
      refine WS.call rfl rfl rfl (tk_text_ran (s := s18_) (w := b18_) (M21.focus 1 rfl) (by omega)) ?_
      rintro _ h75 ⟨s75_, b75_, m75_, rfl, M76, R75_⟩
      have R75_l := R75_.1
      have R75_t := R75_.2.1
      replace M76 : Mem _ _ ([(p4, _)] :: [(p9, _)] :: [(p1, _)] :: []) _ := M76
      refine WS.op rfl rfl ?_
      refine WS.st1 (M76.focus 1 rfl) [_] [_, _, _, _, _, _, _, _, _, _, _, _] rfl rfl rfl rfl rfl (Nat.le_of_ble_eq_true rfl) (Nat.le_of_ble_eq_true rfl) rfl rfl ?_
      intro h77 M78
      replace M78 : Mem _ _ ([(p9, _)] :: [(p4, _)] :: [(p1, _)] :: []) _ := M78
      refine WS.nil [(2, _), (4, _), (5, _)] rfl ?_
      refine WC.seq ?_
      refine WC.seq ?_
      refine WC.run ?_
      refine WS.op rfl rfl (WS.op rfl rfl (WS.op rfl rfl (WS.op rfl (op_ld (M78.at 1 rfl) rfl rfl) ?_)))
      cases hb7 : b75_
      ·
       refine WS.opV (.bool true) rfl rfl rfl (WS.op rfl rfl (WS.off rfl (WS.off rfl (WS.off rfl (WS.off rfl (WS.off rfl (WS.off rfl (WS.op rfl rfl (WS.op rfl rfl ?_)))))))))
       refine WS.off rfl (WS.offC rfl (WS.off rfl (WS.op rfl rfl (WS.nil [(2, _), (5, _), (126, _)] rfl ?_))))
       refine WC.condT rfl ?_
       refine WC.seq ?_
       refine WC.run ?_
       refine WS.opV (.agg #[(.int .u8 (0 : Int)), (.int .u64 (0 : Int)), (.int .u64 (0 : Int)), (.string (bs ([]))), (.string (bs ([]))), (.string (bs ([]))), (.string (bs ([]))), (.string (bs ([]))), (.int .u8 (0 : Int)), (.int .u64 (0 : Int)), (.int .u64 (0 : Int)), (.slice none 0 0)]) rfl rfl rfl ?_
       refine WS.st1 (M78.focus 2 rfl) [_, _, _, _, _, _, _, _, _, _, _, _] [_, _, _, _, _, _, _, _, _, _, _, _] rfl rfl rfl rfl rfl (Nat.le_of_ble_eq_true rfl) (Nat.le_of_ble_eq_true rfl) rfl rfl ?_
       intro h79 M80
       replace M80 : Mem _ _ ([(p1, _)] :: [(p9, _)] :: [(p4, _)] :: []) _ := M80
       refine WS.op rfl rfl (WS.nil [(2, _), (3, _)] rfl ?_)
       refine WC.ret ?_
       refine ⟨[_, _], (res_cellN [_, _, _, _, _, _, _, _, _, _, _, _] rfl (M80.at 0 rfl) (Nat.le_of_ble_eq_true rfl) rfl (res_tmp rfl res_nil)), ?_⟩
       have hno : ∀ c0, MayC c0 → Fit c0 → encC c0 ≠ s := by
         intro c0 hm hf0 he2
         have he := he2.symm
         obtain ⟨a1, a2, a3⟩ := R7_.2.2 c0.op (vb c0.se.toNat ++ (vb c0.sq.toNat ++ bodyB c0)) rfl (by rw [he]; simp [encC, headB])
         obtain ⟨b1, b2, b3⟩ := R14_.2.2 c0.se.toNat _ c0.se.toNat_lt a1 a3
         obtain ⟨d1, d2, d3⟩ := R18_.2.2 c0.sq.toNat _ c0.sq.toNat_lt b1 b3
         obtain ⟨g1, g2, g3, g4, g5, g6, g7⟩ := id hf0
         obtain ⟨p1, p2⟩ := enc_3 (c := c0) (by rw [← a2]; omega)
         rw [p2] at d3
         obtain ⟨z0a, z0b, z0c⟩ := R75_.2.2.2 c0.ky ([]) (by omega) d1 (by first | (rw [d3]; done) | (rw [d3]; simp))
         have eqc : (⟨m7_, m14_, m18_, m75_, ([]), ([]), ([]), ([]), 0, 0, 0, []⟩ : Cmd) = c0 := by (rw [hm.2.1, p1]; simp only [blank]; rw [a2, u64_inj b2, u64_inj d2, z0b])
         first
         | (cases z0a; done)
         | exact Bool.noConfusion (z0a.symm.trans (show b75_ = false by assumption))
         | (have q := congrArg List.length z0c; simp only [List.length_nil] at q; omega)
         | exact absurd (show mayB (⟨m7_, m14_, m18_, m75_, ([]), ([]), ([]), ([]), 0, 0, 0, []⟩ : Cmd) = true by rw [eqc]; exact decide_eq_true hm) (by rw [show mayB (⟨m7_, m14_, m18_, m75_, ([]), ([]), ([]), ([]), 0, 0, 0, []⟩ : Cmd) = false by assumption]; decide)
       exact ⟨zeroC, .slice none 0 0, [], false, .nil, rfl, fit0, rdC_no hno, (M80.bare.take 0).nils⟩
      ·
       refine WS.opV (.bool false) rfl rfl rfl (WS.op rfl rfl (WS.op rfl rfl (WS.op rfl rfl (WS.op rfl rfl (WS.op rfl (op_ld (M78.at 1 rfl) rfl rfl) (WS.op rfl (op_lenS (l := s75_) rfl) ?_))))))
       refine WS.gtrN (a := (s75_).length) (b := 0) rfl rfl rfl (fun e120 => ?_) (fun e120 => ?_)
       ·
        refine WS.op rfl rfl (WS.op rfl rfl (WS.off rfl (WS.offC rfl (WS.off rfl (WS.op rfl rfl (WS.nil [(2, _), (5, _), (126, _)] rfl ?_))))))
        refine WC.condT rfl ?_
        refine WC.seq ?_
        refine WC.run ?_
        refine WS.opV (.agg #[(.int .u8 (0 : Int)), (.int .u64 (0 : Int)), (.int .u64 (0 : Int)), (.string (bs ([]))), (.string (bs ([]))), (.string (bs ([]))), (.string (bs ([]))), (.string (bs ([]))), (.int .u8 (0 : Int)), (.int .u64 (0 : Int)), (.int .u64 (0 : Int)), (.slice none 0 0)]) rfl rfl rfl ?_
        refine WS.st1 (M78.focus 2 rfl) [_, _, _, _, _, _, _, _, _, _, _, _] [_, _, _, _, _, _, _, _, _, _, _, _] rfl rfl rfl rfl rfl (Nat.le_of_ble_eq_true rfl) (Nat.le_of_ble_eq_true rfl) rfl rfl ?_
        intro h81 M82
        replace M82 : Mem _ _ ([(p1, _)] :: [(p9, _)] :: [(p4, _)] :: []) _ := M82
        refine WS.op rfl rfl (WS.nil [(2, _), (3, _)] rfl ?_)
        refine WC.ret ?_
        refine ⟨[_, _], (res_cellN [_, _, _, _, _, _, _, _, _, _, _, _] rfl (M82.at 0 rfl) (Nat.le_of_ble_eq_true rfl) rfl (res_tmp rfl res_nil)), ?_⟩
        have hno : ∀ c0, MayC c0 → Fit c0 → encC c0 ≠ s := by
          intro c0 hm hf0 he2
          have he := he2.symm
          obtain ⟨a1, a2, a3⟩ := R7_.2.2 c0.op (vb c0.se.toNat ++ (vb c0.sq.toNat ++ bodyB c0)) rfl (by rw [he]; simp [encC, headB])
          obtain ⟨b1, b2, b3⟩ := R14_.2.2 c0.se.toNat _ c0.se.toNat_lt a1 a3
          obtain ⟨d1, d2, d3⟩ := R18_.2.2 c0.sq.toNat _ c0.sq.toNat_lt b1 b3
          obtain ⟨g1, g2, g3, g4, g5, g6, g7⟩ := id hf0
          obtain ⟨p1, p2⟩ := enc_3 (c := c0) (by rw [← a2]; omega)
          rw [p2] at d3
          obtain ⟨z0a, z0b, z0c⟩ := R75_.2.2.2 c0.ky ([]) (by omega) d1 (by first | (rw [d3]; done) | (rw [d3]; simp))
          have eqc : (⟨m7_, m14_, m18_, m75_, ([]), ([]), ([]), ([]), 0, 0, 0, []⟩ : Cmd) = c0 := by (rw [hm.2.1, p1]; simp only [blank]; rw [a2, u64_inj b2, u64_inj d2, z0b])
          first
          | (cases z0a; done)
          | exact Bool.noConfusion (z0a.symm.trans (show b75_ = false by assumption))
          | (have q := congrArg List.length z0c; simp only [List.length_nil] at q; omega)
          | exact absurd (show mayB (⟨m7_, m14_, m18_, m75_, ([]), ([]), ([]), ([]), 0, 0, 0, []⟩ : Cmd) = true by rw [eqc]; exact decide_eq_true hm) (by rw [show mayB (⟨m7_, m14_, m18_, m75_, ([]), ([]), ([]), ([]), 0, 0, 0, []⟩ : Cmd) = false by assumption]; decide)
        exact ⟨zeroC, .slice none 0 0, [], false, .nil, rfl, fit0, rdC_no hno, (M82.bare.take 0).nils⟩
       ·
        refine WS.op rfl rfl (WS.op rfl rfl (WS.op rfl (op_lds [_, _, _, _, _, _, _, _, _, _, _, _] (M78.at 0 rfl) rfl (Nat.le_of_ble_eq_true rfl) rfl) ?_))
        refine WS.call rfl rfl rfl (refMay_ran M78.here (c := (⟨m7_, m14_, m18_, m75_, ([]), ([]), ([]), ([]), 0, 0, 0, []⟩ : Cmd)) Row.Sl.nil (by unfold Fit; dsimp only; exact ⟨by first | omega | simp, by first | omega | simp, by first | omega | simp, by first | omega | simp, by first | omega | simp, by first | omega | simp, by first | exact hF | (intro p hp; cases hp)⟩)) ?_
        rintro _ h83 ⟨rfl, N84⟩
        have M85 := M78.trans N84
        cases hb8 : (mayB (⟨m7_, m14_, m18_, m75_, ([]), ([]), ([]), ([]), 0, 0, 0, []⟩ : Cmd))
        ·
         refine WS.opV (.bool true) rfl rfl rfl (WS.op rfl rfl (WS.nil [(2, _), (5, _), (126, _)] rfl ?_))
         refine WC.condT rfl ?_
         refine WC.seq ?_
         refine WC.run ?_
         refine WS.opV (.agg #[(.int .u8 (0 : Int)), (.int .u64 (0 : Int)), (.int .u64 (0 : Int)), (.string (bs ([]))), (.string (bs ([]))), (.string (bs ([]))), (.string (bs ([]))), (.string (bs ([]))), (.int .u8 (0 : Int)), (.int .u64 (0 : Int)), (.int .u64 (0 : Int)), (.slice none 0 0)]) rfl rfl rfl ?_
         refine WS.st1 (M85.focus 2 rfl) [_, _, _, _, _, _, _, _, _, _, _, _] [_, _, _, _, _, _, _, _, _, _, _, _] rfl rfl rfl rfl rfl (Nat.le_of_ble_eq_true rfl) (Nat.le_of_ble_eq_true rfl) rfl rfl ?_
         intro h86 M87
         replace M87 : Mem _ _ ([(p1, _)] :: [(p9, _)] :: [(p4, _)] :: []) _ := M87
         refine WS.op rfl rfl (WS.nil [(2, _), (3, _)] rfl ?_)
         refine WC.ret ?_
         refine ⟨[_, _], (res_cellN [_, _, _, _, _, _, _, _, _, _, _, _] rfl (M87.at 0 rfl) (Nat.le_of_ble_eq_true rfl) rfl (res_tmp rfl res_nil)), ?_⟩
         have hno : ∀ c0, MayC c0 → Fit c0 → encC c0 ≠ s := by
           intro c0 hm hf0 he2
           have he := he2.symm
           obtain ⟨a1, a2, a3⟩ := R7_.2.2 c0.op (vb c0.se.toNat ++ (vb c0.sq.toNat ++ bodyB c0)) rfl (by rw [he]; simp [encC, headB])
           obtain ⟨b1, b2, b3⟩ := R14_.2.2 c0.se.toNat _ c0.se.toNat_lt a1 a3
           obtain ⟨d1, d2, d3⟩ := R18_.2.2 c0.sq.toNat _ c0.sq.toNat_lt b1 b3
           obtain ⟨g1, g2, g3, g4, g5, g6, g7⟩ := id hf0
           obtain ⟨p1, p2⟩ := enc_3 (c := c0) (by rw [← a2]; omega)
           rw [p2] at d3
           obtain ⟨z0a, z0b, z0c⟩ := R75_.2.2.2 c0.ky ([]) (by omega) d1 (by first | (rw [d3]; done) | (rw [d3]; simp))
           have eqc : (⟨m7_, m14_, m18_, m75_, ([]), ([]), ([]), ([]), 0, 0, 0, []⟩ : Cmd) = c0 := by (rw [hm.2.1, p1]; simp only [blank]; rw [a2, u64_inj b2, u64_inj d2, z0b])
           first
           | (cases z0a; done)
           | exact Bool.noConfusion (z0a.symm.trans (show b75_ = false by assumption))
           | (have q := congrArg List.length z0c; simp only [List.length_nil] at q; omega)
           | exact absurd (show mayB (⟨m7_, m14_, m18_, m75_, ([]), ([]), ([]), ([]), 0, 0, 0, []⟩ : Cmd) = true by rw [eqc]; exact decide_eq_true hm) (by rw [show mayB (⟨m7_, m14_, m18_, m75_, ([]), ([]), ([]), ([]), 0, 0, 0, []⟩ : Cmd) = false by assumption]; decide)
         exact ⟨zeroC, .slice none 0 0, [], false, .nil, rfl, fit0, rdC_no hno, (M87.bare.take 0).nils⟩
        ·
         refine WS.opV (.bool false) rfl rfl rfl (WS.op rfl rfl (WS.nil [(2, _), (5, _), (126, _)] rfl ?_))
         refine WC.condF rfl ?_
         refine WC.skip ?_
         refine WC.seq ?_
         refine WC.run ?_
         refine WS.op rfl (op_lds [_, _, _, _, _, _, _, _, _, _, _, _] (M85.at 0 rfl) rfl (Nat.le_of_ble_eq_true rfl) rfl) ?_
         refine WS.st1 (M85.focus 2 rfl) [_, _, _, _, _, _, _, _, _, _, _, _] [_, _, _, _, _, _, _, _, _, _, _, _] rfl rfl rfl rfl rfl (Nat.le_of_ble_eq_true rfl) (Nat.le_of_ble_eq_true rfl) rfl rfl ?_
         intro h88 M89
         replace M89 : Mem _ _ ([(p1, _)] :: [(p9, _)] :: [(p4, _)] :: []) _ := M89
         refine WS.op rfl rfl (WS.nil [(2, _), (3, _)] rfl ?_)
         refine WC.ret ?_
         refine ⟨[_, _], (res_cellN [_, _, _, _, _, _, _, _, _, _, _, _] rfl (M89.at 0 rfl) (Nat.le_of_ble_eq_true rfl) rfl (res_tmp rfl res_nil)), ?_⟩
         have hs0 : s75_ = [] := List.eq_nil_of_length_eq_zero (by omega)
         have hm : MayC (⟨m7_, m14_, m18_, m75_, ([]), ([]), ([]), ([]), 0, 0, 0, []⟩ : Cmd) := of_decide_eq_true (p := MayC (⟨m7_, m14_, m18_, m75_, ([]), ([]), ([]), ([]), 0, 0, 0, []⟩ : Cmd)) (by assumption)
         obtain ⟨y3, e3'⟩ := R75_.2.2.1 (show b75_ = true by first | assumption | rfl)
         obtain ⟨y2, e2'⟩ := R18_.2.1 y3
         obtain ⟨y1, e1'⟩ := R14_.2.1 y2
         obtain ⟨y0, e0'⟩ := R7_.2.1 y1
         obtain ⟨p1, p2⟩ := enc_3 (c := (⟨m7_, m14_, m18_, m75_, ([]), ([]), ([]), ([]), 0, 0, 0, []⟩ : Cmd)) (by dsimp only; omega)
         have henc : encC (⟨m7_, m14_, m18_, m75_, ([]), ([]), ([]), ([]), 0, 0, 0, []⟩ : Cmd) = s := by
           unfold encC
           rw [p2]
           unfold headB
           dsimp only
           rw [e0', e1', e2', e3', hs0]
           simp
         exact ⟨(⟨m7_, m14_, m18_, m75_, ([]), ([]), ([]), ([]), 0, 0, 0, []⟩ : Cmd), _, _, true, .nil, rfl, (by unfold Fit; dsimp only; exact ⟨by first | omega | simp, by first | omega | simp, by first | omega | simp, by first | omega | simp, by first | omega | simp, by first | omega | simp, by first | exact hF | (intro p hp; cases hp)⟩), ⟨fun _ => ⟨hm, henc⟩, fun q => nomatch q⟩, (M89.bare.take 0).nils⟩
     ·
      refine WS.op rfl rfl (WS.nil [(2, _), (4, _), (5, _), (23, _), (41, _)] rfl ?_)
      refine WC.condF rfl ?_
      refine WC.run ?_
      refine WS.eqlN (a := (m7_).toNat) (b := 8) rfl rfl rfl (fun e43 => ?_) (fun e43 => ?_)
      ·
       refine WS.op rfl rfl (WS.nil [(2, _), (4, _), (5, _), (23, _), (41, _)] rfl ?_)
       refine WC.condT rfl ?_
       refine WC.run ?_
       refine WS.op rfl rfl ?_
       refine WS.call rfl rfl rfl (tk_text_ran (s := s18_) (w := b18_) (M21.focus 1 rfl) (by omega)) ?_
       rintro _ h90 ⟨s90_, b90_, m90_, rfl, M91, R90_⟩
       have R90_l := R90_.1
       have R90_t := R90_.2.1
       replace M91 : Mem _ _ ([(p4, _)] :: [(p9, _)] :: [(p1, _)] :: []) _ := M91
       refine WS.op rfl rfl ?_
       refine WS.st1 (M91.focus 1 rfl) [_] [_, _, _, _, _, _, _, _, _, _, _, _] rfl rfl rfl rfl rfl (Nat.le_of_ble_eq_true rfl) (Nat.le_of_ble_eq_true rfl) rfl rfl ?_
       intro h92 M93
       replace M93 : Mem _ _ ([(p9, _)] :: [(p4, _)] :: [(p1, _)] :: []) _ := M93
       refine WS.nil [(2, _), (4, _), (5, _)] rfl ?_
       refine WC.seq ?_
       refine WC.seq ?_
       refine WC.run ?_
       refine WS.op rfl rfl (WS.op rfl rfl (WS.op rfl rfl (WS.op rfl (op_ld (M93.at 1 rfl) rfl rfl) ?_)))
       cases hb9 : b90_
       ·
        refine WS.opV (.bool true) rfl rfl rfl (WS.op rfl rfl (WS.off rfl (WS.off rfl (WS.off rfl (WS.off rfl (WS.off rfl (WS.off rfl (WS.op rfl rfl (WS.op rfl rfl ?_)))))))))
        refine WS.off rfl (WS.offC rfl (WS.off rfl (WS.op rfl rfl (WS.nil [(2, _), (5, _), (126, _)] rfl ?_))))
        refine WC.condT rfl ?_
        refine WC.seq ?_
        refine WC.run ?_
        refine WS.opV (.agg #[(.int .u8 (0 : Int)), (.int .u64 (0 : Int)), (.int .u64 (0 : Int)), (.string (bs ([]))), (.string (bs ([]))), (.string (bs ([]))), (.string (bs ([]))), (.string (bs ([]))), (.int .u8 (0 : Int)), (.int .u64 (0 : Int)), (.int .u64 (0 : Int)), (.slice none 0 0)]) rfl rfl rfl ?_
        refine WS.st1 (M93.focus 2 rfl) [_, _, _, _, _, _, _, _, _, _, _, _] [_, _, _, _, _, _, _, _, _, _, _, _] rfl rfl rfl rfl rfl (Nat.le_of_ble_eq_true rfl) (Nat.le_of_ble_eq_true rfl) rfl rfl ?_
        intro h94 M95
        replace M95 : Mem _ _ ([(p1, _)] :: [(p9, _)] :: [(p4, _)] :: []) _ := M95
        refine WS.op rfl rfl (WS.nil [(2, _), (3, _)] rfl ?_)
        refine WC.ret ?_
        refine ⟨[_, _], (res_cellN [_, _, _, _, _, _, _, _, _, _, _, _] rfl (M95.at 0 rfl) (Nat.le_of_ble_eq_true rfl) rfl (res_tmp rfl res_nil)), ?_⟩
        have hno : ∀ c0, MayC c0 → Fit c0 → encC c0 ≠ s := by
          intro c0 hm hf0 he2
          have he := he2.symm
          obtain ⟨a1, a2, a3⟩ := R7_.2.2 c0.op (vb c0.se.toNat ++ (vb c0.sq.toNat ++ bodyB c0)) rfl (by rw [he]; simp [encC, headB])
          obtain ⟨b1, b2, b3⟩ := R14_.2.2 c0.se.toNat _ c0.se.toNat_lt a1 a3
          obtain ⟨d1, d2, d3⟩ := R18_.2.2 c0.sq.toNat _ c0.sq.toNat_lt b1 b3
          obtain ⟨g1, g2, g3, g4, g5, g6, g7⟩ := id hf0
          obtain ⟨p1, p2⟩ := enc_3 (c := c0) (by rw [← a2]; omega)
          rw [p2] at d3
          obtain ⟨z0a, z0b, z0c⟩ := R90_.2.2.2 c0.ky ([]) (by omega) d1 (by first | (rw [d3]; done) | (rw [d3]; simp))
          have eqc : (⟨m7_, m14_, m18_, m90_, ([]), ([]), ([]), ([]), 0, 0, 0, []⟩ : Cmd) = c0 := by (rw [hm.2.1, p1]; simp only [blank]; rw [a2, u64_inj b2, u64_inj d2, z0b])
          first
          | (cases z0a; done)
          | exact Bool.noConfusion (z0a.symm.trans (show b90_ = false by assumption))
          | (have q := congrArg List.length z0c; simp only [List.length_nil] at q; omega)
          | exact absurd (show mayB (⟨m7_, m14_, m18_, m90_, ([]), ([]), ([]), ([]), 0, 0, 0, []⟩ : Cmd) = true by rw [eqc]; exact decide_eq_true hm) (by rw [show mayB (⟨m7_, m14_, m18_, m90_, ([]), ([]), ([]), ([]), 0, 0, 0, []⟩ : Cmd) = false by assumption]; decide)
        exact ⟨zeroC, .slice none 0 0, [], false, .nil, rfl, fit0, rdC_no hno, (M95.bare.take 0).nils⟩
       ·
        refine WS.opV (.bool false) rfl rfl rfl (WS.op rfl rfl (WS.op rfl rfl (WS.op rfl rfl (WS.op rfl rfl (WS.op rfl (op_ld (M93.at 1 rfl) rfl rfl) (WS.op rfl (op_lenS (l := s90_) rfl) ?_))))))
        refine WS.gtrN (a := (s90_).length) (b := 0) rfl rfl rfl (fun e120 => ?_) (fun e120 => ?_)
        ·
         refine WS.op rfl rfl (WS.op rfl rfl (WS.off rfl (WS.offC rfl (WS.off rfl (WS.op rfl rfl (WS.nil [(2, _), (5, _), (126, _)] rfl ?_))))))
         refine WC.condT rfl ?_
         refine WC.seq ?_
         refine WC.run ?_
         refine WS.opV (.agg #[(.int .u8 (0 : Int)), (.int .u64 (0 : Int)), (.int .u64 (0 : Int)), (.string (bs ([]))), (.string (bs ([]))), (.string (bs ([]))), (.string (bs ([]))), (.string (bs ([]))), (.int .u8 (0 : Int)), (.int .u64 (0 : Int)), (.int .u64 (0 : Int)), (.slice none 0 0)]) rfl rfl rfl ?_
         refine WS.st1 (M93.focus 2 rfl) [_, _, _, _, _, _, _, _, _, _, _, _] [_, _, _, _, _, _, _, _, _, _, _, _] rfl rfl rfl rfl rfl (Nat.le_of_ble_eq_true rfl) (Nat.le_of_ble_eq_true rfl) rfl rfl ?_
         intro h96 M97
         replace M97 : Mem _ _ ([(p1, _)] :: [(p9, _)] :: [(p4, _)] :: []) _ := M97
         refine WS.op rfl rfl (WS.nil [(2, _), (3, _)] rfl ?_)
         refine WC.ret ?_
         refine ⟨[_, _], (res_cellN [_, _, _, _, _, _, _, _, _, _, _, _] rfl (M97.at 0 rfl) (Nat.le_of_ble_eq_true rfl) rfl (res_tmp rfl res_nil)), ?_⟩
         have hno : ∀ c0, MayC c0 → Fit c0 → encC c0 ≠ s := by
           intro c0 hm hf0 he2
           have he := he2.symm
           obtain ⟨a1, a2, a3⟩ := R7_.2.2 c0.op (vb c0.se.toNat ++ (vb c0.sq.toNat ++ bodyB c0)) rfl (by rw [he]; simp [encC, headB])
           obtain ⟨b1, b2, b3⟩ := R14_.2.2 c0.se.toNat _ c0.se.toNat_lt a1 a3
           obtain ⟨d1, d2, d3⟩ := R18_.2.2 c0.sq.toNat _ c0.sq.toNat_lt b1 b3
           obtain ⟨g1, g2, g3, g4, g5, g6, g7⟩ := id hf0
           obtain ⟨p1, p2⟩ := enc_3 (c := c0) (by rw [← a2]; omega)
           rw [p2] at d3
           obtain ⟨z0a, z0b, z0c⟩ := R90_.2.2.2 c0.ky ([]) (by omega) d1 (by first | (rw [d3]; done) | (rw [d3]; simp))
           have eqc : (⟨m7_, m14_, m18_, m90_, ([]), ([]), ([]), ([]), 0, 0, 0, []⟩ : Cmd) = c0 := by (rw [hm.2.1, p1]; simp only [blank]; rw [a2, u64_inj b2, u64_inj d2, z0b])
           first
           | (cases z0a; done)
           | exact Bool.noConfusion (z0a.symm.trans (show b90_ = false by assumption))
           | (have q := congrArg List.length z0c; simp only [List.length_nil] at q; omega)
           | exact absurd (show mayB (⟨m7_, m14_, m18_, m90_, ([]), ([]), ([]), ([]), 0, 0, 0, []⟩ : Cmd) = true by rw [eqc]; exact decide_eq_true hm) (by rw [show mayB (⟨m7_, m14_, m18_, m90_, ([]), ([]), ([]), ([]), 0, 0, 0, []⟩ : Cmd) = false by assumption]; decide)
         exact ⟨zeroC, .slice none 0 0, [], false, .nil, rfl, fit0, rdC_no hno, (M97.bare.take 0).nils⟩
        ·
         refine WS.op rfl rfl (WS.op rfl rfl (WS.op rfl (op_lds [_, _, _, _, _, _, _, _, _, _, _, _] (M93.at 0 rfl) rfl (Nat.le_of_ble_eq_true rfl) rfl) ?_))
         refine WS.call rfl rfl rfl (refMay_ran M93.here (c := (⟨m7_, m14_, m18_, m90_, ([]), ([]), ([]), ([]), 0, 0, 0, []⟩ : Cmd)) Row.Sl.nil (by unfold Fit; dsimp only; exact ⟨by first | omega | simp, by first | omega | simp, by first | omega | simp, by first | omega | simp, by first | omega | simp, by first | omega | simp, by first | exact hF | (intro p hp; cases hp)⟩)) ?_
         rintro _ h98 ⟨rfl, N99⟩
         have M100 := M93.trans N99
         cases hb10 : (mayB (⟨m7_, m14_, m18_, m90_, ([]), ([]), ([]), ([]), 0, 0, 0, []⟩ : Cmd))
         ·
          refine WS.opV (.bool true) rfl rfl rfl (WS.op rfl rfl (WS.nil [(2, _), (5, _), (126, _)] rfl ?_))
          refine WC.condT rfl ?_
          refine WC.seq ?_
          refine WC.run ?_
          refine WS.opV (.agg #[(.int .u8 (0 : Int)), (.int .u64 (0 : Int)), (.int .u64 (0 : Int)), (.string (bs ([]))), (.string (bs ([]))), (.string (bs ([]))), (.string (bs ([]))), (.string (bs ([]))), (.int .u8 (0 : Int)), (.int .u64 (0 : Int)), (.int .u64 (0 : Int)), (.slice none 0 0)]) rfl rfl rfl ?_
          refine WS.st1 (M100.focus 2 rfl) [_, _, _, _, _, _, _, _, _, _, _, _] [_, _, _, _, _, _, _, _, _, _, _, _] rfl rfl rfl rfl rfl (Nat.le_of_ble_eq_true rfl) (Nat.le_of_ble_eq_true rfl) rfl rfl ?_
          intro h101 M102
          replace M102 : Mem _ _ ([(p1, _)] :: [(p9, _)] :: [(p4, _)] :: []) _ := M102
          refine WS.op rfl rfl (WS.nil [(2, _), (3, _)] rfl ?_)
          refine WC.ret ?_
          refine ⟨[_, _], (res_cellN [_, _, _, _, _, _, _, _, _, _, _, _] rfl (M102.at 0 rfl) (Nat.le_of_ble_eq_true rfl) rfl (res_tmp rfl res_nil)), ?_⟩
          have hno : ∀ c0, MayC c0 → Fit c0 → encC c0 ≠ s := by
            intro c0 hm hf0 he2
            have he := he2.symm
            obtain ⟨a1, a2, a3⟩ := R7_.2.2 c0.op (vb c0.se.toNat ++ (vb c0.sq.toNat ++ bodyB c0)) rfl (by rw [he]; simp [encC, headB])
            obtain ⟨b1, b2, b3⟩ := R14_.2.2 c0.se.toNat _ c0.se.toNat_lt a1 a3
            obtain ⟨d1, d2, d3⟩ := R18_.2.2 c0.sq.toNat _ c0.sq.toNat_lt b1 b3
            obtain ⟨g1, g2, g3, g4, g5, g6, g7⟩ := id hf0
            obtain ⟨p1, p2⟩ := enc_3 (c := c0) (by rw [← a2]; omega)
            rw [p2] at d3
            obtain ⟨z0a, z0b, z0c⟩ := R90_.2.2.2 c0.ky ([]) (by omega) d1 (by first | (rw [d3]; done) | (rw [d3]; simp))
            have eqc : (⟨m7_, m14_, m18_, m90_, ([]), ([]), ([]), ([]), 0, 0, 0, []⟩ : Cmd) = c0 := by (rw [hm.2.1, p1]; simp only [blank]; rw [a2, u64_inj b2, u64_inj d2, z0b])
            first
            | (cases z0a; done)
            | exact Bool.noConfusion (z0a.symm.trans (show b90_ = false by assumption))
            | (have q := congrArg List.length z0c; simp only [List.length_nil] at q; omega)
            | exact absurd (show mayB (⟨m7_, m14_, m18_, m90_, ([]), ([]), ([]), ([]), 0, 0, 0, []⟩ : Cmd) = true by rw [eqc]; exact decide_eq_true hm) (by rw [show mayB (⟨m7_, m14_, m18_, m90_, ([]), ([]), ([]), ([]), 0, 0, 0, []⟩ : Cmd) = false by assumption]; decide)
          exact ⟨zeroC, .slice none 0 0, [], false, .nil, rfl, fit0, rdC_no hno, (M102.bare.take 0).nils⟩
         ·
          refine WS.opV (.bool false) rfl rfl rfl (WS.op rfl rfl (WS.nil [(2, _), (5, _), (126, _)] rfl ?_))
          refine WC.condF rfl ?_
          refine WC.skip ?_
          refine WC.seq ?_
          refine WC.run ?_
          refine WS.op rfl (op_lds [_, _, _, _, _, _, _, _, _, _, _, _] (M100.at 0 rfl) rfl (Nat.le_of_ble_eq_true rfl) rfl) ?_
          refine WS.st1 (M100.focus 2 rfl) [_, _, _, _, _, _, _, _, _, _, _, _] [_, _, _, _, _, _, _, _, _, _, _, _] rfl rfl rfl rfl rfl (Nat.le_of_ble_eq_true rfl) (Nat.le_of_ble_eq_true rfl) rfl rfl ?_
          intro h103 M104
          replace M104 : Mem _ _ ([(p1, _)] :: [(p9, _)] :: [(p4, _)] :: []) _ := M104
          refine WS.op rfl rfl (WS.nil [(2, _), (3, _)] rfl ?_)
          refine WC.ret ?_
          refine ⟨[_, _], (res_cellN [_, _, _, _, _, _, _, _, _, _, _, _] rfl (M104.at 0 rfl) (Nat.le_of_ble_eq_true rfl) rfl (res_tmp rfl res_nil)), ?_⟩
          have hs0 : s90_ = [] := List.eq_nil_of_length_eq_zero (by omega)
          have hm : MayC (⟨m7_, m14_, m18_, m90_, ([]), ([]), ([]), ([]), 0, 0, 0, []⟩ : Cmd) := of_decide_eq_true (p := MayC (⟨m7_, m14_, m18_, m90_, ([]), ([]), ([]), ([]), 0, 0, 0, []⟩ : Cmd)) (by assumption)
          obtain ⟨y3, e3'⟩ := R90_.2.2.1 (show b90_ = true by first | assumption | rfl)
          obtain ⟨y2, e2'⟩ := R18_.2.1 y3
          obtain ⟨y1, e1'⟩ := R14_.2.1 y2
          obtain ⟨y0, e0'⟩ := R7_.2.1 y1
          obtain ⟨p1, p2⟩ := enc_3 (c := (⟨m7_, m14_, m18_, m90_, ([]), ([]), ([]), ([]), 0, 0, 0, []⟩ : Cmd)) (by dsimp only; omega)
          have henc : encC (⟨m7_, m14_, m18_, m90_, ([]), ([]), ([]), ([]), 0, 0, 0, []⟩ : Cmd) = s := by
            unfold encC
            rw [p2]
            unfold headB
            dsimp only
            rw [e0', e1', e2', e3', hs0]
            simp
          exact ⟨(⟨m7_, m14_, m18_, m90_, ([]), ([]), ([]), ([]), 0, 0, 0, []⟩ : Cmd), _, _, true, .nil, rfl, (by unfold Fit; dsimp only; exact ⟨by first | omega | simp, by first | omega | simp, by first | omega | simp, by first | omega | simp, by first | omega | simp, by first | omega | simp, by first | exact hF | (intro p hp; cases hp)⟩), ⟨fun _ => ⟨hm, henc⟩, fun q => nomatch q⟩, (M104.bare.take 0).nils⟩
      ·
       refine WS.op rfl rfl (WS.nil [(2, _), (4, _), (5, _), (23, _), (41, _)] rfl ?_)
       refine WC.condF rfl ?_
       refine WC.seq ?_
       refine WC.run ?_
       refine WS.eqlN (a := (m7_).toNat) (b := 4) rfl rfl rfl (fun e48 => ?_) (fun e48 => ?_)
       ·
        refine WS.op rfl rfl (WS.nil [(2, _), (4, _), (5, _), (23, _), (47, _)] rfl ?_)
        refine WC.condT rfl ?_
        refine WC.seq ?_
        refine WC.run ?_
        refine WS.op rfl rfl ?_
        refine WS.call rfl rfl rfl (tk_text_ran (s := s18_) (w := b18_) (M21.focus 1 rfl) (by omega)) ?_
        rintro _ h105 ⟨s105_, b105_, m105_, rfl, M106, R105_⟩
        have R105_l := R105_.1
        have R105_t := R105_.2.1
        replace M106 : Mem _ _ ([(p4, _)] :: [(p9, _)] :: [(p1, _)] :: []) _ := M106
        refine WS.op rfl rfl ?_
        refine WS.st1 (M106.focus 1 rfl) [_] [_, _, _, _, _, _, _, _, _, _, _, _] rfl rfl rfl rfl rfl (Nat.le_of_ble_eq_true rfl) (Nat.le_of_ble_eq_true rfl) rfl rfl ?_
        intro h107 M108
        replace M108 : Mem _ _ ([(p9, _)] :: [(p4, _)] :: [(p1, _)] :: []) _ := M108
        refine WS.nil [(2, _), (4, _), (5, _)] rfl ?_
        refine WC.seq ?_
        refine WC.run ?_
        refine WS.op rfl rfl ?_
        refine WS.call rfl rfl rfl (tk_text_ran (s := s105_) (w := b105_) (M108.focus 1 rfl) (by omega)) ?_
        rintro _ h109 ⟨s109_, b109_, m109_, rfl, M110, R109_⟩
        have R109_l := R109_.1
        have R109_t := R109_.2.1
        replace M110 : Mem _ _ ([(p4, _)] :: [(p9, _)] :: [(p1, _)] :: []) _ := M110
        refine WS.op rfl rfl ?_
        refine WS.st1 (M110.focus 1 rfl) [_] [_, _, _, _, _, _, _, _, _, _, _, _] rfl rfl rfl rfl rfl (Nat.le_of_ble_eq_true rfl) (Nat.le_of_ble_eq_true rfl) rfl rfl ?_
        intro h111 M112
        replace M112 : Mem _ _ ([(p9, _)] :: [(p4, _)] :: [(p1, _)] :: []) _ := M112
        refine WS.nil [(2, _), (4, _), (5, _)] rfl ?_
        refine WC.run ?_
        refine WS.op rfl rfl ?_
        refine WS.call rfl rfl rfl (tk_text_ran (s := s109_) (w := b109_) (M112.focus 1 rfl) (by omega)) ?_
        rintro _ h113 ⟨s113_, b113_, m113_, rfl, M114, R113_⟩
        have R113_l := R113_.1
        have R113_t := R113_.2.1
        replace M114 : Mem _ _ ([(p4, _)] :: [(p9, _)] :: [(p1, _)] :: []) _ := M114
        refine WS.op rfl rfl ?_
        refine WS.st1 (M114.focus 1 rfl) [_] [_, _, _, _, _, _, _, _, _, _, _, _] rfl rfl rfl rfl rfl (Nat.le_of_ble_eq_true rfl) (Nat.le_of_ble_eq_true rfl) rfl rfl ?_
        intro h115 M116
        replace M116 : Mem _ _ ([(p9, _)] :: [(p4, _)] :: [(p1, _)] :: []) _ := M116
        refine WS.nil [(2, _), (4, _), (5, _)] rfl ?_
        refine WC.seq ?_
        refine WC.seq ?_
        refine WC.run ?_
        refine WS.op rfl rfl (WS.op rfl rfl (WS.op rfl rfl (WS.op rfl (op_ld (M116.at 1 rfl) rfl rfl) ?_)))
        cases hb11 : b113_
        ·
         refine WS.opV (.bool true) rfl rfl rfl (WS.op rfl rfl (WS.off rfl (WS.off rfl (WS.off rfl (WS.off rfl (WS.off rfl (WS.off rfl (WS.op rfl rfl (WS.op rfl rfl ?_)))))))))
         refine WS.off rfl (WS.offC rfl (WS.off rfl (WS.op rfl rfl (WS.nil [(2, _), (5, _), (126, _)] rfl ?_))))
         refine WC.condT rfl ?_
         refine WC.seq ?_
         refine WC.run ?_
         refine WS.opV (.agg #[(.int .u8 (0 : Int)), (.int .u64 (0 : Int)), (.int .u64 (0 : Int)), (.string (bs ([]))), (.string (bs ([]))), (.string (bs ([]))), (.string (bs ([]))), (.string (bs ([]))), (.int .u8 (0 : Int)), (.int .u64 (0 : Int)), (.int .u64 (0 : Int)), (.slice none 0 0)]) rfl rfl rfl ?_
         refine WS.st1 (M116.focus 2 rfl) [_, _, _, _, _, _, _, _, _, _, _, _] [_, _, _, _, _, _, _, _, _, _, _, _] rfl rfl rfl rfl rfl (Nat.le_of_ble_eq_true rfl) (Nat.le_of_ble_eq_true rfl) rfl rfl ?_
         intro h117 M118
         replace M118 : Mem _ _ ([(p1, _)] :: [(p9, _)] :: [(p4, _)] :: []) _ := M118
         refine WS.op rfl rfl (WS.nil [(2, _), (3, _)] rfl ?_)
         refine WC.ret ?_
         refine ⟨[_, _], (res_cellN [_, _, _, _, _, _, _, _, _, _, _, _] rfl (M118.at 0 rfl) (Nat.le_of_ble_eq_true rfl) rfl (res_tmp rfl res_nil)), ?_⟩
         have hno : ∀ c0, MayC c0 → Fit c0 → encC c0 ≠ s := by
           intro c0 hm hf0 he2
           have he := he2.symm
           obtain ⟨a1, a2, a3⟩ := R7_.2.2 c0.op (vb c0.se.toNat ++ (vb c0.sq.toNat ++ bodyB c0)) rfl (by rw [he]; simp [encC, headB])
           obtain ⟨b1, b2, b3⟩ := R14_.2.2 c0.se.toNat _ c0.se.toNat_lt a1 a3
           obtain ⟨d1, d2, d3⟩ := R18_.2.2 c0.sq.toNat _ c0.sq.toNat_lt b1 b3
           obtain ⟨g1, g2, g3, g4, g5, g6, g7⟩ := id hf0
           obtain ⟨p1, p2⟩ := enc_4 (c := c0) (by rw [← a2]; omega)
           rw [p2] at d3
           obtain ⟨z0a, z0b, z0c⟩ := R105_.2.2.2 c0.ky (sb c0.ex ++ sb c0.va) (by omega) d1 (by first | (rw [d3]; done) | (rw [d3]; simp))
           obtain ⟨z1a, z1b, z1c⟩ := R109_.2.2.2 c0.ex (sb c0.va) (by omega) z0a (by first | (rw [z0c]; done) | (rw [z0c]; simp))
           obtain ⟨z2a, z2b, z2c⟩ := R113_.2.2.2 c0.va ([]) (by omega) z1a (by first | (rw [z1c]; done) | (rw [z1c]; simp))
           have eqc : (⟨m7_, m14_, m18_, m105_, m113_, m109_, ([]), ([]), 0, 0, 0, []⟩ : Cmd) = c0 := by (rw [hm.2.1, p1]; simp only [blank]; rw [a2, u64_inj b2, u64_inj d2, z0b, z1b, z2b])
           first
           | (cases z2a; done)
           | exact Bool.noConfusion (z2a.symm.trans (show b113_ = false by assumption))
           | (have q := congrArg List.length z2c; simp only [List.length_nil] at q; omega)
           | exact absurd (show mayB (⟨m7_, m14_, m18_, m105_, m113_, m109_, ([]), ([]), 0, 0, 0, []⟩ : Cmd) = true by rw [eqc]; exact decide_eq_true hm) (by rw [show mayB (⟨m7_, m14_, m18_, m105_, m113_, m109_, ([]), ([]), 0, 0, 0, []⟩ : Cmd) = false by assumption]; decide)
         exact ⟨zeroC, .slice none 0 0, [], false, .nil, rfl, fit0, rdC_no hno, (M118.bare.take 0).nils⟩
        ·
         refine WS.opV (.bool false) rfl rfl rfl (WS.op rfl rfl (WS.op rfl rfl (WS.op rfl rfl (WS.op rfl rfl (WS.op rfl (op_ld (M116.at 1 rfl) rfl rfl) (WS.op rfl (op_lenS (l := s113_) rfl) ?_))))))
         refine WS.gtrN (a := (s113_).length) (b := 0) rfl rfl rfl (fun e120 => ?_) (fun e120 => ?_)
         ·
          refine WS.op rfl rfl (WS.op rfl rfl (WS.off rfl (WS.offC rfl (WS.off rfl (WS.op rfl rfl (WS.nil [(2, _), (5, _), (126, _)] rfl ?_))))))
          refine WC.condT rfl ?_
          refine WC.seq ?_
          refine WC.run ?_
          refine WS.opV (.agg #[(.int .u8 (0 : Int)), (.int .u64 (0 : Int)), (.int .u64 (0 : Int)), (.string (bs ([]))), (.string (bs ([]))), (.string (bs ([]))), (.string (bs ([]))), (.string (bs ([]))), (.int .u8 (0 : Int)), (.int .u64 (0 : Int)), (.int .u64 (0 : Int)), (.slice none 0 0)]) rfl rfl rfl ?_
          refine WS.st1 (M116.focus 2 rfl) [_, _, _, _, _, _, _, _, _, _, _, _] [_, _, _, _, _, _, _, _, _, _, _, _] rfl rfl rfl rfl rfl (Nat.le_of_ble_eq_true rfl) (Nat.le_of_ble_eq_true rfl) rfl rfl ?_
          intro h119 M120
          replace M120 : Mem _ _ ([(p1, _)] :: [(p9, _)] :: [(p4, _)] :: []) _ := M120
          refine WS.op rfl rfl (WS.nil [(2, _), (3, _)] rfl ?_)
          refine WC.ret ?_
          refine ⟨[_, _], (res_cellN [_, _, _, _, _, _, _, _, _, _, _, _] rfl (M120.at 0 rfl) (Nat.le_of_ble_eq_true rfl) rfl (res_tmp rfl res_nil)), ?_⟩
          have hno : ∀ c0, MayC c0 → Fit c0 → encC c0 ≠ s := by
            intro c0 hm hf0 he2
            have he := he2.symm
            obtain ⟨a1, a2, a3⟩ := R7_.2.2 c0.op (vb c0.se.toNat ++ (vb c0.sq.toNat ++ bodyB c0)) rfl (by rw [he]; simp [encC, headB])
            obtain ⟨b1, b2, b3⟩ := R14_.2.2 c0.se.toNat _ c0.se.toNat_lt a1 a3
            obtain ⟨d1, d2, d3⟩ := R18_.2.2 c0.sq.toNat _ c0.sq.toNat_lt b1 b3
            obtain ⟨g1, g2, g3, g4, g5, g6, g7⟩ := id hf0
            obtain ⟨p1, p2⟩ := enc_4 (c := c0) (by rw [← a2]; omega)
            rw [p2] at d3
            obtain ⟨z0a, z0b, z0c⟩ := R105_.2.2.2 c0.ky (sb c0.ex ++ sb c0.va) (by omega) d1 (by first | (rw [d3]; done) | (rw [d3]; simp))
            obtain ⟨z1a, z1b, z1c⟩ := R109_.2.2.2 c0.ex (sb c0.va) (by omega) z0a (by first | (rw [z0c]; done) | (rw [z0c]; simp))
            obtain ⟨z2a, z2b, z2c⟩ := R113_.2.2.2 c0.va ([]) (by omega) z1a (by first | (rw [z1c]; done) | (rw [z1c]; simp))
            have eqc : (⟨m7_, m14_, m18_, m105_, m113_, m109_, ([]), ([]), 0, 0, 0, []⟩ : Cmd) = c0 := by (rw [hm.2.1, p1]; simp only [blank]; rw [a2, u64_inj b2, u64_inj d2, z0b, z1b, z2b])
            first
            | (cases z2a; done)
            | exact Bool.noConfusion (z2a.symm.trans (show b113_ = false by assumption))
            | (have q := congrArg List.length z2c; simp only [List.length_nil] at q; omega)
            | exact absurd (show mayB (⟨m7_, m14_, m18_, m105_, m113_, m109_, ([]), ([]), 0, 0, 0, []⟩ : Cmd) = true by rw [eqc]; exact decide_eq_true hm) (by rw [show mayB (⟨m7_, m14_, m18_, m105_, m113_, m109_, ([]), ([]), 0, 0, 0, []⟩ : Cmd) = false by assumption]; decide)
          exact ⟨zeroC, .slice none 0 0, [], false, .nil, rfl, fit0, rdC_no hno, (M120.bare.take 0).nils⟩
         ·
          refine WS.op rfl rfl (WS.op rfl rfl (WS.op rfl (op_lds [_, _, _, _, _, _, _, _, _, _, _, _] (M116.at 0 rfl) rfl (Nat.le_of_ble_eq_true rfl) rfl) ?_))
          refine WS.call rfl rfl rfl (refMay_ran M116.here (c := (⟨m7_, m14_, m18_, m105_, m113_, m109_, ([]), ([]), 0, 0, 0, []⟩ : Cmd)) Row.Sl.nil (by unfold Fit; dsimp only; exact ⟨by first | omega | simp, by first | omega | simp, by first | omega | simp, by first | omega | simp, by first | omega | simp, by first | omega | simp, by first | exact hF | (intro p hp; cases hp)⟩)) ?_
          rintro _ h121 ⟨rfl, N122⟩
          have M123 := M116.trans N122
          cases hb12 : (mayB (⟨m7_, m14_, m18_, m105_, m113_, m109_, ([]), ([]), 0, 0, 0, []⟩ : Cmd))
          ·
           refine WS.opV (.bool true) rfl rfl rfl (WS.op rfl rfl (WS.nil [(2, _), (5, _), (126, _)] rfl ?_))
           refine WC.condT rfl ?_
           refine WC.seq ?_
           refine WC.run ?_
           refine WS.opV (.agg #[(.int .u8 (0 : Int)), (.int .u64 (0 : Int)), (.int .u64 (0 : Int)), (.string (bs ([]))), (.string (bs ([]))), (.string (bs ([]))), (.string (bs ([]))), (.string (bs ([]))), (.int .u8 (0 : Int)), (.int .u64 (0 : Int)), (.int .u64 (0 : Int)), (.slice none 0 0)]) rfl rfl rfl ?_
           refine WS.st1 (M123.focus 2 rfl) [_, _, _, _, _, _, _, _, _, _, _, _] [_, _, _, _, _, _, _, _, _, _, _, _] rfl rfl rfl rfl rfl (Nat.le_of_ble_eq_true rfl) (Nat.le_of_ble_eq_true rfl) rfl rfl ?_
           intro h124 M125
           replace M125 : Mem _ _ ([(p1, _)] :: [(p9, _)] :: [(p4, _)] :: []) _ := M125
           refine WS.op rfl rfl (WS.nil [(2, _), (3, _)] rfl ?_)
           refine WC.ret ?_
           refine ⟨[_, _], (res_cellN [_, _, _, _, _, _, _, _, _, _, _, _] rfl (M125.at 0 rfl) (Nat.le_of_ble_eq_true rfl) rfl (res_tmp rfl res_nil)), ?_⟩
           have hno : ∀ c0, MayC c0 → Fit c0 → encC c0 ≠ s := by
             intro c0 hm hf0 he2
             have he := he2.symm
             obtain ⟨a1, a2, a3⟩ := R7_.2.2 c0.op (vb c0.se.toNat ++ (vb c0.sq.toNat ++ bodyB c0)) rfl (by rw [he]; simp [encC, headB])
             obtain ⟨b1, b2, b3⟩ := R14_.2.2 c0.se.toNat _ c0.se.toNat_lt a1 a3
             obtain ⟨d1, d2, d3⟩ := R18_.2.2 c0.sq.toNat _ c0.sq.toNat_lt b1 b3
             obtain ⟨g1, g2, g3, g4, g5, g6, g7⟩ := id hf0
             obtain ⟨p1, p2⟩ := enc_4 (c := c0) (by rw [← a2]; omega)
             rw [p2] at d3
             obtain ⟨z0a, z0b, z0c⟩ := R105_.2.2.2 c0.ky (sb c0.ex ++ sb c0.va) (by omega) d1 (by first | (rw [d3]; done) | (rw [d3]; simp))
             obtain ⟨z1a, z1b, z1c⟩ := R109_.2.2.2 c0.ex (sb c0.va) (by omega) z0a (by first | (rw [z0c]; done) | (rw [z0c]; simp))
             obtain ⟨z2a, z2b, z2c⟩ := R113_.2.2.2 c0.va ([]) (by omega) z1a (by first | (rw [z1c]; done) | (rw [z1c]; simp))
             have eqc : (⟨m7_, m14_, m18_, m105_, m113_, m109_, ([]), ([]), 0, 0, 0, []⟩ : Cmd) = c0 := by (rw [hm.2.1, p1]; simp only [blank]; rw [a2, u64_inj b2, u64_inj d2, z0b, z1b, z2b])
             first
             | (cases z2a; done)
             | exact Bool.noConfusion (z2a.symm.trans (show b113_ = false by assumption))
             | (have q := congrArg List.length z2c; simp only [List.length_nil] at q; omega)
             | exact absurd (show mayB (⟨m7_, m14_, m18_, m105_, m113_, m109_, ([]), ([]), 0, 0, 0, []⟩ : Cmd) = true by rw [eqc]; exact decide_eq_true hm) (by rw [show mayB (⟨m7_, m14_, m18_, m105_, m113_, m109_, ([]), ([]), 0, 0, 0, []⟩ : Cmd) = false by assumption]; decide)
           exact ⟨zeroC, .slice none 0 0, [], false, .nil, rfl, fit0, rdC_no hno, (M125.bare.take 0).nils⟩
          ·
           refine WS.opV (.bool false) rfl rfl rfl (WS.op rfl rfl (WS.nil [(2, _), (5, _), (126, _)] rfl ?_))
           refine WC.condF rfl ?_
           refine WC.skip ?_
           refine WC.seq ?_
           refine WC.run ?_
           refine WS.op rfl (op_lds [_, _, _, _, _, _, _, _, _, _, _, _] (M123.at 0 rfl) rfl (Nat.le_of_ble_eq_true rfl) rfl) ?_
           refine WS.st1 (M123.focus 2 rfl) [_, _, _, _, _, _, _, _, _, _, _, _] [_, _, _, _, _, _, _, _, _, _, _, _] rfl rfl rfl rfl rfl (Nat.le_of_ble_eq_true rfl) (Nat.le_of_ble_eq_true rfl) rfl rfl ?_
           intro h126 M127
           replace M127 : Mem _ _ ([(p1, _)] :: [(p9, _)] :: [(p4, _)] :: []) _ := M127
           refine WS.op rfl rfl (WS.nil [(2, _), (3, _)] rfl ?_)
           refine WC.ret ?_
           refine ⟨[_, _], (res_cellN [_, _, _, _, _, _, _, _, _, _, _, _] rfl (M127.at 0 rfl) (Nat.le_of_ble_eq_true rfl) rfl (res_tmp rfl res_nil)), ?_⟩
           have hs0 : s113_ = [] := List.eq_nil_of_length_eq_zero (by omega)
           have hm : MayC (⟨m7_, m14_, m18_, m105_, m113_, m109_, ([]), ([]), 0, 0, 0, []⟩ : Cmd) := of_decide_eq_true (p := MayC (⟨m7_, m14_, m18_, m105_, m113_, m109_, ([]), ([]), 0, 0, 0, []⟩ : Cmd)) (by assumption)
           obtain ⟨y5, e5'⟩ := R113_.2.2.1 (show b113_ = true by first | assumption | rfl)
           obtain ⟨y4, e4'⟩ := R109_.2.2.1 y5
           obtain ⟨y3, e3'⟩ := R105_.2.2.1 y4
           obtain ⟨y2, e2'⟩ := R18_.2.1 y3
           obtain ⟨y1, e1'⟩ := R14_.2.1 y2
           obtain ⟨y0, e0'⟩ := R7_.2.1 y1
           obtain ⟨p1, p2⟩ := enc_4 (c := (⟨m7_, m14_, m18_, m105_, m113_, m109_, ([]), ([]), 0, 0, 0, []⟩ : Cmd)) (by dsimp only; omega)
           have henc : encC (⟨m7_, m14_, m18_, m105_, m113_, m109_, ([]), ([]), 0, 0, 0, []⟩ : Cmd) = s := by
             unfold encC
             rw [p2]
             unfold headB
             dsimp only
             rw [e0', e1', e2', e3', e4', e5', hs0]
             simp
           exact ⟨(⟨m7_, m14_, m18_, m105_, m113_, m109_, ([]), ([]), 0, 0, 0, []⟩ : Cmd), _, _, true, .nil, rfl, (by unfold Fit; dsimp only; exact ⟨by first | omega | simp, by first | omega | simp, by first | omega | simp, by first | omega | simp, by first | omega | simp, by first | omega | simp, by first | exact hF | (intro p hp; cases hp)⟩), ⟨fun _ => ⟨hm, henc⟩, fun q => nomatch q⟩, (M127.bare.take 0).nils⟩
       ·
        refine WS.op rfl rfl (WS.nil [(2, _), (4, _), (5, _), (23, _), (47, _)] rfl ?_)
        refine WC.condF rfl ?_
        refine WC.seq ?_
        refine WC.run ?_
        refine WS.eqlN (a := (m7_).toNat) (b := 5) rfl rfl rfl (fun e59 => ?_) (fun e59 => ?_)
        ·
         refine WS.op rfl rfl (WS.nil [(2, _), (4, _), (5, _), (23, _), (58, _)] rfl ?_)
         refine WC.condT rfl ?_
         refine WC.seq ?_
         refine WC.run ?_
         refine WS.op rfl rfl ?_
         refine WS.call rfl rfl rfl (tk_byte_ran (s := s18_) (w := b18_) (M21.focus 1 rfl) (by omega)) ?_
         rintro _ h128 ⟨s128_, b128_, m128_, rfl, M129, R128_⟩
         have R128_l := R128_.1
         replace M129 : Mem _ _ ([(p4, _)] :: [(p9, _)] :: [(p1, _)] :: []) _ := M129
         refine WS.op rfl rfl (WS.nil [(2, _), (4, _), (5, _), (6, _)] rfl ?_)
         refine WC.seq ?_
         refine WC.run ?_
         refine WS.op rfl rfl (WS.nil [(2, _), (4, _), (5, _), (6, _), (7, _)] rfl ?_)
         refine WC.block ?_
         obtain ⟨L130, eL132, M131⟩ := Mem.name3 ((((M129.bare.focus 1 rfl).focus 1 rfl)).nils)
         refine WC.loop (σ := List UInt8 × Bool × List Part × Value × Seg × Nat) (fun ((s_, w_, ps, V_, S_, i)) => [(2, (.pointer (some ⟨p1, 0, none⟩))), (4, (.pointer (some ⟨p4, 0, none⟩))), (5, (.pointer (some ⟨p9, 0, none⟩))), (6, (.int .i64 (((m128_).toNat : Nat) : Int))), (7, (.int .i64 ((i : Nat) : Int)))]) (fun ((s_, w_, ps, V_, S_, i)) hh => Mem h hh (S_ :: [(p4, ⟨[(.string (bs s_)), (.bool w_)], 0, false⟩)] :: [(p9, ⟨[(.int .u8 (((m7_).toNat : Nat) : Int)), (.int .u64 (((m14_).toNat : Nat) : Int)), (.int .u64 (((m18_).toNat : Nat) : Int)), (.string (bs ([]))), (.string (bs ([]))), (.string (bs ([]))), (.string (bs ([]))), (.string (bs ([]))), (.int .u8 (0 : Int)), (.int .u64 (0 : Int)), (.int .u64 (0 : Int)), V_], 0, false⟩)] :: L130) [] ∧ KPart.Own V_ ps S_ ∧ ps.length = i ∧ i ≤ (m128_).toNat ∧ s_.length ≤ s.length ∧ FitP ps ∧ (w_ = true → b128_ = true ∧ s128_ = ps.flatMap partB ++ s_) ∧ (∀ (qs : List Part) t, FitP qs → (∀ q ∈ qs, q.op.toNat ≠ 2 → q.va = []) → b128_ = true → (m128_).toNat = qs.length → s128_ = qs.flatMap partB ++ t → w_ = true ∧ ps = qs.take i ∧ s_ = (qs.drop i).flatMap partB ++ t)) (fun ((s_, w_, ps, V_, S_, i)) => (m128_).toNat - i) (s128_, b128_, [], .slice none 0 0, [], 0) rfl ⟨(by exact M131), ?_⟩ ?_
         · exact ⟨.nil, rfl, by omega, by omega, (by intro p hp; cases hp), (fun q => ⟨q, rfl⟩), fun qs t a1 a2 a3 a4 a5 => ⟨a3, rfl, a5⟩⟩
         ·rintro ⟨s_, w_, ps, V_, S_, i⟩ h133 ⟨M134, ⟨hO, hlen, hi1, hsl, hF, hS, hI⟩⟩
          subst eL132
          refine WC.env [(2, _), (4, _), (5, _), (6, _), (7, _)] rfl ?_
          obtain ⟨P_, rfl⟩ := hO.shape
          have hn8 := UInt8.toNat_lt m128_
          refine WC.seq ?_
          refine WC.seq ?_
          refine WC.run ?_
          refine WS.op rfl rfl (WS.op rfl rfl ?_)
          refine WS.lssN (a := i) (b := (m128_).toNat) rfl rfl rfl (fun e64 => ?_) (fun e64 => ?_)
          ·
           refine WS.op rfl rfl (WS.op rfl rfl (WS.op rfl rfl (WS.op rfl rfl (WS.op rfl (op_ld (M134.at 1 rfl) rfl rfl) (WS.op rfl rfl (WS.nil [(2, _), (4, _), (5, _), (6, _), (7, _), (70, _)] rfl ?_))))))
           cases w_
           ·
            refine WC.condF rfl ?_
            refine WC.exit ?_
            refine WC.seq ?_
            refine WC.seq ?_
            refine WC.run ?_
            refine WS.op rfl rfl (WS.op rfl rfl (WS.op rfl rfl (WS.op rfl (op_ld (M134.at 1 rfl) rfl rfl) (WS.opV (.bool true) rfl rfl rfl (WS.op rfl rfl (WS.off rfl (WS.off rfl (WS.off rfl (WS.off rfl ?_)))))))))
            refine WS.off rfl (WS.off rfl (WS.op rfl rfl (WS.op rfl rfl (WS.off rfl (WS.offC rfl (WS.off rfl (WS.op rfl rfl (WS.nil [(2, _), (5, _), (126, _)] rfl ?_))))))))
            refine WC.condT rfl ?_
            refine WC.seq ?_
            refine WC.run ?_
            refine WS.opV (.agg #[(.int .u8 (0 : Int)), (.int .u64 (0 : Int)), (.int .u64 (0 : Int)), (.string (bs ([]))), (.string (bs ([]))), (.string (bs ([]))), (.string (bs ([]))), (.string (bs ([]))), (.int .u8 (0 : Int)), (.int .u64 (0 : Int)), (.int .u64 (0 : Int)), (.slice none 0 0)]) rfl rfl rfl ?_
            refine WS.st1 (M134.focus 3 rfl) [_, _, _, _, _, _, _, _, _, _, _, _] [_, _, _, _, _, _, _, _, _, _, _, _] rfl rfl rfl rfl rfl (Nat.le_of_ble_eq_true rfl) (Nat.le_of_ble_eq_true rfl) rfl rfl ?_
            intro h135 M136
            replace M136 : Mem _ _ ([(p1, _)] :: S_ :: [(p4, _)] :: [(p9, _)] :: []) _ := M136
            refine WS.op rfl rfl (WS.nil [(2, _), (3, _)] rfl ?_)
            refine WC.ret ?_
            refine ⟨[_, _], (res_cellN [_, _, _, _, _, _, _, _, _, _, _, _] rfl (M136.at 0 rfl) (Nat.le_of_ble_eq_true rfl) rfl (res_tmp rfl res_nil)), ?_⟩
            have hno : ∀ c0, MayC c0 → Fit c0 → encC c0 ≠ s := by
              intro c0 hm hf0 he2
              have he := he2.symm
              obtain ⟨a1, a2, a3⟩ := R7_.2.2 c0.op (vb c0.se.toNat ++ (vb c0.sq.toNat ++ bodyB c0)) rfl (by rw [he]; simp [encC, headB])
              obtain ⟨b1, b2, b3⟩ := R14_.2.2 c0.se.toNat _ c0.se.toNat_lt a1 a3
              obtain ⟨d1, d2, d3⟩ := R18_.2.2 c0.sq.toNat _ c0.sq.toNat_lt b1 b3
              obtain ⟨g1, g2, g3, g4, g5, g6, g7⟩ := id hf0
              obtain ⟨p1, p2⟩ := enc_5 (c := c0) (by rw [← a2]; omega)
              rw [p2] at d3
              have hq4 := hm.2.2.1 (by rw [← a2]; omega)
              obtain ⟨ya, yb, yc⟩ := R128_.2.2 (UInt8.ofNat c0.ps.length) (c0.ps.flatMap partB) d1 (by rw [d3]; simp)
              obtain ⟨za, zb, zc⟩ := hI c0.ps [] g7 (fun q hq hne => by rcases hm.2.2.2 q hq with w | w; exact absurd w hne; exact w.2) ya (by rw [yb]; exact toNat_ofNat (by omega)) (by rw [yc]; simp)
              have hln : (m128_).toNat = c0.ps.length := by rw [yb]; exact toNat_ofNat (by omega)
              first
              | (cases za; done)
              | (have zb2 : ps = c0.ps := by (rw [zb, List.take_of_length_le (by omega)])
                 have zc2 : s_ = [] := by (rw [zc, List.drop_eq_nil_of_le (by omega)]; rfl)
                 have eqc : (⟨m7_, m14_, m18_, ([]), ([]), ([]), ([]), ([]), 0, 0, 0, ps⟩ : Cmd) = c0 := by (rw [hm.2.1, p1]; simp only [blank]; rw [a2, u64_inj b2, u64_inj d2, zb2])
                 first
                 | exact Bool.noConfusion (za.symm.trans (show false = false by assumption))
                 | (have q := congrArg List.length zc2; simp only [List.length_nil] at q; omega)
                 | exact absurd (show mayB (⟨m7_, m14_, m18_, ([]), ([]), ([]), ([]), ([]), 0, 0, 0, ps⟩ : Cmd) = true by rw [eqc]; exact decide_eq_true hm) (by rw [show mayB (⟨m7_, m14_, m18_, ([]), ([]), ([]), ([]), ([]), 0, 0, 0, ps⟩ : Cmd) = false by assumption]; decide))
            exact ⟨zeroC, .slice none 0 0, [], false, .nil, rfl, fit0, rdC_no hno, (M136.bare.take 0).nils⟩
           ·
            refine WC.condT rfl ?_
            refine WC.skip ?_
            refine WC.seq ?_
            refine WC.block ?_
            refine WC.seq ?_
            refine WC.run ?_
            refine WS.op rfl rfl ?_
            refine WS.call rfl rfl rfl (tk_byte_ran (s := s_) (w := true) (M134.focus 1 rfl) (by omega)) ?_
            rintro _ h137 ⟨s137_, b137_, m137_, rfl, M138, R137_⟩
            have R137_l := R137_.1
            replace M138 : Mem _ _ ([(p4, _)] :: S_ :: [(p9, _)] :: [(p1, _)] :: []) _ := M138
            refine WS.opV (.int .u8 (((m137_).toNat : Nat) : Int)) rfl rfl (cv_u8 (n := (m137_).toNat) (by have := UInt8.toNat_lt (m137_); omega)) (WS.opV (.agg #[(.int .u8 (((m137_).toNat : Nat) : Int)), (.string (bs ([]))), (.string (bs ([])))]) rfl rfl rfl ?_)
            refine WS.new M138 rfl ?_
            intro p139 h140 M141
            refine WS.st1 (M141.focus 0 rfl) [_, _, _] [_, _, _] rfl rfl rfl rfl rfl (Nat.le_of_ble_eq_true rfl) (Nat.le_of_ble_eq_true rfl) rfl rfl ?_
            intro h142 M143
            replace M143 : Mem _ _ ([(p139, _)] :: [(p4, _)] :: S_ :: [(p9, _)] :: [(p1, _)] :: []) _ := M143
            refine WS.nil [(2, _), (4, _), (5, _), (6, _), (7, _), (8, _)] rfl ?_
            refine WC.seq ?_
            refine WC.run ?_
            refine WS.op rfl rfl ?_
            refine WS.call rfl rfl rfl (tk_text_ran (s := s137_) (w := b137_) (M143.focus 1 rfl) (by omega)) ?_
            rintro _ h144 ⟨s144_, b144_, m144_, rfl, M145, R144_⟩
            have R144_l := R144_.1
            have R144_t := R144_.2.1
            replace M145 : Mem _ _ ([(p4, _)] :: [(p139, _)] :: S_ :: [(p9, _)] :: [(p1, _)] :: []) _ := M145
            refine WS.op rfl rfl ?_
            refine WS.st1 (M145.focus 1 rfl) [_] [_, _, _] rfl rfl rfl rfl rfl (Nat.le_of_ble_eq_true rfl) (Nat.le_of_ble_eq_true rfl) rfl rfl ?_
            intro h146 M147
            replace M147 : Mem _ _ ([(p139, _)] :: [(p4, _)] :: S_ :: [(p9, _)] :: [(p1, _)] :: []) _ := M147
            refine WS.nil [(2, _), (4, _), (5, _), (6, _), (7, _), (8, _)] rfl ?_
            refine WC.seq ?_
            refine WC.seq ?_
            refine WC.run ?_
            refine WS.op rfl rfl (WS.op rfl (op_ld (M147.at 0 rfl) rfl rfl) ?_)
            refine WS.eqlN (a := (m137_).toNat) (b := 2) rfl rfl rfl (fun e82 => ?_) (fun e82 => ?_)
            ·
             refine WS.nil [(2, _), (4, _), (5, _), (6, _), (7, _), (8, _), (82, _)] rfl ?_
             refine WC.condT rfl ?_
             refine WC.run ?_
             refine WS.op rfl rfl ?_
             refine WS.call rfl rfl rfl (tk_text_ran (s := s144_) (w := b144_) (M147.focus 1 rfl) (by omega)) ?_
             rintro _ h148 ⟨s148_, b148_, m148_, rfl, M149, R148_⟩
             have R148_l := R148_.1
             have R148_t := R148_.2.1
             replace M149 : Mem _ _ ([(p4, _)] :: [(p139, _)] :: S_ :: [(p9, _)] :: [(p1, _)] :: []) _ := M149
             refine WS.op rfl rfl ?_
             refine WS.st1 (M149.focus 1 rfl) [_] [_, _, _] rfl rfl rfl rfl rfl (Nat.le_of_ble_eq_true rfl) (Nat.le_of_ble_eq_true rfl) rfl rfl ?_
             intro h150 M151
             replace M151 : Mem _ _ ([(p139, _)] :: [(p4, _)] :: S_ :: [(p9, _)] :: [(p1, _)] :: []) _ := M151
             refine WS.nil [(2, _), (4, _), (5, _), (6, _), (7, _), (8, _)] rfl ?_
             refine WC.run ?_
             refine WS.op rfl rfl (WS.op rfl (op_ld (M151.at 3 rfl) rfl rfl) (WS.op rfl (op_lds [_, _, _] (M151.at 0 rfl) rfl (Nat.le_of_ble_eq_true rfl) rfl) ?_))
             refine WS.bsl M151 [_, _, _] rfl rfl rfl rfl ?_
             intro p152 h153 M154
             refine WS.app (l := ps) (m := [(⟨m137_, m144_, m148_⟩ : Part)]) (hO) (M154.focus 3 rfl) (Row.Src.one (K := KPart) (m := [(⟨m137_, m144_, m148_⟩ : Part)]) (M154.at 0 rfl)) rfl (by simp only [List.length_cons, List.length_nil]; omega) (by simp only [List.length_cons, List.length_nil]; omega) rfl rfl rfl ?_
             intro V155 S156 h157 O158 M159
             obtain ⟨P160, rfl⟩ := Row.Own.shape O158
             refine WS.op rfl rfl ?_
             refine WS.st1 (M159.focus 4 rfl) [_] [_, _, _, _, _, _, _, _, _, _, _, _] rfl rfl rfl rfl rfl (Nat.le_of_ble_eq_true rfl) (Nat.le_of_ble_eq_true rfl) rfl rfl ?_
             intro h161 M162
             replace M162 : Mem _ _ ([(p9, _)] :: S156 :: [(p152, _)] :: [(p139, _)] :: [(p4, _)] :: [(p1, _)] :: []) _ := M162
             refine WS.nil [(2, _), (4, _), (5, _), (6, _), (7, _)] rfl ?_
             refine WC.run ?_
             refine WS.op rfl rfl (WS.opV (.int .i64 (((i + 1) : Nat) : Int)) rfl rfl (add_i64 (a := i) (b := 1) (by omega)) (WS.op rfl rfl (WS.nil [(2, _), (4, _), (5, _), (6, _), (7, _)] rfl ?_)))
             refine ⟨(s148_, b148_, (ps ++ [(⟨m137_, m144_, m148_⟩ : Part)]), (.slice P160 ((ps ++ [(⟨m137_, m144_, m148_⟩ : Part)])).length (2 * ((ps ++ [(⟨m137_, m144_, m148_⟩ : Part)])).length)), S156, i + 1), rfl, ⟨(((((M162.bare.focus 5 rfl).focus 1 rfl).focus 5 rfl).focus 3 rfl).take 4), ?_⟩, ?_⟩
             · exact ⟨O158, by simp [hlen], by omega, by omega, FitP_snoc1 hF ⟨by dsimp only; first | omega | simp, by dsimp only; first | omega | simp⟩, (fun q => by obtain ⟨y2, e2⟩ := R148_.2.2.1 q; obtain ⟨y1, e1⟩ := R144_.2.2.1 y2; obtain ⟨y0, e0⟩ := R137_.2.1 y1; obtain ⟨z1, z2⟩ := hS y0; exact ⟨z1, by rw [z2, e0, e1, e2]; simp [partB, e82]⟩), fun qs t a1 a2 a3 a4 a5 => by obtain ⟨u1, u3, u4⟩ := hI qs t a1 a2 a3 a4 a5; obtain ⟨y, hy⟩ : ∃ y, qs[i]? = some y := ⟨_, List.getElem?_eq_getElem (show i < qs.length by omega)⟩; rw [drop_flat hy] at u4; obtain ⟨y0, y1, y2⟩ := R137_.2.2 y.op ((sb y.ky ++ (if y.op.toNat = 2 then sb y.va else [])) ++ ((qs.drop (i + 1)).flatMap partB ++ t)) u1 (by rw [u4]; simp [partB]); obtain ⟨v1, v2, v3⟩ := R144_.2.2.2 y.ky ((if y.op.toNat = 2 then sb y.va else []) ++ ((qs.drop (i + 1)).flatMap partB ++ t)) (by have := (a1 _ (mem_get hy)).1; omega) y0 (by rw [y2]; simp); rw [if_pos (by rw [← y1]; first | assumption | omega)] at v3; obtain ⟨x1, x2, x3⟩ := R148_.2.2.2 y.va ((qs.drop (i + 1)).flatMap partB ++ t) (by have := (a1 _ (mem_get hy)).2; omega) v1 v3; exact ⟨x1, by rw [show (⟨m137_, m144_, m148_⟩ : Part) = y from by (obtain ⟨a, b, c⟩ := y; simp only at y1 v2 x2; rw [y1, v2, x2]), u3, List.take_add_one, hy]; rfl, x3⟩⟩
             · simp only []; omega
            ·
             refine WS.nil [(2, _), (4, _), (5, _), (6, _), (7, _), (8, _), (82, _)] rfl ?_
             refine WC.condF rfl ?_
             refine WC.skip ?_
             refine WC.run ?_
             refine WS.op rfl rfl (WS.op rfl (op_ld (M147.at 3 rfl) rfl rfl) (WS.op rfl (op_lds [_, _, _] (M147.at 0 rfl) rfl (Nat.le_of_ble_eq_true rfl) rfl) ?_))
             refine WS.bsl M147 [_, _, _] rfl rfl rfl rfl ?_
             intro p163 h164 M165
             refine WS.app (l := ps) (m := [(⟨m137_, m144_, ([])⟩ : Part)]) (hO) (M165.focus 3 rfl) (Row.Src.one (K := KPart) (m := [(⟨m137_, m144_, ([])⟩ : Part)]) (M165.at 0 rfl)) rfl (by simp only [List.length_cons, List.length_nil]; omega) (by simp only [List.length_cons, List.length_nil]; omega) rfl rfl rfl ?_
             intro V166 S167 h168 O169 M170
             obtain ⟨P171, rfl⟩ := Row.Own.shape O169
             refine WS.op rfl rfl ?_
             refine WS.st1 (M170.focus 4 rfl) [_] [_, _, _, _, _, _, _, _, _, _, _, _] rfl rfl rfl rfl rfl (Nat.le_of_ble_eq_true rfl) (Nat.le_of_ble_eq_true rfl) rfl rfl ?_
             intro h172 M173
             replace M173 : Mem _ _ ([(p9, _)] :: S167 :: [(p163, _)] :: [(p139, _)] :: [(p4, _)] :: [(p1, _)] :: []) _ := M173
             refine WS.nil [(2, _), (4, _), (5, _), (6, _), (7, _)] rfl ?_
             refine WC.run ?_
             refine WS.op rfl rfl (WS.opV (.int .i64 (((i + 1) : Nat) : Int)) rfl rfl (add_i64 (a := i) (b := 1) (by omega)) (WS.op rfl rfl (WS.nil [(2, _), (4, _), (5, _), (6, _), (7, _)] rfl ?_)))
             refine ⟨(s144_, b144_, (ps ++ [(⟨m137_, m144_, ([])⟩ : Part)]), (.slice P171 ((ps ++ [(⟨m137_, m144_, ([])⟩ : Part)])).length (2 * ((ps ++ [(⟨m137_, m144_, ([])⟩ : Part)])).length)), S167, i + 1), rfl, ⟨(((((M173.bare.focus 5 rfl).focus 1 rfl).focus 5 rfl).focus 3 rfl).take 4), ?_⟩, ?_⟩
             · exact ⟨O169, by simp [hlen], by omega, by omega, FitP_snoc1 hF ⟨by dsimp only; first | omega | simp, by dsimp only; first | omega | simp⟩, (fun q => by obtain ⟨y1, e1⟩ := R144_.2.2.1 q; obtain ⟨y0, e0⟩ := R137_.2.1 y1; obtain ⟨z1, z2⟩ := hS y0; exact ⟨z1, by rw [z2, e0, e1]; simp [partB, e82]⟩), fun qs t a1 a2 a3 a4 a5 => by obtain ⟨u1, u3, u4⟩ := hI qs t a1 a2 a3 a4 a5; obtain ⟨y, hy⟩ : ∃ y, qs[i]? = some y := ⟨_, List.getElem?_eq_getElem (show i < qs.length by omega)⟩; rw [drop_flat hy] at u4; obtain ⟨y0, y1, y2⟩ := R137_.2.2 y.op ((sb y.ky ++ (if y.op.toNat = 2 then sb y.va else [])) ++ ((qs.drop (i + 1)).flatMap partB ++ t)) u1 (by rw [u4]; simp [partB]); obtain ⟨v1, v2, v3⟩ := R144_.2.2.2 y.ky ((if y.op.toNat = 2 then sb y.va else []) ++ ((qs.drop (i + 1)).flatMap partB ++ t)) (by have := (a1 _ (mem_get hy)).1; omega) y0 (by rw [y2]; simp); rw [if_neg (by rw [← y1]; first | assumption | omega), List.nil_append] at v3; have hva := a2 y (mem_get hy) (by rw [← y1]; assumption); exact ⟨v1, by rw [show (⟨m137_, m144_, ([])⟩ : Part) = y from by (obtain ⟨a, b, c⟩ := y; simp only at hva y1 v2; rw [y1, v2, hva]), u3, List.take_add_one, hy]; rfl, v3⟩⟩
             · simp only []; omega
          ·
           refine WS.op rfl rfl (WS.off rfl (WS.off rfl (WS.off rfl (WS.off rfl (WS.op rfl rfl (WS.nil [(2, _), (4, _), (5, _), (6, _), (7, _), (70, _)] rfl ?_))))))
           refine WC.condF rfl ?_
           refine WC.exit ?_
           refine WC.seq ?_
           refine WC.seq ?_
           refine WC.run ?_
           refine WS.op rfl rfl (WS.op rfl rfl (WS.op rfl rfl (WS.op rfl (op_ld (M134.at 1 rfl) rfl rfl) ?_)))
           cases w_
           ·
            refine WS.opV (.bool true) rfl rfl rfl (WS.op rfl rfl (WS.off rfl (WS.off rfl (WS.off rfl (WS.off rfl (WS.off rfl (WS.off rfl (WS.op rfl rfl (WS.op rfl rfl ?_)))))))))
            refine WS.off rfl (WS.offC rfl (WS.off rfl (WS.op rfl rfl (WS.nil [(2, _), (5, _), (126, _)] rfl ?_))))
            refine WC.condT rfl ?_
            refine WC.seq ?_
            refine WC.run ?_
            refine WS.opV (.agg #[(.int .u8 (0 : Int)), (.int .u64 (0 : Int)), (.int .u64 (0 : Int)), (.string (bs ([]))), (.string (bs ([]))), (.string (bs ([]))), (.string (bs ([]))), (.string (bs ([]))), (.int .u8 (0 : Int)), (.int .u64 (0 : Int)), (.int .u64 (0 : Int)), (.slice none 0 0)]) rfl rfl rfl ?_
            refine WS.st1 (M134.focus 3 rfl) [_, _, _, _, _, _, _, _, _, _, _, _] [_, _, _, _, _, _, _, _, _, _, _, _] rfl rfl rfl rfl rfl (Nat.le_of_ble_eq_true rfl) (Nat.le_of_ble_eq_true rfl) rfl rfl ?_
            intro h174 M175
            replace M175 : Mem _ _ ([(p1, _)] :: S_ :: [(p4, _)] :: [(p9, _)] :: []) _ := M175
            refine WS.op rfl rfl (WS.nil [(2, _), (3, _)] rfl ?_)
            refine WC.ret ?_
            refine ⟨[_, _], (res_cellN [_, _, _, _, _, _, _, _, _, _, _, _] rfl (M175.at 0 rfl) (Nat.le_of_ble_eq_true rfl) rfl (res_tmp rfl res_nil)), ?_⟩
            have hno : ∀ c0, MayC c0 → Fit c0 → encC c0 ≠ s := by
              intro c0 hm hf0 he2
              have he := he2.symm
              obtain ⟨a1, a2, a3⟩ := R7_.2.2 c0.op (vb c0.se.toNat ++ (vb c0.sq.toNat ++ bodyB c0)) rfl (by rw [he]; simp [encC, headB])
              obtain ⟨b1, b2, b3⟩ := R14_.2.2 c0.se.toNat _ c0.se.toNat_lt a1 a3
              obtain ⟨d1, d2, d3⟩ := R18_.2.2 c0.sq.toNat _ c0.sq.toNat_lt b1 b3
              obtain ⟨g1, g2, g3, g4, g5, g6, g7⟩ := id hf0
              obtain ⟨p1, p2⟩ := enc_5 (c := c0) (by rw [← a2]; omega)
              rw [p2] at d3
              have hq4 := hm.2.2.1 (by rw [← a2]; omega)
              obtain ⟨ya, yb, yc⟩ := R128_.2.2 (UInt8.ofNat c0.ps.length) (c0.ps.flatMap partB) d1 (by rw [d3]; simp)
              obtain ⟨za, zb, zc⟩ := hI c0.ps [] g7 (fun q hq hne => by rcases hm.2.2.2 q hq with w | w; exact absurd w hne; exact w.2) ya (by rw [yb]; exact toNat_ofNat (by omega)) (by rw [yc]; simp)
              have hln : (m128_).toNat = c0.ps.length := by rw [yb]; exact toNat_ofNat (by omega)
              first
              | (cases za; done)
              | (have zb2 : ps = c0.ps := by (rw [zb, List.take_of_length_le (by omega)])
                 have zc2 : s_ = [] := by (rw [zc, List.drop_eq_nil_of_le (by omega)]; rfl)
                 have eqc : (⟨m7_, m14_, m18_, ([]), ([]), ([]), ([]), ([]), 0, 0, 0, ps⟩ : Cmd) = c0 := by (rw [hm.2.1, p1]; simp only [blank]; rw [a2, u64_inj b2, u64_inj d2, zb2])
                 first
                 | exact Bool.noConfusion (za.symm.trans (show false = false by assumption))
                 | (have q := congrArg List.length zc2; simp only [List.length_nil] at q; omega)
                 | exact absurd (show mayB (⟨m7_, m14_, m18_, ([]), ([]), ([]), ([]), ([]), 0, 0, 0, ps⟩ : Cmd) = true by rw [eqc]; exact decide_eq_true hm) (by rw [show mayB (⟨m7_, m14_, m18_, ([]), ([]), ([]), ([]), ([]), 0, 0, 0, ps⟩ : Cmd) = false by assumption]; decide))
            exact ⟨zeroC, .slice none 0 0, [], false, .nil, rfl, fit0, rdC_no hno, (M175.bare.take 0).nils⟩
           ·
            refine WS.opV (.bool false) rfl rfl rfl (WS.op rfl rfl (WS.op rfl rfl (WS.op rfl rfl (WS.op rfl rfl (WS.op rfl (op_ld (M134.at 1 rfl) rfl rfl) (WS.op rfl (op_lenS (l := s_) rfl) ?_))))))
            refine WS.gtrN (a := (s_).length) (b := 0) rfl rfl rfl (fun e120 => ?_) (fun e120 => ?_)
            ·
             refine WS.op rfl rfl (WS.op rfl rfl (WS.off rfl (WS.offC rfl (WS.off rfl (WS.op rfl rfl (WS.nil [(2, _), (5, _), (126, _)] rfl ?_))))))
             refine WC.condT rfl ?_
             refine WC.seq ?_
             refine WC.run ?_
             refine WS.opV (.agg #[(.int .u8 (0 : Int)), (.int .u64 (0 : Int)), (.int .u64 (0 : Int)), (.string (bs ([]))), (.string (bs ([]))), (.string (bs ([]))), (.string (bs ([]))), (.string (bs ([]))), (.int .u8 (0 : Int)), (.int .u64 (0 : Int)), (.int .u64 (0 : Int)), (.slice none 0 0)]) rfl rfl rfl ?_
             refine WS.st1 (M134.focus 3 rfl) [_, _, _, _, _, _, _, _, _, _, _, _] [_, _, _, _, _, _, _, _, _, _, _, _] rfl rfl rfl rfl rfl (Nat.le_of_ble_eq_true rfl) (Nat.le_of_ble_eq_true rfl) rfl rfl ?_
             intro h176 M177
             replace M177 : Mem _ _ ([(p1, _)] :: S_ :: [(p4, _)] :: [(p9, _)] :: []) _ := M177
             refine WS.op rfl rfl (WS.nil [(2, _), (3, _)] rfl ?_)
             refine WC.ret ?_
             refine ⟨[_, _], (res_cellN [_, _, _, _, _, _, _, _, _, _, _, _] rfl (M177.at 0 rfl) (Nat.le_of_ble_eq_true rfl) rfl (res_tmp rfl res_nil)), ?_⟩
             have hno : ∀ c0, MayC c0 → Fit c0 → encC c0 ≠ s := by
               intro c0 hm hf0 he2
               have he := he2.symm
               obtain ⟨a1, a2, a3⟩ := R7_.2.2 c0.op (vb c0.se.toNat ++ (vb c0.sq.toNat ++ bodyB c0)) rfl (by rw [he]; simp [encC, headB])
               obtain ⟨b1, b2, b3⟩ := R14_.2.2 c0.se.toNat _ c0.se.toNat_lt a1 a3
               obtain ⟨d1, d2, d3⟩ := R18_.2.2 c0.sq.toNat _ c0.sq.toNat_lt b1 b3
               obtain ⟨g1, g2, g3, g4, g5, g6, g7⟩ := id hf0
               obtain ⟨p1, p2⟩ := enc_5 (c := c0) (by rw [← a2]; omega)
               rw [p2] at d3
               have hq4 := hm.2.2.1 (by rw [← a2]; omega)
               obtain ⟨ya, yb, yc⟩ := R128_.2.2 (UInt8.ofNat c0.ps.length) (c0.ps.flatMap partB) d1 (by rw [d3]; simp)
               obtain ⟨za, zb, zc⟩ := hI c0.ps [] g7 (fun q hq hne => by rcases hm.2.2.2 q hq with w | w; exact absurd w hne; exact w.2) ya (by rw [yb]; exact toNat_ofNat (by omega)) (by rw [yc]; simp)
               have hln : (m128_).toNat = c0.ps.length := by rw [yb]; exact toNat_ofNat (by omega)
               first
               | (cases za; done)
               | (have zb2 : ps = c0.ps := by (rw [zb, List.take_of_length_le (by omega)])
                  have zc2 : s_ = [] := by (rw [zc, List.drop_eq_nil_of_le (by omega)]; rfl)
                  have eqc : (⟨m7_, m14_, m18_, ([]), ([]), ([]), ([]), ([]), 0, 0, 0, ps⟩ : Cmd) = c0 := by (rw [hm.2.1, p1]; simp only [blank]; rw [a2, u64_inj b2, u64_inj d2, zb2])
                  first
                  | exact Bool.noConfusion (za.symm.trans (show true = false by assumption))
                  | (have q := congrArg List.length zc2; simp only [List.length_nil] at q; omega)
                  | exact absurd (show mayB (⟨m7_, m14_, m18_, ([]), ([]), ([]), ([]), ([]), 0, 0, 0, ps⟩ : Cmd) = true by rw [eqc]; exact decide_eq_true hm) (by rw [show mayB (⟨m7_, m14_, m18_, ([]), ([]), ([]), ([]), ([]), 0, 0, 0, ps⟩ : Cmd) = false by assumption]; decide))
             exact ⟨zeroC, .slice none 0 0, [], false, .nil, rfl, fit0, rdC_no hno, (M177.bare.take 0).nils⟩
            ·
             refine WS.op rfl rfl (WS.op rfl rfl (WS.op rfl (op_lds [_, _, _, _, _, _, _, _, _, _, _, _] (M134.at 2 rfl) rfl (Nat.le_of_ble_eq_true rfl) rfl) ?_))
             refine WS.call rfl rfl rfl (refMay_ran M134.here (c := (⟨m7_, m14_, m18_, ([]), ([]), ([]), ([]), ([]), 0, 0, 0, ps⟩ : Cmd)) (Row.Own.sl hO (Mem.owni M134 0 rfl)) (by unfold Fit; dsimp only; exact ⟨by first | omega | simp, by first | omega | simp, by first | omega | simp, by first | omega | simp, by first | omega | simp, by first | omega | simp, by first | exact hF | (intro p hp; cases hp)⟩)) ?_
             rintro _ h178 ⟨rfl, N179⟩
             have M180 := M134.trans N179
             cases hb14 : (mayB (⟨m7_, m14_, m18_, ([]), ([]), ([]), ([]), ([]), 0, 0, 0, ps⟩ : Cmd))
             ·
              refine WS.opV (.bool true) rfl rfl rfl (WS.op rfl rfl (WS.nil [(2, _), (5, _), (126, _)] rfl ?_))
              refine WC.condT rfl ?_
              refine WC.seq ?_
              refine WC.run ?_
              refine WS.opV (.agg #[(.int .u8 (0 : Int)), (.int .u64 (0 : Int)), (.int .u64 (0 : Int)), (.string (bs ([]))), (.string (bs ([]))), (.string (bs ([]))), (.string (bs ([]))), (.string (bs ([]))), (.int .u8 (0 : Int)), (.int .u64 (0 : Int)), (.int .u64 (0 : Int)), (.slice none 0 0)]) rfl rfl rfl ?_
              refine WS.st1 (M180.focus 3 rfl) [_, _, _, _, _, _, _, _, _, _, _, _] [_, _, _, _, _, _, _, _, _, _, _, _] rfl rfl rfl rfl rfl (Nat.le_of_ble_eq_true rfl) (Nat.le_of_ble_eq_true rfl) rfl rfl ?_
              intro h181 M182
              replace M182 : Mem _ _ ([(p1, _)] :: S_ :: [(p4, _)] :: [(p9, _)] :: []) _ := M182
              refine WS.op rfl rfl (WS.nil [(2, _), (3, _)] rfl ?_)
              refine WC.ret ?_
              refine ⟨[_, _], (res_cellN [_, _, _, _, _, _, _, _, _, _, _, _] rfl (M182.at 0 rfl) (Nat.le_of_ble_eq_true rfl) rfl (res_tmp rfl res_nil)), ?_⟩
              have hno : ∀ c0, MayC c0 → Fit c0 → encC c0 ≠ s := by
                intro c0 hm hf0 he2
                have he := he2.symm
                obtain ⟨a1, a2, a3⟩ := R7_.2.2 c0.op (vb c0.se.toNat ++ (vb c0.sq.toNat ++ bodyB c0)) rfl (by rw [he]; simp [encC, headB])
                obtain ⟨b1, b2, b3⟩ := R14_.2.2 c0.se.toNat _ c0.se.toNat_lt a1 a3
                obtain ⟨d1, d2, d3⟩ := R18_.2.2 c0.sq.toNat _ c0.sq.toNat_lt b1 b3
                obtain ⟨g1, g2, g3, g4, g5, g6, g7⟩ := id hf0
                obtain ⟨p1, p2⟩ := enc_5 (c := c0) (by rw [← a2]; omega)
                rw [p2] at d3
                have hq4 := hm.2.2.1 (by rw [← a2]; omega)
                obtain ⟨ya, yb, yc⟩ := R128_.2.2 (UInt8.ofNat c0.ps.length) (c0.ps.flatMap partB) d1 (by rw [d3]; simp)
                obtain ⟨za, zb, zc⟩ := hI c0.ps [] g7 (fun q hq hne => by rcases hm.2.2.2 q hq with w | w; exact absurd w hne; exact w.2) ya (by rw [yb]; exact toNat_ofNat (by omega)) (by rw [yc]; simp)
                have hln : (m128_).toNat = c0.ps.length := by rw [yb]; exact toNat_ofNat (by omega)
                first
                | (cases za; done)
                | (have zb2 : ps = c0.ps := by (rw [zb, List.take_of_length_le (by omega)])
                   have zc2 : s_ = [] := by (rw [zc, List.drop_eq_nil_of_le (by omega)]; rfl)
                   have eqc : (⟨m7_, m14_, m18_, ([]), ([]), ([]), ([]), ([]), 0, 0, 0, ps⟩ : Cmd) = c0 := by (rw [hm.2.1, p1]; simp only [blank]; rw [a2, u64_inj b2, u64_inj d2, zb2])
                   first
                   | exact Bool.noConfusion (za.symm.trans (show true = false by assumption))
                   | (have q := congrArg List.length zc2; simp only [List.length_nil] at q; omega)
                   | exact absurd (show mayB (⟨m7_, m14_, m18_, ([]), ([]), ([]), ([]), ([]), 0, 0, 0, ps⟩ : Cmd) = true by rw [eqc]; exact decide_eq_true hm) (by rw [show mayB (⟨m7_, m14_, m18_, ([]), ([]), ([]), ([]), ([]), 0, 0, 0, ps⟩ : Cmd) = false by assumption]; decide))
              exact ⟨zeroC, .slice none 0 0, [], false, .nil, rfl, fit0, rdC_no hno, (M182.bare.take 0).nils⟩
             ·
              refine WS.opV (.bool false) rfl rfl rfl (WS.op rfl rfl (WS.nil [(2, _), (5, _), (126, _)] rfl ?_))
              refine WC.condF rfl ?_
              refine WC.skip ?_
              refine WC.seq ?_
              refine WC.run ?_
              refine WS.op rfl (op_lds [_, _, _, _, _, _, _, _, _, _, _, _] (M180.at 2 rfl) rfl (Nat.le_of_ble_eq_true rfl) rfl) ?_
              refine WS.st1 (M180.focus 3 rfl) [_, _, _, _, _, _, _, _, _, _, _, _] [_, _, _, _, _, _, _, _, _, _, _, _] rfl rfl rfl rfl rfl (Nat.le_of_ble_eq_true rfl) (Nat.le_of_ble_eq_true rfl) rfl rfl ?_
              intro h183 M184
              replace M184 : Mem _ _ ([(p1, _)] :: S_ :: [(p4, _)] :: [(p9, _)] :: []) _ := M184
              refine WS.op rfl rfl (WS.nil [(2, _), (3, _)] rfl ?_)
              refine WC.ret ?_
              refine ⟨[_, _], (res_cellN [_, _, _, _, _, _, _, _, _, _, _, _] rfl (M184.at 0 rfl) (Nat.le_of_ble_eq_true rfl) rfl (res_tmp rfl res_nil)), ?_⟩
              have hs0 : s_ = [] := List.eq_nil_of_length_eq_zero (by omega)
              have hm : MayC (⟨m7_, m14_, m18_, ([]), ([]), ([]), ([]), ([]), 0, 0, 0, ps⟩ : Cmd) := of_decide_eq_true (p := MayC (⟨m7_, m14_, m18_, ([]), ([]), ([]), ([]), ([]), 0, 0, 0, ps⟩ : Cmd)) (by assumption)
              obtain ⟨yp, ep⟩ := hS (show true = true by first | assumption | rfl)
              obtain ⟨y3, e3'⟩ := R128_.2.1 yp
              obtain ⟨y2, e2'⟩ := R18_.2.1 y3
              obtain ⟨y1, e1'⟩ := R14_.2.1 y2
              obtain ⟨y0, e0'⟩ := R7_.2.1 y1
              obtain ⟨p1, p2⟩ := enc_5 (c := (⟨m7_, m14_, m18_, ([]), ([]), ([]), ([]), ([]), 0, 0, 0, ps⟩ : Cmd)) (by dsimp only; omega)
              have hcn : UInt8.ofNat ps.length = m128_ := by rw [show ps.length = (m128_).toNat by omega, ofNat_toNat]
              have henc : encC (⟨m7_, m14_, m18_, ([]), ([]), ([]), ([]), ([]), 0, 0, 0, ps⟩ : Cmd) = s := by
                unfold encC
                rw [p2]
                unfold headB
                dsimp only
                rw [e0', e1', e2', e3', ep, hs0]
                simp [hcn]
              exact ⟨(⟨m7_, m14_, m18_, ([]), ([]), ([]), ([]), ([]), 0, 0, 0, ps⟩ : Cmd), _, _, true, hO, rfl, (by unfold Fit; dsimp only; exact ⟨by first | omega | simp, by first | omega | simp, by first | omega | simp, by first | omega | simp, by first | omega | simp, by first | omega | simp, by first | exact hF | (intro p hp; cases hp)⟩), ⟨fun _ => ⟨hm, henc⟩, fun q => nomatch q⟩, ((M184.bare.focus 1 rfl).take 1)⟩
        ·
         refine WS.op rfl rfl (WS.nil [(2, _), (4, _), (5, _), (23, _), (58, _)] rfl ?_)
         refine WC.condF rfl ?_
         refine WC.seq ?_
         refine WC.run ?_
         refine WS.eqlN (a := (m7_).toNat) (b := 7) rfl rfl rfl (fun e93 => ?_) (fun e93 => ?_)
         ·
          refine WS.op rfl rfl (WS.nil [(2, _), (4, _), (5, _), (23, _), (92, _)] rfl ?_)
          refine WC.condT rfl ?_
          refine WC.run ?_
          refine WS.op rfl rfl ?_
          refine WS.call rfl rfl rfl (tk_number_ran (s := s18_) (w := b18_) (M21.focus 1 rfl) (by omega)) ?_
          rintro _ h185 ⟨s185_, b185_, m185_, rfl, M186, R185_⟩
          have R185_l := R185_.1
          replace M186 : Mem _ _ ([(p4, _)] :: [(p9, _)] :: [(p1, _)] :: []) _ := M186
          refine WS.op rfl rfl ?_
          refine WS.st1 (M186.focus 1 rfl) [_] [_, _, _, _, _, _, _, _, _, _, _, _] rfl rfl rfl rfl rfl (Nat.le_of_ble_eq_true rfl) (Nat.le_of_ble_eq_true rfl) rfl rfl ?_
          intro h187 M188
          replace M188 : Mem _ _ ([(p9, _)] :: [(p4, _)] :: [(p1, _)] :: []) _ := M188
          refine WS.nil [(2, _), (4, _), (5, _)] rfl ?_
          refine WC.seq ?_
          refine WC.seq ?_
          refine WC.run ?_
          refine WS.op rfl rfl (WS.op rfl rfl (WS.op rfl rfl (WS.op rfl (op_ld (M188.at 1 rfl) rfl rfl) ?_)))
          cases hb15 : b185_
          ·
           refine WS.opV (.bool true) rfl rfl rfl (WS.op rfl rfl (WS.off rfl (WS.off rfl (WS.off rfl (WS.off rfl (WS.off rfl (WS.off rfl (WS.op rfl rfl (WS.op rfl rfl ?_)))))))))
           refine WS.off rfl (WS.offC rfl (WS.off rfl (WS.op rfl rfl (WS.nil [(2, _), (5, _), (126, _)] rfl ?_))))
           refine WC.condT rfl ?_
           refine WC.seq ?_
           refine WC.run ?_
           refine WS.opV (.agg #[(.int .u8 (0 : Int)), (.int .u64 (0 : Int)), (.int .u64 (0 : Int)), (.string (bs ([]))), (.string (bs ([]))), (.string (bs ([]))), (.string (bs ([]))), (.string (bs ([]))), (.int .u8 (0 : Int)), (.int .u64 (0 : Int)), (.int .u64 (0 : Int)), (.slice none 0 0)]) rfl rfl rfl ?_
           refine WS.st1 (M188.focus 2 rfl) [_, _, _, _, _, _, _, _, _, _, _, _] [_, _, _, _, _, _, _, _, _, _, _, _] rfl rfl rfl rfl rfl (Nat.le_of_ble_eq_true rfl) (Nat.le_of_ble_eq_true rfl) rfl rfl ?_
           intro h189 M190
           replace M190 : Mem _ _ ([(p1, _)] :: [(p9, _)] :: [(p4, _)] :: []) _ := M190
           refine WS.op rfl rfl (WS.nil [(2, _), (3, _)] rfl ?_)
           refine WC.ret ?_
           refine ⟨[_, _], (res_cellN [_, _, _, _, _, _, _, _, _, _, _, _] rfl (M190.at 0 rfl) (Nat.le_of_ble_eq_true rfl) rfl (res_tmp rfl res_nil)), ?_⟩
           have hno : ∀ c0, MayC c0 → Fit c0 → encC c0 ≠ s := by
             intro c0 hm hf0 he2
             have he := he2.symm
             obtain ⟨a1, a2, a3⟩ := R7_.2.2 c0.op (vb c0.se.toNat ++ (vb c0.sq.toNat ++ bodyB c0)) rfl (by rw [he]; simp [encC, headB])
             obtain ⟨b1, b2, b3⟩ := R14_.2.2 c0.se.toNat _ c0.se.toNat_lt a1 a3
             obtain ⟨d1, d2, d3⟩ := R18_.2.2 c0.sq.toNat _ c0.sq.toNat_lt b1 b3
             obtain ⟨g1, g2, g3, g4, g5, g6, g7⟩ := id hf0
             obtain ⟨p1, p2⟩ := enc_7 (c := c0) (by rw [← a2]; omega)
             rw [p2] at d3
             obtain ⟨z0a, z0b, z0c⟩ := R185_.2.2 c0.le.toNat ([]) (UInt64.toNat_lt _) d1 (by first | (rw [d3]; done) | (rw [d3]; simp))
             have eqc : (⟨m7_, m14_, m18_, ([]), ([]), ([]), ([]), ([]), 0, m185_, 0, []⟩ : Cmd) = c0 := by (rw [hm.2.1, p1]; simp only [blank]; rw [a2, u64_inj b2, u64_inj d2, u64_inj z0b])
             first
             | (cases z0a; done)
             | exact Bool.noConfusion (z0a.symm.trans (show b185_ = false by assumption))
             | (have q := congrArg List.length z0c; simp only [List.length_nil] at q; omega)
             | exact absurd (show mayB (⟨m7_, m14_, m18_, ([]), ([]), ([]), ([]), ([]), 0, m185_, 0, []⟩ : Cmd) = true by rw [eqc]; exact decide_eq_true hm) (by rw [show mayB (⟨m7_, m14_, m18_, ([]), ([]), ([]), ([]), ([]), 0, m185_, 0, []⟩ : Cmd) = false by assumption]; decide)
           exact ⟨zeroC, .slice none 0 0, [], false, .nil, rfl, fit0, rdC_no hno, (M190.bare.take 0).nils⟩
          ·
           refine WS.opV (.bool false) rfl rfl rfl (WS.op rfl rfl (WS.op rfl rfl (WS.op rfl rfl (WS.op rfl rfl (WS.op rfl (op_ld (M188.at 1 rfl) rfl rfl) (WS.op rfl (op_lenS (l := s185_) rfl) ?_))))))
           refine WS.gtrN (a := (s185_).length) (b := 0) rfl rfl rfl (fun e120 => ?_) (fun e120 => ?_)
           ·
            refine WS.op rfl rfl (WS.op rfl rfl (WS.off rfl (WS.offC rfl (WS.off rfl (WS.op rfl rfl (WS.nil [(2, _), (5, _), (126, _)] rfl ?_))))))
            refine WC.condT rfl ?_
            refine WC.seq ?_
            refine WC.run ?_
            refine WS.opV (.agg #[(.int .u8 (0 : Int)), (.int .u64 (0 : Int)), (.int .u64 (0 : Int)), (.string (bs ([]))), (.string (bs ([]))), (.string (bs ([]))), (.string (bs ([]))), (.string (bs ([]))), (.int .u8 (0 : Int)), (.int .u64 (0 : Int)), (.int .u64 (0 : Int)), (.slice none 0 0)]) rfl rfl rfl ?_
            refine WS.st1 (M188.focus 2 rfl) [_, _, _, _, _, _, _, _, _, _, _, _] [_, _, _, _, _, _, _, _, _, _, _, _] rfl rfl rfl rfl rfl (Nat.le_of_ble_eq_true rfl) (Nat.le_of_ble_eq_true rfl) rfl rfl ?_
            intro h191 M192
            replace M192 : Mem _ _ ([(p1, _)] :: [(p9, _)] :: [(p4, _)] :: []) _ := M192
            refine WS.op rfl rfl (WS.nil [(2, _), (3, _)] rfl ?_)
            refine WC.ret ?_
            refine ⟨[_, _], (res_cellN [_, _, _, _, _, _, _, _, _, _, _, _] rfl (M192.at 0 rfl) (Nat.le_of_ble_eq_true rfl) rfl (res_tmp rfl res_nil)), ?_⟩
            have hno : ∀ c0, MayC c0 → Fit c0 → encC c0 ≠ s := by
              intro c0 hm hf0 he2
              have he := he2.symm
              obtain ⟨a1, a2, a3⟩ := R7_.2.2 c0.op (vb c0.se.toNat ++ (vb c0.sq.toNat ++ bodyB c0)) rfl (by rw [he]; simp [encC, headB])
              obtain ⟨b1, b2, b3⟩ := R14_.2.2 c0.se.toNat _ c0.se.toNat_lt a1 a3
              obtain ⟨d1, d2, d3⟩ := R18_.2.2 c0.sq.toNat _ c0.sq.toNat_lt b1 b3
              obtain ⟨g1, g2, g3, g4, g5, g6, g7⟩ := id hf0
              obtain ⟨p1, p2⟩ := enc_7 (c := c0) (by rw [← a2]; omega)
              rw [p2] at d3
              obtain ⟨z0a, z0b, z0c⟩ := R185_.2.2 c0.le.toNat ([]) (UInt64.toNat_lt _) d1 (by first | (rw [d3]; done) | (rw [d3]; simp))
              have eqc : (⟨m7_, m14_, m18_, ([]), ([]), ([]), ([]), ([]), 0, m185_, 0, []⟩ : Cmd) = c0 := by (rw [hm.2.1, p1]; simp only [blank]; rw [a2, u64_inj b2, u64_inj d2, u64_inj z0b])
              first
              | (cases z0a; done)
              | exact Bool.noConfusion (z0a.symm.trans (show b185_ = false by assumption))
              | (have q := congrArg List.length z0c; simp only [List.length_nil] at q; omega)
              | exact absurd (show mayB (⟨m7_, m14_, m18_, ([]), ([]), ([]), ([]), ([]), 0, m185_, 0, []⟩ : Cmd) = true by rw [eqc]; exact decide_eq_true hm) (by rw [show mayB (⟨m7_, m14_, m18_, ([]), ([]), ([]), ([]), ([]), 0, m185_, 0, []⟩ : Cmd) = false by assumption]; decide)
            exact ⟨zeroC, .slice none 0 0, [], false, .nil, rfl, fit0, rdC_no hno, (M192.bare.take 0).nils⟩
           ·
            refine WS.op rfl rfl (WS.op rfl rfl (WS.op rfl (op_lds [_, _, _, _, _, _, _, _, _, _, _, _] (M188.at 0 rfl) rfl (Nat.le_of_ble_eq_true rfl) rfl) ?_))
            refine WS.call rfl rfl rfl (refMay_ran M188.here (c := (⟨m7_, m14_, m18_, ([]), ([]), ([]), ([]), ([]), 0, m185_, 0, []⟩ : Cmd)) Row.Sl.nil (by unfold Fit; dsimp only; exact ⟨by first | omega | simp, by first | omega | simp, by first | omega | simp, by first | omega | simp, by first | omega | simp, by first | omega | simp, by first | exact hF | (intro p hp; cases hp)⟩)) ?_
            rintro _ h193 ⟨rfl, N194⟩
            have M195 := M188.trans N194
            cases hb16 : (mayB (⟨m7_, m14_, m18_, ([]), ([]), ([]), ([]), ([]), 0, m185_, 0, []⟩ : Cmd))
            ·
             refine WS.opV (.bool true) rfl rfl rfl (WS.op rfl rfl (WS.nil [(2, _), (5, _), (126, _)] rfl ?_))
             refine WC.condT rfl ?_
             refine WC.seq ?_
             refine WC.run ?_
             refine WS.opV (.agg #[(.int .u8 (0 : Int)), (.int .u64 (0 : Int)), (.int .u64 (0 : Int)), (.string (bs ([]))), (.string (bs ([]))), (.string (bs ([]))), (.string (bs ([]))), (.string (bs ([]))), (.int .u8 (0 : Int)), (.int .u64 (0 : Int)), (.int .u64 (0 : Int)), (.slice none 0 0)]) rfl rfl rfl ?_
             refine WS.st1 (M195.focus 2 rfl) [_, _, _, _, _, _, _, _, _, _, _, _] [_, _, _, _, _, _, _, _, _, _, _, _] rfl rfl rfl rfl rfl (Nat.le_of_ble_eq_true rfl) (Nat.le_of_ble_eq_true rfl) rfl rfl ?_
             intro h196 M197
             replace M197 : Mem _ _ ([(p1, _)] :: [(p9, _)] :: [(p4, _)] :: []) _ := M197
             refine WS.op rfl rfl (WS.nil [(2, _), (3, _)] rfl ?_)
             refine WC.ret ?_
             refine ⟨[_, _], (res_cellN [_, _, _, _, _, _, _, _, _, _, _, _] rfl (M197.at 0 rfl) (Nat.le_of_ble_eq_true rfl) rfl (res_tmp rfl res_nil)), ?_⟩
             have hno : ∀ c0, MayC c0 → Fit c0 → encC c0 ≠ s := by
               intro c0 hm hf0 he2
               have he := he2.symm
               obtain ⟨a1, a2, a3⟩ := R7_.2.2 c0.op (vb c0.se.toNat ++ (vb c0.sq.toNat ++ bodyB c0)) rfl (by rw [he]; simp [encC, headB])
               obtain ⟨b1, b2, b3⟩ := R14_.2.2 c0.se.toNat _ c0.se.toNat_lt a1 a3
               obtain ⟨d1, d2, d3⟩ := R18_.2.2 c0.sq.toNat _ c0.sq.toNat_lt b1 b3
               obtain ⟨g1, g2, g3, g4, g5, g6, g7⟩ := id hf0
               obtain ⟨p1, p2⟩ := enc_7 (c := c0) (by rw [← a2]; omega)
               rw [p2] at d3
               obtain ⟨z0a, z0b, z0c⟩ := R185_.2.2 c0.le.toNat ([]) (UInt64.toNat_lt _) d1 (by first | (rw [d3]; done) | (rw [d3]; simp))
               have eqc : (⟨m7_, m14_, m18_, ([]), ([]), ([]), ([]), ([]), 0, m185_, 0, []⟩ : Cmd) = c0 := by (rw [hm.2.1, p1]; simp only [blank]; rw [a2, u64_inj b2, u64_inj d2, u64_inj z0b])
               first
               | (cases z0a; done)
               | exact Bool.noConfusion (z0a.symm.trans (show b185_ = false by assumption))
               | (have q := congrArg List.length z0c; simp only [List.length_nil] at q; omega)
               | exact absurd (show mayB (⟨m7_, m14_, m18_, ([]), ([]), ([]), ([]), ([]), 0, m185_, 0, []⟩ : Cmd) = true by rw [eqc]; exact decide_eq_true hm) (by rw [show mayB (⟨m7_, m14_, m18_, ([]), ([]), ([]), ([]), ([]), 0, m185_, 0, []⟩ : Cmd) = false by assumption]; decide)
             exact ⟨zeroC, .slice none 0 0, [], false, .nil, rfl, fit0, rdC_no hno, (M197.bare.take 0).nils⟩
            ·
             refine WS.opV (.bool false) rfl rfl rfl (WS.op rfl rfl (WS.nil [(2, _), (5, _), (126, _)] rfl ?_))
             refine WC.condF rfl ?_
             refine WC.skip ?_
             refine WC.seq ?_
             refine WC.run ?_
             refine WS.op rfl (op_lds [_, _, _, _, _, _, _, _, _, _, _, _] (M195.at 0 rfl) rfl (Nat.le_of_ble_eq_true rfl) rfl) ?_
             refine WS.st1 (M195.focus 2 rfl) [_, _, _, _, _, _, _, _, _, _, _, _] [_, _, _, _, _, _, _, _, _, _, _, _] rfl rfl rfl rfl rfl (Nat.le_of_ble_eq_true rfl) (Nat.le_of_ble_eq_true rfl) rfl rfl ?_
             intro h198 M199
             replace M199 : Mem _ _ ([(p1, _)] :: [(p9, _)] :: [(p4, _)] :: []) _ := M199
             refine WS.op rfl rfl (WS.nil [(2, _), (3, _)] rfl ?_)
             refine WC.ret ?_
             refine ⟨[_, _], (res_cellN [_, _, _, _, _, _, _, _, _, _, _, _] rfl (M199.at 0 rfl) (Nat.le_of_ble_eq_true rfl) rfl (res_tmp rfl res_nil)), ?_⟩
             have hs0 : s185_ = [] := List.eq_nil_of_length_eq_zero (by omega)
             have hm : MayC (⟨m7_, m14_, m18_, ([]), ([]), ([]), ([]), ([]), 0, m185_, 0, []⟩ : Cmd) := of_decide_eq_true (p := MayC (⟨m7_, m14_, m18_, ([]), ([]), ([]), ([]), ([]), 0, m185_, 0, []⟩ : Cmd)) (by assumption)
             obtain ⟨y3, e3'⟩ := R185_.2.1 (show b185_ = true by first | assumption | rfl)
             obtain ⟨y2, e2'⟩ := R18_.2.1 y3
             obtain ⟨y1, e1'⟩ := R14_.2.1 y2
             obtain ⟨y0, e0'⟩ := R7_.2.1 y1
             obtain ⟨p1, p2⟩ := enc_7 (c := (⟨m7_, m14_, m18_, ([]), ([]), ([]), ([]), ([]), 0, m185_, 0, []⟩ : Cmd)) (by dsimp only; omega)
             have henc : encC (⟨m7_, m14_, m18_, ([]), ([]), ([]), ([]), ([]), 0, m185_, 0, []⟩ : Cmd) = s := by
               unfold encC
               rw [p2]
               unfold headB
               dsimp only
               rw [e0', e1', e2', e3', hs0]
               simp
             exact ⟨(⟨m7_, m14_, m18_, ([]), ([]), ([]), ([]), ([]), 0, m185_, 0, []⟩ : Cmd), _, _, true, .nil, rfl, (by unfold Fit; dsimp only; exact ⟨by first | omega | simp, by first | omega | simp, by first | omega | simp, by first | omega | simp, by first | omega | simp, by first | omega | simp, by first | exact hF | (intro p hp; cases hp)⟩), ⟨fun _ => ⟨hm, henc⟩, fun q => nomatch q⟩, (M199.bare.take 0).nils⟩
         ·
          refine WS.op rfl rfl (WS.nil [(2, _), (4, _), (5, _), (23, _), (92, _)] rfl ?_)
          refine WC.condF rfl ?_
          refine WC.seq ?_
          refine WC.run ?_
          refine WS.eqlN (a := (m7_).toNat) (b := 9) rfl rfl rfl (fun e98 => ?_) (fun e98 => ?_)
          ·
           refine WS.op rfl rfl (WS.nil [(2, _), (4, _), (5, _), (97, _)] rfl ?_)
           refine WC.condT rfl ?_
           refine WC.seq ?_
           refine WC.run ?_
           refine WS.op rfl rfl ?_
           refine WS.call rfl rfl rfl (tk_text_ran (s := s18_) (w := b18_) (M21.focus 1 rfl) (by omega)) ?_
           rintro _ h200 ⟨s200_, b200_, m200_, rfl, M201, R200_⟩
           have R200_l := R200_.1
           have R200_t := R200_.2.1
           replace M201 : Mem _ _ ([(p4, _)] :: [(p9, _)] :: [(p1, _)] :: []) _ := M201
           refine WS.op rfl rfl ?_
           refine WS.st1 (M201.focus 1 rfl) [_] [_, _, _, _, _, _, _, _, _, _, _, _] rfl rfl rfl rfl rfl (Nat.le_of_ble_eq_true rfl) (Nat.le_of_ble_eq_true rfl) rfl rfl ?_
           intro h202 M203
           replace M203 : Mem _ _ ([(p9, _)] :: [(p4, _)] :: [(p1, _)] :: []) _ := M203
           refine WS.nil [(2, _), (4, _), (5, _)] rfl ?_
           refine WC.seq ?_
           refine WC.run ?_
           refine WS.op rfl rfl ?_
           refine WS.call rfl rfl rfl (tk_text_ran (s := s200_) (w := b200_) (M203.focus 1 rfl) (by omega)) ?_
           rintro _ h204 ⟨s204_, b204_, m204_, rfl, M205, R204_⟩
           have R204_l := R204_.1
           have R204_t := R204_.2.1
           replace M205 : Mem _ _ ([(p4, _)] :: [(p9, _)] :: [(p1, _)] :: []) _ := M205
           refine WS.op rfl rfl ?_
           refine WS.st1 (M205.focus 1 rfl) [_] [_, _, _, _, _, _, _, _, _, _, _, _] rfl rfl rfl rfl rfl (Nat.le_of_ble_eq_true rfl) (Nat.le_of_ble_eq_true rfl) rfl rfl ?_
           intro h206 M207
           replace M207 : Mem _ _ ([(p9, _)] :: [(p4, _)] :: [(p1, _)] :: []) _ := M207
           refine WS.nil [(2, _), (4, _), (5, _)] rfl ?_
           refine WC.run ?_
           refine WS.op rfl rfl ?_
           refine WS.call rfl rfl rfl (tk_byte_ran (s := s204_) (w := b204_) (M207.focus 1 rfl) (by omega)) ?_
           rintro _ h208 ⟨s208_, b208_, m208_, rfl, M209, R208_⟩
           have R208_l := R208_.1
           replace M209 : Mem _ _ ([(p4, _)] :: [(p9, _)] :: [(p1, _)] :: []) _ := M209
           refine WS.opV (.int .u8 (((m208_).toNat : Nat) : Int)) rfl rfl (cv_u8 (n := (m208_).toNat) (by have := UInt8.toNat_lt (m208_); omega)) (WS.op rfl rfl ?_)
           refine WS.st1 (M209.focus 1 rfl) [_] [_, _, _, _, _, _, _, _, _, _, _, _] rfl rfl rfl rfl rfl (Nat.le_of_ble_eq_true rfl) (Nat.le_of_ble_eq_true rfl) rfl rfl ?_
           intro h210 M211
           replace M211 : Mem _ _ ([(p9, _)] :: [(p4, _)] :: [(p1, _)] :: []) _ := M211
           refine WS.nil [(2, _), (4, _), (5, _)] rfl ?_
           refine WC.seq ?_
           refine WC.seq ?_
           refine WC.run ?_
           refine WS.op rfl rfl (WS.op rfl rfl (WS.op rfl rfl (WS.op rfl (op_ld (M211.at 1 rfl) rfl rfl) ?_)))
           cases hb17 : b208_
           ·
            refine WS.opV (.bool true) rfl rfl rfl (WS.op rfl rfl (WS.off rfl (WS.off rfl (WS.off rfl (WS.off rfl (WS.off rfl (WS.off rfl (WS.op rfl rfl (WS.op rfl rfl ?_)))))))))
            refine WS.off rfl (WS.offC rfl (WS.off rfl (WS.op rfl rfl (WS.nil [(2, _), (5, _), (126, _)] rfl ?_))))
            refine WC.condT rfl ?_
            refine WC.seq ?_
            refine WC.run ?_
            refine WS.opV (.agg #[(.int .u8 (0 : Int)), (.int .u64 (0 : Int)), (.int .u64 (0 : Int)), (.string (bs ([]))), (.string (bs ([]))), (.string (bs ([]))), (.string (bs ([]))), (.string (bs ([]))), (.int .u8 (0 : Int)), (.int .u64 (0 : Int)), (.int .u64 (0 : Int)), (.slice none 0 0)]) rfl rfl rfl ?_
            refine WS.st1 (M211.focus 2 rfl) [_, _, _, _, _, _, _, _, _, _, _, _] [_, _, _, _, _, _, _, _, _, _, _, _] rfl rfl rfl rfl rfl (Nat.le_of_ble_eq_true rfl) (Nat.le_of_ble_eq_true rfl) rfl rfl ?_
            intro h212 M213
            replace M213 : Mem _ _ ([(p1, _)] :: [(p9, _)] :: [(p4, _)] :: []) _ := M213
            refine WS.op rfl rfl (WS.nil [(2, _), (3, _)] rfl ?_)
            refine WC.ret ?_
            refine ⟨[_, _], (res_cellN [_, _, _, _, _, _, _, _, _, _, _, _] rfl (M213.at 0 rfl) (Nat.le_of_ble_eq_true rfl) rfl (res_tmp rfl res_nil)), ?_⟩
            have hno : ∀ c0, MayC c0 → Fit c0 → encC c0 ≠ s := by
              intro c0 hm hf0 he2
              have he := he2.symm
              obtain ⟨a1, a2, a3⟩ := R7_.2.2 c0.op (vb c0.se.toNat ++ (vb c0.sq.toNat ++ bodyB c0)) rfl (by rw [he]; simp [encC, headB])
              obtain ⟨b1, b2, b3⟩ := R14_.2.2 c0.se.toNat _ c0.se.toNat_lt a1 a3
              obtain ⟨d1, d2, d3⟩ := R18_.2.2 c0.sq.toNat _ c0.sq.toNat_lt b1 b3
              obtain ⟨g1, g2, g3, g4, g5, g6, g7⟩ := id hf0
              obtain ⟨p1, p2⟩ := enc_9 (c := c0) (by rw [← a2]; omega)
              rw [p2] at d3
              obtain ⟨z0a, z0b, z0c⟩ := R200_.2.2.2 c0.fr (sb c0.to ++ [c0.li]) (by omega) d1 (by first | (rw [d3]; done) | (rw [d3]; simp))
              obtain ⟨z1a, z1b, z1c⟩ := R204_.2.2.2 c0.to ([c0.li]) (by omega) z0a (by first | (rw [z0c]; done) | (rw [z0c]; simp))
              obtain ⟨z2a, z2b, z2c⟩ := R208_.2.2 c0.li ([]) z1a (by first | (rw [z1c]; done) | (rw [z1c]; simp))
              have eqc : (⟨m7_, m14_, m18_, ([]), ([]), ([]), m200_, m204_, m208_, 0, 0, []⟩ : Cmd) = c0 := by (rw [hm.2.1, p1]; simp only [blank]; rw [a2, u64_inj b2, u64_inj d2, z0b, z1b, z2b])
              first
              | (cases z2a; done)
              | exact Bool.noConfusion (z2a.symm.trans (show b208_ = false by assumption))
              | (have q := congrArg List.length z2c; simp only [List.length_nil] at q; omega)
              | exact absurd (show mayB (⟨m7_, m14_, m18_, ([]), ([]), ([]), m200_, m204_, m208_, 0, 0, []⟩ : Cmd) = true by rw [eqc]; exact decide_eq_true hm) (by rw [show mayB (⟨m7_, m14_, m18_, ([]), ([]), ([]), m200_, m204_, m208_, 0, 0, []⟩ : Cmd) = false by assumption]; decide)
            exact ⟨zeroC, .slice none 0 0, [], false, .nil, rfl, fit0, rdC_no hno, (M213.bare.take 0).nils⟩
           ·
            refine WS.opV (.bool false) rfl rfl rfl (WS.op rfl rfl (WS.op rfl rfl (WS.op rfl rfl (WS.op rfl rfl (WS.op rfl (op_ld (M211.at 1 rfl) rfl rfl) (WS.op rfl (op_lenS (l := s208_) rfl) ?_))))))
            refine WS.gtrN (a := (s208_).length) (b := 0) rfl rfl rfl (fun e120 => ?_) (fun e120 => ?_)
            ·
             refine WS.op rfl rfl (WS.op rfl rfl (WS.off rfl (WS.offC rfl (WS.off rfl (WS.op rfl rfl (WS.nil [(2, _), (5, _), (126, _)] rfl ?_))))))
             refine WC.condT rfl ?_
             refine WC.seq ?_
             refine WC.run ?_
             refine WS.opV (.agg #[(.int .u8 (0 : Int)), (.int .u64 (0 : Int)), (.int .u64 (0 : Int)), (.string (bs ([]))), (.string (bs ([]))), (.string (bs ([]))), (.string (bs ([]))), (.string (bs ([]))), (.int .u8 (0 : Int)), (.int .u64 (0 : Int)), (.int .u64 (0 : Int)), (.slice none 0 0)]) rfl rfl rfl ?_
             refine WS.st1 (M211.focus 2 rfl) [_, _, _, _, _, _, _, _, _, _, _, _] [_, _, _, _, _, _, _, _, _, _, _, _] rfl rfl rfl rfl rfl (Nat.le_of_ble_eq_true rfl) (Nat.le_of_ble_eq_true rfl) rfl rfl ?_
             intro h214 M215
             replace M215 : Mem _ _ ([(p1, _)] :: [(p9, _)] :: [(p4, _)] :: []) _ := M215
             refine WS.op rfl rfl (WS.nil [(2, _), (3, _)] rfl ?_)
             refine WC.ret ?_
             refine ⟨[_, _], (res_cellN [_, _, _, _, _, _, _, _, _, _, _, _] rfl (M215.at 0 rfl) (Nat.le_of_ble_eq_true rfl) rfl (res_tmp rfl res_nil)), ?_⟩
             have hno : ∀ c0, MayC c0 → Fit c0 → encC c0 ≠ s := by
               intro c0 hm hf0 he2
               have he := he2.symm
               obtain ⟨a1, a2, a3⟩ := R7_.2.2 c0.op (vb c0.se.toNat ++ (vb c0.sq.toNat ++ bodyB c0)) rfl (by rw [he]; simp [encC, headB])
               obtain ⟨b1, b2, b3⟩ := R14_.2.2 c0.se.toNat _ c0.se.toNat_lt a1 a3
               obtain ⟨d1, d2, d3⟩ := R18_.2.2 c0.sq.toNat _ c0.sq.toNat_lt b1 b3
               obtain ⟨g1, g2, g3, g4, g5, g6, g7⟩ := id hf0
               obtain ⟨p1, p2⟩ := enc_9 (c := c0) (by rw [← a2]; omega)
               rw [p2] at d3
               obtain ⟨z0a, z0b, z0c⟩ := R200_.2.2.2 c0.fr (sb c0.to ++ [c0.li]) (by omega) d1 (by first | (rw [d3]; done) | (rw [d3]; simp))
               obtain ⟨z1a, z1b, z1c⟩ := R204_.2.2.2 c0.to ([c0.li]) (by omega) z0a (by first | (rw [z0c]; done) | (rw [z0c]; simp))
               obtain ⟨z2a, z2b, z2c⟩ := R208_.2.2 c0.li ([]) z1a (by first | (rw [z1c]; done) | (rw [z1c]; simp))
               have eqc : (⟨m7_, m14_, m18_, ([]), ([]), ([]), m200_, m204_, m208_, 0, 0, []⟩ : Cmd) = c0 := by (rw [hm.2.1, p1]; simp only [blank]; rw [a2, u64_inj b2, u64_inj d2, z0b, z1b, z2b])
               first
               | (cases z2a; done)
               | exact Bool.noConfusion (z2a.symm.trans (show b208_ = false by assumption))
               | (have q := congrArg List.length z2c; simp only [List.length_nil] at q; omega)
               | exact absurd (show mayB (⟨m7_, m14_, m18_, ([]), ([]), ([]), m200_, m204_, m208_, 0, 0, []⟩ : Cmd) = true by rw [eqc]; exact decide_eq_true hm) (by rw [show mayB (⟨m7_, m14_, m18_, ([]), ([]), ([]), m200_, m204_, m208_, 0, 0, []⟩ : Cmd) = false by assumption]; decide)
             exact ⟨zeroC, .slice none 0 0, [], false, .nil, rfl, fit0, rdC_no hno, (M215.bare.take 0).nils⟩
            ·
             refine WS.op rfl rfl (WS.op rfl rfl (WS.op rfl (op_lds [_, _, _, _, _, _, _, _, _, _, _, _] (M211.at 0 rfl) rfl (Nat.le_of_ble_eq_true rfl) rfl) ?_))
             refine WS.call rfl rfl rfl (refMay_ran M211.here (c := (⟨m7_, m14_, m18_, ([]), ([]), ([]), m200_, m204_, m208_, 0, 0, []⟩ : Cmd)) Row.Sl.nil (by unfold Fit; dsimp only; exact ⟨by first | omega | simp, by first | omega | simp, by first | omega | simp, by first | omega | simp, by first | omega | simp, by first | omega | simp, by first | exact hF | (intro p hp; cases hp)⟩)) ?_
             rintro _ h216 ⟨rfl, N217⟩
             have M218 := M211.trans N217
             cases hb18 : (mayB (⟨m7_, m14_, m18_, ([]), ([]), ([]), m200_, m204_, m208_, 0, 0, []⟩ : Cmd))
             ·
              refine WS.opV (.bool true) rfl rfl rfl (WS.op rfl rfl (WS.nil [(2, _), (5, _), (126, _)] rfl ?_))
              refine WC.condT rfl ?_
              refine WC.seq ?_
              refine WC.run ?_
              refine WS.opV (.agg #[(.int .u8 (0 : Int)), (.int .u64 (0 : Int)), (.int .u64 (0 : Int)), (.string (bs ([]))), (.string (bs ([]))), (.string (bs ([]))), (.string (bs ([]))), (.string (bs ([]))), (.int .u8 (0 : Int)), (.int .u64 (0 : Int)), (.int .u64 (0 : Int)), (.slice none 0 0)]) rfl rfl rfl ?_
              refine WS.st1 (M218.focus 2 rfl) [_, _, _, _, _, _, _, _, _, _, _, _] [_, _, _, _, _, _, _, _, _, _, _, _] rfl rfl rfl rfl rfl (Nat.le_of_ble_eq_true rfl) (Nat.le_of_ble_eq_true rfl) rfl rfl ?_
              intro h219 M220
              replace M220 : Mem _ _ ([(p1, _)] :: [(p9, _)] :: [(p4, _)] :: []) _ := M220
              refine WS.op rfl rfl (WS.nil [(2, _), (3, _)] rfl ?_)
              refine WC.ret ?_
              refine ⟨[_, _], (res_cellN [_, _, _, _, _, _, _, _, _, _, _, _] rfl (M220.at 0 rfl) (Nat.le_of_ble_eq_true rfl) rfl (res_tmp rfl res_nil)), ?_⟩
              have hno : ∀ c0, MayC c0 → Fit c0 → encC c0 ≠ s := by
                intro c0 hm hf0 he2
                have he := he2.symm
                obtain ⟨a1, a2, a3⟩ := R7_.2.2 c0.op (vb c0.se.toNat ++ (vb c0.sq.toNat ++ bodyB c0)) rfl (by rw [he]; simp [encC, headB])
                obtain ⟨b1, b2, b3⟩ := R14_.2.2 c0.se.toNat _ c0.se.toNat_lt a1 a3
                obtain ⟨d1, d2, d3⟩ := R18_.2.2 c0.sq.toNat _ c0.sq.toNat_lt b1 b3
                obtain ⟨g1, g2, g3, g4, g5, g6, g7⟩ := id hf0
                obtain ⟨p1, p2⟩ := enc_9 (c := c0) (by rw [← a2]; omega)
                rw [p2] at d3
                obtain ⟨z0a, z0b, z0c⟩ := R200_.2.2.2 c0.fr (sb c0.to ++ [c0.li]) (by omega) d1 (by first | (rw [d3]; done) | (rw [d3]; simp))
                obtain ⟨z1a, z1b, z1c⟩ := R204_.2.2.2 c0.to ([c0.li]) (by omega) z0a (by first | (rw [z0c]; done) | (rw [z0c]; simp))
                obtain ⟨z2a, z2b, z2c⟩ := R208_.2.2 c0.li ([]) z1a (by first | (rw [z1c]; done) | (rw [z1c]; simp))
                have eqc : (⟨m7_, m14_, m18_, ([]), ([]), ([]), m200_, m204_, m208_, 0, 0, []⟩ : Cmd) = c0 := by (rw [hm.2.1, p1]; simp only [blank]; rw [a2, u64_inj b2, u64_inj d2, z0b, z1b, z2b])
                first
                | (cases z2a; done)
                | exact Bool.noConfusion (z2a.symm.trans (show b208_ = false by assumption))
                | (have q := congrArg List.length z2c; simp only [List.length_nil] at q; omega)
                | exact absurd (show mayB (⟨m7_, m14_, m18_, ([]), ([]), ([]), m200_, m204_, m208_, 0, 0, []⟩ : Cmd) = true by rw [eqc]; exact decide_eq_true hm) (by rw [show mayB (⟨m7_, m14_, m18_, ([]), ([]), ([]), m200_, m204_, m208_, 0, 0, []⟩ : Cmd) = false by assumption]; decide)
              exact ⟨zeroC, .slice none 0 0, [], false, .nil, rfl, fit0, rdC_no hno, (M220.bare.take 0).nils⟩
             ·
              refine WS.opV (.bool false) rfl rfl rfl (WS.op rfl rfl (WS.nil [(2, _), (5, _), (126, _)] rfl ?_))
              refine WC.condF rfl ?_
              refine WC.skip ?_
              refine WC.seq ?_
              refine WC.run ?_
              refine WS.op rfl (op_lds [_, _, _, _, _, _, _, _, _, _, _, _] (M218.at 0 rfl) rfl (Nat.le_of_ble_eq_true rfl) rfl) ?_
              refine WS.st1 (M218.focus 2 rfl) [_, _, _, _, _, _, _, _, _, _, _, _] [_, _, _, _, _, _, _, _, _, _, _, _] rfl rfl rfl rfl rfl (Nat.le_of_ble_eq_true rfl) (Nat.le_of_ble_eq_true rfl) rfl rfl ?_
              intro h221 M222
              replace M222 : Mem _ _ ([(p1, _)] :: [(p9, _)] :: [(p4, _)] :: []) _ := M222
              refine WS.op rfl rfl (WS.nil [(2, _), (3, _)] rfl ?_)
              refine WC.ret ?_
              refine ⟨[_, _], (res_cellN [_, _, _, _, _, _, _, _, _, _, _, _] rfl (M222.at 0 rfl) (Nat.le_of_ble_eq_true rfl) rfl (res_tmp rfl res_nil)), ?_⟩
              have hs0 : s208_ = [] := List.eq_nil_of_length_eq_zero (by omega)
              have hm : MayC (⟨m7_, m14_, m18_, ([]), ([]), ([]), m200_, m204_, m208_, 0, 0, []⟩ : Cmd) := of_decide_eq_true (p := MayC (⟨m7_, m14_, m18_, ([]), ([]), ([]), m200_, m204_, m208_, 0, 0, []⟩ : Cmd)) (by assumption)
              obtain ⟨y5, e5'⟩ := R208_.2.1 (show b208_ = true by first | assumption | rfl)
              obtain ⟨y4, e4'⟩ := R204_.2.2.1 y5
              obtain ⟨y3, e3'⟩ := R200_.2.2.1 y4
              obtain ⟨y2, e2'⟩ := R18_.2.1 y3
              obtain ⟨y1, e1'⟩ := R14_.2.1 y2
              obtain ⟨y0, e0'⟩ := R7_.2.1 y1
              obtain ⟨p1, p2⟩ := enc_9 (c := (⟨m7_, m14_, m18_, ([]), ([]), ([]), m200_, m204_, m208_, 0, 0, []⟩ : Cmd)) (by dsimp only; omega)
              have henc : encC (⟨m7_, m14_, m18_, ([]), ([]), ([]), m200_, m204_, m208_, 0, 0, []⟩ : Cmd) = s := by
                unfold encC
                rw [p2]
                unfold headB
                dsimp only
                rw [e0', e1', e2', e3', e4', e5', hs0]
                simp
              exact ⟨(⟨m7_, m14_, m18_, ([]), ([]), ([]), m200_, m204_, m208_, 0, 0, []⟩ : Cmd), _, _, true, .nil, rfl, (by unfold Fit; dsimp only; exact ⟨by first | omega | simp, by first | omega | simp, by first | omega | simp, by first | omega | simp, by first | omega | simp, by first | omega | simp, by first | exact hF | (intro p hp; cases hp)⟩), ⟨fun _ => ⟨hm, henc⟩, fun q => nomatch q⟩, (M222.bare.take 0).nils⟩
          ·
           refine WS.op rfl rfl (WS.nil [(2, _), (4, _), (5, _), (97, _)] rfl ?_)
           refine WC.condF rfl ?_
           refine WC.skip ?_
           refine WC.seq ?_
           refine WC.seq ?_
           refine WC.run ?_
           refine WS.op rfl rfl (WS.op rfl rfl (WS.op rfl rfl (WS.op rfl (op_ld (M21.at 1 rfl) rfl rfl) ?_)))
           cases hb19 : b18_
           ·
            refine WS.opV (.bool true) rfl rfl rfl (WS.op rfl rfl (WS.off rfl (WS.off rfl (WS.off rfl (WS.off rfl (WS.off rfl (WS.off rfl (WS.op rfl rfl (WS.op rfl rfl ?_)))))))))
            refine WS.off rfl (WS.offC rfl (WS.off rfl (WS.op rfl rfl (WS.nil [(2, _), (5, _), (126, _)] rfl ?_))))
            refine WC.condT rfl ?_
            refine WC.seq ?_
            refine WC.run ?_
            refine WS.opV (.agg #[(.int .u8 (0 : Int)), (.int .u64 (0 : Int)), (.int .u64 (0 : Int)), (.string (bs ([]))), (.string (bs ([]))), (.string (bs ([]))), (.string (bs ([]))), (.string (bs ([]))), (.int .u8 (0 : Int)), (.int .u64 (0 : Int)), (.int .u64 (0 : Int)), (.slice none 0 0)]) rfl rfl rfl ?_
            refine WS.st1 (M21.focus 2 rfl) [_, _, _, _, _, _, _, _, _, _, _, _] [_, _, _, _, _, _, _, _, _, _, _, _] rfl rfl rfl rfl rfl (Nat.le_of_ble_eq_true rfl) (Nat.le_of_ble_eq_true rfl) rfl rfl ?_
            intro h223 M224
            replace M224 : Mem _ _ ([(p1, _)] :: [(p9, _)] :: [(p4, _)] :: []) _ := M224
            refine WS.op rfl rfl (WS.nil [(2, _), (3, _)] rfl ?_)
            refine WC.ret ?_
            refine ⟨[_, _], (res_cellN [_, _, _, _, _, _, _, _, _, _, _, _] rfl (M224.at 0 rfl) (Nat.le_of_ble_eq_true rfl) rfl (res_tmp rfl res_nil)), ?_⟩
            have hno : ∀ c0, MayC c0 → Fit c0 → encC c0 ≠ s := by
              intro c0 hm hf0 he2
              have he := he2.symm
              obtain ⟨a1, a2, a3⟩ := R7_.2.2 c0.op (vb c0.se.toNat ++ (vb c0.sq.toNat ++ bodyB c0)) rfl (by rw [he]; simp [encC, headB])
              obtain ⟨b1, b2, b3⟩ := R14_.2.2 c0.se.toNat _ c0.se.toNat_lt a1 a3
              obtain ⟨d1, d2, d3⟩ := R18_.2.2 c0.sq.toNat _ c0.sq.toNat_lt b1 b3
              obtain ⟨g1, g2, g3, g4, g5, g6, g7⟩ := id hf0
              obtain ⟨p1, p2⟩ := enc_0 (c := c0) (by rw [← a2]; omega)
              rw [p2] at d3
              have eqc : (⟨m7_, m14_, m18_, ([]), ([]), ([]), ([]), ([]), 0, 0, 0, []⟩ : Cmd) = c0 := by (rw [hm.2.1, p1]; simp only [blank]; rw [a2, u64_inj b2, u64_inj d2])
              first
              | (cases d1; done)
              | exact Bool.noConfusion (d1.symm.trans (show b18_ = false by assumption))
              | (have q := congrArg List.length d3; simp only [List.length_nil] at q; omega)
              | exact absurd (show mayB (⟨m7_, m14_, m18_, ([]), ([]), ([]), ([]), ([]), 0, 0, 0, []⟩ : Cmd) = true by rw [eqc]; exact decide_eq_true hm) (by rw [show mayB (⟨m7_, m14_, m18_, ([]), ([]), ([]), ([]), ([]), 0, 0, 0, []⟩ : Cmd) = false by assumption]; decide)
            exact ⟨zeroC, .slice none 0 0, [], false, .nil, rfl, fit0, rdC_no hno, (M224.bare.take 0).nils⟩
           ·
            refine WS.opV (.bool false) rfl rfl rfl (WS.op rfl rfl (WS.op rfl rfl (WS.op rfl rfl (WS.op rfl rfl (WS.op rfl (op_ld (M21.at 1 rfl) rfl rfl) (WS.op rfl (op_lenS (l := s18_) rfl) ?_))))))
            refine WS.gtrN (a := (s18_).length) (b := 0) rfl rfl rfl (fun e120 => ?_) (fun e120 => ?_)
            ·
             refine WS.op rfl rfl (WS.op rfl rfl (WS.off rfl (WS.offC rfl (WS.off rfl (WS.op rfl rfl (WS.nil [(2, _), (5, _), (126, _)] rfl ?_))))))
             refine WC.condT rfl ?_
             refine WC.seq ?_
             refine WC.run ?_
             refine WS.opV (.agg #[(.int .u8 (0 : Int)), (.int .u64 (0 : Int)), (.int .u64 (0 : Int)), (.string (bs ([]))), (.string (bs ([]))), (.string (bs ([]))), (.string (bs ([]))), (.string (bs ([]))), (.int .u8 (0 : Int)), (.int .u64 (0 : Int)), (.int .u64 (0 : Int)), (.slice none 0 0)]) rfl rfl rfl ?_
             refine WS.st1 (M21.focus 2 rfl) [_, _, _, _, _, _, _, _, _, _, _, _] [_, _, _, _, _, _, _, _, _, _, _, _] rfl rfl rfl rfl rfl (Nat.le_of_ble_eq_true rfl) (Nat.le_of_ble_eq_true rfl) rfl rfl ?_
             intro h225 M226
             replace M226 : Mem _ _ ([(p1, _)] :: [(p9, _)] :: [(p4, _)] :: []) _ := M226
             refine WS.op rfl rfl (WS.nil [(2, _), (3, _)] rfl ?_)
             refine WC.ret ?_
             refine ⟨[_, _], (res_cellN [_, _, _, _, _, _, _, _, _, _, _, _] rfl (M226.at 0 rfl) (Nat.le_of_ble_eq_true rfl) rfl (res_tmp rfl res_nil)), ?_⟩
             have hno : ∀ c0, MayC c0 → Fit c0 → encC c0 ≠ s := by
               intro c0 hm hf0 he2
               have he := he2.symm
               obtain ⟨a1, a2, a3⟩ := R7_.2.2 c0.op (vb c0.se.toNat ++ (vb c0.sq.toNat ++ bodyB c0)) rfl (by rw [he]; simp [encC, headB])
               obtain ⟨b1, b2, b3⟩ := R14_.2.2 c0.se.toNat _ c0.se.toNat_lt a1 a3
               obtain ⟨d1, d2, d3⟩ := R18_.2.2 c0.sq.toNat _ c0.sq.toNat_lt b1 b3
               obtain ⟨g1, g2, g3, g4, g5, g6, g7⟩ := id hf0
               obtain ⟨p1, p2⟩ := enc_0 (c := c0) (by rw [← a2]; omega)
               rw [p2] at d3
               have eqc : (⟨m7_, m14_, m18_, ([]), ([]), ([]), ([]), ([]), 0, 0, 0, []⟩ : Cmd) = c0 := by (rw [hm.2.1, p1]; simp only [blank]; rw [a2, u64_inj b2, u64_inj d2])
               first
               | (cases d1; done)
               | exact Bool.noConfusion (d1.symm.trans (show b18_ = false by assumption))
               | (have q := congrArg List.length d3; simp only [List.length_nil] at q; omega)
               | exact absurd (show mayB (⟨m7_, m14_, m18_, ([]), ([]), ([]), ([]), ([]), 0, 0, 0, []⟩ : Cmd) = true by rw [eqc]; exact decide_eq_true hm) (by rw [show mayB (⟨m7_, m14_, m18_, ([]), ([]), ([]), ([]), ([]), 0, 0, 0, []⟩ : Cmd) = false by assumption]; decide)
             exact ⟨zeroC, .slice none 0 0, [], false, .nil, rfl, fit0, rdC_no hno, (M226.bare.take 0).nils⟩
            ·
             refine WS.op rfl rfl (WS.op rfl rfl (WS.op rfl (op_lds [_, _, _, _, _, _, _, _, _, _, _, _] (M21.at 0 rfl) rfl (Nat.le_of_ble_eq_true rfl) rfl) ?_))
             refine WS.call rfl rfl rfl (refMay_ran M21.here (c := (⟨m7_, m14_, m18_, ([]), ([]), ([]), ([]), ([]), 0, 0, 0, []⟩ : Cmd)) Row.Sl.nil (by unfold Fit; dsimp only; exact ⟨by first | omega | simp, by first | omega | simp, by first | omega | simp, by first | omega | simp, by first | omega | simp, by first | omega | simp, by first | exact hF | (intro p hp; cases hp)⟩)) ?_
             rintro _ h227 ⟨rfl, N228⟩
             have M229 := M21.trans N228
             cases hb20 : (mayB (⟨m7_, m14_, m18_, ([]), ([]), ([]), ([]), ([]), 0, 0, 0, []⟩ : Cmd))
             ·
              refine WS.opV (.bool true) rfl rfl rfl (WS.op rfl rfl (WS.nil [(2, _), (5, _), (126, _)] rfl ?_))
              refine WC.condT rfl ?_
              refine WC.seq ?_
              refine WC.run ?_
              refine WS.opV (.agg #[(.int .u8 (0 : Int)), (.int .u64 (0 : Int)), (.int .u64 (0 : Int)), (.string (bs ([]))), (.string (bs ([]))), (.string (bs ([]))), (.string (bs ([]))), (.string (bs ([]))), (.int .u8 (0 : Int)), (.int .u64 (0 : Int)), (.int .u64 (0 : Int)), (.slice none 0 0)]) rfl rfl rfl ?_
              refine WS.st1 (M229.focus 2 rfl) [_, _, _, _, _, _, _, _, _, _, _, _] [_, _, _, _, _, _, _, _, _, _, _, _] rfl rfl rfl rfl rfl (Nat.le_of_ble_eq_true rfl) (Nat.le_of_ble_eq_true rfl) rfl rfl ?_
              intro h230 M231
              replace M231 : Mem _ _ ([(p1, _)] :: [(p9, _)] :: [(p4, _)] :: []) _ := M231
              refine WS.op rfl rfl (WS.nil [(2, _), (3, _)] rfl ?_)
              refine WC.ret ?_
              refine ⟨[_, _], (res_cellN [_, _, _, _, _, _, _, _, _, _, _, _] rfl (M231.at 0 rfl) (Nat.le_of_ble_eq_true rfl) rfl (res_tmp rfl res_nil)), ?_⟩
              have hno : ∀ c0, MayC c0 → Fit c0 → encC c0 ≠ s := by
                intro c0 hm hf0 he2
                have he := he2.symm
                obtain ⟨a1, a2, a3⟩ := R7_.2.2 c0.op (vb c0.se.toNat ++ (vb c0.sq.toNat ++ bodyB c0)) rfl (by rw [he]; simp [encC, headB])
                obtain ⟨b1, b2, b3⟩ := R14_.2.2 c0.se.toNat _ c0.se.toNat_lt a1 a3
                obtain ⟨d1, d2, d3⟩ := R18_.2.2 c0.sq.toNat _ c0.sq.toNat_lt b1 b3
                obtain ⟨g1, g2, g3, g4, g5, g6, g7⟩ := id hf0
                obtain ⟨p1, p2⟩ := enc_0 (c := c0) (by rw [← a2]; omega)
                rw [p2] at d3
                have eqc : (⟨m7_, m14_, m18_, ([]), ([]), ([]), ([]), ([]), 0, 0, 0, []⟩ : Cmd) = c0 := by (rw [hm.2.1, p1]; simp only [blank]; rw [a2, u64_inj b2, u64_inj d2])
                first
                | (cases d1; done)
                | exact Bool.noConfusion (d1.symm.trans (show b18_ = false by assumption))
                | (have q := congrArg List.length d3; simp only [List.length_nil] at q; omega)
                | exact absurd (show mayB (⟨m7_, m14_, m18_, ([]), ([]), ([]), ([]), ([]), 0, 0, 0, []⟩ : Cmd) = true by rw [eqc]; exact decide_eq_true hm) (by rw [show mayB (⟨m7_, m14_, m18_, ([]), ([]), ([]), ([]), ([]), 0, 0, 0, []⟩ : Cmd) = false by assumption]; decide)
              exact ⟨zeroC, .slice none 0 0, [], false, .nil, rfl, fit0, rdC_no hno, (M231.bare.take 0).nils⟩
             ·
              refine WS.opV (.bool false) rfl rfl rfl (WS.op rfl rfl (WS.nil [(2, _), (5, _), (126, _)] rfl ?_))
              refine WC.condF rfl ?_
              refine WC.skip ?_
              refine WC.seq ?_
              refine WC.run ?_
              refine WS.op rfl (op_lds [_, _, _, _, _, _, _, _, _, _, _, _] (M229.at 0 rfl) rfl (Nat.le_of_ble_eq_true rfl) rfl) ?_
              refine WS.st1 (M229.focus 2 rfl) [_, _, _, _, _, _, _, _, _, _, _, _] [_, _, _, _, _, _, _, _, _, _, _, _] rfl rfl rfl rfl rfl (Nat.le_of_ble_eq_true rfl) (Nat.le_of_ble_eq_true rfl) rfl rfl ?_
              intro h232 M233
              replace M233 : Mem _ _ ([(p1, _)] :: [(p9, _)] :: [(p4, _)] :: []) _ := M233
              refine WS.op rfl rfl (WS.nil [(2, _), (3, _)] rfl ?_)
              refine WC.ret ?_
              refine ⟨[_, _], (res_cellN [_, _, _, _, _, _, _, _, _, _, _, _] rfl (M233.at 0 rfl) (Nat.le_of_ble_eq_true rfl) rfl (res_tmp rfl res_nil)), ?_⟩
              have hs0 : s18_ = [] := List.eq_nil_of_length_eq_zero (by omega)
              have hm : MayC (⟨m7_, m14_, m18_, ([]), ([]), ([]), ([]), ([]), 0, 0, 0, []⟩ : Cmd) := of_decide_eq_true (p := MayC (⟨m7_, m14_, m18_, ([]), ([]), ([]), ([]), ([]), 0, 0, 0, []⟩ : Cmd)) (by assumption)
              obtain ⟨y2, e2'⟩ := R18_.2.1 (show b18_ = true by first | assumption | rfl)
              obtain ⟨y1, e1'⟩ := R14_.2.1 y2
              obtain ⟨y0, e0'⟩ := R7_.2.1 y1
              obtain ⟨p1, p2⟩ := enc_0 (c := (⟨m7_, m14_, m18_, ([]), ([]), ([]), ([]), ([]), 0, 0, 0, []⟩ : Cmd)) (by dsimp only; omega)
              have henc : encC (⟨m7_, m14_, m18_, ([]), ([]), ([]), ([]), ([]), 0, 0, 0, []⟩ : Cmd) = s := by
                unfold encC
                rw [p2]
                unfold headB
                dsimp only
                rw [e0', e1', e2', hs0]
                simp
              exact ⟨(⟨m7_, m14_, m18_, ([]), ([]), ([]), ([]), ([]), 0, 0, 0, []⟩ : Cmd), _, _, true, .nil, rfl, (by unfold Fit; dsimp only; exact ⟨by first | omega | simp, by first | omega | simp, by first | omega | simp, by first | omega | simp, by first | omega | simp, by first | omega | simp, by first | exact hF | (intro p hp; cases hp)⟩), ⟨fun _ => ⟨hm, henc⟩, fun q => nomatch q⟩, (M233.bare.take 0).nils⟩
set_option maxRecDepth 8000 in
theorem refReadO_ran (W : Mem h h [] []) {s : List UInt8} (hl : s.length ≤ 300000) : Cll tab0 27 [.string (bs s)] h (fun v h2 => ∃ o ok, v = .tuple #[.agg (Oper.cells o).toArray, .bool ok] ∧ RdO s o ok ∧ Mem h h2 [] []) := by
  refine Cll.code rfl rfl ?_
  refine WC.env [(0, _)] rfl ?_
  refine WC.seq ?_
  refine WC.run ?_
  refine WS.new W rfl ?_
  intro p1 h2 M3
  refine WS.op rfl rfl (WS.nil [(0, _), (2, _)] rfl ?_)
  refine WC.seq ?_
  refine WC.run ?_
  refine WS.op rfl rfl (WS.opV (.agg #[(.string (bs s)), (.bool true)]) rfl rfl rfl ?_)
  refine WS.box M3 [_, _] rfl rfl rfl rfl ?_
  intro p4 h5 M6
  refine WS.op rfl rfl (WS.nil [(2, _), (4, _)] rfl ?_)
  refine WC.seq ?_
  refine WC.run ?_
  refine WS.op rfl rfl ?_
  refine WS.call rfl rfl rfl (tk_byte_ran (s := s) (w := true) (M6.focus 0 rfl) (by omega)) ?_
  rintro _ h7 ⟨s7_, b7_, m7_, rfl, M8, R7_⟩
  have R7_l := R7_.1
  replace M8 : Mem _ _ ([(p4, _)] :: [(p1, _)] :: []) _ := M8
  refine WS.opV (.int .u8 (((m7_).toNat : Nat) : Int)) rfl rfl (cv_u8 (n := (m7_).toNat) (by have := UInt8.toNat_lt (m7_); omega)) (WS.opV (.agg #[(.int .u8 (((m7_).toNat : Nat) : Int)), (.int .u8 (0 : Int)), (.int .u8 (0 : Int)), (.int .u8 (0 : Int)), (.int .u8 (0 : Int)), (.int .u8 (0 : Int)), (.int .u8 (0 : Int)), (.int .u8 (0 : Int)), (.int .u8 (0 : Int)), (.int .u8 (0 : Int)), (.int .u8 (0 : Int)), (.int .i64 (0 : Int)), (.int .i64 (0 : Int)), (.int .i64 (0 : Int)), (.int .i64 (0 : Int)), (.int .u8 (0 : Int))]) rfl rfl rfl ?_)
  refine WS.new M8 rfl ?_
  intro p9 h10 M11
  refine WS.st1 (M11.focus 0 rfl) [_, _, _, _, _, _, _, _, _, _, _, _, _, _, _, _] [_, _, _, _, _, _, _, _, _, _, _, _, _, _, _, _] rfl rfl rfl rfl rfl (Nat.le_of_ble_eq_true rfl) (Nat.le_of_ble_eq_true rfl) rfl rfl ?_
  intro h12 M13
  replace M13 : Mem _ _ ([(p9, _)] :: [(p4, _)] :: [(p1, _)] :: []) _ := M13
  refine WS.nil [(2, _), (4, _), (5, _)] rfl ?_
  refine WC.seq ?_
  refine WC.seq ?_
  refine WC.run ?_
  refine WS.op rfl rfl (WS.op rfl (op_ld (M13.at 0 rfl) rfl rfl) (WS.nil [(2, _), (4, _), (5, _), (14, _)] rfl ?_))
  refine WC.block ?_
  refine WC.seq ?_
  refine WC.run ?_
  refine WS.eqlN (a := (m7_).toNat) (b := 1) rfl rfl rfl (fun e20 => ?_) (fun e20 => ?_)
  ·
   refine WS.op rfl rfl (WS.nil [(2, _), (4, _), (5, _), (14, _), (19, _)] rfl ?_)
   refine WC.condT rfl ?_
   refine WC.seq ?_
   refine WC.run ?_
   refine WS.op rfl rfl ?_
   refine WS.call rfl rfl rfl (tk_byte_ran (s := s7_) (w := b7_) (M13.focus 1 rfl) (by omega)) ?_
   rintro _ h14 ⟨s14_, b14_, m14_, rfl, M15, R14_⟩
   have R14_l := R14_.1
   replace M15 : Mem _ _ ([(p4, _)] :: [(p9, _)] :: [(p1, _)] :: []) _ := M15
   refine WS.opV (.int .u8 (((m14_).toNat : Nat) : Int)) rfl rfl (cv_u8 (n := (m14_).toNat) (by have := UInt8.toNat_lt (m14_); omega)) (WS.op rfl rfl ?_)
   refine WS.st1 (M15.focus 1 rfl) [_] [_, _, _, _, _, _, _, _, _, _, _, _, _, _, _, _] rfl rfl rfl rfl rfl (Nat.le_of_ble_eq_true rfl) (Nat.le_of_ble_eq_true rfl) rfl rfl ?_
   intro h16 M17
   replace M17 : Mem _ _ ([(p9, _)] :: [(p4, _)] :: [(p1, _)] :: []) _ := M17
   refine WS.nil [(2, _), (4, _), (5, _)] rfl ?_
   refine WC.seq ?_
   refine WC.run ?_
   refine WS.op rfl rfl ?_
   refine WS.call rfl rfl rfl (tk_int31_ran (s := s14_) (w := b14_) (M17.focus 1 rfl) (by omega)) ?_
   rintro _ h18 ⟨s18_, b18_, m18_, rfl, M19, R18_⟩
   have R18_l := R18_.1
   replace M19 : Mem _ _ ([(p4, _)] :: [(p9, _)] :: [(p1, _)] :: []) _ := M19
   refine WS.op rfl rfl ?_
   refine WS.st1 (M19.focus 1 rfl) [_] [_, _, _, _, _, _, _, _, _, _, _, _, _, _, _, _] rfl rfl rfl rfl rfl (Nat.le_of_ble_eq_true rfl) (Nat.le_of_ble_eq_true rfl) rfl rfl ?_
   intro h20 M21
   replace M21 : Mem _ _ ([(p9, _)] :: [(p4, _)] :: [(p1, _)] :: []) _ := M21
   refine WS.nil [(2, _), (4, _), (5, _)] rfl ?_
   refine WC.seq ?_
   refine WC.run ?_
   refine WS.op rfl rfl ?_
   refine WS.call rfl rfl rfl (tk_int31_ran (s := s18_) (w := b18_) (M21.focus 1 rfl) (by omega)) ?_
   rintro _ h22 ⟨s22_, b22_, m22_, rfl, M23, R22_⟩
   have R22_l := R22_.1
   replace M23 : Mem _ _ ([(p4, _)] :: [(p9, _)] :: [(p1, _)] :: []) _ := M23
   refine WS.op rfl rfl ?_
   refine WS.st1 (M23.focus 1 rfl) [_] [_, _, _, _, _, _, _, _, _, _, _, _, _, _, _, _] rfl rfl rfl rfl rfl (Nat.le_of_ble_eq_true rfl) (Nat.le_of_ble_eq_true rfl) rfl rfl ?_
   intro h24 M25
   replace M25 : Mem _ _ ([(p9, _)] :: [(p4, _)] :: [(p1, _)] :: []) _ := M25
   refine WS.nil [(2, _), (4, _), (5, _)] rfl ?_
   refine WC.seq ?_
   refine WC.run ?_
   refine WS.op rfl rfl ?_
   refine WS.call rfl rfl rfl (tk_int31_ran (s := s22_) (w := b22_) (M25.focus 1 rfl) (by omega)) ?_
   rintro _ h26 ⟨s26_, b26_, m26_, rfl, M27, R26_⟩
   have R26_l := R26_.1
   replace M27 : Mem _ _ ([(p4, _)] :: [(p9, _)] :: [(p1, _)] :: []) _ := M27
   refine WS.op rfl rfl ?_
   refine WS.st1 (M27.focus 1 rfl) [_] [_, _, _, _, _, _, _, _, _, _, _, _, _, _, _, _] rfl rfl rfl rfl rfl (Nat.le_of_ble_eq_true rfl) (Nat.le_of_ble_eq_true rfl) rfl rfl ?_
   intro h28 M29
   replace M29 : Mem _ _ ([(p9, _)] :: [(p4, _)] :: [(p1, _)] :: []) _ := M29
   refine WS.nil [(2, _), (4, _), (5, _)] rfl ?_
   refine WC.run ?_
   refine WS.op rfl rfl ?_
   refine WS.call rfl rfl rfl (tk_int31_ran (s := s26_) (w := b26_) (M29.focus 1 rfl) (by omega)) ?_
   rintro _ h30 ⟨s30_, b30_, m30_, rfl, M31, R30_⟩
   have R30_l := R30_.1
   replace M31 : Mem _ _ ([(p4, _)] :: [(p9, _)] :: [(p1, _)] :: []) _ := M31
   refine WS.op rfl rfl ?_
   refine WS.st1 (M31.focus 1 rfl) [_] [_, _, _, _, _, _, _, _, _, _, _, _, _, _, _, _] rfl rfl rfl rfl rfl (Nat.le_of_ble_eq_true rfl) (Nat.le_of_ble_eq_true rfl) rfl rfl ?_
   intro h32 M33
   replace M33 : Mem _ _ ([(p9, _)] :: [(p4, _)] :: [(p1, _)] :: []) _ := M33
   refine WS.nil [(2, _), (4, _), (5, _)] rfl ?_
   refine WC.seq ?_
   refine WC.seq ?_
   refine WC.run ?_
   refine WS.op rfl rfl (WS.op rfl rfl (WS.op rfl rfl (WS.op rfl (op_ld (M33.at 1 rfl) rfl rfl) ?_)))
   cases hb1 : b30_
   ·
    refine WS.opV (.bool true) rfl rfl rfl (WS.op rfl rfl (WS.off rfl (WS.off rfl (WS.off rfl (WS.off rfl (WS.off rfl (WS.off rfl (WS.op rfl rfl (WS.op rfl rfl ?_)))))))))
    refine WS.off rfl (WS.offC rfl (WS.off rfl (WS.op rfl rfl (WS.nil [(2, _), (5, _), (78, _)] rfl ?_))))
    refine WC.condT rfl ?_
    refine WC.seq ?_
    refine WC.run ?_
    refine WS.opV (.agg #[(.int .u8 (0 : Int)), (.int .u8 (0 : Int)), (.int .u8 (0 : Int)), (.int .u8 (0 : Int)), (.int .u8 (0 : Int)), (.int .u8 (0 : Int)), (.int .u8 (0 : Int)), (.int .u8 (0 : Int)), (.int .u8 (0 : Int)), (.int .u8 (0 : Int)), (.int .u8 (0 : Int)), (.int .i64 (0 : Int)), (.int .i64 (0 : Int)), (.int .i64 (0 : Int)), (.int .i64 (0 : Int)), (.int .u8 (0 : Int))]) rfl rfl rfl ?_
    refine WS.st1 (M33.focus 2 rfl) [_, _, _, _, _, _, _, _, _, _, _, _, _, _, _, _] [_, _, _, _, _, _, _, _, _, _, _, _, _, _, _, _] rfl rfl rfl rfl rfl (Nat.le_of_ble_eq_true rfl) (Nat.le_of_ble_eq_true rfl) rfl rfl ?_
    intro h34 M35
    replace M35 : Mem _ _ ([(p1, _)] :: [(p9, _)] :: [(p4, _)] :: []) _ := M35
    refine WS.op rfl rfl (WS.nil [(2, _), (3, _)] rfl ?_)
    refine WC.ret ?_
    refine ⟨[_, _], (res_cellN [_, _, _, _, _, _, _, _, _, _, _, _, _, _, _, _] rfl (M35.at 0 rfl) (Nat.le_of_ble_eq_true rfl) rfl (res_tmp rfl res_nil)), ?_⟩
    have hno : ∀ o0, MayO o0 → encO o0 ≠ s := by
      intro o0 hm he2
      have he := he2.symm
      obtain ⟨a1, a2, a3⟩ := R7_.2.2 o0.op (encO o0).tail rfl (by rw [he]; exact encO_cons o0)
      have hop := hm.1
      have hk : o0.op.toNat = 1 := by rw [← a2] at hop ⊢; omega
      have e := plainO_1 hk
      rw [← hm.2.1] at e
      rw [encO_1 hk] at a3
      obtain ⟨z0a, z0b, z0c⟩ := R14_.2.2 o0.sl (vb (nu o0.ks).toNat ++ (vb (nu o0.bt).toNat ++ (vb (nu o0.ra).toNat ++ (vb (nu o0.bu).toNat)))) a1 (by first | (rw [a3]; done) | (rw [a3]; simp [Oper.tok]; done))
      obtain ⟨z1a, z1b, z1c⟩ := R18_.2.2 (nu o0.ks).toNat (vb (nu o0.bt).toNat ++ (vb (nu o0.ra).toNat ++ (vb (nu o0.bu).toNat))) (UInt64.toNat_lt _) z0a (by first | (rw [z0c]; done) | (rw [z0c]; simp [Oper.tok]; done))
      obtain ⟨z2a, z2b, z2c⟩ := R22_.2.2 (nu o0.bt).toNat (vb (nu o0.ra).toNat ++ (vb (nu o0.bu).toNat)) (UInt64.toNat_lt _) z1a (by first | (rw [z1c]; done) | (rw [z1c]; simp [Oper.tok]; done))
      obtain ⟨z3a, z3b, z3c⟩ := R26_.2.2 (nu o0.ra).toNat (vb (nu o0.bu).toNat) (UInt64.toNat_lt _) z2a (by first | (rw [z2c]; done) | (rw [z2c]; simp [Oper.tok]; done))
      obtain ⟨z4a, z4b, z4c⟩ := R30_.2.2 (nu o0.bu).toNat ([]) (UInt64.toNat_lt _) z3a (by first | (rw [z3c]; done) | (rw [z3c]; simp [Oper.tok]; done))
      have eqc : (⟨m7_, m14_, 0, 0, 0, 0, 0, 0, 0, 0, 0, i31 m18_, i31 m22_, i31 m26_, i31 m30_, 0⟩ : Oper) = o0 := by (rw [e]; rw [a2, z0b, u64_inj z1b, i31_nu (x := o0.ks) hm.2.2.2.2.2.1, u64_inj z2b, i31_nu (x := o0.bt) hm.2.2.2.2.2.2.1, u64_inj z3b, i31_nu (x := o0.ra) hm.2.2.2.2.2.2.2.1, u64_inj z4b, i31_nu (x := o0.bu) hm.2.2.2.2.2.2.2.2])
      first
      | exact Bool.noConfusion (z4a.symm.trans (show b30_ = false by assumption))
      | (have q := congrArg List.length z4c; simp only [List.length_nil] at q; omega)
      | exact absurd (show mayOB (⟨m7_, m14_, 0, 0, 0, 0, 0, 0, 0, 0, 0, i31 m18_, i31 m22_, i31 m26_, i31 m30_, 0⟩ : Oper) = true by rw [eqc]; exact decide_eq_true hm) (by rw [show mayOB (⟨m7_, m14_, 0, 0, 0, 0, 0, 0, 0, 0, 0, i31 m18_, i31 m22_, i31 m26_, i31 m30_, 0⟩ : Oper) = false by assumption]; decide)
    exact ⟨zeroO2, false, rfl, rdO_no hno, M35.bare.take 0⟩
   ·
    refine WS.opV (.bool false) rfl rfl rfl (WS.op rfl rfl (WS.op rfl rfl (WS.op rfl rfl (WS.op rfl rfl (WS.op rfl (op_ld (M33.at 1 rfl) rfl rfl) (WS.op rfl (op_lenS (l := s30_) rfl) ?_))))))
    refine WS.gtrN (a := (s30_).length) (b := 0) rfl rfl rfl (fun e72 => ?_) (fun e72 => ?_)
    ·
     refine WS.op rfl rfl (WS.op rfl rfl (WS.off rfl (WS.offC rfl (WS.off rfl (WS.op rfl rfl (WS.nil [(2, _), (5, _), (78, _)] rfl ?_))))))
     refine WC.condT rfl ?_
     refine WC.seq ?_
     refine WC.run ?_
     refine WS.opV (.agg #[(.int .u8 (0 : Int)), (.int .u8 (0 : Int)), (.int .u8 (0 : Int)), (.int .u8 (0 : Int)), (.int .u8 (0 : Int)), (.int .u8 (0 : Int)), (.int .u8 (0 : Int)), (.int .u8 (0 : Int)), (.int .u8 (0 : Int)), (.int .u8 (0 : Int)), (.int .u8 (0 : Int)), (.int .i64 (0 : Int)), (.int .i64 (0 : Int)), (.int .i64 (0 : Int)), (.int .i64 (0 : Int)), (.int .u8 (0 : Int))]) rfl rfl rfl ?_
     refine WS.st1 (M33.focus 2 rfl) [_, _, _, _, _, _, _, _, _, _, _, _, _, _, _, _] [_, _, _, _, _, _, _, _, _, _, _, _, _, _, _, _] rfl rfl rfl rfl rfl (Nat.le_of_ble_eq_true rfl) (Nat.le_of_ble_eq_true rfl) rfl rfl ?_
     intro h36 M37
     replace M37 : Mem _ _ ([(p1, _)] :: [(p9, _)] :: [(p4, _)] :: []) _ := M37
     refine WS.op rfl rfl (WS.nil [(2, _), (3, _)] rfl ?_)
     refine WC.ret ?_
     refine ⟨[_, _], (res_cellN [_, _, _, _, _, _, _, _, _, _, _, _, _, _, _, _] rfl (M37.at 0 rfl) (Nat.le_of_ble_eq_true rfl) rfl (res_tmp rfl res_nil)), ?_⟩
     have hno : ∀ o0, MayO o0 → encO o0 ≠ s := by
       intro o0 hm he2
       have he := he2.symm
       obtain ⟨a1, a2, a3⟩ := R7_.2.2 o0.op (encO o0).tail rfl (by rw [he]; exact encO_cons o0)
       have hop := hm.1
       have hk : o0.op.toNat = 1 := by rw [← a2] at hop ⊢; omega
       have e := plainO_1 hk
       rw [← hm.2.1] at e
       rw [encO_1 hk] at a3
       obtain ⟨z0a, z0b, z0c⟩ := R14_.2.2 o0.sl (vb (nu o0.ks).toNat ++ (vb (nu o0.bt).toNat ++ (vb (nu o0.ra).toNat ++ (vb (nu o0.bu).toNat)))) a1 (by first | (rw [a3]; done) | (rw [a3]; simp [Oper.tok]; done))
       obtain ⟨z1a, z1b, z1c⟩ := R18_.2.2 (nu o0.ks).toNat (vb (nu o0.bt).toNat ++ (vb (nu o0.ra).toNat ++ (vb (nu o0.bu).toNat))) (UInt64.toNat_lt _) z0a (by first | (rw [z0c]; done) | (rw [z0c]; simp [Oper.tok]; done))
       obtain ⟨z2a, z2b, z2c⟩ := R22_.2.2 (nu o0.bt).toNat (vb (nu o0.ra).toNat ++ (vb (nu o0.bu).toNat)) (UInt64.toNat_lt _) z1a (by first | (rw [z1c]; done) | (rw [z1c]; simp [Oper.tok]; done))
       obtain ⟨z3a, z3b, z3c⟩ := R26_.2.2 (nu o0.ra).toNat (vb (nu o0.bu).toNat) (UInt64.toNat_lt _) z2a (by first | (rw [z2c]; done) | (rw [z2c]; simp [Oper.tok]; done))
       obtain ⟨z4a, z4b, z4c⟩ := R30_.2.2 (nu o0.bu).toNat ([]) (UInt64.toNat_lt _) z3a (by first | (rw [z3c]; done) | (rw [z3c]; simp [Oper.tok]; done))
       have eqc : (⟨m7_, m14_, 0, 0, 0, 0, 0, 0, 0, 0, 0, i31 m18_, i31 m22_, i31 m26_, i31 m30_, 0⟩ : Oper) = o0 := by (rw [e]; rw [a2, z0b, u64_inj z1b, i31_nu (x := o0.ks) hm.2.2.2.2.2.1, u64_inj z2b, i31_nu (x := o0.bt) hm.2.2.2.2.2.2.1, u64_inj z3b, i31_nu (x := o0.ra) hm.2.2.2.2.2.2.2.1, u64_inj z4b, i31_nu (x := o0.bu) hm.2.2.2.2.2.2.2.2])
       first
       | exact Bool.noConfusion (z4a.symm.trans (show b30_ = false by assumption))
       | (have q := congrArg List.length z4c; simp only [List.length_nil] at q; omega)
       | exact absurd (show mayOB (⟨m7_, m14_, 0, 0, 0, 0, 0, 0, 0, 0, 0, i31 m18_, i31 m22_, i31 m26_, i31 m30_, 0⟩ : Oper) = true by rw [eqc]; exact decide_eq_true hm) (by rw [show mayOB (⟨m7_, m14_, 0, 0, 0, 0, 0, 0, 0, 0, 0, i31 m18_, i31 m22_, i31 m26_, i31 m30_, 0⟩ : Oper) = false by assumption]; decide)
     exact ⟨zeroO2, false, rfl, rdO_no hno, M37.bare.take 0⟩
    ·
     refine WS.op rfl rfl (WS.op rfl rfl (WS.op rfl (op_lds [_, _, _, _, _, _, _, _, _, _, _, _, _, _, _, _] (M33.at 0 rfl) rfl (Nat.le_of_ble_eq_true rfl) rfl) ?_))
     refine WS.call rfl rfl rfl (refMayO_ran M33.here (o := (⟨m7_, m14_, 0, 0, 0, 0, 0, 0, 0, 0, 0, i31 m18_, i31 m22_, i31 m26_, i31 m30_, 0⟩ : Oper))) ?_
     rintro _ h38 ⟨rfl, N39⟩
     have M40 := M33.trans N39
     cases hb2 : (mayOB (⟨m7_, m14_, 0, 0, 0, 0, 0, 0, 0, 0, 0, i31 m18_, i31 m22_, i31 m26_, i31 m30_, 0⟩ : Oper))
     ·
      refine WS.opV (.bool true) rfl rfl rfl (WS.op rfl rfl (WS.nil [(2, _), (5, _), (78, _)] rfl ?_))
      refine WC.condT rfl ?_
      refine WC.seq ?_
      refine WC.run ?_
      refine WS.opV (.agg #[(.int .u8 (0 : Int)), (.int .u8 (0 : Int)), (.int .u8 (0 : Int)), (.int .u8 (0 : Int)), (.int .u8 (0 : Int)), (.int .u8 (0 : Int)), (.int .u8 (0 : Int)), (.int .u8 (0 : Int)), (.int .u8 (0 : Int)), (.int .u8 (0 : Int)), (.int .u8 (0 : Int)), (.int .i64 (0 : Int)), (.int .i64 (0 : Int)), (.int .i64 (0 : Int)), (.int .i64 (0 : Int)), (.int .u8 (0 : Int))]) rfl rfl rfl ?_
      refine WS.st1 (M40.focus 2 rfl) [_, _, _, _, _, _, _, _, _, _, _, _, _, _, _, _] [_, _, _, _, _, _, _, _, _, _, _, _, _, _, _, _] rfl rfl rfl rfl rfl (Nat.le_of_ble_eq_true rfl) (Nat.le_of_ble_eq_true rfl) rfl rfl ?_
      intro h41 M42
      replace M42 : Mem _ _ ([(p1, _)] :: [(p9, _)] :: [(p4, _)] :: []) _ := M42
      refine WS.op rfl rfl (WS.nil [(2, _), (3, _)] rfl ?_)
      refine WC.ret ?_
      refine ⟨[_, _], (res_cellN [_, _, _, _, _, _, _, _, _, _, _, _, _, _, _, _] rfl (M42.at 0 rfl) (Nat.le_of_ble_eq_true rfl) rfl (res_tmp rfl res_nil)), ?_⟩
      have hno : ∀ o0, MayO o0 → encO o0 ≠ s := by
        intro o0 hm he2
        have he := he2.symm
        obtain ⟨a1, a2, a3⟩ := R7_.2.2 o0.op (encO o0).tail rfl (by rw [he]; exact encO_cons o0)
        have hop := hm.1
        have hk : o0.op.toNat = 1 := by rw [← a2] at hop ⊢; omega
        have e := plainO_1 hk
        rw [← hm.2.1] at e
        rw [encO_1 hk] at a3
        obtain ⟨z0a, z0b, z0c⟩ := R14_.2.2 o0.sl (vb (nu o0.ks).toNat ++ (vb (nu o0.bt).toNat ++ (vb (nu o0.ra).toNat ++ (vb (nu o0.bu).toNat)))) a1 (by first | (rw [a3]; done) | (rw [a3]; simp [Oper.tok]; done))
        obtain ⟨z1a, z1b, z1c⟩ := R18_.2.2 (nu o0.ks).toNat (vb (nu o0.bt).toNat ++ (vb (nu o0.ra).toNat ++ (vb (nu o0.bu).toNat))) (UInt64.toNat_lt _) z0a (by first | (rw [z0c]; done) | (rw [z0c]; simp [Oper.tok]; done))
        obtain ⟨z2a, z2b, z2c⟩ := R22_.2.2 (nu o0.bt).toNat (vb (nu o0.ra).toNat ++ (vb (nu o0.bu).toNat)) (UInt64.toNat_lt _) z1a (by first | (rw [z1c]; done) | (rw [z1c]; simp [Oper.tok]; done))
        obtain ⟨z3a, z3b, z3c⟩ := R26_.2.2 (nu o0.ra).toNat (vb (nu o0.bu).toNat) (UInt64.toNat_lt _) z2a (by first | (rw [z2c]; done) | (rw [z2c]; simp [Oper.tok]; done))
        obtain ⟨z4a, z4b, z4c⟩ := R30_.2.2 (nu o0.bu).toNat ([]) (UInt64.toNat_lt _) z3a (by first | (rw [z3c]; done) | (rw [z3c]; simp [Oper.tok]; done))
        have eqc : (⟨m7_, m14_, 0, 0, 0, 0, 0, 0, 0, 0, 0, i31 m18_, i31 m22_, i31 m26_, i31 m30_, 0⟩ : Oper) = o0 := by (rw [e]; rw [a2, z0b, u64_inj z1b, i31_nu (x := o0.ks) hm.2.2.2.2.2.1, u64_inj z2b, i31_nu (x := o0.bt) hm.2.2.2.2.2.2.1, u64_inj z3b, i31_nu (x := o0.ra) hm.2.2.2.2.2.2.2.1, u64_inj z4b, i31_nu (x := o0.bu) hm.2.2.2.2.2.2.2.2])
        first
        | exact Bool.noConfusion (z4a.symm.trans (show b30_ = false by assumption))
        | (have q := congrArg List.length z4c; simp only [List.length_nil] at q; omega)
        | exact absurd (show mayOB (⟨m7_, m14_, 0, 0, 0, 0, 0, 0, 0, 0, 0, i31 m18_, i31 m22_, i31 m26_, i31 m30_, 0⟩ : Oper) = true by rw [eqc]; exact decide_eq_true hm) (by rw [show mayOB (⟨m7_, m14_, 0, 0, 0, 0, 0, 0, 0, 0, 0, i31 m18_, i31 m22_, i31 m26_, i31 m30_, 0⟩ : Oper) = false by assumption]; decide)
      exact ⟨zeroO2, false, rfl, rdO_no hno, M42.bare.take 0⟩
     ·
      refine WS.opV (.bool false) rfl rfl rfl (WS.op rfl rfl (WS.nil [(2, _), (5, _), (78, _)] rfl ?_))
      refine WC.condF rfl ?_
      refine WC.skip ?_
      refine WC.seq ?_
      refine WC.run ?_
      refine WS.op rfl (op_lds [_, _, _, _, _, _, _, _, _, _, _, _, _, _, _, _] (M40.at 0 rfl) rfl (Nat.le_of_ble_eq_true rfl) rfl) ?_
      refine WS.st1 (M40.focus 2 rfl) [_, _, _, _, _, _, _, _, _, _, _, _, _, _, _, _] [_, _, _, _, _, _, _, _, _, _, _, _, _, _, _, _] rfl rfl rfl rfl rfl (Nat.le_of_ble_eq_true rfl) (Nat.le_of_ble_eq_true rfl) rfl rfl ?_
      intro h43 M44
      replace M44 : Mem _ _ ([(p1, _)] :: [(p9, _)] :: [(p4, _)] :: []) _ := M44
      refine WS.op rfl rfl (WS.nil [(2, _), (3, _)] rfl ?_)
      refine WC.ret ?_
      refine ⟨[_, _], (res_cellN [_, _, _, _, _, _, _, _, _, _, _, _, _, _, _, _] rfl (M44.at 0 rfl) (Nat.le_of_ble_eq_true rfl) rfl (res_tmp rfl res_nil)), ?_⟩
      have hs0 : s30_ = [] := List.eq_nil_of_length_eq_zero (by omega)
      have hm : MayO (⟨m7_, m14_, 0, 0, 0, 0, 0, 0, 0, 0, 0, i31 m18_, i31 m22_, i31 m26_, i31 m30_, 0⟩ : Oper) := of_decide_eq_true (p := MayO (⟨m7_, m14_, 0, 0, 0, 0, 0, 0, 0, 0, 0, i31 m18_, i31 m22_, i31 m26_, i31 m30_, 0⟩ : Oper)) (by assumption)
      obtain ⟨r1, r2⟩ := hm.1
      dsimp only at r1 r2
      obtain ⟨y5, e5'⟩ := R30_.2.1 (show b30_ = true by assumption)
      obtain ⟨y4, e4'⟩ := R26_.2.1 y5
      obtain ⟨y3, e3'⟩ := R22_.2.1 y4
      obtain ⟨y2, e2'⟩ := R18_.2.1 y3
      obtain ⟨y1, e1'⟩ := R14_.2.1 y2
      obtain ⟨y0, e0'⟩ := R7_.2.1 y1
      have henc : encO (⟨m7_, m14_, 0, 0, 0, 0, 0, 0, 0, 0, 0, i31 m18_, i31 m22_, i31 m26_, i31 m30_, 0⟩ : Oper) = s := by
        rw [encO_1 (by dsimp only; omega)]
        simp only [Oper.tok]
        rw [nu_i31 (m := m18_) hm.2.2.2.2.2.1, nu_i31 (m := m22_) hm.2.2.2.2.2.2.1, nu_i31 (m := m26_) hm.2.2.2.2.2.2.2.1, nu_i31 (m := m30_) hm.2.2.2.2.2.2.2.2, e0', e1', e2', e3', e4', e5', hs0]
        try simp
      exact ⟨(⟨m7_, m14_, 0, 0, 0, 0, 0, 0, 0, 0, 0, i31 m18_, i31 m22_, i31 m26_, i31 m30_, 0⟩ : Oper), true, rfl, ⟨fun _ => ⟨hm, henc⟩, fun q => nomatch q⟩, M44.bare.take 0⟩
  ·
   refine WS.op rfl rfl (WS.nil [(2, _), (4, _), (5, _), (14, _), (19, _)] rfl ?_)
   refine WC.condF rfl ?_
   refine WC.seq ?_
   refine WC.run ?_
   refine WS.eqlN (a := (m7_).toNat) (b := 2) rfl rfl rfl (fun e38 => ?_) (fun e38 => ?_)
   ·
    refine WS.op rfl rfl (WS.nil [(2, _), (4, _), (5, _), (14, _), (37, _)] rfl ?_)
    refine WC.condT rfl ?_
    refine WC.seq ?_
    refine WC.run ?_
    refine WS.op rfl rfl ?_
    refine WS.call rfl rfl rfl (tk_byte_ran (s := s7_) (w := b7_) (M13.focus 1 rfl) (by omega)) ?_
    rintro _ h45 ⟨s45_, b45_, m45_, rfl, M46, R45_⟩
    have R45_l := R45_.1
    replace M46 : Mem _ _ ([(p4, _)] :: [(p9, _)] :: [(p1, _)] :: []) _ := M46
    refine WS.opV (.int .u8 (((m45_).toNat : Nat) : Int)) rfl rfl (cv_u8 (n := (m45_).toNat) (by have := UInt8.toNat_lt (m45_); omega)) (WS.op rfl rfl ?_)
    refine WS.st1 (M46.focus 1 rfl) [_] [_, _, _, _, _, _, _, _, _, _, _, _, _, _, _, _] rfl rfl rfl rfl rfl (Nat.le_of_ble_eq_true rfl) (Nat.le_of_ble_eq_true rfl) rfl rfl ?_
    intro h47 M48
    replace M48 : Mem _ _ ([(p9, _)] :: [(p4, _)] :: [(p1, _)] :: []) _ := M48
    refine WS.nil [(2, _), (4, _), (5, _)] rfl ?_
    refine WC.seq ?_
    refine WC.run ?_
    refine WS.op rfl rfl ?_
    refine WS.call rfl rfl rfl (tk_token_ran (s := s45_) (w := b45_) (M48.focus 1 rfl) (by omega)) ?_
    rintro _ h49 ⟨s49_, b49_, m49_0, m49_1, m49_2, m49_3, m49_4, m49_5, m49_6, m49_7, rfl, M50, R49_⟩
    have R49_l := R49_.1
    replace M50 : Mem _ _ ([(p4, _)] :: [(p9, _)] :: [(p1, _)] :: []) _ := M50
    refine WS.op rfl rfl ?_
    refine WS.st1 (M50.focus 1 rfl) [_, _, _, _, _, _, _, _] [_, _, _, _, _, _, _, _, _, _, _, _, _, _, _, _] rfl rfl rfl rfl rfl (Nat.le_of_ble_eq_true rfl) (Nat.le_of_ble_eq_true rfl) rfl rfl ?_
    intro h51 M52
    replace M52 : Mem _ _ ([(p9, _)] :: [(p4, _)] :: [(p1, _)] :: []) _ := M52
    refine WS.nil [(2, _), (4, _), (5, _)] rfl ?_
    refine WC.run ?_
    refine WS.op rfl rfl ?_
    refine WS.call rfl rfl rfl (tk_byte_ran (s := s49_) (w := b49_) (M52.focus 1 rfl) (by omega)) ?_
    rintro _ h53 ⟨s53_, b53_, m53_, rfl, M54, R53_⟩
    have R53_l := R53_.1
    replace M54 : Mem _ _ ([(p4, _)] :: [(p9, _)] :: [(p1, _)] :: []) _ := M54
    refine WS.opV (.int .u8 (((m53_).toNat : Nat) : Int)) rfl rfl (cv_u8 (n := (m53_).toNat) (by have := UInt8.toNat_lt (m53_); omega)) (WS.op rfl rfl ?_)
    refine WS.st1 (M54.focus 1 rfl) [_] [_, _, _, _, _, _, _, _, _, _, _, _, _, _, _, _] rfl rfl rfl rfl rfl (Nat.le_of_ble_eq_true rfl) (Nat.le_of_ble_eq_true rfl) rfl rfl ?_
    intro h55 M56
    replace M56 : Mem _ _ ([(p9, _)] :: [(p4, _)] :: [(p1, _)] :: []) _ := M56
    refine WS.nil [(2, _), (4, _), (5, _)] rfl ?_
    refine WC.seq ?_
    refine WC.seq ?_
    refine WC.run ?_
    refine WS.op rfl rfl (WS.op rfl rfl (WS.op rfl rfl (WS.op rfl (op_ld (M56.at 1 rfl) rfl rfl) ?_)))
    cases hb3 : b53_
    ·
     refine WS.opV (.bool true) rfl rfl rfl (WS.op rfl rfl (WS.off rfl (WS.off rfl (WS.off rfl (WS.off rfl (WS.off rfl (WS.off rfl (WS.op rfl rfl (WS.op rfl rfl ?_)))))))))
     refine WS.off rfl (WS.offC rfl (WS.off rfl (WS.op rfl rfl (WS.nil [(2, _), (5, _), (78, _)] rfl ?_))))
     refine WC.condT rfl ?_
     refine WC.seq ?_
     refine WC.run ?_
     refine WS.opV (.agg #[(.int .u8 (0 : Int)), (.int .u8 (0 : Int)), (.int .u8 (0 : Int)), (.int .u8 (0 : Int)), (.int .u8 (0 : Int)), (.int .u8 (0 : Int)), (.int .u8 (0 : Int)), (.int .u8 (0 : Int)), (.int .u8 (0 : Int)), (.int .u8 (0 : Int)), (.int .u8 (0 : Int)), (.int .i64 (0 : Int)), (.int .i64 (0 : Int)), (.int .i64 (0 : Int)), (.int .i64 (0 : Int)), (.int .u8 (0 : Int))]) rfl rfl rfl ?_
     refine WS.st1 (M56.focus 2 rfl) [_, _, _, _, _, _, _, _, _, _, _, _, _, _, _, _] [_, _, _, _, _, _, _, _, _, _, _, _, _, _, _, _] rfl rfl rfl rfl rfl (Nat.le_of_ble_eq_true rfl) (Nat.le_of_ble_eq_true rfl) rfl rfl ?_
     intro h57 M58
     replace M58 : Mem _ _ ([(p1, _)] :: [(p9, _)] :: [(p4, _)] :: []) _ := M58
     refine WS.op rfl rfl (WS.nil [(2, _), (3, _)] rfl ?_)
     refine WC.ret ?_
     refine ⟨[_, _], (res_cellN [_, _, _, _, _, _, _, _, _, _, _, _, _, _, _, _] rfl (M58.at 0 rfl) (Nat.le_of_ble_eq_true rfl) rfl (res_tmp rfl res_nil)), ?_⟩
     have hno : ∀ o0, MayO o0 → encO o0 ≠ s := by
       intro o0 hm he2
       have he := he2.symm
       obtain ⟨a1, a2, a3⟩ := R7_.2.2 o0.op (encO o0).tail rfl (by rw [he]; exact encO_cons o0)
       have hop := hm.1
       have hk : o0.op.toNat = 2 := by rw [← a2] at hop ⊢; omega
       have e := plainO_2 hk
       rw [← hm.2.1] at e
       rw [encO_2 hk] at a3
       obtain ⟨z0a, z0b, z0c⟩ := R45_.2.2 o0.sl (o0.tok ++ ([o0.ro])) a1 (by first | (rw [a3]; done) | (rw [a3]; simp [Oper.tok]; done))
       obtain ⟨z1a, ⟨w0, w1, w2, w3, w4, w5, w6, w7⟩, z1c⟩ := R49_.2.2 o0.t0 o0.t1 o0.t2 o0.t3 o0.t4 o0.t5 o0.t6 o0.t7 ([o0.ro]) z0a (by first | (rw [z0c]; done) | (rw [z0c]; simp [Oper.tok]; done))
       obtain ⟨z2a, z2b, z2c⟩ := R53_.2.2 o0.ro ([]) z1a (by first | (rw [z1c]; done) | (rw [z1c]; simp [Oper.tok]; done))
       have eqc : (⟨m7_, m45_, m49_0, m49_1, m49_2, m49_3, m49_4, m49_5, m49_6, m49_7, m53_, 0, 0, 0, 0, 0⟩ : Oper) = o0 := by (rw [e]; rw [a2, z0b, w0, w1, w2, w3, w4, w5, w6, w7, z2b])
       first
       | exact Bool.noConfusion (z2a.symm.trans (show b53_ = false by assumption))
       | (have q := congrArg List.length z2c; simp only [List.length_nil] at q; omega)
       | exact absurd (show mayOB (⟨m7_, m45_, m49_0, m49_1, m49_2, m49_3, m49_4, m49_5, m49_6, m49_7, m53_, 0, 0, 0, 0, 0⟩ : Oper) = true by rw [eqc]; exact decide_eq_true hm) (by rw [show mayOB (⟨m7_, m45_, m49_0, m49_1, m49_2, m49_3, m49_4, m49_5, m49_6, m49_7, m53_, 0, 0, 0, 0, 0⟩ : Oper) = false by assumption]; decide)
     exact ⟨zeroO2, false, rfl, rdO_no hno, M58.bare.take 0⟩
    ·
     refine WS.opV (.bool false) rfl rfl rfl (WS.op rfl rfl (WS.op rfl rfl (WS.op rfl rfl (WS.op rfl rfl (WS.op rfl (op_ld (M56.at 1 rfl) rfl rfl) (WS.op rfl (op_lenS (l := s53_) rfl) ?_))))))
     refine WS.gtrN (a := (s53_).length) (b := 0) rfl rfl rfl (fun e72 => ?_) (fun e72 => ?_)
     ·
      refine WS.op rfl rfl (WS.op rfl rfl (WS.off rfl (WS.offC rfl (WS.off rfl (WS.op rfl rfl (WS.nil [(2, _), (5, _), (78, _)] rfl ?_))))))
      refine WC.condT rfl ?_
      refine WC.seq ?_
      refine WC.run ?_
      refine WS.opV (.agg #[(.int .u8 (0 : Int)), (.int .u8 (0 : Int)), (.int .u8 (0 : Int)), (.int .u8 (0 : Int)), (.int .u8 (0 : Int)), (.int .u8 (0 : Int)), (.int .u8 (0 : Int)), (.int .u8 (0 : Int)), (.int .u8 (0 : Int)), (.int .u8 (0 : Int)), (.int .u8 (0 : Int)), (.int .i64 (0 : Int)), (.int .i64 (0 : Int)), (.int .i64 (0 : Int)), (.int .i64 (0 : Int)), (.int .u8 (0 : Int))]) rfl rfl rfl ?_
      refine WS.st1 (M56.focus 2 rfl) [_, _, _, _, _, _, _, _, _, _, _, _, _, _, _, _] [_, _, _, _, _, _, _, _, _, _, _, _, _, _, _, _] rfl rfl rfl rfl rfl (Nat.le_of_ble_eq_true rfl) (Nat.le_of_ble_eq_true rfl) rfl rfl ?_
      intro h59 M60
      replace M60 : Mem _ _ ([(p1, _)] :: [(p9, _)] :: [(p4, _)] :: []) _ := M60
      refine WS.op rfl rfl (WS.nil [(2, _), (3, _)] rfl ?_)
      refine WC.ret ?_
      refine ⟨[_, _], (res_cellN [_, _, _, _, _, _, _, _, _, _, _, _, _, _, _, _] rfl (M60.at 0 rfl) (Nat.le_of_ble_eq_true rfl) rfl (res_tmp rfl res_nil)), ?_⟩
      have hno : ∀ o0, MayO o0 → encO o0 ≠ s := by
        intro o0 hm he2
        have he := he2.symm
        obtain ⟨a1, a2, a3⟩ := R7_.2.2 o0.op (encO o0).tail rfl (by rw [he]; exact encO_cons o0)
        have hop := hm.1
        have hk : o0.op.toNat = 2 := by rw [← a2] at hop ⊢; omega
        have e := plainO_2 hk
        rw [← hm.2.1] at e
        rw [encO_2 hk] at a3
        obtain ⟨z0a, z0b, z0c⟩ := R45_.2.2 o0.sl (o0.tok ++ ([o0.ro])) a1 (by first | (rw [a3]; done) | (rw [a3]; simp [Oper.tok]; done))
        obtain ⟨z1a, ⟨w0, w1, w2, w3, w4, w5, w6, w7⟩, z1c⟩ := R49_.2.2 o0.t0 o0.t1 o0.t2 o0.t3 o0.t4 o0.t5 o0.t6 o0.t7 ([o0.ro]) z0a (by first | (rw [z0c]; done) | (rw [z0c]; simp [Oper.tok]; done))
        obtain ⟨z2a, z2b, z2c⟩ := R53_.2.2 o0.ro ([]) z1a (by first | (rw [z1c]; done) | (rw [z1c]; simp [Oper.tok]; done))
        have eqc : (⟨m7_, m45_, m49_0, m49_1, m49_2, m49_3, m49_4, m49_5, m49_6, m49_7, m53_, 0, 0, 0, 0, 0⟩ : Oper) = o0 := by (rw [e]; rw [a2, z0b, w0, w1, w2, w3, w4, w5, w6, w7, z2b])
        first
        | exact Bool.noConfusion (z2a.symm.trans (show b53_ = false by assumption))
        | (have q := congrArg List.length z2c; simp only [List.length_nil] at q; omega)
        | exact absurd (show mayOB (⟨m7_, m45_, m49_0, m49_1, m49_2, m49_3, m49_4, m49_5, m49_6, m49_7, m53_, 0, 0, 0, 0, 0⟩ : Oper) = true by rw [eqc]; exact decide_eq_true hm) (by rw [show mayOB (⟨m7_, m45_, m49_0, m49_1, m49_2, m49_3, m49_4, m49_5, m49_6, m49_7, m53_, 0, 0, 0, 0, 0⟩ : Oper) = false by assumption]; decide)
      exact ⟨zeroO2, false, rfl, rdO_no hno, M60.bare.take 0⟩
     ·
      refine WS.op rfl rfl (WS.op rfl rfl (WS.op rfl (op_lds [_, _, _, _, _, _, _, _, _, _, _, _, _, _, _, _] (M56.at 0 rfl) rfl (Nat.le_of_ble_eq_true rfl) rfl) ?_))
      refine WS.call rfl rfl rfl (refMayO_ran M56.here (o := (⟨m7_, m45_, m49_0, m49_1, m49_2, m49_3, m49_4, m49_5, m49_6, m49_7, m53_, 0, 0, 0, 0, 0⟩ : Oper))) ?_
      rintro _ h61 ⟨rfl, N62⟩
      have M63 := M56.trans N62
      cases hb4 : (mayOB (⟨m7_, m45_, m49_0, m49_1, m49_2, m49_3, m49_4, m49_5, m49_6, m49_7, m53_, 0, 0, 0, 0, 0⟩ : Oper))
      ·
       refine WS.opV (.bool true) rfl rfl rfl (WS.op rfl rfl (WS.nil [(2, _), (5, _), (78, _)] rfl ?_))
       refine WC.condT rfl ?_
       refine WC.seq ?_
       refine WC.run ?_
       refine WS.opV (.agg #[(.int .u8 (0 : Int)), (.int .u8 (0 : Int)), (.int .u8 (0 : Int)), (.int .u8 (0 : Int)), (.int .u8 (0 : Int)), (.int .u8 (0 : Int)), (.int .u8 (0 : Int)), (.int .u8 (0 : Int)), (.int .u8 (0 : Int)), (.int .u8 (0 : Int)), (.int .u8 (0 : Int)), (.int .i64 (0 : Int)), (.int .i64 (0 : Int)), (.int .i64 (0 : Int)), (.int .i64 (0 : Int)), (.int .u8 (0 : Int))]) rfl rfl rfl ?_
       refine WS.st1 (M63.focus 2 rfl) [_, _, _, _, _, _, _, _, _, _, _, _, _, _, _, _] [_, _, _, _, _, _, _, _, _, _, _, _, _, _, _, _] rfl rfl rfl rfl rfl (Nat.le_of_ble_eq_true rfl) (Nat.le_of_ble_eq_true rfl) rfl rfl ?_
       intro h64 M65
       replace M65 : Mem _ _ ([(p1, _)] :: [(p9, _)] :: [(p4, _)] :: []) _ := M65
       refine WS.op rfl rfl (WS.nil [(2, _), (3, _)] rfl ?_)
       refine WC.ret ?_
       refine ⟨[_, _], (res_cellN [_, _, _, _, _, _, _, _, _, _, _, _, _, _, _, _] rfl (M65.at 0 rfl) (Nat.le_of_ble_eq_true rfl) rfl (res_tmp rfl res_nil)), ?_⟩
       have hno : ∀ o0, MayO o0 → encO o0 ≠ s := by
         intro o0 hm he2
         have he := he2.symm
         obtain ⟨a1, a2, a3⟩ := R7_.2.2 o0.op (encO o0).tail rfl (by rw [he]; exact encO_cons o0)
         have hop := hm.1
         have hk : o0.op.toNat = 2 := by rw [← a2] at hop ⊢; omega
         have e := plainO_2 hk
         rw [← hm.2.1] at e
         rw [encO_2 hk] at a3
         obtain ⟨z0a, z0b, z0c⟩ := R45_.2.2 o0.sl (o0.tok ++ ([o0.ro])) a1 (by first | (rw [a3]; done) | (rw [a3]; simp [Oper.tok]; done))
         obtain ⟨z1a, ⟨w0, w1, w2, w3, w4, w5, w6, w7⟩, z1c⟩ := R49_.2.2 o0.t0 o0.t1 o0.t2 o0.t3 o0.t4 o0.t5 o0.t6 o0.t7 ([o0.ro]) z0a (by first | (rw [z0c]; done) | (rw [z0c]; simp [Oper.tok]; done))
         obtain ⟨z2a, z2b, z2c⟩ := R53_.2.2 o0.ro ([]) z1a (by first | (rw [z1c]; done) | (rw [z1c]; simp [Oper.tok]; done))
         have eqc : (⟨m7_, m45_, m49_0, m49_1, m49_2, m49_3, m49_4, m49_5, m49_6, m49_7, m53_, 0, 0, 0, 0, 0⟩ : Oper) = o0 := by (rw [e]; rw [a2, z0b, w0, w1, w2, w3, w4, w5, w6, w7, z2b])
         first
         | exact Bool.noConfusion (z2a.symm.trans (show b53_ = false by assumption))
         | (have q := congrArg List.length z2c; simp only [List.length_nil] at q; omega)
         | exact absurd (show mayOB (⟨m7_, m45_, m49_0, m49_1, m49_2, m49_3, m49_4, m49_5, m49_6, m49_7, m53_, 0, 0, 0, 0, 0⟩ : Oper) = true by rw [eqc]; exact decide_eq_true hm) (by rw [show mayOB (⟨m7_, m45_, m49_0, m49_1, m49_2, m49_3, m49_4, m49_5, m49_6, m49_7, m53_, 0, 0, 0, 0, 0⟩ : Oper) = false by assumption]; decide)
       exact ⟨zeroO2, false, rfl, rdO_no hno, M65.bare.take 0⟩
      ·
       refine WS.opV (.bool false) rfl rfl rfl (WS.op rfl rfl (WS.nil [(2, _), (5, _), (78, _)] rfl ?_))
       refine WC.condF rfl ?_
       refine WC.skip ?_
       refine WC.seq ?_
       refine WC.run ?_
       refine WS.op rfl (op_lds [_, _, _, _, _, _, _, _, _, _, _, _, _, _, _, _] (M63.at 0 rfl) rfl (Nat.le_of_ble_eq_true rfl) rfl) ?_
       refine WS.st1 (M63.focus 2 rfl) [_, _, _, _, _, _, _, _, _, _, _, _, _, _, _, _] [_, _, _, _, _, _, _, _, _, _, _, _, _, _, _, _] rfl rfl rfl rfl rfl (Nat.le_of_ble_eq_true rfl) (Nat.le_of_ble_eq_true rfl) rfl rfl ?_
       intro h66 M67
       replace M67 : Mem _ _ ([(p1, _)] :: [(p9, _)] :: [(p4, _)] :: []) _ := M67
       refine WS.op rfl rfl (WS.nil [(2, _), (3, _)] rfl ?_)
       refine WC.ret ?_
       refine ⟨[_, _], (res_cellN [_, _, _, _, _, _, _, _, _, _, _, _, _, _, _, _] rfl (M67.at 0 rfl) (Nat.le_of_ble_eq_true rfl) rfl (res_tmp rfl res_nil)), ?_⟩
       have hs0 : s53_ = [] := List.eq_nil_of_length_eq_zero (by omega)
       have hm : MayO (⟨m7_, m45_, m49_0, m49_1, m49_2, m49_3, m49_4, m49_5, m49_6, m49_7, m53_, 0, 0, 0, 0, 0⟩ : Oper) := of_decide_eq_true (p := MayO (⟨m7_, m45_, m49_0, m49_1, m49_2, m49_3, m49_4, m49_5, m49_6, m49_7, m53_, 0, 0, 0, 0, 0⟩ : Oper)) (by assumption)
       obtain ⟨r1, r2⟩ := hm.1
       dsimp only at r1 r2
       obtain ⟨y3, e3'⟩ := R53_.2.1 (show b53_ = true by assumption)
       obtain ⟨y2, e2'⟩ := R49_.2.1 y3
       obtain ⟨y1, e1'⟩ := R45_.2.1 y2
       obtain ⟨y0, e0'⟩ := R7_.2.1 y1
       have henc : encO (⟨m7_, m45_, m49_0, m49_1, m49_2, m49_3, m49_4, m49_5, m49_6, m49_7, m53_, 0, 0, 0, 0, 0⟩ : Oper) = s := by
         rw [encO_2 (by dsimp only; omega)]
         simp only [Oper.tok]
         rw [e0', e1', e2', e3', hs0]
         try simp
       exact ⟨(⟨m7_, m45_, m49_0, m49_1, m49_2, m49_3, m49_4, m49_5, m49_6, m49_7, m53_, 0, 0, 0, 0, 0⟩ : Oper), true, rfl, ⟨fun _ => ⟨hm, henc⟩, fun q => nomatch q⟩, M67.bare.take 0⟩
   ·
    refine WS.op rfl rfl (WS.nil [(2, _), (4, _), (5, _), (14, _), (37, _)] rfl ?_)
    refine WC.condF rfl ?_
    refine WC.seq ?_
    refine WC.run ?_
    refine WS.eqlN (a := (m7_).toNat) (b := 3) rfl rfl rfl (fun e51 => ?_) (fun e51 => ?_)
    ·
     refine WS.op rfl rfl (WS.nil [(2, _), (4, _), (5, _), (14, _), (50, _)] rfl ?_)
     refine WC.condT rfl ?_
     refine WC.run ?_
     refine WS.op rfl rfl ?_
     refine WS.call rfl rfl rfl (tk_token_ran (s := s7_) (w := b7_) (M13.focus 1 rfl) (by omega)) ?_
     rintro _ h68 ⟨s68_, b68_, m68_0, m68_1, m68_2, m68_3, m68_4, m68_5, m68_6, m68_7, rfl, M69, R68_⟩
     have R68_l := R68_.1
     replace M69 : Mem _ _ ([(p4, _)] :: [(p9, _)] :: [(p1, _)] :: []) _ := M69
     refine WS.op rfl rfl ?_
     refine WS.st1 (M69.focus 1 rfl) [_, _, _, _, _, _, _, _] [_, _, _, _, _, _, _, _, _, _, _, _, _, _, _, _] rfl rfl rfl rfl rfl (Nat.le_of_ble_eq_true rfl) (Nat.le_of_ble_eq_true rfl) rfl rfl ?_
     intro h70 M71
     replace M71 : Mem _ _ ([(p9, _)] :: [(p4, _)] :: [(p1, _)] :: []) _ := M71
     refine WS.nil [(2, _), (4, _), (5, _)] rfl ?_
     refine WC.seq ?_
     refine WC.seq ?_
     refine WC.run ?_
     refine WS.op rfl rfl (WS.op rfl rfl (WS.op rfl rfl (WS.op rfl (op_ld (M71.at 1 rfl) rfl rfl) ?_)))
     cases hb5 : b68_
     ·
      refine WS.opV (.bool true) rfl rfl rfl (WS.op rfl rfl (WS.off rfl (WS.off rfl (WS.off rfl (WS.off rfl (WS.off rfl (WS.off rfl (WS.op rfl rfl (WS.op rfl rfl ?_)))))))))
      refine WS.off rfl (WS.offC rfl (WS.off rfl (WS.op rfl rfl (WS.nil [(2, _), (5, _), (78, _)] rfl ?_))))
      refine WC.condT rfl ?_
      refine WC.seq ?_
      refine WC.run ?_
      refine WS.opV (.agg #[(.int .u8 (0 : Int)), (.int .u8 (0 : Int)), (.int .u8 (0 : Int)), (.int .u8 (0 : Int)), (.int .u8 (0 : Int)), (.int .u8 (0 : Int)), (.int .u8 (0 : Int)), (.int .u8 (0 : Int)), (.int .u8 (0 : Int)), (.int .u8 (0 : Int)), (.int .u8 (0 : Int)), (.int .i64 (0 : Int)), (.int .i64 (0 : Int)), (.int .i64 (0 : Int)), (.int .i64 (0 : Int)), (.int .u8 (0 : Int))]) rfl rfl rfl ?_
      refine WS.st1 (M71.focus 2 rfl) [_, _, _, _, _, _, _, _, _, _, _, _, _, _, _, _] [_, _, _, _, _, _, _, _, _, _, _, _, _, _, _, _] rfl rfl rfl rfl rfl (Nat.le_of_ble_eq_true rfl) (Nat.le_of_ble_eq_true rfl) rfl rfl ?_
      intro h72 M73
      replace M73 : Mem _ _ ([(p1, _)] :: [(p9, _)] :: [(p4, _)] :: []) _ := M73
      refine WS.op rfl rfl (WS.nil [(2, _), (3, _)] rfl ?_)
      refine WC.ret ?_
      refine ⟨[_, _], (res_cellN [_, _, _, _, _, _, _, _, _, _, _, _, _, _, _, _] rfl (M73.at 0 rfl) (Nat.le_of_ble_eq_true rfl) rfl (res_tmp rfl res_nil)), ?_⟩
      have hno : ∀ o0, MayO o0 → encO o0 ≠ s := by
        intro o0 hm he2
        have he := he2.symm
        obtain ⟨a1, a2, a3⟩ := R7_.2.2 o0.op (encO o0).tail rfl (by rw [he]; exact encO_cons o0)
        have hop := hm.1
        have hk : o0.op.toNat = 3 := by rw [← a2] at hop ⊢; omega
        have e := plainO_3 hk
        rw [← hm.2.1] at e
        rw [encO_3 hk] at a3
        obtain ⟨z0a, ⟨w0, w1, w2, w3, w4, w5, w6, w7⟩, z0c⟩ := R68_.2.2 o0.t0 o0.t1 o0.t2 o0.t3 o0.t4 o0.t5 o0.t6 o0.t7 ([]) a1 (by first | (rw [a3]; done) | (rw [a3]; simp [Oper.tok]; done))
        have eqc : (⟨m7_, 0, m68_0, m68_1, m68_2, m68_3, m68_4, m68_5, m68_6, m68_7, 0, 0, 0, 0, 0, 0⟩ : Oper) = o0 := by (rw [e]; rw [a2, w0, w1, w2, w3, w4, w5, w6, w7])
        first
        | exact Bool.noConfusion (z0a.symm.trans (show b68_ = false by assumption))
        | (have q := congrArg List.length z0c; simp only [List.length_nil] at q; omega)
        | exact absurd (show mayOB (⟨m7_, 0, m68_0, m68_1, m68_2, m68_3, m68_4, m68_5, m68_6, m68_7, 0, 0, 0, 0, 0, 0⟩ : Oper) = true by rw [eqc]; exact decide_eq_true hm) (by rw [show mayOB (⟨m7_, 0, m68_0, m68_1, m68_2, m68_3, m68_4, m68_5, m68_6, m68_7, 0, 0, 0, 0, 0, 0⟩ : Oper) = false by assumption]; decide)
      exact ⟨zeroO2, false, rfl, rdO_no hno, M73.bare.take 0⟩
     ·
      refine WS.opV (.bool false) rfl rfl rfl (WS.op rfl rfl (WS.op rfl rfl (WS.op rfl rfl (WS.op rfl rfl (WS.op rfl (op_ld (M71.at 1 rfl) rfl rfl) (WS.op rfl (op_lenS (l := s68_) rfl) ?_))))))
      refine WS.gtrN (a := (s68_).length) (b := 0) rfl rfl rfl (fun e72 => ?_) (fun e72 => ?_)
      ·
       refine WS.op rfl rfl (WS.op rfl rfl (WS.off rfl (WS.offC rfl (WS.off rfl (WS.op rfl rfl (WS.nil [(2, _), (5, _), (78, _)] rfl ?_))))))
       refine WC.condT rfl ?_
       refine WC.seq ?_
       refine WC.run ?_
       refine WS.opV (.agg #[(.int .u8 (0 : Int)), (.int .u8 (0 : Int)), (.int .u8 (0 : Int)), (.int .u8 (0 : Int)), (.int .u8 (0 : Int)), (.int .u8 (0 : Int)), (.int .u8 (0 : Int)), (.int .u8 (0 : Int)), (.int .u8 (0 : Int)), (.int .u8 (0 : Int)), (.int .u8 (0 : Int)), (.int .i64 (0 : Int)), (.int .i64 (0 : Int)), (.int .i64 (0 : Int)), (.int .i64 (0 : Int)), (.int .u8 (0 : Int))]) rfl rfl rfl ?_
       refine WS.st1 (M71.focus 2 rfl) [_, _, _, _, _, _, _, _, _, _, _, _, _, _, _, _] [_, _, _, _, _, _, _, _, _, _, _, _, _, _, _, _] rfl rfl rfl rfl rfl (Nat.le_of_ble_eq_true rfl) (Nat.le_of_ble_eq_true rfl) rfl rfl ?_
       intro h74 M75
       replace M75 : Mem _ _ ([(p1, _)] :: [(p9, _)] :: [(p4, _)] :: []) _ := M75
       refine WS.op rfl rfl (WS.nil [(2, _), (3, _)] rfl ?_)
       refine WC.ret ?_
       refine ⟨[_, _], (res_cellN [_, _, _, _, _, _, _, _, _, _, _, _, _, _, _, _] rfl (M75.at 0 rfl) (Nat.le_of_ble_eq_true rfl) rfl (res_tmp rfl res_nil)), ?_⟩
       have hno : ∀ o0, MayO o0 → encO o0 ≠ s := by
         intro o0 hm he2
         have he := he2.symm
         obtain ⟨a1, a2, a3⟩ := R7_.2.2 o0.op (encO o0).tail rfl (by rw [he]; exact encO_cons o0)
         have hop := hm.1
         have hk : o0.op.toNat = 3 := by rw [← a2] at hop ⊢; omega
         have e := plainO_3 hk
         rw [← hm.2.1] at e
         rw [encO_3 hk] at a3
         obtain ⟨z0a, ⟨w0, w1, w2, w3, w4, w5, w6, w7⟩, z0c⟩ := R68_.2.2 o0.t0 o0.t1 o0.t2 o0.t3 o0.t4 o0.t5 o0.t6 o0.t7 ([]) a1 (by first | (rw [a3]; done) | (rw [a3]; simp [Oper.tok]; done))
         have eqc : (⟨m7_, 0, m68_0, m68_1, m68_2, m68_3, m68_4, m68_5, m68_6, m68_7, 0, 0, 0, 0, 0, 0⟩ : Oper) = o0 := by (rw [e]; rw [a2, w0, w1, w2, w3, w4, w5, w6, w7])
         first
         | exact Bool.noConfusion (z0a.symm.trans (show b68_ = false by assumption))
         | (have q := congrArg List.length z0c; simp only [List.length_nil] at q; omega)
         | exact absurd (show mayOB (⟨m7_, 0, m68_0, m68_1, m68_2, m68_3, m68_4, m68_5, m68_6, m68_7, 0, 0, 0, 0, 0, 0⟩ : Oper) = true by rw [eqc]; exact decide_eq_true hm) (by rw [show mayOB (⟨m7_, 0, m68_0, m68_1, m68_2, m68_3, m68_4, m68_5, m68_6, m68_7, 0, 0, 0, 0, 0, 0⟩ : Oper) = false by assumption]; decide)
       exact ⟨zeroO2, false, rfl, rdO_no hno, M75.bare.take 0⟩
      ·
       refine WS.op rfl rfl (WS.op rfl rfl (WS.op rfl (op_lds [_, _, _, _, _, _, _, _, _, _, _, _, _, _, _, _] (M71.at 0 rfl) rfl (Nat.le_of_ble_eq_true rfl) rfl) ?_))
       refine WS.call rfl rfl rfl (refMayO_ran M71.here (o := (⟨m7_, 0, m68_0, m68_1, m68_2, m68_3, m68_4, m68_5, m68_6, m68_7, 0, 0, 0, 0, 0, 0⟩ : Oper))) ?_
       rintro _ h76 ⟨rfl, N77⟩
       have M78 := M71.trans N77
       cases hb6 : (mayOB (⟨m7_, 0, m68_0, m68_1, m68_2, m68_3, m68_4, m68_5, m68_6, m68_7, 0, 0, 0, 0, 0, 0⟩ : Oper))
       ·
        refine WS.opV (.bool true) rfl rfl rfl (WS.op rfl rfl (WS.nil [(2, _), (5, _), (78, _)] rfl ?_))
        refine WC.condT rfl ?_
        refine WC.seq ?_
        refine WC.run ?_
        refine WS.opV (.agg #[(.int .u8 (0 : Int)), (.int .u8 (0 : Int)), (.int .u8 (0 : Int)), (.int .u8 (0 : Int)), (.int .u8 (0 : Int)), (.int .u8 (0 : Int)), (.int .u8 (0 : Int)), (.int .u8 (0 : Int)), (.int .u8 (0 : Int)), (.int .u8 (0 : Int)), (.int .u8 (0 : Int)), (.int .i64 (0 : Int)), (.int .i64 (0 : Int)), (.int .i64 (0 : Int)), (.int .i64 (0 : Int)), (.int .u8 (0 : Int))]) rfl rfl rfl ?_
        refine WS.st1 (M78.focus 2 rfl) [_, _, _, _, _, _, _, _, _, _, _, _, _, _, _, _] [_, _, _, _, _, _, _, _, _, _, _, _, _, _, _, _] rfl rfl rfl rfl rfl (Nat.le_of_ble_eq_true rfl) (Nat.le_of_ble_eq_true rfl) rfl rfl ?_
        intro h79 M80
        replace M80 : Mem _ _ ([(p1, _)] :: [(p9, _)] :: [(p4, _)] :: []) _ := M80
        refine WS.op rfl rfl (WS.nil [(2, _), (3, _)] rfl ?_)
        refine WC.ret ?_
        refine ⟨[_, _], (res_cellN [_, _, _, _, _, _, _, _, _, _, _, _, _, _, _, _] rfl (M80.at 0 rfl) (Nat.le_of_ble_eq_true rfl) rfl (res_tmp rfl res_nil)), ?_⟩
        have hno : ∀ o0, MayO o0 → encO o0 ≠ s := by
          intro o0 hm he2
          have he := he2.symm
          obtain ⟨a1, a2, a3⟩ := R7_.2.2 o0.op (encO o0).tail rfl (by rw [he]; exact encO_cons o0)
          have hop := hm.1
          have hk : o0.op.toNat = 3 := by rw [← a2] at hop ⊢; omega
          have e := plainO_3 hk
          rw [← hm.2.1] at e
          rw [encO_3 hk] at a3
          obtain ⟨z0a, ⟨w0, w1, w2, w3, w4, w5, w6, w7⟩, z0c⟩ := R68_.2.2 o0.t0 o0.t1 o0.t2 o0.t3 o0.t4 o0.t5 o0.t6 o0.t7 ([]) a1 (by first | (rw [a3]; done) | (rw [a3]; simp [Oper.tok]; done))
          have eqc : (⟨m7_, 0, m68_0, m68_1, m68_2, m68_3, m68_4, m68_5, m68_6, m68_7, 0, 0, 0, 0, 0, 0⟩ : Oper) = o0 := by (rw [e]; rw [a2, w0, w1, w2, w3, w4, w5, w6, w7])
          first
          | exact Bool.noConfusion (z0a.symm.trans (show b68_ = false by assumption))
          | (have q := congrArg List.length z0c; simp only [List.length_nil] at q; omega)
          | exact absurd (show mayOB (⟨m7_, 0, m68_0, m68_1, m68_2, m68_3, m68_4, m68_5, m68_6, m68_7, 0, 0, 0, 0, 0, 0⟩ : Oper) = true by rw [eqc]; exact decide_eq_true hm) (by rw [show mayOB (⟨m7_, 0, m68_0, m68_1, m68_2, m68_3, m68_4, m68_5, m68_6, m68_7, 0, 0, 0, 0, 0, 0⟩ : Oper) = false by assumption]; decide)
        exact ⟨zeroO2, false, rfl, rdO_no hno, M80.bare.take 0⟩
       ·
        refine WS.opV (.bool false) rfl rfl rfl (WS.op rfl rfl (WS.nil [(2, _), (5, _), (78, _)] rfl ?_))
        refine WC.condF rfl ?_
        refine WC.skip ?_
        refine WC.seq ?_
        refine WC.run ?_
        refine WS.op rfl (op_lds [_, _, _, _, _, _, _, _, _, _, _, _, _, _, _, _] (M78.at 0 rfl) rfl (Nat.le_of_ble_eq_true rfl) rfl) ?_
        refine WS.st1 (M78.focus 2 rfl) [_, _, _, _, _, _, _, _, _, _, _, _, _, _, _, _] [_, _, _, _, _, _, _, _, _, _, _, _, _, _, _, _] rfl rfl rfl rfl rfl (Nat.le_of_ble_eq_true rfl) (Nat.le_of_ble_eq_true rfl) rfl rfl ?_
        intro h81 M82
        replace M82 : Mem _ _ ([(p1, _)] :: [(p9, _)] :: [(p4, _)] :: []) _ := M82
        refine WS.op rfl rfl (WS.nil [(2, _), (3, _)] rfl ?_)
        refine WC.ret ?_
        refine ⟨[_, _], (res_cellN [_, _, _, _, _, _, _, _, _, _, _, _, _, _, _, _] rfl (M82.at 0 rfl) (Nat.le_of_ble_eq_true rfl) rfl (res_tmp rfl res_nil)), ?_⟩
        have hs0 : s68_ = [] := List.eq_nil_of_length_eq_zero (by omega)
        have hm : MayO (⟨m7_, 0, m68_0, m68_1, m68_2, m68_3, m68_4, m68_5, m68_6, m68_7, 0, 0, 0, 0, 0, 0⟩ : Oper) := of_decide_eq_true (p := MayO (⟨m7_, 0, m68_0, m68_1, m68_2, m68_3, m68_4, m68_5, m68_6, m68_7, 0, 0, 0, 0, 0, 0⟩ : Oper)) (by assumption)
        obtain ⟨r1, r2⟩ := hm.1
        dsimp only at r1 r2
        obtain ⟨y1, e1'⟩ := R68_.2.1 (show b68_ = true by assumption)
        obtain ⟨y0, e0'⟩ := R7_.2.1 y1
        have henc : encO (⟨m7_, 0, m68_0, m68_1, m68_2, m68_3, m68_4, m68_5, m68_6, m68_7, 0, 0, 0, 0, 0, 0⟩ : Oper) = s := by
          rw [encO_3 (by dsimp only; omega)]
          simp only [Oper.tok]
          rw [e0', e1', hs0]
          try simp
        exact ⟨(⟨m7_, 0, m68_0, m68_1, m68_2, m68_3, m68_4, m68_5, m68_6, m68_7, 0, 0, 0, 0, 0, 0⟩ : Oper), true, rfl, ⟨fun _ => ⟨hm, henc⟩, fun q => nomatch q⟩, M82.bare.take 0⟩
    ·
     refine WS.op rfl rfl (WS.nil [(2, _), (4, _), (5, _), (14, _), (50, _)] rfl ?_)
     refine WC.condF rfl ?_
     refine WC.seq ?_
     refine WC.run ?_
     refine WS.eqlN (a := (m7_).toNat) (b := 4) rfl rfl rfl (fun e56 => ?_) (fun e56 => ?_)
     ·
      refine WS.op rfl rfl (WS.nil [(2, _), (4, _), (5, _), (55, _)] rfl ?_)
      refine WC.condT rfl ?_
      refine WC.run ?_
      refine WS.op rfl rfl ?_
      refine WS.call rfl rfl rfl (tk_byte_ran (s := s7_) (w := b7_) (M13.focus 1 rfl) (by omega)) ?_
      rintro _ h83 ⟨s83_, b83_, m83_, rfl, M84, R83_⟩
      have R83_l := R83_.1
      replace M84 : Mem _ _ ([(p4, _)] :: [(p9, _)] :: [(p1, _)] :: []) _ := M84
      refine WS.opV (.int .u8 (((m83_).toNat : Nat) : Int)) rfl rfl (cv_u8 (n := (m83_).toNat) (by have := UInt8.toNat_lt (m83_); omega)) (WS.op rfl rfl ?_)
      refine WS.st1 (M84.focus 1 rfl) [_] [_, _, _, _, _, _, _, _, _, _, _, _, _, _, _, _] rfl rfl rfl rfl rfl (Nat.le_of_ble_eq_true rfl) (Nat.le_of_ble_eq_true rfl) rfl rfl ?_
      intro h85 M86
      replace M86 : Mem _ _ ([(p9, _)] :: [(p4, _)] :: [(p1, _)] :: []) _ := M86
      refine WS.nil [(2, _), (4, _), (5, _)] rfl ?_
      refine WC.seq ?_
      refine WC.seq ?_
      refine WC.run ?_
      refine WS.op rfl rfl (WS.op rfl rfl (WS.op rfl rfl (WS.op rfl (op_ld (M86.at 1 rfl) rfl rfl) ?_)))
      cases hb7 : b83_
      ·
       refine WS.opV (.bool true) rfl rfl rfl (WS.op rfl rfl (WS.off rfl (WS.off rfl (WS.off rfl (WS.off rfl (WS.off rfl (WS.off rfl (WS.op rfl rfl (WS.op rfl rfl ?_)))))))))
       refine WS.off rfl (WS.offC rfl (WS.off rfl (WS.op rfl rfl (WS.nil [(2, _), (5, _), (78, _)] rfl ?_))))
       refine WC.condT rfl ?_
       refine WC.seq ?_
       refine WC.run ?_
       refine WS.opV (.agg #[(.int .u8 (0 : Int)), (.int .u8 (0 : Int)), (.int .u8 (0 : Int)), (.int .u8 (0 : Int)), (.int .u8 (0 : Int)), (.int .u8 (0 : Int)), (.int .u8 (0 : Int)), (.int .u8 (0 : Int)), (.int .u8 (0 : Int)), (.int .u8 (0 : Int)), (.int .u8 (0 : Int)), (.int .i64 (0 : Int)), (.int .i64 (0 : Int)), (.int .i64 (0 : Int)), (.int .i64 (0 : Int)), (.int .u8 (0 : Int))]) rfl rfl rfl ?_
       refine WS.st1 (M86.focus 2 rfl) [_, _, _, _, _, _, _, _, _, _, _, _, _, _, _, _] [_, _, _, _, _, _, _, _, _, _, _, _, _, _, _, _] rfl rfl rfl rfl rfl (Nat.le_of_ble_eq_true rfl) (Nat.le_of_ble_eq_true rfl) rfl rfl ?_
       intro h87 M88
       replace M88 : Mem _ _ ([(p1, _)] :: [(p9, _)] :: [(p4, _)] :: []) _ := M88
       refine WS.op rfl rfl (WS.nil [(2, _), (3, _)] rfl ?_)
       refine WC.ret ?_
       refine ⟨[_, _], (res_cellN [_, _, _, _, _, _, _, _, _, _, _, _, _, _, _, _] rfl (M88.at 0 rfl) (Nat.le_of_ble_eq_true rfl) rfl (res_tmp rfl res_nil)), ?_⟩
       have hno : ∀ o0, MayO o0 → encO o0 ≠ s := by
         intro o0 hm he2
         have he := he2.symm
         obtain ⟨a1, a2, a3⟩ := R7_.2.2 o0.op (encO o0).tail rfl (by rw [he]; exact encO_cons o0)
         have hop := hm.1
         have hk : o0.op.toNat = 4 := by rw [← a2] at hop ⊢; omega
         have e := plainO_4 hk
         rw [← hm.2.1] at e
         rw [encO_4 hk] at a3
         obtain ⟨z0a, z0b, z0c⟩ := R83_.2.2 o0.sl ([]) a1 (by first | (rw [a3]; done) | (rw [a3]; simp [Oper.tok]; done))
         have eqc : (⟨m7_, m83_, 0, 0, 0, 0, 0, 0, 0, 0, 0, 0, 0, 0, 0, 0⟩ : Oper) = o0 := by (rw [e]; rw [a2, z0b])
         first
         | exact Bool.noConfusion (z0a.symm.trans (show b83_ = false by assumption))
         | (have q := congrArg List.length z0c; simp only [List.length_nil] at q; omega)
         | exact absurd (show mayOB (⟨m7_, m83_, 0, 0, 0, 0, 0, 0, 0, 0, 0, 0, 0, 0, 0, 0⟩ : Oper) = true by rw [eqc]; exact decide_eq_true hm) (by rw [show mayOB (⟨m7_, m83_, 0, 0, 0, 0, 0, 0, 0, 0, 0, 0, 0, 0, 0, 0⟩ : Oper) = false by assumption]; decide)
       exact ⟨zeroO2, false, rfl, rdO_no hno, M88.bare.take 0⟩
      ·
       refine WS.opV (.bool false) rfl rfl rfl (WS.op rfl rfl (WS.op rfl rfl (WS.op rfl rfl (WS.op rfl rfl (WS.op rfl (op_ld (M86.at 1 rfl) rfl rfl) (WS.op rfl (op_lenS (l := s83_) rfl) ?_))))))
       refine WS.gtrN (a := (s83_).length) (b := 0) rfl rfl rfl (fun e72 => ?_) (fun e72 => ?_)
       ·
        refine WS.op rfl rfl (WS.op rfl rfl (WS.off rfl (WS.offC rfl (WS.off rfl (WS.op rfl rfl (WS.nil [(2, _), (5, _), (78, _)] rfl ?_))))))
        refine WC.condT rfl ?_
        refine WC.seq ?_
        refine WC.run ?_
        refine WS.opV (.agg #[(.int .u8 (0 : Int)), (.int .u8 (0 : Int)), (.int .u8 (0 : Int)), (.int .u8 (0 : Int)), (.int .u8 (0 : Int)), (.int .u8 (0 : Int)), (.int .u8 (0 : Int)), (.int .u8 (0 : Int)), (.int .u8 (0 : Int)), (.int .u8 (0 : Int)), (.int .u8 (0 : Int)), (.int .i64 (0 : Int)), (.int .i64 (0 : Int)), (.int .i64 (0 : Int)), (.int .i64 (0 : Int)), (.int .u8 (0 : Int))]) rfl rfl rfl ?_
        refine WS.st1 (M86.focus 2 rfl) [_, _, _, _, _, _, _, _, _, _, _, _, _, _, _, _] [_, _, _, _, _, _, _, _, _, _, _, _, _, _, _, _] rfl rfl rfl rfl rfl (Nat.le_of_ble_eq_true rfl) (Nat.le_of_ble_eq_true rfl) rfl rfl ?_
        intro h89 M90
        replace M90 : Mem _ _ ([(p1, _)] :: [(p9, _)] :: [(p4, _)] :: []) _ := M90
        refine WS.op rfl rfl (WS.nil [(2, _), (3, _)] rfl ?_)
        refine WC.ret ?_
        refine ⟨[_, _], (res_cellN [_, _, _, _, _, _, _, _, _, _, _, _, _, _, _, _] rfl (M90.at 0 rfl) (Nat.le_of_ble_eq_true rfl) rfl (res_tmp rfl res_nil)), ?_⟩
        have hno : ∀ o0, MayO o0 → encO o0 ≠ s := by
          intro o0 hm he2
          have he := he2.symm
          obtain ⟨a1, a2, a3⟩ := R7_.2.2 o0.op (encO o0).tail rfl (by rw [he]; exact encO_cons o0)
          have hop := hm.1
          have hk : o0.op.toNat = 4 := by rw [← a2] at hop ⊢; omega
          have e := plainO_4 hk
          rw [← hm.2.1] at e
          rw [encO_4 hk] at a3
          obtain ⟨z0a, z0b, z0c⟩ := R83_.2.2 o0.sl ([]) a1 (by first | (rw [a3]; done) | (rw [a3]; simp [Oper.tok]; done))
          have eqc : (⟨m7_, m83_, 0, 0, 0, 0, 0, 0, 0, 0, 0, 0, 0, 0, 0, 0⟩ : Oper) = o0 := by (rw [e]; rw [a2, z0b])
          first
          | exact Bool.noConfusion (z0a.symm.trans (show b83_ = false by assumption))
          | (have q := congrArg List.length z0c; simp only [List.length_nil] at q; omega)
          | exact absurd (show mayOB (⟨m7_, m83_, 0, 0, 0, 0, 0, 0, 0, 0, 0, 0, 0, 0, 0, 0⟩ : Oper) = true by rw [eqc]; exact decide_eq_true hm) (by rw [show mayOB (⟨m7_, m83_, 0, 0, 0, 0, 0, 0, 0, 0, 0, 0, 0, 0, 0, 0⟩ : Oper) = false by assumption]; decide)
        exact ⟨zeroO2, false, rfl, rdO_no hno, M90.bare.take 0⟩
       ·
        refine WS.op rfl rfl (WS.op rfl rfl (WS.op rfl (op_lds [_, _, _, _, _, _, _, _, _, _, _, _, _, _, _, _] (M86.at 0 rfl) rfl (Nat.le_of_ble_eq_true rfl) rfl) ?_))
        refine WS.call rfl rfl rfl (refMayO_ran M86.here (o := (⟨m7_, m83_, 0, 0, 0, 0, 0, 0, 0, 0, 0, 0, 0, 0, 0, 0⟩ : Oper))) ?_
        rintro _ h91 ⟨rfl, N92⟩
        have M93 := M86.trans N92
        cases hb8 : (mayOB (⟨m7_, m83_, 0, 0, 0, 0, 0, 0, 0, 0, 0, 0, 0, 0, 0, 0⟩ : Oper))
        ·
         refine WS.opV (.bool true) rfl rfl rfl (WS.op rfl rfl (WS.nil [(2, _), (5, _), (78, _)] rfl ?_))
         refine WC.condT rfl ?_
         refine WC.seq ?_
         refine WC.run ?_
         refine WS.opV (.agg #[(.int .u8 (0 : Int)), (.int .u8 (0 : Int)), (.int .u8 (0 : Int)), (.int .u8 (0 : Int)), (.int .u8 (0 : Int)), (.int .u8 (0 : Int)), (.int .u8 (0 : Int)), (.int .u8 (0 : Int)), (.int .u8 (0 : Int)), (.int .u8 (0 : Int)), (.int .u8 (0 : Int)), (.int .i64 (0 : Int)), (.int .i64 (0 : Int)), (.int .i64 (0 : Int)), (.int .i64 (0 : Int)), (.int .u8 (0 : Int))]) rfl rfl rfl ?_
         refine WS.st1 (M93.focus 2 rfl) [_, _, _, _, _, _, _, _, _, _, _, _, _, _, _, _] [_, _, _, _, _, _, _, _, _, _, _, _, _, _, _, _] rfl rfl rfl rfl rfl (Nat.le_of_ble_eq_true rfl) (Nat.le_of_ble_eq_true rfl) rfl rfl ?_
         intro h94 M95
         replace M95 : Mem _ _ ([(p1, _)] :: [(p9, _)] :: [(p4, _)] :: []) _ := M95
         refine WS.op rfl rfl (WS.nil [(2, _), (3, _)] rfl ?_)
         refine WC.ret ?_
         refine ⟨[_, _], (res_cellN [_, _, _, _, _, _, _, _, _, _, _, _, _, _, _, _] rfl (M95.at 0 rfl) (Nat.le_of_ble_eq_true rfl) rfl (res_tmp rfl res_nil)), ?_⟩
         have hno : ∀ o0, MayO o0 → encO o0 ≠ s := by
           intro o0 hm he2
           have he := he2.symm
           obtain ⟨a1, a2, a3⟩ := R7_.2.2 o0.op (encO o0).tail rfl (by rw [he]; exact encO_cons o0)
           have hop := hm.1
           have hk : o0.op.toNat = 4 := by rw [← a2] at hop ⊢; omega
           have e := plainO_4 hk
           rw [← hm.2.1] at e
           rw [encO_4 hk] at a3
           obtain ⟨z0a, z0b, z0c⟩ := R83_.2.2 o0.sl ([]) a1 (by first | (rw [a3]; done) | (rw [a3]; simp [Oper.tok]; done))
           have eqc : (⟨m7_, m83_, 0, 0, 0, 0, 0, 0, 0, 0, 0, 0, 0, 0, 0, 0⟩ : Oper) = o0 := by (rw [e]; rw [a2, z0b])
           first
           | exact Bool.noConfusion (z0a.symm.trans (show b83_ = false by assumption))
           | (have q := congrArg List.length z0c; simp only [List.length_nil] at q; omega)
           | exact absurd (show mayOB (⟨m7_, m83_, 0, 0, 0, 0, 0, 0, 0, 0, 0, 0, 0, 0, 0, 0⟩ : Oper) = true by rw [eqc]; exact decide_eq_true hm) (by rw [show mayOB (⟨m7_, m83_, 0, 0, 0, 0, 0, 0, 0, 0, 0, 0, 0, 0, 0, 0⟩ : Oper) = false by assumption]; decide)
         exact ⟨zeroO2, false, rfl, rdO_no hno, M95.bare.take 0⟩
        ·
         refine WS.opV (.bool false) rfl rfl rfl (WS.op rfl rfl (WS.nil [(2, _), (5, _), (78, _)] rfl ?_))
         refine WC.condF rfl ?_
         refine WC.skip ?_
         refine WC.seq ?_
         refine WC.run ?_
         refine WS.op rfl (op_lds [_, _, _, _, _, _, _, _, _, _, _, _, _, _, _, _] (M93.at 0 rfl) rfl (Nat.le_of_ble_eq_true rfl) rfl) ?_
         refine WS.st1 (M93.focus 2 rfl) [_, _, _, _, _, _, _, _, _, _, _, _, _, _, _, _] [_, _, _, _, _, _, _, _, _, _, _, _, _, _, _, _] rfl rfl rfl rfl rfl (Nat.le_of_ble_eq_true rfl) (Nat.le_of_ble_eq_true rfl) rfl rfl ?_
         intro h96 M97
         replace M97 : Mem _ _ ([(p1, _)] :: [(p9, _)] :: [(p4, _)] :: []) _ := M97
         refine WS.op rfl rfl (WS.nil [(2, _), (3, _)] rfl ?_)
         refine WC.ret ?_
         refine ⟨[_, _], (res_cellN [_, _, _, _, _, _, _, _, _, _, _, _, _, _, _, _] rfl (M97.at 0 rfl) (Nat.le_of_ble_eq_true rfl) rfl (res_tmp rfl res_nil)), ?_⟩
         have hs0 : s83_ = [] := List.eq_nil_of_length_eq_zero (by omega)
         have hm : MayO (⟨m7_, m83_, 0, 0, 0, 0, 0, 0, 0, 0, 0, 0, 0, 0, 0, 0⟩ : Oper) := of_decide_eq_true (p := MayO (⟨m7_, m83_, 0, 0, 0, 0, 0, 0, 0, 0, 0, 0, 0, 0, 0, 0⟩ : Oper)) (by assumption)
         obtain ⟨r1, r2⟩ := hm.1
         dsimp only at r1 r2
         obtain ⟨y1, e1'⟩ := R83_.2.1 (show b83_ = true by assumption)
         obtain ⟨y0, e0'⟩ := R7_.2.1 y1
         have henc : encO (⟨m7_, m83_, 0, 0, 0, 0, 0, 0, 0, 0, 0, 0, 0, 0, 0, 0⟩ : Oper) = s := by
           rw [encO_4 (by dsimp only; omega)]
           simp only [Oper.tok]
           rw [e0', e1', hs0]
           try simp
         exact ⟨(⟨m7_, m83_, 0, 0, 0, 0, 0, 0, 0, 0, 0, 0, 0, 0, 0, 0⟩ : Oper), true, rfl, ⟨fun _ => ⟨hm, henc⟩, fun q => nomatch q⟩, M97.bare.take 0⟩
     ·
      refine WS.op rfl rfl (WS.nil [(2, _), (4, _), (5, _), (55, _)] rfl ?_)
      refine WC.condF rfl ?_
      refine WC.run ?_
      refine WS.op rfl rfl ?_
      refine WS.call rfl rfl rfl (tk_byte_ran (s := s7_) (w := b7_) (M13.focus 1 rfl) (by omega)) ?_
      rintro _ h98 ⟨s98_, b98_, m98_, rfl, M99, R98_⟩
      have R98_l := R98_.1
      replace M99 : Mem _ _ ([(p4, _)] :: [(p9, _)] :: [(p1, _)] :: []) _ := M99
      refine WS.opV (.int .u8 (((m98_).toNat : Nat) : Int)) rfl rfl (cv_u8 (n := (m98_).toNat) (by have := UInt8.toNat_lt (m98_); omega)) (WS.op rfl rfl ?_)
      refine WS.st1 (M99.focus 1 rfl) [_] [_, _, _, _, _, _, _, _, _, _, _, _, _, _, _, _] rfl rfl rfl rfl rfl (Nat.le_of_ble_eq_true rfl) (Nat.le_of_ble_eq_true rfl) rfl rfl ?_
      intro h100 M101
      replace M101 : Mem _ _ ([(p9, _)] :: [(p4, _)] :: [(p1, _)] :: []) _ := M101
      refine WS.nil [(2, _), (4, _), (5, _)] rfl ?_
      refine WC.seq ?_
      refine WC.seq ?_
      refine WC.run ?_
      refine WS.op rfl rfl (WS.op rfl rfl (WS.op rfl rfl (WS.op rfl (op_ld (M101.at 1 rfl) rfl rfl) ?_)))
      cases hb9 : b98_
      ·
       refine WS.opV (.bool true) rfl rfl rfl (WS.op rfl rfl (WS.off rfl (WS.off rfl (WS.off rfl (WS.off rfl (WS.off rfl (WS.off rfl (WS.op rfl rfl (WS.op rfl rfl ?_)))))))))
       refine WS.off rfl (WS.offC rfl (WS.off rfl (WS.op rfl rfl (WS.nil [(2, _), (5, _), (78, _)] rfl ?_))))
       refine WC.condT rfl ?_
       refine WC.seq ?_
       refine WC.run ?_
       refine WS.opV (.agg #[(.int .u8 (0 : Int)), (.int .u8 (0 : Int)), (.int .u8 (0 : Int)), (.int .u8 (0 : Int)), (.int .u8 (0 : Int)), (.int .u8 (0 : Int)), (.int .u8 (0 : Int)), (.int .u8 (0 : Int)), (.int .u8 (0 : Int)), (.int .u8 (0 : Int)), (.int .u8 (0 : Int)), (.int .i64 (0 : Int)), (.int .i64 (0 : Int)), (.int .i64 (0 : Int)), (.int .i64 (0 : Int)), (.int .u8 (0 : Int))]) rfl rfl rfl ?_
       refine WS.st1 (M101.focus 2 rfl) [_, _, _, _, _, _, _, _, _, _, _, _, _, _, _, _] [_, _, _, _, _, _, _, _, _, _, _, _, _, _, _, _] rfl rfl rfl rfl rfl (Nat.le_of_ble_eq_true rfl) (Nat.le_of_ble_eq_true rfl) rfl rfl ?_
       intro h102 M103
       replace M103 : Mem _ _ ([(p1, _)] :: [(p9, _)] :: [(p4, _)] :: []) _ := M103
       refine WS.op rfl rfl (WS.nil [(2, _), (3, _)] rfl ?_)
       refine WC.ret ?_
       refine ⟨[_, _], (res_cellN [_, _, _, _, _, _, _, _, _, _, _, _, _, _, _, _] rfl (M103.at 0 rfl) (Nat.le_of_ble_eq_true rfl) rfl (res_tmp rfl res_nil)), ?_⟩
       have hno : ∀ o0, MayO o0 → encO o0 ≠ s := by
         intro o0 hm he2
         have he := he2.symm
         obtain ⟨a1, a2, a3⟩ := R7_.2.2 o0.op (encO o0).tail rfl (by rw [he]; exact encO_cons o0)
         have hop := hm.1
         have hk : 4 < o0.op.toNat := by rw [← a2] at hop ⊢; omega
         have e := plainO_5 hk
         rw [← hm.2.1] at e
         rw [encO_5 hk] at a3
         obtain ⟨z0a, z0b, z0c⟩ := R98_.2.2 o0.nd ([]) a1 (by first | (rw [a3]; done) | (rw [a3]; simp [Oper.tok]; done))
         have eqc : (⟨m7_, 0, 0, 0, 0, 0, 0, 0, 0, 0, 0, 0, 0, 0, 0, m98_⟩ : Oper) = o0 := by (rw [e]; rw [a2, z0b])
         first
         | exact Bool.noConfusion (z0a.symm.trans (show b98_ = false by assumption))
         | (have q := congrArg List.length z0c; simp only [List.length_nil] at q; omega)
         | exact absurd (show mayOB (⟨m7_, 0, 0, 0, 0, 0, 0, 0, 0, 0, 0, 0, 0, 0, 0, m98_⟩ : Oper) = true by rw [eqc]; exact decide_eq_true hm) (by rw [show mayOB (⟨m7_, 0, 0, 0, 0, 0, 0, 0, 0, 0, 0, 0, 0, 0, 0, m98_⟩ : Oper) = false by assumption]; decide)
       exact ⟨zeroO2, false, rfl, rdO_no hno, M103.bare.take 0⟩
      ·
       refine WS.opV (.bool false) rfl rfl rfl (WS.op rfl rfl (WS.op rfl rfl (WS.op rfl rfl (WS.op rfl rfl (WS.op rfl (op_ld (M101.at 1 rfl) rfl rfl) (WS.op rfl (op_lenS (l := s98_) rfl) ?_))))))
       refine WS.gtrN (a := (s98_).length) (b := 0) rfl rfl rfl (fun e72 => ?_) (fun e72 => ?_)
       ·
        refine WS.op rfl rfl (WS.op rfl rfl (WS.off rfl (WS.offC rfl (WS.off rfl (WS.op rfl rfl (WS.nil [(2, _), (5, _), (78, _)] rfl ?_))))))
        refine WC.condT rfl ?_
        refine WC.seq ?_
        refine WC.run ?_
        refine WS.opV (.agg #[(.int .u8 (0 : Int)), (.int .u8 (0 : Int)), (.int .u8 (0 : Int)), (.int .u8 (0 : Int)), (.int .u8 (0 : Int)), (.int .u8 (0 : Int)), (.int .u8 (0 : Int)), (.int .u8 (0 : Int)), (.int .u8 (0 : Int)), (.int .u8 (0 : Int)), (.int .u8 (0 : Int)), (.int .i64 (0 : Int)), (.int .i64 (0 : Int)), (.int .i64 (0 : Int)), (.int .i64 (0 : Int)), (.int .u8 (0 : Int))]) rfl rfl rfl ?_
        refine WS.st1 (M101.focus 2 rfl) [_, _, _, _, _, _, _, _, _, _, _, _, _, _, _, _] [_, _, _, _, _, _, _, _, _, _, _, _, _, _, _, _] rfl rfl rfl rfl rfl (Nat.le_of_ble_eq_true rfl) (Nat.le_of_ble_eq_true rfl) rfl rfl ?_
        intro h104 M105
        replace M105 : Mem _ _ ([(p1, _)] :: [(p9, _)] :: [(p4, _)] :: []) _ := M105
        refine WS.op rfl rfl (WS.nil [(2, _), (3, _)] rfl ?_)
        refine WC.ret ?_
        refine ⟨[_, _], (res_cellN [_, _, _, _, _, _, _, _, _, _, _, _, _, _, _, _] rfl (M105.at 0 rfl) (Nat.le_of_ble_eq_true rfl) rfl (res_tmp rfl res_nil)), ?_⟩
        have hno : ∀ o0, MayO o0 → encO o0 ≠ s := by
          intro o0 hm he2
          have he := he2.symm
          obtain ⟨a1, a2, a3⟩ := R7_.2.2 o0.op (encO o0).tail rfl (by rw [he]; exact encO_cons o0)
          have hop := hm.1
          have hk : 4 < o0.op.toNat := by rw [← a2] at hop ⊢; omega
          have e := plainO_5 hk
          rw [← hm.2.1] at e
          rw [encO_5 hk] at a3
          obtain ⟨z0a, z0b, z0c⟩ := R98_.2.2 o0.nd ([]) a1 (by first | (rw [a3]; done) | (rw [a3]; simp [Oper.tok]; done))
          have eqc : (⟨m7_, 0, 0, 0, 0, 0, 0, 0, 0, 0, 0, 0, 0, 0, 0, m98_⟩ : Oper) = o0 := by (rw [e]; rw [a2, z0b])
          first
          | exact Bool.noConfusion (z0a.symm.trans (show b98_ = false by assumption))
          | (have q := congrArg List.length z0c; simp only [List.length_nil] at q; omega)
          | exact absurd (show mayOB (⟨m7_, 0, 0, 0, 0, 0, 0, 0, 0, 0, 0, 0, 0, 0, 0, m98_⟩ : Oper) = true by rw [eqc]; exact decide_eq_true hm) (by rw [show mayOB (⟨m7_, 0, 0, 0, 0, 0, 0, 0, 0, 0, 0, 0, 0, 0, 0, m98_⟩ : Oper) = false by assumption]; decide)
        exact ⟨zeroO2, false, rfl, rdO_no hno, M105.bare.take 0⟩
       ·
        refine WS.op rfl rfl (WS.op rfl rfl (WS.op rfl (op_lds [_, _, _, _, _, _, _, _, _, _, _, _, _, _, _, _] (M101.at 0 rfl) rfl (Nat.le_of_ble_eq_true rfl) rfl) ?_))
        refine WS.call rfl rfl rfl (refMayO_ran M101.here (o := (⟨m7_, 0, 0, 0, 0, 0, 0, 0, 0, 0, 0, 0, 0, 0, 0, m98_⟩ : Oper))) ?_
        rintro _ h106 ⟨rfl, N107⟩
        have M108 := M101.trans N107
        cases hb10 : (mayOB (⟨m7_, 0, 0, 0, 0, 0, 0, 0, 0, 0, 0, 0, 0, 0, 0, m98_⟩ : Oper))
        ·
         refine WS.opV (.bool true) rfl rfl rfl (WS.op rfl rfl (WS.nil [(2, _), (5, _), (78, _)] rfl ?_))
         refine WC.condT rfl ?_
         refine WC.seq ?_
         refine WC.run ?_
         refine WS.opV (.agg #[(.int .u8 (0 : Int)), (.int .u8 (0 : Int)), (.int .u8 (0 : Int)), (.int .u8 (0 : Int)), (.int .u8 (0 : Int)), (.int .u8 (0 : Int)), (.int .u8 (0 : Int)), (.int .u8 (0 : Int)), (.int .u8 (0 : Int)), (.int .u8 (0 : Int)), (.int .u8 (0 : Int)), (.int .i64 (0 : Int)), (.int .i64 (0 : Int)), (.int .i64 (0 : Int)), (.int .i64 (0 : Int)), (.int .u8 (0 : Int))]) rfl rfl rfl ?_
         refine WS.st1 (M108.focus 2 rfl) [_, _, _, _, _, _, _, _, _, _, _, _, _, _, _, _] [_, _, _, _, _, _, _, _, _, _, _, _, _, _, _, _] rfl rfl rfl rfl rfl (Nat.le_of_ble_eq_true rfl) (Nat.le_of_ble_eq_true rfl) rfl rfl ?_
         intro h109 M110
         replace M110 : Mem _ _ ([(p1, _)] :: [(p9, _)] :: [(p4, _)] :: []) _ := M110
         refine WS.op rfl rfl (WS.nil [(2, _), (3, _)] rfl ?_)
         refine WC.ret ?_
         refine ⟨[_, _], (res_cellN [_, _, _, _, _, _, _, _, _, _, _, _, _, _, _, _] rfl (M110.at 0 rfl) (Nat.le_of_ble_eq_true rfl) rfl (res_tmp rfl res_nil)), ?_⟩
         have hno : ∀ o0, MayO o0 → encO o0 ≠ s := by
           intro o0 hm he2
           have he := he2.symm
           obtain ⟨a1, a2, a3⟩ := R7_.2.2 o0.op (encO o0).tail rfl (by rw [he]; exact encO_cons o0)
           have hop := hm.1
           have hk : 4 < o0.op.toNat := by rw [← a2] at hop ⊢; omega
           have e := plainO_5 hk
           rw [← hm.2.1] at e
           rw [encO_5 hk] at a3
           obtain ⟨z0a, z0b, z0c⟩ := R98_.2.2 o0.nd ([]) a1 (by first | (rw [a3]; done) | (rw [a3]; simp [Oper.tok]; done))
           have eqc : (⟨m7_, 0, 0, 0, 0, 0, 0, 0, 0, 0, 0, 0, 0, 0, 0, m98_⟩ : Oper) = o0 := by (rw [e]; rw [a2, z0b])
           first
           | exact Bool.noConfusion (z0a.symm.trans (show b98_ = false by assumption))
           | (have q := congrArg List.length z0c; simp only [List.length_nil] at q; omega)
           | exact absurd (show mayOB (⟨m7_, 0, 0, 0, 0, 0, 0, 0, 0, 0, 0, 0, 0, 0, 0, m98_⟩ : Oper) = true by rw [eqc]; exact decide_eq_true hm) (by rw [show mayOB (⟨m7_, 0, 0, 0, 0, 0, 0, 0, 0, 0, 0, 0, 0, 0, 0, m98_⟩ : Oper) = false by assumption]; decide)
         exact ⟨zeroO2, false, rfl, rdO_no hno, M110.bare.take 0⟩
        ·
         refine WS.opV (.bool false) rfl rfl rfl (WS.op rfl rfl (WS.nil [(2, _), (5, _), (78, _)] rfl ?_))
         refine WC.condF rfl ?_
         refine WC.skip ?_
         refine WC.seq ?_
         refine WC.run ?_
         refine WS.op rfl (op_lds [_, _, _, _, _, _, _, _, _, _, _, _, _, _, _, _] (M108.at 0 rfl) rfl (Nat.le_of_ble_eq_true rfl) rfl) ?_
         refine WS.st1 (M108.focus 2 rfl) [_, _, _, _, _, _, _, _, _, _, _, _, _, _, _, _] [_, _, _, _, _, _, _, _, _, _, _, _, _, _, _, _] rfl rfl rfl rfl rfl (Nat.le_of_ble_eq_true rfl) (Nat.le_of_ble_eq_true rfl) rfl rfl ?_
         intro h111 M112
         replace M112 : Mem _ _ ([(p1, _)] :: [(p9, _)] :: [(p4, _)] :: []) _ := M112
         refine WS.op rfl rfl (WS.nil [(2, _), (3, _)] rfl ?_)
         refine WC.ret ?_
         refine ⟨[_, _], (res_cellN [_, _, _, _, _, _, _, _, _, _, _, _, _, _, _, _] rfl (M112.at 0 rfl) (Nat.le_of_ble_eq_true rfl) rfl (res_tmp rfl res_nil)), ?_⟩
         have hs0 : s98_ = [] := List.eq_nil_of_length_eq_zero (by omega)
         have hm : MayO (⟨m7_, 0, 0, 0, 0, 0, 0, 0, 0, 0, 0, 0, 0, 0, 0, m98_⟩ : Oper) := of_decide_eq_true (p := MayO (⟨m7_, 0, 0, 0, 0, 0, 0, 0, 0, 0, 0, 0, 0, 0, 0, m98_⟩ : Oper)) (by assumption)
         obtain ⟨r1, r2⟩ := hm.1
         dsimp only at r1 r2
         obtain ⟨y1, e1'⟩ := R98_.2.1 (show b98_ = true by assumption)
         obtain ⟨y0, e0'⟩ := R7_.2.1 y1
         have henc : encO (⟨m7_, 0, 0, 0, 0, 0, 0, 0, 0, 0, 0, 0, 0, 0, 0, m98_⟩ : Oper) = s := by
           rw [encO_5 (by dsimp only; omega)]
           simp only [Oper.tok]
           rw [e0', e1', hs0]
           try simp
         exact ⟨(⟨m7_, 0, 0, 0, 0, 0, 0, 0, 0, 0, 0, 0, 0, 0, 0, m98_⟩ : Oper), true, rfl, ⟨fun _ => ⟨hm, henc⟩, fun q => nomatch q⟩, M112.bare.take 0⟩
set_option maxRecDepth 8000 in
theorem refReadR_ran (W : Mem h h [] []) {s : List UInt8} (hl : s.length ≤ 299000) : Cll tab0 29 [.string (bs s)] h (fun v h2 => ∃ r V S ok, KRrow.Own V (Res.rs r) S ∧ v = .tuple #[r.val V, .bool ok] ∧ FitRes r ∧ RdR s r ok ∧ Mem h h2 [S] []) := by
  refine Cll.code rfl rfl ?_
  refine WC.env [(0, _)] rfl ?_
  refine WC.seq ?_
  refine WC.run ?_
  refine WS.new W rfl ?_
  intro p1 h2 M3
  refine WS.op rfl rfl (WS.nil [(0, _), (2, _)] rfl ?_)
  refine WC.seq ?_
  refine WC.run ?_
  refine WS.op rfl rfl (WS.opV (.agg #[(.string (bs s)), (.bool true)]) rfl rfl rfl ?_)
  refine WS.box M3 [_, _] rfl rfl rfl rfl ?_
  intro p4 h5 M6
  refine WS.op rfl rfl (WS.nil [(2, _), (4, _)] rfl ?_)
  refine WC.seq ?_
  refine WC.run ?_
  refine WS.op rfl rfl ?_
  refine WS.call rfl rfl rfl (tk_byte_ran (s := s) (w := true) (M6.focus 0 rfl) (by omega)) ?_
  rintro _ h7 ⟨s7_, b7_, m7_, rfl, M8, R7_⟩
  have R7_l := R7_.1
  replace M8 : Mem _ _ ([(p4, _)] :: [(p1, _)] :: []) _ := M8
  refine WS.opV (.int .u8 (((m7_).toNat : Nat) : Int)) rfl rfl (cv_u8 (n := (m7_).toNat) (by have := UInt8.toNat_lt (m7_); omega)) (WS.opV (.agg #[(.int .u8 (((m7_).toNat : Nat) : Int)), (.int .u64 (0 : Int)), (.string (bs ([]))), (.slice none 0 0)]) rfl rfl rfl ?_)
  refine WS.new M8 rfl ?_
  intro p9 h10 M11
  refine WS.st1 (M11.focus 0 rfl) [_, _, _, _] [_, _, _, _] rfl rfl rfl rfl rfl (Nat.le_of_ble_eq_true rfl) (Nat.le_of_ble_eq_true rfl) rfl rfl ?_
  intro h12 M13
  replace M13 : Mem _ _ ([(p9, _)] :: [(p4, _)] :: [(p1, _)] :: []) _ := M13
  refine WS.nil [(2, _), (4, _), (5, _)] rfl ?_
  refine WC.seq ?_
  refine WC.run ?_
  refine WS.op rfl rfl ?_
  refine WS.call rfl rfl rfl (tk_number_ran (s := s7_) (w := b7_) (M13.focus 1 rfl) (by omega)) ?_
  rintro _ h14 ⟨s14_, b14_, m14_, rfl, M15, R14_⟩
  have R14_l := R14_.1
  replace M15 : Mem _ _ ([(p4, _)] :: [(p9, _)] :: [(p1, _)] :: []) _ := M15
  refine WS.op rfl rfl ?_
  refine WS.st1 (M15.focus 1 rfl) [_] [_, _, _, _] rfl rfl rfl rfl rfl (Nat.le_of_ble_eq_true rfl) (Nat.le_of_ble_eq_true rfl) rfl rfl ?_
  intro h16 M17
  replace M17 : Mem _ _ ([(p9, _)] :: [(p4, _)] :: [(p1, _)] :: []) _ := M17
  refine WS.nil [(2, _), (4, _), (5, _)] rfl ?_
  refine WC.seq ?_
  refine WC.run ?_
  refine WS.op rfl rfl ?_
  refine WS.call rfl rfl rfl (tk_text_ran (s := s14_) (w := b14_) (M17.focus 1 rfl) (by omega)) ?_
  rintro _ h18 ⟨s18_, b18_, m18_, rfl, M19, R18_⟩
  have R18_l := R18_.1
  have R18_t := R18_.2.1
  replace M19 : Mem _ _ ([(p4, _)] :: [(p9, _)] :: [(p1, _)] :: []) _ := M19
  refine WS.op rfl rfl ?_
  refine WS.st1 (M19.focus 1 rfl) [_] [_, _, _, _] rfl rfl rfl rfl rfl (Nat.le_of_ble_eq_true rfl) (Nat.le_of_ble_eq_true rfl) rfl rfl ?_
  intro h20 M21
  replace M21 : Mem _ _ ([(p9, _)] :: [(p4, _)] :: [(p1, _)] :: []) _ := M21
  refine WS.nil [(2, _), (4, _), (5, _)] rfl ?_
  refine WC.seq ?_
  refine WC.run ?_
  refine WS.op rfl rfl ?_
  refine WS.call rfl rfl rfl (tk_number_ran (s := s18_) (w := b18_) (M21.focus 1 rfl) (by omega)) ?_
  rintro _ h22 ⟨s22_, b22_, m22_, rfl, M23, R22_⟩
  have R22_l := R22_.1
  replace M23 : Mem _ _ ([(p4, _)] :: [(p9, _)] :: [(p1, _)] :: []) _ := M23
  refine WS.op rfl rfl (WS.nil [(2, _), (4, _), (5, _), (6, _)] rfl ?_)
  refine WC.seq ?_
  refine WC.seq ?_
  refine WC.run ?_
  refine WS.op rfl rfl (WS.nil [(2, _), (4, _), (5, _), (6, _), (7, _)] rfl ?_)
  refine WC.block ?_
  have hN64 := UInt64.toNat_lt m22_
  obtain ⟨L24, eL26, M25⟩ := Mem.name3 ((((M23.bare.focus 1 rfl).focus 1 rfl)).nils)
  refine WC.loop (σ := List UInt8 × Bool × List Rrow × Value × Seg × Nat) (fun ((s_, w_, l, V_, S_, i)) => [(2, (.pointer (some ⟨p1, 0, none⟩))), (4, (.pointer (some ⟨p4, 0, none⟩))), (5, (.pointer (some ⟨p9, 0, none⟩))), (6, (.int .u64 (((m22_).toNat : Nat) : Int))), (7, (.int .u64 ((i : Nat) : Int)))]) (fun ((s_, w_, l, V_, S_, i)) hh => Mem h hh (S_ :: [(p4, ⟨[(.string (bs s_)), (.bool w_)], 0, false⟩)] :: [(p9, ⟨[(.int .u8 (((m7_).toNat : Nat) : Int)), (.int .u64 (((m14_).toNat : Nat) : Int)), (.string (bs m18_)), V_], 0, false⟩)] :: L24) [] ∧ KRrow.Own V_ l S_ ∧ l.length = i ∧ i ≤ (m22_).toNat ∧ s_.length ≤ s.length ∧ FitR l ∧ l.length ≤ 299001 ∧ (w_ = true → s = (((([m7_] ++ vb (UInt64.toNat m14_)) ++ sb m18_) ++ vb (m22_).toNat) ++ l.flatMap rowR) ++ s_) ∧ (∀ r0 : Res, FitRes r0 → s = encR r0 → w_ = true ∧ m7_ = r0.cd ∧ m14_ = r0.n ∧ m18_ = r0.va ∧ (m22_).toNat = r0.rs.length ∧ l = r0.rs.take i ∧ s_ = (r0.rs.drop i).flatMap rowR)) (fun ((s_, w_, l, V_, S_, i)) => (m22_).toNat - i) (s22_, b22_, [], .slice none 0 0, [], 0) rfl ⟨(by exact M25), ?_⟩ ?_
  · exact ⟨.nil, rfl, by omega, by omega, (by intro p hp; cases hp), by simp, (fun q => by obtain ⟨y3, e3⟩ := R22_.2.1 q; obtain ⟨y2, e2⟩ := R18_.2.2.1 y3; obtain ⟨y1, e1⟩ := R14_.2.1 y2; obtain ⟨y0, e0⟩ := R7_.2.1 y1; rw [e0, e1, e2, e3]; simp), fun r0 hf he => by have hq := hf.2.1; obtain ⟨x0, z0, t0⟩ := R7_.2.2 r0.cd (vb r0.n.toNat ++ (sb r0.va ++ (vb r0.rs.length ++ r0.rs.flatMap rowR))) rfl (by rw [he]; simp [encR, headR]); obtain ⟨x1, z1, t1⟩ := R14_.2.2 r0.n.toNat _ (UInt64.toNat_lt _) x0 t0; obtain ⟨x2, z2, t2⟩ := R18_.2.2.2 r0.va _ (by have := hf.1; omega) x1 t1; obtain ⟨x3, z3, t3⟩ := R22_.2.2 r0.rs.length _ (by omega) x2 t2; exact ⟨x3, z0, u64_inj z1, z2, z3, rfl, t3⟩⟩
  ·rintro ⟨s_, w_, l, V_, S_, i⟩ h27 ⟨M28, ⟨hO, hlen, hi1, hsl, hF, hll, hI, hC⟩⟩
   subst eL26
   refine WC.env [(2, _), (4, _), (5, _), (6, _), (7, _)] rfl ?_
   obtain ⟨P_, rfl⟩ := hO.shape
   refine WC.seq ?_
   refine WC.seq ?_
   refine WC.run ?_
   refine WS.op rfl rfl (WS.op rfl rfl ?_)
   refine WS.lssN (a := i) (b := (m22_).toNat) rfl rfl rfl (fun e26 => ?_) (fun e26 => ?_)
   ·
    refine WS.op rfl rfl (WS.op rfl rfl (WS.op rfl rfl (WS.op rfl rfl (WS.op rfl (op_ld (M28.at 1 rfl) rfl rfl) (WS.op rfl rfl (WS.nil [(2, _), (4, _), (5, _), (6, _), (7, _), (32, _)] rfl ?_))))))
    cases w_
    ·
     refine WC.condF rfl ?_
     refine WC.exit ?_
     refine WC.seq ?_
     refine WC.seq ?_
     refine WC.run ?_
     refine WS.op rfl rfl (WS.op rfl rfl (WS.op rfl rfl (WS.op rfl (op_ld (M28.at 1 rfl) rfl rfl) (WS.opV (.bool true) rfl rfl rfl (WS.op rfl rfl (WS.off rfl (WS.off rfl (WS.off rfl (WS.off rfl ?_)))))))))
     refine WS.off rfl (WS.off rfl (WS.op rfl rfl (WS.nil [(2, _), (5, _), (62, _)] rfl ?_)))
     refine WC.condT rfl ?_
     refine WC.seq ?_
     refine WC.run ?_
     refine WS.opV (.agg #[(.int .u8 (0 : Int)), (.int .u64 (0 : Int)), (.string (bs ([]))), (.slice none 0 0)]) rfl rfl rfl ?_
     refine WS.st1 (M28.focus 3 rfl) [_, _, _, _] [_, _, _, _] rfl rfl rfl rfl rfl (Nat.le_of_ble_eq_true rfl) (Nat.le_of_ble_eq_true rfl) rfl rfl ?_
     intro h29 M30
     replace M30 : Mem _ _ ([(p1, _)] :: S_ :: [(p4, _)] :: [(p9, _)] :: []) _ := M30
     refine WS.op rfl rfl (WS.nil [(2, _), (3, _)] rfl ?_)
     refine WC.ret ?_
     refine ⟨[_, _], (res_cellN [_, _, _, _] rfl (M30.at 0 rfl) (Nat.le_of_ble_eq_true rfl) rfl (res_tmp rfl res_nil)), ?_⟩
     have hno : ∀ r0, FitRes r0 → encR r0 ≠ s := by
       intro r0 hf he
       obtain ⟨g1, g2, g3, g4, g5, g6, g7⟩ := hC r0 hf he.symm
       first
       | (cases g1; done)
       | (have g8 : s_ = [] := by (rw [g7, List.drop_eq_nil_of_le (by omega)]; rfl)
          have q := congrArg List.length g8; simp only [List.length_nil] at q; omega)
     exact ⟨zeroR, .slice none 0 0, [], false, .nil, rfl, fitR0, rdR_no hno, (M30.bare.take 0).nils⟩
    ·
     refine WC.condT rfl ?_
     refine WC.skip ?_
     refine WC.seq ?_
     refine WC.block ?_
     refine WC.seq ?_
     refine WC.run ?_
     refine WS.op rfl rfl ?_
     refine WS.call rfl rfl rfl (tk_text_ran (s := s_) (w := true) (M28.focus 1 rfl) (by omega)) ?_
     rintro _ h31 ⟨s31_, b31_, m31_, rfl, M32, R31_⟩
     have R31_l := R31_.1
     have R31_t := R31_.2.1
     replace M32 : Mem _ _ ([(p4, _)] :: S_ :: [(p9, _)] :: [(p1, _)] :: []) _ := M32
     refine WS.opV (.agg #[(.string (bs m31_)), (.string (bs ([]))), (.int .u64 (0 : Int))]) rfl rfl rfl ?_
     refine WS.new M32 rfl ?_
     intro p33 h34 M35
     refine WS.st1 (M35.focus 0 rfl) [_, _, _] [_, _, _] rfl rfl rfl rfl rfl (Nat.le_of_ble_eq_true rfl) (Nat.le_of_ble_eq_true rfl) rfl rfl ?_
     intro h36 M37
     replace M37 : Mem _ _ ([(p33, _)] :: [(p4, _)] :: S_ :: [(p9, _)] :: [(p1, _)] :: []) _ := M37
     refine WS.nil [(2, _), (4, _), (5, _), (6, _), (7, _), (8, _)] rfl ?_
     refine WC.seq ?_
     refine WC.run ?_
     refine WS.op rfl rfl ?_
     refine WS.call rfl rfl rfl (tk_text_ran (s := s31_) (w := b31_) (M37.focus 1 rfl) (by omega)) ?_
     rintro _ h38 ⟨s38_, b38_, m38_, rfl, M39, R38_⟩
     have R38_l := R38_.1
     have R38_t := R38_.2.1
     replace M39 : Mem _ _ ([(p4, _)] :: [(p33, _)] :: S_ :: [(p9, _)] :: [(p1, _)] :: []) _ := M39
     refine WS.op rfl rfl ?_
     refine WS.st1 (M39.focus 1 rfl) [_] [_, _, _] rfl rfl rfl rfl rfl (Nat.le_of_ble_eq_true rfl) (Nat.le_of_ble_eq_true rfl) rfl rfl ?_
     intro h40 M41
     replace M41 : Mem _ _ ([(p33, _)] :: [(p4, _)] :: S_ :: [(p9, _)] :: [(p1, _)] :: []) _ := M41
     refine WS.nil [(2, _), (4, _), (5, _), (6, _), (7, _), (8, _)] rfl ?_
     refine WC.seq ?_
     refine WC.run ?_
     refine WS.op rfl rfl ?_
     refine WS.call rfl rfl rfl (tk_number_ran (s := s38_) (w := b38_) (M41.focus 1 rfl) (by omega)) ?_
     rintro _ h42 ⟨s42_, b42_, m42_, rfl, M43, R42_⟩
     have R42_l := R42_.1
     replace M43 : Mem _ _ ([(p4, _)] :: [(p33, _)] :: S_ :: [(p9, _)] :: [(p1, _)] :: []) _ := M43
     refine WS.op rfl rfl ?_
     refine WS.st1 (M43.focus 1 rfl) [_] [_, _, _] rfl rfl rfl rfl rfl (Nat.le_of_ble_eq_true rfl) (Nat.le_of_ble_eq_true rfl) rfl rfl ?_
     intro h44 M45
     replace M45 : Mem _ _ ([(p33, _)] :: [(p4, _)] :: S_ :: [(p9, _)] :: [(p1, _)] :: []) _ := M45
     refine WS.nil [(2, _), (4, _), (5, _), (6, _), (7, _), (8, _)] rfl ?_
     refine WC.run ?_
     refine WS.op rfl rfl (WS.op rfl (op_ld (M45.at 3 rfl) rfl rfl) (WS.op rfl (op_lds [_, _, _] (M45.at 0 rfl) rfl (Nat.le_of_ble_eq_true rfl) rfl) ?_))
     refine WS.bsl M45 [_, _, _] rfl rfl rfl rfl ?_
     intro p46 h47 M48
     refine WS.app (l := l) (m := [(⟨m31_, m38_, m42_⟩ : Rrow)]) (hO) (M48.focus 3 rfl) (Row.Src.one (K := KRrow) (m := [(⟨m31_, m38_, m42_⟩ : Rrow)]) (M48.at 0 rfl)) rfl (by simp only [List.length_cons, List.length_nil]; omega) (by simp only [List.length_cons, List.length_nil]; omega) rfl rfl rfl ?_
     intro V49 S50 h51 O52 M53
     obtain ⟨P54, rfl⟩ := Row.Own.shape O52
     refine WS.op rfl rfl ?_
     refine WS.st1 (M53.focus 4 rfl) [_] [_, _, _, _] rfl rfl rfl rfl rfl (Nat.le_of_ble_eq_true rfl) (Nat.le_of_ble_eq_true rfl) rfl rfl ?_
     intro h55 M56
     replace M56 : Mem _ _ ([(p9, _)] :: S50 :: [(p46, _)] :: [(p33, _)] :: [(p4, _)] :: [(p1, _)] :: []) _ := M56
     refine WS.nil [(2, _), (4, _), (5, _), (6, _), (7, _)] rfl ?_
     refine WC.run ?_
     refine WS.op rfl rfl (WS.opV (.int .u64 (((i + 1) : Nat) : Int)) rfl rfl (add_u64 (a := i) (b := 1) (by omega)) (WS.op rfl rfl (WS.nil [(2, _), (4, _), (5, _), (6, _), (7, _)] rfl ?_)))
     refine ⟨(s42_, b42_, (l ++ [(⟨m31_, m38_, m42_⟩ : Rrow)]), (.slice P54 ((l ++ [(⟨m31_, m38_, m42_⟩ : Rrow)])).length (2 * ((l ++ [(⟨m31_, m38_, m42_⟩ : Rrow)])).length)), S50, i + 1), rfl, ⟨(((((M56.bare.focus 5 rfl).focus 1 rfl).focus 5 rfl).focus 3 rfl).take 4), ?_⟩, ?_⟩
     · exact ⟨O52, by simp [hlen], by omega, by omega, FitR_app hF ⟨by dsimp only; omega, by dsimp only; omega⟩, (by have e_ := congrArg List.length (hI rfl); have := rows_min l; simp only [List.length_append] at e_; simp only [List.length_append, List.length_cons, List.length_nil]; omega), (fun q => by obtain ⟨y2, e2⟩ := R42_.2.1 q; obtain ⟨y1, e1⟩ := R38_.2.2.1 y2; obtain ⟨y0, e0⟩ := R31_.2.2.1 y1; rw [hI y0, e0, e1, e2]; simp [rowR]), fun r0 hf he => by obtain ⟨g1, g2, g3, g4, g5, g6, g7⟩ := hC r0 hf he; obtain ⟨y, hy⟩ : ∃ y, r0.rs[i]? = some y := ⟨_, List.getElem?_eq_getElem (by omega)⟩; have hyf := hf.2.2 _ (mem_get hy); rw [drop_flatR hy] at g7; obtain ⟨z1, z2, z3⟩ := R31_.2.2.2 y.ky (sb y.va ++ (vb y.vn.toNat ++ (r0.rs.drop (i + 1)).flatMap rowR)) (by omega) g1 (by rw [g7]; simp [rowR]); obtain ⟨z4, z5, z6⟩ := R38_.2.2.2 y.va _ (by omega) z1 z3; obtain ⟨z7, z8, z9⟩ := R42_.2.2 y.vn.toNat _ (UInt64.toNat_lt _) z4 z6; exact ⟨z7, g2, g3, g4, g5, by rw [show (⟨m31_, m38_, m42_⟩ : Rrow) = y from by (obtain ⟨a, b, c⟩ := y; simp only at z2 z5 z8; rw [z2, z5, u64_inj z8]), g6, List.take_add_one, hy]; rfl, z9⟩⟩
     · simp only []; omega
   ·
    refine WS.op rfl rfl (WS.off rfl (WS.off rfl (WS.off rfl (WS.off rfl (WS.op rfl rfl (WS.nil [(2, _), (4, _), (5, _), (6, _), (7, _), (32, _)] rfl ?_))))))
    refine WC.condF rfl ?_
    refine WC.exit ?_
    refine WC.seq ?_
    refine WC.seq ?_
    refine WC.run ?_
    refine WS.op rfl rfl (WS.op rfl rfl (WS.op rfl rfl (WS.op rfl (op_ld (M28.at 1 rfl) rfl rfl) ?_)))
    cases w_
    ·
     refine WS.opV (.bool true) rfl rfl rfl (WS.op rfl rfl (WS.off rfl (WS.off rfl (WS.off rfl (WS.off rfl (WS.off rfl (WS.off rfl (WS.op rfl rfl (WS.nil [(2, _), (5, _), (62, _)] rfl ?_)))))))))
     refine WC.condT rfl ?_
     refine WC.seq ?_
     refine WC.run ?_
     refine WS.opV (.agg #[(.int .u8 (0 : Int)), (.int .u64 (0 : Int)), (.string (bs ([]))), (.slice none 0 0)]) rfl rfl rfl ?_
     refine WS.st1 (M28.focus 3 rfl) [_, _, _, _] [_, _, _, _] rfl rfl rfl rfl rfl (Nat.le_of_ble_eq_true rfl) (Nat.le_of_ble_eq_true rfl) rfl rfl ?_
     intro h57 M58
     replace M58 : Mem _ _ ([(p1, _)] :: S_ :: [(p4, _)] :: [(p9, _)] :: []) _ := M58
     refine WS.op rfl rfl (WS.nil [(2, _), (3, _)] rfl ?_)
     refine WC.ret ?_
     refine ⟨[_, _], (res_cellN [_, _, _, _] rfl (M58.at 0 rfl) (Nat.le_of_ble_eq_true rfl) rfl (res_tmp rfl res_nil)), ?_⟩
     have hno : ∀ r0, FitRes r0 → encR r0 ≠ s := by
       intro r0 hf he
       obtain ⟨g1, g2, g3, g4, g5, g6, g7⟩ := hC r0 hf he.symm
       first
       | (cases g1; done)
       | (have g8 : s_ = [] := by (rw [g7, List.drop_eq_nil_of_le (by omega)]; rfl)
          have q := congrArg List.length g8; simp only [List.length_nil] at q; omega)
     exact ⟨zeroR, .slice none 0 0, [], false, .nil, rfl, fitR0, rdR_no hno, (M58.bare.take 0).nils⟩
    ·
     refine WS.opV (.bool false) rfl rfl rfl (WS.op rfl rfl (WS.op rfl rfl (WS.op rfl rfl (WS.op rfl rfl (WS.op rfl (op_ld (M28.at 1 rfl) rfl rfl) (WS.op rfl (op_lenS (l := s_) rfl) ?_))))))
     refine WS.gtrN (a := (s_).length) (b := 0) rfl rfl rfl (fun e61 => ?_) (fun e61 => ?_)
     ·
      refine WS.op rfl rfl (WS.nil [(2, _), (5, _), (62, _)] rfl ?_)
      refine WC.condT rfl ?_
      refine WC.seq ?_
      refine WC.run ?_
      refine WS.opV (.agg #[(.int .u8 (0 : Int)), (.int .u64 (0 : Int)), (.string (bs ([]))), (.slice none 0 0)]) rfl rfl rfl ?_
      refine WS.st1 (M28.focus 3 rfl) [_, _, _, _] [_, _, _, _] rfl rfl rfl rfl rfl (Nat.le_of_ble_eq_true rfl) (Nat.le_of_ble_eq_true rfl) rfl rfl ?_
      intro h59 M60
      replace M60 : Mem _ _ ([(p1, _)] :: S_ :: [(p4, _)] :: [(p9, _)] :: []) _ := M60
      refine WS.op rfl rfl (WS.nil [(2, _), (3, _)] rfl ?_)
      refine WC.ret ?_
      refine ⟨[_, _], (res_cellN [_, _, _, _] rfl (M60.at 0 rfl) (Nat.le_of_ble_eq_true rfl) rfl (res_tmp rfl res_nil)), ?_⟩
      have hno : ∀ r0, FitRes r0 → encR r0 ≠ s := by
        intro r0 hf he
        obtain ⟨g1, g2, g3, g4, g5, g6, g7⟩ := hC r0 hf he.symm
        first
        | (cases g1; done)
        | (have g8 : s_ = [] := by (rw [g7, List.drop_eq_nil_of_le (by omega)]; rfl)
           have q := congrArg List.length g8; simp only [List.length_nil] at q; omega)
      exact ⟨zeroR, .slice none 0 0, [], false, .nil, rfl, fitR0, rdR_no hno, (M60.bare.take 0).nils⟩
     ·
      refine WS.op rfl rfl (WS.nil [(2, _), (5, _), (62, _)] rfl ?_)
      refine WC.condF rfl ?_
      refine WC.skip ?_
      refine WC.seq ?_
      refine WC.run ?_
      refine WS.op rfl (op_lds [_, _, _, _] (M28.at 2 rfl) rfl (Nat.le_of_ble_eq_true rfl) rfl) ?_
      refine WS.st1 (M28.focus 3 rfl) [_, _, _, _] [_, _, _, _] rfl rfl rfl rfl rfl (Nat.le_of_ble_eq_true rfl) (Nat.le_of_ble_eq_true rfl) rfl rfl ?_
      intro h61 M62
      replace M62 : Mem _ _ ([(p1, _)] :: S_ :: [(p4, _)] :: [(p9, _)] :: []) _ := M62
      refine WS.op rfl rfl (WS.nil [(2, _), (3, _)] rfl ?_)
      refine WC.ret ?_
      refine ⟨[_, _], (res_cellN [_, _, _, _] rfl (M62.at 0 rfl) (Nat.le_of_ble_eq_true rfl) rfl (res_tmp rfl res_nil)), ?_⟩
      have hs0 : s_ = [] := List.eq_nil_of_length_eq_zero (by omega)
      have henc : encR ⟨m7_, m14_, m18_, l⟩ = s := by
        rw [hI (show true = true by first | assumption | rfl), hs0]
        unfold encR headR
        dsimp only
        rw [show l.length = (m22_).toNat by omega]
        simp
      exact ⟨⟨m7_, m14_, m18_, l⟩, _, _, true, hO, rfl, ⟨by dsimp only; omega, by dsimp only; omega, hF⟩, ⟨fun _ => henc, fun q => nomatch q⟩, ((M62.bare.focus 1 rfl).take 1)⟩
end Go.Proofs.Ytncpdahappmhkaa.Wt
