/- The law 'CmdBack' returns true for all arguments: what its proof stands on, part 8. -/
import Derived.Test.YtncpdahappmhkaaZCmdBack7
namespace Go.Proofs.Ytncpdahappmhkaa.Wt
open Go Go.Proofs.Ytncpdahappmhkaa.Am Go.Proofs.Ytncpdahappmhkaa.IrAll
set_option linter.unusedVariables false
set_option linter.unusedSimpArgs false
variable {h base : H} {L : List Seg} {R : List Nat}
theorem sb_lenT {t : List UInt8} (h : t.length ≤ 3000) : (sb t).length ≤ 3010 := by have := sb_len (t := t) (by omega); omega
theorem parts_len {ps : List Part} (h : TightP ps) : (ps.flatMap partB).length ≤ ps.length * 6021 := by
  induction ps with
  | nil => simp
  | cons p ps ih =>
    have h1 := ih fun x hx => h x (by simp [hx])
    have h2 := h p (by simp)
    have s1 := sb_lenT h2.1
    have s2 := sb_lenT h2.2
    have hp : (partB p).length ≤ 6021 := by
      unfold partB
      split <;> simp <;> omega
    simp only [List.flatMap_cons, List.length_append, List.length_cons]; omega
theorem encC_len {c : Cmd} (hm : MayC c) (ht : TightC c) : (encC c).length ≤ 26000 := by
  obtain ⟨t1, t2, t3, t4, t5, t6, t7⟩ := ht
  have v1 := vb_len c.se.toNat_lt
  have v2 := vb_len c.sq.toNat_lt
  have v3 := vb_len c.tt.toNat_lt
  have v4 := vb_len c.le.toNat_lt
  have s1 := sb_lenT t1
  have s2 := sb_lenT t2
  have s3 := sb_lenT t3
  have s4 := sb_lenT t4
  have s5 := sb_lenT t5
  have p1 := parts_len t7
  have hb : (bodyB c).length ≤ 25900 := by
    unfold bodyB
    split
    · omega
    split
    · simp only [List.length_append]; omega
    split
    · omega
    split
    · simp only [List.length_append]; omega
    split
    · have := (hm.2.2.1 (by assumption)).2; simp only [List.length_append, List.length_cons, List.length_nil]; omega
    split
    · omega
    split
    · simp only [List.length_append, List.length_cons, List.length_nil]; omega
    · simp
  simp only [encC, headB, List.length_append, List.length_cons, List.length_nil]; omega
theorem encO_len {o : Oper} : (encO o).length ≤ 50 := by
  have v1 := vb_len (nu o.ks).toNat_lt
  have v2 := vb_len (nu o.bt).toNat_lt
  have v3 := vb_len (nu o.ra).toNat_lt
  have v4 := vb_len (nu o.bu).toNat_lt
  unfold encO Oper.tok
  repeat' split
  all_goals simp only [List.length_append, List.length_cons, List.length_nil]; omega
theorem rows_len {ps : List Rrow} (h : ∀ p ∈ ps, p.ky.length ≤ 3000 ∧ p.va.length ≤ 3000) : (ps.flatMap rowR).length ≤ ps.length * 6030 := by
  induction ps with
  | nil => simp
  | cons p ps ih =>
    have h1 := ih fun x hx => h x (by simp [hx])
    have h2 := h p (by simp)
    have s1 := sb_lenT h2.1
    have s2 := sb_lenT h2.2
    have s3 := vb_len p.vn.toNat_lt
    simp only [List.flatMap_cons, List.length_append, List.length_cons, rowR]; omega
theorem encR_len {r : Res} (h : TightR r) : (encR r).length ≤ 250000 := by
  have s1 := sb_lenT h.1
  have s2 := vb_len r.n.toNat_lt
  have s3 := vb_len (n := r.rs.length) (by have := h.2.1; omega)
  have s4 := rows_len h.2.2
  have := h.2.1
  simp only [encR, headR, List.length_append, List.length_cons, List.length_nil]; omega
theorem encR_min (r : Res) : 4 ≤ (encR r).length := by
  have h1 := List.length_pos_iff.2 (vb_ne r.n.toNat)
  have h2 := List.length_pos_iff.2 (vb_ne r.va.length)
  have h3 := List.length_pos_iff.2 (vb_ne r.rs.length)
  simp only [encR, headR, sb, List.length_append, List.length_cons, List.length_nil]; omega
theorem wrC_t {c : Cmd} (h : (if mayB c then encC c else []) ≠ []) : mayB c = true := by
  cases q : mayB c with
  | true => rfl
  | false => rw [q] at h; exact absurd rfl h
theorem wrO_t {c : Oper} (h : (if mayOB c then encO c else []) ≠ []) : mayOB c = true := by
  cases q : mayOB c with
  | true => rfl
  | false => rw [q] at h; exact absurd rfl h
theorem wrC_len {c : Cmd} (ht : TightC c) : (if mayB c then encC c else []).length ≤ 26000 := by
  split
  · rename_i q; exact encC_len (of_decide_eq_true q) ht
  · simp
theorem wrO_len {c : Oper} : (if mayOB c then encO c else []).length ≤ 50 := by
  split
  · exact encO_len
  · simp
theorem opens_58 : OpensL Try.prog 58 layU16 1 (fun _ => True) := OpensL.u16 Try.underlying58 (by kernel_rfl)
set_option maxRecDepth 8000 in
theorem law_CmdBack (W : Mem h h [] []) {c : Cmd} {o : Oper} {r : Res} {ct : UInt16} {bh : List UInt8} {a0 a1 a2 : List Value} {u3 u4 : Value} (l0 : ∃ V, a0 = Cmd.cells c V ∧ SlL (fun _ y cs => cs = KPart.cells y) 3 h V c.ps) (l1 : a1 = Oper.cells o) (l2 : ∃ V, a2 = Res.cells r V ∧ SlL (fun _ y cs => cs = KRrow.cells y) 3 h V r.rs) (l3 : layU16 h ct [u3]) (l4 : layStr h bh [u4])
    (k0 : c.ky.length < 9223372036854775808 ∧ c.va.length < 9223372036854775808 ∧ c.ex.length < 9223372036854775808 ∧ c.fr.length < 9223372036854775808 ∧ c.to.length < 9223372036854775808 ∧ c.ps.length < 9223372036854775808 ∧ ∀ p ∈ c.ps, p.ky.length < 9223372036854775808 ∧ p.va.length < 9223372036854775808) (k1 : True) (k2 : r.va.length < 9223372036854775808 ∧ r.rs.length < 9223372036854775808 ∧ ∀ p ∈ r.rs, p.ky.length < 9223372036854775808 ∧ p.va.length < 9223372036854775808) (k3 : True) (k4 : bh.length < 9223372036854775808) : Cll tab0 8 [.agg a0.toArray, .agg a1.toArray, .agg a2.toArray, u3, u4] h (fun v _ => v = .bool true) := by
  obtain ⟨V0, rfl, S0⟩ := l0
  have A : KPart.Sl h V0 c.ps := SlL.sl S0
  obtain ⟨P, n, rfl⟩ := A.shape
  subst l1
  obtain ⟨V2, rfl, S2⟩ := l2
  have A2 : KRrow.Sl h V2 r.rs := SlL.sl S2
  obtain ⟨P2, n2, rfl⟩ := A2.shape
  have l3 : [u3] = [_] := l3
  have l4 : [u4] = [_] := l4
  cases l3; cases l4
  have hmin := encR_min r
  refine Cll.code rfl rfl ?_
  refine WC.env [(0, _), (1, _), (2, _), (3, _), (4, _)] rfl ?_
  refine WC.seq ?_
  refine WC.run ?_
  refine WS.box W [_, _, _, _, _, _, _, _, _, _, _, _] rfl rfl rfl rfl ?_
  intro p1 h2 M3
  refine WS.box M3 [_, _, _, _, _, _, _, _, _, _, _, _, _, _, _, _] rfl rfl rfl rfl ?_
  intro p4 h5 M6
  refine WS.box M6 [_, _, _, _] rfl rfl rfl rfl ?_
  intro p7 h8 M9
  refine WS.op rfl rfl (WS.nil [(3, _), (4, _), (5, _), (6, _), (7, _)] rfl ?_)
  refine WC.seq ?_
  refine WC.seq ?_
  obtain ⟨L10, eL12, M11⟩ := Mem.name M9.bare
  refine WC.joinB (base := h) (fun b => [(3, (.int .u16 (((ct).toNat : Nat) : Int))), (4, (.string (bs bh))), (5, (.pointer (some ⟨p1, 0, none⟩))), (6, (.pointer (some ⟨p4, 0, none⟩))), (7, (.pointer (some ⟨p7, 0, none⟩))), (40, .bool b)]) L10 (True) ((Fit c ∧ TightC c) ∧ (FitRes r ∧ TightR r) ∧ bh.length ≤ 100) ?_ ?_ ?_
  ·subst eL12
   refine WS.op rfl (op_lds [_, _, _, _, _, _, _, _, _, _, _, _] (M11.at 2 rfl) rfl (Nat.le_of_ble_eq_true rfl) rfl) ?_
   refine WS.call rfl rfl rfl (Great_ran M11.here (c := c) (A.mono M11.sub) (by assumption)) ?_
   rintro _ h13 ⟨⟨g31, rfl, hg31⟩, N14⟩
   have M15 := M11.trans N14
   refine WS.op rfl rfl ?_
   cases hb1 : g31
   ·
    refine WS.op rfl (op_lds [_, _, _, _] (M15.at 0 rfl) rfl (Nat.le_of_ble_eq_true rfl) rfl) ?_
    refine WS.call rfl rfl rfl (GreatR_ran M15.here (r := r) (A2.mono M15.sub) (by assumption)) ?_
    rintro _ h16 ⟨⟨g34, rfl, hg34⟩, N17⟩
    have M18 := M15.trans N17
    refine WS.op rfl rfl (WS.op rfl rfl ?_)
    cases hb2 : g34
    ·
     refine WS.op rfl rfl (WS.op rfl (op_lenS (l := bh) rfl) ?_)
     refine WS.gtrN (a := (bh).length) (b := 100) rfl rfl rfl (fun e39 => ?_) (fun e39 => ?_)
     ·
      refine WS.op rfl rfl ?_
      refine WS.nil' ⟨true, rfl, ((((M18.bare.focus 2 rfl).focus 2 rfl).focus 2 rfl).take 3), fun _ => ?_, fun hh => ?_⟩
      · trivial
      · cases hh
     ·
      refine WS.op rfl rfl ?_
      refine WS.nil' ⟨false, rfl, ((((M18.bare.focus 2 rfl).focus 2 rfl).focus 2 rfl).take 3), fun hh => ?_, fun _ => ?_⟩
      · cases hh
      · exact ⟨hg31 (by first | assumption | rfl), hg34 (by first | assumption | rfl), by omega⟩
    ·
     refine WS.off rfl (WS.off rfl (WS.off rfl (WS.op rfl rfl ?_)))
     refine WS.nil' ⟨true, rfl, ((((M18.bare.focus 2 rfl).focus 2 rfl).focus 2 rfl).take 3), fun _ => ?_, fun hh => ?_⟩
     · trivial
     · cases hh
   ·
    refine WS.off rfl (WS.offC rfl (WS.op rfl rfl (WS.op rfl rfl (WS.off rfl (WS.off rfl (WS.off rfl (WS.op rfl rfl ?_)))))))
    refine WS.nil' ⟨true, rfl, ((((M15.bare.focus 2 rfl).focus 2 rfl).focus 2 rfl).take 3), fun _ => ?_, fun hh => ?_⟩
    · trivial
    · cases hh
  ·intro h19 M20 hp40
   subst eL12
   refine WC.condT rfl ?_
   refine WC.seq ?_
   refine WC.run ?_
   refine WS.call rfl rfl rfl (awake_ran M20.here ) ?_
   rintro _ h21 ⟨rfl, N22⟩
   have M23 := M20.trans N22
   refine WS.op rfl rfl (WS.nil [(10, _)] rfl ?_)
   refine WC.ret ?_
   refine ⟨[_], (res_tmp rfl res_nil), ?_⟩
   rfl
  ·intro h24 M25 hp40
   subst eL12
   refine WC.condF rfl ?_
   refine WC.skip ?_
   refine WC.seq ?_
   refine WC.run ?_
   refine WS.op rfl (op_lds [_, _, _, _, _, _, _, _, _, _, _, _] (M25.at 2 rfl) rfl (Nat.le_of_ble_eq_true rfl) rfl) ?_
   refine WS.call rfl rfl rfl (Write_ran M25.here (c := c) (A.mono M25.sub) (by exact hp40.1.1)) ?_
   rintro _ h26 ⟨rfl, N27⟩
   have M28 := M25.trans N27
   refine WS.op rfl rfl (WS.nil [(3, _), (4, _), (5, _), (6, _), (7, _), (11, _)] rfl ?_)
   refine WC.seq ?_
   refine WC.seq ?_
   refine WC.run ?_
   refine WS.op rfl rfl ?_
   refine WS.sneq (l := (if mayB c then encC c else [])) (m := []) rfl rfl rfl (fun e45 => ?_) (fun e45 => ?_)
   ·
    refine WS.nil [(3, _), (4, _), (5, _), (6, _), (7, _), (11, _), (45, _)] rfl ?_
    refine WC.condT rfl ?_
    refine WC.seq ?_
    refine WC.run ?_
    have hwc := wrC_len hp40.1.2
    have hpc := List.length_pos_iff.2 e45
    have hb4 := hp40.2.2
    refine WS.op rfl rfl ?_
    refine WS.call rfl rfl rfl (Read_ran M28.here (s := (if mayB c then encC c else [])) (by first | omega | (rw [List.length_take]; omega) | (rw [List.length_append]; omega))) ?_
    rintro _ h29 ⟨c48, V32, S33, ok48, O34, rfl, hF48, hy48, hn48, hC48, N30⟩
    obtain ⟨P35, rfl⟩ := O34.shape
    have M31 := M28.trans N30
    replace M31 : Mem _ _ (S33 :: [(p7, _)] :: [(p4, _)] :: [(p1, _)] :: []) _ := M31
    refine WS.op rfl rfl (WS.op rfl rfl (WS.op rfl rfl ?_))
    refine WS.new M31 rfl ?_
    intro p36 h37 M38
    refine WS.st1 (M38.focus 0 rfl) [_, _, _, _, _, _, _, _, _, _, _, _] [_, _, _, _, _, _, _, _, _, _, _, _] rfl rfl rfl rfl rfl (Nat.le_of_ble_eq_true rfl) (Nat.le_of_ble_eq_true rfl) rfl rfl ?_
    intro h39 M40
    replace M40 : Mem _ _ ([(p36, _)] :: S33 :: [(p7, _)] :: [(p4, _)] :: [(p1, _)] :: []) _ := M40
    refine WS.op rfl rfl (WS.nil [(3, _), (4, _), (5, _), (6, _), (7, _), (11, _), (12, _), (13, _)] rfl ?_)
    refine WC.seq ?_
    refine WC.run ?_
    refine WS.op rfl rfl (WS.op rfl rfl (WS.opV (.int .i64 (((ct).toNat : Nat) : Int)) rfl rfl (cv_i64 (n := (ct).toNat) (by have := UInt16.toNat_lt ct; omega)) (WS.op rfl rfl (WS.op rfl (op_lenS (l := (if mayB c then encC c else [])) rfl) (WS.op rfl (op_remN (a := (ct).toNat) (b := ((if mayB c then encC c else [])).length) rfl rfl (by exact hpc)) (WS.op rfl (op_slS1 (l := (if mayB c then encC c else [])) (((ct).toNat) % (((if mayB c then encC c else [])).length)) rfl rfl (by have := Nat.mod_lt ct.toNat hpc; omega)) ?_))))))
    refine WS.call rfl rfl rfl (Read_ran M40.here (s := (((if mayB c then encC c else [])).take (((ct).toNat) % (((if mayB c then encC c else [])).length)))) (by first | omega | (rw [List.length_take]; omega) | (rw [List.length_append]; omega))) ?_
    rintro _ h41 ⟨c59, V44, S45, ok59, O46, rfl, hF59, hy59, hn59, hC59, N42⟩
    obtain ⟨P47, rfl⟩ := O46.shape
    have M43 := M40.trans N42
    replace M43 : Mem _ _ (S45 :: [(p36, _)] :: S33 :: [(p7, _)] :: [(p4, _)] :: [(p1, _)] :: []) _ := M43
    refine WS.op rfl rfl (WS.op rfl rfl (WS.op rfl rfl ?_))
    refine WS.new M43 rfl ?_
    intro p48 h49 M50
    refine WS.st1 (M50.focus 0 rfl) [_, _, _, _, _, _, _, _, _, _, _, _] [_, _, _, _, _, _, _, _, _, _, _, _] rfl rfl rfl rfl rfl (Nat.le_of_ble_eq_true rfl) (Nat.le_of_ble_eq_true rfl) rfl rfl ?_
    intro h51 M52
    replace M52 : Mem _ _ ([(p48, _)] :: S45 :: [(p36, _)] :: S33 :: [(p7, _)] :: [(p4, _)] :: [(p1, _)] :: []) _ := M52
    refine WS.op rfl rfl (WS.nil [(3, _), (4, _), (5, _), (6, _), (7, _), (11, _), (12, _), (13, _), (15, _)] rfl ?_)
    refine WC.seq ?_
    refine WC.run ?_
    refine WS.op rfl rfl (WS.op rfl rfl (WS.op rfl (op_sadd (l := (if mayB c then encC c else [])) (m := bh) rfl rfl (by omega)) ?_))
    refine WS.call rfl rfl rfl (Read_ran M52.here (s := ((if mayB c then encC c else []) ++ bh)) (by first | omega | (rw [List.length_take]; omega) | (rw [List.length_append]; omega))) ?_
    rintro _ h53 ⟨c66, V56, S57, ok66, O58, rfl, hF66, hy66, hn66, hC66, N54⟩
    obtain ⟨P59, rfl⟩ := O58.shape
    have M55 := M52.trans N54
    replace M55 : Mem _ _ (S57 :: [(p48, _)] :: S45 :: [(p36, _)] :: S33 :: [(p7, _)] :: [(p4, _)] :: [(p1, _)] :: []) _ := M55
    refine WS.op rfl rfl (WS.op rfl rfl (WS.op rfl rfl ?_))
    refine WS.new M55 rfl ?_
    intro p60 h61 M62
    refine WS.st1 (M62.focus 0 rfl) [_, _, _, _, _, _, _, _, _, _, _, _] [_, _, _, _, _, _, _, _, _, _, _, _] rfl rfl rfl rfl rfl (Nat.le_of_ble_eq_true rfl) (Nat.le_of_ble_eq_true rfl) rfl rfl ?_
    intro h63 M64
    replace M64 : Mem _ _ ([(p60, _)] :: S57 :: [(p48, _)] :: S45 :: [(p36, _)] :: S33 :: [(p7, _)] :: [(p4, _)] :: [(p1, _)] :: []) _ := M64
    refine WS.op rfl rfl (WS.nil [(3, _), (4, _), (5, _), (6, _), (7, _), (12, _), (13, _), (15, _), (17, _)] rfl ?_)
    refine WC.seq ?_
    refine WC.run ?_
    have hM := wrC_t e45
    have hE : (if mayB c then encC c else []) = encC c := if_pos hM
    have hG : GoodC c := ⟨of_decide_eq_true hM, hp40.1.1⟩
    rw [hE] at hC48 hC59 hC66 hpc
    obtain ⟨f1, f2⟩ := rd_self encC_pf hG (hC48.rd hF48)
    have f3 := rd_short encC_pf hG (Nat.mod_lt _ hpc) (hC59.rd hF59)
    have f4 := rd_more encC_pf hG (hC66.rd hF66)
    refine WS.op rfl rfl ?_
    cases hb3 : ok48
    ·
     rw [f1] at hb3; cases hb3
    ·
     refine WS.opV (.bool false) rfl rfl rfl (WS.op rfl rfl (WS.op rfl (op_lds [_, _, _, _, _, _, _, _, _, _, _, _] (M64.at 4 rfl) rfl (Nat.le_of_ble_eq_true rfl) rfl) (WS.op rfl (op_lds [_, _, _, _, _, _, _, _, _, _, _, _] (M64.at 8 rfl) rfl (Nat.le_of_ble_eq_true rfl) rfl) ?_)))
     refine WS.call rfl rfl rfl (Same_ran M64.here (a := c48) (b := c) (Row.Own.sl O34 (Mem.owni M64 5 rfl)) (A.mono M64.sub) (by first | (have := hF48.2.2.2.2.2.1; omega) | (have := hF136.2.1; omega))) ?_
     rintro _ h65 ⟨rfl, N66⟩
     have M67 := M64.trans N66
     cases hb4 : (decide (c48 = c))
     ·
      exact absurd f2 (of_decide_eq_false hb4)
     ·
      refine WS.opV (.bool false) rfl rfl rfl (WS.op rfl rfl (WS.op rfl rfl (WS.op rfl rfl (WS.op rfl rfl (WS.op rfl rfl ?_)))))
      cases hb5 : ok59
      ·
       refine WS.op rfl rfl (WS.op rfl rfl ?_)
       refine WS.seql (l := bh) (m := []) rfl rfl rfl (fun e83 => ?_) (fun e83 => ?_)
       ·
        cases hb6 : ok66
        ·
         refine WS.opV (.bool true) rfl rfl rfl (WS.op rfl rfl (WS.nil [(3, _), (4, _), (6, _), (7, _), (85, _)] rfl ?_))
         refine WC.condT rfl ?_
         refine WC.seq ?_
         refine WC.run ?_
         refine WS.op rfl rfl (WS.nil [(10, _)] rfl ?_)
         refine WC.ret ?_
         refine ⟨[_], (res_tmp rfl res_nil), ?_⟩
         exfalso; first | exact absurd (f4.1 (by assumption)) e83 | exact absurd (f4.2 e83) (by rw [Bool.not_eq_true]; assumption) | exact absurd (f8.1 (by assumption)) e126 | exact absurd (f8.2 e126) (by rw [Bool.not_eq_true]; assumption) | exact absurd (f12.1 (by assumption)) e170 | exact absurd (f12.2 e170) (by rw [Bool.not_eq_true]; assumption)
        ·
         refine WS.opV (.bool false) rfl rfl rfl (WS.op rfl rfl (WS.nil [(3, _), (4, _), (6, _), (7, _), (85, _)] rfl ?_))
         refine WC.condF rfl ?_
         refine WC.skip ?_
         refine WC.seq ?_
         refine WC.run ?_
         refine WS.op rfl (op_lds [_, _, _, _, _, _, _, _, _, _, _, _, _, _, _, _] (M67.at 7 rfl) rfl (Nat.le_of_ble_eq_true rfl) rfl) ?_
         refine WS.call rfl rfl rfl (WriteO_ran M67.here (o := o)) ?_
         rintro _ h68 ⟨rfl, N69⟩
         have M70 := M67.trans N69
         refine WS.op rfl rfl (WS.nil [(3, _), (4, _), (6, _), (7, _), (11, _)] rfl ?_)
         refine WC.seq ?_
         refine WC.seq ?_
         refine WC.run ?_
         refine WS.op rfl rfl ?_
         refine WS.sneq (l := (if mayOB o then encO o else [])) (m := []) rfl rfl rfl (fun e89 => ?_) (fun e89 => ?_)
         ·
          refine WS.nil [(3, _), (4, _), (6, _), (7, _), (11, _), (89, _)] rfl ?_
          refine WC.condT rfl ?_
          refine WC.seq ?_
          refine WC.run ?_
          have hwo := wrO_len (c := o)
          have hpo := List.length_pos_iff.2 e89
          have hb5 := hp40.2.2
          refine WS.op rfl rfl ?_
          refine WS.call rfl rfl rfl (ReadO_ran M70.here (s := (if mayOB o then encO o else [])) (by first | omega | (rw [List.length_take]; omega) | (rw [List.length_append]; omega))) ?_
          rintro _ h71 ⟨o92, ok92, rfl, hy92, hn92, hC92, N72⟩
          have M73 := M70.trans N72
          refine WS.op rfl rfl (WS.op rfl rfl (WS.op rfl rfl ?_))
          refine WS.new M73 rfl ?_
          intro p74 h75 M76
          refine WS.st1 (M76.focus 0 rfl) [_, _, _, _, _, _, _, _, _, _, _, _, _, _, _, _] [_, _, _, _, _, _, _, _, _, _, _, _, _, _, _, _] rfl rfl rfl rfl rfl (Nat.le_of_ble_eq_true rfl) (Nat.le_of_ble_eq_true rfl) rfl rfl ?_
          intro h77 M78
          replace M78 : Mem _ _ ([(p74, _)] :: [(p60, _)] :: S57 :: [(p48, _)] :: S45 :: [(p36, _)] :: S33 :: [(p7, _)] :: [(p4, _)] :: [(p1, _)] :: []) _ := M78
          refine WS.op rfl rfl (WS.nil [(3, _), (4, _), (6, _), (7, _), (11, _), (18, _), (19, _)] rfl ?_)
          refine WC.seq ?_
          refine WC.run ?_
          refine WS.op rfl rfl (WS.op rfl rfl (WS.opV (.int .i64 (((ct).toNat : Nat) : Int)) rfl rfl (cv_i64 (n := (ct).toNat) (by have := UInt16.toNat_lt ct; omega)) (WS.op rfl rfl (WS.op rfl (op_lenS (l := (if mayOB o then encO o else [])) rfl) (WS.op rfl (op_remN (a := (ct).toNat) (b := ((if mayOB o then encO o else [])).length) rfl rfl (by exact hpo)) (WS.op rfl (op_slS1 (l := (if mayOB o then encO o else [])) (((ct).toNat) % (((if mayOB o then encO o else [])).length)) rfl rfl (by have := Nat.mod_lt ct.toNat hpo; omega)) ?_))))))
          refine WS.call rfl rfl rfl (ReadO_ran M78.here (s := (((if mayOB o then encO o else [])).take (((ct).toNat) % (((if mayOB o then encO o else [])).length)))) (by first | omega | (rw [List.length_take]; omega) | (rw [List.length_append]; omega))) ?_
          rintro _ h79 ⟨o103, ok103, rfl, hy103, hn103, hC103, N80⟩
          have M81 := M78.trans N80
          refine WS.op rfl rfl (WS.op rfl rfl (WS.op rfl rfl ?_))
          refine WS.new M81 rfl ?_
          intro p82 h83 M84
          refine WS.st1 (M84.focus 0 rfl) [_, _, _, _, _, _, _, _, _, _, _, _, _, _, _, _] [_, _, _, _, _, _, _, _, _, _, _, _, _, _, _, _] rfl rfl rfl rfl rfl (Nat.le_of_ble_eq_true rfl) (Nat.le_of_ble_eq_true rfl) rfl rfl ?_
          intro h85 M86
          replace M86 : Mem _ _ ([(p82, _)] :: [(p74, _)] :: [(p60, _)] :: S57 :: [(p48, _)] :: S45 :: [(p36, _)] :: S33 :: [(p7, _)] :: [(p4, _)] :: [(p1, _)] :: []) _ := M86
          refine WS.op rfl rfl (WS.nil [(3, _), (4, _), (6, _), (7, _), (11, _), (18, _), (19, _), (21, _)] rfl ?_)
          refine WC.seq ?_
          refine WC.run ?_
          refine WS.op rfl rfl (WS.op rfl rfl (WS.op rfl (op_sadd (l := (if mayOB o then encO o else [])) (m := bh) rfl rfl (by omega)) ?_))
          refine WS.call rfl rfl rfl (ReadO_ran M86.here (s := ((if mayOB o then encO o else []) ++ bh)) (by first | omega | (rw [List.length_take]; omega) | (rw [List.length_append]; omega))) ?_
          rintro _ h87 ⟨o110, ok110, rfl, hy110, hn110, hC110, N88⟩
          have M89 := M86.trans N88
          refine WS.op rfl rfl (WS.op rfl rfl (WS.op rfl rfl ?_))
          refine WS.new M89 rfl ?_
          intro p90 h91 M92
          refine WS.st1 (M92.focus 0 rfl) [_, _, _, _, _, _, _, _, _, _, _, _, _, _, _, _] [_, _, _, _, _, _, _, _, _, _, _, _, _, _, _, _] rfl rfl rfl rfl rfl (Nat.le_of_ble_eq_true rfl) (Nat.le_of_ble_eq_true rfl) rfl rfl ?_
          intro h93 M94
          replace M94 : Mem _ _ ([(p90, _)] :: [(p82, _)] :: [(p74, _)] :: [(p60, _)] :: S57 :: [(p48, _)] :: S45 :: [(p36, _)] :: S33 :: [(p7, _)] :: [(p4, _)] :: [(p1, _)] :: []) _ := M94
          refine WS.op rfl rfl (WS.nil [(3, _), (4, _), (6, _), (7, _), (18, _), (19, _), (21, _), (23, _)] rfl ?_)
          refine WC.seq ?_
          refine WC.run ?_
          have hM2 := wrO_t e89
          have hE2 : (if mayOB o then encO o else []) = encO o := if_pos hM2
          have hG2 : MayO o := of_decide_eq_true hM2
          rw [hE2] at hC92 hC103 hC110 hpo
          obtain ⟨f5, f6⟩ := rd_self encO_pf hG2 hC92.rd
          have f7 := rd_short encO_pf hG2 (Nat.mod_lt _ hpo) hC103.rd
          have f8 := rd_more encO_pf hG2 hC110.rd
          refine WS.op rfl rfl ?_
          cases hb7 : ok92
          ·
           rw [f5] at hb7; cases hb7
          ·
           refine WS.opV (.bool false) rfl rfl rfl (WS.op rfl rfl (WS.op rfl (op_lds [_, _, _, _, _, _, _, _, _, _, _, _, _, _, _, _] (M94.at 2 rfl) rfl (Nat.le_of_ble_eq_true rfl) rfl) (WS.op rfl (op_lds [_, _, _, _, _, _, _, _, _, _, _, _, _, _, _, _] (M94.at 10 rfl) rfl (Nat.le_of_ble_eq_true rfl) rfl) ?_)))
           refine WS.eqqDn (p := o92 = o) rfl rfl rfl (Oper_eqV _ _) (fun e118 => ?_) (fun e118 => ?_)
           ·
            exact absurd f6 e118
           ·
            refine WS.op rfl rfl (WS.op rfl rfl (WS.op rfl rfl (WS.op rfl rfl (WS.op rfl rfl ?_))))
            cases hb8 : ok103
            ·
             refine WS.op rfl rfl (WS.op rfl rfl ?_)
             refine WS.seql (l := bh) (m := []) rfl rfl rfl (fun e126 => ?_) (fun e126 => ?_)
             ·
              cases hb9 : ok110
              ·
               refine WS.opV (.bool true) rfl rfl rfl (WS.op rfl rfl (WS.nil [(3, _), (4, _), (7, _), (128, _)] rfl ?_))
               refine WC.condT rfl ?_
               refine WC.seq ?_
               refine WC.run ?_
               refine WS.op rfl rfl (WS.nil [(10, _)] rfl ?_)
               refine WC.ret ?_
               refine ⟨[_], (res_tmp rfl res_nil), ?_⟩
               exfalso; first | exact absurd (f4.1 (by assumption)) e83 | exact absurd (f4.2 e83) (by rw [Bool.not_eq_true]; assumption) | exact absurd (f8.1 (by assumption)) e126 | exact absurd (f8.2 e126) (by rw [Bool.not_eq_true]; assumption) | exact absurd (f12.1 (by assumption)) e170 | exact absurd (f12.2 e170) (by rw [Bool.not_eq_true]; assumption)
              ·
               refine WS.opV (.bool false) rfl rfl rfl (WS.op rfl rfl (WS.nil [(3, _), (4, _), (7, _), (128, _)] rfl ?_))
               refine WC.condF rfl ?_
               refine WC.skip ?_
               refine WC.seq ?_
               refine WC.run ?_
               refine WS.op rfl (op_lds [_, _, _, _] (M94.at 9 rfl) rfl (Nat.le_of_ble_eq_true rfl) rfl) ?_
               refine WS.call rfl rfl rfl (WriteR_ran M94.here (r := r) (A2.mono M94.sub) (by exact hp40.2.1.1)) ?_
               rintro _ h95 ⟨rfl, N96⟩
               have M97 := M94.trans N96
               refine WS.op rfl rfl (WS.nil [(3, _), (4, _), (7, _), (11, _)] rfl ?_)
               refine WC.seq ?_
               refine WC.seq ?_
               refine WC.run ?_
               refine WS.op rfl rfl (WS.op rfl (op_lenS (l := (encR r)) rfl) ?_)
               refine WS.lssN (a := ((encR r)).length) (b := 4) rfl rfl rfl (fun e133 => ?_) (fun e133 => ?_)
               ·
                exact absurd e133 (by omega)
               ·
                refine WS.nil [(3, _), (4, _), (7, _), (11, _), (133, _)] rfl ?_
                refine WC.condF rfl ?_
                refine WC.skip ?_
                refine WC.seq ?_
                refine WC.run ?_
                have hwr := encR_len hp40.2.1.2
                have hb6 := hp40.2.2
                refine WS.op rfl rfl ?_
                refine WS.call rfl rfl rfl (ReadR_ran M97.here (s := (encR r)) (by first | omega | (rw [List.length_take]; omega) | (rw [List.length_append]; omega))) ?_
                rintro _ h98 ⟨r136, V101, S102, ok136, O103, rfl, hF136, hy136, hn136, hC136, N99⟩
                obtain ⟨P104, rfl⟩ := O103.shape
                have M100 := M97.trans N99
                replace M100 : Mem _ _ (S102 :: [(p90, _)] :: [(p82, _)] :: [(p74, _)] :: [(p60, _)] :: S57 :: [(p48, _)] :: S45 :: [(p36, _)] :: S33 :: [(p7, _)] :: [(p4, _)] :: [(p1, _)] :: []) _ := M100
                refine WS.op rfl rfl (WS.op rfl rfl (WS.op rfl rfl ?_))
                refine WS.new M100 rfl ?_
                intro p105 h106 M107
                refine WS.st1 (M107.focus 0 rfl) [_, _, _, _] [_, _, _, _] rfl rfl rfl rfl rfl (Nat.le_of_ble_eq_true rfl) (Nat.le_of_ble_eq_true rfl) rfl rfl ?_
                intro h108 M109
                replace M109 : Mem _ _ ([(p105, _)] :: S102 :: [(p90, _)] :: [(p82, _)] :: [(p74, _)] :: [(p60, _)] :: S57 :: [(p48, _)] :: S45 :: [(p36, _)] :: S33 :: [(p7, _)] :: [(p4, _)] :: [(p1, _)] :: []) _ := M109
                refine WS.op rfl rfl (WS.nil [(3, _), (4, _), (7, _), (11, _), (24, _), (25, _)] rfl ?_)
                refine WC.seq ?_
                refine WC.run ?_
                refine WS.op rfl rfl (WS.op rfl rfl (WS.opV (.int .i64 (((ct).toNat : Nat) : Int)) rfl rfl (cv_i64 (n := (ct).toNat) (by have := UInt16.toNat_lt ct; omega)) (WS.op rfl rfl (WS.op rfl (op_lenS (l := (encR r)) rfl) (WS.op rfl (op_remN (a := (ct).toNat) (b := ((encR r)).length) rfl rfl (by omega)) (WS.op rfl (op_slS1 (l := (encR r)) (((ct).toNat) % (((encR r)).length)) rfl rfl (by have := Nat.mod_lt ct.toNat (show 0 < (encR r).length by omega); omega)) ?_))))))
                refine WS.call rfl rfl rfl (ReadR_ran M109.here (s := (((encR r)).take (((ct).toNat) % (((encR r)).length)))) (by first | omega | (rw [List.length_take]; omega) | (rw [List.length_append]; omega))) ?_
                rintro _ h110 ⟨r147, V113, S114, ok147, O115, rfl, hF147, hy147, hn147, hC147, N111⟩
                obtain ⟨P116, rfl⟩ := O115.shape
                have M112 := M109.trans N111
                replace M112 : Mem _ _ (S114 :: [(p105, _)] :: S102 :: [(p90, _)] :: [(p82, _)] :: [(p74, _)] :: [(p60, _)] :: S57 :: [(p48, _)] :: S45 :: [(p36, _)] :: S33 :: [(p7, _)] :: [(p4, _)] :: [(p1, _)] :: []) _ := M112
                refine WS.op rfl rfl (WS.op rfl rfl (WS.op rfl rfl ?_))
                refine WS.new M112 rfl ?_
                intro p117 h118 M119
                refine WS.st1 (M119.focus 0 rfl) [_, _, _, _] [_, _, _, _] rfl rfl rfl rfl rfl (Nat.le_of_ble_eq_true rfl) (Nat.le_of_ble_eq_true rfl) rfl rfl ?_
                intro h120 M121
                replace M121 : Mem _ _ ([(p117, _)] :: S114 :: [(p105, _)] :: S102 :: [(p90, _)] :: [(p82, _)] :: [(p74, _)] :: [(p60, _)] :: S57 :: [(p48, _)] :: S45 :: [(p36, _)] :: S33 :: [(p7, _)] :: [(p4, _)] :: [(p1, _)] :: []) _ := M121
                refine WS.op rfl rfl (WS.nil [(4, _), (7, _), (11, _), (24, _), (25, _), (27, _)] rfl ?_)
                refine WC.seq ?_
                refine WC.run ?_
                refine WS.op rfl rfl (WS.op rfl rfl (WS.op rfl (op_sadd (l := (encR r)) (m := bh) rfl rfl (by omega)) ?_))
                refine WS.call rfl rfl rfl (ReadR_ran M121.here (s := ((encR r) ++ bh)) (by first | omega | (rw [List.length_take]; omega) | (rw [List.length_append]; omega))) ?_
                rintro _ h122 ⟨r154, V125, S126, ok154, O127, rfl, hF154, hy154, hn154, hC154, N123⟩
                obtain ⟨P128, rfl⟩ := O127.shape
                have M124 := M121.trans N123
                replace M124 : Mem _ _ (S126 :: [(p117, _)] :: S114 :: [(p105, _)] :: S102 :: [(p90, _)] :: [(p82, _)] :: [(p74, _)] :: [(p60, _)] :: S57 :: [(p48, _)] :: S45 :: [(p36, _)] :: S33 :: [(p7, _)] :: [(p4, _)] :: [(p1, _)] :: []) _ := M124
                refine WS.op rfl rfl (WS.op rfl rfl (WS.op rfl rfl ?_))
                refine WS.new M124 rfl ?_
                intro p129 h130 M131
                refine WS.st1 (M131.focus 0 rfl) [_, _, _, _] [_, _, _, _] rfl rfl rfl rfl rfl (Nat.le_of_ble_eq_true rfl) (Nat.le_of_ble_eq_true rfl) rfl rfl ?_
                intro h132 M133
                replace M133 : Mem _ _ ([(p129, _)] :: S126 :: [(p117, _)] :: S114 :: [(p105, _)] :: S102 :: [(p90, _)] :: [(p82, _)] :: [(p74, _)] :: [(p60, _)] :: S57 :: [(p48, _)] :: S45 :: [(p36, _)] :: S33 :: [(p7, _)] :: [(p4, _)] :: [(p1, _)] :: []) _ := M133
                refine WS.op rfl rfl (WS.nil [(4, _), (7, _), (24, _), (25, _), (27, _), (29, _)] rfl ?_)
                refine WC.seq ?_
                refine WC.run ?_
                obtain ⟨f9, f10⟩ := rd_self encR_pf hp40.2.1.1 (hC136.rd hF136)
                have f11 := rd_short encR_pf hp40.2.1.1 (Nat.mod_lt _ (by omega)) (hC147.rd hF147)
                have f12 := rd_more encR_pf hp40.2.1.1 (hC154.rd hF154)
                refine WS.op rfl rfl (WS.op rfl rfl ?_)
                cases hb10 : ok136
                ·
                 rw [f9] at hb10; cases hb10
                ·
                 refine WS.op rfl (op_lds [_, _, _, _] (M133.at 4 rfl) rfl (Nat.le_of_ble_eq_true rfl) rfl) (WS.op rfl (op_lds [_, _, _, _] (M133.at 15 rfl) rfl (Nat.le_of_ble_eq_true rfl) rfl) ?_)
                 refine WS.call rfl rfl rfl (SameR_ran M133.here (a := r136) (b := r) (Row.Own.sl O103 (Mem.owni M133 5 rfl)) (A2.mono M133.sub) (by first | (have := hF48.2.2.2.2.2.1; omega) | (have := hF136.2.1; omega))) ?_
                 rintro _ h134 ⟨rfl, N135⟩
                 have M136 := M133.trans N135
                 refine WS.op rfl rfl (WS.op rfl rfl ?_)
                 cases hb11 : (decide (r136 = r))
                 ·
                  exact absurd f10 (of_decide_eq_false hb11)
                 ·
                  refine WS.op rfl rfl ?_
                  cases hb12 : ok147
                  ·
                   refine WS.opV (.bool true) rfl rfl rfl (WS.op rfl rfl (WS.op rfl rfl (WS.op rfl rfl (WS.op rfl rfl ?_))))
                   refine WS.seql (l := bh) (m := []) rfl rfl rfl (fun e170 => ?_) (fun e170 => ?_)
                   ·
                    cases hb13 : ok154
                    ·
                     refine WS.opV (.bool false) rfl rfl rfl (WS.op rfl rfl (WS.op rfl rfl (WS.offC rfl (WS.op rfl rfl (WS.op rfl rfl (WS.nil [(10, _)] rfl ?_))))))
                     refine WC.ret ?_
                     refine ⟨[_], (res_tmp rfl res_nil), ?_⟩
                     exfalso; first | exact absurd (f4.1 (by assumption)) e83 | exact absurd (f4.2 e83) (by rw [Bool.not_eq_true]; assumption) | exact absurd (f8.1 (by assumption)) e126 | exact absurd (f8.2 e126) (by rw [Bool.not_eq_true]; assumption) | exact absurd (f12.1 (by assumption)) e170 | exact absurd (f12.2 e170) (by rw [Bool.not_eq_true]; assumption)
                    ·
                     refine WS.opV (.bool true) rfl rfl rfl (WS.op rfl rfl (WS.op rfl rfl ?_))
                     refine WS.call rfl rfl rfl (awake_ran M136.here ) ?_
                     rintro _ h137 ⟨rfl, N138⟩
                     have M139 := M136.trans N138
                     refine WS.op rfl rfl (WS.op rfl rfl (WS.nil [(10, _)] rfl ?_))
                     refine WC.ret ?_
                     refine ⟨[_], (res_tmp rfl res_nil), ?_⟩
                     rfl
                   ·
                    cases hb13 : ok154
                    ·
                     refine WS.opV (.bool true) rfl rfl rfl (WS.op rfl rfl (WS.op rfl rfl ?_))
                     refine WS.call rfl rfl rfl (awake_ran M136.here ) ?_
                     rintro _ h140 ⟨rfl, N141⟩
                     have M142 := M136.trans N141
                     refine WS.op rfl rfl (WS.op rfl rfl (WS.nil [(10, _)] rfl ?_))
                     refine WC.ret ?_
                     refine ⟨[_], (res_tmp rfl res_nil), ?_⟩
                     rfl
                    ·
                     refine WS.opV (.bool false) rfl rfl rfl (WS.op rfl rfl (WS.op rfl rfl (WS.offC rfl (WS.op rfl rfl (WS.op rfl rfl (WS.nil [(10, _)] rfl ?_))))))
                     refine WC.ret ?_
                     refine ⟨[_], (res_tmp rfl res_nil), ?_⟩
                     exfalso; first | exact absurd (f4.1 (by assumption)) e83 | exact absurd (f4.2 e83) (by rw [Bool.not_eq_true]; assumption) | exact absurd (f8.1 (by assumption)) e126 | exact absurd (f8.2 e126) (by rw [Bool.not_eq_true]; assumption) | exact absurd (f12.1 (by assumption)) e170 | exact absurd (f12.2 e170) (by rw [Bool.not_eq_true]; assumption)
                  ·
                   rw [f11] at hb12; cases hb12
             ·
              cases hb9 : ok110
              ·
               refine WS.opV (.bool false) rfl rfl rfl (WS.op rfl rfl (WS.nil [(3, _), (4, _), (7, _), (128, _)] rfl ?_))
               refine WC.condF rfl ?_
               refine WC.skip ?_
               refine WC.seq ?_
               refine WC.run ?_
               refine WS.op rfl (op_lds [_, _, _, _] (M94.at 9 rfl) rfl (Nat.le_of_ble_eq_true rfl) rfl) ?_
               refine WS.call rfl rfl rfl (WriteR_ran M94.here (r := r) (A2.mono M94.sub) (by exact hp40.2.1.1)) ?_
               rintro _ h143 ⟨rfl, N144⟩
               have M145 := M94.trans N144
               refine WS.op rfl rfl (WS.nil [(3, _), (4, _), (7, _), (11, _)] rfl ?_)
               refine WC.seq ?_
               refine WC.seq ?_
               refine WC.run ?_
               refine WS.op rfl rfl (WS.op rfl (op_lenS (l := (encR r)) rfl) ?_)
               refine WS.lssN (a := ((encR r)).length) (b := 4) rfl rfl rfl (fun e133 => ?_) (fun e133 => ?_)
               ·
                exact absurd e133 (by omega)
               ·
                refine WS.nil [(3, _), (4, _), (7, _), (11, _), (133, _)] rfl ?_
                refine WC.condF rfl ?_
                refine WC.skip ?_
                refine WC.seq ?_
                refine WC.run ?_
                have hwr := encR_len hp40.2.1.2
                have hb6 := hp40.2.2
                refine WS.op rfl rfl ?_
                refine WS.call rfl rfl rfl (ReadR_ran M145.here (s := (encR r)) (by first | omega | (rw [List.length_take]; omega) | (rw [List.length_append]; omega))) ?_
                rintro _ h146 ⟨r136, V149, S150, ok136, O151, rfl, hF136, hy136, hn136, hC136, N147⟩
                obtain ⟨P152, rfl⟩ := O151.shape
                have M148 := M145.trans N147
                replace M148 : Mem _ _ (S150 :: [(p90, _)] :: [(p82, _)] :: [(p74, _)] :: [(p60, _)] :: S57 :: [(p48, _)] :: S45 :: [(p36, _)] :: S33 :: [(p7, _)] :: [(p4, _)] :: [(p1, _)] :: []) _ := M148
                refine WS.op rfl rfl (WS.op rfl rfl (WS.op rfl rfl ?_))
                refine WS.new M148 rfl ?_
                intro p153 h154 M155
                refine WS.st1 (M155.focus 0 rfl) [_, _, _, _] [_, _, _, _] rfl rfl rfl rfl rfl (Nat.le_of_ble_eq_true rfl) (Nat.le_of_ble_eq_true rfl) rfl rfl ?_
                intro h156 M157
                replace M157 : Mem _ _ ([(p153, _)] :: S150 :: [(p90, _)] :: [(p82, _)] :: [(p74, _)] :: [(p60, _)] :: S57 :: [(p48, _)] :: S45 :: [(p36, _)] :: S33 :: [(p7, _)] :: [(p4, _)] :: [(p1, _)] :: []) _ := M157
                refine WS.op rfl rfl (WS.nil [(3, _), (4, _), (7, _), (11, _), (24, _), (25, _)] rfl ?_)
                refine WC.seq ?_
                refine WC.run ?_
                refine WS.op rfl rfl (WS.op rfl rfl (WS.opV (.int .i64 (((ct).toNat : Nat) : Int)) rfl rfl (cv_i64 (n := (ct).toNat) (by have := UInt16.toNat_lt ct; omega)) (WS.op rfl rfl (WS.op rfl (op_lenS (l := (encR r)) rfl) (WS.op rfl (op_remN (a := (ct).toNat) (b := ((encR r)).length) rfl rfl (by omega)) (WS.op rfl (op_slS1 (l := (encR r)) (((ct).toNat) % (((encR r)).length)) rfl rfl (by have := Nat.mod_lt ct.toNat (show 0 < (encR r).length by omega); omega)) ?_))))))
                refine WS.call rfl rfl rfl (ReadR_ran M157.here (s := (((encR r)).take (((ct).toNat) % (((encR r)).length)))) (by first | omega | (rw [List.length_take]; omega) | (rw [List.length_append]; omega))) ?_
                rintro _ h158 ⟨r147, V161, S162, ok147, O163, rfl, hF147, hy147, hn147, hC147, N159⟩
                obtain ⟨P164, rfl⟩ := O163.shape
                have M160 := M157.trans N159
                replace M160 : Mem _ _ (S162 :: [(p153, _)] :: S150 :: [(p90, _)] :: [(p82, _)] :: [(p74, _)] :: [(p60, _)] :: S57 :: [(p48, _)] :: S45 :: [(p36, _)] :: S33 :: [(p7, _)] :: [(p4, _)] :: [(p1, _)] :: []) _ := M160
                refine WS.op rfl rfl (WS.op rfl rfl (WS.op rfl rfl ?_))
                refine WS.new M160 rfl ?_
                intro p165 h166 M167
                refine WS.st1 (M167.focus 0 rfl) [_, _, _, _] [_, _, _, _] rfl rfl rfl rfl rfl (Nat.le_of_ble_eq_true rfl) (Nat.le_of_ble_eq_true rfl) rfl rfl ?_
                intro h168 M169
                replace M169 : Mem _ _ ([(p165, _)] :: S162 :: [(p153, _)] :: S150 :: [(p90, _)] :: [(p82, _)] :: [(p74, _)] :: [(p60, _)] :: S57 :: [(p48, _)] :: S45 :: [(p36, _)] :: S33 :: [(p7, _)] :: [(p4, _)] :: [(p1, _)] :: []) _ := M169
                refine WS.op rfl rfl (WS.nil [(4, _), (7, _), (11, _), (24, _), (25, _), (27, _)] rfl ?_)
                refine WC.seq ?_
                refine WC.run ?_
                refine WS.op rfl rfl (WS.op rfl rfl (WS.op rfl (op_sadd (l := (encR r)) (m := bh) rfl rfl (by omega)) ?_))
                refine WS.call rfl rfl rfl (ReadR_ran M169.here (s := ((encR r) ++ bh)) (by first | omega | (rw [List.length_take]; omega) | (rw [List.length_append]; omega))) ?_
                rintro _ h170 ⟨r154, V173, S174, ok154, O175, rfl, hF154, hy154, hn154, hC154, N171⟩
                obtain ⟨P176, rfl⟩ := O175.shape
                have M172 := M169.trans N171
                replace M172 : Mem _ _ (S174 :: [(p165, _)] :: S162 :: [(p153, _)] :: S150 :: [(p90, _)] :: [(p82, _)] :: [(p74, _)] :: [(p60, _)] :: S57 :: [(p48, _)] :: S45 :: [(p36, _)] :: S33 :: [(p7, _)] :: [(p4, _)] :: [(p1, _)] :: []) _ := M172
                refine WS.op rfl rfl (WS.op rfl rfl (WS.op rfl rfl ?_))
                refine WS.new M172 rfl ?_
                intro p177 h178 M179
                refine WS.st1 (M179.focus 0 rfl) [_, _, _, _] [_, _, _, _] rfl rfl rfl rfl rfl (Nat.le_of_ble_eq_true rfl) (Nat.le_of_ble_eq_true rfl) rfl rfl ?_
                intro h180 M181
                replace M181 : Mem _ _ ([(p177, _)] :: S174 :: [(p165, _)] :: S162 :: [(p153, _)] :: S150 :: [(p90, _)] :: [(p82, _)] :: [(p74, _)] :: [(p60, _)] :: S57 :: [(p48, _)] :: S45 :: [(p36, _)] :: S33 :: [(p7, _)] :: [(p4, _)] :: [(p1, _)] :: []) _ := M181
                refine WS.op rfl rfl (WS.nil [(4, _), (7, _), (24, _), (25, _), (27, _), (29, _)] rfl ?_)
                refine WC.seq ?_
                refine WC.run ?_
                obtain ⟨f9, f10⟩ := rd_self encR_pf hp40.2.1.1 (hC136.rd hF136)
                have f11 := rd_short encR_pf hp40.2.1.1 (Nat.mod_lt _ (by omega)) (hC147.rd hF147)
                have f12 := rd_more encR_pf hp40.2.1.1 (hC154.rd hF154)
                refine WS.op rfl rfl (WS.op rfl rfl ?_)
                cases hb10 : ok136
                ·
                 rw [f9] at hb10; cases hb10
                ·
                 refine WS.op rfl (op_lds [_, _, _, _] (M181.at 4 rfl) rfl (Nat.le_of_ble_eq_true rfl) rfl) (WS.op rfl (op_lds [_, _, _, _] (M181.at 15 rfl) rfl (Nat.le_of_ble_eq_true rfl) rfl) ?_)
                 refine WS.call rfl rfl rfl (SameR_ran M181.here (a := r136) (b := r) (Row.Own.sl O151 (Mem.owni M181 5 rfl)) (A2.mono M181.sub) (by first | (have := hF48.2.2.2.2.2.1; omega) | (have := hF136.2.1; omega))) ?_
                 rintro _ h182 ⟨rfl, N183⟩
                 have M184 := M181.trans N183
                 refine WS.op rfl rfl (WS.op rfl rfl ?_)
                 cases hb11 : (decide (r136 = r))
                 ·
                  exact absurd f10 (of_decide_eq_false hb11)
                 ·
                  refine WS.op rfl rfl ?_
                  cases hb12 : ok147
                  ·
                   refine WS.opV (.bool true) rfl rfl rfl (WS.op rfl rfl (WS.op rfl rfl (WS.op rfl rfl (WS.op rfl rfl ?_))))
                   refine WS.seql (l := bh) (m := []) rfl rfl rfl (fun e170 => ?_) (fun e170 => ?_)
                   ·
                    cases hb13 : ok154
                    ·
                     refine WS.opV (.bool false) rfl rfl rfl (WS.op rfl rfl (WS.op rfl rfl (WS.offC rfl (WS.op rfl rfl (WS.op rfl rfl (WS.nil [(10, _)] rfl ?_))))))
                     refine WC.ret ?_
                     refine ⟨[_], (res_tmp rfl res_nil), ?_⟩
                     exfalso; first | exact absurd (f4.1 (by assumption)) e83 | exact absurd (f4.2 e83) (by rw [Bool.not_eq_true]; assumption) | exact absurd (f8.1 (by assumption)) e126 | exact absurd (f8.2 e126) (by rw [Bool.not_eq_true]; assumption) | exact absurd (f12.1 (by assumption)) e170 | exact absurd (f12.2 e170) (by rw [Bool.not_eq_true]; assumption)
                    ·
                     refine WS.opV (.bool true) rfl rfl rfl (WS.op rfl rfl (WS.op rfl rfl ?_))
                     refine WS.call rfl rfl rfl (awake_ran M184.here ) ?_
                     rintro _ h185 ⟨rfl, N186⟩
                     have M187 := M184.trans N186
                     refine WS.op rfl rfl (WS.op rfl rfl (WS.nil [(10, _)] rfl ?_))
                     refine WC.ret ?_
                     refine ⟨[_], (res_tmp rfl res_nil), ?_⟩
                     rfl
                   ·
                    cases hb13 : ok154
                    ·
                     refine WS.opV (.bool true) rfl rfl rfl (WS.op rfl rfl (WS.op rfl rfl ?_))
                     refine WS.call rfl rfl rfl (awake_ran M184.here ) ?_
                     rintro _ h188 ⟨rfl, N189⟩
                     have M190 := M184.trans N189
                     refine WS.op rfl rfl (WS.op rfl rfl (WS.nil [(10, _)] rfl ?_))
                     refine WC.ret ?_
                     refine ⟨[_], (res_tmp rfl res_nil), ?_⟩
                     rfl
                    ·
                     refine WS.opV (.bool false) rfl rfl rfl (WS.op rfl rfl (WS.op rfl rfl (WS.offC rfl (WS.op rfl rfl (WS.op rfl rfl (WS.nil [(10, _)] rfl ?_))))))
                     refine WC.ret ?_
                     refine ⟨[_], (res_tmp rfl res_nil), ?_⟩
                     exfalso; first | exact absurd (f4.1 (by assumption)) e83 | exact absurd (f4.2 e83) (by rw [Bool.not_eq_true]; assumption) | exact absurd (f8.1 (by assumption)) e126 | exact absurd (f8.2 e126) (by rw [Bool.not_eq_true]; assumption) | exact absurd (f12.1 (by assumption)) e170 | exact absurd (f12.2 e170) (by rw [Bool.not_eq_true]; assumption)
                  ·
                   rw [f11] at hb12; cases hb12
              ·
               refine WS.opV (.bool true) rfl rfl rfl (WS.op rfl rfl (WS.nil [(3, _), (4, _), (7, _), (128, _)] rfl ?_))
               refine WC.condT rfl ?_
               refine WC.seq ?_
               refine WC.run ?_
               refine WS.op rfl rfl (WS.nil [(10, _)] rfl ?_)
               refine WC.ret ?_
               refine ⟨[_], (res_tmp rfl res_nil), ?_⟩
               exfalso; first | exact absurd (f4.1 (by assumption)) e83 | exact absurd (f4.2 e83) (by rw [Bool.not_eq_true]; assumption) | exact absurd (f8.1 (by assumption)) e126 | exact absurd (f8.2 e126) (by rw [Bool.not_eq_true]; assumption) | exact absurd (f12.1 (by assumption)) e170 | exact absurd (f12.2 e170) (by rw [Bool.not_eq_true]; assumption)
            ·
             rw [f7] at hb8; cases hb8
         ·
          refine WS.nil [(3, _), (4, _), (6, _), (7, _), (11, _), (89, _)] rfl ?_
          refine WC.condF rfl ?_
          refine WC.skip ?_
          refine WC.seq ?_
          refine WC.run ?_
          refine WS.op rfl (op_lds [_, _, _, _] (M70.at 6 rfl) rfl (Nat.le_of_ble_eq_true rfl) rfl) ?_
          refine WS.call rfl rfl rfl (WriteR_ran M70.here (r := r) (A2.mono M70.sub) (by exact hp40.2.1.1)) ?_
          rintro _ h191 ⟨rfl, N192⟩
          have M193 := M70.trans N192
          refine WS.op rfl rfl (WS.nil [(3, _), (4, _), (7, _), (11, _)] rfl ?_)
          refine WC.seq ?_
          refine WC.seq ?_
          refine WC.run ?_
          refine WS.op rfl rfl (WS.op rfl (op_lenS (l := (encR r)) rfl) ?_)
          refine WS.lssN (a := ((encR r)).length) (b := 4) rfl rfl rfl (fun e133 => ?_) (fun e133 => ?_)
          ·
           exact absurd e133 (by omega)
          ·
           refine WS.nil [(3, _), (4, _), (7, _), (11, _), (133, _)] rfl ?_
           refine WC.condF rfl ?_
           refine WC.skip ?_
           refine WC.seq ?_
           refine WC.run ?_
           have hwr := encR_len hp40.2.1.2
           have hb6 := hp40.2.2
           refine WS.op rfl rfl ?_
           refine WS.call rfl rfl rfl (ReadR_ran M193.here (s := (encR r)) (by first | omega | (rw [List.length_take]; omega) | (rw [List.length_append]; omega))) ?_
           rintro _ h194 ⟨r136, V197, S198, ok136, O199, rfl, hF136, hy136, hn136, hC136, N195⟩
           obtain ⟨P200, rfl⟩ := O199.shape
           have M196 := M193.trans N195
           replace M196 : Mem _ _ (S198 :: [(p60, _)] :: S57 :: [(p48, _)] :: S45 :: [(p36, _)] :: S33 :: [(p7, _)] :: [(p4, _)] :: [(p1, _)] :: []) _ := M196
           refine WS.op rfl rfl (WS.op rfl rfl (WS.op rfl rfl ?_))
           refine WS.new M196 rfl ?_
           intro p201 h202 M203
           refine WS.st1 (M203.focus 0 rfl) [_, _, _, _] [_, _, _, _] rfl rfl rfl rfl rfl (Nat.le_of_ble_eq_true rfl) (Nat.le_of_ble_eq_true rfl) rfl rfl ?_
           intro h204 M205
           replace M205 : Mem _ _ ([(p201, _)] :: S198 :: [(p60, _)] :: S57 :: [(p48, _)] :: S45 :: [(p36, _)] :: S33 :: [(p7, _)] :: [(p4, _)] :: [(p1, _)] :: []) _ := M205
           refine WS.op rfl rfl (WS.nil [(3, _), (4, _), (7, _), (11, _), (24, _), (25, _)] rfl ?_)
           refine WC.seq ?_
           refine WC.run ?_
           refine WS.op rfl rfl (WS.op rfl rfl (WS.opV (.int .i64 (((ct).toNat : Nat) : Int)) rfl rfl (cv_i64 (n := (ct).toNat) (by have := UInt16.toNat_lt ct; omega)) (WS.op rfl rfl (WS.op rfl (op_lenS (l := (encR r)) rfl) (WS.op rfl (op_remN (a := (ct).toNat) (b := ((encR r)).length) rfl rfl (by omega)) (WS.op rfl (op_slS1 (l := (encR r)) (((ct).toNat) % (((encR r)).length)) rfl rfl (by have := Nat.mod_lt ct.toNat (show 0 < (encR r).length by omega); omega)) ?_))))))
           refine WS.call rfl rfl rfl (ReadR_ran M205.here (s := (((encR r)).take (((ct).toNat) % (((encR r)).length)))) (by first | omega | (rw [List.length_take]; omega) | (rw [List.length_append]; omega))) ?_
           rintro _ h206 ⟨r147, V209, S210, ok147, O211, rfl, hF147, hy147, hn147, hC147, N207⟩
           obtain ⟨P212, rfl⟩ := O211.shape
           have M208 := M205.trans N207
           replace M208 : Mem _ _ (S210 :: [(p201, _)] :: S198 :: [(p60, _)] :: S57 :: [(p48, _)] :: S45 :: [(p36, _)] :: S33 :: [(p7, _)] :: [(p4, _)] :: [(p1, _)] :: []) _ := M208
           refine WS.op rfl rfl (WS.op rfl rfl (WS.op rfl rfl ?_))
           refine WS.new M208 rfl ?_
           intro p213 h214 M215
           refine WS.st1 (M215.focus 0 rfl) [_, _, _, _] [_, _, _, _] rfl rfl rfl rfl rfl (Nat.le_of_ble_eq_true rfl) (Nat.le_of_ble_eq_true rfl) rfl rfl ?_
           intro h216 M217
           replace M217 : Mem _ _ ([(p213, _)] :: S210 :: [(p201, _)] :: S198 :: [(p60, _)] :: S57 :: [(p48, _)] :: S45 :: [(p36, _)] :: S33 :: [(p7, _)] :: [(p4, _)] :: [(p1, _)] :: []) _ := M217
           refine WS.op rfl rfl (WS.nil [(4, _), (7, _), (11, _), (24, _), (25, _), (27, _)] rfl ?_)
           refine WC.seq ?_
           refine WC.run ?_
           refine WS.op rfl rfl (WS.op rfl rfl (WS.op rfl (op_sadd (l := (encR r)) (m := bh) rfl rfl (by omega)) ?_))
           refine WS.call rfl rfl rfl (ReadR_ran M217.here (s := ((encR r) ++ bh)) (by first | omega | (rw [List.length_take]; omega) | (rw [List.length_append]; omega))) ?_
           rintro _ h218 ⟨r154, V221, S222, ok154, O223, rfl, hF154, hy154, hn154, hC154, N219⟩
           obtain ⟨P224, rfl⟩ := O223.shape
           have M220 := M217.trans N219
           replace M220 : Mem _ _ (S222 :: [(p213, _)] :: S210 :: [(p201, _)] :: S198 :: [(p60, _)] :: S57 :: [(p48, _)] :: S45 :: [(p36, _)] :: S33 :: [(p7, _)] :: [(p4, _)] :: [(p1, _)] :: []) _ := M220
           refine WS.op rfl rfl (WS.op rfl rfl (WS.op rfl rfl ?_))
           refine WS.new M220 rfl ?_
           intro p225 h226 M227
           refine WS.st1 (M227.focus 0 rfl) [_, _, _, _] [_, _, _, _] rfl rfl rfl rfl rfl (Nat.le_of_ble_eq_true rfl) (Nat.le_of_ble_eq_true rfl) rfl rfl ?_
           intro h228 M229
           replace M229 : Mem _ _ ([(p225, _)] :: S222 :: [(p213, _)] :: S210 :: [(p201, _)] :: S198 :: [(p60, _)] :: S57 :: [(p48, _)] :: S45 :: [(p36, _)] :: S33 :: [(p7, _)] :: [(p4, _)] :: [(p1, _)] :: []) _ := M229
           refine WS.op rfl rfl (WS.nil [(4, _), (7, _), (24, _), (25, _), (27, _), (29, _)] rfl ?_)
           refine WC.seq ?_
           refine WC.run ?_
           obtain ⟨f9, f10⟩ := rd_self encR_pf hp40.2.1.1 (hC136.rd hF136)
           have f11 := rd_short encR_pf hp40.2.1.1 (Nat.mod_lt _ (by omega)) (hC147.rd hF147)
           have f12 := rd_more encR_pf hp40.2.1.1 (hC154.rd hF154)
           refine WS.op rfl rfl (WS.op rfl rfl ?_)
           cases hb10 : ok136
           ·
            rw [f9] at hb10; cases hb10
           ·
            refine WS.op rfl (op_lds [_, _, _, _] (M229.at 4 rfl) rfl (Nat.le_of_ble_eq_true rfl) rfl) (WS.op rfl (op_lds [_, _, _, _] (M229.at 12 rfl) rfl (Nat.le_of_ble_eq_true rfl) rfl) ?_)
            refine WS.call rfl rfl rfl (SameR_ran M229.here (a := r136) (b := r) (Row.Own.sl O199 (Mem.owni M229 5 rfl)) (A2.mono M229.sub) (by first | (have := hF48.2.2.2.2.2.1; omega) | (have := hF136.2.1; omega))) ?_
            rintro _ h230 ⟨rfl, N231⟩
            have M232 := M229.trans N231
            refine WS.op rfl rfl (WS.op rfl rfl ?_)
            cases hb11 : (decide (r136 = r))
            ·
             exact absurd f10 (of_decide_eq_false hb11)
            ·
             refine WS.op rfl rfl ?_
             cases hb12 : ok147
             ·
              refine WS.opV (.bool true) rfl rfl rfl (WS.op rfl rfl (WS.op rfl rfl (WS.op rfl rfl (WS.op rfl rfl ?_))))
              refine WS.seql (l := bh) (m := []) rfl rfl rfl (fun e170 => ?_) (fun e170 => ?_)
              ·
               cases hb13 : ok154
               ·
                refine WS.opV (.bool false) rfl rfl rfl (WS.op rfl rfl (WS.op rfl rfl (WS.offC rfl (WS.op rfl rfl (WS.op rfl rfl (WS.nil [(10, _)] rfl ?_))))))
                refine WC.ret ?_
                refine ⟨[_], (res_tmp rfl res_nil), ?_⟩
                exfalso; first | exact absurd (f4.1 (by assumption)) e83 | exact absurd (f4.2 e83) (by rw [Bool.not_eq_true]; assumption) | exact absurd (f8.1 (by assumption)) e126 | exact absurd (f8.2 e126) (by rw [Bool.not_eq_true]; assumption) | exact absurd (f12.1 (by assumption)) e170 | exact absurd (f12.2 e170) (by rw [Bool.not_eq_true]; assumption)
               ·
                refine WS.opV (.bool true) rfl rfl rfl (WS.op rfl rfl (WS.op rfl rfl ?_))
                refine WS.call rfl rfl rfl (awake_ran M232.here ) ?_
                rintro _ h233 ⟨rfl, N234⟩
                have M235 := M232.trans N234
                refine WS.op rfl rfl (WS.op rfl rfl (WS.nil [(10, _)] rfl ?_))
                refine WC.ret ?_
                refine ⟨[_], (res_tmp rfl res_nil), ?_⟩
                rfl
              ·
               cases hb13 : ok154
               ·
                refine WS.opV (.bool true) rfl rfl rfl (WS.op rfl rfl (WS.op rfl rfl ?_))
                refine WS.call rfl rfl rfl (awake_ran M232.here ) ?_
                rintro _ h236 ⟨rfl, N237⟩
                have M238 := M232.trans N237
                refine WS.op rfl rfl (WS.op rfl rfl (WS.nil [(10, _)] rfl ?_))
                refine WC.ret ?_
                refine ⟨[_], (res_tmp rfl res_nil), ?_⟩
                rfl
               ·
                refine WS.opV (.bool false) rfl rfl rfl (WS.op rfl rfl (WS.op rfl rfl (WS.offC rfl (WS.op rfl rfl (WS.op rfl rfl (WS.nil [(10, _)] rfl ?_))))))
                refine WC.ret ?_
                refine ⟨[_], (res_tmp rfl res_nil), ?_⟩
                exfalso; first | exact absurd (f4.1 (by assumption)) e83 | exact absurd (f4.2 e83) (by rw [Bool.not_eq_true]; assumption) | exact absurd (f8.1 (by assumption)) e126 | exact absurd (f8.2 e126) (by rw [Bool.not_eq_true]; assumption) | exact absurd (f12.1 (by assumption)) e170 | exact absurd (f12.2 e170) (by rw [Bool.not_eq_true]; assumption)
             ·
              rw [f11] at hb12; cases hb12
       ·
        cases hb6 : ok66
        ·
         refine WS.opV (.bool false) rfl rfl rfl (WS.op rfl rfl (WS.nil [(3, _), (4, _), (6, _), (7, _), (85, _)] rfl ?_))
         refine WC.condF rfl ?_
         refine WC.skip ?_
         refine WC.seq ?_
         refine WC.run ?_
         refine WS.op rfl (op_lds [_, _, _, _, _, _, _, _, _, _, _, _, _, _, _, _] (M67.at 7 rfl) rfl (Nat.le_of_ble_eq_true rfl) rfl) ?_
         refine WS.call rfl rfl rfl (WriteO_ran M67.here (o := o)) ?_
         rintro _ h239 ⟨rfl, N240⟩
         have M241 := M67.trans N240
         refine WS.op rfl rfl (WS.nil [(3, _), (4, _), (6, _), (7, _), (11, _)] rfl ?_)
         refine WC.seq ?_
         refine WC.seq ?_
         refine WC.run ?_
         refine WS.op rfl rfl ?_
         refine WS.sneq (l := (if mayOB o then encO o else [])) (m := []) rfl rfl rfl (fun e89 => ?_) (fun e89 => ?_)
         ·
          refine WS.nil [(3, _), (4, _), (6, _), (7, _), (11, _), (89, _)] rfl ?_
          refine WC.condT rfl ?_
          refine WC.seq ?_
          refine WC.run ?_
          have hwo := wrO_len (c := o)
          have hpo := List.length_pos_iff.2 e89
          have hb5 := hp40.2.2
          refine WS.op rfl rfl ?_
          refine WS.call rfl rfl rfl (ReadO_ran M241.here (s := (if mayOB o then encO o else [])) (by first | omega | (rw [List.length_take]; omega) | (rw [List.length_append]; omega))) ?_
          rintro _ h242 ⟨o92, ok92, rfl, hy92, hn92, hC92, N243⟩
          have M244 := M241.trans N243
          refine WS.op rfl rfl (WS.op rfl rfl (WS.op rfl rfl ?_))
          refine WS.new M244 rfl ?_
          intro p245 h246 M247
          refine WS.st1 (M247.focus 0 rfl) [_, _, _, _, _, _, _, _, _, _, _, _, _, _, _, _] [_, _, _, _, _, _, _, _, _, _, _, _, _, _, _, _] rfl rfl rfl rfl rfl (Nat.le_of_ble_eq_true rfl) (Nat.le_of_ble_eq_true rfl) rfl rfl ?_
          intro h248 M249
          replace M249 : Mem _ _ ([(p245, _)] :: [(p60, _)] :: S57 :: [(p48, _)] :: S45 :: [(p36, _)] :: S33 :: [(p7, _)] :: [(p4, _)] :: [(p1, _)] :: []) _ := M249
          refine WS.op rfl rfl (WS.nil [(3, _), (4, _), (6, _), (7, _), (11, _), (18, _), (19, _)] rfl ?_)
          refine WC.seq ?_
          refine WC.run ?_
          refine WS.op rfl rfl (WS.op rfl rfl (WS.opV (.int .i64 (((ct).toNat : Nat) : Int)) rfl rfl (cv_i64 (n := (ct).toNat) (by have := UInt16.toNat_lt ct; omega)) (WS.op rfl rfl (WS.op rfl (op_lenS (l := (if mayOB o then encO o else [])) rfl) (WS.op rfl (op_remN (a := (ct).toNat) (b := ((if mayOB o then encO o else [])).length) rfl rfl (by exact hpo)) (WS.op rfl (op_slS1 (l := (if mayOB o then encO o else [])) (((ct).toNat) % (((if mayOB o then encO o else [])).length)) rfl rfl (by have := Nat.mod_lt ct.toNat hpo; omega)) ?_))))))
          refine WS.call rfl rfl rfl (ReadO_ran M249.here (s := (((if mayOB o then encO o else [])).take (((ct).toNat) % (((if mayOB o then encO o else [])).length)))) (by first | omega | (rw [List.length_take]; omega) | (rw [List.length_append]; omega))) ?_
          rintro _ h250 ⟨o103, ok103, rfl, hy103, hn103, hC103, N251⟩
          have M252 := M249.trans N251
          refine WS.op rfl rfl (WS.op rfl rfl (WS.op rfl rfl ?_))
          refine WS.new M252 rfl ?_
          intro p253 h254 M255
          refine WS.st1 (M255.focus 0 rfl) [_, _, _, _, _, _, _, _, _, _, _, _, _, _, _, _] [_, _, _, _, _, _, _, _, _, _, _, _, _, _, _, _] rfl rfl rfl rfl rfl (Nat.le_of_ble_eq_true rfl) (Nat.le_of_ble_eq_true rfl) rfl rfl ?_
          intro h256 M257
          replace M257 : Mem _ _ ([(p253, _)] :: [(p245, _)] :: [(p60, _)] :: S57 :: [(p48, _)] :: S45 :: [(p36, _)] :: S33 :: [(p7, _)] :: [(p4, _)] :: [(p1, _)] :: []) _ := M257
          refine WS.op rfl rfl (WS.nil [(3, _), (4, _), (6, _), (7, _), (11, _), (18, _), (19, _), (21, _)] rfl ?_)
          refine WC.seq ?_
          refine WC.run ?_
          refine WS.op rfl rfl (WS.op rfl rfl (WS.op rfl (op_sadd (l := (if mayOB o then encO o else [])) (m := bh) rfl rfl (by omega)) ?_))
          refine WS.call rfl rfl rfl (ReadO_ran M257.here (s := ((if mayOB o then encO o else []) ++ bh)) (by first | omega | (rw [List.length_take]; omega) | (rw [List.length_append]; omega))) ?_
          rintro _ h258 ⟨o110, ok110, rfl, hy110, hn110, hC110, N259⟩
          have M260 := M257.trans N259
          refine WS.op rfl rfl (WS.op rfl rfl (WS.op rfl rfl ?_))
          refine WS.new M260 rfl ?_
          intro p261 h262 M263
          refine WS.st1 (M263.focus 0 rfl) [_, _, _, _, _, _, _, _, _, _, _, _, _, _, _, _] [_, _, _, _, _, _, _, _, _, _, _, _, _, _, _, _] rfl rfl rfl rfl rfl (Nat.le_of_ble_eq_true rfl) (Nat.le_of_ble_eq_true rfl) rfl rfl ?_
          intro h264 M265
          replace M265 : Mem _ _ ([(p261, _)] :: [(p253, _)] :: [(p245, _)] :: [(p60, _)] :: S57 :: [(p48, _)] :: S45 :: [(p36, _)] :: S33 :: [(p7, _)] :: [(p4, _)] :: [(p1, _)] :: []) _ := M265
          refine WS.op rfl rfl (WS.nil [(3, _), (4, _), (6, _), (7, _), (18, _), (19, _), (21, _), (23, _)] rfl ?_)
          refine WC.seq ?_
          refine WC.run ?_
          have hM2 := wrO_t e89
          have hE2 : (if mayOB o then encO o else []) = encO o := if_pos hM2
          have hG2 : MayO o := of_decide_eq_true hM2
          rw [hE2] at hC92 hC103 hC110 hpo
          obtain ⟨f5, f6⟩ := rd_self encO_pf hG2 hC92.rd
          have f7 := rd_short encO_pf hG2 (Nat.mod_lt _ hpo) hC103.rd
          have f8 := rd_more encO_pf hG2 hC110.rd
          refine WS.op rfl rfl ?_
          cases hb7 : ok92
          ·
           rw [f5] at hb7; cases hb7
          ·
           refine WS.opV (.bool false) rfl rfl rfl (WS.op rfl rfl (WS.op rfl (op_lds [_, _, _, _, _, _, _, _, _, _, _, _, _, _, _, _] (M265.at 2 rfl) rfl (Nat.le_of_ble_eq_true rfl) rfl) (WS.op rfl (op_lds [_, _, _, _, _, _, _, _, _, _, _, _, _, _, _, _] (M265.at 10 rfl) rfl (Nat.le_of_ble_eq_true rfl) rfl) ?_)))
           refine WS.eqqDn (p := o92 = o) rfl rfl rfl (Oper_eqV _ _) (fun e118 => ?_) (fun e118 => ?_)
           ·
            exact absurd f6 e118
           ·
            refine WS.op rfl rfl (WS.op rfl rfl (WS.op rfl rfl (WS.op rfl rfl (WS.op rfl rfl ?_))))
            cases hb8 : ok103
            ·
             refine WS.op rfl rfl (WS.op rfl rfl ?_)
             refine WS.seql (l := bh) (m := []) rfl rfl rfl (fun e126 => ?_) (fun e126 => ?_)
             ·
              cases hb9 : ok110
              ·
               refine WS.opV (.bool true) rfl rfl rfl (WS.op rfl rfl (WS.nil [(3, _), (4, _), (7, _), (128, _)] rfl ?_))
               refine WC.condT rfl ?_
               refine WC.seq ?_
               refine WC.run ?_
               refine WS.op rfl rfl (WS.nil [(10, _)] rfl ?_)
               refine WC.ret ?_
               refine ⟨[_], (res_tmp rfl res_nil), ?_⟩
               exfalso; first | exact absurd (f4.1 (by assumption)) e83 | exact absurd (f4.2 e83) (by rw [Bool.not_eq_true]; assumption) | exact absurd (f8.1 (by assumption)) e126 | exact absurd (f8.2 e126) (by rw [Bool.not_eq_true]; assumption) | exact absurd (f12.1 (by assumption)) e170 | exact absurd (f12.2 e170) (by rw [Bool.not_eq_true]; assumption)
              ·
               refine WS.opV (.bool false) rfl rfl rfl (WS.op rfl rfl (WS.nil [(3, _), (4, _), (7, _), (128, _)] rfl ?_))
               refine WC.condF rfl ?_
               refine WC.skip ?_
               refine WC.seq ?_
               refine WC.run ?_
               refine WS.op rfl (op_lds [_, _, _, _] (M265.at 9 rfl) rfl (Nat.le_of_ble_eq_true rfl) rfl) ?_
               refine WS.call rfl rfl rfl (WriteR_ran M265.here (r := r) (A2.mono M265.sub) (by exact hp40.2.1.1)) ?_
               rintro _ h266 ⟨rfl, N267⟩
               have M268 := M265.trans N267
               refine WS.op rfl rfl (WS.nil [(3, _), (4, _), (7, _), (11, _)] rfl ?_)
               refine WC.seq ?_
               refine WC.seq ?_
               refine WC.run ?_
               refine WS.op rfl rfl (WS.op rfl (op_lenS (l := (encR r)) rfl) ?_)
               refine WS.lssN (a := ((encR r)).length) (b := 4) rfl rfl rfl (fun e133 => ?_) (fun e133 => ?_)
               ·
                exact absurd e133 (by omega)
               ·
                refine WS.nil [(3, _), (4, _), (7, _), (11, _), (133, _)] rfl ?_
                refine WC.condF rfl ?_
                refine WC.skip ?_
                refine WC.seq ?_
                refine WC.run ?_
                have hwr := encR_len hp40.2.1.2
                have hb6 := hp40.2.2
                refine WS.op rfl rfl ?_
                refine WS.call rfl rfl rfl (ReadR_ran M268.here (s := (encR r)) (by first | omega | (rw [List.length_take]; omega) | (rw [List.length_append]; omega))) ?_
                rintro _ h269 ⟨r136, V272, S273, ok136, O274, rfl, hF136, hy136, hn136, hC136, N270⟩
                obtain ⟨P275, rfl⟩ := O274.shape
                have M271 := M268.trans N270
                replace M271 : Mem _ _ (S273 :: [(p261, _)] :: [(p253, _)] :: [(p245, _)] :: [(p60, _)] :: S57 :: [(p48, _)] :: S45 :: [(p36, _)] :: S33 :: [(p7, _)] :: [(p4, _)] :: [(p1, _)] :: []) _ := M271
                refine WS.op rfl rfl (WS.op rfl rfl (WS.op rfl rfl ?_))
                refine WS.new M271 rfl ?_
                intro p276 h277 M278
                refine WS.st1 (M278.focus 0 rfl) [_, _, _, _] [_, _, _, _] rfl rfl rfl rfl rfl (Nat.le_of_ble_eq_true rfl) (Nat.le_of_ble_eq_true rfl) rfl rfl ?_
                intro h279 M280
                replace M280 : Mem _ _ ([(p276, _)] :: S273 :: [(p261, _)] :: [(p253, _)] :: [(p245, _)] :: [(p60, _)] :: S57 :: [(p48, _)] :: S45 :: [(p36, _)] :: S33 :: [(p7, _)] :: [(p4, _)] :: [(p1, _)] :: []) _ := M280
                refine WS.op rfl rfl (WS.nil [(3, _), (4, _), (7, _), (11, _), (24, _), (25, _)] rfl ?_)
                refine WC.seq ?_
                refine WC.run ?_
                refine WS.op rfl rfl (WS.op rfl rfl (WS.opV (.int .i64 (((ct).toNat : Nat) : Int)) rfl rfl (cv_i64 (n := (ct).toNat) (by have := UInt16.toNat_lt ct; omega)) (WS.op rfl rfl (WS.op rfl (op_lenS (l := (encR r)) rfl) (WS.op rfl (op_remN (a := (ct).toNat) (b := ((encR r)).length) rfl rfl (by omega)) (WS.op rfl (op_slS1 (l := (encR r)) (((ct).toNat) % (((encR r)).length)) rfl rfl (by have := Nat.mod_lt ct.toNat (show 0 < (encR r).length by omega); omega)) ?_))))))
                refine WS.call rfl rfl rfl (ReadR_ran M280.here (s := (((encR r)).take (((ct).toNat) % (((encR r)).length)))) (by first | omega | (rw [List.length_take]; omega) | (rw [List.length_append]; omega))) ?_
                rintro _ h281 ⟨r147, V284, S285, ok147, O286, rfl, hF147, hy147, hn147, hC147, N282⟩
                obtain ⟨P287, rfl⟩ := O286.shape
                have M283 := M280.trans N282
                replace M283 : Mem _ _ (S285 :: [(p276, _)] :: S273 :: [(p261, _)] :: [(p253, _)] :: [(p245, _)] :: [(p60, _)] :: S57 :: [(p48, _)] :: S45 :: [(p36, _)] :: S33 :: [(p7, _)] :: [(p4, _)] :: [(p1, _)] :: []) _ := M283
                refine WS.op rfl rfl (WS.op rfl rfl (WS.op rfl rfl ?_))
                refine WS.new M283 rfl ?_
                intro p288 h289 M290
                refine WS.st1 (M290.focus 0 rfl) [_, _, _, _] [_, _, _, _] rfl rfl rfl rfl rfl (Nat.le_of_ble_eq_true rfl) (Nat.le_of_ble_eq_true rfl) rfl rfl ?_
                intro h291 M292
                replace M292 : Mem _ _ ([(p288, _)] :: S285 :: [(p276, _)] :: S273 :: [(p261, _)] :: [(p253, _)] :: [(p245, _)] :: [(p60, _)] :: S57 :: [(p48, _)] :: S45 :: [(p36, _)] :: S33 :: [(p7, _)] :: [(p4, _)] :: [(p1, _)] :: []) _ := M292
                refine WS.op rfl rfl (WS.nil [(4, _), (7, _), (11, _), (24, _), (25, _), (27, _)] rfl ?_)
                refine WC.seq ?_
                refine WC.run ?_
                refine WS.op rfl rfl (WS.op rfl rfl (WS.op rfl (op_sadd (l := (encR r)) (m := bh) rfl rfl (by omega)) ?_))
                refine WS.call rfl rfl rfl (ReadR_ran M292.here (s := ((encR r) ++ bh)) (by first | omega | (rw [List.length_take]; omega) | (rw [List.length_append]; omega))) ?_
                rintro _ h293 ⟨r154, V296, S297, ok154, O298, rfl, hF154, hy154, hn154, hC154, N294⟩
                obtain ⟨P299, rfl⟩ := O298.shape
                have M295 := M292.trans N294
                replace M295 : Mem _ _ (S297 :: [(p288, _)] :: S285 :: [(p276, _)] :: S273 :: [(p261, _)] :: [(p253, _)] :: [(p245, _)] :: [(p60, _)] :: S57 :: [(p48, _)] :: S45 :: [(p36, _)] :: S33 :: [(p7, _)] :: [(p4, _)] :: [(p1, _)] :: []) _ := M295
                refine WS.op rfl rfl (WS.op rfl rfl (WS.op rfl rfl ?_))
                refine WS.new M295 rfl ?_
                intro p300 h301 M302
                refine WS.st1 (M302.focus 0 rfl) [_, _, _, _] [_, _, _, _] rfl rfl rfl rfl rfl (Nat.le_of_ble_eq_true rfl) (Nat.le_of_ble_eq_true rfl) rfl rfl ?_
                intro h303 M304
                replace M304 : Mem _ _ ([(p300, _)] :: S297 :: [(p288, _)] :: S285 :: [(p276, _)] :: S273 :: [(p261, _)] :: [(p253, _)] :: [(p245, _)] :: [(p60, _)] :: S57 :: [(p48, _)] :: S45 :: [(p36, _)] :: S33 :: [(p7, _)] :: [(p4, _)] :: [(p1, _)] :: []) _ := M304
                refine WS.op rfl rfl (WS.nil [(4, _), (7, _), (24, _), (25, _), (27, _), (29, _)] rfl ?_)
                refine WC.seq ?_
                refine WC.run ?_
                obtain ⟨f9, f10⟩ := rd_self encR_pf hp40.2.1.1 (hC136.rd hF136)
                have f11 := rd_short encR_pf hp40.2.1.1 (Nat.mod_lt _ (by omega)) (hC147.rd hF147)
                have f12 := rd_more encR_pf hp40.2.1.1 (hC154.rd hF154)
                refine WS.op rfl rfl (WS.op rfl rfl ?_)
                cases hb10 : ok136
                ·
                 rw [f9] at hb10; cases hb10
                ·
                 refine WS.op rfl (op_lds [_, _, _, _] (M304.at 4 rfl) rfl (Nat.le_of_ble_eq_true rfl) rfl) (WS.op rfl (op_lds [_, _, _, _] (M304.at 15 rfl) rfl (Nat.le_of_ble_eq_true rfl) rfl) ?_)
                 refine WS.call rfl rfl rfl (SameR_ran M304.here (a := r136) (b := r) (Row.Own.sl O274 (Mem.owni M304 5 rfl)) (A2.mono M304.sub) (by first | (have := hF48.2.2.2.2.2.1; omega) | (have := hF136.2.1; omega))) ?_
                 rintro _ h305 ⟨rfl, N306⟩
                 have M307 := M304.trans N306
                 refine WS.op rfl rfl (WS.op rfl rfl ?_)
                 cases hb11 : (decide (r136 = r))
                 ·
                  exact absurd f10 (of_decide_eq_false hb11)
                 ·
                  refine WS.op rfl rfl ?_
                  cases hb12 : ok147
                  ·
                   refine WS.opV (.bool true) rfl rfl rfl (WS.op rfl rfl (WS.op rfl rfl (WS.op rfl rfl (WS.op rfl rfl ?_))))
                   refine WS.seql (l := bh) (m := []) rfl rfl rfl (fun e170 => ?_) (fun e170 => ?_)
                   ·
                    cases hb13 : ok154
                    ·
                     refine WS.opV (.bool false) rfl rfl rfl (WS.op rfl rfl (WS.op rfl rfl (WS.offC rfl (WS.op rfl rfl (WS.op rfl rfl (WS.nil [(10, _)] rfl ?_))))))
                     refine WC.ret ?_
                     refine ⟨[_], (res_tmp rfl res_nil), ?_⟩
                     exfalso; first | exact absurd (f4.1 (by assumption)) e83 | exact absurd (f4.2 e83) (by rw [Bool.not_eq_true]; assumption) | exact absurd (f8.1 (by assumption)) e126 | exact absurd (f8.2 e126) (by rw [Bool.not_eq_true]; assumption) | exact absurd (f12.1 (by assumption)) e170 | exact absurd (f12.2 e170) (by rw [Bool.not_eq_true]; assumption)
                    ·
                     refine WS.opV (.bool true) rfl rfl rfl (WS.op rfl rfl (WS.op rfl rfl ?_))
                     refine WS.call rfl rfl rfl (awake_ran M307.here ) ?_
                     rintro _ h308 ⟨rfl, N309⟩
                     have M310 := M307.trans N309
                     refine WS.op rfl rfl (WS.op rfl rfl (WS.nil [(10, _)] rfl ?_))
                     refine WC.ret ?_
                     refine ⟨[_], (res_tmp rfl res_nil), ?_⟩
                     rfl
                   ·
                    cases hb13 : ok154
                    ·
                     refine WS.opV (.bool true) rfl rfl rfl (WS.op rfl rfl (WS.op rfl rfl ?_))
                     refine WS.call rfl rfl rfl (awake_ran M307.here ) ?_
                     rintro _ h311 ⟨rfl, N312⟩
                     have M313 := M307.trans N312
                     refine WS.op rfl rfl (WS.op rfl rfl (WS.nil [(10, _)] rfl ?_))
                     refine WC.ret ?_
                     refine ⟨[_], (res_tmp rfl res_nil), ?_⟩
                     rfl
                    ·
                     refine WS.opV (.bool false) rfl rfl rfl (WS.op rfl rfl (WS.op rfl rfl (WS.offC rfl (WS.op rfl rfl (WS.op rfl rfl (WS.nil [(10, _)] rfl ?_))))))
                     refine WC.ret ?_
                     refine ⟨[_], (res_tmp rfl res_nil), ?_⟩
                     exfalso; first | exact absurd (f4.1 (by assumption)) e83 | exact absurd (f4.2 e83) (by rw [Bool.not_eq_true]; assumption) | exact absurd (f8.1 (by assumption)) e126 | exact absurd (f8.2 e126) (by rw [Bool.not_eq_true]; assumption) | exact absurd (f12.1 (by assumption)) e170 | exact absurd (f12.2 e170) (by rw [Bool.not_eq_true]; assumption)
                  ·
                   rw [f11] at hb12; cases hb12
             ·
              cases hb9 : ok110
              ·
               refine WS.opV (.bool false) rfl rfl rfl (WS.op rfl rfl (WS.nil [(3, _), (4, _), (7, _), (128, _)] rfl ?_))
               refine WC.condF rfl ?_
               refine WC.skip ?_
               refine WC.seq ?_
               refine WC.run ?_
               refine WS.op rfl (op_lds [_, _, _, _] (M265.at 9 rfl) rfl (Nat.le_of_ble_eq_true rfl) rfl) ?_
               refine WS.call rfl rfl rfl (WriteR_ran M265.here (r := r) (A2.mono M265.sub) (by exact hp40.2.1.1)) ?_
               rintro _ h314 ⟨rfl, N315⟩
               have M316 := M265.trans N315
               refine WS.op rfl rfl (WS.nil [(3, _), (4, _), (7, _), (11, _)] rfl ?_)
               refine WC.seq ?_
               refine WC.seq ?_
               refine WC.run ?_
               refine WS.op rfl rfl (WS.op rfl (op_lenS (l := (encR r)) rfl) ?_)
               refine WS.lssN (a := ((encR r)).length) (b := 4) rfl rfl rfl (fun e133 => ?_) (fun e133 => ?_)
               ·
                exact absurd e133 (by omega)
               ·
                refine WS.nil [(3, _), (4, _), (7, _), (11, _), (133, _)] rfl ?_
                refine WC.condF rfl ?_
                refine WC.skip ?_
                refine WC.seq ?_
                refine WC.run ?_
                have hwr := encR_len hp40.2.1.2
                have hb6 := hp40.2.2
                refine WS.op rfl rfl ?_
                refine WS.call rfl rfl rfl (ReadR_ran M316.here (s := (encR r)) (by first | omega | (rw [List.length_take]; omega) | (rw [List.length_append]; omega))) ?_
                rintro _ h317 ⟨r136, V320, S321, ok136, O322, rfl, hF136, hy136, hn136, hC136, N318⟩
                obtain ⟨P323, rfl⟩ := O322.shape
                have M319 := M316.trans N318
                replace M319 : Mem _ _ (S321 :: [(p261, _)] :: [(p253, _)] :: [(p245, _)] :: [(p60, _)] :: S57 :: [(p48, _)] :: S45 :: [(p36, _)] :: S33 :: [(p7, _)] :: [(p4, _)] :: [(p1, _)] :: []) _ := M319
                refine WS.op rfl rfl (WS.op rfl rfl (WS.op rfl rfl ?_))
                refine WS.new M319 rfl ?_
                intro p324 h325 M326
                refine WS.st1 (M326.focus 0 rfl) [_, _, _, _] [_, _, _, _] rfl rfl rfl rfl rfl (Nat.le_of_ble_eq_true rfl) (Nat.le_of_ble_eq_true rfl) rfl rfl ?_
                intro h327 M328
                replace M328 : Mem _ _ ([(p324, _)] :: S321 :: [(p261, _)] :: [(p253, _)] :: [(p245, _)] :: [(p60, _)] :: S57 :: [(p48, _)] :: S45 :: [(p36, _)] :: S33 :: [(p7, _)] :: [(p4, _)] :: [(p1, _)] :: []) _ := M328
                refine WS.op rfl rfl (WS.nil [(3, _), (4, _), (7, _), (11, _), (24, _), (25, _)] rfl ?_)
                refine WC.seq ?_
                refine WC.run ?_
                refine WS.op rfl rfl (WS.op rfl rfl (WS.opV (.int .i64 (((ct).toNat : Nat) : Int)) rfl rfl (cv_i64 (n := (ct).toNat) (by have := UInt16.toNat_lt ct; omega)) (WS.op rfl rfl (WS.op rfl (op_lenS (l := (encR r)) rfl) (WS.op rfl (op_remN (a := (ct).toNat) (b := ((encR r)).length) rfl rfl (by omega)) (WS.op rfl (op_slS1 (l := (encR r)) (((ct).toNat) % (((encR r)).length)) rfl rfl (by have := Nat.mod_lt ct.toNat (show 0 < (encR r).length by omega); omega)) ?_))))))
                refine WS.call rfl rfl rfl (ReadR_ran M328.here (s := (((encR r)).take (((ct).toNat) % (((encR r)).length)))) (by first | omega | (rw [List.length_take]; omega) | (rw [List.length_append]; omega))) ?_
                rintro _ h329 ⟨r147, V332, S333, ok147, O334, rfl, hF147, hy147, hn147, hC147, N330⟩
                obtain ⟨P335, rfl⟩ := O334.shape
                have M331 := M328.trans N330
                replace M331 : Mem _ _ (S333 :: [(p324, _)] :: S321 :: [(p261, _)] :: [(p253, _)] :: [(p245, _)] :: [(p60, _)] :: S57 :: [(p48, _)] :: S45 :: [(p36, _)] :: S33 :: [(p7, _)] :: [(p4, _)] :: [(p1, _)] :: []) _ := M331
                refine WS.op rfl rfl (WS.op rfl rfl (WS.op rfl rfl ?_))
                refine WS.new M331 rfl ?_
                intro p336 h337 M338
                refine WS.st1 (M338.focus 0 rfl) [_, _, _, _] [_, _, _, _] rfl rfl rfl rfl rfl (Nat.le_of_ble_eq_true rfl) (Nat.le_of_ble_eq_true rfl) rfl rfl ?_
                intro h339 M340
                replace M340 : Mem _ _ ([(p336, _)] :: S333 :: [(p324, _)] :: S321 :: [(p261, _)] :: [(p253, _)] :: [(p245, _)] :: [(p60, _)] :: S57 :: [(p48, _)] :: S45 :: [(p36, _)] :: S33 :: [(p7, _)] :: [(p4, _)] :: [(p1, _)] :: []) _ := M340
                refine WS.op rfl rfl (WS.nil [(4, _), (7, _), (11, _), (24, _), (25, _), (27, _)] rfl ?_)
                refine WC.seq ?_
                refine WC.run ?_
                refine WS.op rfl rfl (WS.op rfl rfl (WS.op rfl (op_sadd (l := (encR r)) (m := bh) rfl rfl (by omega)) ?_))
                refine WS.call rfl rfl rfl (ReadR_ran M340.here (s := ((encR r) ++ bh)) (by first | omega | (rw [List.length_take]; omega) | (rw [List.length_append]; omega))) ?_
                rintro _ h341 ⟨r154, V344, S345, ok154, O346, rfl, hF154, hy154, hn154, hC154, N342⟩
                obtain ⟨P347, rfl⟩ := O346.shape
                have M343 := M340.trans N342
                replace M343 : Mem _ _ (S345 :: [(p336, _)] :: S333 :: [(p324, _)] :: S321 :: [(p261, _)] :: [(p253, _)] :: [(p245, _)] :: [(p60, _)] :: S57 :: [(p48, _)] :: S45 :: [(p36, _)] :: S33 :: [(p7, _)] :: [(p4, _)] :: [(p1, _)] :: []) _ := M343
                refine WS.op rfl rfl (WS.op rfl rfl (WS.op rfl rfl ?_))
                refine WS.new M343 rfl ?_
                intro p348 h349 M350
                refine WS.st1 (M350.focus 0 rfl) [_, _, _, _] [_, _, _, _] rfl rfl rfl rfl rfl (Nat.le_of_ble_eq_true rfl) (Nat.le_of_ble_eq_true rfl) rfl rfl ?_
                intro h351 M352
                replace M352 : Mem _ _ ([(p348, _)] :: S345 :: [(p336, _)] :: S333 :: [(p324, _)] :: S321 :: [(p261, _)] :: [(p253, _)] :: [(p245, _)] :: [(p60, _)] :: S57 :: [(p48, _)] :: S45 :: [(p36, _)] :: S33 :: [(p7, _)] :: [(p4, _)] :: [(p1, _)] :: []) _ := M352
                refine WS.op rfl rfl (WS.nil [(4, _), (7, _), (24, _), (25, _), (27, _), (29, _)] rfl ?_)
                refine WC.seq ?_
                refine WC.run ?_
                obtain ⟨f9, f10⟩ := rd_self encR_pf hp40.2.1.1 (hC136.rd hF136)
                have f11 := rd_short encR_pf hp40.2.1.1 (Nat.mod_lt _ (by omega)) (hC147.rd hF147)
                have f12 := rd_more encR_pf hp40.2.1.1 (hC154.rd hF154)
                refine WS.op rfl rfl (WS.op rfl rfl ?_)
                cases hb10 : ok136
                ·
                 rw [f9] at hb10; cases hb10
                ·
                 refine WS.op rfl (op_lds [_, _, _, _] (M352.at 4 rfl) rfl (Nat.le_of_ble_eq_true rfl) rfl) (WS.op rfl (op_lds [_, _, _, _] (M352.at 15 rfl) rfl (Nat.le_of_ble_eq_true rfl) rfl) ?_)
                 refine WS.call rfl rfl rfl (SameR_ran M352.here (a := r136) (b := r) (Row.Own.sl O322 (Mem.owni M352 5 rfl)) (A2.mono M352.sub) (by first | (have := hF48.2.2.2.2.2.1; omega) | (have := hF136.2.1; omega))) ?_
                 rintro _ h353 ⟨rfl, N354⟩
                 have M355 := M352.trans N354
                 refine WS.op rfl rfl (WS.op rfl rfl ?_)
                 cases hb11 : (decide (r136 = r))
                 ·
                  exact absurd f10 (of_decide_eq_false hb11)
                 ·
                  refine WS.op rfl rfl ?_
                  cases hb12 : ok147
                  ·
                   refine WS.opV (.bool true) rfl rfl rfl (WS.op rfl rfl (WS.op rfl rfl (WS.op rfl rfl (WS.op rfl rfl ?_))))
                   refine WS.seql (l := bh) (m := []) rfl rfl rfl (fun e170 => ?_) (fun e170 => ?_)
                   ·
                    cases hb13 : ok154
                    ·
                     refine WS.opV (.bool false) rfl rfl rfl (WS.op rfl rfl (WS.op rfl rfl (WS.offC rfl (WS.op rfl rfl (WS.op rfl rfl (WS.nil [(10, _)] rfl ?_))))))
                     refine WC.ret ?_
                     refine ⟨[_], (res_tmp rfl res_nil), ?_⟩
                     exfalso; first | exact absurd (f4.1 (by assumption)) e83 | exact absurd (f4.2 e83) (by rw [Bool.not_eq_true]; assumption) | exact absurd (f8.1 (by assumption)) e126 | exact absurd (f8.2 e126) (by rw [Bool.not_eq_true]; assumption) | exact absurd (f12.1 (by assumption)) e170 | exact absurd (f12.2 e170) (by rw [Bool.not_eq_true]; assumption)
                    ·
                     refine WS.opV (.bool true) rfl rfl rfl (WS.op rfl rfl (WS.op rfl rfl ?_))
                     refine WS.call rfl rfl rfl (awake_ran M355.here ) ?_
                     rintro _ h356 ⟨rfl, N357⟩
                     have M358 := M355.trans N357
                     refine WS.op rfl rfl (WS.op rfl rfl (WS.nil [(10, _)] rfl ?_))
                     refine WC.ret ?_
                     refine ⟨[_], (res_tmp rfl res_nil), ?_⟩
                     rfl
                   ·
                    cases hb13 : ok154
                    ·
                     refine WS.opV (.bool true) rfl rfl rfl (WS.op rfl rfl (WS.op rfl rfl ?_))
                     refine WS.call rfl rfl rfl (awake_ran M355.here ) ?_
                     rintro _ h359 ⟨rfl, N360⟩
                     have M361 := M355.trans N360
                     refine WS.op rfl rfl (WS.op rfl rfl (WS.nil [(10, _)] rfl ?_))
                     refine WC.ret ?_
                     refine ⟨[_], (res_tmp rfl res_nil), ?_⟩
                     rfl
                    ·
                     refine WS.opV (.bool false) rfl rfl rfl (WS.op rfl rfl (WS.op rfl rfl (WS.offC rfl (WS.op rfl rfl (WS.op rfl rfl (WS.nil [(10, _)] rfl ?_))))))
                     refine WC.ret ?_
                     refine ⟨[_], (res_tmp rfl res_nil), ?_⟩
                     exfalso; first | exact absurd (f4.1 (by assumption)) e83 | exact absurd (f4.2 e83) (by rw [Bool.not_eq_true]; assumption) | exact absurd (f8.1 (by assumption)) e126 | exact absurd (f8.2 e126) (by rw [Bool.not_eq_true]; assumption) | exact absurd (f12.1 (by assumption)) e170 | exact absurd (f12.2 e170) (by rw [Bool.not_eq_true]; assumption)
                  ·
                   rw [f11] at hb12; cases hb12
              ·
               refine WS.opV (.bool true) rfl rfl rfl (WS.op rfl rfl (WS.nil [(3, _), (4, _), (7, _), (128, _)] rfl ?_))
               refine WC.condT rfl ?_
               refine WC.seq ?_
               refine WC.run ?_
               refine WS.op rfl rfl (WS.nil [(10, _)] rfl ?_)
               refine WC.ret ?_
               refine ⟨[_], (res_tmp rfl res_nil), ?_⟩
               exfalso; first | exact absurd (f4.1 (by assumption)) e83 | exact absurd (f4.2 e83) (by rw [Bool.not_eq_true]; assumption) | exact absurd (f8.1 (by assumption)) e126 | exact absurd (f8.2 e126) (by rw [Bool.not_eq_true]; assumption) | exact absurd (f12.1 (by assumption)) e170 | exact absurd (f12.2 e170) (by rw [Bool.not_eq_true]; assumption)
            ·
             rw [f7] at hb8; cases hb8
         ·
          refine WS.nil [(3, _), (4, _), (6, _), (7, _), (11, _), (89, _)] rfl ?_
          refine WC.condF rfl ?_
          refine WC.skip ?_
          refine WC.seq ?_
          refine WC.run ?_
          refine WS.op rfl (op_lds [_, _, _, _] (M241.at 6 rfl) rfl (Nat.le_of_ble_eq_true rfl) rfl) ?_
          refine WS.call rfl rfl rfl (WriteR_ran M241.here (r := r) (A2.mono M241.sub) (by exact hp40.2.1.1)) ?_
          rintro _ h362 ⟨rfl, N363⟩
          have M364 := M241.trans N363
          refine WS.op rfl rfl (WS.nil [(3, _), (4, _), (7, _), (11, _)] rfl ?_)
          refine WC.seq ?_
          refine WC.seq ?_
          refine WC.run ?_
          refine WS.op rfl rfl (WS.op rfl (op_lenS (l := (encR r)) rfl) ?_)
          refine WS.lssN (a := ((encR r)).length) (b := 4) rfl rfl rfl (fun e133 => ?_) (fun e133 => ?_)
          ·
           exact absurd e133 (by omega)
          ·
           refine WS.nil [(3, _), (4, _), (7, _), (11, _), (133, _)] rfl ?_
           refine WC.condF rfl ?_
           refine WC.skip ?_
           refine WC.seq ?_
           refine WC.run ?_
           have hwr := encR_len hp40.2.1.2
           have hb6 := hp40.2.2
           refine WS.op rfl rfl ?_
           refine WS.call rfl rfl rfl (ReadR_ran M364.here (s := (encR r)) (by first | omega | (rw [List.length_take]; omega) | (rw [List.length_append]; omega))) ?_
           rintro _ h365 ⟨r136, V368, S369, ok136, O370, rfl, hF136, hy136, hn136, hC136, N366⟩
           obtain ⟨P371, rfl⟩ := O370.shape
           have M367 := M364.trans N366
           replace M367 : Mem _ _ (S369 :: [(p60, _)] :: S57 :: [(p48, _)] :: S45 :: [(p36, _)] :: S33 :: [(p7, _)] :: [(p4, _)] :: [(p1, _)] :: []) _ := M367
           refine WS.op rfl rfl (WS.op rfl rfl (WS.op rfl rfl ?_))
           refine WS.new M367 rfl ?_
           intro p372 h373 M374
           refine WS.st1 (M374.focus 0 rfl) [_, _, _, _] [_, _, _, _] rfl rfl rfl rfl rfl (Nat.le_of_ble_eq_true rfl) (Nat.le_of_ble_eq_true rfl) rfl rfl ?_
           intro h375 M376
           replace M376 : Mem _ _ ([(p372, _)] :: S369 :: [(p60, _)] :: S57 :: [(p48, _)] :: S45 :: [(p36, _)] :: S33 :: [(p7, _)] :: [(p4, _)] :: [(p1, _)] :: []) _ := M376
           refine WS.op rfl rfl (WS.nil [(3, _), (4, _), (7, _), (11, _), (24, _), (25, _)] rfl ?_)
           refine WC.seq ?_
           refine WC.run ?_
           refine WS.op rfl rfl (WS.op rfl rfl (WS.opV (.int .i64 (((ct).toNat : Nat) : Int)) rfl rfl (cv_i64 (n := (ct).toNat) (by have := UInt16.toNat_lt ct; omega)) (WS.op rfl rfl (WS.op rfl (op_lenS (l := (encR r)) rfl) (WS.op rfl (op_remN (a := (ct).toNat) (b := ((encR r)).length) rfl rfl (by omega)) (WS.op rfl (op_slS1 (l := (encR r)) (((ct).toNat) % (((encR r)).length)) rfl rfl (by have := Nat.mod_lt ct.toNat (show 0 < (encR r).length by omega); omega)) ?_))))))
           refine WS.call rfl rfl rfl (ReadR_ran M376.here (s := (((encR r)).take (((ct).toNat) % (((encR r)).length)))) (by first | omega | (rw [List.length_take]; omega) | (rw [List.length_append]; omega))) ?_
           rintro _ h377 ⟨r147, V380, S381, ok147, O382, rfl, hF147, hy147, hn147, hC147, N378⟩
           obtain ⟨P383, rfl⟩ := O382.shape
           have M379 := M376.trans N378
           replace M379 : Mem _ _ (S381 :: [(p372, _)] :: S369 :: [(p60, _)] :: S57 :: [(p48, _)] :: S45 :: [(p36, _)] :: S33 :: [(p7, _)] :: [(p4, _)] :: [(p1, _)] :: []) _ := M379
           refine WS.op rfl rfl (WS.op rfl rfl (WS.op rfl rfl ?_))
           refine WS.new M379 rfl ?_
           intro p384 h385 M386
           refine WS.st1 (M386.focus 0 rfl) [_, _, _, _] [_, _, _, _] rfl rfl rfl rfl rfl (Nat.le_of_ble_eq_true rfl) (Nat.le_of_ble_eq_true rfl) rfl rfl ?_
           intro h387 M388
           replace M388 : Mem _ _ ([(p384, _)] :: S381 :: [(p372, _)] :: S369 :: [(p60, _)] :: S57 :: [(p48, _)] :: S45 :: [(p36, _)] :: S33 :: [(p7, _)] :: [(p4, _)] :: [(p1, _)] :: []) _ := M388
           refine WS.op rfl rfl (WS.nil [(4, _), (7, _), (11, _), (24, _), (25, _), (27, _)] rfl ?_)
           refine WC.seq ?_
           refine WC.run ?_
           refine WS.op rfl rfl (WS.op rfl rfl (WS.op rfl (op_sadd (l := (encR r)) (m := bh) rfl rfl (by omega)) ?_))
           refine WS.call rfl rfl rfl (ReadR_ran M388.here (s := ((encR r) ++ bh)) (by first | omega | (rw [List.length_take]; omega) | (rw [List.length_append]; omega))) ?_
           rintro _ h389 ⟨r154, V392, S393, ok154, O394, rfl, hF154, hy154, hn154, hC154, N390⟩
           obtain ⟨P395, rfl⟩ := O394.shape
           have M391 := M388.trans N390
           replace M391 : Mem _ _ (S393 :: [(p384, _)] :: S381 :: [(p372, _)] :: S369 :: [(p60, _)] :: S57 :: [(p48, _)] :: S45 :: [(p36, _)] :: S33 :: [(p7, _)] :: [(p4, _)] :: [(p1, _)] :: []) _ := M391
           refine WS.op rfl rfl (WS.op rfl rfl (WS.op rfl rfl ?_))
           refine WS.new M391 rfl ?_
           intro p396 h397 M398
           refine WS.st1 (M398.focus 0 rfl) [_, _, _, _] [_, _, _, _] rfl rfl rfl rfl rfl (Nat.le_of_ble_eq_true rfl) (Nat.le_of_ble_eq_true rfl) rfl rfl ?_
           intro h399 M400
           replace M400 : Mem _ _ ([(p396, _)] :: S393 :: [(p384, _)] :: S381 :: [(p372, _)] :: S369 :: [(p60, _)] :: S57 :: [(p48, _)] :: S45 :: [(p36, _)] :: S33 :: [(p7, _)] :: [(p4, _)] :: [(p1, _)] :: []) _ := M400
           refine WS.op rfl rfl (WS.nil [(4, _), (7, _), (24, _), (25, _), (27, _), (29, _)] rfl ?_)
           refine WC.seq ?_
           refine WC.run ?_
           obtain ⟨f9, f10⟩ := rd_self encR_pf hp40.2.1.1 (hC136.rd hF136)
           have f11 := rd_short encR_pf hp40.2.1.1 (Nat.mod_lt _ (by omega)) (hC147.rd hF147)
           have f12 := rd_more encR_pf hp40.2.1.1 (hC154.rd hF154)
           refine WS.op rfl rfl (WS.op rfl rfl ?_)
           cases hb10 : ok136
           ·
            rw [f9] at hb10; cases hb10
           ·
            refine WS.op rfl (op_lds [_, _, _, _] (M400.at 4 rfl) rfl (Nat.le_of_ble_eq_true rfl) rfl) (WS.op rfl (op_lds [_, _, _, _] (M400.at 12 rfl) rfl (Nat.le_of_ble_eq_true rfl) rfl) ?_)
            refine WS.call rfl rfl rfl (SameR_ran M400.here (a := r136) (b := r) (Row.Own.sl O370 (Mem.owni M400 5 rfl)) (A2.mono M400.sub) (by first | (have := hF48.2.2.2.2.2.1; omega) | (have := hF136.2.1; omega))) ?_
            rintro _ h401 ⟨rfl, N402⟩
            have M403 := M400.trans N402
            refine WS.op rfl rfl (WS.op rfl rfl ?_)
            cases hb11 : (decide (r136 = r))
            ·
             exact absurd f10 (of_decide_eq_false hb11)
            ·
             refine WS.op rfl rfl ?_
             cases hb12 : ok147
             ·
              refine WS.opV (.bool true) rfl rfl rfl (WS.op rfl rfl (WS.op rfl rfl (WS.op rfl rfl (WS.op rfl rfl ?_))))
              refine WS.seql (l := bh) (m := []) rfl rfl rfl (fun e170 => ?_) (fun e170 => ?_)
              ·
               cases hb13 : ok154
               ·
                refine WS.opV (.bool false) rfl rfl rfl (WS.op rfl rfl (WS.op rfl rfl (WS.offC rfl (WS.op rfl rfl (WS.op rfl rfl (WS.nil [(10, _)] rfl ?_))))))
                refine WC.ret ?_
                refine ⟨[_], (res_tmp rfl res_nil), ?_⟩
                exfalso; first | exact absurd (f4.1 (by assumption)) e83 | exact absurd (f4.2 e83) (by rw [Bool.not_eq_true]; assumption) | exact absurd (f8.1 (by assumption)) e126 | exact absurd (f8.2 e126) (by rw [Bool.not_eq_true]; assumption) | exact absurd (f12.1 (by assumption)) e170 | exact absurd (f12.2 e170) (by rw [Bool.not_eq_true]; assumption)
               ·
                refine WS.opV (.bool true) rfl rfl rfl (WS.op rfl rfl (WS.op rfl rfl ?_))
                refine WS.call rfl rfl rfl (awake_ran M403.here ) ?_
                rintro _ h404 ⟨rfl, N405⟩
                have M406 := M403.trans N405
                refine WS.op rfl rfl (WS.op rfl rfl (WS.nil [(10, _)] rfl ?_))
                refine WC.ret ?_
                refine ⟨[_], (res_tmp rfl res_nil), ?_⟩
                rfl
              ·
               cases hb13 : ok154
               ·
                refine WS.opV (.bool true) rfl rfl rfl (WS.op rfl rfl (WS.op rfl rfl ?_))
                refine WS.call rfl rfl rfl (awake_ran M403.here ) ?_
                rintro _ h407 ⟨rfl, N408⟩
                have M409 := M403.trans N408
                refine WS.op rfl rfl (WS.op rfl rfl (WS.nil [(10, _)] rfl ?_))
                refine WC.ret ?_
                refine ⟨[_], (res_tmp rfl res_nil), ?_⟩
                rfl
               ·
                refine WS.opV (.bool false) rfl rfl rfl (WS.op rfl rfl (WS.op rfl rfl (WS.offC rfl (WS.op rfl rfl (WS.op rfl rfl (WS.nil [(10, _)] rfl ?_))))))
                refine WC.ret ?_
                refine ⟨[_], (res_tmp rfl res_nil), ?_⟩
                exfalso; first | exact absurd (f4.1 (by assumption)) e83 | exact absurd (f4.2 e83) (by rw [Bool.not_eq_true]; assumption) | exact absurd (f8.1 (by assumption)) e126 | exact absurd (f8.2 e126) (by rw [Bool.not_eq_true]; assumption) | exact absurd (f12.1 (by assumption)) e170 | exact absurd (f12.2 e170) (by rw [Bool.not_eq_true]; assumption)
             ·
              rw [f11] at hb12; cases hb12
        ·
         refine WS.opV (.bool true) rfl rfl rfl (WS.op rfl rfl (WS.nil [(3, _), (4, _), (6, _), (7, _), (85, _)] rfl ?_))
         refine WC.condT rfl ?_
         refine WC.seq ?_
         refine WC.run ?_
         refine WS.op rfl rfl (WS.nil [(10, _)] rfl ?_)
         refine WC.ret ?_
         refine ⟨[_], (res_tmp rfl res_nil), ?_⟩
         exfalso; first | exact absurd (f4.1 (by assumption)) e83 | exact absurd (f4.2 e83) (by rw [Bool.not_eq_true]; assumption) | exact absurd (f8.1 (by assumption)) e126 | exact absurd (f8.2 e126) (by rw [Bool.not_eq_true]; assumption) | exact absurd (f12.1 (by assumption)) e170 | exact absurd (f12.2 e170) (by rw [Bool.not_eq_true]; assumption)
      ·
       rw [f3] at hb5; cases hb5
   ·
    refine WS.nil [(3, _), (4, _), (5, _), (6, _), (7, _), (11, _), (45, _)] rfl ?_
    refine WC.condF rfl ?_
    refine WC.skip ?_
    refine WC.seq ?_
    refine WC.run ?_
    refine WS.op rfl (op_lds [_, _, _, _, _, _, _, _, _, _, _, _, _, _, _, _] (M28.at 1 rfl) rfl (Nat.le_of_ble_eq_true rfl) rfl) ?_
    refine WS.call rfl rfl rfl (WriteO_ran M28.here (o := o)) ?_
    rintro _ h410 ⟨rfl, N411⟩
    have M412 := M28.trans N411
    refine WS.op rfl rfl (WS.nil [(3, _), (4, _), (6, _), (7, _), (11, _)] rfl ?_)
    refine WC.seq ?_
    refine WC.seq ?_
    refine WC.run ?_
    refine WS.op rfl rfl ?_
    refine WS.sneq (l := (if mayOB o then encO o else [])) (m := []) rfl rfl rfl (fun e89 => ?_) (fun e89 => ?_)
    ·
     refine WS.nil [(3, _), (4, _), (6, _), (7, _), (11, _), (89, _)] rfl ?_
     refine WC.condT rfl ?_
     refine WC.seq ?_
     refine WC.run ?_
     have hwo := wrO_len (c := o)
     have hpo := List.length_pos_iff.2 e89
     have hb5 := hp40.2.2
     refine WS.op rfl rfl ?_
     refine WS.call rfl rfl rfl (ReadO_ran M412.here (s := (if mayOB o then encO o else [])) (by first | omega | (rw [List.length_take]; omega) | (rw [List.length_append]; omega))) ?_
     rintro _ h413 ⟨o92, ok92, rfl, hy92, hn92, hC92, N414⟩
     have M415 := M412.trans N414
     refine WS.op rfl rfl (WS.op rfl rfl (WS.op rfl rfl ?_))
     refine WS.new M415 rfl ?_
     intro p416 h417 M418
     refine WS.st1 (M418.focus 0 rfl) [_, _, _, _, _, _, _, _, _, _, _, _, _, _, _, _] [_, _, _, _, _, _, _, _, _, _, _, _, _, _, _, _] rfl rfl rfl rfl rfl (Nat.le_of_ble_eq_true rfl) (Nat.le_of_ble_eq_true rfl) rfl rfl ?_
     intro h419 M420
     replace M420 : Mem _ _ ([(p416, _)] :: [(p7, _)] :: [(p4, _)] :: [(p1, _)] :: []) _ := M420
     refine WS.op rfl rfl (WS.nil [(3, _), (4, _), (6, _), (7, _), (11, _), (18, _), (19, _)] rfl ?_)
     refine WC.seq ?_
     refine WC.run ?_
     refine WS.op rfl rfl (WS.op rfl rfl (WS.opV (.int .i64 (((ct).toNat : Nat) : Int)) rfl rfl (cv_i64 (n := (ct).toNat) (by have := UInt16.toNat_lt ct; omega)) (WS.op rfl rfl (WS.op rfl (op_lenS (l := (if mayOB o then encO o else [])) rfl) (WS.op rfl (op_remN (a := (ct).toNat) (b := ((if mayOB o then encO o else [])).length) rfl rfl (by exact hpo)) (WS.op rfl (op_slS1 (l := (if mayOB o then encO o else [])) (((ct).toNat) % (((if mayOB o then encO o else [])).length)) rfl rfl (by have := Nat.mod_lt ct.toNat hpo; omega)) ?_))))))
     refine WS.call rfl rfl rfl (ReadO_ran M420.here (s := (((if mayOB o then encO o else [])).take (((ct).toNat) % (((if mayOB o then encO o else [])).length)))) (by first | omega | (rw [List.length_take]; omega) | (rw [List.length_append]; omega))) ?_
     rintro _ h421 ⟨o103, ok103, rfl, hy103, hn103, hC103, N422⟩
     have M423 := M420.trans N422
     refine WS.op rfl rfl (WS.op rfl rfl (WS.op rfl rfl ?_))
     refine WS.new M423 rfl ?_
     intro p424 h425 M426
     refine WS.st1 (M426.focus 0 rfl) [_, _, _, _, _, _, _, _, _, _, _, _, _, _, _, _] [_, _, _, _, _, _, _, _, _, _, _, _, _, _, _, _] rfl rfl rfl rfl rfl (Nat.le_of_ble_eq_true rfl) (Nat.le_of_ble_eq_true rfl) rfl rfl ?_
     intro h427 M428
     replace M428 : Mem _ _ ([(p424, _)] :: [(p416, _)] :: [(p7, _)] :: [(p4, _)] :: [(p1, _)] :: []) _ := M428
     refine WS.op rfl rfl (WS.nil [(3, _), (4, _), (6, _), (7, _), (11, _), (18, _), (19, _), (21, _)] rfl ?_)
     refine WC.seq ?_
     refine WC.run ?_
     refine WS.op rfl rfl (WS.op rfl rfl (WS.op rfl (op_sadd (l := (if mayOB o then encO o else [])) (m := bh) rfl rfl (by omega)) ?_))
     refine WS.call rfl rfl rfl (ReadO_ran M428.here (s := ((if mayOB o then encO o else []) ++ bh)) (by first | omega | (rw [List.length_take]; omega) | (rw [List.length_append]; omega))) ?_
     rintro _ h429 ⟨o110, ok110, rfl, hy110, hn110, hC110, N430⟩
     have M431 := M428.trans N430
     refine WS.op rfl rfl (WS.op rfl rfl (WS.op rfl rfl ?_))
     refine WS.new M431 rfl ?_
     intro p432 h433 M434
     refine WS.st1 (M434.focus 0 rfl) [_, _, _, _, _, _, _, _, _, _, _, _, _, _, _, _] [_, _, _, _, _, _, _, _, _, _, _, _, _, _, _, _] rfl rfl rfl rfl rfl (Nat.le_of_ble_eq_true rfl) (Nat.le_of_ble_eq_true rfl) rfl rfl ?_
     intro h435 M436
     replace M436 : Mem _ _ ([(p432, _)] :: [(p424, _)] :: [(p416, _)] :: [(p7, _)] :: [(p4, _)] :: [(p1, _)] :: []) _ := M436
     refine WS.op rfl rfl (WS.nil [(3, _), (4, _), (6, _), (7, _), (18, _), (19, _), (21, _), (23, _)] rfl ?_)
     refine WC.seq ?_
     refine WC.run ?_
     have hM2 := wrO_t e89
     have hE2 : (if mayOB o then encO o else []) = encO o := if_pos hM2
     have hG2 : MayO o := of_decide_eq_true hM2
     rw [hE2] at hC92 hC103 hC110 hpo
     obtain ⟨f5, f6⟩ := rd_self encO_pf hG2 hC92.rd
     have f7 := rd_short encO_pf hG2 (Nat.mod_lt _ hpo) hC103.rd
     have f8 := rd_more encO_pf hG2 hC110.rd
     refine WS.op rfl rfl ?_
     cases hb7 : ok92
     ·
      rw [f5] at hb7; cases hb7
     ·
      refine WS.opV (.bool false) rfl rfl rfl (WS.op rfl rfl (WS.op rfl (op_lds [_, _, _, _, _, _, _, _, _, _, _, _, _, _, _, _] (M436.at 2 rfl) rfl (Nat.le_of_ble_eq_true rfl) rfl) (WS.op rfl (op_lds [_, _, _, _, _, _, _, _, _, _, _, _, _, _, _, _] (M436.at 4 rfl) rfl (Nat.le_of_ble_eq_true rfl) rfl) ?_)))
      refine WS.eqqDn (p := o92 = o) rfl rfl rfl (Oper_eqV _ _) (fun e118 => ?_) (fun e118 => ?_)
      ·
       exact absurd f6 e118
      ·
       refine WS.op rfl rfl (WS.op rfl rfl (WS.op rfl rfl (WS.op rfl rfl (WS.op rfl rfl ?_))))
       cases hb8 : ok103
       ·
        refine WS.op rfl rfl (WS.op rfl rfl ?_)
        refine WS.seql (l := bh) (m := []) rfl rfl rfl (fun e126 => ?_) (fun e126 => ?_)
        ·
         cases hb9 : ok110
         ·
          refine WS.opV (.bool true) rfl rfl rfl (WS.op rfl rfl (WS.nil [(3, _), (4, _), (7, _), (128, _)] rfl ?_))
          refine WC.condT rfl ?_
          refine WC.seq ?_
          refine WC.run ?_
          refine WS.op rfl rfl (WS.nil [(10, _)] rfl ?_)
          refine WC.ret ?_
          refine ⟨[_], (res_tmp rfl res_nil), ?_⟩
          exfalso; first | exact absurd (f4.1 (by assumption)) e83 | exact absurd (f4.2 e83) (by rw [Bool.not_eq_true]; assumption) | exact absurd (f8.1 (by assumption)) e126 | exact absurd (f8.2 e126) (by rw [Bool.not_eq_true]; assumption) | exact absurd (f12.1 (by assumption)) e170 | exact absurd (f12.2 e170) (by rw [Bool.not_eq_true]; assumption)
         ·
          refine WS.opV (.bool false) rfl rfl rfl (WS.op rfl rfl (WS.nil [(3, _), (4, _), (7, _), (128, _)] rfl ?_))
          refine WC.condF rfl ?_
          refine WC.skip ?_
          refine WC.seq ?_
          refine WC.run ?_
          refine WS.op rfl (op_lds [_, _, _, _] (M436.at 3 rfl) rfl (Nat.le_of_ble_eq_true rfl) rfl) ?_
          refine WS.call rfl rfl rfl (WriteR_ran M436.here (r := r) (A2.mono M436.sub) (by exact hp40.2.1.1)) ?_
          rintro _ h437 ⟨rfl, N438⟩
          have M439 := M436.trans N438
          refine WS.op rfl rfl (WS.nil [(3, _), (4, _), (7, _), (11, _)] rfl ?_)
          refine WC.seq ?_
          refine WC.seq ?_
          refine WC.run ?_
          refine WS.op rfl rfl (WS.op rfl (op_lenS (l := (encR r)) rfl) ?_)
          refine WS.lssN (a := ((encR r)).length) (b := 4) rfl rfl rfl (fun e133 => ?_) (fun e133 => ?_)
          ·
           exact absurd e133 (by omega)
          ·
           refine WS.nil [(3, _), (4, _), (7, _), (11, _), (133, _)] rfl ?_
           refine WC.condF rfl ?_
           refine WC.skip ?_
           refine WC.seq ?_
           refine WC.run ?_
           have hwr := encR_len hp40.2.1.2
           have hb6 := hp40.2.2
           refine WS.op rfl rfl ?_
           refine WS.call rfl rfl rfl (ReadR_ran M439.here (s := (encR r)) (by first | omega | (rw [List.length_take]; omega) | (rw [List.length_append]; omega))) ?_
           rintro _ h440 ⟨r136, V443, S444, ok136, O445, rfl, hF136, hy136, hn136, hC136, N441⟩
           obtain ⟨P446, rfl⟩ := O445.shape
           have M442 := M439.trans N441
           replace M442 : Mem _ _ (S444 :: [(p432, _)] :: [(p424, _)] :: [(p416, _)] :: [(p7, _)] :: [(p4, _)] :: [(p1, _)] :: []) _ := M442
           refine WS.op rfl rfl (WS.op rfl rfl (WS.op rfl rfl ?_))
           refine WS.new M442 rfl ?_
           intro p447 h448 M449
           refine WS.st1 (M449.focus 0 rfl) [_, _, _, _] [_, _, _, _] rfl rfl rfl rfl rfl (Nat.le_of_ble_eq_true rfl) (Nat.le_of_ble_eq_true rfl) rfl rfl ?_
           intro h450 M451
           replace M451 : Mem _ _ ([(p447, _)] :: S444 :: [(p432, _)] :: [(p424, _)] :: [(p416, _)] :: [(p7, _)] :: [(p4, _)] :: [(p1, _)] :: []) _ := M451
           refine WS.op rfl rfl (WS.nil [(3, _), (4, _), (7, _), (11, _), (24, _), (25, _)] rfl ?_)
           refine WC.seq ?_
           refine WC.run ?_
           refine WS.op rfl rfl (WS.op rfl rfl (WS.opV (.int .i64 (((ct).toNat : Nat) : Int)) rfl rfl (cv_i64 (n := (ct).toNat) (by have := UInt16.toNat_lt ct; omega)) (WS.op rfl rfl (WS.op rfl (op_lenS (l := (encR r)) rfl) (WS.op rfl (op_remN (a := (ct).toNat) (b := ((encR r)).length) rfl rfl (by omega)) (WS.op rfl (op_slS1 (l := (encR r)) (((ct).toNat) % (((encR r)).length)) rfl rfl (by have := Nat.mod_lt ct.toNat (show 0 < (encR r).length by omega); omega)) ?_))))))
           refine WS.call rfl rfl rfl (ReadR_ran M451.here (s := (((encR r)).take (((ct).toNat) % (((encR r)).length)))) (by first | omega | (rw [List.length_take]; omega) | (rw [List.length_append]; omega))) ?_
           rintro _ h452 ⟨r147, V455, S456, ok147, O457, rfl, hF147, hy147, hn147, hC147, N453⟩
           obtain ⟨P458, rfl⟩ := O457.shape
           have M454 := M451.trans N453
           replace M454 : Mem _ _ (S456 :: [(p447, _)] :: S444 :: [(p432, _)] :: [(p424, _)] :: [(p416, _)] :: [(p7, _)] :: [(p4, _)] :: [(p1, _)] :: []) _ := M454
           refine WS.op rfl rfl (WS.op rfl rfl (WS.op rfl rfl ?_))
           refine WS.new M454 rfl ?_
           intro p459 h460 M461
           refine WS.st1 (M461.focus 0 rfl) [_, _, _, _] [_, _, _, _] rfl rfl rfl rfl rfl (Nat.le_of_ble_eq_true rfl) (Nat.le_of_ble_eq_true rfl) rfl rfl ?_
           intro h462 M463
           replace M463 : Mem _ _ ([(p459, _)] :: S456 :: [(p447, _)] :: S444 :: [(p432, _)] :: [(p424, _)] :: [(p416, _)] :: [(p7, _)] :: [(p4, _)] :: [(p1, _)] :: []) _ := M463
           refine WS.op rfl rfl (WS.nil [(4, _), (7, _), (11, _), (24, _), (25, _), (27, _)] rfl ?_)
           refine WC.seq ?_
           refine WC.run ?_
           refine WS.op rfl rfl (WS.op rfl rfl (WS.op rfl (op_sadd (l := (encR r)) (m := bh) rfl rfl (by omega)) ?_))
           refine WS.call rfl rfl rfl (ReadR_ran M463.here (s := ((encR r) ++ bh)) (by first | omega | (rw [List.length_take]; omega) | (rw [List.length_append]; omega))) ?_
           rintro _ h464 ⟨r154, V467, S468, ok154, O469, rfl, hF154, hy154, hn154, hC154, N465⟩
           obtain ⟨P470, rfl⟩ := O469.shape
           have M466 := M463.trans N465
           replace M466 : Mem _ _ (S468 :: [(p459, _)] :: S456 :: [(p447, _)] :: S444 :: [(p432, _)] :: [(p424, _)] :: [(p416, _)] :: [(p7, _)] :: [(p4, _)] :: [(p1, _)] :: []) _ := M466
           refine WS.op rfl rfl (WS.op rfl rfl (WS.op rfl rfl ?_))
           refine WS.new M466 rfl ?_
           intro p471 h472 M473
           refine WS.st1 (M473.focus 0 rfl) [_, _, _, _] [_, _, _, _] rfl rfl rfl rfl rfl (Nat.le_of_ble_eq_true rfl) (Nat.le_of_ble_eq_true rfl) rfl rfl ?_
           intro h474 M475
           replace M475 : Mem _ _ ([(p471, _)] :: S468 :: [(p459, _)] :: S456 :: [(p447, _)] :: S444 :: [(p432, _)] :: [(p424, _)] :: [(p416, _)] :: [(p7, _)] :: [(p4, _)] :: [(p1, _)] :: []) _ := M475
           refine WS.op rfl rfl (WS.nil [(4, _), (7, _), (24, _), (25, _), (27, _), (29, _)] rfl ?_)
           refine WC.seq ?_
           refine WC.run ?_
           obtain ⟨f9, f10⟩ := rd_self encR_pf hp40.2.1.1 (hC136.rd hF136)
           have f11 := rd_short encR_pf hp40.2.1.1 (Nat.mod_lt _ (by omega)) (hC147.rd hF147)
           have f12 := rd_more encR_pf hp40.2.1.1 (hC154.rd hF154)
           refine WS.op rfl rfl (WS.op rfl rfl ?_)
           cases hb10 : ok136
           ·
            rw [f9] at hb10; cases hb10
           ·
            refine WS.op rfl (op_lds [_, _, _, _] (M475.at 4 rfl) rfl (Nat.le_of_ble_eq_true rfl) rfl) (WS.op rfl (op_lds [_, _, _, _] (M475.at 9 rfl) rfl (Nat.le_of_ble_eq_true rfl) rfl) ?_)
            refine WS.call rfl rfl rfl (SameR_ran M475.here (a := r136) (b := r) (Row.Own.sl O445 (Mem.owni M475 5 rfl)) (A2.mono M475.sub) (by first | (have := hF48.2.2.2.2.2.1; omega) | (have := hF136.2.1; omega))) ?_
            rintro _ h476 ⟨rfl, N477⟩
            have M478 := M475.trans N477
            refine WS.op rfl rfl (WS.op rfl rfl ?_)
            cases hb11 : (decide (r136 = r))
            ·
             exact absurd f10 (of_decide_eq_false hb11)
            ·
             refine WS.op rfl rfl ?_
             cases hb12 : ok147
             ·
              refine WS.opV (.bool true) rfl rfl rfl (WS.op rfl rfl (WS.op rfl rfl (WS.op rfl rfl (WS.op rfl rfl ?_))))
              refine WS.seql (l := bh) (m := []) rfl rfl rfl (fun e170 => ?_) (fun e170 => ?_)
              ·
               cases hb13 : ok154
               ·
                refine WS.opV (.bool false) rfl rfl rfl (WS.op rfl rfl (WS.op rfl rfl (WS.offC rfl (WS.op rfl rfl (WS.op rfl rfl (WS.nil [(10, _)] rfl ?_))))))
                refine WC.ret ?_
                refine ⟨[_], (res_tmp rfl res_nil), ?_⟩
                exfalso; first | exact absurd (f4.1 (by assumption)) e83 | exact absurd (f4.2 e83) (by rw [Bool.not_eq_true]; assumption) | exact absurd (f8.1 (by assumption)) e126 | exact absurd (f8.2 e126) (by rw [Bool.not_eq_true]; assumption) | exact absurd (f12.1 (by assumption)) e170 | exact absurd (f12.2 e170) (by rw [Bool.not_eq_true]; assumption)
               ·
                refine WS.opV (.bool true) rfl rfl rfl (WS.op rfl rfl (WS.op rfl rfl ?_))
                refine WS.call rfl rfl rfl (awake_ran M478.here ) ?_
                rintro _ h479 ⟨rfl, N480⟩
                have M481 := M478.trans N480
                refine WS.op rfl rfl (WS.op rfl rfl (WS.nil [(10, _)] rfl ?_))
                refine WC.ret ?_
                refine ⟨[_], (res_tmp rfl res_nil), ?_⟩
                rfl
              ·
               cases hb13 : ok154
               ·
                refine WS.opV (.bool true) rfl rfl rfl (WS.op rfl rfl (WS.op rfl rfl ?_))
                refine WS.call rfl rfl rfl (awake_ran M478.here ) ?_
                rintro _ h482 ⟨rfl, N483⟩
                have M484 := M478.trans N483
                refine WS.op rfl rfl (WS.op rfl rfl (WS.nil [(10, _)] rfl ?_))
                refine WC.ret ?_
                refine ⟨[_], (res_tmp rfl res_nil), ?_⟩
                rfl
               ·
                refine WS.opV (.bool false) rfl rfl rfl (WS.op rfl rfl (WS.op rfl rfl (WS.offC rfl (WS.op rfl rfl (WS.op rfl rfl (WS.nil [(10, _)] rfl ?_))))))
                refine WC.ret ?_
                refine ⟨[_], (res_tmp rfl res_nil), ?_⟩
                exfalso; first | exact absurd (f4.1 (by assumption)) e83 | exact absurd (f4.2 e83) (by rw [Bool.not_eq_true]; assumption) | exact absurd (f8.1 (by assumption)) e126 | exact absurd (f8.2 e126) (by rw [Bool.not_eq_true]; assumption) | exact absurd (f12.1 (by assumption)) e170 | exact absurd (f12.2 e170) (by rw [Bool.not_eq_true]; assumption)
             ·
              rw [f11] at hb12; cases hb12
        ·
         cases hb9 : ok110
         ·
          refine WS.opV (.bool false) rfl rfl rfl (WS.op rfl rfl (WS.nil [(3, _), (4, _), (7, _), (128, _)] rfl ?_))
          refine WC.condF rfl ?_
          refine WC.skip ?_
          refine WC.seq ?_
          refine WC.run ?_
          refine WS.op rfl (op_lds [_, _, _, _] (M436.at 3 rfl) rfl (Nat.le_of_ble_eq_true rfl) rfl) ?_
          refine WS.call rfl rfl rfl (WriteR_ran M436.here (r := r) (A2.mono M436.sub) (by exact hp40.2.1.1)) ?_
          rintro _ h485 ⟨rfl, N486⟩
          have M487 := M436.trans N486
          refine WS.op rfl rfl (WS.nil [(3, _), (4, _), (7, _), (11, _)] rfl ?_)
          refine WC.seq ?_
          refine WC.seq ?_
          refine WC.run ?_
          refine WS.op rfl rfl (WS.op rfl (op_lenS (l := (encR r)) rfl) ?_)
          refine WS.lssN (a := ((encR r)).length) (b := 4) rfl rfl rfl (fun e133 => ?_) (fun e133 => ?_)
          ·
           exact absurd e133 (by omega)
          ·
           refine WS.nil [(3, _), (4, _), (7, _), (11, _), (133, _)] rfl ?_
           refine WC.condF rfl ?_
           refine WC.skip ?_
           refine WC.seq ?_
           refine WC.run ?_
           have hwr := encR_len hp40.2.1.2
           have hb6 := hp40.2.2
           refine WS.op rfl rfl ?_
           refine WS.call rfl rfl rfl (ReadR_ran M487.here (s := (encR r)) (by first | omega | (rw [List.length_take]; omega) | (rw [List.length_append]; omega))) ?_
           rintro _ h488 ⟨r136, V491, S492, ok136, O493, rfl, hF136, hy136, hn136, hC136, N489⟩
           obtain ⟨P494, rfl⟩ := O493.shape
           have M490 := M487.trans N489
           replace M490 : Mem _ _ (S492 :: [(p432, _)] :: [(p424, _)] :: [(p416, _)] :: [(p7, _)] :: [(p4, _)] :: [(p1, _)] :: []) _ := M490
           refine WS.op rfl rfl (WS.op rfl rfl (WS.op rfl rfl ?_))
           refine WS.new M490 rfl ?_
           intro p495 h496 M497
           refine WS.st1 (M497.focus 0 rfl) [_, _, _, _] [_, _, _, _] rfl rfl rfl rfl rfl (Nat.le_of_ble_eq_true rfl) (Nat.le_of_ble_eq_true rfl) rfl rfl ?_
           intro h498 M499
           replace M499 : Mem _ _ ([(p495, _)] :: S492 :: [(p432, _)] :: [(p424, _)] :: [(p416, _)] :: [(p7, _)] :: [(p4, _)] :: [(p1, _)] :: []) _ := M499
           refine WS.op rfl rfl (WS.nil [(3, _), (4, _), (7, _), (11, _), (24, _), (25, _)] rfl ?_)
           refine WC.seq ?_
           refine WC.run ?_
           refine WS.op rfl rfl (WS.op rfl rfl (WS.opV (.int .i64 (((ct).toNat : Nat) : Int)) rfl rfl (cv_i64 (n := (ct).toNat) (by have := UInt16.toNat_lt ct; omega)) (WS.op rfl rfl (WS.op rfl (op_lenS (l := (encR r)) rfl) (WS.op rfl (op_remN (a := (ct).toNat) (b := ((encR r)).length) rfl rfl (by omega)) (WS.op rfl (op_slS1 (l := (encR r)) (((ct).toNat) % (((encR r)).length)) rfl rfl (by have := Nat.mod_lt ct.toNat (show 0 < (encR r).length by omega); omega)) ?_))))))
           refine WS.call rfl rfl rfl (ReadR_ran M499.here (s := (((encR r)).take (((ct).toNat) % (((encR r)).length)))) (by first | omega | (rw [List.length_take]; omega) | (rw [List.length_append]; omega))) ?_
           rintro _ h500 ⟨r147, V503, S504, ok147, O505, rfl, hF147, hy147, hn147, hC147, N501⟩
           obtain ⟨P506, rfl⟩ := O505.shape
           have M502 := M499.trans N501
           replace M502 : Mem _ _ (S504 :: [(p495, _)] :: S492 :: [(p432, _)] :: [(p424, _)] :: [(p416, _)] :: [(p7, _)] :: [(p4, _)] :: [(p1, _)] :: []) _ := M502
           refine WS.op rfl rfl (WS.op rfl rfl (WS.op rfl rfl ?_))
           refine WS.new M502 rfl ?_
           intro p507 h508 M509
           refine WS.st1 (M509.focus 0 rfl) [_, _, _, _] [_, _, _, _] rfl rfl rfl rfl rfl (Nat.le_of_ble_eq_true rfl) (Nat.le_of_ble_eq_true rfl) rfl rfl ?_
           intro h510 M511
           replace M511 : Mem _ _ ([(p507, _)] :: S504 :: [(p495, _)] :: S492 :: [(p432, _)] :: [(p424, _)] :: [(p416, _)] :: [(p7, _)] :: [(p4, _)] :: [(p1, _)] :: []) _ := M511
           refine WS.op rfl rfl (WS.nil [(4, _), (7, _), (11, _), (24, _), (25, _), (27, _)] rfl ?_)
           refine WC.seq ?_
           refine WC.run ?_
           refine WS.op rfl rfl (WS.op rfl rfl (WS.op rfl (op_sadd (l := (encR r)) (m := bh) rfl rfl (by omega)) ?_))
           refine WS.call rfl rfl rfl (ReadR_ran M511.here (s := ((encR r) ++ bh)) (by first | omega | (rw [List.length_take]; omega) | (rw [List.length_append]; omega))) ?_
           rintro _ h512 ⟨r154, V515, S516, ok154, O517, rfl, hF154, hy154, hn154, hC154, N513⟩
           obtain ⟨P518, rfl⟩ := O517.shape
           have M514 := M511.trans N513
           replace M514 : Mem _ _ (S516 :: [(p507, _)] :: S504 :: [(p495, _)] :: S492 :: [(p432, _)] :: [(p424, _)] :: [(p416, _)] :: [(p7, _)] :: [(p4, _)] :: [(p1, _)] :: []) _ := M514
           refine WS.op rfl rfl (WS.op rfl rfl (WS.op rfl rfl ?_))
           refine WS.new M514 rfl ?_
           intro p519 h520 M521
           refine WS.st1 (M521.focus 0 rfl) [_, _, _, _] [_, _, _, _] rfl rfl rfl rfl rfl (Nat.le_of_ble_eq_true rfl) (Nat.le_of_ble_eq_true rfl) rfl rfl ?_
           intro h522 M523
           replace M523 : Mem _ _ ([(p519, _)] :: S516 :: [(p507, _)] :: S504 :: [(p495, _)] :: S492 :: [(p432, _)] :: [(p424, _)] :: [(p416, _)] :: [(p7, _)] :: [(p4, _)] :: [(p1, _)] :: []) _ := M523
           refine WS.op rfl rfl (WS.nil [(4, _), (7, _), (24, _), (25, _), (27, _), (29, _)] rfl ?_)
           refine WC.seq ?_
           refine WC.run ?_
           obtain ⟨f9, f10⟩ := rd_self encR_pf hp40.2.1.1 (hC136.rd hF136)
           have f11 := rd_short encR_pf hp40.2.1.1 (Nat.mod_lt _ (by omega)) (hC147.rd hF147)
           have f12 := rd_more encR_pf hp40.2.1.1 (hC154.rd hF154)
           refine WS.op rfl rfl (WS.op rfl rfl ?_)
           cases hb10 : ok136
           ·
            rw [f9] at hb10; cases hb10
           ·
            refine WS.op rfl (op_lds [_, _, _, _] (M523.at 4 rfl) rfl (Nat.le_of_ble_eq_true rfl) rfl) (WS.op rfl (op_lds [_, _, _, _] (M523.at 9 rfl) rfl (Nat.le_of_ble_eq_true rfl) rfl) ?_)
            refine WS.call rfl rfl rfl (SameR_ran M523.here (a := r136) (b := r) (Row.Own.sl O493 (Mem.owni M523 5 rfl)) (A2.mono M523.sub) (by first | (have := hF48.2.2.2.2.2.1; omega) | (have := hF136.2.1; omega))) ?_
            rintro _ h524 ⟨rfl, N525⟩
            have M526 := M523.trans N525
            refine WS.op rfl rfl (WS.op rfl rfl ?_)
            cases hb11 : (decide (r136 = r))
            ·
             exact absurd f10 (of_decide_eq_false hb11)
            ·
             refine WS.op rfl rfl ?_
             cases hb12 : ok147
             ·
              refine WS.opV (.bool true) rfl rfl rfl (WS.op rfl rfl (WS.op rfl rfl (WS.op rfl rfl (WS.op rfl rfl ?_))))
              refine WS.seql (l := bh) (m := []) rfl rfl rfl (fun e170 => ?_) (fun e170 => ?_)
              ·
               cases hb13 : ok154
               ·
                refine WS.opV (.bool false) rfl rfl rfl (WS.op rfl rfl (WS.op rfl rfl (WS.offC rfl (WS.op rfl rfl (WS.op rfl rfl (WS.nil [(10, _)] rfl ?_))))))
                refine WC.ret ?_
                refine ⟨[_], (res_tmp rfl res_nil), ?_⟩
                exfalso; first | exact absurd (f4.1 (by assumption)) e83 | exact absurd (f4.2 e83) (by rw [Bool.not_eq_true]; assumption) | exact absurd (f8.1 (by assumption)) e126 | exact absurd (f8.2 e126) (by rw [Bool.not_eq_true]; assumption) | exact absurd (f12.1 (by assumption)) e170 | exact absurd (f12.2 e170) (by rw [Bool.not_eq_true]; assumption)
               ·
                refine WS.opV (.bool true) rfl rfl rfl (WS.op rfl rfl (WS.op rfl rfl ?_))
                refine WS.call rfl rfl rfl (awake_ran M526.here ) ?_
                rintro _ h527 ⟨rfl, N528⟩
                have M529 := M526.trans N528
                refine WS.op rfl rfl (WS.op rfl rfl (WS.nil [(10, _)] rfl ?_))
                refine WC.ret ?_
                refine ⟨[_], (res_tmp rfl res_nil), ?_⟩
                rfl
              ·
               cases hb13 : ok154
               ·
                refine WS.opV (.bool true) rfl rfl rfl (WS.op rfl rfl (WS.op rfl rfl ?_))
                refine WS.call rfl rfl rfl (awake_ran M526.here ) ?_
                rintro _ h530 ⟨rfl, N531⟩
                have M532 := M526.trans N531
                refine WS.op rfl rfl (WS.op rfl rfl (WS.nil [(10, _)] rfl ?_))
                refine WC.ret ?_
                refine ⟨[_], (res_tmp rfl res_nil), ?_⟩
                rfl
               ·
                refine WS.opV (.bool false) rfl rfl rfl (WS.op rfl rfl (WS.op rfl rfl (WS.offC rfl (WS.op rfl rfl (WS.op rfl rfl (WS.nil [(10, _)] rfl ?_))))))
                refine WC.ret ?_
                refine ⟨[_], (res_tmp rfl res_nil), ?_⟩
                exfalso; first | exact absurd (f4.1 (by assumption)) e83 | exact absurd (f4.2 e83) (by rw [Bool.not_eq_true]; assumption) | exact absurd (f8.1 (by assumption)) e126 | exact absurd (f8.2 e126) (by rw [Bool.not_eq_true]; assumption) | exact absurd (f12.1 (by assumption)) e170 | exact absurd (f12.2 e170) (by rw [Bool.not_eq_true]; assumption)
             ·
              rw [f11] at hb12; cases hb12
         ·
          refine WS.opV (.bool true) rfl rfl rfl (WS.op rfl rfl (WS.nil [(3, _), (4, _), (7, _), (128, _)] rfl ?_))
          refine WC.condT rfl ?_
          refine WC.seq ?_
          refine WC.run ?_
          refine WS.op rfl rfl (WS.nil [(10, _)] rfl ?_)
          refine WC.ret ?_
          refine ⟨[_], (res_tmp rfl res_nil), ?_⟩
          exfalso; first | exact absurd (f4.1 (by assumption)) e83 | exact absurd (f4.2 e83) (by rw [Bool.not_eq_true]; assumption) | exact absurd (f8.1 (by assumption)) e126 | exact absurd (f8.2 e126) (by rw [Bool.not_eq_true]; assumption) | exact absurd (f12.1 (by assumption)) e170 | exact absurd (f12.2 e170) (by rw [Bool.not_eq_true]; assumption)
       ·
        rw [f7] at hb8; cases hb8
    ·
     refine WS.nil [(3, _), (4, _), (6, _), (7, _), (11, _), (89, _)] rfl ?_
     refine WC.condF rfl ?_
     refine WC.skip ?_
     refine WC.seq ?_
     refine WC.run ?_
     refine WS.op rfl (op_lds [_, _, _, _] (M412.at 0 rfl) rfl (Nat.le_of_ble_eq_true rfl) rfl) ?_
     refine WS.call rfl rfl rfl (WriteR_ran M412.here (r := r) (A2.mono M412.sub) (by exact hp40.2.1.1)) ?_
     rintro _ h533 ⟨rfl, N534⟩
     have M535 := M412.trans N534
     refine WS.op rfl rfl (WS.nil [(3, _), (4, _), (7, _), (11, _)] rfl ?_)
     refine WC.seq ?_
     refine WC.seq ?_
     refine WC.run ?_
     refine WS.op rfl rfl (WS.op rfl (op_lenS (l := (encR r)) rfl) ?_)
     refine WS.lssN (a := ((encR r)).length) (b := 4) rfl rfl rfl (fun e133 => ?_) (fun e133 => ?_)
     ·
      exact absurd e133 (by omega)
     ·
      refine WS.nil [(3, _), (4, _), (7, _), (11, _), (133, _)] rfl ?_
      refine WC.condF rfl ?_
      refine WC.skip ?_
      refine WC.seq ?_
      refine WC.run ?_
      have hwr := encR_len hp40.2.1.2
      have hb6 := hp40.2.2
      refine WS.op rfl rfl ?_
      refine WS.call rfl rfl rfl (ReadR_ran M535.here (s := (encR r)) (by first | omega | (rw [List.length_take]; omega) | (rw [List.length_append]; omega))) ?_
      rintro _ h536 ⟨r136, V539, S540, ok136, O541, rfl, hF136, hy136, hn136, hC136, N537⟩
      obtain ⟨P542, rfl⟩ := O541.shape
      have M538 := M535.trans N537
      replace M538 : Mem _ _ (S540 :: [(p7, _)] :: [(p4, _)] :: [(p1, _)] :: []) _ := M538
      refine WS.op rfl rfl (WS.op rfl rfl (WS.op rfl rfl ?_))
      refine WS.new M538 rfl ?_
      intro p543 h544 M545
      refine WS.st1 (M545.focus 0 rfl) [_, _, _, _] [_, _, _, _] rfl rfl rfl rfl rfl (Nat.le_of_ble_eq_true rfl) (Nat.le_of_ble_eq_true rfl) rfl rfl ?_
      intro h546 M547
      replace M547 : Mem _ _ ([(p543, _)] :: S540 :: [(p7, _)] :: [(p4, _)] :: [(p1, _)] :: []) _ := M547
      refine WS.op rfl rfl (WS.nil [(3, _), (4, _), (7, _), (11, _), (24, _), (25, _)] rfl ?_)
      refine WC.seq ?_
      refine WC.run ?_
      refine WS.op rfl rfl (WS.op rfl rfl (WS.opV (.int .i64 (((ct).toNat : Nat) : Int)) rfl rfl (cv_i64 (n := (ct).toNat) (by have := UInt16.toNat_lt ct; omega)) (WS.op rfl rfl (WS.op rfl (op_lenS (l := (encR r)) rfl) (WS.op rfl (op_remN (a := (ct).toNat) (b := ((encR r)).length) rfl rfl (by omega)) (WS.op rfl (op_slS1 (l := (encR r)) (((ct).toNat) % (((encR r)).length)) rfl rfl (by have := Nat.mod_lt ct.toNat (show 0 < (encR r).length by omega); omega)) ?_))))))
      refine WS.call rfl rfl rfl (ReadR_ran M547.here (s := (((encR r)).take (((ct).toNat) % (((encR r)).length)))) (by first | omega | (rw [List.length_take]; omega) | (rw [List.length_append]; omega))) ?_
      rintro _ h548 ⟨r147, V551, S552, ok147, O553, rfl, hF147, hy147, hn147, hC147, N549⟩
      obtain ⟨P554, rfl⟩ := O553.shape
      have M550 := M547.trans N549
      replace M550 : Mem _ _ (S552 :: [(p543, _)] :: S540 :: [(p7, _)] :: [(p4, _)] :: [(p1, _)] :: []) _ := M550
      refine WS.op rfl rfl (WS.op rfl rfl (WS.op rfl rfl ?_))
      refine WS.new M550 rfl ?_
      intro p555 h556 M557
      refine WS.st1 (M557.focus 0 rfl) [_, _, _, _] [_, _, _, _] rfl rfl rfl rfl rfl (Nat.le_of_ble_eq_true rfl) (Nat.le_of_ble_eq_true rfl) rfl rfl ?_
      intro h558 M559
      replace M559 : Mem _ _ ([(p555, _)] :: S552 :: [(p543, _)] :: S540 :: [(p7, _)] :: [(p4, _)] :: [(p1, _)] :: []) _ := M559
      refine WS.op rfl rfl (WS.nil [(4, _), (7, _), (11, _), (24, _), (25, _), (27, _)] rfl ?_)
      refine WC.seq ?_
      refine WC.run ?_
      refine WS.op rfl rfl (WS.op rfl rfl (WS.op rfl (op_sadd (l := (encR r)) (m := bh) rfl rfl (by omega)) ?_))
      refine WS.call rfl rfl rfl (ReadR_ran M559.here (s := ((encR r) ++ bh)) (by first | omega | (rw [List.length_take]; omega) | (rw [List.length_append]; omega))) ?_
      rintro _ h560 ⟨r154, V563, S564, ok154, O565, rfl, hF154, hy154, hn154, hC154, N561⟩
      obtain ⟨P566, rfl⟩ := O565.shape
      have M562 := M559.trans N561
      replace M562 : Mem _ _ (S564 :: [(p555, _)] :: S552 :: [(p543, _)] :: S540 :: [(p7, _)] :: [(p4, _)] :: [(p1, _)] :: []) _ := M562
      refine WS.op rfl rfl (WS.op rfl rfl (WS.op rfl rfl ?_))
      refine WS.new M562 rfl ?_
      intro p567 h568 M569
      refine WS.st1 (M569.focus 0 rfl) [_, _, _, _] [_, _, _, _] rfl rfl rfl rfl rfl (Nat.le_of_ble_eq_true rfl) (Nat.le_of_ble_eq_true rfl) rfl rfl ?_
      intro h570 M571
      replace M571 : Mem _ _ ([(p567, _)] :: S564 :: [(p555, _)] :: S552 :: [(p543, _)] :: S540 :: [(p7, _)] :: [(p4, _)] :: [(p1, _)] :: []) _ := M571
      refine WS.op rfl rfl (WS.nil [(4, _), (7, _), (24, _), (25, _), (27, _), (29, _)] rfl ?_)
      refine WC.seq ?_
      refine WC.run ?_
      obtain ⟨f9, f10⟩ := rd_self encR_pf hp40.2.1.1 (hC136.rd hF136)
      have f11 := rd_short encR_pf hp40.2.1.1 (Nat.mod_lt _ (by omega)) (hC147.rd hF147)
      have f12 := rd_more encR_pf hp40.2.1.1 (hC154.rd hF154)
      refine WS.op rfl rfl (WS.op rfl rfl ?_)
      cases hb10 : ok136
      ·
       rw [f9] at hb10; cases hb10
      ·
       refine WS.op rfl (op_lds [_, _, _, _] (M571.at 4 rfl) rfl (Nat.le_of_ble_eq_true rfl) rfl) (WS.op rfl (op_lds [_, _, _, _] (M571.at 6 rfl) rfl (Nat.le_of_ble_eq_true rfl) rfl) ?_)
       refine WS.call rfl rfl rfl (SameR_ran M571.here (a := r136) (b := r) (Row.Own.sl O541 (Mem.owni M571 5 rfl)) (A2.mono M571.sub) (by first | (have := hF48.2.2.2.2.2.1; omega) | (have := hF136.2.1; omega))) ?_
       rintro _ h572 ⟨rfl, N573⟩
       have M574 := M571.trans N573
       refine WS.op rfl rfl (WS.op rfl rfl ?_)
       cases hb11 : (decide (r136 = r))
       ·
        exact absurd f10 (of_decide_eq_false hb11)
       ·
        refine WS.op rfl rfl ?_
        cases hb12 : ok147
        ·
         refine WS.opV (.bool true) rfl rfl rfl (WS.op rfl rfl (WS.op rfl rfl (WS.op rfl rfl (WS.op rfl rfl ?_))))
         refine WS.seql (l := bh) (m := []) rfl rfl rfl (fun e170 => ?_) (fun e170 => ?_)
         ·
          cases hb13 : ok154
          ·
           refine WS.opV (.bool false) rfl rfl rfl (WS.op rfl rfl (WS.op rfl rfl (WS.offC rfl (WS.op rfl rfl (WS.op rfl rfl (WS.nil [(10, _)] rfl ?_))))))
           refine WC.ret ?_
           refine ⟨[_], (res_tmp rfl res_nil), ?_⟩
           exfalso; first | exact absurd (f4.1 (by assumption)) e83 | exact absurd (f4.2 e83) (by rw [Bool.not_eq_true]; assumption) | exact absurd (f8.1 (by assumption)) e126 | exact absurd (f8.2 e126) (by rw [Bool.not_eq_true]; assumption) | exact absurd (f12.1 (by assumption)) e170 | exact absurd (f12.2 e170) (by rw [Bool.not_eq_true]; assumption)
          ·
           refine WS.opV (.bool true) rfl rfl rfl (WS.op rfl rfl (WS.op rfl rfl ?_))
           refine WS.call rfl rfl rfl (awake_ran M574.here ) ?_
           rintro _ h575 ⟨rfl, N576⟩
           have M577 := M574.trans N576
           refine WS.op rfl rfl (WS.op rfl rfl (WS.nil [(10, _)] rfl ?_))
           refine WC.ret ?_
           refine ⟨[_], (res_tmp rfl res_nil), ?_⟩
           rfl
         ·
          cases hb13 : ok154
          ·
           refine WS.opV (.bool true) rfl rfl rfl (WS.op rfl rfl (WS.op rfl rfl ?_))
           refine WS.call rfl rfl rfl (awake_ran M574.here ) ?_
           rintro _ h578 ⟨rfl, N579⟩
           have M580 := M574.trans N579
           refine WS.op rfl rfl (WS.op rfl rfl (WS.nil [(10, _)] rfl ?_))
           refine WC.ret ?_
           refine ⟨[_], (res_tmp rfl res_nil), ?_⟩
           rfl
          ·
           refine WS.opV (.bool false) rfl rfl rfl (WS.op rfl rfl (WS.op rfl rfl (WS.offC rfl (WS.op rfl rfl (WS.op rfl rfl (WS.nil [(10, _)] rfl ?_))))))
           refine WC.ret ?_
           refine ⟨[_], (res_tmp rfl res_nil), ?_⟩
           exfalso; first | exact absurd (f4.1 (by assumption)) e83 | exact absurd (f4.2 e83) (by rw [Bool.not_eq_true]; assumption) | exact absurd (f8.1 (by assumption)) e126 | exact absurd (f8.2 e126) (by rw [Bool.not_eq_true]; assumption) | exact absurd (f12.1 (by assumption)) e170 | exact absurd (f12.2 e170) (by rw [Bool.not_eq_true]; assumption)
        ·
         rw [f11] at hb12; cases hb12
end Go.Proofs.Ytncpdahappmhkaa.Wt
