/- The law 'FrameReads' returns true for all arguments: what its proof stands on, part 8. -/
import Derived.Test.YteikngjiaboeaaaZFrameReads7
namespace Go.Proofs.Yteikngjiaboeaaa.Wt
open Go Go.Proofs.Yteikngjiaboeaaa.Am Go.Proofs.Yteikngjiaboeaaa.IrAll
set_option linter.unusedVariables false
set_option linter.unusedSimpArgs false
variable {h base : H} {L : List Seg} {R : List Nat}
def nx (ts : List (List UInt8)) (k : Nat) : List UInt8 := (ts[k]?).getD []
end Go.Proofs.Yteikngjiaboeaaa.Wt
namespace Go.Proofs.Yteikngjiaboeaaa.Wt
open Go Go.Proofs.Yteikngjiaboeaaa.Am Go.Proofs.Yteikngjiaboeaaa.IrAll
set_option linter.unusedVariables false
set_option linter.unusedSimpArgs false
structure Frm where
  kd : UInt8
  t0 : UInt8
  t1 : UInt8
  t2 : UInt8
  t3 : UInt8
  t4 : UInt8
  t5 : UInt8
  t6 : UInt8
  t7 : UInt8
  c : Cmd
  o : Oper
  deriving DecidableEq
def Frm.cells (f : Frm) (V : Value) : List Value := [(.int .u8 (((f.kd).toNat : Nat) : Int)), (.int .u8 (((f.t0).toNat : Nat) : Int)), (.int .u8 (((f.t1).toNat : Nat) : Int)), (.int .u8 (((f.t2).toNat : Nat) : Int)), (.int .u8 (((f.t3).toNat : Nat) : Int)), (.int .u8 (((f.t4).toNat : Nat) : Int)), (.int .u8 (((f.t5).toNat : Nat) : Int)), (.int .u8 (((f.t6).toNat : Nat) : Int)), (.int .u8 (((f.t7).toNat : Nat) : Int)), (.int .u8 (((f.c.op).toNat : Nat) : Int)), (.int .u64 (((f.c.se).toNat : Nat) : Int)), (.int .u64 (((f.c.sq).toNat : Nat) : Int)), (.string (bs f.c.ky)), (.string (bs f.c.va)), (.string (bs f.c.ex)), (.string (bs f.c.fr)), (.string (bs f.c.to)), (.int .u8 (((f.c.li).toNat : Nat) : Int)), (.int .u64 (((f.c.le).toNat : Nat) : Int)), (.int .u64 (((f.c.tt).toNat : Nat) : Int)), V, (.int .u8 (((f.o.op).toNat : Nat) : Int)), (.int .u8 (((f.o.sl).toNat : Nat) : Int)), (.int .u8 (((f.o.t0).toNat : Nat) : Int)), (.int .u8 (((f.o.t1).toNat : Nat) : Int)), (.int .u8 (((f.o.t2).toNat : Nat) : Int)), (.int .u8 (((f.o.t3).toNat : Nat) : Int)), (.int .u8 (((f.o.t4).toNat : Nat) : Int)), (.int .u8 (((f.o.t5).toNat : Nat) : Int)), (.int .u8 (((f.o.t6).toNat : Nat) : Int)), (.int .u8 (((f.o.t7).toNat : Nat) : Int)), (.int .u8 (((f.o.ro).toNat : Nat) : Int)), (.int .i64 (f.o.ks).toInt), (.int .i64 (f.o.bt).toInt), (.int .i64 (f.o.ra).toInt), (.int .i64 (f.o.bu).toInt), (.int .u8 (((f.o.nd).toNat : Nat) : Int))]
def Frm.val (f : Frm) (V : Value) : Value := .agg (f.cells V).toArray
variable {h base : H} {L : List Seg} {R : List Nat}
theorem rows_lenF {ps : List Rrow} (h : FitR ps) : (ps.flatMap rowR).length ≤ ps.length * 600040 := by
  induction ps with
  | nil => simp
  | cons p ps ih =>
    have h1 := ih fun x hx => h x (by simp [hx])
    have h2 := h p (by simp)
    have s1 := sb_len3 h2.1
    have s2 := sb_len3 h2.2
    have s3 := vb_len p.vn.toNat_lt
    simp only [List.flatMap_cons, List.length_append, List.length_cons, rowR]; omega
theorem encR_lenF {r : Res} (h : FitRes r) : (encR r).length ≤ 200000000000 := by
  have s1 := sb_len3 h.1
  have s2 := vb_len r.n.toNat_lt
  have s3 := vb_len (n := r.rs.length) (by have := h.2.1; omega)
  have s4 := rows_lenF h.2.2
  have := h.2.1
  simp only [encR, headR, List.length_append, List.length_cons, List.length_nil]; omega
def MayF (f : Frm) : Prop := (f.kd.toNat = 1 ∧ f.o = zeroO2 ∧ MayC f.c) ∨ (f.kd.toNat = 2 ∧ f.c = zeroC ∧ MayO f.o)
instance (f : Frm) : Decidable (MayF f) := by unfold MayF; infer_instance
def tailF (f : Frm) : List UInt8 := if f.kd.toNat = 1 then encC f.c else encO f.o
def encF (f : Frm) : List UInt8 := [f.kd, f.t0, f.t1, f.t2, f.t3, f.t4, f.t5, f.t6, f.t7] ++ tailF f
theorem tailF_1 {f : Frm} (h : f.kd.toNat = 1) : tailF f = encC f.c := if_pos h
theorem tailF_2 {f : Frm} (h : f.kd.toNat = 2) : tailF f = encO f.o := if_neg (by omega)
def GoodF (f : Frm) : Prop := MayF f ∧ Fit f.c
def zeroF : Frm := ⟨0, 0, 0, 0, 0, 0, 0, 0, 0, zeroC, zeroO2⟩
theorem encF_pf : PF GoodF encF := by
  rintro a b x y ⟨ma, fa⟩ ⟨mb, fb⟩ h
  simp only [encF, List.cons_append, List.nil_append, List.append_assoc, List.cons.injEq] at h
  obtain ⟨h0, h1, h2, h3, h4, h5, h6, h7, h8, h⟩ := h
  have ho : a.kd.toNat = b.kd.toNat := by rw [h0]
  have key : a.c = b.c ∧ a.o = b.o ∧ x = y := by
    rcases ma with ⟨a1, a2, a3⟩ | ⟨a1, a2, a3⟩
    · rcases mb with ⟨b1, b2, b3⟩ | ⟨b1, b2, b3⟩
      · rw [tailF_1 a1, tailF_1 b1] at h
        obtain ⟨e1, e2⟩ := encC_pf _ _ _ _ ⟨a3, fa⟩ ⟨b3, fb⟩ h
        exact ⟨e1, by rw [a2, b2], e2⟩
      · omega
    · rcases mb with ⟨b1, b2, b3⟩ | ⟨b1, b2, b3⟩
      · omega
      · rw [tailF_2 a1, tailF_2 b1] at h
        obtain ⟨e1, e2⟩ := encO_pf _ _ _ _ a3 b3 h
        exact ⟨by rw [a2, b2], e1, e2⟩
  obtain ⟨k1, k2, k3⟩ := key
  refine ⟨?_, k3⟩
  obtain ⟨⟩ := a; obtain ⟨⟩ := b
  simp only at *
  rw [h0, h1, h2, h3, h4, h5, h6, h7, h8, k1, k2]
end Go.Proofs.Yteikngjiaboeaaa.Wt
namespace Go.Proofs.Yteikngjiaboeaaa.Wt
open Go Go.Proofs.Yteikngjiaboeaaa.Am Go.Proofs.Yteikngjiaboeaaa.IrAll
open Nat renaming le_of_ble_eq_true → C
open List renaming length_singleton → D
open Go.Proofs.Yteikngjiaboeaaa.Am.WS renaming op → F
open List renaming length_append → G
open List renaming length_cons → J
open List renaming length_drop → U
open List renaming length_take → X
open List renaming length_nil → Y
open Go.Proofs.Yteikngjiaboeaaa.Am.WS renaming nil → AQ
open Go.Proofs.Yteikngjiaboeaaa.Am.WC renaming seq → AX
open Go.Proofs.Yteikngjiaboeaaa.Am.WC renaming run → AZ
open Go.Proofs.Yteikngjiaboeaaa.Am.WS renaming opV → BQ
open Go.Proofs.Yteikngjiaboeaaa.Am.WS renaming st1 → BX
set_option linter.unusedVariables false
set_option linter.unusedSimpArgs false
theorem hd9 {s : List UInt8} {a c0 c1 c2 c3 c4 c5 c6 c7 : UInt8} (h0 : s[0]? = some a) (h8 : (s.drop 1).take 8 = [c0, c1, c2, c3, c4, c5, c6, c7]) : s = [a, c0, c1, c2, c3, c4, c5, c6, c7] ++ s.drop 9 := by
  have e := drop_cons h0
  rw [List.drop_zero] at e
  have e2 := List.take_append_drop 8 (s.drop 1)
  rw [h8, List.drop_drop] at e2
  conv => lhs; rw [e, ← e2]
  rfl
theorem hd9_ix {s : List UInt8} {a c0 c1 c2 c3 c4 c5 c6 c7 : UInt8} (h0 : s[0]? = some a) (h1 : s[1]? = some c0) (h2 : s[2]? = some c1) (h3 : s[3]? = some c2) (h4 : s[4]? = some c3) (h5 : s[5]? = some c4) (h6 : s[6]? = some c5) (h7 : s[7]? = some c6) (h8 : s[8]? = some c7) : s = [a, c0, c1, c2, c3, c4, c5, c6, c7] ++ s.drop 9 := by
  have e := drop_cons h0
  rw [List.drop_zero, drop_cons h1, drop_cons h2, drop_cons h3, drop_cons h4, drop_cons h5, drop_cons h6, drop_cons h7, drop_cons h8] at e
  exact e
variable {h base : H} {L : List Seg} {R : List Nat}
theorem encF_drop (f : Frm) : (encF f).drop 9 = tailF f := rfl
theorem rdF_no {s : List UInt8} (h : ∀ f0, GoodF f0 → encF f0 ≠ s) : Rd GoodF encF zeroF s zeroF false := ⟨fun q => (nomatch q), fun _ => ⟨rfl, h⟩⟩
theorem rdF_yes {s : List UInt8} {f : Frm} (g : GoodF f) (h : encF f = s) : Rd GoodF encF zeroF s f true := ⟨fun _ => ⟨g, h⟩, fun q => (nomatch q)⟩
theorem noF_short {s : List UInt8} (h : s.length < 9) : ∀ f0, GoodF f0 → encF f0 ≠ s := fun f0 _ e => by
  have := congrArg List.length e
  simp [encF] at this; omega
theorem noF_1 {s : List UInt8} {a : UInt8} {c : Cmd} (h0 : s[0]? = some a) (ha : a.toNat = 1) (hC : RdC (s.drop 9) c false) : ∀ f0, GoodF f0 → encF f0 ≠ s := fun f0 g e => by
  have hk : f0.kd = a := by rw [← e] at h0; simpa [encF] using h0
  rcases g.1 with ⟨q1, q2, q3⟩ | ⟨q1, q2, q3⟩
  · exact (hC.2 rfl).2 f0.c q3 g.2 (by rw [← e, encF_drop, tailF_1 q1])
  · rw [hk] at q1; omega
theorem noF_2 {s : List UInt8} {a : UInt8} {o : Oper} (h0 : s[0]? = some a) (ha : a.toNat = 2) (hC : RdO (s.drop 9) o false) : ∀ f0, GoodF f0 → encF f0 ≠ s := fun f0 g e => by
  have hk : f0.kd = a := by rw [← e] at h0; simpa [encF] using h0
  rcases g.1 with ⟨q1, q2, q3⟩ | ⟨q1, q2, q3⟩
  · rw [hk] at q1; omega
  · exact (hC.2 rfl).2 f0.o q3 (by rw [← e, encF_drop, tailF_2 q1])
theorem noF_0 {s : List UInt8} {a : UInt8} (h0 : s[0]? = some a) (ha : a.toNat ≠ 1) (hb : a.toNat ≠ 2) : ∀ f0, GoodF f0 → encF f0 ≠ s := fun f0 g e => by
  have hk : f0.kd = a := by rw [← e] at h0; simpa [encF] using h0
  rcases g.1 with ⟨q1, q2, q3⟩ | ⟨q1, q2, q3⟩
  · rw [hk] at q1; omega
  · rw [hk] at q1; omega
set_option maxRecDepth 8000 in
theorem ReadF_ran (W : Mem h h [] []) {s : List UInt8} (hl : s.length ≤ 300000) : Cll tab0 13 [.string (bs s)] h (fun v h2 => ∃ f V S ok, KPart.Own V (Cmd.ps f.c) S ∧ v = .tuple #[Frm.val f V, .bool ok] ∧ Fit f.c ∧ Rd GoodF encF zeroF s f ok ∧ Mem h h2 [S] []) := by
  refine Cll.code rfl rfl ?_
  refine WC.env [(0, _)] rfl ?_
  refine AX (AZ (WS.new W rfl ?_))
  intro p1 h2 M3
  refine F rfl rfl (AQ [(0, _), (2, _)] rfl ?_)
  refine AX (AX (AZ (F rfl rfl (F rfl (op_lenS (l := s) rfl) ?_))))
  refine WS.lssN (a := (s).length) (b := 9) rfl rfl rfl (fun e8 => ?_) (fun e8 => ?_)
  ·
   refine AQ [(0, _), (2, _), (8, _)] rfl ?_
   refine WC.condT rfl (AX (AZ (BQ (.agg #[(.int .u8 (0 : Int)), (.int .u8 (0 : Int)), (.int .u8 (0 : Int)), (.int .u8 (0 : Int)), (.int .u8 (0 : Int)), (.int .u8 (0 : Int)), (.int .u8 (0 : Int)), (.int .u8 (0 : Int)), (.int .u8 (0 : Int)), (.int .u8 (0 : Int)), (.int .u64 (0 : Int)), (.int .u64 (0 : Int)), (.string (bs ([]))), (.string (bs ([]))), (.string (bs ([]))), (.string (bs ([]))), (.string (bs ([]))), (.int .u8 (0 : Int)), (.int .u64 (0 : Int)), (.int .u64 (0 : Int)), (.slice none 0 0), (.int .u8 (0 : Int)), (.int .u8 (0 : Int)), (.int .u8 (0 : Int)), (.int .u8 (0 : Int)), (.int .u8 (0 : Int)), (.int .u8 (0 : Int)), (.int .u8 (0 : Int)), (.int .u8 (0 : Int)), (.int .u8 (0 : Int)), (.int .u8 (0 : Int)), (.int .u8 (0 : Int)), (.int .i64 (0 : Int)), (.int .i64 (0 : Int)), (.int .i64 (0 : Int)), (.int .i64 (0 : Int)), (.int .u8 (0 : Int))]) rfl rfl rfl ?_)))
   refine BX (M3.focus 0 rfl) [_, _, _, _, _, _, _, _, _, _, _, _, _, _, _, _, _, _, _, _, _, _, _, _, _, _, _, _, _, _, _, _, _, _, _, _, _] [_, _, _, _, _, _, _, _, _, _, _, _, _, _, _, _, _, _, _, _, _, _, _, _, _, _, _, _, _, _, _, _, _, _, _, _, _] rfl rfl rfl rfl rfl (C rfl) (C rfl) rfl rfl ?_
   intro h4 M5
   replace M5 : Mem _ _ ([(p1, _)] :: []) _ := M5
   refine F rfl rfl (AQ [(2, _), (3, _)] rfl ?_)
   refine WC.ret (⟨[_, _], (res_cellN [_, _, _, _, _, _, _, _, _, _, _, _, _, _, _, _, _, _, _, _, _, _, _, _, _, _, _, _, _, _, _, _, _, _, _, _, _] rfl (M5.at 0 rfl) (C rfl) rfl (res_tmp rfl res_nil)), ?_⟩)
   have hno : ∀ f0, GoodF f0 → encF f0 ≠ s := by
     first
     | exact noF_short (by omega)
     | exact noF_1 x (by omega) (by rw [show ok25 = false by assumption] at hC25; exact hC25)
     | exact noF_2 x (by omega) (by rw [show ok34 = false by assumption] at hC34; exact hC34)
     | exact noF_0 x (by omega) (by omega)
   exact ⟨zeroF, .slice none 0 0, [], false, .nil, rfl, fit0, rdF_no hno, (M5.bare.take 0).nils⟩
  ·
   refine AQ [(0, _), (2, _), (8, _)] rfl ?_
   refine WC.condF rfl (WC.skip (AX (AZ (F rfl rfl ?_))))
   obtain ⟨c6, hc7⟩ : ∃ c, (s)[0]? = some c := ⟨_, List.getElem?_eq_getElem (show 0 < (s).length by first | omega | (simp only [U, X, G, J, Y, D]; omega) | (simp only [U, X, G, J, Y, D] at *; omega))⟩
   refine F rfl (op_ixS 0 rfl rfl hc7) (BQ (.agg #[(.int .u8 (((c6).toNat : Nat) : Int)), (.int .u8 (0 : Int)), (.int .u8 (0 : Int)), (.int .u8 (0 : Int)), (.int .u8 (0 : Int)), (.int .u8 (0 : Int)), (.int .u8 (0 : Int)), (.int .u8 (0 : Int)), (.int .u8 (0 : Int)), (.int .u8 (0 : Int)), (.int .u64 (0 : Int)), (.int .u64 (0 : Int)), (.string (bs ([]))), (.string (bs ([]))), (.string (bs ([]))), (.string (bs ([]))), (.string (bs ([]))), (.int .u8 (0 : Int)), (.int .u64 (0 : Int)), (.int .u64 (0 : Int)), (.slice none 0 0), (.int .u8 (0 : Int)), (.int .u8 (0 : Int)), (.int .u8 (0 : Int)), (.int .u8 (0 : Int)), (.int .u8 (0 : Int)), (.int .u8 (0 : Int)), (.int .u8 (0 : Int)), (.int .u8 (0 : Int)), (.int .u8 (0 : Int)), (.int .u8 (0 : Int)), (.int .u8 (0 : Int)), (.int .i64 (0 : Int)), (.int .i64 (0 : Int)), (.int .i64 (0 : Int)), (.int .i64 (0 : Int)), (.int .u8 (0 : Int))]) rfl rfl rfl ?_)
   refine WS.new M3 rfl ?_
   intro p8 h9 M10
   refine BX (M10.focus 0 rfl) [_, _, _, _, _, _, _, _, _, _, _, _, _, _, _, _, _, _, _, _, _, _, _, _, _, _, _, _, _, _, _, _, _, _, _, _, _] [_, _, _, _, _, _, _, _, _, _, _, _, _, _, _, _, _, _, _, _, _, _, _, _, _, _, _, _, _, _, _, _, _, _, _, _, _] rfl rfl rfl rfl rfl (C rfl) (C rfl) rfl rfl ?_
   intro h11 M12
   replace M12 : Mem _ _ ([(p8, _)] :: [(p1, _)] :: []) _ := M12
   refine AQ [(0, _), (2, _), (4, _)] rfl ?_
   refine AX (WC.draw M12 [] rfl ?_)
   intro rb13 h14 M15
   refine F rfl rfl (BQ (.slice (some ⟨p8, 1, none⟩) 8 17) rfl rfl rfl (F rfl rfl (F rfl (op_slS0 (l := s) 1 rfl rfl (by first | omega | (simp only [U, X, G, J, Y, D]; omega) | (simp only [U, X, G, J, Y, D] at *; omega))) ?_)))
   obtain ⟨c16, c17, c18, c19, c20, c21, c22, c23, h8_24⟩ := take8 (l := ((s).drop 1)) (by first | omega | (simp only [U, X, G, J, Y, D]; omega) | (simp only [U, X, G, J, Y, D] at *; omega))
   refine WS.cpyS (l := ((s).drop 1)) (M15.focus 0 rfl) [(.int .u8 (((c16).toNat : Nat) : Int)), (.int .u8 (((c17).toNat : Nat) : Int)), (.int .u8 (((c18).toNat : Nat) : Int)), (.int .u8 (((c19).toNat : Nat) : Int)), (.int .u8 (((c20).toNat : Nat) : Int)), (.int .u8 (((c21).toNat : Nat) : Int)), (.int .u8 (((c22).toNat : Nat) : Int)), (.int .u8 (((c23).toNat : Nat) : Int))] [_, _, _, _, _, _, _, _, _, _, _, _, _, _, _, _, _, _, _, _, _, _, _, _, _, _, _, _, _, _, _, _, _, _, _, _, _] rfl rfl rfl rfl (by rw [h8_24]; rfl) rfl (C rfl) (C rfl) rfl rfl ?_
   intro h25 M26
   replace M26 : Mem _ _ ([(p8, _)] :: [(p1, _)] :: []) _ := M26
   refine AQ [(0, _), (2, _), (4, _)] rfl ?_
   refine AX (AZ (F rfl rfl (AQ [(0, _), (2, _), (4, _), (5, _)] rfl ?_)))
   refine AX (AX (AZ (F rfl rfl (F rfl (op_ld (M26.bare.at 0 rfl) rfl rfl) (AQ [(0, _), (2, _), (4, _), (5, _), (19, _)] rfl ?_)))))
   refine WC.block (AX (AZ (WS.eqlN (a := (c6).toNat) (b := 1) rfl rfl rfl (fun e21 => ?_) (fun e21 => ?_))))
   ·
    refine F rfl rfl (AQ [(0, _), (2, _), (4, _), (5, _), (19, _), (20, _)] rfl ?_)
    refine WC.condT rfl (AZ (F rfl rfl (F rfl (op_slS0 (l := s) 9 rfl rfl (by first | omega | (simp only [U, X, G, J, Y, D]; omega) | (simp only [U, X, G, J, Y, D] at *; omega))) ?_)))
    refine WS.call rfl rfl rfl (Read_ran M26.bare.here (s := ((s).drop 9)) (by first | omega | (simp only [U, X, G, J, Y, D]; omega) | (simp only [U, X, G, J, Y, D] at *; omega))) ?_
    rintro _ h27 ⟨c25, V30, S31, ok25, O32, rfl, hF25, hy25, hn25, hC25, N28⟩
    obtain ⟨P33, rfl⟩ := O32.shape
    have M29 := M26.bare.trans N28
    replace M29 : Mem _ _ (S31 :: [(p8, _)] :: [(p1, _)] :: []) _ := M29
    refine F rfl rfl (F rfl rfl (F rfl rfl (F rfl rfl ?_)))
    refine BX (M29.focus 1 rfl) [_, _, _, _, _, _, _, _, _, _, _, _] [_, _, _, _, _, _, _, _, _, _, _, _, _, _, _, _, _, _, _, _, _, _, _, _, _, _, _, _, _, _, _, _, _, _, _, _, _] rfl rfl rfl rfl rfl (C rfl) (C rfl) rfl rfl ?_
    intro h34 M35
    replace M35 : Mem _ _ ([(p8, _)] :: S31 :: [(p1, _)] :: []) _ := M35
    refine F rfl rfl (AQ [(2, _), (4, _), (5, _)] rfl ?_)
    refine AX (AX (AZ (F rfl rfl ?_)))
    cases hb1 : ok25
    ·
     refine BQ (.bool true) rfl rfl rfl (AQ [(2, _), (4, _), (39, _)] rfl ?_)
     refine WC.condT rfl (AX (AZ (BQ (.agg #[(.int .u8 (0 : Int)), (.int .u8 (0 : Int)), (.int .u8 (0 : Int)), (.int .u8 (0 : Int)), (.int .u8 (0 : Int)), (.int .u8 (0 : Int)), (.int .u8 (0 : Int)), (.int .u8 (0 : Int)), (.int .u8 (0 : Int)), (.int .u8 (0 : Int)), (.int .u64 (0 : Int)), (.int .u64 (0 : Int)), (.string (bs ([]))), (.string (bs ([]))), (.string (bs ([]))), (.string (bs ([]))), (.string (bs ([]))), (.int .u8 (0 : Int)), (.int .u64 (0 : Int)), (.int .u64 (0 : Int)), (.slice none 0 0), (.int .u8 (0 : Int)), (.int .u8 (0 : Int)), (.int .u8 (0 : Int)), (.int .u8 (0 : Int)), (.int .u8 (0 : Int)), (.int .u8 (0 : Int)), (.int .u8 (0 : Int)), (.int .u8 (0 : Int)), (.int .u8 (0 : Int)), (.int .u8 (0 : Int)), (.int .u8 (0 : Int)), (.int .i64 (0 : Int)), (.int .i64 (0 : Int)), (.int .i64 (0 : Int)), (.int .i64 (0 : Int)), (.int .u8 (0 : Int))]) rfl rfl rfl ?_)))
     refine BX (M35.focus 2 rfl) [_, _, _, _, _, _, _, _, _, _, _, _, _, _, _, _, _, _, _, _, _, _, _, _, _, _, _, _, _, _, _, _, _, _, _, _, _] [_, _, _, _, _, _, _, _, _, _, _, _, _, _, _, _, _, _, _, _, _, _, _, _, _, _, _, _, _, _, _, _, _, _, _, _, _] rfl rfl rfl rfl rfl (C rfl) (C rfl) rfl rfl ?_
     intro h36 M37
     replace M37 : Mem _ _ ([(p1, _)] :: [(p8, _)] :: S31 :: []) _ := M37
     refine F rfl rfl (AQ [(2, _), (3, _)] rfl ?_)
     refine WC.ret (⟨[_, _], (res_cellN [_, _, _, _, _, _, _, _, _, _, _, _, _, _, _, _, _, _, _, _, _, _, _, _, _, _, _, _, _, _, _, _, _, _, _, _, _] rfl (M37.at 0 rfl) (C rfl) rfl (res_tmp rfl res_nil)), ?_⟩)
     have hno : ∀ f0, GoodF f0 → encF f0 ≠ s := by
       first
       | exact noF_short (by omega)
       | exact noF_1 hc7 (by omega) (by rw [show ok25 = false by assumption] at hC25; exact hC25)
       | exact noF_2 hc7 (by omega) (by rw [show ok34 = false by assumption] at hC34; exact hC34)
       | exact noF_0 hc7 (by omega) (by omega)
     exact ⟨zeroF, .slice none 0 0, [], false, .nil, rfl, fit0, rdF_no hno, (M37.bare.take 0).nils⟩
    ·
     refine BQ (.bool false) rfl rfl rfl (AQ [(2, _), (4, _), (39, _)] rfl ?_)
     refine WC.condF rfl (WC.skip (AX (AZ (F rfl (op_lds [_, _, _, _, _, _, _, _, _, _, _, _, _, _, _, _, _, _, _, _, _, _, _, _, _, _, _, _, _, _, _, _, _, _, _, _, _] (M35.at 0 rfl) rfl (C rfl) rfl) ?_))))
     refine BX (M35.focus 2 rfl) [_, _, _, _, _, _, _, _, _, _, _, _, _, _, _, _, _, _, _, _, _, _, _, _, _, _, _, _, _, _, _, _, _, _, _, _, _] [_, _, _, _, _, _, _, _, _, _, _, _, _, _, _, _, _, _, _, _, _, _, _, _, _, _, _, _, _, _, _, _, _, _, _, _, _] rfl rfl rfl rfl rfl (C rfl) (C rfl) rfl rfl ?_
     intro h38 M39
     replace M39 : Mem _ _ ([(p1, _)] :: [(p8, _)] :: S31 :: []) _ := M39
     refine F rfl rfl (AQ [(2, _), (3, _)] rfl ?_)
     refine WC.ret (⟨[_, _], (res_cellN [_, _, _, _, _, _, _, _, _, _, _, _, _, _, _, _, _, _, _, _, _, _, _, _, _, _, _, _, _, _, _, _, _, _, _, _, _] rfl (M39.at 0 rfl) (C rfl) rfl (res_tmp rfl res_nil)), ?_⟩)
     obtain ⟨g1, g2⟩ := hC25.1 (by assumption)
     have hh : s = [c6, c16, c17, c18, c19, c20, c21, c22, c23] ++ s.drop 9 := hd9 hc7 h8_24
     have henc : encF (⟨c6, c16, c17, c18, c19, c20, c21, c22, c23, c25, (⟨0, 0, 0, 0, 0, 0, 0, 0, 0, 0, 0, 0, 0, 0, 0, 0⟩ : Oper)⟩ : Frm) = s := by
       unfold encF
       rw [tailF_1 (by dsimp only; omega)]
       dsimp only
       rw [g2]
       exact hh.symm
     exact ⟨(⟨c6, c16, c17, c18, c19, c20, c21, c22, c23, c25, (⟨0, 0, 0, 0, 0, 0, 0, 0, 0, 0, 0, 0, 0, 0, 0, 0⟩ : Oper)⟩ : Frm), _, _, true, O32, rfl, hF25, rdF_yes ⟨.inl ⟨by dsimp only; omega, rfl, g1⟩, hF25⟩ henc, ((M39.bare.focus 2 rfl).take 1)⟩
   ·
    refine F rfl rfl (AQ [(0, _), (2, _), (4, _), (5, _), (19, _), (20, _)] rfl ?_)
    refine WC.condF rfl (AX (AZ (WS.eqlN (a := (c6).toNat) (b := 2) rfl rfl rfl (fun e30 => ?_) (fun e30 => ?_))))
    ·
     refine F rfl rfl (AQ [(0, _), (2, _), (4, _), (5, _), (29, _)] rfl ?_)
     refine WC.condT rfl (AZ (F rfl rfl (F rfl (op_slS0 (l := s) 9 rfl rfl (by first | omega | (simp only [U, X, G, J, Y, D]; omega) | (simp only [U, X, G, J, Y, D] at *; omega))) ?_)))
     refine WS.call rfl rfl rfl (ReadO_ran M26.bare.here (s := ((s).drop 9)) (by first | omega | (simp only [U, X, G, J, Y, D]; omega) | (simp only [U, X, G, J, Y, D] at *; omega))) ?_
     rintro _ h40 ⟨o34, ok34, rfl, hy34, hn34, hC34, N41⟩
     have M42 := M26.bare.trans N41
     refine F rfl rfl (F rfl rfl (F rfl rfl (F rfl rfl ?_)))
     refine BX (M42.focus 0 rfl) [_, _, _, _, _, _, _, _, _, _, _, _, _, _, _, _] [_, _, _, _, _, _, _, _, _, _, _, _, _, _, _, _, _, _, _, _, _, _, _, _, _, _, _, _, _, _, _, _, _, _, _, _, _] rfl rfl rfl rfl rfl (C rfl) (C rfl) rfl rfl ?_
     intro h43 M44
     replace M44 : Mem _ _ ([(p8, _)] :: [(p1, _)] :: []) _ := M44
     refine F rfl rfl (AQ [(2, _), (4, _), (5, _)] rfl ?_)
     refine AX (AX (AZ (F rfl rfl ?_)))
     cases hb2 : ok34
     ·
      refine BQ (.bool true) rfl rfl rfl (AQ [(2, _), (4, _), (39, _)] rfl ?_)
      refine WC.condT rfl (AX (AZ (BQ (.agg #[(.int .u8 (0 : Int)), (.int .u8 (0 : Int)), (.int .u8 (0 : Int)), (.int .u8 (0 : Int)), (.int .u8 (0 : Int)), (.int .u8 (0 : Int)), (.int .u8 (0 : Int)), (.int .u8 (0 : Int)), (.int .u8 (0 : Int)), (.int .u8 (0 : Int)), (.int .u64 (0 : Int)), (.int .u64 (0 : Int)), (.string (bs ([]))), (.string (bs ([]))), (.string (bs ([]))), (.string (bs ([]))), (.string (bs ([]))), (.int .u8 (0 : Int)), (.int .u64 (0 : Int)), (.int .u64 (0 : Int)), (.slice none 0 0), (.int .u8 (0 : Int)), (.int .u8 (0 : Int)), (.int .u8 (0 : Int)), (.int .u8 (0 : Int)), (.int .u8 (0 : Int)), (.int .u8 (0 : Int)), (.int .u8 (0 : Int)), (.int .u8 (0 : Int)), (.int .u8 (0 : Int)), (.int .u8 (0 : Int)), (.int .u8 (0 : Int)), (.int .i64 (0 : Int)), (.int .i64 (0 : Int)), (.int .i64 (0 : Int)), (.int .i64 (0 : Int)), (.int .u8 (0 : Int))]) rfl rfl rfl ?_)))
      refine BX (M44.focus 1 rfl) [_, _, _, _, _, _, _, _, _, _, _, _, _, _, _, _, _, _, _, _, _, _, _, _, _, _, _, _, _, _, _, _, _, _, _, _, _] [_, _, _, _, _, _, _, _, _, _, _, _, _, _, _, _, _, _, _, _, _, _, _, _, _, _, _, _, _, _, _, _, _, _, _, _, _] rfl rfl rfl rfl rfl (C rfl) (C rfl) rfl rfl ?_
      intro h45 M46
      replace M46 : Mem _ _ ([(p1, _)] :: [(p8, _)] :: []) _ := M46
      refine F rfl rfl (AQ [(2, _), (3, _)] rfl ?_)
      refine WC.ret (⟨[_, _], (res_cellN [_, _, _, _, _, _, _, _, _, _, _, _, _, _, _, _, _, _, _, _, _, _, _, _, _, _, _, _, _, _, _, _, _, _, _, _, _] rfl (M46.at 0 rfl) (C rfl) rfl (res_tmp rfl res_nil)), ?_⟩)
      have hno : ∀ f0, GoodF f0 → encF f0 ≠ s := by
        first
        | exact noF_short (by omega)
        | exact noF_1 hc7 (by omega) (by rw [show ok25 = false by assumption] at hC25; exact hC25)
        | exact noF_2 hc7 (by omega) (by rw [show ok34 = false by assumption] at hC34; exact hC34)
        | exact noF_0 hc7 (by omega) (by omega)
      exact ⟨zeroF, .slice none 0 0, [], false, .nil, rfl, fit0, rdF_no hno, (M46.bare.take 0).nils⟩
     ·
      refine BQ (.bool false) rfl rfl rfl (AQ [(2, _), (4, _), (39, _)] rfl ?_)
      refine WC.condF rfl (WC.skip (AX (AZ (F rfl (op_lds [_, _, _, _, _, _, _, _, _, _, _, _, _, _, _, _, _, _, _, _, _, _, _, _, _, _, _, _, _, _, _, _, _, _, _, _, _] (M44.at 0 rfl) rfl (C rfl) rfl) ?_))))
      refine BX (M44.focus 1 rfl) [_, _, _, _, _, _, _, _, _, _, _, _, _, _, _, _, _, _, _, _, _, _, _, _, _, _, _, _, _, _, _, _, _, _, _, _, _] [_, _, _, _, _, _, _, _, _, _, _, _, _, _, _, _, _, _, _, _, _, _, _, _, _, _, _, _, _, _, _, _, _, _, _, _, _] rfl rfl rfl rfl rfl (C rfl) (C rfl) rfl rfl ?_
      intro h47 M48
      replace M48 : Mem _ _ ([(p1, _)] :: [(p8, _)] :: []) _ := M48
      refine F rfl rfl (AQ [(2, _), (3, _)] rfl ?_)
      refine WC.ret (⟨[_, _], (res_cellN [_, _, _, _, _, _, _, _, _, _, _, _, _, _, _, _, _, _, _, _, _, _, _, _, _, _, _, _, _, _, _, _, _, _, _, _, _] rfl (M48.at 0 rfl) (C rfl) rfl (res_tmp rfl res_nil)), ?_⟩)
      obtain ⟨g1, g2⟩ := hC34.1 (by assumption)
      have hh : s = [c6, c16, c17, c18, c19, c20, c21, c22, c23] ++ s.drop 9 := hd9 hc7 h8_24
      have henc : encF (⟨c6, c16, c17, c18, c19, c20, c21, c22, c23, (⟨0, 0, 0, ([]), ([]), ([]), ([]), ([]), 0, 0, 0, []⟩ : Cmd), o34⟩ : Frm) = s := by
        unfold encF
        rw [tailF_2 (by dsimp only; omega)]
        dsimp only
        rw [g2]
        exact hh.symm
      exact ⟨(⟨c6, c16, c17, c18, c19, c20, c21, c22, c23, (⟨0, 0, 0, ([]), ([]), ([]), ([]), ([]), 0, 0, 0, []⟩ : Cmd), o34⟩ : Frm), _, _, true, .nil, rfl, fit0, rdF_yes ⟨.inr ⟨by dsimp only; omega, rfl, g1⟩, fit0⟩ henc, (M48.bare.take 0).nils⟩
    ·
     refine F rfl rfl (AQ [(0, _), (2, _), (4, _), (5, _), (29, _)] rfl ?_)
     refine WC.condF rfl (WC.skip (AX (AX (AZ (F rfl rfl (BQ (.bool true) rfl rfl rfl (AQ [(2, _), (4, _), (39, _)] rfl ?_)))))))
     refine WC.condT rfl (AX (AZ (BQ (.agg #[(.int .u8 (0 : Int)), (.int .u8 (0 : Int)), (.int .u8 (0 : Int)), (.int .u8 (0 : Int)), (.int .u8 (0 : Int)), (.int .u8 (0 : Int)), (.int .u8 (0 : Int)), (.int .u8 (0 : Int)), (.int .u8 (0 : Int)), (.int .u8 (0 : Int)), (.int .u64 (0 : Int)), (.int .u64 (0 : Int)), (.string (bs ([]))), (.string (bs ([]))), (.string (bs ([]))), (.string (bs ([]))), (.string (bs ([]))), (.int .u8 (0 : Int)), (.int .u64 (0 : Int)), (.int .u64 (0 : Int)), (.slice none 0 0), (.int .u8 (0 : Int)), (.int .u8 (0 : Int)), (.int .u8 (0 : Int)), (.int .u8 (0 : Int)), (.int .u8 (0 : Int)), (.int .u8 (0 : Int)), (.int .u8 (0 : Int)), (.int .u8 (0 : Int)), (.int .u8 (0 : Int)), (.int .u8 (0 : Int)), (.int .u8 (0 : Int)), (.int .i64 (0 : Int)), (.int .i64 (0 : Int)), (.int .i64 (0 : Int)), (.int .i64 (0 : Int)), (.int .u8 (0 : Int))]) rfl rfl rfl ?_)))
     refine BX (M26.bare.focus 1 rfl) [_, _, _, _, _, _, _, _, _, _, _, _, _, _, _, _, _, _, _, _, _, _, _, _, _, _, _, _, _, _, _, _, _, _, _, _, _] [_, _, _, _, _, _, _, _, _, _, _, _, _, _, _, _, _, _, _, _, _, _, _, _, _, _, _, _, _, _, _, _, _, _, _, _, _] rfl rfl rfl rfl rfl (C rfl) (C rfl) rfl rfl ?_
     intro h49 M50
     replace M50 : Mem _ _ ([(p1, _)] :: [(p8, _)] :: []) _ := M50
     refine F rfl rfl (AQ [(2, _), (3, _)] rfl ?_)
     refine WC.ret (⟨[_, _], (res_cellN [_, _, _, _, _, _, _, _, _, _, _, _, _, _, _, _, _, _, _, _, _, _, _, _, _, _, _, _, _, _, _, _, _, _, _, _, _] rfl (M50.at 0 rfl) (C rfl) rfl (res_tmp rfl res_nil)), ?_⟩)
     have hno : ∀ f0, GoodF f0 → encF f0 ≠ s := by
       first
       | exact noF_short (by omega)
       | exact noF_1 hc7 (by omega) (by rw [show ok25 = false by assumption] at hC25; exact hC25)
       | exact noF_2 hc7 (by omega) (by rw [show ok34 = false by assumption] at hC34; exact hC34)
       | exact noF_0 hc7 (by omega) (by omega)
     exact ⟨zeroF, .slice none 0 0, [], false, .nil, rfl, fit0, rdF_no hno, (M50.bare.take 0).nils⟩
set_option maxRecDepth 8000 in
theorem refReadF_ran (W : Mem h h [] []) {s : List UInt8} (hl : s.length ≤ 300000) : Cll tab0 20 [.string (bs s)] h (fun v h2 => ∃ f V S ok, KPart.Own V (Cmd.ps f.c) S ∧ v = .tuple #[Frm.val f V, .bool ok] ∧ Fit f.c ∧ Rd GoodF encF zeroF s f ok ∧ Mem h h2 [S] []) := by
  refine Cll.code rfl rfl ?_
  refine WC.env [(0, _)] rfl ?_
  refine AX (AZ (WS.new W rfl ?_))
  intro p1 h2 M3
  refine F rfl rfl (AQ [(0, _), (2, _)] rfl ?_)
  refine AX (AX (AZ (F rfl rfl (F rfl (op_lenS (l := s) rfl) ?_))))
  refine WS.lssN (a := (s).length) (b := 9) rfl rfl rfl (fun e12 => ?_) (fun e12 => ?_)
  ·
   refine AQ [(0, _), (2, _), (12, _)] rfl ?_
   refine WC.condT rfl (AX (AZ (BQ (.agg #[(.int .u8 (0 : Int)), (.int .u8 (0 : Int)), (.int .u8 (0 : Int)), (.int .u8 (0 : Int)), (.int .u8 (0 : Int)), (.int .u8 (0 : Int)), (.int .u8 (0 : Int)), (.int .u8 (0 : Int)), (.int .u8 (0 : Int)), (.int .u8 (0 : Int)), (.int .u64 (0 : Int)), (.int .u64 (0 : Int)), (.string (bs ([]))), (.string (bs ([]))), (.string (bs ([]))), (.string (bs ([]))), (.string (bs ([]))), (.int .u8 (0 : Int)), (.int .u64 (0 : Int)), (.int .u64 (0 : Int)), (.slice none 0 0), (.int .u8 (0 : Int)), (.int .u8 (0 : Int)), (.int .u8 (0 : Int)), (.int .u8 (0 : Int)), (.int .u8 (0 : Int)), (.int .u8 (0 : Int)), (.int .u8 (0 : Int)), (.int .u8 (0 : Int)), (.int .u8 (0 : Int)), (.int .u8 (0 : Int)), (.int .u8 (0 : Int)), (.int .i64 (0 : Int)), (.int .i64 (0 : Int)), (.int .i64 (0 : Int)), (.int .i64 (0 : Int)), (.int .u8 (0 : Int))]) rfl rfl rfl ?_)))
   refine BX (M3.focus 0 rfl) [_, _, _, _, _, _, _, _, _, _, _, _, _, _, _, _, _, _, _, _, _, _, _, _, _, _, _, _, _, _, _, _, _, _, _, _, _] [_, _, _, _, _, _, _, _, _, _, _, _, _, _, _, _, _, _, _, _, _, _, _, _, _, _, _, _, _, _, _, _, _, _, _, _, _] rfl rfl rfl rfl rfl (C rfl) (C rfl) rfl rfl ?_
   intro h4 M5
   replace M5 : Mem _ _ ([(p1, _)] :: []) _ := M5
   refine F rfl rfl (AQ [(2, _), (3, _)] rfl ?_)
   refine WC.ret (⟨[_, _], (res_cellN [_, _, _, _, _, _, _, _, _, _, _, _, _, _, _, _, _, _, _, _, _, _, _, _, _, _, _, _, _, _, _, _, _, _, _, _, _] rfl (M5.at 0 rfl) (C rfl) rfl (res_tmp rfl res_nil)), ?_⟩)
   have hno : ∀ f0, GoodF f0 → encF f0 ≠ s := by
     first
     | exact noF_short (by omega)
     | exact noF_1 x (by omega) (by rw [show ok34 = false by assumption] at hC34; exact hC34)
     | exact noF_2 x (by omega) (by rw [show ok47 = false by assumption] at hC47; exact hC47)
     | exact noF_0 x (by omega) (by omega)
   exact ⟨zeroF, .slice none 0 0, [], false, .nil, rfl, fit0, rdF_no hno, (M5.bare.take 0).nils⟩
  ·
   refine AQ [(0, _), (2, _), (12, _)] rfl ?_
   refine WC.condF rfl (WC.skip (AX (AZ (F rfl rfl ?_))))
   obtain ⟨c6, hc7⟩ : ∃ c, (s)[0]? = some c := ⟨_, List.getElem?_eq_getElem (show 0 < (s).length by first | omega | (simp only [U, X, G, J, Y, D]; omega) | (simp only [U, X, G, J, Y, D] at *; omega))⟩
   refine F rfl (op_ixS 0 rfl rfl hc7) (BQ (.agg #[(.int .u8 (((c6).toNat : Nat) : Int)), (.int .u8 (0 : Int)), (.int .u8 (0 : Int)), (.int .u8 (0 : Int)), (.int .u8 (0 : Int)), (.int .u8 (0 : Int)), (.int .u8 (0 : Int)), (.int .u8 (0 : Int)), (.int .u8 (0 : Int)), (.int .u8 (0 : Int)), (.int .u64 (0 : Int)), (.int .u64 (0 : Int)), (.string (bs ([]))), (.string (bs ([]))), (.string (bs ([]))), (.string (bs ([]))), (.string (bs ([]))), (.int .u8 (0 : Int)), (.int .u64 (0 : Int)), (.int .u64 (0 : Int)), (.slice none 0 0), (.int .u8 (0 : Int)), (.int .u8 (0 : Int)), (.int .u8 (0 : Int)), (.int .u8 (0 : Int)), (.int .u8 (0 : Int)), (.int .u8 (0 : Int)), (.int .u8 (0 : Int)), (.int .u8 (0 : Int)), (.int .u8 (0 : Int)), (.int .u8 (0 : Int)), (.int .u8 (0 : Int)), (.int .i64 (0 : Int)), (.int .i64 (0 : Int)), (.int .i64 (0 : Int)), (.int .i64 (0 : Int)), (.int .u8 (0 : Int))]) rfl rfl rfl ?_)
   refine WS.new M3 rfl ?_
   intro p8 h9 M10
   refine BX (M10.focus 0 rfl) [_, _, _, _, _, _, _, _, _, _, _, _, _, _, _, _, _, _, _, _, _, _, _, _, _, _, _, _, _, _, _, _, _, _, _, _, _] [_, _, _, _, _, _, _, _, _, _, _, _, _, _, _, _, _, _, _, _, _, _, _, _, _, _, _, _, _, _, _, _, _, _, _, _, _] rfl rfl rfl rfl rfl (C rfl) (C rfl) rfl rfl ?_
   intro h11 M12
   replace M12 : Mem _ _ ([(p8, _)] :: [(p1, _)] :: []) _ := M12
   refine AQ [(0, _), (2, _), (4, _)] rfl ?_
   refine AX (AX (AZ (F rfl rfl (AQ [(0, _), (2, _), (4, _), (5, _)] rfl ?_))))
   refine WC.block (WC.unroll [(0, _), (2, _), (4, _), (5, _)] rfl ?_)
   refine AX (AX (AZ (F rfl rfl (BQ (.bool true) rfl rfl rfl (AQ [(0, _), (2, _), (4, _), (5, _), (18, _)] rfl ?_)))))
   refine WC.condT rfl (WC.skip (AX (WC.block (AZ (F rfl rfl (F rfl rfl (F rfl rfl (BQ (.int .i64 1) rfl rfl rfl ?_))))))))
   obtain ⟨c13, hc14⟩ : ∃ c, (s)[1]? = some c := ⟨_, List.getElem?_eq_getElem (show 1 < (s).length by first | omega | (simp only [U, X, G, J, Y, D]; omega) | (simp only [U, X, G, J, Y, D] at *; omega))⟩
   refine F rfl (op_ixS 1 rfl rfl hc14) (F rfl rfl (F rfl rfl ?_))
   refine BX (M12.focus 0 rfl) [_] [_, _, _, _, _, _, _, _, _, _, _, _, _, _, _, _, _, _, _, _, _, _, _, _, _, _, _, _, _, _, _, _, _, _, _, _, _] rfl rfl rfl rfl rfl (C rfl) (C rfl) rfl rfl ?_
   intro h15 M16
   replace M16 : Mem _ _ ([(p8, _)] :: [(p1, _)] :: []) _ := M16
   refine AQ [(0, _), (2, _), (4, _), (5, _)] rfl ?_
   refine AZ (F rfl rfl (BQ (.int .i64 1) rfl rfl rfl (F rfl rfl (AQ [(0, _), (2, _), (4, _), (5, _)] rfl ?_))))
   refine WC.unroll [(0, _), (2, _), (4, _), (5, _)] rfl ?_
   refine AX (AX (AZ (F rfl rfl (BQ (.bool true) rfl rfl rfl (AQ [(0, _), (2, _), (4, _), (5, _), (18, _)] rfl ?_)))))
   refine WC.condT rfl (WC.skip (AX (WC.block (AZ (F rfl rfl (F rfl rfl (F rfl rfl (BQ (.int .i64 2) rfl rfl rfl ?_))))))))
   obtain ⟨c17, hc18⟩ : ∃ c, (s)[2]? = some c := ⟨_, List.getElem?_eq_getElem (show 2 < (s).length by first | omega | (simp only [U, X, G, J, Y, D]; omega) | (simp only [U, X, G, J, Y, D] at *; omega))⟩
   refine F rfl (op_ixS 2 rfl rfl hc18) (F rfl rfl (F rfl rfl ?_))
   refine BX (M16.focus 0 rfl) [_] [_, _, _, _, _, _, _, _, _, _, _, _, _, _, _, _, _, _, _, _, _, _, _, _, _, _, _, _, _, _, _, _, _, _, _, _, _] rfl rfl rfl rfl rfl (C rfl) (C rfl) rfl rfl ?_
   intro h19 M20
   replace M20 : Mem _ _ ([(p8, _)] :: [(p1, _)] :: []) _ := M20
   refine AQ [(0, _), (2, _), (4, _), (5, _)] rfl ?_
   refine AZ (F rfl rfl (BQ (.int .i64 2) rfl rfl rfl (F rfl rfl (AQ [(0, _), (2, _), (4, _), (5, _)] rfl ?_))))
   refine WC.unroll [(0, _), (2, _), (4, _), (5, _)] rfl ?_
   refine AX (AX (AZ (F rfl rfl (BQ (.bool true) rfl rfl rfl (AQ [(0, _), (2, _), (4, _), (5, _), (18, _)] rfl ?_)))))
   refine WC.condT rfl (WC.skip (AX (WC.block (AZ (F rfl rfl (F rfl rfl (F rfl rfl (BQ (.int .i64 3) rfl rfl rfl ?_))))))))
   obtain ⟨c21, hc22⟩ : ∃ c, (s)[3]? = some c := ⟨_, List.getElem?_eq_getElem (show 3 < (s).length by first | omega | (simp only [U, X, G, J, Y, D]; omega) | (simp only [U, X, G, J, Y, D] at *; omega))⟩
   refine F rfl (op_ixS 3 rfl rfl hc22) (F rfl rfl (F rfl rfl ?_))
   refine BX (M20.focus 0 rfl) [_] [_, _, _, _, _, _, _, _, _, _, _, _, _, _, _, _, _, _, _, _, _, _, _, _, _, _, _, _, _, _, _, _, _, _, _, _, _] rfl rfl rfl rfl rfl (C rfl) (C rfl) rfl rfl ?_
   intro h23 M24
   replace M24 : Mem _ _ ([(p8, _)] :: [(p1, _)] :: []) _ := M24
   refine AQ [(0, _), (2, _), (4, _), (5, _)] rfl ?_
   refine AZ (F rfl rfl (BQ (.int .i64 3) rfl rfl rfl (F rfl rfl (AQ [(0, _), (2, _), (4, _), (5, _)] rfl ?_))))
   refine WC.unroll [(0, _), (2, _), (4, _), (5, _)] rfl ?_
   refine AX (AX (AZ (F rfl rfl (BQ (.bool true) rfl rfl rfl (AQ [(0, _), (2, _), (4, _), (5, _), (18, _)] rfl ?_)))))
   refine WC.condT rfl (WC.skip (AX (WC.block (AZ (F rfl rfl (F rfl rfl (F rfl rfl (BQ (.int .i64 4) rfl rfl rfl ?_))))))))
   obtain ⟨c25, hc26⟩ : ∃ c, (s)[4]? = some c := ⟨_, List.getElem?_eq_getElem (show 4 < (s).length by first | omega | (simp only [U, X, G, J, Y, D]; omega) | (simp only [U, X, G, J, Y, D] at *; omega))⟩
   refine F rfl (op_ixS 4 rfl rfl hc26) (F rfl rfl (F rfl rfl ?_))
   refine BX (M24.focus 0 rfl) [_] [_, _, _, _, _, _, _, _, _, _, _, _, _, _, _, _, _, _, _, _, _, _, _, _, _, _, _, _, _, _, _, _, _, _, _, _, _] rfl rfl rfl rfl rfl (C rfl) (C rfl) rfl rfl ?_
   intro h27 M28
   replace M28 : Mem _ _ ([(p8, _)] :: [(p1, _)] :: []) _ := M28
   refine AQ [(0, _), (2, _), (4, _), (5, _)] rfl ?_
   refine AZ (F rfl rfl (BQ (.int .i64 4) rfl rfl rfl (F rfl rfl (AQ [(0, _), (2, _), (4, _), (5, _)] rfl ?_))))
   refine WC.unroll [(0, _), (2, _), (4, _), (5, _)] rfl ?_
   refine AX (AX (AZ (F rfl rfl (BQ (.bool true) rfl rfl rfl (AQ [(0, _), (2, _), (4, _), (5, _), (18, _)] rfl ?_)))))
   refine WC.condT rfl (WC.skip (AX (WC.block (AZ (F rfl rfl (F rfl rfl (F rfl rfl (BQ (.int .i64 5) rfl rfl rfl ?_))))))))
   obtain ⟨c29, hc30⟩ : ∃ c, (s)[5]? = some c := ⟨_, List.getElem?_eq_getElem (show 5 < (s).length by first | omega | (simp only [U, X, G, J, Y, D]; omega) | (simp only [U, X, G, J, Y, D] at *; omega))⟩
   refine F rfl (op_ixS 5 rfl rfl hc30) (F rfl rfl (F rfl rfl ?_))
   refine BX (M28.focus 0 rfl) [_] [_, _, _, _, _, _, _, _, _, _, _, _, _, _, _, _, _, _, _, _, _, _, _, _, _, _, _, _, _, _, _, _, _, _, _, _, _] rfl rfl rfl rfl rfl (C rfl) (C rfl) rfl rfl ?_
   intro h31 M32
   replace M32 : Mem _ _ ([(p8, _)] :: [(p1, _)] :: []) _ := M32
   refine AQ [(0, _), (2, _), (4, _), (5, _)] rfl ?_
   refine AZ (F rfl rfl (BQ (.int .i64 5) rfl rfl rfl (F rfl rfl (AQ [(0, _), (2, _), (4, _), (5, _)] rfl ?_))))
   refine WC.unroll [(0, _), (2, _), (4, _), (5, _)] rfl ?_
   refine AX (AX (AZ (F rfl rfl (BQ (.bool true) rfl rfl rfl (AQ [(0, _), (2, _), (4, _), (5, _), (18, _)] rfl ?_)))))
   refine WC.condT rfl (WC.skip (AX (WC.block (AZ (F rfl rfl (F rfl rfl (F rfl rfl (BQ (.int .i64 6) rfl rfl rfl ?_))))))))
   obtain ⟨c33, hc34⟩ : ∃ c, (s)[6]? = some c := ⟨_, List.getElem?_eq_getElem (show 6 < (s).length by first | omega | (simp only [U, X, G, J, Y, D]; omega) | (simp only [U, X, G, J, Y, D] at *; omega))⟩
   refine F rfl (op_ixS 6 rfl rfl hc34) (F rfl rfl (F rfl rfl ?_))
   refine BX (M32.focus 0 rfl) [_] [_, _, _, _, _, _, _, _, _, _, _, _, _, _, _, _, _, _, _, _, _, _, _, _, _, _, _, _, _, _, _, _, _, _, _, _, _] rfl rfl rfl rfl rfl (C rfl) (C rfl) rfl rfl ?_
   intro h35 M36
   replace M36 : Mem _ _ ([(p8, _)] :: [(p1, _)] :: []) _ := M36
   refine AQ [(0, _), (2, _), (4, _), (5, _)] rfl ?_
   refine AZ (F rfl rfl (BQ (.int .i64 6) rfl rfl rfl (F rfl rfl (AQ [(0, _), (2, _), (4, _), (5, _)] rfl ?_))))
   refine WC.unroll [(0, _), (2, _), (4, _), (5, _)] rfl ?_
   refine AX (AX (AZ (F rfl rfl (BQ (.bool true) rfl rfl rfl (AQ [(0, _), (2, _), (4, _), (5, _), (18, _)] rfl ?_)))))
   refine WC.condT rfl (WC.skip (AX (WC.block (AZ (F rfl rfl (F rfl rfl (F rfl rfl (BQ (.int .i64 7) rfl rfl rfl ?_))))))))
   obtain ⟨c37, hc38⟩ : ∃ c, (s)[7]? = some c := ⟨_, List.getElem?_eq_getElem (show 7 < (s).length by first | omega | (simp only [U, X, G, J, Y, D]; omega) | (simp only [U, X, G, J, Y, D] at *; omega))⟩
   refine F rfl (op_ixS 7 rfl rfl hc38) (F rfl rfl (F rfl rfl ?_))
   refine BX (M36.focus 0 rfl) [_] [_, _, _, _, _, _, _, _, _, _, _, _, _, _, _, _, _, _, _, _, _, _, _, _, _, _, _, _, _, _, _, _, _, _, _, _, _] rfl rfl rfl rfl rfl (C rfl) (C rfl) rfl rfl ?_
   intro h39 M40
   replace M40 : Mem _ _ ([(p8, _)] :: [(p1, _)] :: []) _ := M40
   refine AQ [(0, _), (2, _), (4, _), (5, _)] rfl ?_
   refine AZ (F rfl rfl (BQ (.int .i64 7) rfl rfl rfl (F rfl rfl (AQ [(0, _), (2, _), (4, _), (5, _)] rfl ?_))))
   refine WC.unroll [(0, _), (2, _), (4, _), (5, _)] rfl ?_
   refine AX (AX (AZ (F rfl rfl (BQ (.bool true) rfl rfl rfl (AQ [(0, _), (2, _), (4, _), (5, _), (18, _)] rfl ?_)))))
   refine WC.condT rfl (WC.skip (AX (WC.block (AZ (F rfl rfl (F rfl rfl (F rfl rfl (BQ (.int .i64 8) rfl rfl rfl ?_))))))))
   obtain ⟨c41, hc42⟩ : ∃ c, (s)[8]? = some c := ⟨_, List.getElem?_eq_getElem (show 8 < (s).length by first | omega | (simp only [U, X, G, J, Y, D]; omega) | (simp only [U, X, G, J, Y, D] at *; omega))⟩
   refine F rfl (op_ixS 8 rfl rfl hc42) (F rfl rfl (F rfl rfl ?_))
   refine BX (M40.focus 0 rfl) [_] [_, _, _, _, _, _, _, _, _, _, _, _, _, _, _, _, _, _, _, _, _, _, _, _, _, _, _, _, _, _, _, _, _, _, _, _, _] rfl rfl rfl rfl rfl (C rfl) (C rfl) rfl rfl ?_
   intro h43 M44
   replace M44 : Mem _ _ ([(p8, _)] :: [(p1, _)] :: []) _ := M44
   refine AQ [(0, _), (2, _), (4, _), (5, _)] rfl ?_
   refine AZ (F rfl rfl (BQ (.int .i64 8) rfl rfl rfl (F rfl rfl (AQ [(0, _), (2, _), (4, _), (5, _)] rfl ?_))))
   refine WC.unroll [(0, _), (2, _), (4, _), (5, _)] rfl ?_
   refine AX (AX (AZ (F rfl rfl (BQ (.bool false) rfl rfl rfl (AQ [(0, _), (2, _), (4, _), (5, _), (18, _)] rfl ?_)))))
   refine WC.condF rfl (WC.exit ?_)
   refine AX (AX (AZ (F rfl rfl (F rfl (op_ld (M44.at 0 rfl) rfl rfl) ?_))))
   refine WS.eqlN (a := (c6).toNat) (b := 1) rfl rfl rfl (fun e30 => ?_) (fun e30 => ?_)
   ·
    refine AQ [(0, _), (2, _), (4, _), (30, _)] rfl ?_
    refine WC.condT rfl (AX (AZ (F rfl rfl (F rfl (op_slS0 (l := s) 9 rfl rfl (by first | omega | (simp only [U, X, G, J, Y, D]; omega) | (simp only [U, X, G, J, Y, D] at *; omega))) ?_))))
    refine WS.call rfl rfl rfl (refRead_ran M44.here (s := ((s).drop 9)) (by first | omega | (simp only [U, X, G, J, Y, D]; omega) | (simp only [U, X, G, J, Y, D] at *; omega))) ?_
    rintro _ h45 ⟨c34, V48, S49, ok34, O50, rfl, hF34, hC34, N46⟩
    obtain ⟨P51, rfl⟩ := O50.shape
    have M47 := M44.trans N46
    replace M47 : Mem _ _ (S49 :: [(p8, _)] :: [(p1, _)] :: []) _ := M47
    refine F rfl rfl (F rfl rfl (F rfl rfl ?_))
    refine WS.new M47 rfl ?_
    intro p52 h53 M54
    refine BX (M54.focus 0 rfl) [_, _, _, _, _, _, _, _, _, _, _, _] [_, _, _, _, _, _, _, _, _, _, _, _] rfl rfl rfl rfl rfl (C rfl) (C rfl) rfl rfl ?_
    intro h55 M56
    replace M56 : Mem _ _ ([(p52, _)] :: S49 :: [(p8, _)] :: [(p1, _)] :: []) _ := M56
    refine F rfl rfl (AQ [(0, _), (2, _), (4, _), (6, _), (7, _)] rfl ?_)
    refine AX (AZ (F rfl rfl (AQ [(0, _), (2, _), (4, _), (6, _), (37, _)] rfl ?_)))
    cases hb1 : ok34
    ·
     refine WC.condF rfl (WC.skip (AX (AX (AZ (F rfl rfl (F rfl (op_ld (M56.at 2 rfl) rfl rfl) ?_))))))
     refine WS.eqlN (a := (c6).toNat) (b := 2) rfl rfl rfl (fun e43 => ?_) (fun e43 => ?_)
     ·
      refine AQ [(0, _), (2, _), (4, _), (43, _)] rfl ?_
      refine WC.condT rfl (AX (AZ (F rfl rfl (F rfl (op_slS0 (l := s) 9 rfl rfl (by first | omega | (simp only [U, X, G, J, Y, D]; omega) | (simp only [U, X, G, J, Y, D] at *; omega))) ?_))))
      refine WS.call rfl rfl rfl (refReadO_ran M56.here (s := ((s).drop 9)) (by first | omega | (simp only [U, X, G, J, Y, D]; omega) | (simp only [U, X, G, J, Y, D] at *; omega))) ?_
      rintro _ h57 ⟨o47, ok47, rfl, hC47, N58⟩
      have M59 := M56.trans N58
      refine F rfl rfl (F rfl rfl (F rfl rfl ?_))
      refine WS.new M59 rfl ?_
      intro p60 h61 M62
      refine BX (M62.focus 0 rfl) [_, _, _, _, _, _, _, _, _, _, _, _, _, _, _, _] [_, _, _, _, _, _, _, _, _, _, _, _, _, _, _, _] rfl rfl rfl rfl rfl (C rfl) (C rfl) rfl rfl ?_
      intro h63 M64
      replace M64 : Mem _ _ ([(p60, _)] :: [(p52, _)] :: S49 :: [(p8, _)] :: [(p1, _)] :: []) _ := M64
      refine F rfl rfl (AQ [(2, _), (4, _), (8, _), (9, _)] rfl ?_)
      refine AX (AZ (F rfl rfl (AQ [(2, _), (4, _), (8, _), (50, _)] rfl ?_)))
      cases hb2 : ok47
      ·
       refine WC.condF rfl (WC.skip (AX (AZ (BQ (.agg #[(.int .u8 (0 : Int)), (.int .u8 (0 : Int)), (.int .u8 (0 : Int)), (.int .u8 (0 : Int)), (.int .u8 (0 : Int)), (.int .u8 (0 : Int)), (.int .u8 (0 : Int)), (.int .u8 (0 : Int)), (.int .u8 (0 : Int)), (.int .u8 (0 : Int)), (.int .u64 (0 : Int)), (.int .u64 (0 : Int)), (.string (bs ([]))), (.string (bs ([]))), (.string (bs ([]))), (.string (bs ([]))), (.string (bs ([]))), (.int .u8 (0 : Int)), (.int .u64 (0 : Int)), (.int .u64 (0 : Int)), (.slice none 0 0), (.int .u8 (0 : Int)), (.int .u8 (0 : Int)), (.int .u8 (0 : Int)), (.int .u8 (0 : Int)), (.int .u8 (0 : Int)), (.int .u8 (0 : Int)), (.int .u8 (0 : Int)), (.int .u8 (0 : Int)), (.int .u8 (0 : Int)), (.int .u8 (0 : Int)), (.int .u8 (0 : Int)), (.int .i64 (0 : Int)), (.int .i64 (0 : Int)), (.int .i64 (0 : Int)), (.int .i64 (0 : Int)), (.int .u8 (0 : Int))]) rfl rfl rfl ?_))))
       refine BX (M64.focus 4 rfl) [_, _, _, _, _, _, _, _, _, _, _, _, _, _, _, _, _, _, _, _, _, _, _, _, _, _, _, _, _, _, _, _, _, _, _, _, _] [_, _, _, _, _, _, _, _, _, _, _, _, _, _, _, _, _, _, _, _, _, _, _, _, _, _, _, _, _, _, _, _, _, _, _, _, _] rfl rfl rfl rfl rfl (C rfl) (C rfl) rfl rfl ?_
       intro h65 M66
       replace M66 : Mem _ _ ([(p1, _)] :: [(p60, _)] :: [(p52, _)] :: S49 :: [(p8, _)] :: []) _ := M66
       refine F rfl rfl (AQ [(2, _), (3, _)] rfl ?_)
       refine WC.ret (⟨[_, _], (res_cellN [_, _, _, _, _, _, _, _, _, _, _, _, _, _, _, _, _, _, _, _, _, _, _, _, _, _, _, _, _, _, _, _, _, _, _, _, _] rfl (M66.at 0 rfl) (C rfl) rfl (res_tmp rfl res_nil)), ?_⟩)
       have hno : ∀ f0, GoodF f0 → encF f0 ≠ s := by
         first
         | exact noF_short (by omega)
         | exact noF_1 hc7 (by omega) (by rw [show ok34 = false by assumption] at hC34; exact hC34)
         | exact noF_2 hc7 (by omega) (by rw [show ok47 = false by assumption] at hC47; exact hC47)
         | exact noF_0 hc7 (by omega) (by omega)
       exact ⟨zeroF, .slice none 0 0, [], false, .nil, rfl, fit0, rdF_no hno, (M66.bare.take 0).nils⟩
      ·
       refine WC.condT rfl (AX (AZ (F rfl (op_lds [_, _, _, _, _, _, _, _, _, _, _, _, _, _, _, _] (M64.at 0 rfl) rfl (C rfl) rfl) (F rfl rfl ?_))))
       refine BX (M64.focus 3 rfl) [_, _, _, _, _, _, _, _, _, _, _, _, _, _, _, _] [_, _, _, _, _, _, _, _, _, _, _, _, _, _, _, _, _, _, _, _, _, _, _, _, _, _, _, _, _, _, _, _, _, _, _, _, _] rfl rfl rfl rfl rfl (C rfl) (C rfl) rfl rfl ?_
       intro h67 M68
       replace M68 : Mem _ _ ([(p8, _)] :: [(p60, _)] :: [(p52, _)] :: S49 :: [(p1, _)] :: []) _ := M68
       refine AQ [(2, _), (4, _)] rfl ?_
       refine AX (AZ (F rfl (op_lds [_, _, _, _, _, _, _, _, _, _, _, _, _, _, _, _, _, _, _, _, _, _, _, _, _, _, _, _, _, _, _, _, _, _, _, _, _] (M68.at 0 rfl) rfl (C rfl) rfl) ?_))
       refine BX (M68.focus 4 rfl) [_, _, _, _, _, _, _, _, _, _, _, _, _, _, _, _, _, _, _, _, _, _, _, _, _, _, _, _, _, _, _, _, _, _, _, _, _] [_, _, _, _, _, _, _, _, _, _, _, _, _, _, _, _, _, _, _, _, _, _, _, _, _, _, _, _, _, _, _, _, _, _, _, _, _] rfl rfl rfl rfl rfl (C rfl) (C rfl) rfl rfl ?_
       intro h69 M70
       replace M70 : Mem _ _ ([(p1, _)] :: [(p8, _)] :: [(p60, _)] :: [(p52, _)] :: S49 :: []) _ := M70
       refine F rfl rfl (AQ [(2, _), (3, _)] rfl ?_)
       refine WC.ret (⟨[_, _], (res_cellN [_, _, _, _, _, _, _, _, _, _, _, _, _, _, _, _, _, _, _, _, _, _, _, _, _, _, _, _, _, _, _, _, _, _, _, _, _] rfl (M70.at 0 rfl) (C rfl) rfl (res_tmp rfl res_nil)), ?_⟩)
       obtain ⟨g1, g2⟩ := hC47.1 (by assumption)
       have hh : s = [c6, c13, c17, c21, c25, c29, c33, c37, c41] ++ s.drop 9 := hd9_ix hc7 hc14 hc18 hc22 hc26 hc30 hc34 hc38 hc42
       have henc : encF (⟨c6, c13, c17, c21, c25, c29, c33, c37, c41, (⟨0, 0, 0, ([]), ([]), ([]), ([]), ([]), 0, 0, 0, []⟩ : Cmd), o47⟩ : Frm) = s := by
         unfold encF
         rw [tailF_2 (by dsimp only; omega)]
         dsimp only
         rw [g2]
         exact hh.symm
       exact ⟨(⟨c6, c13, c17, c21, c25, c29, c33, c37, c41, (⟨0, 0, 0, ([]), ([]), ([]), ([]), ([]), 0, 0, 0, []⟩ : Cmd), o47⟩ : Frm), _, _, true, .nil, rfl, fit0, rdF_yes ⟨.inr ⟨by dsimp only; omega, rfl, g1⟩, fit0⟩ henc, (M70.bare.take 0).nils⟩
     ·
      refine AQ [(0, _), (2, _), (4, _), (43, _)] rfl ?_
      refine WC.condF rfl (WC.skip (AX (AZ (BQ (.agg #[(.int .u8 (0 : Int)), (.int .u8 (0 : Int)), (.int .u8 (0 : Int)), (.int .u8 (0 : Int)), (.int .u8 (0 : Int)), (.int .u8 (0 : Int)), (.int .u8 (0 : Int)), (.int .u8 (0 : Int)), (.int .u8 (0 : Int)), (.int .u8 (0 : Int)), (.int .u64 (0 : Int)), (.int .u64 (0 : Int)), (.string (bs ([]))), (.string (bs ([]))), (.string (bs ([]))), (.string (bs ([]))), (.string (bs ([]))), (.int .u8 (0 : Int)), (.int .u64 (0 : Int)), (.int .u64 (0 : Int)), (.slice none 0 0), (.int .u8 (0 : Int)), (.int .u8 (0 : Int)), (.int .u8 (0 : Int)), (.int .u8 (0 : Int)), (.int .u8 (0 : Int)), (.int .u8 (0 : Int)), (.int .u8 (0 : Int)), (.int .u8 (0 : Int)), (.int .u8 (0 : Int)), (.int .u8 (0 : Int)), (.int .u8 (0 : Int)), (.int .i64 (0 : Int)), (.int .i64 (0 : Int)), (.int .i64 (0 : Int)), (.int .i64 (0 : Int)), (.int .u8 (0 : Int))]) rfl rfl rfl ?_))))
      refine BX (M56.focus 3 rfl) [_, _, _, _, _, _, _, _, _, _, _, _, _, _, _, _, _, _, _, _, _, _, _, _, _, _, _, _, _, _, _, _, _, _, _, _, _] [_, _, _, _, _, _, _, _, _, _, _, _, _, _, _, _, _, _, _, _, _, _, _, _, _, _, _, _, _, _, _, _, _, _, _, _, _] rfl rfl rfl rfl rfl (C rfl) (C rfl) rfl rfl ?_
      intro h71 M72
      replace M72 : Mem _ _ ([(p1, _)] :: [(p52, _)] :: S49 :: [(p8, _)] :: []) _ := M72
      refine F rfl rfl (AQ [(2, _), (3, _)] rfl ?_)
      refine WC.ret (⟨[_, _], (res_cellN [_, _, _, _, _, _, _, _, _, _, _, _, _, _, _, _, _, _, _, _, _, _, _, _, _, _, _, _, _, _, _, _, _, _, _, _, _] rfl (M72.at 0 rfl) (C rfl) rfl (res_tmp rfl res_nil)), ?_⟩)
      have hno : ∀ f0, GoodF f0 → encF f0 ≠ s := by
        first
        | exact noF_short (by omega)
        | exact noF_1 hc7 (by omega) (by rw [show ok34 = false by assumption] at hC34; exact hC34)
        | exact noF_2 hc7 (by omega) (by rw [show ok47 = false by assumption] at hC47; exact hC47)
        | exact noF_0 hc7 (by omega) (by omega)
      exact ⟨zeroF, .slice none 0 0, [], false, .nil, rfl, fit0, rdF_no hno, (M72.bare.take 0).nils⟩
    ·
     refine WC.condT rfl (AX (AZ (F rfl (op_lds [_, _, _, _, _, _, _, _, _, _, _, _] (M56.at 0 rfl) rfl (C rfl) rfl) (F rfl rfl ?_))))
     refine BX (M56.focus 2 rfl) [_, _, _, _, _, _, _, _, _, _, _, _] [_, _, _, _, _, _, _, _, _, _, _, _, _, _, _, _, _, _, _, _, _, _, _, _, _, _, _, _, _, _, _, _, _, _, _, _, _] rfl rfl rfl rfl rfl (C rfl) (C rfl) rfl rfl ?_
     intro h73 M74
     replace M74 : Mem _ _ ([(p8, _)] :: [(p52, _)] :: S49 :: [(p1, _)] :: []) _ := M74
     refine AQ [(2, _), (4, _)] rfl ?_
     refine AX (AZ (F rfl (op_lds [_, _, _, _, _, _, _, _, _, _, _, _, _, _, _, _, _, _, _, _, _, _, _, _, _, _, _, _, _, _, _, _, _, _, _, _, _] (M74.at 0 rfl) rfl (C rfl) rfl) ?_))
     refine BX (M74.focus 3 rfl) [_, _, _, _, _, _, _, _, _, _, _, _, _, _, _, _, _, _, _, _, _, _, _, _, _, _, _, _, _, _, _, _, _, _, _, _, _] [_, _, _, _, _, _, _, _, _, _, _, _, _, _, _, _, _, _, _, _, _, _, _, _, _, _, _, _, _, _, _, _, _, _, _, _, _] rfl rfl rfl rfl rfl (C rfl) (C rfl) rfl rfl ?_
     intro h75 M76
     replace M76 : Mem _ _ ([(p1, _)] :: [(p8, _)] :: [(p52, _)] :: S49 :: []) _ := M76
     refine F rfl rfl (AQ [(2, _), (3, _)] rfl ?_)
     refine WC.ret (⟨[_, _], (res_cellN [_, _, _, _, _, _, _, _, _, _, _, _, _, _, _, _, _, _, _, _, _, _, _, _, _, _, _, _, _, _, _, _, _, _, _, _, _] rfl (M76.at 0 rfl) (C rfl) rfl (res_tmp rfl res_nil)), ?_⟩)
     obtain ⟨g1, g2⟩ := hC34.1 (by assumption)
     have hh : s = [c6, c13, c17, c21, c25, c29, c33, c37, c41] ++ s.drop 9 := hd9_ix hc7 hc14 hc18 hc22 hc26 hc30 hc34 hc38 hc42
     have henc : encF (⟨c6, c13, c17, c21, c25, c29, c33, c37, c41, c34, (⟨0, 0, 0, 0, 0, 0, 0, 0, 0, 0, 0, 0, 0, 0, 0, 0⟩ : Oper)⟩ : Frm) = s := by
       unfold encF
       rw [tailF_1 (by dsimp only; omega)]
       dsimp only
       rw [g2]
       exact hh.symm
     exact ⟨(⟨c6, c13, c17, c21, c25, c29, c33, c37, c41, c34, (⟨0, 0, 0, 0, 0, 0, 0, 0, 0, 0, 0, 0, 0, 0, 0, 0⟩ : Oper)⟩ : Frm), _, _, true, O50, rfl, hF34, rdF_yes ⟨.inl ⟨by dsimp only; omega, rfl, g1⟩, hF34⟩ henc, ((M76.bare.focus 3 rfl).take 1)⟩
   ·
    refine AQ [(0, _), (2, _), (4, _), (30, _)] rfl ?_
    refine WC.condF rfl (WC.skip (AX (AX (AZ (F rfl rfl (F rfl (op_ld (M44.at 0 rfl) rfl rfl) ?_))))))
    refine WS.eqlN (a := (c6).toNat) (b := 2) rfl rfl rfl (fun e43 => ?_) (fun e43 => ?_)
    ·
     refine AQ [(0, _), (2, _), (4, _), (43, _)] rfl ?_
     refine WC.condT rfl (AX (AZ (F rfl rfl (F rfl (op_slS0 (l := s) 9 rfl rfl (by first | omega | (simp only [U, X, G, J, Y, D]; omega) | (simp only [U, X, G, J, Y, D] at *; omega))) ?_))))
     refine WS.call rfl rfl rfl (refReadO_ran M44.here (s := ((s).drop 9)) (by first | omega | (simp only [U, X, G, J, Y, D]; omega) | (simp only [U, X, G, J, Y, D] at *; omega))) ?_
     rintro _ h77 ⟨o47, ok47, rfl, hC47, N78⟩
     have M79 := M44.trans N78
     refine F rfl rfl (F rfl rfl (F rfl rfl ?_))
     refine WS.new M79 rfl ?_
     intro p80 h81 M82
     refine BX (M82.focus 0 rfl) [_, _, _, _, _, _, _, _, _, _, _, _, _, _, _, _] [_, _, _, _, _, _, _, _, _, _, _, _, _, _, _, _] rfl rfl rfl rfl rfl (C rfl) (C rfl) rfl rfl ?_
     intro h83 M84
     replace M84 : Mem _ _ ([(p80, _)] :: [(p8, _)] :: [(p1, _)] :: []) _ := M84
     refine F rfl rfl (AQ [(2, _), (4, _), (8, _), (9, _)] rfl ?_)
     refine AX (AZ (F rfl rfl (AQ [(2, _), (4, _), (8, _), (50, _)] rfl ?_)))
     cases hb2 : ok47
     ·
      refine WC.condF rfl (WC.skip (AX (AZ (BQ (.agg #[(.int .u8 (0 : Int)), (.int .u8 (0 : Int)), (.int .u8 (0 : Int)), (.int .u8 (0 : Int)), (.int .u8 (0 : Int)), (.int .u8 (0 : Int)), (.int .u8 (0 : Int)), (.int .u8 (0 : Int)), (.int .u8 (0 : Int)), (.int .u8 (0 : Int)), (.int .u64 (0 : Int)), (.int .u64 (0 : Int)), (.string (bs ([]))), (.string (bs ([]))), (.string (bs ([]))), (.string (bs ([]))), (.string (bs ([]))), (.int .u8 (0 : Int)), (.int .u64 (0 : Int)), (.int .u64 (0 : Int)), (.slice none 0 0), (.int .u8 (0 : Int)), (.int .u8 (0 : Int)), (.int .u8 (0 : Int)), (.int .u8 (0 : Int)), (.int .u8 (0 : Int)), (.int .u8 (0 : Int)), (.int .u8 (0 : Int)), (.int .u8 (0 : Int)), (.int .u8 (0 : Int)), (.int .u8 (0 : Int)), (.int .u8 (0 : Int)), (.int .i64 (0 : Int)), (.int .i64 (0 : Int)), (.int .i64 (0 : Int)), (.int .i64 (0 : Int)), (.int .u8 (0 : Int))]) rfl rfl rfl ?_))))
      refine BX (M84.focus 2 rfl) [_, _, _, _, _, _, _, _, _, _, _, _, _, _, _, _, _, _, _, _, _, _, _, _, _, _, _, _, _, _, _, _, _, _, _, _, _] [_, _, _, _, _, _, _, _, _, _, _, _, _, _, _, _, _, _, _, _, _, _, _, _, _, _, _, _, _, _, _, _, _, _, _, _, _] rfl rfl rfl rfl rfl (C rfl) (C rfl) rfl rfl ?_
      intro h85 M86
      replace M86 : Mem _ _ ([(p1, _)] :: [(p80, _)] :: [(p8, _)] :: []) _ := M86
      refine F rfl rfl (AQ [(2, _), (3, _)] rfl ?_)
      refine WC.ret (⟨[_, _], (res_cellN [_, _, _, _, _, _, _, _, _, _, _, _, _, _, _, _, _, _, _, _, _, _, _, _, _, _, _, _, _, _, _, _, _, _, _, _, _] rfl (M86.at 0 rfl) (C rfl) rfl (res_tmp rfl res_nil)), ?_⟩)
      have hno : ∀ f0, GoodF f0 → encF f0 ≠ s := by
        first
        | exact noF_short (by omega)
        | exact noF_1 hc7 (by omega) (by rw [show ok34 = false by assumption] at hC34; exact hC34)
        | exact noF_2 hc7 (by omega) (by rw [show ok47 = false by assumption] at hC47; exact hC47)
        | exact noF_0 hc7 (by omega) (by omega)
      exact ⟨zeroF, .slice none 0 0, [], false, .nil, rfl, fit0, rdF_no hno, (M86.bare.take 0).nils⟩
     ·
      refine WC.condT rfl (AX (AZ (F rfl (op_lds [_, _, _, _, _, _, _, _, _, _, _, _, _, _, _, _] (M84.at 0 rfl) rfl (C rfl) rfl) (F rfl rfl ?_))))
      refine BX (M84.focus 1 rfl) [_, _, _, _, _, _, _, _, _, _, _, _, _, _, _, _] [_, _, _, _, _, _, _, _, _, _, _, _, _, _, _, _, _, _, _, _, _, _, _, _, _, _, _, _, _, _, _, _, _, _, _, _, _] rfl rfl rfl rfl rfl (C rfl) (C rfl) rfl rfl ?_
      intro h87 M88
      replace M88 : Mem _ _ ([(p8, _)] :: [(p80, _)] :: [(p1, _)] :: []) _ := M88
      refine AQ [(2, _), (4, _)] rfl ?_
      refine AX (AZ (F rfl (op_lds [_, _, _, _, _, _, _, _, _, _, _, _, _, _, _, _, _, _, _, _, _, _, _, _, _, _, _, _, _, _, _, _, _, _, _, _, _] (M88.at 0 rfl) rfl (C rfl) rfl) ?_))
      refine BX (M88.focus 2 rfl) [_, _, _, _, _, _, _, _, _, _, _, _, _, _, _, _, _, _, _, _, _, _, _, _, _, _, _, _, _, _, _, _, _, _, _, _, _] [_, _, _, _, _, _, _, _, _, _, _, _, _, _, _, _, _, _, _, _, _, _, _, _, _, _, _, _, _, _, _, _, _, _, _, _, _] rfl rfl rfl rfl rfl (C rfl) (C rfl) rfl rfl ?_
      intro h89 M90
      replace M90 : Mem _ _ ([(p1, _)] :: [(p8, _)] :: [(p80, _)] :: []) _ := M90
      refine F rfl rfl (AQ [(2, _), (3, _)] rfl ?_)
      refine WC.ret (⟨[_, _], (res_cellN [_, _, _, _, _, _, _, _, _, _, _, _, _, _, _, _, _, _, _, _, _, _, _, _, _, _, _, _, _, _, _, _, _, _, _, _, _] rfl (M90.at 0 rfl) (C rfl) rfl (res_tmp rfl res_nil)), ?_⟩)
      obtain ⟨g1, g2⟩ := hC47.1 (by assumption)
      have hh : s = [c6, c13, c17, c21, c25, c29, c33, c37, c41] ++ s.drop 9 := hd9_ix hc7 hc14 hc18 hc22 hc26 hc30 hc34 hc38 hc42
      have henc : encF (⟨c6, c13, c17, c21, c25, c29, c33, c37, c41, (⟨0, 0, 0, ([]), ([]), ([]), ([]), ([]), 0, 0, 0, []⟩ : Cmd), o47⟩ : Frm) = s := by
        unfold encF
        rw [tailF_2 (by dsimp only; omega)]
        dsimp only
        rw [g2]
        exact hh.symm
      exact ⟨(⟨c6, c13, c17, c21, c25, c29, c33, c37, c41, (⟨0, 0, 0, ([]), ([]), ([]), ([]), ([]), 0, 0, 0, []⟩ : Cmd), o47⟩ : Frm), _, _, true, .nil, rfl, fit0, rdF_yes ⟨.inr ⟨by dsimp only; omega, rfl, g1⟩, fit0⟩ henc, (M90.bare.take 0).nils⟩
    ·
     refine AQ [(0, _), (2, _), (4, _), (43, _)] rfl ?_
     refine WC.condF rfl (WC.skip (AX (AZ (BQ (.agg #[(.int .u8 (0 : Int)), (.int .u8 (0 : Int)), (.int .u8 (0 : Int)), (.int .u8 (0 : Int)), (.int .u8 (0 : Int)), (.int .u8 (0 : Int)), (.int .u8 (0 : Int)), (.int .u8 (0 : Int)), (.int .u8 (0 : Int)), (.int .u8 (0 : Int)), (.int .u64 (0 : Int)), (.int .u64 (0 : Int)), (.string (bs ([]))), (.string (bs ([]))), (.string (bs ([]))), (.string (bs ([]))), (.string (bs ([]))), (.int .u8 (0 : Int)), (.int .u64 (0 : Int)), (.int .u64 (0 : Int)), (.slice none 0 0), (.int .u8 (0 : Int)), (.int .u8 (0 : Int)), (.int .u8 (0 : Int)), (.int .u8 (0 : Int)), (.int .u8 (0 : Int)), (.int .u8 (0 : Int)), (.int .u8 (0 : Int)), (.int .u8 (0 : Int)), (.int .u8 (0 : Int)), (.int .u8 (0 : Int)), (.int .u8 (0 : Int)), (.int .i64 (0 : Int)), (.int .i64 (0 : Int)), (.int .i64 (0 : Int)), (.int .i64 (0 : Int)), (.int .u8 (0 : Int))]) rfl rfl rfl ?_))))
     refine BX (M44.focus 1 rfl) [_, _, _, _, _, _, _, _, _, _, _, _, _, _, _, _, _, _, _, _, _, _, _, _, _, _, _, _, _, _, _, _, _, _, _, _, _] [_, _, _, _, _, _, _, _, _, _, _, _, _, _, _, _, _, _, _, _, _, _, _, _, _, _, _, _, _, _, _, _, _, _, _, _, _] rfl rfl rfl rfl rfl (C rfl) (C rfl) rfl rfl ?_
     intro h91 M92
     replace M92 : Mem _ _ ([(p1, _)] :: [(p8, _)] :: []) _ := M92
     refine F rfl rfl (AQ [(2, _), (3, _)] rfl ?_)
     refine WC.ret (⟨[_, _], (res_cellN [_, _, _, _, _, _, _, _, _, _, _, _, _, _, _, _, _, _, _, _, _, _, _, _, _, _, _, _, _, _, _, _, _, _, _, _, _] rfl (M92.at 0 rfl) (C rfl) rfl (res_tmp rfl res_nil)), ?_⟩)
     have hno : ∀ f0, GoodF f0 → encF f0 ≠ s := by
       first
       | exact noF_short (by omega)
       | exact noF_1 hc7 (by omega) (by rw [show ok34 = false by assumption] at hC34; exact hC34)
       | exact noF_2 hc7 (by omega) (by rw [show ok47 = false by assumption] at hC47; exact hC47)
       | exact noF_0 hc7 (by omega) (by omega)
     exact ⟨zeroF, .slice none 0 0, [], false, .nil, rfl, fit0, rdF_no hno, (M92.bare.take 0).nils⟩
set_option maxRecDepth 8000 in
theorem SameF_ran (W : Mem h h [] []) {a b : Frm} {V V2 : Value} (A : KPart.Sl h V a.c.ps) (B : KPart.Sl h V2 b.c.ps) (hl : a.c.ps.length ≤ 1000000) : Cll tab0 22 [a.val V, b.val V2] h (fun v h2 => v = .bool (decide (a = b)) ∧ Mem h h2 [] []) := by
  obtain ⟨P, n, rfl⟩ := A.shape
  obtain ⟨P2, n2, rfl⟩ := B.shape
  refine Cll.code rfl rfl ?_
  refine WC.env [(0, _), (1, _)] rfl ?_
  refine AX (AZ (WS.box W [_, _, _, _, _, _, _, _, _, _, _, _, _, _, _, _, _, _, _, _, _, _, _, _, _, _, _, _, _, _, _, _, _, _, _, _, _] rfl rfl rfl rfl ?_))
  intro p1 h2 M3
  refine WS.box M3 [_, _, _, _, _, _, _, _, _, _, _, _, _, _, _, _, _, _, _, _, _, _, _, _, _, _, _, _, _, _, _, _, _, _, _, _, _] rfl rfl rfl rfl ?_
  intro p4 h5 M6
  refine F rfl rfl (AQ [(2, _), (3, _)] rfl ?_)
  refine AX (AZ (F rfl rfl (F rfl (op_ld (M6.at 1 rfl) rfl rfl) (F rfl rfl (F rfl (op_ld (M6.at 0 rfl) rfl rfl) ?_)))))
  refine WS.eqlN (a := (a.kd).toNat) (b := (b.kd).toNat) rfl rfl rfl (fun e9 => ?_) (fun e9 => ?_)
  ·
   refine F rfl rfl (F rfl rfl (F rfl (op_lds [_, _, _, _, _, _, _, _] (M6.at 1 rfl) rfl (C rfl) rfl) (F rfl rfl (F rfl (op_lds [_, _, _, _, _, _, _, _] (M6.at 0 rfl) rfl (C rfl) rfl) ?_))))
   refine WS.eqqD (p := (a.t0).toNat = (b.t0).toNat ∧ (a.t1).toNat = (b.t1).toNat ∧ (a.t2).toNat = (b.t2).toNat ∧ (a.t3).toNat = (b.t3).toNat ∧ (a.t4).toNat = (b.t4).toNat ∧ (a.t5).toNat = (b.t5).toNat ∧ (a.t6).toNat = (b.t6).toNat ∧ (a.t7).toNat = (b.t7).toNat) rfl rfl rfl (by show some _ = _; simp only [int_beq, int_beq0, str_beq, bool_beq, Bool.decide_and, Bool.and_true]) (fun e15 => ?_) (fun e15 => ?_)
   ·
    refine F rfl rfl (F rfl rfl (F rfl rfl (F rfl (op_lds [_, _, _, _, _, _, _, _, _, _, _, _, _, _, _, _] (M6.at 1 rfl) rfl (C rfl) rfl) (F rfl rfl (F rfl (op_lds [_, _, _, _, _, _, _, _, _, _, _, _, _, _, _, _] (M6.at 0 rfl) rfl (C rfl) rfl) ?_)))))
    refine WS.eqqD (p := a.o = b.o) rfl rfl rfl (Oper_eqV _ _) (fun e22 => ?_) (fun e22 => ?_)
    ·
     refine F rfl rfl (F rfl rfl (F rfl rfl (F rfl (op_lds [_, _, _, _, _, _, _, _, _, _, _, _] (M6.at 1 rfl) rfl (C rfl) rfl) (F rfl rfl (F rfl (op_lds [_, _, _, _, _, _, _, _, _, _, _, _] (M6.at 0 rfl) rfl (C rfl) rfl) ?_)))))
     refine WS.call rfl rfl rfl (Same_ran M6.here (a := a.c) (b := b.c) (A.mono M6.sub) (B.mono M6.sub) (by omega)) ?_
     rintro _ h7 ⟨rfl, N8⟩
     have M9 := M6.trans N8
     refine F rfl rfl (F rfl rfl (AQ [(4, _)] rfl ?_))
     refine WC.ret ?_
     cases hb1 : (decide (a.c = b.c))
     ·
      refine ⟨[_], (res_tmp rfl res_nil), ?_⟩
      exact ⟨vbf (fun q => by first | exact absurd (by rw [q]) e9 | exact absurd (by rw [q]; simp) e15 | exact absurd (by rw [q]) e22 | exact absurd (by rw [q]) (of_decide_eq_false (p := a.c = b.c) (by assumption))), M9.bare.take 0⟩
     ·
      refine ⟨[_], (res_tmp rfl res_nil), ?_⟩
      obtain ⟨w0, w1, w2, w3, w4, w5, w6, w7⟩ := e15
      exact ⟨vbt (by have q := of_decide_eq_true (p := a.c = b.c) (by assumption); obtain ⟨⟩ := a; obtain ⟨⟩ := b; simp only at *; rw [u8_inj e9, u8_inj w0, u8_inj w1, u8_inj w2, u8_inj w3, u8_inj w4, u8_inj w5, u8_inj w6, u8_inj w7, q, e22]), M9.bare.take 0⟩
    ·
     refine F rfl rfl (F rfl rfl (WS.off rfl (WS.off rfl (WS.off rfl (WS.off rfl (WS.offC rfl (F rfl rfl (F rfl rfl (AQ [(4, _)] rfl ?_)))))))))
     refine WC.ret (⟨[_], (res_tmp rfl res_nil), ?_⟩)
     exact ⟨vbf (fun q => by first | exact absurd (by rw [q]) e9 | exact absurd (by rw [q]; simp) e15 | exact absurd (by rw [q]) e22 | exact absurd (by rw [q]) (of_decide_eq_false (p := a.c = b.c) (by assumption))), M6.bare.take 0⟩
   ·
    refine F rfl rfl (F rfl rfl (WS.off rfl (WS.off rfl (WS.off rfl (WS.off rfl (WS.off rfl (F rfl rfl (F rfl rfl (WS.off rfl ?_)))))))))
    refine WS.off rfl (WS.off rfl (WS.off rfl (WS.offC rfl (F rfl rfl (F rfl rfl (AQ [(4, _)] rfl ?_))))))
    refine WC.ret (⟨[_], (res_tmp rfl res_nil), ?_⟩)
    exact ⟨vbf (fun q => by first | exact absurd (by rw [q]) e9 | exact absurd (by rw [q]; simp) e15 | exact absurd (by rw [q]) e22 | exact absurd (by rw [q]) (of_decide_eq_false (p := a.c = b.c) (by assumption))), M6.bare.take 0⟩
  ·
   refine F rfl rfl (WS.off rfl (WS.off rfl (WS.off rfl (WS.off rfl (WS.off rfl (F rfl rfl (F rfl rfl (WS.off rfl (WS.off rfl ?_)))))))))
   refine WS.off rfl (WS.off rfl (WS.off rfl (F rfl rfl (F rfl rfl (WS.off rfl (WS.off rfl (WS.off rfl (WS.off rfl (WS.offC rfl ?_)))))))))
   refine F rfl rfl (F rfl rfl (AQ [(4, _)] rfl ?_))
   refine WC.ret (⟨[_], (res_tmp rfl res_nil), ?_⟩)
   exact ⟨vbf (fun q => by first | exact absurd (by rw [q]) e9 | exact absurd (by rw [q]; simp) e15 | exact absurd (by rw [q]) e22 | exact absurd (by rw [q]) (of_decide_eq_false (p := a.c = b.c) (by assumption))), M6.bare.take 0⟩
end Go.Proofs.Yteikngjiaboeaaa.Wt
namespace Go.Proofs.Yteikngjiaboeaaa.Wt
open Go Go.Proofs.Yteikngjiaboeaaa.Am Go.Proofs.Yteikngjiaboeaaa.IrAll
open Nat renaming le_of_ble_eq_true → C
open Go.Proofs.Yteikngjiaboeaaa.Am.WS renaming op → D
open Go.Proofs.Yteikngjiaboeaaa.Am.WS renaming nil → F
open Go.Proofs.Yteikngjiaboeaaa.Am.WC renaming seq → G
open Go.Proofs.Yteikngjiaboeaaa.Am.WC renaming run → J
open Go.Proofs.Yteikngjiaboeaaa.Am.WS renaming off → U
open List renaming length_nil → X
open List renaming length_drop → Y
open List renaming length_cons → AQ
open Go.Proofs.Yteikngjiaboeaaa.Am.WC renaming condT → AX
open Go.Proofs.Yteikngjiaboeaaa.Am.WC renaming ret → AZ
open Go.Proofs.Yteikngjiaboeaaa.Am.WC renaming condF → BQ
open Go.Proofs.Yteikngjiaboeaaa.Am.WS renaming st1 → BX
open List renaming length_append → BZ
open Go.Proofs.Yteikngjiaboeaaa.Am.WC renaming skip → CQ
open Go.Proofs.Yteikngjiaboeaaa.Am.WS renaming opV → CX
open List renaming length_singleton → CZ
open Go.Proofs.Yteikngjiaboeaaa.Am.WS renaming call → DQ
open List renaming length_take → DX
set_option linter.unusedVariables false
set_option linter.unusedSimpArgs false
structure Rep where
  kd : UInt8
  se : UInt64
  sq : UInt64
  ld : UInt8
  r : Res
  deriving DecidableEq
def Rep.cells (p : Rep) (V : Value) : List Value := [(.int .u8 (((p.kd).toNat : Nat) : Int)), (.int .u64 (((p.se).toNat : Nat) : Int)), (.int .u64 (((p.sq).toNat : Nat) : Int)), (.int .u8 (((p.ld).toNat : Nat) : Int)), (.int .u8 (((p.r.cd).toNat : Nat) : Int)), (.int .u64 (((p.r.n).toNat : Nat) : Int)), (.string (bs p.r.va)), V]
def Rep.val (p : Rep) (V : Value) : Value := .agg (p.cells V).toArray
variable {h base : H} {L : List Seg} {R : List Nat}
def MayP (p : Rep) : Prop := (1 ≤ p.kd.toNat ∧ p.kd.toNat ≤ 6) ∧ (p.kd.toNat = 1 → p.se = 0 ∧ p.sq = 0) ∧ (p.kd.toNat ≠ 3 → p.ld = 0) ∧ (p.kd.toNat = 3 → p.ld.toNat ≤ 5) ∧ (p.kd.toNat ≠ 6 → p.r = zeroR)
instance (p : Rep) : Decidable (MayP p) := by unfold MayP; infer_instance
def mayPB (p : Rep) : Bool := decide (MayP p)
theorem mayPB_t {p : Rep} (q : MayP p) : packE [.bool true] = .bool (mayPB p) := by unfold mayPB; rw [decide_eq_true q]; rfl
theorem mayPB_f {p : Rep} (q : ¬ MayP p) : packE [.bool false] = .bool (mayPB p) := by unfold mayPB; rw [decide_eq_false q]; rfl
def lastP (p : Rep) : List UInt8 := if p.kd.toNat = 3 then [p.ld] else if p.kd.toNat = 6 then encR p.r else []
def encP (p : Rep) : List UInt8 := if p.kd.toNat = 1 then [p.kd] else ([p.kd] ++ (vb p.se.toNat ++ vb p.sq.toNat)) ++ lastP p
theorem encP_1 {p : Rep} (h : p.kd.toNat = 1) : encP p = [p.kd] := if_pos h
theorem encP_n {p : Rep} (h : p.kd.toNat ≠ 1) : encP p = ([p.kd] ++ (vb p.se.toNat ++ vb p.sq.toNat)) ++ lastP p := if_neg h
theorem encP_3 {p : Rep} (h : p.kd.toNat = 3) : encP p = ([p.kd] ++ (vb p.se.toNat ++ vb p.sq.toNat)) ++ [p.ld] := by rw [encP_n (by omega)]; unfold lastP; rw [if_pos h]
theorem encP_6 {p : Rep} (h : p.kd.toNat = 6) : encP p = ([p.kd] ++ (vb p.se.toNat ++ vb p.sq.toNat)) ++ encR p.r := by rw [encP_n (by omega)]; unfold lastP; rw [if_neg (by omega), if_pos h]
theorem encP_0 {p : Rep} (h : p.kd.toNat ≠ 1) (h3 : p.kd.toNat ≠ 3) (h6 : p.kd.toNat ≠ 6) : encP p = ([p.kd] ++ (vb p.se.toNat ++ vb p.sq.toNat)) ++ [] := by rw [encP_n h]; unfold lastP; rw [if_neg h3, if_neg h6]
theorem encP_cons (p : Rep) : encP p = p.kd :: (encP p).tail := by
  by_cases h : p.kd.toNat = 1
  · rw [encP_1 h]; rfl
  · rw [encP_n h]; rfl
def GoodP2 (p : Rep) : Prop := MayP p ∧ FitRes p.r
def zeroP : Rep := ⟨0, 0, 0, 0, zeroR⟩
theorem rep_eq {a b : Rep} (h1 : a.kd = b.kd) (h2 : a.se = b.se) (h3 : a.sq = b.sq) (h4 : a.ld = b.ld) (h5 : a.r = b.r) : a = b := by
  obtain ⟨⟩ := a; obtain ⟨⟩ := b
  simp only at *
  rw [h1, h2, h3, h4, h5]
theorem encP_pf : PF GoodP2 encP := by
  rintro a b x y ⟨ma, fa⟩ ⟨mb, fb⟩ h
  obtain ⟨a1, a2, a3, a4, a5⟩ := ma
  obtain ⟨b1, b2, b3, b4, b5⟩ := mb
  have h0 : a.kd = b.kd := by
    rw [encP_cons a, encP_cons b] at h
    exact (List.cons.inj h).1
  have ho : a.kd.toNat = b.kd.toNat := by rw [h0]
  by_cases k1 : a.kd.toNat = 1
  · rw [encP_1 k1, encP_1 (by omega)] at h
    exact ⟨rep_eq h0 (by rw [(a2 k1).1, (b2 (by omega)).1]) (by rw [(a2 k1).2, (b2 (by omega)).2]) (by rw [a3 (by omega), b3 (by omega)]) (by rw [a5 (by omega), b5 (by omega)]), (List.cons.inj h).2⟩
  rw [encP_n k1, encP_n (by omega)] at h
  simp only [List.append_assoc, List.cons_append, List.nil_append, List.cons.injEq] at h
  obtain ⟨_, h⟩ := h
  obtain ⟨e1, h⟩ := n64c h
  obtain ⟨e2, h⟩ := n64c h
  unfold lastP at h
  by_cases k3 : a.kd.toNat = 3
  · rw [if_pos k3, if_pos (show b.kd.toNat = 3 by omega)] at h
    obtain ⟨e3, h⟩ := List.cons.inj h
    exact ⟨rep_eq h0 e1 e2 e3 (by rw [a5 (by omega), b5 (by omega)]), h⟩
  rw [if_neg k3, if_neg (show ¬ b.kd.toNat = 3 by omega)] at h
  by_cases k6 : a.kd.toNat = 6
  · rw [if_pos k6, if_pos (show b.kd.toNat = 6 by omega)] at h
    obtain ⟨e3, h⟩ := encR_pf _ _ _ _ fa fb h
    exact ⟨rep_eq h0 e1 e2 (by rw [a3 k3, b3 (by omega)]) e3, h⟩
  rw [if_neg k6, if_neg (show ¬ b.kd.toNat = 6 by omega)] at h
  exact ⟨rep_eq h0 e1 e2 (by rw [a3 k3, b3 (by omega)]) (by rw [a5 k6, b5 (by omega)]), h⟩
theorem none_ran (W : Mem h h [] []) {r : Res} {V : Value} (A : KRrow.Sl h V r.rs) (hf : FitRes r) : Cll tab0 55 [r.val V] h (fun v h2 => v = .bool (decide (r = zeroR)) ∧ Mem h h2 [] []) := by
  obtain ⟨P, n, rfl⟩ := A.shape
  refine Cll.code rfl rfl ?_
  refine WC.env [(0, _)] rfl ?_
  refine G (J (WS.box W [_, _, _, _] rfl rfl rfl rfl ?_))
  intro p1 h2 M3
  refine D rfl rfl (F [(1, _)] rfl ?_)
  refine G (J (D rfl rfl (D rfl (op_ld (M3.at 0 rfl) rfl rfl) ?_)))
  refine WS.eqlN (a := (r.cd).toNat) (b := 0) rfl rfl rfl (fun e5 => ?_) (fun e5 => ?_)
  ·
   refine D rfl rfl (D rfl rfl (D rfl (op_ld (M3.at 0 rfl) rfl rfl) ?_))
   refine WS.eqlN (a := (r.n).toNat) (b := 0) rfl rfl rfl (fun e9 => ?_) (fun e9 => ?_)
   ·
    refine D rfl rfl (D rfl rfl (D rfl rfl (D rfl (op_ld (M3.at 0 rfl) rfl rfl) ?_)))
    refine WS.seql (l := r.va) (m := []) rfl rfl rfl (fun e14 => ?_) (fun e14 => ?_)
    ·
     refine D rfl rfl (D rfl rfl (D rfl rfl (D rfl (op_ld (M3.at 0 rfl) rfl rfl) (D rfl (op_lenVS A rfl) ?_))))
     refine WS.eqlN (a := (r.rs).length) (b := 0) rfl rfl rfl (fun e20 => ?_) (fun e20 => ?_)
     ·
      refine D rfl rfl (D rfl rfl (F [(2, _)] rfl ?_))
      refine AZ (⟨[_], (res_tmp rfl res_nil), ?_⟩)
      exact ⟨vbt (by obtain ⟨a, b, c, d⟩ := r; unfold zeroR; simp only at *; rw [u8_0 e5, u64_0 e9, e14, List.eq_nil_of_length_eq_zero e20]), M3.bare.take 0⟩
     ·
      refine D rfl rfl (D rfl rfl (F [(2, _)] rfl ?_))
      refine AZ (⟨[_], (res_tmp rfl res_nil), ?_⟩)
      exact ⟨vbf (fun q => by subst q; first | exact absurd rfl e5 | exact absurd rfl e9 | exact absurd rfl e14 | exact absurd rfl e20), M3.bare.take 0⟩
    ·
     refine D rfl rfl (D rfl rfl (U rfl (U rfl (U rfl (U rfl (D rfl rfl (D rfl rfl (F [(2, _)] rfl ?_))))))))
     refine AZ (⟨[_], (res_tmp rfl res_nil), ?_⟩)
     exact ⟨vbf (fun q => by subst q; first | exact absurd rfl e5 | exact absurd rfl e9 | exact absurd rfl e14 | exact absurd rfl e20), M3.bare.take 0⟩
   ·
    refine D rfl rfl (D rfl rfl (U rfl (U rfl (U rfl (D rfl rfl (D rfl rfl (U rfl (U rfl (U rfl ?_)))))))))
    refine U rfl (D rfl rfl (D rfl rfl (F [(2, _)] rfl ?_)))
    refine AZ (⟨[_], (res_tmp rfl res_nil), ?_⟩)
    exact ⟨vbf (fun q => by subst q; first | exact absurd rfl e5 | exact absurd rfl e9 | exact absurd rfl e14 | exact absurd rfl e20), M3.bare.take 0⟩
  ·
   refine D rfl rfl (U rfl (U rfl (U rfl (D rfl rfl (D rfl rfl (U rfl (U rfl (U rfl (D rfl rfl ?_)))))))))
   refine D rfl rfl (U rfl (U rfl (U rfl (U rfl (D rfl rfl (D rfl rfl (F [(2, _)] rfl ?_)))))))
   refine AZ (⟨[_], (res_tmp rfl res_nil), ?_⟩)
   exact ⟨vbf (fun q => by subst q; first | exact absurd rfl e5 | exact absurd rfl e9 | exact absurd rfl e14 | exact absurd rfl e20), M3.bare.take 0⟩
set_option maxRecDepth 8000 in
theorem mayP_ran (W : Mem h h [] []) {p : Rep} {V : Value} (A : KRrow.Sl h V p.r.rs) (hf : FitRes p.r) : Cll tab0 28 [p.val V] h (fun v h2 => v = .bool (mayPB p) ∧ Mem h h2 [] []) := by
  obtain ⟨P, n, rfl⟩ := A.shape
  refine Cll.code rfl rfl ?_
  refine WC.env [(0, _)] rfl ?_
  refine G (J (WS.box W [_, _, _, _, _, _, _, _] rfl rfl rfl rfl ?_))
  intro p1 h2 M3
  refine D rfl rfl (F [(1, _)] rfl ?_)
  refine G (WC.draw M3 [] rfl ?_)
  intro rb4 h5 M6
  refine D rfl rfl (D rfl (op_ld (M6.at 0 rfl) rfl rfl) ?_)
  refine WS.eqlN (a := (p.ld).toNat) (b := 0) rfl rfl rfl (fun e7 => ?_) (fun e7 => ?_)
  ·
   refine D rfl rfl (D rfl (op_lds [_, _, _, _] (M6.at 0 rfl) rfl (C rfl) rfl) ?_)
   refine DQ rfl rfl rfl (none_ran M6.here (r := p.r) (A.mono M6.sub) (by assumption)) ?_
   rintro _ h7 ⟨rfl, N8⟩
   have M9 := M6.trans N8
   refine WS.chk rfl (op_ld (M9.at 0 rfl) rfl rfl) rfl (sameV_refl rfl) (D rfl rfl (D rfl rfl (F [(1, _), (3, _), (4, _)] rfl ?_)))
   refine G (G (J (D rfl rfl (D rfl (op_ld (M9.bare.at 0 rfl) rfl rfl) (F [(1, _), (3, _), (4, _), (12, _)] rfl ?_)))))
   refine WC.block (G (J (WS.eqlN (a := (p.kd).toNat) (b := 1) rfl rfl rfl (fun e14 => ?_) (fun e14 => ?_))))
   ·
    refine D rfl rfl (F [(1, _), (3, _), (4, _), (12, _), (13, _)] rfl ?_)
    refine AX rfl (G (J (D rfl rfl (D rfl rfl (D rfl rfl (D rfl rfl (D rfl rfl ?_)))))))
    cases hb1 : (decide (p.r = zeroR))
    ·
     refine U rfl (U rfl (U rfl (D rfl rfl (D rfl rfl (U rfl (U rfl (U rfl (D rfl rfl (D rfl rfl ?_)))))))))
     refine F [(2, _)] rfl ?_
     refine AZ (⟨[_], (res_tmp rfl res_nil), ?_⟩)
     exact ⟨mayPB_f (by rintro ⟨q1, q2, q3, q4, q5⟩; first | omega | (have := q4 (by omega); omega) | exact absurd (q5 (by omega)) (of_decide_eq_false (by assumption)) | (have := q3 (by omega); rw [this] at e7; exact absurd rfl e7) | (have := (q2 (by omega)).1; rw [this] at e22; exact absurd rfl e22) | (have := (q2 (by omega)).2; rw [this] at e27; exact absurd rfl e27)), M9.bare.bare.take 0⟩
    ·
     refine D rfl rfl (D rfl (op_ld (M9.bare.at 0 rfl) rfl rfl) ?_)
     refine WS.eqlN (a := (p.se).toNat) (b := 0) rfl rfl rfl (fun e22 => ?_) (fun e22 => ?_)
     ·
      refine D rfl rfl (D rfl rfl (D rfl rfl (D rfl (op_ld (M9.bare.at 0 rfl) rfl rfl) ?_)))
      refine WS.eqlN (a := (p.sq).toNat) (b := 0) rfl rfl rfl (fun e27 => ?_) (fun e27 => ?_)
      ·
       refine D rfl rfl (D rfl rfl (F [(2, _)] rfl ?_))
       refine AZ (⟨[_], (res_tmp rfl res_nil), ?_⟩)
       refine ⟨mayPB_t ⟨by omega, fun q => ?_, fun q => ?_, fun q => ?_, fun q => ?_⟩, M9.bare.bare.take 0⟩
       · first | (exfalso; omega) | exact ⟨u64_0 e22, u64_0 e27⟩
       · first | (exfalso; omega) | exact u8_0 (by omega)
       · omega
       · first | (exfalso; omega) | exact of_decide_eq_true (by assumption)
      ·
       refine D rfl rfl (D rfl rfl (F [(2, _)] rfl ?_))
       refine AZ (⟨[_], (res_tmp rfl res_nil), ?_⟩)
       exact ⟨mayPB_f (by rintro ⟨q1, q2, q3, q4, q5⟩; first | omega | (have := q4 (by omega); omega) | exact absurd (q5 (by omega)) (of_decide_eq_false (by assumption)) | (have := q3 (by omega); rw [this] at e7; exact absurd rfl e7) | (have := (q2 (by omega)).1; rw [this] at e22; exact absurd rfl e22) | (have := (q2 (by omega)).2; rw [this] at e27; exact absurd rfl e27)), M9.bare.bare.take 0⟩
     ·
      refine D rfl rfl (D rfl rfl (U rfl (U rfl (U rfl (D rfl rfl (D rfl rfl (F [(2, _)] rfl ?_)))))))
      refine AZ (⟨[_], (res_tmp rfl res_nil), ?_⟩)
      exact ⟨mayPB_f (by rintro ⟨q1, q2, q3, q4, q5⟩; first | omega | (have := q4 (by omega); omega) | exact absurd (q5 (by omega)) (of_decide_eq_false (by assumption)) | (have := q3 (by omega); rw [this] at e7; exact absurd rfl e7) | (have := (q2 (by omega)).1; rw [this] at e22; exact absurd rfl e22) | (have := (q2 (by omega)).2; rw [this] at e27; exact absurd rfl e27)), M9.bare.bare.take 0⟩
   ·
    refine D rfl rfl (F [(1, _), (3, _), (4, _), (12, _), (13, _)] rfl ?_)
    refine BQ rfl (G (G (J (WS.eqlN (a := (p.kd).toNat) (b := 2) rfl rfl rfl (fun e30 => ?_) (fun e30 => ?_)))))
    ·
     refine D rfl rfl (F [(1, _), (3, _), (4, _), (12, _), (29, _)] rfl ?_)
     refine AX rfl (CQ (AX rfl (G (J (D rfl rfl (D rfl rfl (D rfl rfl (D rfl rfl (D rfl rfl (F [(2, _)] rfl ?_))))))))))
     refine AZ ?_
     cases hb1 : (decide (p.r = zeroR))
     ·
      refine ⟨[_], (res_tmp rfl res_nil), ?_⟩
      exact ⟨mayPB_f (by rintro ⟨q1, q2, q3, q4, q5⟩; first | omega | (have := q4 (by omega); omega) | exact absurd (q5 (by omega)) (of_decide_eq_false (by assumption)) | (have := q3 (by omega); rw [this] at e7; exact absurd rfl e7) | (have := (q2 (by omega)).1; rw [this] at e22; exact absurd rfl e22) | (have := (q2 (by omega)).2; rw [this] at e27; exact absurd rfl e27)), M9.bare.bare.take 0⟩
     ·
      refine ⟨[_], (res_tmp rfl res_nil), ?_⟩
      refine ⟨mayPB_t ⟨by omega, fun q => ?_, fun q => ?_, fun q => ?_, fun q => ?_⟩, M9.bare.bare.take 0⟩
      · first | (exfalso; omega) | exact ⟨u64_0 e22, u64_0 e27⟩
      · first | (exfalso; omega) | exact u8_0 (by omega)
      · omega
      · first | (exfalso; omega) | exact of_decide_eq_true (by assumption)
    ·
     refine D rfl rfl (F [(1, _), (3, _), (4, _), (12, _), (29, _)] rfl ?_)
     refine BQ rfl (G (J (WS.eqlN (a := (p.kd).toNat) (b := 4) rfl rfl rfl (fun e31 => ?_) (fun e31 => ?_))))
     ·
      refine D rfl rfl (F [(1, _), (3, _), (4, _), (12, _), (29, _)] rfl ?_)
      refine AX rfl (CQ (AX rfl (G (J (D rfl rfl (D rfl rfl (D rfl rfl (D rfl rfl (D rfl rfl (F [(2, _)] rfl ?_))))))))))
      refine AZ ?_
      cases hb1 : (decide (p.r = zeroR))
      ·
       refine ⟨[_], (res_tmp rfl res_nil), ?_⟩
       exact ⟨mayPB_f (by rintro ⟨q1, q2, q3, q4, q5⟩; first | omega | (have := q4 (by omega); omega) | exact absurd (q5 (by omega)) (of_decide_eq_false (by assumption)) | (have := q3 (by omega); rw [this] at e7; exact absurd rfl e7) | (have := (q2 (by omega)).1; rw [this] at e22; exact absurd rfl e22) | (have := (q2 (by omega)).2; rw [this] at e27; exact absurd rfl e27)), M9.bare.bare.take 0⟩
      ·
       refine ⟨[_], (res_tmp rfl res_nil), ?_⟩
       refine ⟨mayPB_t ⟨by omega, fun q => ?_, fun q => ?_, fun q => ?_, fun q => ?_⟩, M9.bare.bare.take 0⟩
       · first | (exfalso; omega) | exact ⟨u64_0 e22, u64_0 e27⟩
       · first | (exfalso; omega) | exact u8_0 (by omega)
       · omega
       · first | (exfalso; omega) | exact of_decide_eq_true (by assumption)
     ·
      refine D rfl rfl (F [(1, _), (3, _), (4, _), (12, _), (29, _)] rfl ?_)
      refine BQ rfl (J (WS.eqlN (a := (p.kd).toNat) (b := 5) rfl rfl rfl (fun e32 => ?_) (fun e32 => ?_)))
      ·
       refine D rfl rfl (F [(1, _), (3, _), (4, _), (12, _), (29, _)] rfl ?_)
       refine AX rfl (G (J (D rfl rfl (D rfl rfl (D rfl rfl (D rfl rfl (D rfl rfl (F [(2, _)] rfl ?_))))))))
       refine AZ ?_
       cases hb1 : (decide (p.r = zeroR))
       ·
        refine ⟨[_], (res_tmp rfl res_nil), ?_⟩
        exact ⟨mayPB_f (by rintro ⟨q1, q2, q3, q4, q5⟩; first | omega | (have := q4 (by omega); omega) | exact absurd (q5 (by omega)) (of_decide_eq_false (by assumption)) | (have := q3 (by omega); rw [this] at e7; exact absurd rfl e7) | (have := (q2 (by omega)).1; rw [this] at e22; exact absurd rfl e22) | (have := (q2 (by omega)).2; rw [this] at e27; exact absurd rfl e27)), M9.bare.bare.take 0⟩
       ·
        refine ⟨[_], (res_tmp rfl res_nil), ?_⟩
        refine ⟨mayPB_t ⟨by omega, fun q => ?_, fun q => ?_, fun q => ?_, fun q => ?_⟩, M9.bare.bare.take 0⟩
        · first | (exfalso; omega) | exact ⟨u64_0 e22, u64_0 e27⟩
        · first | (exfalso; omega) | exact u8_0 (by omega)
        · omega
        · first | (exfalso; omega) | exact of_decide_eq_true (by assumption)
      ·
       refine D rfl rfl (F [(1, _), (3, _), (4, _), (12, _), (29, _)] rfl ?_)
       refine BQ rfl (G (J (WS.eqlN (a := (p.kd).toNat) (b := 3) rfl rfl rfl (fun e38 => ?_) (fun e38 => ?_))))
       ·
        refine D rfl rfl (F [(1, _), (3, _), (4, _), (37, _)] rfl ?_)
        refine AX rfl (G (J (D rfl rfl (D rfl (op_ld (M9.bare.at 0 rfl) rfl rfl) ?_))))
        refine WS.leqN (a := (p.ld).toNat) (b := 5) rfl rfl rfl (fun e41 => ?_) (fun e41 => ?_)
        ·
         refine D rfl rfl (D rfl rfl (D rfl rfl (D rfl rfl (F [(2, _)] rfl ?_))))
         refine AZ ?_
         cases hb1 : (decide (p.r = zeroR))
         ·
          refine ⟨[_], (res_tmp rfl res_nil), ?_⟩
          exact ⟨mayPB_f (by rintro ⟨q1, q2, q3, q4, q5⟩; first | omega | (have := q4 (by omega); omega) | exact absurd (q5 (by omega)) (of_decide_eq_false (by assumption)) | (have := q3 (by omega); rw [this] at e7; exact absurd rfl e7) | (have := (q2 (by omega)).1; rw [this] at e22; exact absurd rfl e22) | (have := (q2 (by omega)).2; rw [this] at e27; exact absurd rfl e27)), M9.bare.bare.take 0⟩
         ·
          refine ⟨[_], (res_tmp rfl res_nil), ?_⟩
          refine ⟨mayPB_t ⟨by omega, fun q => ?_, fun q => ?_, fun q => ?_, fun q => ?_⟩, M9.bare.bare.take 0⟩
          · first | (exfalso; omega) | exact ⟨u64_0 e22, u64_0 e27⟩
          · first | (exfalso; omega) | exact u8_0 (by omega)
          · omega
          · first | (exfalso; omega) | exact of_decide_eq_true (by assumption)
        ·
         refine D rfl rfl (U rfl (D rfl rfl (D rfl rfl (F [(2, _)] rfl ?_))))
         refine AZ (⟨[_], (res_tmp rfl res_nil), ?_⟩)
         exact ⟨mayPB_f (by rintro ⟨q1, q2, q3, q4, q5⟩; first | omega | (have := q4 (by omega); omega) | exact absurd (q5 (by omega)) (of_decide_eq_false (by assumption)) | (have := q3 (by omega); rw [this] at e7; exact absurd rfl e7) | (have := (q2 (by omega)).1; rw [this] at e22; exact absurd rfl e22) | (have := (q2 (by omega)).2; rw [this] at e27; exact absurd rfl e27)), M9.bare.bare.take 0⟩
       ·
        refine D rfl rfl (F [(1, _), (3, _), (4, _), (37, _)] rfl ?_)
        refine BQ rfl (CQ (G (J (D rfl rfl (D rfl (op_ld (M9.bare.at 0 rfl) rfl rfl) ?_)))))
        refine WS.eqlN (a := (p.kd).toNat) (b := 6) rfl rfl rfl (fun e47 => ?_) (fun e47 => ?_)
        ·
         refine D rfl rfl (D rfl rfl (D rfl rfl (D rfl rfl (F [(2, _)] rfl ?_))))
         refine AZ (⟨[_], (res_tmp rfl res_nil), ?_⟩)
         refine ⟨mayPB_t ⟨by omega, fun q => ?_, fun q => ?_, fun q => ?_, fun q => ?_⟩, M9.bare.bare.take 0⟩
         · first | (exfalso; omega) | exact ⟨u64_0 e22, u64_0 e27⟩
         · first | (exfalso; omega) | exact u8_0 (by omega)
         · omega
         · first | (exfalso; omega) | exact of_decide_eq_true (by assumption)
        ·
         refine D rfl rfl (U rfl (D rfl rfl (D rfl rfl (F [(2, _)] rfl ?_))))
         refine AZ (⟨[_], (res_tmp rfl res_nil), ?_⟩)
         exact ⟨mayPB_f (by rintro ⟨q1, q2, q3, q4, q5⟩; first | omega | (have := q4 (by omega); omega) | exact absurd (q5 (by omega)) (of_decide_eq_false (by assumption)) | (have := q3 (by omega); rw [this] at e7; exact absurd rfl e7) | (have := (q2 (by omega)).1; rw [this] at e22; exact absurd rfl e22) | (have := (q2 (by omega)).2; rw [this] at e27; exact absurd rfl e27)), M9.bare.bare.take 0⟩
  ·
   refine D rfl rfl (D rfl (op_lds [_, _, _, _] (M6.at 0 rfl) rfl (C rfl) rfl) ?_)
   refine DQ rfl rfl rfl (none_ran M6.here (r := p.r) (A.mono M6.sub) (by assumption)) ?_
   rintro _ h10 ⟨rfl, N11⟩
   have M12 := M6.trans N11
   refine WS.chk rfl (op_ld (M12.at 0 rfl) rfl rfl) rfl (sameV_refl rfl) (D rfl rfl (D rfl rfl (F [(1, _), (3, _), (4, _)] rfl ?_)))
   refine G (G (J (D rfl rfl (D rfl (op_ld (M12.bare.at 0 rfl) rfl rfl) (F [(1, _), (3, _), (4, _), (12, _)] rfl ?_)))))
   refine WC.block (G (J (WS.eqlN (a := (p.kd).toNat) (b := 1) rfl rfl rfl (fun e14 => ?_) (fun e14 => ?_))))
   ·
    refine D rfl rfl (F [(1, _), (3, _), (4, _), (12, _), (13, _)] rfl ?_)
    refine AX rfl (G (J (D rfl rfl (D rfl rfl (U rfl (D rfl rfl (D rfl rfl (U rfl (U rfl (U rfl (D rfl rfl (D rfl rfl ?_))))))))))))
    refine U rfl (U rfl (U rfl (D rfl rfl (D rfl rfl (F [(2, _)] rfl ?_)))))
    refine AZ (⟨[_], (res_tmp rfl res_nil), ?_⟩)
    exact ⟨mayPB_f (by rintro ⟨q1, q2, q3, q4, q5⟩; first | omega | (have := q4 (by omega); omega) | exact absurd (q5 (by omega)) (of_decide_eq_false (by assumption)) | (have := q3 (by omega); rw [this] at e7; exact absurd rfl e7) | (have := (q2 (by omega)).1; rw [this] at e22; exact absurd rfl e22) | (have := (q2 (by omega)).2; rw [this] at e27; exact absurd rfl e27)), M12.bare.bare.take 0⟩
   ·
    refine D rfl rfl (F [(1, _), (3, _), (4, _), (12, _), (13, _)] rfl ?_)
    refine BQ rfl (G (G (J (WS.eqlN (a := (p.kd).toNat) (b := 2) rfl rfl rfl (fun e30 => ?_) (fun e30 => ?_)))))
    ·
     refine D rfl rfl (F [(1, _), (3, _), (4, _), (12, _), (29, _)] rfl ?_)
     refine AX rfl (CQ (AX rfl (G (J (D rfl rfl (D rfl rfl (U rfl (D rfl rfl (D rfl rfl (F [(2, _)] rfl ?_))))))))))
     refine AZ (⟨[_], (res_tmp rfl res_nil), ?_⟩)
     exact ⟨mayPB_f (by rintro ⟨q1, q2, q3, q4, q5⟩; first | omega | (have := q4 (by omega); omega) | exact absurd (q5 (by omega)) (of_decide_eq_false (by assumption)) | (have := q3 (by omega); rw [this] at e7; exact absurd rfl e7) | (have := (q2 (by omega)).1; rw [this] at e22; exact absurd rfl e22) | (have := (q2 (by omega)).2; rw [this] at e27; exact absurd rfl e27)), M12.bare.bare.take 0⟩
    ·
     refine D rfl rfl (F [(1, _), (3, _), (4, _), (12, _), (29, _)] rfl ?_)
     refine BQ rfl (G (J (WS.eqlN (a := (p.kd).toNat) (b := 4) rfl rfl rfl (fun e31 => ?_) (fun e31 => ?_))))
     ·
      refine D rfl rfl (F [(1, _), (3, _), (4, _), (12, _), (29, _)] rfl ?_)
      refine AX rfl (CQ (AX rfl (G (J (D rfl rfl (D rfl rfl (U rfl (D rfl rfl (D rfl rfl (F [(2, _)] rfl ?_))))))))))
      refine AZ (⟨[_], (res_tmp rfl res_nil), ?_⟩)
      exact ⟨mayPB_f (by rintro ⟨q1, q2, q3, q4, q5⟩; first | omega | (have := q4 (by omega); omega) | exact absurd (q5 (by omega)) (of_decide_eq_false (by assumption)) | (have := q3 (by omega); rw [this] at e7; exact absurd rfl e7) | (have := (q2 (by omega)).1; rw [this] at e22; exact absurd rfl e22) | (have := (q2 (by omega)).2; rw [this] at e27; exact absurd rfl e27)), M12.bare.bare.take 0⟩
     ·
      refine D rfl rfl (F [(1, _), (3, _), (4, _), (12, _), (29, _)] rfl ?_)
      refine BQ rfl (J (WS.eqlN (a := (p.kd).toNat) (b := 5) rfl rfl rfl (fun e32 => ?_) (fun e32 => ?_)))
      ·
       refine D rfl rfl (F [(1, _), (3, _), (4, _), (12, _), (29, _)] rfl ?_)
       refine AX rfl (G (J (D rfl rfl (D rfl rfl (U rfl (D rfl rfl (D rfl rfl (F [(2, _)] rfl ?_))))))))
       refine AZ (⟨[_], (res_tmp rfl res_nil), ?_⟩)
       exact ⟨mayPB_f (by rintro ⟨q1, q2, q3, q4, q5⟩; first | omega | (have := q4 (by omega); omega) | exact absurd (q5 (by omega)) (of_decide_eq_false (by assumption)) | (have := q3 (by omega); rw [this] at e7; exact absurd rfl e7) | (have := (q2 (by omega)).1; rw [this] at e22; exact absurd rfl e22) | (have := (q2 (by omega)).2; rw [this] at e27; exact absurd rfl e27)), M12.bare.bare.take 0⟩
      ·
       refine D rfl rfl (F [(1, _), (3, _), (4, _), (12, _), (29, _)] rfl ?_)
       refine BQ rfl (G (J (WS.eqlN (a := (p.kd).toNat) (b := 3) rfl rfl rfl (fun e38 => ?_) (fun e38 => ?_))))
       ·
        refine D rfl rfl (F [(1, _), (3, _), (4, _), (37, _)] rfl ?_)
        refine AX rfl (G (J (D rfl rfl (D rfl (op_ld (M12.bare.at 0 rfl) rfl rfl) ?_))))
        refine WS.leqN (a := (p.ld).toNat) (b := 5) rfl rfl rfl (fun e41 => ?_) (fun e41 => ?_)
        ·
         refine D rfl rfl (D rfl rfl (D rfl rfl (D rfl rfl (F [(2, _)] rfl ?_))))
         refine AZ ?_
         cases hb1 : (decide (p.r = zeroR))
         ·
          refine ⟨[_], (res_tmp rfl res_nil), ?_⟩
          exact ⟨mayPB_f (by rintro ⟨q1, q2, q3, q4, q5⟩; first | omega | (have := q4 (by omega); omega) | exact absurd (q5 (by omega)) (of_decide_eq_false (by assumption)) | (have := q3 (by omega); rw [this] at e7; exact absurd rfl e7) | (have := (q2 (by omega)).1; rw [this] at e22; exact absurd rfl e22) | (have := (q2 (by omega)).2; rw [this] at e27; exact absurd rfl e27)), M12.bare.bare.take 0⟩
         ·
          refine ⟨[_], (res_tmp rfl res_nil), ?_⟩
          refine ⟨mayPB_t ⟨by omega, fun q => ?_, fun q => ?_, fun q => ?_, fun q => ?_⟩, M12.bare.bare.take 0⟩
          · first | (exfalso; omega) | exact ⟨u64_0 e22, u64_0 e27⟩
          · first | (exfalso; omega) | exact u8_0 (by omega)
          · omega
          · first | (exfalso; omega) | exact of_decide_eq_true (by assumption)
        ·
         refine D rfl rfl (U rfl (D rfl rfl (D rfl rfl (F [(2, _)] rfl ?_))))
         refine AZ (⟨[_], (res_tmp rfl res_nil), ?_⟩)
         exact ⟨mayPB_f (by rintro ⟨q1, q2, q3, q4, q5⟩; first | omega | (have := q4 (by omega); omega) | exact absurd (q5 (by omega)) (of_decide_eq_false (by assumption)) | (have := q3 (by omega); rw [this] at e7; exact absurd rfl e7) | (have := (q2 (by omega)).1; rw [this] at e22; exact absurd rfl e22) | (have := (q2 (by omega)).2; rw [this] at e27; exact absurd rfl e27)), M12.bare.bare.take 0⟩
       ·
        refine D rfl rfl (F [(1, _), (3, _), (4, _), (37, _)] rfl ?_)
        refine BQ rfl (CQ (G (J (D rfl rfl (D rfl (op_ld (M12.bare.at 0 rfl) rfl rfl) ?_)))))
        refine WS.eqlN (a := (p.kd).toNat) (b := 6) rfl rfl rfl (fun e47 => ?_) (fun e47 => ?_)
        ·
         refine D rfl rfl (D rfl rfl (D rfl rfl (D rfl rfl (F [(2, _)] rfl ?_))))
         refine AZ (⟨[_], (res_tmp rfl res_nil), ?_⟩)
         exact ⟨mayPB_f (by rintro ⟨q1, q2, q3, q4, q5⟩; first | omega | (have := q4 (by omega); omega) | exact absurd (q5 (by omega)) (of_decide_eq_false (by assumption)) | (have := q3 (by omega); rw [this] at e7; exact absurd rfl e7) | (have := (q2 (by omega)).1; rw [this] at e22; exact absurd rfl e22) | (have := (q2 (by omega)).2; rw [this] at e27; exact absurd rfl e27)), M12.bare.bare.take 0⟩
        ·
         refine D rfl rfl (U rfl (D rfl rfl (D rfl rfl (F [(2, _)] rfl ?_))))
         refine AZ (⟨[_], (res_tmp rfl res_nil), ?_⟩)
         exact ⟨mayPB_f (by rintro ⟨q1, q2, q3, q4, q5⟩; first | omega | (have := q4 (by omega); omega) | exact absurd (q5 (by omega)) (of_decide_eq_false (by assumption)) | (have := q3 (by omega); rw [this] at e7; exact absurd rfl e7) | (have := (q2 (by omega)).1; rw [this] at e22; exact absurd rfl e22) | (have := (q2 (by omega)).2; rw [this] at e27; exact absurd rfl e27)), M12.bare.bare.take 0⟩
set_option maxRecDepth 8000 in
theorem WriteP_ran (W : Mem h h [] []) {p : Rep} {V : Value} (A : KRrow.Sl h V p.r.rs) (hf : FitRes p.r) : Cll tab0 11 [p.val V] h (fun v h2 => v = .string (bs (if mayPB p then encP p else [])) ∧ Mem h h2 [] []) := by
  obtain ⟨P, n, rfl⟩ := A.shape
  have v1 := vb_len p.se.toNat_lt
  have v2 := vb_len p.sq.toNat_lt
  have u1 := p.se.toNat_lt
  have u2 := p.sq.toNat_lt
  have hr := encR_lenF hf
  refine Cll.code rfl rfl ?_
  refine WC.env [(0, _)] rfl ?_
  refine G (J (WS.box W [_, _, _, _, _, _, _, _] rfl rfl rfl rfl ?_))
  intro p1 h2 M3
  refine D rfl rfl (F [(1, _)] rfl ?_)
  refine G (G (J (D rfl (op_lds [_, _, _, _, _, _, _, _] (M3.at 0 rfl) rfl (C rfl) rfl) ?_)))
  refine DQ rfl rfl rfl (mayP_ran M3.here (p := p) (A.mono M3.sub) (by exact hf)) ?_
  rintro _ h4 ⟨rfl, N5⟩
  have M6 := M3.trans N5
  cases hb1 : (mayPB p)
  ·
   refine CX (.bool true) rfl rfl rfl (F [(1, _), (6, _)] rfl ?_)
   refine AX rfl (G (J (D rfl rfl (F [(2, _)] rfl ?_))))
   refine AZ (⟨[_], (res_tmp rfl res_nil), ?_⟩)
   exact ⟨rfl, M6.bare.take 0⟩
  ·
   refine CX (.bool false) rfl rfl rfl (F [(1, _), (6, _)] rfl ?_)
   refine BQ rfl (CQ (G (J (D rfl rfl (D rfl (op_ld (M6.at 0 rfl) rfl rfl) ?_)))))
   refine WS.bsl M6 [_] rfl rfl rfl rfl ?_
   intro p7 h8 M9
   refine D rfl (op_cvB (l := [p.kd]) (M9.at 0 rfl) rfl rfl (C rfl) rfl) (D rfl rfl (F [(1, _), (3, _)] rfl ?_))
   refine G (G (J (D rfl rfl (D rfl (op_ld (M9.at 1 rfl) rfl rfl) ?_))))
   refine WS.eqlN (a := (p.kd).toNat) (b := 1) rfl rfl rfl (fun e13 => ?_) (fun e13 => ?_)
   ·
    refine F [(1, _), (3, _), (13, _)] rfl ?_
    refine AX rfl (G (J (D rfl rfl (D rfl rfl (F [(2, _)] rfl ?_)))))
    refine AZ (⟨[_], (res_tmp rfl res_nil), ?_⟩)
    have q3 : encP p = [p.kd] := by first | (exfalso; omega) | (rw [encP_1 (by omega)]; done) | (rw [encP_3 (by omega)]; done) | (rw [encP_6 (by omega)]; done) | (rw [encP_0 (by omega) (by omega) (by omega), List.append_nil]; done)
    exact ⟨by rw [if_pos rfl, q3]; rfl, M9.bare.take 0⟩
   ·
    refine F [(1, _), (3, _), (13, _)] rfl ?_
    refine BQ rfl (CQ (G (J (D rfl rfl (D rfl rfl (D rfl (op_ld (M9.at 1 rfl) rfl rfl) (D rfl rfl (D rfl (op_ld (M9.at 1 rfl) rfl rfl) ?_))))))))
    refine WS.bsl M9 [_, _] rfl rfl rfl rfl ?_
    intro p10 h11 M12
    refine DQ rfl rfl rfl (num_V_ran M12.here (Row.Sl.own (K := KNat) (l := [(p.se).toNat, (p.sq).toNat]) (M12.at 0 rfl)) (by intro n hn; simp only [List.mem_cons, List.mem_nil_iff, or_false] at hn; omega) (by simp) (r := ((vb ((p.se).toNat)) ++ (vb ((p.sq).toNat)))) (by simp [List.flatMap])) ?_
    rintro _ h13 ⟨rfl, N14⟩
    have M15 := M12.trans N14
    refine D rfl (op_sadd (l := [p.kd]) (m := ((vb ((p.se).toNat)) ++ (vb ((p.sq).toNat)))) rfl rfl (by first | omega | (simp only [BZ, AQ, X]; omega))) (D rfl rfl (F [(1, _), (3, _)] rfl ?_))
    refine G (G (J (D rfl rfl (D rfl (op_ld (M15.at 2 rfl) rfl rfl) (F [(1, _), (3, _), (24, _)] rfl ?_)))))
    refine WC.block (G (J (WS.eqlN (a := (p.kd).toNat) (b := 3) rfl rfl rfl (fun e26 => ?_) (fun e26 => ?_))))
    ·
     refine D rfl rfl (F [(1, _), (3, _), (24, _), (25, _)] rfl ?_)
     refine AX rfl (J (D rfl rfl (D rfl rfl (D rfl (op_ld (M15.at 2 rfl) rfl rfl) ?_))))
     refine WS.bsl M15 [_] rfl rfl rfl rfl ?_
     intro p16 h17 M18
     refine D rfl (op_cvB (l := [p.ld]) (M18.at 0 rfl) rfl rfl (C rfl) rfl) (D rfl (op_sadd (l := ([p.kd] ++ ((vb ((p.se).toNat)) ++ (vb ((p.sq).toNat))))) (m := [p.ld]) rfl rfl (by first | omega | (simp only [BZ, AQ, X]; omega))) (D rfl rfl (F [(3, _)] rfl ?_)))
     refine G (J (D rfl rfl (D rfl rfl (F [(2, _)] rfl ?_))))
     refine AZ (⟨[_], (res_tmp rfl res_nil), ?_⟩)
     have q3 : encP p = (([p.kd] ++ ((vb ((p.se).toNat)) ++ (vb ((p.sq).toNat)))) ++ [p.ld]) := by first | (exfalso; omega) | (rw [encP_1 (by omega)]; done) | (rw [encP_3 (by omega)]; done) | (rw [encP_6 (by omega)]; done) | (rw [encP_0 (by omega) (by omega) (by omega), List.append_nil]; done)
     exact ⟨by rw [if_pos rfl, q3]; rfl, M18.bare.take 0⟩
    ·
     refine D rfl rfl (F [(1, _), (3, _), (24, _), (25, _)] rfl ?_)
     refine BQ rfl (G (J (WS.eqlN (a := (p.kd).toNat) (b := 6) rfl rfl rfl (fun e34 => ?_) (fun e34 => ?_))))
     ·
      refine D rfl rfl (F [(1, _), (3, _), (33, _)] rfl ?_)
      refine AX rfl (J (D rfl rfl (D rfl rfl (D rfl (op_lds [_, _, _, _] (M15.at 2 rfl) rfl (C rfl) rfl) ?_))))
      refine DQ rfl rfl rfl (WriteR_ran M15.here (r := p.r) (A.mono M15.sub) (by exact hf)) ?_
      rintro _ h19 ⟨rfl, N20⟩
      have M21 := M15.trans N20
      refine D rfl (op_sadd (l := ([p.kd] ++ ((vb ((p.se).toNat)) ++ (vb ((p.sq).toNat))))) (m := (encR p.r)) rfl rfl (by first | omega | (simp only [BZ, AQ, X]; omega))) (D rfl rfl (F [(3, _)] rfl ?_))
      refine G (J (D rfl rfl (D rfl rfl (F [(2, _)] rfl ?_))))
      refine AZ (⟨[_], (res_tmp rfl res_nil), ?_⟩)
      have q3 : encP p = (([p.kd] ++ ((vb ((p.se).toNat)) ++ (vb ((p.sq).toNat)))) ++ (encR p.r)) := by first | (exfalso; omega) | (rw [encP_1 (by omega)]; done) | (rw [encP_3 (by omega)]; done) | (rw [encP_6 (by omega)]; done) | (rw [encP_0 (by omega) (by omega) (by omega), List.append_nil]; done)
      exact ⟨by rw [if_pos rfl, q3]; rfl, M21.bare.take 0⟩
     ·
      refine D rfl rfl (F [(1, _), (3, _), (33, _)] rfl ?_)
      refine BQ rfl (CQ (G (J (D rfl rfl (D rfl rfl (F [(2, _)] rfl ?_))))))
      refine AZ (⟨[_], (res_tmp rfl res_nil), ?_⟩)
      have q3 : encP p = ([p.kd] ++ ((vb ((p.se).toNat)) ++ (vb ((p.sq).toNat)))) := by first | (exfalso; omega) | (rw [encP_1 (by omega)]; done) | (rw [encP_3 (by omega)]; done) | (rw [encP_6 (by omega)]; done) | (rw [encP_0 (by omega) (by omega) (by omega), List.append_nil]; done)
      exact ⟨by rw [if_pos rfl, q3]; rfl, M15.bare.take 0⟩
theorem SameP_ran (W : Mem h h [] []) {a b : Rep} {V V2 : Value} (A : KRrow.Sl h V a.r.rs) (B : KRrow.Sl h V2 b.r.rs) (hl : a.r.rs.length ≤ 1000000) : Cll tab0 23 [a.val V, b.val V2] h (fun v h2 => v = .bool (decide (a = b)) ∧ Mem h h2 [] []) := by
  obtain ⟨P, n, rfl⟩ := A.shape
  obtain ⟨P2, n2, rfl⟩ := B.shape
  refine Cll.code rfl rfl ?_
  refine WC.env [(0, _), (1, _)] rfl ?_
  refine G (J (WS.box W [_, _, _, _, _, _, _, _] rfl rfl rfl rfl ?_))
  intro p1 h2 M3
  refine WS.box M3 [_, _, _, _, _, _, _, _] rfl rfl rfl rfl ?_
  intro p4 h5 M6
  refine D rfl rfl (F [(2, _), (3, _)] rfl ?_)
  refine G (J (D rfl rfl (D rfl (op_ld (M6.at 1 rfl) rfl rfl) (D rfl rfl (D rfl (op_ld (M6.at 0 rfl) rfl rfl) ?_)))))
  refine WS.eqlN (a := (a.kd).toNat) (b := (b.kd).toNat) rfl rfl rfl (fun e9 => ?_) (fun e9 => ?_)
  ·
   refine D rfl rfl (D rfl rfl (D rfl (op_ld (M6.at 1 rfl) rfl rfl) (D rfl rfl (D rfl (op_ld (M6.at 0 rfl) rfl rfl) ?_))))
   refine WS.eqlN (a := (a.se).toNat) (b := (b.se).toNat) rfl rfl rfl (fun e15 => ?_) (fun e15 => ?_)
   ·
    refine D rfl rfl (D rfl rfl (D rfl rfl (D rfl (op_ld (M6.at 1 rfl) rfl rfl) (D rfl rfl (D rfl (op_ld (M6.at 0 rfl) rfl rfl) ?_)))))
    refine WS.eqlN (a := (a.sq).toNat) (b := (b.sq).toNat) rfl rfl rfl (fun e22 => ?_) (fun e22 => ?_)
    ·
     refine D rfl rfl (D rfl rfl (D rfl rfl (D rfl (op_ld (M6.at 1 rfl) rfl rfl) (D rfl rfl (D rfl (op_ld (M6.at 0 rfl) rfl rfl) ?_)))))
     refine WS.eqlN (a := (a.ld).toNat) (b := (b.ld).toNat) rfl rfl rfl (fun e29 => ?_) (fun e29 => ?_)
     ·
      refine D rfl rfl (D rfl rfl (D rfl rfl (D rfl (op_lds [_, _, _, _] (M6.at 1 rfl) rfl (C rfl) rfl) (D rfl rfl (D rfl (op_lds [_, _, _, _] (M6.at 0 rfl) rfl (C rfl) rfl) ?_)))))
      refine DQ rfl rfl rfl (SameR_ran M6.here (a := a.r) (b := b.r) (A.mono M6.sub) (B.mono M6.sub) (by omega)) ?_
      rintro _ h7 ⟨rfl, N8⟩
      have M9 := M6.trans N8
      refine D rfl rfl (D rfl rfl (F [(4, _)] rfl ?_))
      refine AZ ?_
      cases hb1 : (decide (a.r = b.r))
      ·
       refine ⟨[_], (res_tmp rfl res_nil), ?_⟩
       exact ⟨vbf (fun q => by first | exact absurd (by rw [q]) e9 | exact absurd (by rw [q]) e15 | exact absurd (by rw [q]) e22 | exact absurd (by rw [q]) e29 | exact absurd (by rw [q]) (of_decide_eq_false (p := a.r = b.r) (by assumption))), M9.bare.take 0⟩
      ·
       refine ⟨[_], (res_tmp rfl res_nil), ?_⟩
       exact ⟨vbt (rep_eq (u8_inj e9) (u64_inj e15) (u64_inj e22) (u8_inj e29) (of_decide_eq_true (p := a.r = b.r) (by assumption))), M9.bare.take 0⟩
     ·
      refine D rfl rfl (D rfl rfl (U rfl (U rfl (U rfl (U rfl (WS.offC rfl (D rfl rfl (D rfl rfl (F [(4, _)] rfl ?_)))))))))
      refine AZ (⟨[_], (res_tmp rfl res_nil), ?_⟩)
      exact ⟨vbf (fun q => by first | exact absurd (by rw [q]) e9 | exact absurd (by rw [q]) e15 | exact absurd (by rw [q]) e22 | exact absurd (by rw [q]) e29 | exact absurd (by rw [q]) (of_decide_eq_false (p := a.r = b.r) (by assumption))), M6.bare.take 0⟩
    ·
     refine D rfl rfl (D rfl rfl (U rfl (U rfl (U rfl (U rfl (U rfl (D rfl rfl (D rfl rfl (U rfl ?_)))))))))
     refine U rfl (U rfl (U rfl (WS.offC rfl (D rfl rfl (D rfl rfl (F [(4, _)] rfl ?_))))))
     refine AZ (⟨[_], (res_tmp rfl res_nil), ?_⟩)
     exact ⟨vbf (fun q => by first | exact absurd (by rw [q]) e9 | exact absurd (by rw [q]) e15 | exact absurd (by rw [q]) e22 | exact absurd (by rw [q]) e29 | exact absurd (by rw [q]) (of_decide_eq_false (p := a.r = b.r) (by assumption))), M6.bare.take 0⟩
   ·
    refine D rfl rfl (D rfl rfl (U rfl (U rfl (U rfl (U rfl (U rfl (D rfl rfl (D rfl rfl (U rfl ?_)))))))))
    refine U rfl (U rfl (U rfl (U rfl (D rfl rfl (D rfl rfl (U rfl (U rfl (U rfl (U rfl ?_)))))))))
    refine WS.offC rfl (D rfl rfl (D rfl rfl (F [(4, _)] rfl ?_)))
    refine AZ (⟨[_], (res_tmp rfl res_nil), ?_⟩)
    exact ⟨vbf (fun q => by first | exact absurd (by rw [q]) e9 | exact absurd (by rw [q]) e15 | exact absurd (by rw [q]) e22 | exact absurd (by rw [q]) e29 | exact absurd (by rw [q]) (of_decide_eq_false (p := a.r = b.r) (by assumption))), M6.bare.take 0⟩
  ·
   refine D rfl rfl (U rfl (U rfl (U rfl (U rfl (U rfl (D rfl rfl (D rfl rfl (U rfl (U rfl ?_)))))))))
   refine U rfl (U rfl (U rfl (D rfl rfl (D rfl rfl (U rfl (U rfl (U rfl (U rfl (U rfl ?_)))))))))
   refine D rfl rfl (D rfl rfl (U rfl (U rfl (U rfl (U rfl (WS.offC rfl (D rfl rfl (D rfl rfl (F [(4, _)] rfl ?_)))))))))
   refine AZ (⟨[_], (res_tmp rfl res_nil), ?_⟩)
   exact ⟨vbf (fun q => by first | exact absurd (by rw [q]) e9 | exact absurd (by rw [q]) e15 | exact absurd (by rw [q]) e22 | exact absurd (by rw [q]) e29 | exact absurd (by rw [q]) (of_decide_eq_false (p := a.r = b.r) (by assumption))), M6.bare.take 0⟩
theorem rdP_no {s : List UInt8} (h : ∀ p0, GoodP2 p0 → encP p0 ≠ s) : Rd GoodP2 encP zeroP s zeroP false := ⟨fun q => (nomatch q), fun _ => ⟨rfl, h⟩⟩
theorem rdP_yes {s : List UInt8} {p : Rep} (g : GoodP2 p) (h : encP p = s) : Rd GoodP2 encP zeroP s p true := ⟨fun _ => ⟨g, h⟩, fun q => (nomatch q)⟩
theorem encP_ne (p : Rep) : encP p ≠ [] := by rw [encP_cons]; simp
theorem wrP_t {p : Rep} (h : (if mayPB p then encP p else []) ≠ []) : MayP p := by
  cases q : mayPB p with
  | true => exact of_decide_eq_true q
  | false => rw [q] at h; exact absurd rfl h
theorem rv2 {s : List UInt8} {a b : UInt64} {t : List UInt8} (h : s.drop 1 = vb a.toNat ++ (vb b.toNat ++ t)) : rvN (s.drop 1) = a.toNat ∧ rvOK (s.drop 1) = true ∧ rvK (s.drop 1) = (vb a.toNat).length ∧ (s.drop 1).drop (rvK (s.drop 1)) = vb b.toNat ++ t ∧ rvN ((s.drop 1).drop (rvK (s.drop 1))) = b.toNat ∧ rvOK ((s.drop 1).drop (rvK (s.drop 1))) = true ∧ (s.drop 1).drop (rvK (s.drop 1) + rvK ((s.drop 1).drop (rvK (s.drop 1)))) = t := by
  obtain ⟨e1, e2, e3⟩ := rv_eq_some (show getV (s.drop 1) = some (a.toNat, (vb a.toNat).length) by rw [h]; exact getV_vb a.toNat_lt _)
  have e4 : (s.drop 1).drop (rvK (s.drop 1)) = vb b.toNat ++ t := by rw [e2, h, List.drop_left]
  obtain ⟨f1, f2, f3⟩ := rv_eq_some (show getV ((s.drop 1).drop (rvK (s.drop 1))) = some (b.toNat, (vb b.toNat).length) by rw [e4]; exact getV_vb b.toNat_lt _)
  refine ⟨e1, e3, e2, e4, f1, f3, ?_⟩
  rw [← List.drop_drop, f2, e4, List.drop_left]
set_option maxRecDepth 8000 in
theorem ReadP_ran (W : Mem h h [] []) {s : List UInt8} (hl : s.length ≤ 299000) : Cll tab0 14 [.string (bs s)] h (fun v h2 => ∃ p V S ok, KRrow.Own V (Res.rs p.r) S ∧ v = .tuple #[Rep.val p V, .bool ok] ∧ FitRes p.r ∧ Rd GoodP2 encP zeroP s p ok ∧ Mem h h2 [S] []) := by
  have hk1 := rvK_le (s.drop 1)
  have hk2 := rvK_le ((s.drop 1).drop (rvK (s.drop 1)))
  have hn1 := rvN_lt (s.drop 1)
  have hn2 := rvN_lt ((s.drop 1).drop (rvK (s.drop 1)))
  have hd1 : (s.drop 1).length = s.length - 1 := Y
  have hd2 : ((s.drop 1).drop (rvK (s.drop 1))).length = s.length - 1 - rvK (s.drop 1) := by rw [Y, hd1]
  refine Cll.code rfl rfl ?_
  refine WC.env [(0, _)] rfl ?_
  refine G (J (WS.new W rfl ?_))
  intro p1 h2 M3
  refine D rfl rfl (F [(0, _), (2, _)] rfl ?_)
  refine G (G (J (D rfl rfl ?_)))
  refine WS.seql (l := s) (m := []) rfl rfl rfl (fun e13 => ?_) (fun e13 => ?_)
  ·
   refine F [(0, _), (2, _), (13, _)] rfl ?_
   refine AX rfl (G (J (CX (.agg #[(.int .u8 (0 : Int)), (.int .u64 (0 : Int)), (.int .u64 (0 : Int)), (.int .u8 (0 : Int)), (.int .u8 (0 : Int)), (.int .u64 (0 : Int)), (.string (bs ([]))), (.slice none 0 0)]) rfl rfl rfl ?_)))
   refine BX (M3.focus 0 rfl) [_, _, _, _, _, _, _, _] [_, _, _, _, _, _, _, _] rfl rfl rfl rfl rfl (C rfl) (C rfl) rfl rfl ?_
   intro h4 M5
   replace M5 : Mem _ _ ([(p1, _)] :: []) _ := M5
   refine D rfl rfl (F [(2, _), (3, _)] rfl ?_)
   refine AZ (⟨[_, _], (res_cellN [_, _, _, _, _, _, _, _] rfl (M5.at 0 rfl) (C rfl) rfl (res_tmp rfl res_nil)), ?_⟩)
   exact ⟨zeroP, .slice none 0 0, [], false, .nil, rfl, fitR0, rdP_no (fun p0 _ e => encP_ne p0 (by rw [e]; assumption)), (M5.bare.take 0).nils⟩
  ·
   refine F [(0, _), (2, _), (13, _)] rfl ?_
   refine BQ rfl (CQ (G (J (D rfl rfl ?_))))
   obtain ⟨a, ha⟩ : ∃ c, (s)[0]? = some c := ⟨_, List.getElem?_eq_getElem (show 0 < (s).length by exact List.length_pos_iff.2 e13)⟩
   refine D rfl (op_ixS 0 rfl rfl ha) (CX (.agg #[(.int .u8 (((a).toNat : Nat) : Int)), (.int .u64 (0 : Int)), (.int .u64 (0 : Int)), (.int .u8 (0 : Int)), (.int .u8 (0 : Int)), (.int .u64 (0 : Int)), (.string (bs ([]))), (.slice none 0 0)]) rfl rfl rfl ?_)
   refine WS.new M3 rfl ?_
   intro p6 h7 M8
   refine BX (M8.focus 0 rfl) [_, _, _, _, _, _, _, _] [_, _, _, _, _, _, _, _] rfl rfl rfl rfl rfl (C rfl) (C rfl) rfl rfl ?_
   intro h9 M10
   replace M10 : Mem _ _ ([(p6, _)] :: [(p1, _)] :: []) _ := M10
   refine F [(0, _), (2, _), (4, _)] rfl ?_
   refine G (J (D rfl rfl ?_))
   have hpos := List.length_pos_iff.2 e13
   refine D rfl (op_slS0 (l := s) 1 rfl rfl (by first | omega | (simp only [Y, DX, BZ, AQ, X, CZ]; omega) | (simp only [Y, DX, BZ, AQ, X, CZ] at *; omega))) (D rfl rfl (F [(0, _), (2, _), (4, _), (5, _)] rfl ?_))
   refine G (G (J (D rfl rfl (D rfl (op_ld (M10.at 0 rfl) rfl rfl) ?_))))
   refine WS.neqN (a := (a).toNat) (b := 1) rfl rfl rfl (fun e22 => ?_) (fun e22 => ?_)
   ·
    refine F [(0, _), (2, _), (4, _), (5, _), (22, _)] rfl ?_
    refine AX rfl (G (J (D rfl rfl ?_)))
    refine DQ rfl rfl rfl (num_ReadV_ran M10.here (l := ((s).drop 1)) (by first | omega | (simp only [Y, DX, BZ, AQ, X, CZ]; omega) | (simp only [Y, DX, BZ, AQ, X, CZ] at *; omega))) ?_
    rintro _ h11 ⟨rfl, N12⟩
    have M13 := M10.trans N12
    refine D rfl rfl (CX (.int .u64 (((UInt64.ofNat (rvN ((s).drop 1))).toNat : Nat) : Int)) rfl rfl (u64_ofNat (n := (rvN ((s).drop 1))) (by have := rvN_lt ((s).drop 1); omega)) (D rfl rfl (D rfl rfl (D rfl rfl (D rfl rfl (D rfl rfl (F [(0, _), (2, _), (4, _), (5, _), (6, _), (7, _)] rfl ?_)))))))
    refine G (J (D rfl rfl (D rfl rfl (D rfl (op_slS0 (l := ((s).drop 1)) (rvK ((s).drop 1)) rfl rfl (by omega)) ?_))))
    refine DQ rfl rfl rfl (num_ReadV_ran M13.here (l := ((((s).drop 1)).drop (rvK ((s).drop 1)))) (by first | omega | (simp only [Y, DX, BZ, AQ, X, CZ]; omega) | (simp only [Y, DX, BZ, AQ, X, CZ] at *; omega))) ?_
    rintro _ h15 ⟨rfl, N16⟩
    have M17 := M13.trans N16
    refine D rfl rfl (CX (.int .u64 (((UInt64.ofNat (rvN ((((s).drop 1)).drop (rvK ((s).drop 1))))).toNat : Nat) : Int)) rfl rfl (u64_ofNat (n := (rvN ((((s).drop 1)).drop (rvK ((s).drop 1))))) (by have := rvN_lt ((((s).drop 1)).drop (rvK ((s).drop 1))); omega)) (D rfl rfl (D rfl rfl (D rfl rfl (D rfl rfl (D rfl rfl (F [(0, _), (2, _), (4, _), (5, _), (6, _), (7, _), (9, _), (10, _)] rfl ?_)))))))
    refine WC.draw M17 [] rfl ?_
    intro rb19 h20 M21
    refine D rfl rfl (D rfl rfl (D rfl rfl (D rfl rfl (D rfl rfl (CX (.int .i64 ((((rvK ((s).drop 1)) + (rvK ((((s).drop 1)).drop (rvK ((s).drop 1))))) : Nat) : Int)) rfl rfl (add_i64 (a := (rvK ((s).drop 1))) (b := (rvK ((((s).drop 1)).drop (rvK ((s).drop 1))))) (by have := rvK_le ((s).drop 1); have := rvK_le ((((s).drop 1)).drop (rvK ((s).drop 1))); omega)) (D rfl (op_slS0 (l := ((s).drop 1)) ((rvK ((s).drop 1)) + (rvK ((((s).drop 1)).drop (rvK ((s).drop 1))))) rfl rfl (by omega)) (D rfl rfl ?_)))))))
    refine BX (M21.focus 0 rfl) [_] [_, _, _, _, _, _, _, _] rfl rfl rfl rfl rfl (C rfl) (C rfl) rfl rfl ?_
    intro h22 M23
    replace M23 : Mem _ _ ([(p6, _)] :: [(p1, _)] :: []) _ := M23
    refine D rfl rfl ?_
    refine BX (M23.focus 0 rfl) [_] [_, _, _, _, _, _, _, _] rfl rfl rfl rfl rfl (C rfl) (C rfl) rfl rfl ?_
    intro h24 M25
    replace M25 : Mem _ _ ([(p6, _)] :: [(p1, _)] :: []) _ := M25
    refine D rfl rfl (F [(0, _), (2, _), (4, _), (5, _)] rfl ?_)
    refine G (WC.block (G (J (D rfl rfl (D rfl (op_ld (M25.bare.at 0 rfl) rfl rfl) ?_)))))
    refine WS.eqlN (a := (a).toNat) (b := 3) rfl rfl rfl (fun e49 => ?_) (fun e49 => ?_)
    ·
     refine D rfl rfl (D rfl rfl ?_)
     refine WS.sneq (l := ((((s).drop 1)).drop ((rvK ((s).drop 1)) + (rvK ((((s).drop 1)).drop (rvK ((s).drop 1))))))) (m := []) rfl rfl rfl (fun e52 => ?_) (fun e52 => ?_)
     ·
      refine D rfl rfl (D rfl rfl (F [(0, _), (2, _), (4, _), (5, _), (46, _)] rfl ?_))
      refine AX rfl (J (D rfl rfl ?_))
      obtain ⟨b_, hb_⟩ : ∃ c, (((((s).drop 1)).drop ((rvK ((s).drop 1)) + (rvK ((((s).drop 1)).drop (rvK ((s).drop 1)))))))[0]? = some c := ⟨_, List.getElem?_eq_getElem (show 0 < (((((s).drop 1)).drop ((rvK ((s).drop 1)) + (rvK ((((s).drop 1)).drop (rvK ((s).drop 1))))))).length by exact List.length_pos_iff.2 e52)⟩
      refine D rfl (op_ixS 0 rfl rfl hb_) (D rfl rfl ?_)
      refine BX (M25.bare.focus 0 rfl) [_] [_, _, _, _, _, _, _, _] rfl rfl rfl rfl rfl (C rfl) (C rfl) rfl rfl ?_
      intro h26 M27
      replace M27 : Mem _ _ ([(p6, _)] :: [(p1, _)] :: []) _ := M27
      refine F [(0, _), (2, _), (4, _)] rfl ?_
      refine G (G (J (D rfl (op_lds [_, _, _, _, _, _, _, _] (M27.at 0 rfl) rfl (C rfl) rfl) ?_)))
      refine DQ rfl rfl rfl (WriteP_ran M27.here (p := (⟨a, (UInt64.ofNat (rvN ((s).drop 1))), (UInt64.ofNat (rvN ((((s).drop 1)).drop (rvK ((s).drop 1))))), b_, (⟨0, 0, ([]), []⟩ : Res)⟩ : Rep)) Row.Sl.nil (by first | exact hF63 | exact fitR0)) ?_
      rintro _ h28 ⟨rfl, N29⟩
      have M30 := M27.trans N29
      refine D rfl rfl ?_
      refine WS.sneq (l := (if mayPB (⟨a, (UInt64.ofNat (rvN ((s).drop 1))), (UInt64.ofNat (rvN ((((s).drop 1)).drop (rvK ((s).drop 1))))), b_, (⟨0, 0, ([]), []⟩ : Res)⟩ : Rep) then encP (⟨a, (UInt64.ofNat (rvN ((s).drop 1))), (UInt64.ofNat (rvN ((((s).drop 1)).drop (rvK ((s).drop 1))))), b_, (⟨0, 0, ([]), []⟩ : Res)⟩ : Rep) else [])) (m := s) rfl rfl rfl (fun e70 => ?_) (fun e70 => ?_)
      ·
       refine F [(2, _), (4, _), (70, _)] rfl ?_
       refine AX rfl (G (J (CX (.agg #[(.int .u8 (0 : Int)), (.int .u64 (0 : Int)), (.int .u64 (0 : Int)), (.int .u8 (0 : Int)), (.int .u8 (0 : Int)), (.int .u64 (0 : Int)), (.string (bs ([]))), (.slice none 0 0)]) rfl rfl rfl ?_)))
       refine BX (M30.focus 1 rfl) [_, _, _, _, _, _, _, _] [_, _, _, _, _, _, _, _] rfl rfl rfl rfl rfl (C rfl) (C rfl) rfl rfl ?_
       intro h31 M32
       replace M32 : Mem _ _ ([(p1, _)] :: [(p6, _)] :: []) _ := M32
       refine D rfl rfl (F [(2, _), (3, _)] rfl ?_)
       refine AZ (⟨[_, _], (res_cellN [_, _, _, _, _, _, _, _] rfl (M32.at 0 rfl) (C rfl) rfl (res_tmp rfl res_nil)), ?_⟩)
       have hno : ∀ p0, GoodP2 p0 → encP p0 ≠ s := by
         intro p0 hg he
         have hs0 : s = a :: s.drop 1 := by simpa using drop_cons ha
         have hka : p0.kd = a := by rw [hs0, encP_cons] at he; exact (List.cons.inj he).1
         have htl : (encP p0).tail = s.drop 1 := by rw [hs0, encP_cons] at he; exact (List.cons.inj he).2
         obtain ⟨⟨g1, g2, g3, g4, g5⟩, hfr⟩ := id hg
         apply absurd (show (if mayPB (⟨a, (UInt64.ofNat (rvN ((s).drop 1))), (UInt64.ofNat (rvN ((((s).drop 1)).drop (rvK ((s).drop 1))))), b_, (⟨0, 0, ([]), []⟩ : Res)⟩ : Rep) then encP (⟨a, (UInt64.ofNat (rvN ((s).drop 1))), (UInt64.ofNat (rvN ((((s).drop 1)).drop (rvK ((s).drop 1))))), b_, (⟨0, 0, ([]), []⟩ : Res)⟩ : Rep) else []) = s from ?_) (by assumption)
         have hp : (⟨a, (UInt64.ofNat (rvN ((s).drop 1))), (UInt64.ofNat (rvN ((((s).drop 1)).drop (rvK ((s).drop 1))))), b_, (⟨0, 0, ([]), []⟩ : Res)⟩ : Rep) = p0 := by
           by_cases k1 : a.toNat = 1
           · first
             | (exfalso; omega)
             | exact rep_eq hka.symm (g2 (by rw [hka]; exact k1)).1.symm (g2 (by rw [hka]; exact k1)).2.symm (by first | (exfalso; omega) | exact (g3 (by rw [hka]; omega)).symm) (by first | (exfalso; omega) | exact (g5 (by rw [hka]; omega)).symm)
           have htl2 : s.drop 1 = vb p0.se.toNat ++ (vb p0.sq.toNat ++ lastP p0) := by
             rw [← htl, encP_n (by rw [hka]; exact k1)]; simp
           obtain ⟨r1, r2, r3, r4, r5, r6, r7⟩ := rv2 htl2
           have s1 : UInt64.ofNat (rvN (s.drop 1)) = p0.se := by rw [r1]; simp
           have s2 : UInt64.ofNat (rvN ((s.drop 1).drop (rvK (s.drop 1)))) = p0.sq := by rw [r5]; simp
           first
           | (exfalso; omega)
           | exact rep_eq hka.symm s1 s2 (g3 (by rw [hka]; omega)).symm (g5 (by rw [hka]; omega)).symm
           | (have l3 : lastP p0 = [p0.ld] := if_pos (by rw [hka]; omega)
              rw [l3] at r7
              first
              | exact rep_eq hka.symm s1 s2 (by rw [r7] at hb_; simpa using hb_.symm) (g5 (by rw [hka]; omega)).symm
              | (exfalso; rw [r7] at e52; cases e52; done))
           | (have l6 : lastP p0 = encR p0.r := by (unfold lastP; rw [if_neg (by rw [hka]; omega), if_pos (by rw [hka]; omega)])
              rw [l6] at r7
              rw [r7] at hC63
              exact rep_eq hka.symm s1 s2 (g3 (by rw [hka]; omega)).symm (rd_self encR_pf hfr (hC63.rd hF63)).2)
         rw [hp, if_pos (show mayPB p0 = true from decide_eq_true hg.1)]; exact he
       exact ⟨zeroP, .slice none 0 0, [], false, .nil, rfl, fitR0, rdP_no hno, (M32.bare.take 0).nils⟩
      ·
       refine F [(2, _), (4, _), (70, _)] rfl ?_
       refine BQ rfl (CQ (G (J (D rfl (op_lds [_, _, _, _, _, _, _, _] (M30.at 0 rfl) rfl (C rfl) rfl) ?_))))
       refine BX (M30.focus 1 rfl) [_, _, _, _, _, _, _, _] [_, _, _, _, _, _, _, _] rfl rfl rfl rfl rfl (C rfl) (C rfl) rfl rfl ?_
       intro h33 M34
       replace M34 : Mem _ _ ([(p1, _)] :: [(p6, _)] :: []) _ := M34
       refine D rfl rfl (F [(2, _), (3, _)] rfl ?_)
       refine AZ (⟨[_, _], (res_cellN [_, _, _, _, _, _, _, _] rfl (M34.at 0 rfl) (C rfl) rfl (res_tmp rfl res_nil)), ?_⟩)
       have e70b : (if mayPB (⟨a, (UInt64.ofNat (rvN ((s).drop 1))), (UInt64.ofNat (rvN ((((s).drop 1)).drop (rvK ((s).drop 1))))), b_, (⟨0, 0, ([]), []⟩ : Res)⟩ : Rep) then encP (⟨a, (UInt64.ofNat (rvN ((s).drop 1))), (UInt64.ofNat (rvN ((((s).drop 1)).drop (rvK ((s).drop 1))))), b_, (⟨0, 0, ([]), []⟩ : Res)⟩ : Rep) else []) = s := by assumption
       have hm : MayP (⟨a, (UInt64.ofNat (rvN ((s).drop 1))), (UInt64.ofNat (rvN ((((s).drop 1)).drop (rvK ((s).drop 1))))), b_, (⟨0, 0, ([]), []⟩ : Res)⟩ : Rep) := wrP_t (by rw [e70b]; exact e13)
       have henc : encP (⟨a, (UInt64.ofNat (rvN ((s).drop 1))), (UInt64.ofNat (rvN ((((s).drop 1)).drop (rvK ((s).drop 1))))), b_, (⟨0, 0, ([]), []⟩ : Res)⟩ : Rep) = s := by rw [if_pos (show mayPB (⟨a, (UInt64.ofNat (rvN ((s).drop 1))), (UInt64.ofNat (rvN ((((s).drop 1)).drop (rvK ((s).drop 1))))), b_, (⟨0, 0, ([]), []⟩ : Res)⟩ : Rep) = true from decide_eq_true hm)] at e70b; exact e70b
       exact ⟨(⟨a, (UInt64.ofNat (rvN ((s).drop 1))), (UInt64.ofNat (rvN ((((s).drop 1)).drop (rvK ((s).drop 1))))), b_, (⟨0, 0, ([]), []⟩ : Res)⟩ : Rep), _, _, true, .nil, rfl, (by first | exact hF63 | exact fitR0), rdP_yes ⟨hm, by first | exact hF63 | exact fitR0⟩ henc, (M34.bare.take 0).nils⟩
     ·
      refine D rfl rfl (D rfl rfl (F [(0, _), (2, _), (4, _), (5, _), (46, _)] rfl ?_))
      refine BQ rfl (G (J (D rfl rfl (D rfl (op_ld (M25.bare.at 0 rfl) rfl rfl) ?_))))
      refine WS.eqlN (a := (a).toNat) (b := 6) rfl rfl rfl (fun e60 => ?_) (fun e60 => ?_)
      ·
       refine D rfl rfl (F [(0, _), (2, _), (4, _), (5, _), (57, _)] rfl ?_)
       refine AX rfl (J (D rfl rfl ?_))
       refine DQ rfl rfl rfl (ReadR_ran M25.bare.here (s := ((((s).drop 1)).drop ((rvK ((s).drop 1)) + (rvK ((((s).drop 1)).drop (rvK ((s).drop 1))))))) (by first | omega | (simp only [Y]; omega))) ?_
       rintro _ h35 ⟨r63, V38, S39, ok63, O40, rfl, hF63, hy63, hn63, hC63, N36⟩
       obtain ⟨P41, rfl⟩ := O40.shape
       have M37 := M25.bare.trans N36
       replace M37 : Mem _ _ (S39 :: [(p6, _)] :: [(p1, _)] :: []) _ := M37
       refine D rfl rfl (D rfl rfl (D rfl rfl (D rfl rfl ?_)))
       refine BX (M37.focus 1 rfl) [_, _, _, _] [_, _, _, _, _, _, _, _] rfl rfl rfl rfl rfl (C rfl) (C rfl) rfl rfl ?_
       intro h42 M43
       replace M43 : Mem _ _ ([(p6, _)] :: S39 :: [(p1, _)] :: []) _ := M43
       refine F [(0, _), (2, _), (4, _)] rfl ?_
       refine G (G (J (D rfl (op_lds [_, _, _, _, _, _, _, _] (M43.at 0 rfl) rfl (C rfl) rfl) ?_)))
       refine DQ rfl rfl rfl (WriteP_ran M43.here (p := (⟨a, (UInt64.ofNat (rvN ((s).drop 1))), (UInt64.ofNat (rvN ((((s).drop 1)).drop (rvK ((s).drop 1))))), 0, r63⟩ : Rep)) (Row.Own.sl O40 (Mem.owni M43 1 rfl)) (by first | exact hF63 | exact fitR0)) ?_
       rintro _ h44 ⟨rfl, N45⟩
       have M46 := M43.trans N45
       refine D rfl rfl ?_
       refine WS.sneq (l := (if mayPB (⟨a, (UInt64.ofNat (rvN ((s).drop 1))), (UInt64.ofNat (rvN ((((s).drop 1)).drop (rvK ((s).drop 1))))), 0, r63⟩ : Rep) then encP (⟨a, (UInt64.ofNat (rvN ((s).drop 1))), (UInt64.ofNat (rvN ((((s).drop 1)).drop (rvK ((s).drop 1))))), 0, r63⟩ : Rep) else [])) (m := s) rfl rfl rfl (fun e70 => ?_) (fun e70 => ?_)
       ·
        refine F [(2, _), (4, _), (70, _)] rfl ?_
        refine AX rfl (G (J (CX (.agg #[(.int .u8 (0 : Int)), (.int .u64 (0 : Int)), (.int .u64 (0 : Int)), (.int .u8 (0 : Int)), (.int .u8 (0 : Int)), (.int .u64 (0 : Int)), (.string (bs ([]))), (.slice none 0 0)]) rfl rfl rfl ?_)))
        refine BX (M46.focus 2 rfl) [_, _, _, _, _, _, _, _] [_, _, _, _, _, _, _, _] rfl rfl rfl rfl rfl (C rfl) (C rfl) rfl rfl ?_
        intro h47 M48
        replace M48 : Mem _ _ ([(p1, _)] :: [(p6, _)] :: S39 :: []) _ := M48
        refine D rfl rfl (F [(2, _), (3, _)] rfl ?_)
        refine AZ (⟨[_, _], (res_cellN [_, _, _, _, _, _, _, _] rfl (M48.at 0 rfl) (C rfl) rfl (res_tmp rfl res_nil)), ?_⟩)
        have hno : ∀ p0, GoodP2 p0 → encP p0 ≠ s := by
          intro p0 hg he
          have hs0 : s = a :: s.drop 1 := by simpa using drop_cons ha
          have hka : p0.kd = a := by rw [hs0, encP_cons] at he; exact (List.cons.inj he).1
          have htl : (encP p0).tail = s.drop 1 := by rw [hs0, encP_cons] at he; exact (List.cons.inj he).2
          obtain ⟨⟨g1, g2, g3, g4, g5⟩, hfr⟩ := id hg
          apply absurd (show (if mayPB (⟨a, (UInt64.ofNat (rvN ((s).drop 1))), (UInt64.ofNat (rvN ((((s).drop 1)).drop (rvK ((s).drop 1))))), 0, r63⟩ : Rep) then encP (⟨a, (UInt64.ofNat (rvN ((s).drop 1))), (UInt64.ofNat (rvN ((((s).drop 1)).drop (rvK ((s).drop 1))))), 0, r63⟩ : Rep) else []) = s from ?_) (by assumption)
          have hp : (⟨a, (UInt64.ofNat (rvN ((s).drop 1))), (UInt64.ofNat (rvN ((((s).drop 1)).drop (rvK ((s).drop 1))))), 0, r63⟩ : Rep) = p0 := by
            by_cases k1 : a.toNat = 1
            · first
              | (exfalso; omega)
              | exact rep_eq hka.symm (g2 (by rw [hka]; exact k1)).1.symm (g2 (by rw [hka]; exact k1)).2.symm (by first | (exfalso; omega) | exact (g3 (by rw [hka]; omega)).symm) (by first | (exfalso; omega) | exact (g5 (by rw [hka]; omega)).symm)
            have htl2 : s.drop 1 = vb p0.se.toNat ++ (vb p0.sq.toNat ++ lastP p0) := by
              rw [← htl, encP_n (by rw [hka]; exact k1)]; simp
            obtain ⟨r1, r2, r3, r4, r5, r6, r7⟩ := rv2 htl2
            have s1 : UInt64.ofNat (rvN (s.drop 1)) = p0.se := by rw [r1]; simp
            have s2 : UInt64.ofNat (rvN ((s.drop 1).drop (rvK (s.drop 1)))) = p0.sq := by rw [r5]; simp
            first
            | (exfalso; omega)
            | exact rep_eq hka.symm s1 s2 (g3 (by rw [hka]; omega)).symm (g5 (by rw [hka]; omega)).symm
            | (have l3 : lastP p0 = [p0.ld] := if_pos (by rw [hka]; omega)
               rw [l3] at r7
               first
               | exact rep_eq hka.symm s1 s2 (by rw [r7] at hb_; simpa using hb_.symm) (g5 (by rw [hka]; omega)).symm
               | (exfalso; rw [r7] at e52; cases e52; done))
            | (have l6 : lastP p0 = encR p0.r := by (unfold lastP; rw [if_neg (by rw [hka]; omega), if_pos (by rw [hka]; omega)])
               rw [l6] at r7
               rw [r7] at hC63
               exact rep_eq hka.symm s1 s2 (g3 (by rw [hka]; omega)).symm (rd_self encR_pf hfr (hC63.rd hF63)).2)
          rw [hp, if_pos (show mayPB p0 = true from decide_eq_true hg.1)]; exact he
        exact ⟨zeroP, .slice none 0 0, [], false, .nil, rfl, fitR0, rdP_no hno, (M48.bare.take 0).nils⟩
       ·
        refine F [(2, _), (4, _), (70, _)] rfl ?_
        refine BQ rfl (CQ (G (J (D rfl (op_lds [_, _, _, _, _, _, _, _] (M46.at 0 rfl) rfl (C rfl) rfl) ?_))))
        refine BX (M46.focus 2 rfl) [_, _, _, _, _, _, _, _] [_, _, _, _, _, _, _, _] rfl rfl rfl rfl rfl (C rfl) (C rfl) rfl rfl ?_
        intro h49 M50
        replace M50 : Mem _ _ ([(p1, _)] :: [(p6, _)] :: S39 :: []) _ := M50
        refine D rfl rfl (F [(2, _), (3, _)] rfl ?_)
        refine AZ (⟨[_, _], (res_cellN [_, _, _, _, _, _, _, _] rfl (M50.at 0 rfl) (C rfl) rfl (res_tmp rfl res_nil)), ?_⟩)
        have e70b : (if mayPB (⟨a, (UInt64.ofNat (rvN ((s).drop 1))), (UInt64.ofNat (rvN ((((s).drop 1)).drop (rvK ((s).drop 1))))), 0, r63⟩ : Rep) then encP (⟨a, (UInt64.ofNat (rvN ((s).drop 1))), (UInt64.ofNat (rvN ((((s).drop 1)).drop (rvK ((s).drop 1))))), 0, r63⟩ : Rep) else []) = s := by assumption
        have hm : MayP (⟨a, (UInt64.ofNat (rvN ((s).drop 1))), (UInt64.ofNat (rvN ((((s).drop 1)).drop (rvK ((s).drop 1))))), 0, r63⟩ : Rep) := wrP_t (by rw [e70b]; exact e13)
        have henc : encP (⟨a, (UInt64.ofNat (rvN ((s).drop 1))), (UInt64.ofNat (rvN ((((s).drop 1)).drop (rvK ((s).drop 1))))), 0, r63⟩ : Rep) = s := by rw [if_pos (show mayPB (⟨a, (UInt64.ofNat (rvN ((s).drop 1))), (UInt64.ofNat (rvN ((((s).drop 1)).drop (rvK ((s).drop 1))))), 0, r63⟩ : Rep) = true from decide_eq_true hm)] at e70b; exact e70b
        exact ⟨(⟨a, (UInt64.ofNat (rvN ((s).drop 1))), (UInt64.ofNat (rvN ((((s).drop 1)).drop (rvK ((s).drop 1))))), 0, r63⟩ : Rep), _, _, true, O40, rfl, (by first | exact hF63 | exact fitR0), rdP_yes ⟨hm, by first | exact hF63 | exact fitR0⟩ henc, ((M50.bare.focus 2 rfl).take 1)⟩
      ·
       refine D rfl rfl (F [(0, _), (2, _), (4, _), (5, _), (57, _)] rfl ?_)
       refine BQ rfl (CQ (G (G (J (D rfl (op_lds [_, _, _, _, _, _, _, _] (M25.bare.at 0 rfl) rfl (C rfl) rfl) ?_)))))
       refine DQ rfl rfl rfl (WriteP_ran M25.bare.here (p := (⟨a, (UInt64.ofNat (rvN ((s).drop 1))), (UInt64.ofNat (rvN ((((s).drop 1)).drop (rvK ((s).drop 1))))), 0, (⟨0, 0, ([]), []⟩ : Res)⟩ : Rep)) Row.Sl.nil (by first | exact hF63 | exact fitR0)) ?_
       rintro _ h51 ⟨rfl, N52⟩
       have M53 := M25.bare.trans N52
       refine D rfl rfl ?_
       refine WS.sneq (l := (if mayPB (⟨a, (UInt64.ofNat (rvN ((s).drop 1))), (UInt64.ofNat (rvN ((((s).drop 1)).drop (rvK ((s).drop 1))))), 0, (⟨0, 0, ([]), []⟩ : Res)⟩ : Rep) then encP (⟨a, (UInt64.ofNat (rvN ((s).drop 1))), (UInt64.ofNat (rvN ((((s).drop 1)).drop (rvK ((s).drop 1))))), 0, (⟨0, 0, ([]), []⟩ : Res)⟩ : Rep) else [])) (m := s) rfl rfl rfl (fun e70 => ?_) (fun e70 => ?_)
       ·
        refine F [(2, _), (4, _), (70, _)] rfl ?_
        refine AX rfl (G (J (CX (.agg #[(.int .u8 (0 : Int)), (.int .u64 (0 : Int)), (.int .u64 (0 : Int)), (.int .u8 (0 : Int)), (.int .u8 (0 : Int)), (.int .u64 (0 : Int)), (.string (bs ([]))), (.slice none 0 0)]) rfl rfl rfl ?_)))
        refine BX (M53.focus 1 rfl) [_, _, _, _, _, _, _, _] [_, _, _, _, _, _, _, _] rfl rfl rfl rfl rfl (C rfl) (C rfl) rfl rfl ?_
        intro h54 M55
        replace M55 : Mem _ _ ([(p1, _)] :: [(p6, _)] :: []) _ := M55
        refine D rfl rfl (F [(2, _), (3, _)] rfl ?_)
        refine AZ (⟨[_, _], (res_cellN [_, _, _, _, _, _, _, _] rfl (M55.at 0 rfl) (C rfl) rfl (res_tmp rfl res_nil)), ?_⟩)
        have hno : ∀ p0, GoodP2 p0 → encP p0 ≠ s := by
          intro p0 hg he
          have hs0 : s = a :: s.drop 1 := by simpa using drop_cons ha
          have hka : p0.kd = a := by rw [hs0, encP_cons] at he; exact (List.cons.inj he).1
          have htl : (encP p0).tail = s.drop 1 := by rw [hs0, encP_cons] at he; exact (List.cons.inj he).2
          obtain ⟨⟨g1, g2, g3, g4, g5⟩, hfr⟩ := id hg
          apply absurd (show (if mayPB (⟨a, (UInt64.ofNat (rvN ((s).drop 1))), (UInt64.ofNat (rvN ((((s).drop 1)).drop (rvK ((s).drop 1))))), 0, (⟨0, 0, ([]), []⟩ : Res)⟩ : Rep) then encP (⟨a, (UInt64.ofNat (rvN ((s).drop 1))), (UInt64.ofNat (rvN ((((s).drop 1)).drop (rvK ((s).drop 1))))), 0, (⟨0, 0, ([]), []⟩ : Res)⟩ : Rep) else []) = s from ?_) (by assumption)
          have hp : (⟨a, (UInt64.ofNat (rvN ((s).drop 1))), (UInt64.ofNat (rvN ((((s).drop 1)).drop (rvK ((s).drop 1))))), 0, (⟨0, 0, ([]), []⟩ : Res)⟩ : Rep) = p0 := by
            by_cases k1 : a.toNat = 1
            · first
              | (exfalso; omega)
              | exact rep_eq hka.symm (g2 (by rw [hka]; exact k1)).1.symm (g2 (by rw [hka]; exact k1)).2.symm (by first | (exfalso; omega) | exact (g3 (by rw [hka]; omega)).symm) (by first | (exfalso; omega) | exact (g5 (by rw [hka]; omega)).symm)
            have htl2 : s.drop 1 = vb p0.se.toNat ++ (vb p0.sq.toNat ++ lastP p0) := by
              rw [← htl, encP_n (by rw [hka]; exact k1)]; simp
            obtain ⟨r1, r2, r3, r4, r5, r6, r7⟩ := rv2 htl2
            have s1 : UInt64.ofNat (rvN (s.drop 1)) = p0.se := by rw [r1]; simp
            have s2 : UInt64.ofNat (rvN ((s.drop 1).drop (rvK (s.drop 1)))) = p0.sq := by rw [r5]; simp
            first
            | (exfalso; omega)
            | exact rep_eq hka.symm s1 s2 (g3 (by rw [hka]; omega)).symm (g5 (by rw [hka]; omega)).symm
            | (have l3 : lastP p0 = [p0.ld] := if_pos (by rw [hka]; omega)
               rw [l3] at r7
               first
               | exact rep_eq hka.symm s1 s2 (by rw [r7] at hb_; simpa using hb_.symm) (g5 (by rw [hka]; omega)).symm
               | (exfalso; rw [r7] at e52; cases e52; done))
            | (have l6 : lastP p0 = encR p0.r := by (unfold lastP; rw [if_neg (by rw [hka]; omega), if_pos (by rw [hka]; omega)])
               rw [l6] at r7
               rw [r7] at hC63
               exact rep_eq hka.symm s1 s2 (g3 (by rw [hka]; omega)).symm (rd_self encR_pf hfr (hC63.rd hF63)).2)
          rw [hp, if_pos (show mayPB p0 = true from decide_eq_true hg.1)]; exact he
        exact ⟨zeroP, .slice none 0 0, [], false, .nil, rfl, fitR0, rdP_no hno, (M55.bare.take 0).nils⟩
       ·
        refine F [(2, _), (4, _), (70, _)] rfl ?_
        refine BQ rfl (CQ (G (J (D rfl (op_lds [_, _, _, _, _, _, _, _] (M53.at 0 rfl) rfl (C rfl) rfl) ?_))))
        refine BX (M53.focus 1 rfl) [_, _, _, _, _, _, _, _] [_, _, _, _, _, _, _, _] rfl rfl rfl rfl rfl (C rfl) (C rfl) rfl rfl ?_
        intro h56 M57
        replace M57 : Mem _ _ ([(p1, _)] :: [(p6, _)] :: []) _ := M57
        refine D rfl rfl (F [(2, _), (3, _)] rfl ?_)
        refine AZ (⟨[_, _], (res_cellN [_, _, _, _, _, _, _, _] rfl (M57.at 0 rfl) (C rfl) rfl (res_tmp rfl res_nil)), ?_⟩)
        have e70b : (if mayPB (⟨a, (UInt64.ofNat (rvN ((s).drop 1))), (UInt64.ofNat (rvN ((((s).drop 1)).drop (rvK ((s).drop 1))))), 0, (⟨0, 0, ([]), []⟩ : Res)⟩ : Rep) then encP (⟨a, (UInt64.ofNat (rvN ((s).drop 1))), (UInt64.ofNat (rvN ((((s).drop 1)).drop (rvK ((s).drop 1))))), 0, (⟨0, 0, ([]), []⟩ : Res)⟩ : Rep) else []) = s := by assumption
        have hm : MayP (⟨a, (UInt64.ofNat (rvN ((s).drop 1))), (UInt64.ofNat (rvN ((((s).drop 1)).drop (rvK ((s).drop 1))))), 0, (⟨0, 0, ([]), []⟩ : Res)⟩ : Rep) := wrP_t (by rw [e70b]; exact e13)
        have henc : encP (⟨a, (UInt64.ofNat (rvN ((s).drop 1))), (UInt64.ofNat (rvN ((((s).drop 1)).drop (rvK ((s).drop 1))))), 0, (⟨0, 0, ([]), []⟩ : Res)⟩ : Rep) = s := by rw [if_pos (show mayPB (⟨a, (UInt64.ofNat (rvN ((s).drop 1))), (UInt64.ofNat (rvN ((((s).drop 1)).drop (rvK ((s).drop 1))))), 0, (⟨0, 0, ([]), []⟩ : Res)⟩ : Rep) = true from decide_eq_true hm)] at e70b; exact e70b
        exact ⟨(⟨a, (UInt64.ofNat (rvN ((s).drop 1))), (UInt64.ofNat (rvN ((((s).drop 1)).drop (rvK ((s).drop 1))))), 0, (⟨0, 0, ([]), []⟩ : Res)⟩ : Rep), _, _, true, .nil, rfl, (by first | exact hF63 | exact fitR0), rdP_yes ⟨hm, by first | exact hF63 | exact fitR0⟩ henc, (M57.bare.take 0).nils⟩
    ·
     refine D rfl rfl (U rfl (U rfl (D rfl rfl (D rfl rfl (F [(0, _), (2, _), (4, _), (5, _), (46, _)] rfl ?_)))))
     refine BQ rfl (G (J (D rfl rfl (D rfl (op_ld (M25.bare.at 0 rfl) rfl rfl) ?_))))
     refine WS.eqlN (a := (a).toNat) (b := 6) rfl rfl rfl (fun e60 => ?_) (fun e60 => ?_)
     ·
      refine D rfl rfl (F [(0, _), (2, _), (4, _), (5, _), (57, _)] rfl ?_)
      refine AX rfl (J (D rfl rfl ?_))
      refine DQ rfl rfl rfl (ReadR_ran M25.bare.here (s := ((((s).drop 1)).drop ((rvK ((s).drop 1)) + (rvK ((((s).drop 1)).drop (rvK ((s).drop 1))))))) (by first | omega | (simp only [Y]; omega))) ?_
      rintro _ h58 ⟨r63, V61, S62, ok63, O63, rfl, hF63, hy63, hn63, hC63, N59⟩
      obtain ⟨P64, rfl⟩ := O63.shape
      have M60 := M25.bare.trans N59
      replace M60 : Mem _ _ (S62 :: [(p6, _)] :: [(p1, _)] :: []) _ := M60
      refine D rfl rfl (D rfl rfl (D rfl rfl (D rfl rfl ?_)))
      refine BX (M60.focus 1 rfl) [_, _, _, _] [_, _, _, _, _, _, _, _] rfl rfl rfl rfl rfl (C rfl) (C rfl) rfl rfl ?_
      intro h65 M66
      replace M66 : Mem _ _ ([(p6, _)] :: S62 :: [(p1, _)] :: []) _ := M66
      refine F [(0, _), (2, _), (4, _)] rfl ?_
      refine G (G (J (D rfl (op_lds [_, _, _, _, _, _, _, _] (M66.at 0 rfl) rfl (C rfl) rfl) ?_)))
      refine DQ rfl rfl rfl (WriteP_ran M66.here (p := (⟨a, (UInt64.ofNat (rvN ((s).drop 1))), (UInt64.ofNat (rvN ((((s).drop 1)).drop (rvK ((s).drop 1))))), 0, r63⟩ : Rep)) (Row.Own.sl O63 (Mem.owni M66 1 rfl)) (by first | exact hF63 | exact fitR0)) ?_
      rintro _ h67 ⟨rfl, N68⟩
      have M69 := M66.trans N68
      refine D rfl rfl ?_
      refine WS.sneq (l := (if mayPB (⟨a, (UInt64.ofNat (rvN ((s).drop 1))), (UInt64.ofNat (rvN ((((s).drop 1)).drop (rvK ((s).drop 1))))), 0, r63⟩ : Rep) then encP (⟨a, (UInt64.ofNat (rvN ((s).drop 1))), (UInt64.ofNat (rvN ((((s).drop 1)).drop (rvK ((s).drop 1))))), 0, r63⟩ : Rep) else [])) (m := s) rfl rfl rfl (fun e70 => ?_) (fun e70 => ?_)
      ·
       refine F [(2, _), (4, _), (70, _)] rfl ?_
       refine AX rfl (G (J (CX (.agg #[(.int .u8 (0 : Int)), (.int .u64 (0 : Int)), (.int .u64 (0 : Int)), (.int .u8 (0 : Int)), (.int .u8 (0 : Int)), (.int .u64 (0 : Int)), (.string (bs ([]))), (.slice none 0 0)]) rfl rfl rfl ?_)))
       refine BX (M69.focus 2 rfl) [_, _, _, _, _, _, _, _] [_, _, _, _, _, _, _, _] rfl rfl rfl rfl rfl (C rfl) (C rfl) rfl rfl ?_
       intro h70 M71
       replace M71 : Mem _ _ ([(p1, _)] :: [(p6, _)] :: S62 :: []) _ := M71
       refine D rfl rfl (F [(2, _), (3, _)] rfl ?_)
       refine AZ (⟨[_, _], (res_cellN [_, _, _, _, _, _, _, _] rfl (M71.at 0 rfl) (C rfl) rfl (res_tmp rfl res_nil)), ?_⟩)
       have hno : ∀ p0, GoodP2 p0 → encP p0 ≠ s := by
         intro p0 hg he
         have hs0 : s = a :: s.drop 1 := by simpa using drop_cons ha
         have hka : p0.kd = a := by rw [hs0, encP_cons] at he; exact (List.cons.inj he).1
         have htl : (encP p0).tail = s.drop 1 := by rw [hs0, encP_cons] at he; exact (List.cons.inj he).2
         obtain ⟨⟨g1, g2, g3, g4, g5⟩, hfr⟩ := id hg
         apply absurd (show (if mayPB (⟨a, (UInt64.ofNat (rvN ((s).drop 1))), (UInt64.ofNat (rvN ((((s).drop 1)).drop (rvK ((s).drop 1))))), 0, r63⟩ : Rep) then encP (⟨a, (UInt64.ofNat (rvN ((s).drop 1))), (UInt64.ofNat (rvN ((((s).drop 1)).drop (rvK ((s).drop 1))))), 0, r63⟩ : Rep) else []) = s from ?_) (by assumption)
         have hp : (⟨a, (UInt64.ofNat (rvN ((s).drop 1))), (UInt64.ofNat (rvN ((((s).drop 1)).drop (rvK ((s).drop 1))))), 0, r63⟩ : Rep) = p0 := by
           by_cases k1 : a.toNat = 1
           · first
             | (exfalso; omega)
             | exact rep_eq hka.symm (g2 (by rw [hka]; exact k1)).1.symm (g2 (by rw [hka]; exact k1)).2.symm (by first | (exfalso; omega) | exact (g3 (by rw [hka]; omega)).symm) (by first | (exfalso; omega) | exact (g5 (by rw [hka]; omega)).symm)
           have htl2 : s.drop 1 = vb p0.se.toNat ++ (vb p0.sq.toNat ++ lastP p0) := by
             rw [← htl, encP_n (by rw [hka]; exact k1)]; simp
           obtain ⟨r1, r2, r3, r4, r5, r6, r7⟩ := rv2 htl2
           have s1 : UInt64.ofNat (rvN (s.drop 1)) = p0.se := by rw [r1]; simp
           have s2 : UInt64.ofNat (rvN ((s.drop 1).drop (rvK (s.drop 1)))) = p0.sq := by rw [r5]; simp
           first
           | (exfalso; omega)
           | exact rep_eq hka.symm s1 s2 (g3 (by rw [hka]; omega)).symm (g5 (by rw [hka]; omega)).symm
           | (have l3 : lastP p0 = [p0.ld] := if_pos (by rw [hka]; omega)
              rw [l3] at r7
              first
              | exact rep_eq hka.symm s1 s2 (by rw [r7] at hb_; simpa using hb_.symm) (g5 (by rw [hka]; omega)).symm
              | (exfalso; rw [r7] at e52; cases e52; done))
           | (have l6 : lastP p0 = encR p0.r := by (unfold lastP; rw [if_neg (by rw [hka]; omega), if_pos (by rw [hka]; omega)])
              rw [l6] at r7
              rw [r7] at hC63
              exact rep_eq hka.symm s1 s2 (g3 (by rw [hka]; omega)).symm (rd_self encR_pf hfr (hC63.rd hF63)).2)
         rw [hp, if_pos (show mayPB p0 = true from decide_eq_true hg.1)]; exact he
       exact ⟨zeroP, .slice none 0 0, [], false, .nil, rfl, fitR0, rdP_no hno, (M71.bare.take 0).nils⟩
      ·
       refine F [(2, _), (4, _), (70, _)] rfl ?_
       refine BQ rfl (CQ (G (J (D rfl (op_lds [_, _, _, _, _, _, _, _] (M69.at 0 rfl) rfl (C rfl) rfl) ?_))))
       refine BX (M69.focus 2 rfl) [_, _, _, _, _, _, _, _] [_, _, _, _, _, _, _, _] rfl rfl rfl rfl rfl (C rfl) (C rfl) rfl rfl ?_
       intro h72 M73
       replace M73 : Mem _ _ ([(p1, _)] :: [(p6, _)] :: S62 :: []) _ := M73
       refine D rfl rfl (F [(2, _), (3, _)] rfl ?_)
       refine AZ (⟨[_, _], (res_cellN [_, _, _, _, _, _, _, _] rfl (M73.at 0 rfl) (C rfl) rfl (res_tmp rfl res_nil)), ?_⟩)
       have e70b : (if mayPB (⟨a, (UInt64.ofNat (rvN ((s).drop 1))), (UInt64.ofNat (rvN ((((s).drop 1)).drop (rvK ((s).drop 1))))), 0, r63⟩ : Rep) then encP (⟨a, (UInt64.ofNat (rvN ((s).drop 1))), (UInt64.ofNat (rvN ((((s).drop 1)).drop (rvK ((s).drop 1))))), 0, r63⟩ : Rep) else []) = s := by assumption
       have hm : MayP (⟨a, (UInt64.ofNat (rvN ((s).drop 1))), (UInt64.ofNat (rvN ((((s).drop 1)).drop (rvK ((s).drop 1))))), 0, r63⟩ : Rep) := wrP_t (by rw [e70b]; exact e13)
       have henc : encP (⟨a, (UInt64.ofNat (rvN ((s).drop 1))), (UInt64.ofNat (rvN ((((s).drop 1)).drop (rvK ((s).drop 1))))), 0, r63⟩ : Rep) = s := by rw [if_pos (show mayPB (⟨a, (UInt64.ofNat (rvN ((s).drop 1))), (UInt64.ofNat (rvN ((((s).drop 1)).drop (rvK ((s).drop 1))))), 0, r63⟩ : Rep) = true from decide_eq_true hm)] at e70b; exact e70b
       exact ⟨(⟨a, (UInt64.ofNat (rvN ((s).drop 1))), (UInt64.ofNat (rvN ((((s).drop 1)).drop (rvK ((s).drop 1))))), 0, r63⟩ : Rep), _, _, true, O63, rfl, (by first | exact hF63 | exact fitR0), rdP_yes ⟨hm, by first | exact hF63 | exact fitR0⟩ henc, ((M73.bare.focus 2 rfl).take 1)⟩
     ·
      refine D rfl rfl (F [(0, _), (2, _), (4, _), (5, _), (57, _)] rfl ?_)
      refine BQ rfl (CQ (G (G (J (D rfl (op_lds [_, _, _, _, _, _, _, _] (M25.bare.at 0 rfl) rfl (C rfl) rfl) ?_)))))
      refine DQ rfl rfl rfl (WriteP_ran M25.bare.here (p := (⟨a, (UInt64.ofNat (rvN ((s).drop 1))), (UInt64.ofNat (rvN ((((s).drop 1)).drop (rvK ((s).drop 1))))), 0, (⟨0, 0, ([]), []⟩ : Res)⟩ : Rep)) Row.Sl.nil (by first | exact hF63 | exact fitR0)) ?_
      rintro _ h74 ⟨rfl, N75⟩
      have M76 := M25.bare.trans N75
      refine D rfl rfl ?_
      refine WS.sneq (l := (if mayPB (⟨a, (UInt64.ofNat (rvN ((s).drop 1))), (UInt64.ofNat (rvN ((((s).drop 1)).drop (rvK ((s).drop 1))))), 0, (⟨0, 0, ([]), []⟩ : Res)⟩ : Rep) then encP (⟨a, (UInt64.ofNat (rvN ((s).drop 1))), (UInt64.ofNat (rvN ((((s).drop 1)).drop (rvK ((s).drop 1))))), 0, (⟨0, 0, ([]), []⟩ : Res)⟩ : Rep) else [])) (m := s) rfl rfl rfl (fun e70 => ?_) (fun e70 => ?_)
      ·
       refine F [(2, _), (4, _), (70, _)] rfl ?_
       refine AX rfl (G (J (CX (.agg #[(.int .u8 (0 : Int)), (.int .u64 (0 : Int)), (.int .u64 (0 : Int)), (.int .u8 (0 : Int)), (.int .u8 (0 : Int)), (.int .u64 (0 : Int)), (.string (bs ([]))), (.slice none 0 0)]) rfl rfl rfl ?_)))
       refine BX (M76.focus 1 rfl) [_, _, _, _, _, _, _, _] [_, _, _, _, _, _, _, _] rfl rfl rfl rfl rfl (C rfl) (C rfl) rfl rfl ?_
       intro h77 M78
       replace M78 : Mem _ _ ([(p1, _)] :: [(p6, _)] :: []) _ := M78
       refine D rfl rfl (F [(2, _), (3, _)] rfl ?_)
       refine AZ (⟨[_, _], (res_cellN [_, _, _, _, _, _, _, _] rfl (M78.at 0 rfl) (C rfl) rfl (res_tmp rfl res_nil)), ?_⟩)
       have hno : ∀ p0, GoodP2 p0 → encP p0 ≠ s := by
         intro p0 hg he
         have hs0 : s = a :: s.drop 1 := by simpa using drop_cons ha
         have hka : p0.kd = a := by rw [hs0, encP_cons] at he; exact (List.cons.inj he).1
         have htl : (encP p0).tail = s.drop 1 := by rw [hs0, encP_cons] at he; exact (List.cons.inj he).2
         obtain ⟨⟨g1, g2, g3, g4, g5⟩, hfr⟩ := id hg
         apply absurd (show (if mayPB (⟨a, (UInt64.ofNat (rvN ((s).drop 1))), (UInt64.ofNat (rvN ((((s).drop 1)).drop (rvK ((s).drop 1))))), 0, (⟨0, 0, ([]), []⟩ : Res)⟩ : Rep) then encP (⟨a, (UInt64.ofNat (rvN ((s).drop 1))), (UInt64.ofNat (rvN ((((s).drop 1)).drop (rvK ((s).drop 1))))), 0, (⟨0, 0, ([]), []⟩ : Res)⟩ : Rep) else []) = s from ?_) (by assumption)
         have hp : (⟨a, (UInt64.ofNat (rvN ((s).drop 1))), (UInt64.ofNat (rvN ((((s).drop 1)).drop (rvK ((s).drop 1))))), 0, (⟨0, 0, ([]), []⟩ : Res)⟩ : Rep) = p0 := by
           by_cases k1 : a.toNat = 1
           · first
             | (exfalso; omega)
             | exact rep_eq hka.symm (g2 (by rw [hka]; exact k1)).1.symm (g2 (by rw [hka]; exact k1)).2.symm (by first | (exfalso; omega) | exact (g3 (by rw [hka]; omega)).symm) (by first | (exfalso; omega) | exact (g5 (by rw [hka]; omega)).symm)
           have htl2 : s.drop 1 = vb p0.se.toNat ++ (vb p0.sq.toNat ++ lastP p0) := by
             rw [← htl, encP_n (by rw [hka]; exact k1)]; simp
           obtain ⟨r1, r2, r3, r4, r5, r6, r7⟩ := rv2 htl2
           have s1 : UInt64.ofNat (rvN (s.drop 1)) = p0.se := by rw [r1]; simp
           have s2 : UInt64.ofNat (rvN ((s.drop 1).drop (rvK (s.drop 1)))) = p0.sq := by rw [r5]; simp
           first
           | (exfalso; omega)
           | exact rep_eq hka.symm s1 s2 (g3 (by rw [hka]; omega)).symm (g5 (by rw [hka]; omega)).symm
           | (have l3 : lastP p0 = [p0.ld] := if_pos (by rw [hka]; omega)
              rw [l3] at r7
              first
              | exact rep_eq hka.symm s1 s2 (by rw [r7] at hb_; simpa using hb_.symm) (g5 (by rw [hka]; omega)).symm
              | (exfalso; rw [r7] at e52; cases e52; done))
           | (have l6 : lastP p0 = encR p0.r := by (unfold lastP; rw [if_neg (by rw [hka]; omega), if_pos (by rw [hka]; omega)])
              rw [l6] at r7
              rw [r7] at hC63
              exact rep_eq hka.symm s1 s2 (g3 (by rw [hka]; omega)).symm (rd_self encR_pf hfr (hC63.rd hF63)).2)
         rw [hp, if_pos (show mayPB p0 = true from decide_eq_true hg.1)]; exact he
       exact ⟨zeroP, .slice none 0 0, [], false, .nil, rfl, fitR0, rdP_no hno, (M78.bare.take 0).nils⟩
      ·
       refine F [(2, _), (4, _), (70, _)] rfl ?_
       refine BQ rfl (CQ (G (J (D rfl (op_lds [_, _, _, _, _, _, _, _] (M76.at 0 rfl) rfl (C rfl) rfl) ?_))))
       refine BX (M76.focus 1 rfl) [_, _, _, _, _, _, _, _] [_, _, _, _, _, _, _, _] rfl rfl rfl rfl rfl (C rfl) (C rfl) rfl rfl ?_
       intro h79 M80
       replace M80 : Mem _ _ ([(p1, _)] :: [(p6, _)] :: []) _ := M80
       refine D rfl rfl (F [(2, _), (3, _)] rfl ?_)
       refine AZ (⟨[_, _], (res_cellN [_, _, _, _, _, _, _, _] rfl (M80.at 0 rfl) (C rfl) rfl (res_tmp rfl res_nil)), ?_⟩)
       have e70b : (if mayPB (⟨a, (UInt64.ofNat (rvN ((s).drop 1))), (UInt64.ofNat (rvN ((((s).drop 1)).drop (rvK ((s).drop 1))))), 0, (⟨0, 0, ([]), []⟩ : Res)⟩ : Rep) then encP (⟨a, (UInt64.ofNat (rvN ((s).drop 1))), (UInt64.ofNat (rvN ((((s).drop 1)).drop (rvK ((s).drop 1))))), 0, (⟨0, 0, ([]), []⟩ : Res)⟩ : Rep) else []) = s := by assumption
       have hm : MayP (⟨a, (UInt64.ofNat (rvN ((s).drop 1))), (UInt64.ofNat (rvN ((((s).drop 1)).drop (rvK ((s).drop 1))))), 0, (⟨0, 0, ([]), []⟩ : Res)⟩ : Rep) := wrP_t (by rw [e70b]; exact e13)
       have henc : encP (⟨a, (UInt64.ofNat (rvN ((s).drop 1))), (UInt64.ofNat (rvN ((((s).drop 1)).drop (rvK ((s).drop 1))))), 0, (⟨0, 0, ([]), []⟩ : Res)⟩ : Rep) = s := by rw [if_pos (show mayPB (⟨a, (UInt64.ofNat (rvN ((s).drop 1))), (UInt64.ofNat (rvN ((((s).drop 1)).drop (rvK ((s).drop 1))))), 0, (⟨0, 0, ([]), []⟩ : Res)⟩ : Rep) = true from decide_eq_true hm)] at e70b; exact e70b
       exact ⟨(⟨a, (UInt64.ofNat (rvN ((s).drop 1))), (UInt64.ofNat (rvN ((((s).drop 1)).drop (rvK ((s).drop 1))))), 0, (⟨0, 0, ([]), []⟩ : Res)⟩ : Rep), _, _, true, .nil, rfl, (by first | exact hF63 | exact fitR0), rdP_yes ⟨hm, by first | exact hF63 | exact fitR0⟩ henc, (M80.bare.take 0).nils⟩
   ·
    refine F [(0, _), (2, _), (4, _), (5, _), (22, _)] rfl ?_
    refine BQ rfl (CQ (G (WC.block (G (J (D rfl rfl (D rfl (op_ld (M10.at 0 rfl) rfl rfl) ?_)))))))
    refine WS.eqlN (a := (a).toNat) (b := 3) rfl rfl rfl (fun e49 => ?_) (fun e49 => ?_)
    ·
     refine D rfl rfl (D rfl rfl ?_)
     refine WS.sneq (l := ((s).drop 1)) (m := []) rfl rfl rfl (fun e52 => ?_) (fun e52 => ?_)
     ·
      refine D rfl rfl (D rfl rfl (F [(0, _), (2, _), (4, _), (5, _), (46, _)] rfl ?_))
      refine AX rfl (J (D rfl rfl ?_))
      obtain ⟨b_, hb_⟩ : ∃ c, (((s).drop 1))[0]? = some c := ⟨_, List.getElem?_eq_getElem (show 0 < (((s).drop 1)).length by exact List.length_pos_iff.2 e52)⟩
      refine D rfl (op_ixS 0 rfl rfl hb_) (D rfl rfl ?_)
      refine BX (M10.focus 0 rfl) [_] [_, _, _, _, _, _, _, _] rfl rfl rfl rfl rfl (C rfl) (C rfl) rfl rfl ?_
      intro h81 M82
      replace M82 : Mem _ _ ([(p6, _)] :: [(p1, _)] :: []) _ := M82
      refine F [(0, _), (2, _), (4, _)] rfl ?_
      refine G (G (J (D rfl (op_lds [_, _, _, _, _, _, _, _] (M82.at 0 rfl) rfl (C rfl) rfl) ?_)))
      refine DQ rfl rfl rfl (WriteP_ran M82.here (p := (⟨a, 0, 0, b_, (⟨0, 0, ([]), []⟩ : Res)⟩ : Rep)) Row.Sl.nil (by first | exact hF63 | exact fitR0)) ?_
      rintro _ h83 ⟨rfl, N84⟩
      have M85 := M82.trans N84
      refine D rfl rfl ?_
      refine WS.sneq (l := (if mayPB (⟨a, 0, 0, b_, (⟨0, 0, ([]), []⟩ : Res)⟩ : Rep) then encP (⟨a, 0, 0, b_, (⟨0, 0, ([]), []⟩ : Res)⟩ : Rep) else [])) (m := s) rfl rfl rfl (fun e70 => ?_) (fun e70 => ?_)
      ·
       refine F [(2, _), (4, _), (70, _)] rfl ?_
       refine AX rfl (G (J (CX (.agg #[(.int .u8 (0 : Int)), (.int .u64 (0 : Int)), (.int .u64 (0 : Int)), (.int .u8 (0 : Int)), (.int .u8 (0 : Int)), (.int .u64 (0 : Int)), (.string (bs ([]))), (.slice none 0 0)]) rfl rfl rfl ?_)))
       refine BX (M85.focus 1 rfl) [_, _, _, _, _, _, _, _] [_, _, _, _, _, _, _, _] rfl rfl rfl rfl rfl (C rfl) (C rfl) rfl rfl ?_
       intro h86 M87
       replace M87 : Mem _ _ ([(p1, _)] :: [(p6, _)] :: []) _ := M87
       refine D rfl rfl (F [(2, _), (3, _)] rfl ?_)
       refine AZ (⟨[_, _], (res_cellN [_, _, _, _, _, _, _, _] rfl (M87.at 0 rfl) (C rfl) rfl (res_tmp rfl res_nil)), ?_⟩)
       have hno : ∀ p0, GoodP2 p0 → encP p0 ≠ s := by
         intro p0 hg he
         have hs0 : s = a :: s.drop 1 := by simpa using drop_cons ha
         have hka : p0.kd = a := by rw [hs0, encP_cons] at he; exact (List.cons.inj he).1
         have htl : (encP p0).tail = s.drop 1 := by rw [hs0, encP_cons] at he; exact (List.cons.inj he).2
         obtain ⟨⟨g1, g2, g3, g4, g5⟩, hfr⟩ := id hg
         apply absurd (show (if mayPB (⟨a, 0, 0, b_, (⟨0, 0, ([]), []⟩ : Res)⟩ : Rep) then encP (⟨a, 0, 0, b_, (⟨0, 0, ([]), []⟩ : Res)⟩ : Rep) else []) = s from ?_) (by assumption)
         have hp : (⟨a, 0, 0, b_, (⟨0, 0, ([]), []⟩ : Res)⟩ : Rep) = p0 := by
           by_cases k1 : a.toNat = 1
           · first
             | (exfalso; omega)
             | exact rep_eq hka.symm (g2 (by rw [hka]; exact k1)).1.symm (g2 (by rw [hka]; exact k1)).2.symm (by first | (exfalso; omega) | exact (g3 (by rw [hka]; omega)).symm) (by first | (exfalso; omega) | exact (g5 (by rw [hka]; omega)).symm)
           have htl2 : s.drop 1 = vb p0.se.toNat ++ (vb p0.sq.toNat ++ lastP p0) := by
             rw [← htl, encP_n (by rw [hka]; exact k1)]; simp
           obtain ⟨r1, r2, r3, r4, r5, r6, r7⟩ := rv2 htl2
           have s1 : UInt64.ofNat (rvN (s.drop 1)) = p0.se := by rw [r1]; simp
           have s2 : UInt64.ofNat (rvN ((s.drop 1).drop (rvK (s.drop 1)))) = p0.sq := by rw [r5]; simp
           first
           | (exfalso; omega)
           | exact rep_eq hka.symm s1 s2 (g3 (by rw [hka]; omega)).symm (g5 (by rw [hka]; omega)).symm
           | (have l3 : lastP p0 = [p0.ld] := if_pos (by rw [hka]; omega)
              rw [l3] at r7
              first
              | exact rep_eq hka.symm s1 s2 (by rw [r7] at hb_; simpa using hb_.symm) (g5 (by rw [hka]; omega)).symm
              | (exfalso; rw [r7] at e52; cases e52; done))
           | (have l6 : lastP p0 = encR p0.r := by (unfold lastP; rw [if_neg (by rw [hka]; omega), if_pos (by rw [hka]; omega)])
              rw [l6] at r7
              rw [r7] at hC63
              exact rep_eq hka.symm s1 s2 (g3 (by rw [hka]; omega)).symm (rd_self encR_pf hfr (hC63.rd hF63)).2)
         rw [hp, if_pos (show mayPB p0 = true from decide_eq_true hg.1)]; exact he
       exact ⟨zeroP, .slice none 0 0, [], false, .nil, rfl, fitR0, rdP_no hno, (M87.bare.take 0).nils⟩
      ·
       refine F [(2, _), (4, _), (70, _)] rfl ?_
       refine BQ rfl (CQ (G (J (D rfl (op_lds [_, _, _, _, _, _, _, _] (M85.at 0 rfl) rfl (C rfl) rfl) ?_))))
       refine BX (M85.focus 1 rfl) [_, _, _, _, _, _, _, _] [_, _, _, _, _, _, _, _] rfl rfl rfl rfl rfl (C rfl) (C rfl) rfl rfl ?_
       intro h88 M89
       replace M89 : Mem _ _ ([(p1, _)] :: [(p6, _)] :: []) _ := M89
       refine D rfl rfl (F [(2, _), (3, _)] rfl ?_)
       refine AZ (⟨[_, _], (res_cellN [_, _, _, _, _, _, _, _] rfl (M89.at 0 rfl) (C rfl) rfl (res_tmp rfl res_nil)), ?_⟩)
       have e70b : (if mayPB (⟨a, 0, 0, b_, (⟨0, 0, ([]), []⟩ : Res)⟩ : Rep) then encP (⟨a, 0, 0, b_, (⟨0, 0, ([]), []⟩ : Res)⟩ : Rep) else []) = s := by assumption
       have hm : MayP (⟨a, 0, 0, b_, (⟨0, 0, ([]), []⟩ : Res)⟩ : Rep) := wrP_t (by rw [e70b]; exact e13)
       have henc : encP (⟨a, 0, 0, b_, (⟨0, 0, ([]), []⟩ : Res)⟩ : Rep) = s := by rw [if_pos (show mayPB (⟨a, 0, 0, b_, (⟨0, 0, ([]), []⟩ : Res)⟩ : Rep) = true from decide_eq_true hm)] at e70b; exact e70b
       exact ⟨(⟨a, 0, 0, b_, (⟨0, 0, ([]), []⟩ : Res)⟩ : Rep), _, _, true, .nil, rfl, (by first | exact hF63 | exact fitR0), rdP_yes ⟨hm, by first | exact hF63 | exact fitR0⟩ henc, (M89.bare.take 0).nils⟩
     ·
      refine D rfl rfl (D rfl rfl (F [(0, _), (2, _), (4, _), (5, _), (46, _)] rfl ?_))
      refine BQ rfl (G (J (D rfl rfl (D rfl (op_ld (M10.at 0 rfl) rfl rfl) ?_))))
      refine WS.eqlN (a := (a).toNat) (b := 6) rfl rfl rfl (fun e60 => ?_) (fun e60 => ?_)
      ·
       refine D rfl rfl (F [(0, _), (2, _), (4, _), (5, _), (57, _)] rfl ?_)
       refine AX rfl (J (D rfl rfl ?_))
       refine DQ rfl rfl rfl (ReadR_ran M10.here (s := ((s).drop 1)) (by first | omega | (simp only [Y]; omega))) ?_
       rintro _ h90 ⟨r63, V93, S94, ok63, O95, rfl, hF63, hy63, hn63, hC63, N91⟩
       obtain ⟨P96, rfl⟩ := O95.shape
       have M92 := M10.trans N91
       replace M92 : Mem _ _ (S94 :: [(p6, _)] :: [(p1, _)] :: []) _ := M92
       refine D rfl rfl (D rfl rfl (D rfl rfl (D rfl rfl ?_)))
       refine BX (M92.focus 1 rfl) [_, _, _, _] [_, _, _, _, _, _, _, _] rfl rfl rfl rfl rfl (C rfl) (C rfl) rfl rfl ?_
       intro h97 M98
       replace M98 : Mem _ _ ([(p6, _)] :: S94 :: [(p1, _)] :: []) _ := M98
       refine F [(0, _), (2, _), (4, _)] rfl ?_
       refine G (G (J (D rfl (op_lds [_, _, _, _, _, _, _, _] (M98.at 0 rfl) rfl (C rfl) rfl) ?_)))
       refine DQ rfl rfl rfl (WriteP_ran M98.here (p := (⟨a, 0, 0, 0, r63⟩ : Rep)) (Row.Own.sl O95 (Mem.owni M98 1 rfl)) (by first | exact hF63 | exact fitR0)) ?_
       rintro _ h99 ⟨rfl, N100⟩
       have M101 := M98.trans N100
       refine D rfl rfl ?_
       refine WS.sneq (l := (if mayPB (⟨a, 0, 0, 0, r63⟩ : Rep) then encP (⟨a, 0, 0, 0, r63⟩ : Rep) else [])) (m := s) rfl rfl rfl (fun e70 => ?_) (fun e70 => ?_)
       ·
        refine F [(2, _), (4, _), (70, _)] rfl ?_
        refine AX rfl (G (J (CX (.agg #[(.int .u8 (0 : Int)), (.int .u64 (0 : Int)), (.int .u64 (0 : Int)), (.int .u8 (0 : Int)), (.int .u8 (0 : Int)), (.int .u64 (0 : Int)), (.string (bs ([]))), (.slice none 0 0)]) rfl rfl rfl ?_)))
        refine BX (M101.focus 2 rfl) [_, _, _, _, _, _, _, _] [_, _, _, _, _, _, _, _] rfl rfl rfl rfl rfl (C rfl) (C rfl) rfl rfl ?_
        intro h102 M103
        replace M103 : Mem _ _ ([(p1, _)] :: [(p6, _)] :: S94 :: []) _ := M103
        refine D rfl rfl (F [(2, _), (3, _)] rfl ?_)
        refine AZ (⟨[_, _], (res_cellN [_, _, _, _, _, _, _, _] rfl (M103.at 0 rfl) (C rfl) rfl (res_tmp rfl res_nil)), ?_⟩)
        have hno : ∀ p0, GoodP2 p0 → encP p0 ≠ s := by
          intro p0 hg he
          have hs0 : s = a :: s.drop 1 := by simpa using drop_cons ha
          have hka : p0.kd = a := by rw [hs0, encP_cons] at he; exact (List.cons.inj he).1
          have htl : (encP p0).tail = s.drop 1 := by rw [hs0, encP_cons] at he; exact (List.cons.inj he).2
          obtain ⟨⟨g1, g2, g3, g4, g5⟩, hfr⟩ := id hg
          apply absurd (show (if mayPB (⟨a, 0, 0, 0, r63⟩ : Rep) then encP (⟨a, 0, 0, 0, r63⟩ : Rep) else []) = s from ?_) (by assumption)
          have hp : (⟨a, 0, 0, 0, r63⟩ : Rep) = p0 := by
            by_cases k1 : a.toNat = 1
            · first
              | (exfalso; omega)
              | exact rep_eq hka.symm (g2 (by rw [hka]; exact k1)).1.symm (g2 (by rw [hka]; exact k1)).2.symm (by first | (exfalso; omega) | exact (g3 (by rw [hka]; omega)).symm) (by first | (exfalso; omega) | exact (g5 (by rw [hka]; omega)).symm)
            have htl2 : s.drop 1 = vb p0.se.toNat ++ (vb p0.sq.toNat ++ lastP p0) := by
              rw [← htl, encP_n (by rw [hka]; exact k1)]; simp
            obtain ⟨r1, r2, r3, r4, r5, r6, r7⟩ := rv2 htl2
            have s1 : UInt64.ofNat (rvN (s.drop 1)) = p0.se := by rw [r1]; simp
            have s2 : UInt64.ofNat (rvN ((s.drop 1).drop (rvK (s.drop 1)))) = p0.sq := by rw [r5]; simp
            first
            | (exfalso; omega)
            | exact rep_eq hka.symm s1 s2 (g3 (by rw [hka]; omega)).symm (g5 (by rw [hka]; omega)).symm
            | (have l3 : lastP p0 = [p0.ld] := if_pos (by rw [hka]; omega)
               rw [l3] at r7
               first
               | exact rep_eq hka.symm s1 s2 (by rw [r7] at hb_; simpa using hb_.symm) (g5 (by rw [hka]; omega)).symm
               | (exfalso; rw [r7] at e52; cases e52; done))
            | (have l6 : lastP p0 = encR p0.r := by (unfold lastP; rw [if_neg (by rw [hka]; omega), if_pos (by rw [hka]; omega)])
               rw [l6] at r7
               rw [r7] at hC63
               exact rep_eq hka.symm s1 s2 (g3 (by rw [hka]; omega)).symm (rd_self encR_pf hfr (hC63.rd hF63)).2)
          rw [hp, if_pos (show mayPB p0 = true from decide_eq_true hg.1)]; exact he
        exact ⟨zeroP, .slice none 0 0, [], false, .nil, rfl, fitR0, rdP_no hno, (M103.bare.take 0).nils⟩
       ·
        refine F [(2, _), (4, _), (70, _)] rfl ?_
        refine BQ rfl (CQ (G (J (D rfl (op_lds [_, _, _, _, _, _, _, _] (M101.at 0 rfl) rfl (C rfl) rfl) ?_))))
        refine BX (M101.focus 2 rfl) [_, _, _, _, _, _, _, _] [_, _, _, _, _, _, _, _] rfl rfl rfl rfl rfl (C rfl) (C rfl) rfl rfl ?_
        intro h104 M105
        replace M105 : Mem _ _ ([(p1, _)] :: [(p6, _)] :: S94 :: []) _ := M105
        refine D rfl rfl (F [(2, _), (3, _)] rfl ?_)
        refine AZ (⟨[_, _], (res_cellN [_, _, _, _, _, _, _, _] rfl (M105.at 0 rfl) (C rfl) rfl (res_tmp rfl res_nil)), ?_⟩)
        have e70b : (if mayPB (⟨a, 0, 0, 0, r63⟩ : Rep) then encP (⟨a, 0, 0, 0, r63⟩ : Rep) else []) = s := by assumption
        have hm : MayP (⟨a, 0, 0, 0, r63⟩ : Rep) := wrP_t (by rw [e70b]; exact e13)
        have henc : encP (⟨a, 0, 0, 0, r63⟩ : Rep) = s := by rw [if_pos (show mayPB (⟨a, 0, 0, 0, r63⟩ : Rep) = true from decide_eq_true hm)] at e70b; exact e70b
        exact ⟨(⟨a, 0, 0, 0, r63⟩ : Rep), _, _, true, O95, rfl, (by first | exact hF63 | exact fitR0), rdP_yes ⟨hm, by first | exact hF63 | exact fitR0⟩ henc, ((M105.bare.focus 2 rfl).take 1)⟩
      ·
       refine D rfl rfl (F [(0, _), (2, _), (4, _), (5, _), (57, _)] rfl ?_)
       refine BQ rfl (CQ (G (G (J (D rfl (op_lds [_, _, _, _, _, _, _, _] (M10.at 0 rfl) rfl (C rfl) rfl) ?_)))))
       refine DQ rfl rfl rfl (WriteP_ran M10.here (p := (⟨a, 0, 0, 0, (⟨0, 0, ([]), []⟩ : Res)⟩ : Rep)) Row.Sl.nil (by first | exact hF63 | exact fitR0)) ?_
       rintro _ h106 ⟨rfl, N107⟩
       have M108 := M10.trans N107
       refine D rfl rfl ?_
       refine WS.sneq (l := (if mayPB (⟨a, 0, 0, 0, (⟨0, 0, ([]), []⟩ : Res)⟩ : Rep) then encP (⟨a, 0, 0, 0, (⟨0, 0, ([]), []⟩ : Res)⟩ : Rep) else [])) (m := s) rfl rfl rfl (fun e70 => ?_) (fun e70 => ?_)
       ·
        refine F [(2, _), (4, _), (70, _)] rfl ?_
        refine AX rfl (G (J (CX (.agg #[(.int .u8 (0 : Int)), (.int .u64 (0 : Int)), (.int .u64 (0 : Int)), (.int .u8 (0 : Int)), (.int .u8 (0 : Int)), (.int .u64 (0 : Int)), (.string (bs ([]))), (.slice none 0 0)]) rfl rfl rfl ?_)))
        refine BX (M108.focus 1 rfl) [_, _, _, _, _, _, _, _] [_, _, _, _, _, _, _, _] rfl rfl rfl rfl rfl (C rfl) (C rfl) rfl rfl ?_
        intro h109 M110
        replace M110 : Mem _ _ ([(p1, _)] :: [(p6, _)] :: []) _ := M110
        refine D rfl rfl (F [(2, _), (3, _)] rfl ?_)
        refine AZ (⟨[_, _], (res_cellN [_, _, _, _, _, _, _, _] rfl (M110.at 0 rfl) (C rfl) rfl (res_tmp rfl res_nil)), ?_⟩)
        have hno : ∀ p0, GoodP2 p0 → encP p0 ≠ s := by
          intro p0 hg he
          have hs0 : s = a :: s.drop 1 := by simpa using drop_cons ha
          have hka : p0.kd = a := by rw [hs0, encP_cons] at he; exact (List.cons.inj he).1
          have htl : (encP p0).tail = s.drop 1 := by rw [hs0, encP_cons] at he; exact (List.cons.inj he).2
          obtain ⟨⟨g1, g2, g3, g4, g5⟩, hfr⟩ := id hg
          apply absurd (show (if mayPB (⟨a, 0, 0, 0, (⟨0, 0, ([]), []⟩ : Res)⟩ : Rep) then encP (⟨a, 0, 0, 0, (⟨0, 0, ([]), []⟩ : Res)⟩ : Rep) else []) = s from ?_) (by assumption)
          have hp : (⟨a, 0, 0, 0, (⟨0, 0, ([]), []⟩ : Res)⟩ : Rep) = p0 := by
            by_cases k1 : a.toNat = 1
            · first
              | (exfalso; omega)
              | exact rep_eq hka.symm (g2 (by rw [hka]; exact k1)).1.symm (g2 (by rw [hka]; exact k1)).2.symm (by first | (exfalso; omega) | exact (g3 (by rw [hka]; omega)).symm) (by first | (exfalso; omega) | exact (g5 (by rw [hka]; omega)).symm)
            have htl2 : s.drop 1 = vb p0.se.toNat ++ (vb p0.sq.toNat ++ lastP p0) := by
              rw [← htl, encP_n (by rw [hka]; exact k1)]; simp
            obtain ⟨r1, r2, r3, r4, r5, r6, r7⟩ := rv2 htl2
            have s1 : UInt64.ofNat (rvN (s.drop 1)) = p0.se := by rw [r1]; simp
            have s2 : UInt64.ofNat (rvN ((s.drop 1).drop (rvK (s.drop 1)))) = p0.sq := by rw [r5]; simp
            first
            | (exfalso; omega)
            | exact rep_eq hka.symm s1 s2 (g3 (by rw [hka]; omega)).symm (g5 (by rw [hka]; omega)).symm
            | (have l3 : lastP p0 = [p0.ld] := if_pos (by rw [hka]; omega)
               rw [l3] at r7
               first
               | exact rep_eq hka.symm s1 s2 (by rw [r7] at hb_; simpa using hb_.symm) (g5 (by rw [hka]; omega)).symm
               | (exfalso; rw [r7] at e52; cases e52; done))
            | (have l6 : lastP p0 = encR p0.r := by (unfold lastP; rw [if_neg (by rw [hka]; omega), if_pos (by rw [hka]; omega)])
               rw [l6] at r7
               rw [r7] at hC63
               exact rep_eq hka.symm s1 s2 (g3 (by rw [hka]; omega)).symm (rd_self encR_pf hfr (hC63.rd hF63)).2)
          rw [hp, if_pos (show mayPB p0 = true from decide_eq_true hg.1)]; exact he
        exact ⟨zeroP, .slice none 0 0, [], false, .nil, rfl, fitR0, rdP_no hno, (M110.bare.take 0).nils⟩
       ·
        refine F [(2, _), (4, _), (70, _)] rfl ?_
        refine BQ rfl (CQ (G (J (D rfl (op_lds [_, _, _, _, _, _, _, _] (M108.at 0 rfl) rfl (C rfl) rfl) ?_))))
        refine BX (M108.focus 1 rfl) [_, _, _, _, _, _, _, _] [_, _, _, _, _, _, _, _] rfl rfl rfl rfl rfl (C rfl) (C rfl) rfl rfl ?_
        intro h111 M112
        replace M112 : Mem _ _ ([(p1, _)] :: [(p6, _)] :: []) _ := M112
        refine D rfl rfl (F [(2, _), (3, _)] rfl ?_)
        refine AZ (⟨[_, _], (res_cellN [_, _, _, _, _, _, _, _] rfl (M112.at 0 rfl) (C rfl) rfl (res_tmp rfl res_nil)), ?_⟩)
        have e70b : (if mayPB (⟨a, 0, 0, 0, (⟨0, 0, ([]), []⟩ : Res)⟩ : Rep) then encP (⟨a, 0, 0, 0, (⟨0, 0, ([]), []⟩ : Res)⟩ : Rep) else []) = s := by assumption
        have hm : MayP (⟨a, 0, 0, 0, (⟨0, 0, ([]), []⟩ : Res)⟩ : Rep) := wrP_t (by rw [e70b]; exact e13)
        have henc : encP (⟨a, 0, 0, 0, (⟨0, 0, ([]), []⟩ : Res)⟩ : Rep) = s := by rw [if_pos (show mayPB (⟨a, 0, 0, 0, (⟨0, 0, ([]), []⟩ : Res)⟩ : Rep) = true from decide_eq_true hm)] at e70b; exact e70b
        exact ⟨(⟨a, 0, 0, 0, (⟨0, 0, ([]), []⟩ : Res)⟩ : Rep), _, _, true, .nil, rfl, (by first | exact hF63 | exact fitR0), rdP_yes ⟨hm, by first | exact hF63 | exact fitR0⟩ henc, (M112.bare.take 0).nils⟩
    ·
     refine D rfl rfl (U rfl (U rfl (D rfl rfl (D rfl rfl (F [(0, _), (2, _), (4, _), (5, _), (46, _)] rfl ?_)))))
     refine BQ rfl (G (J (D rfl rfl (D rfl (op_ld (M10.at 0 rfl) rfl rfl) ?_))))
     refine WS.eqlN (a := (a).toNat) (b := 6) rfl rfl rfl (fun e60 => ?_) (fun e60 => ?_)
     ·
      refine D rfl rfl (F [(0, _), (2, _), (4, _), (5, _), (57, _)] rfl ?_)
      refine AX rfl (J (D rfl rfl ?_))
      refine DQ rfl rfl rfl (ReadR_ran M10.here (s := ((s).drop 1)) (by first | omega | (simp only [Y]; omega))) ?_
      rintro _ h113 ⟨r63, V116, S117, ok63, O118, rfl, hF63, hy63, hn63, hC63, N114⟩
      obtain ⟨P119, rfl⟩ := O118.shape
      have M115 := M10.trans N114
      replace M115 : Mem _ _ (S117 :: [(p6, _)] :: [(p1, _)] :: []) _ := M115
      refine D rfl rfl (D rfl rfl (D rfl rfl (D rfl rfl ?_)))
      refine BX (M115.focus 1 rfl) [_, _, _, _] [_, _, _, _, _, _, _, _] rfl rfl rfl rfl rfl (C rfl) (C rfl) rfl rfl ?_
      intro h120 M121
      replace M121 : Mem _ _ ([(p6, _)] :: S117 :: [(p1, _)] :: []) _ := M121
      refine F [(0, _), (2, _), (4, _)] rfl ?_
      refine G (G (J (D rfl (op_lds [_, _, _, _, _, _, _, _] (M121.at 0 rfl) rfl (C rfl) rfl) ?_)))
      refine DQ rfl rfl rfl (WriteP_ran M121.here (p := (⟨a, 0, 0, 0, r63⟩ : Rep)) (Row.Own.sl O118 (Mem.owni M121 1 rfl)) (by first | exact hF63 | exact fitR0)) ?_
      rintro _ h122 ⟨rfl, N123⟩
      have M124 := M121.trans N123
      refine D rfl rfl ?_
      refine WS.sneq (l := (if mayPB (⟨a, 0, 0, 0, r63⟩ : Rep) then encP (⟨a, 0, 0, 0, r63⟩ : Rep) else [])) (m := s) rfl rfl rfl (fun e70 => ?_) (fun e70 => ?_)
      ·
       refine F [(2, _), (4, _), (70, _)] rfl ?_
       refine AX rfl (G (J (CX (.agg #[(.int .u8 (0 : Int)), (.int .u64 (0 : Int)), (.int .u64 (0 : Int)), (.int .u8 (0 : Int)), (.int .u8 (0 : Int)), (.int .u64 (0 : Int)), (.string (bs ([]))), (.slice none 0 0)]) rfl rfl rfl ?_)))
       refine BX (M124.focus 2 rfl) [_, _, _, _, _, _, _, _] [_, _, _, _, _, _, _, _] rfl rfl rfl rfl rfl (C rfl) (C rfl) rfl rfl ?_
       intro h125 M126
       replace M126 : Mem _ _ ([(p1, _)] :: [(p6, _)] :: S117 :: []) _ := M126
       refine D rfl rfl (F [(2, _), (3, _)] rfl ?_)
       refine AZ (⟨[_, _], (res_cellN [_, _, _, _, _, _, _, _] rfl (M126.at 0 rfl) (C rfl) rfl (res_tmp rfl res_nil)), ?_⟩)
       have hno : ∀ p0, GoodP2 p0 → encP p0 ≠ s := by
         intro p0 hg he
         have hs0 : s = a :: s.drop 1 := by simpa using drop_cons ha
         have hka : p0.kd = a := by rw [hs0, encP_cons] at he; exact (List.cons.inj he).1
         have htl : (encP p0).tail = s.drop 1 := by rw [hs0, encP_cons] at he; exact (List.cons.inj he).2
         obtain ⟨⟨g1, g2, g3, g4, g5⟩, hfr⟩ := id hg
         apply absurd (show (if mayPB (⟨a, 0, 0, 0, r63⟩ : Rep) then encP (⟨a, 0, 0, 0, r63⟩ : Rep) else []) = s from ?_) (by assumption)
         have hp : (⟨a, 0, 0, 0, r63⟩ : Rep) = p0 := by
           by_cases k1 : a.toNat = 1
           · first
             | (exfalso; omega)
             | exact rep_eq hka.symm (g2 (by rw [hka]; exact k1)).1.symm (g2 (by rw [hka]; exact k1)).2.symm (by first | (exfalso; omega) | exact (g3 (by rw [hka]; omega)).symm) (by first | (exfalso; omega) | exact (g5 (by rw [hka]; omega)).symm)
           have htl2 : s.drop 1 = vb p0.se.toNat ++ (vb p0.sq.toNat ++ lastP p0) := by
             rw [← htl, encP_n (by rw [hka]; exact k1)]; simp
           obtain ⟨r1, r2, r3, r4, r5, r6, r7⟩ := rv2 htl2
           have s1 : UInt64.ofNat (rvN (s.drop 1)) = p0.se := by rw [r1]; simp
           have s2 : UInt64.ofNat (rvN ((s.drop 1).drop (rvK (s.drop 1)))) = p0.sq := by rw [r5]; simp
           first
           | (exfalso; omega)
           | exact rep_eq hka.symm s1 s2 (g3 (by rw [hka]; omega)).symm (g5 (by rw [hka]; omega)).symm
           | (have l3 : lastP p0 = [p0.ld] := if_pos (by rw [hka]; omega)
              rw [l3] at r7
              first
              | exact rep_eq hka.symm s1 s2 (by rw [r7] at hb_; simpa using hb_.symm) (g5 (by rw [hka]; omega)).symm
              | (exfalso; rw [r7] at e52; cases e52; done))
           | (have l6 : lastP p0 = encR p0.r := by (unfold lastP; rw [if_neg (by rw [hka]; omega), if_pos (by rw [hka]; omega)])
              rw [l6] at r7
              rw [r7] at hC63
              exact rep_eq hka.symm s1 s2 (g3 (by rw [hka]; omega)).symm (rd_self encR_pf hfr (hC63.rd hF63)).2)
         rw [hp, if_pos (show mayPB p0 = true from decide_eq_true hg.1)]; exact he
       exact ⟨zeroP, .slice none 0 0, [], false, .nil, rfl, fitR0, rdP_no hno, (M126.bare.take 0).nils⟩
      ·
       refine F [(2, _), (4, _), (70, _)] rfl ?_
       refine BQ rfl (CQ (G (J (D rfl (op_lds [_, _, _, _, _, _, _, _] (M124.at 0 rfl) rfl (C rfl) rfl) ?_))))
       refine BX (M124.focus 2 rfl) [_, _, _, _, _, _, _, _] [_, _, _, _, _, _, _, _] rfl rfl rfl rfl rfl (C rfl) (C rfl) rfl rfl ?_
       intro h127 M128
       replace M128 : Mem _ _ ([(p1, _)] :: [(p6, _)] :: S117 :: []) _ := M128
       refine D rfl rfl (F [(2, _), (3, _)] rfl ?_)
       refine AZ (⟨[_, _], (res_cellN [_, _, _, _, _, _, _, _] rfl (M128.at 0 rfl) (C rfl) rfl (res_tmp rfl res_nil)), ?_⟩)
       have e70b : (if mayPB (⟨a, 0, 0, 0, r63⟩ : Rep) then encP (⟨a, 0, 0, 0, r63⟩ : Rep) else []) = s := by assumption
       have hm : MayP (⟨a, 0, 0, 0, r63⟩ : Rep) := wrP_t (by rw [e70b]; exact e13)
       have henc : encP (⟨a, 0, 0, 0, r63⟩ : Rep) = s := by rw [if_pos (show mayPB (⟨a, 0, 0, 0, r63⟩ : Rep) = true from decide_eq_true hm)] at e70b; exact e70b
       exact ⟨(⟨a, 0, 0, 0, r63⟩ : Rep), _, _, true, O118, rfl, (by first | exact hF63 | exact fitR0), rdP_yes ⟨hm, by first | exact hF63 | exact fitR0⟩ henc, ((M128.bare.focus 2 rfl).take 1)⟩
     ·
      refine D rfl rfl (F [(0, _), (2, _), (4, _), (5, _), (57, _)] rfl ?_)
      refine BQ rfl (CQ (G (G (J (D rfl (op_lds [_, _, _, _, _, _, _, _] (M10.at 0 rfl) rfl (C rfl) rfl) ?_)))))
      refine DQ rfl rfl rfl (WriteP_ran M10.here (p := (⟨a, 0, 0, 0, (⟨0, 0, ([]), []⟩ : Res)⟩ : Rep)) Row.Sl.nil (by first | exact hF63 | exact fitR0)) ?_
      rintro _ h129 ⟨rfl, N130⟩
      have M131 := M10.trans N130
      refine D rfl rfl ?_
      refine WS.sneq (l := (if mayPB (⟨a, 0, 0, 0, (⟨0, 0, ([]), []⟩ : Res)⟩ : Rep) then encP (⟨a, 0, 0, 0, (⟨0, 0, ([]), []⟩ : Res)⟩ : Rep) else [])) (m := s) rfl rfl rfl (fun e70 => ?_) (fun e70 => ?_)
      ·
       refine F [(2, _), (4, _), (70, _)] rfl ?_
       refine AX rfl (G (J (CX (.agg #[(.int .u8 (0 : Int)), (.int .u64 (0 : Int)), (.int .u64 (0 : Int)), (.int .u8 (0 : Int)), (.int .u8 (0 : Int)), (.int .u64 (0 : Int)), (.string (bs ([]))), (.slice none 0 0)]) rfl rfl rfl ?_)))
       refine BX (M131.focus 1 rfl) [_, _, _, _, _, _, _, _] [_, _, _, _, _, _, _, _] rfl rfl rfl rfl rfl (C rfl) (C rfl) rfl rfl ?_
       intro h132 M133
       replace M133 : Mem _ _ ([(p1, _)] :: [(p6, _)] :: []) _ := M133
       refine D rfl rfl (F [(2, _), (3, _)] rfl ?_)
       refine AZ (⟨[_, _], (res_cellN [_, _, _, _, _, _, _, _] rfl (M133.at 0 rfl) (C rfl) rfl (res_tmp rfl res_nil)), ?_⟩)
       have hno : ∀ p0, GoodP2 p0 → encP p0 ≠ s := by
         intro p0 hg he
         have hs0 : s = a :: s.drop 1 := by simpa using drop_cons ha
         have hka : p0.kd = a := by rw [hs0, encP_cons] at he; exact (List.cons.inj he).1
         have htl : (encP p0).tail = s.drop 1 := by rw [hs0, encP_cons] at he; exact (List.cons.inj he).2
         obtain ⟨⟨g1, g2, g3, g4, g5⟩, hfr⟩ := id hg
         apply absurd (show (if mayPB (⟨a, 0, 0, 0, (⟨0, 0, ([]), []⟩ : Res)⟩ : Rep) then encP (⟨a, 0, 0, 0, (⟨0, 0, ([]), []⟩ : Res)⟩ : Rep) else []) = s from ?_) (by assumption)
         have hp : (⟨a, 0, 0, 0, (⟨0, 0, ([]), []⟩ : Res)⟩ : Rep) = p0 := by
           by_cases k1 : a.toNat = 1
           · first
             | (exfalso; omega)
             | exact rep_eq hka.symm (g2 (by rw [hka]; exact k1)).1.symm (g2 (by rw [hka]; exact k1)).2.symm (by first | (exfalso; omega) | exact (g3 (by rw [hka]; omega)).symm) (by first | (exfalso; omega) | exact (g5 (by rw [hka]; omega)).symm)
           have htl2 : s.drop 1 = vb p0.se.toNat ++ (vb p0.sq.toNat ++ lastP p0) := by
             rw [← htl, encP_n (by rw [hka]; exact k1)]; simp
           obtain ⟨r1, r2, r3, r4, r5, r6, r7⟩ := rv2 htl2
           have s1 : UInt64.ofNat (rvN (s.drop 1)) = p0.se := by rw [r1]; simp
           have s2 : UInt64.ofNat (rvN ((s.drop 1).drop (rvK (s.drop 1)))) = p0.sq := by rw [r5]; simp
           first
           | (exfalso; omega)
           | exact rep_eq hka.symm s1 s2 (g3 (by rw [hka]; omega)).symm (g5 (by rw [hka]; omega)).symm
           | (have l3 : lastP p0 = [p0.ld] := if_pos (by rw [hka]; omega)
              rw [l3] at r7
              first
              | exact rep_eq hka.symm s1 s2 (by rw [r7] at hb_; simpa using hb_.symm) (g5 (by rw [hka]; omega)).symm
              | (exfalso; rw [r7] at e52; cases e52; done))
           | (have l6 : lastP p0 = encR p0.r := by (unfold lastP; rw [if_neg (by rw [hka]; omega), if_pos (by rw [hka]; omega)])
              rw [l6] at r7
              rw [r7] at hC63
              exact rep_eq hka.symm s1 s2 (g3 (by rw [hka]; omega)).symm (rd_self encR_pf hfr (hC63.rd hF63)).2)
         rw [hp, if_pos (show mayPB p0 = true from decide_eq_true hg.1)]; exact he
       exact ⟨zeroP, .slice none 0 0, [], false, .nil, rfl, fitR0, rdP_no hno, (M133.bare.take 0).nils⟩
      ·
       refine F [(2, _), (4, _), (70, _)] rfl ?_
       refine BQ rfl (CQ (G (J (D rfl (op_lds [_, _, _, _, _, _, _, _] (M131.at 0 rfl) rfl (C rfl) rfl) ?_))))
       refine BX (M131.focus 1 rfl) [_, _, _, _, _, _, _, _] [_, _, _, _, _, _, _, _] rfl rfl rfl rfl rfl (C rfl) (C rfl) rfl rfl ?_
       intro h134 M135
       replace M135 : Mem _ _ ([(p1, _)] :: [(p6, _)] :: []) _ := M135
       refine D rfl rfl (F [(2, _), (3, _)] rfl ?_)
       refine AZ (⟨[_, _], (res_cellN [_, _, _, _, _, _, _, _] rfl (M135.at 0 rfl) (C rfl) rfl (res_tmp rfl res_nil)), ?_⟩)
       have e70b : (if mayPB (⟨a, 0, 0, 0, (⟨0, 0, ([]), []⟩ : Res)⟩ : Rep) then encP (⟨a, 0, 0, 0, (⟨0, 0, ([]), []⟩ : Res)⟩ : Rep) else []) = s := by assumption
       have hm : MayP (⟨a, 0, 0, 0, (⟨0, 0, ([]), []⟩ : Res)⟩ : Rep) := wrP_t (by rw [e70b]; exact e13)
       have henc : encP (⟨a, 0, 0, 0, (⟨0, 0, ([]), []⟩ : Res)⟩ : Rep) = s := by rw [if_pos (show mayPB (⟨a, 0, 0, 0, (⟨0, 0, ([]), []⟩ : Res)⟩ : Rep) = true from decide_eq_true hm)] at e70b; exact e70b
       exact ⟨(⟨a, 0, 0, 0, (⟨0, 0, ([]), []⟩ : Res)⟩ : Rep), _, _, true, .nil, rfl, (by first | exact hF63 | exact fitR0), rdP_yes ⟨hm, by first | exact hF63 | exact fitR0⟩ henc, (M135.bare.take 0).nils⟩
theorem rv2r {s : List UInt8} {a b : UInt64} {t : List UInt8} (h : s.drop 1 = vb a.toNat ++ (vb b.toNat ++ t)) : rvN (s.drop 1) = a.toNat ∧ rvOK (s.drop 1) = true ∧ s.drop (1 + rvK (s.drop 1)) = vb b.toNat ++ t ∧ rvN (s.drop (1 + rvK (s.drop 1))) = b.toNat ∧ rvOK (s.drop (1 + rvK (s.drop 1))) = true ∧ s.drop ((1 + rvK (s.drop 1)) + rvK (s.drop (1 + rvK (s.drop 1)))) = t := by
  obtain ⟨r1, r2, r3, r4, r5, r6, r7⟩ := rv2 h
  rw [List.drop_drop] at r4 r5 r6 r7
  rw [List.drop_drop] at r7
  exact ⟨r1, r2, r4, r5, r6, by rw [← r7]; congr 1; omega⟩
theorem snd2 {s : List UInt8} (h1 : rvOK (s.drop 1) = true) (h2 : rvOK (s.drop (1 + rvK (s.drop 1))) = true) : s.drop 1 = vb (rvN (s.drop 1)) ++ (vb (rvN (s.drop (1 + rvK (s.drop 1)))) ++ s.drop ((1 + rvK (s.drop 1)) + rvK (s.drop (1 + rvK (s.drop 1))))) := by
  have e1 := (getV_some (show getV (s.drop 1) = some (rvN (s.drop 1), rvK (s.drop 1)) by rw [getV_eq, h1]; rfl)).1
  have e2 := (getV_some (show getV (s.drop (1 + rvK (s.drop 1))) = some (rvN (s.drop (1 + rvK (s.drop 1))), rvK (s.drop (1 + rvK (s.drop 1)))) by rw [getV_eq, h2]; rfl)).1
  rw [List.drop_drop] at e1 e2
  conv => lhs; rw [e1, e2]
set_option maxRecDepth 8000 in
theorem refReadP_ran (W : Mem h h [] []) {s : List UInt8} (hl : s.length ≤ 299000) : Cll tab0 21 [.string (bs s)] h (fun v h2 => ∃ p V S ok, KRrow.Own V (Res.rs p.r) S ∧ v = .tuple #[Rep.val p V, .bool ok] ∧ FitRes p.r ∧ Rd GoodP2 encP zeroP s p ok ∧ Mem h h2 [S] []) := by
  have hk1 := rvK_le (s.drop 1)
  have hk2 := rvK_le (s.drop (1 + rvK (s.drop 1)))
  have hn1 := rvN_lt (s.drop 1)
  have hn2 := rvN_lt (s.drop (1 + rvK (s.drop 1)))
  have hd1 : (s.drop 1).length = s.length - 1 := Y
  have hd2 : (s.drop (1 + rvK (s.drop 1))).length = s.length - (1 + rvK (s.drop 1)) := Y
  have hd3 : (s.drop ((1 + rvK (s.drop 1)) + rvK (s.drop (1 + rvK (s.drop 1))))).length = s.length - ((1 + rvK (s.drop 1)) + rvK (s.drop (1 + rvK (s.drop 1)))) := Y
  refine Cll.code rfl rfl ?_
  refine WC.env [(0, _)] rfl ?_
  refine G (J (WS.new W rfl ?_))
  intro p1 h2 M3
  refine D rfl rfl (F [(0, _), (2, _)] rfl ?_)
  refine G (G (J (D rfl rfl (D rfl (op_lenS (l := s) rfl) ?_))))
  refine WS.eqlN (a := (s).length) (b := 0) rfl rfl rfl (fun e15 => ?_) (fun e15 => ?_)
  ·
   refine D rfl rfl (U rfl (U rfl (U rfl (D rfl rfl (D rfl rfl (U rfl (U rfl (U rfl (D rfl rfl ?_)))))))))
   refine F [(0, _), (2, _), (25, _)] rfl ?_
   refine AX rfl (G (J (CX (.agg #[(.int .u8 (0 : Int)), (.int .u64 (0 : Int)), (.int .u64 (0 : Int)), (.int .u8 (0 : Int)), (.int .u8 (0 : Int)), (.int .u64 (0 : Int)), (.string (bs ([]))), (.slice none 0 0)]) rfl rfl rfl ?_)))
   refine BX (M3.focus 0 rfl) [_, _, _, _, _, _, _, _] [_, _, _, _, _, _, _, _] rfl rfl rfl rfl rfl (C rfl) (C rfl) rfl rfl ?_
   intro h4 M5
   replace M5 : Mem _ _ ([(p1, _)] :: []) _ := M5
   refine D rfl rfl (F [(2, _), (3, _)] rfl ?_)
   refine AZ (⟨[_, _], (res_cellN [_, _, _, _, _, _, _, _] rfl (M5.at 0 rfl) (C rfl) rfl (res_tmp rfl res_nil)), ?_⟩)
   have hno : ∀ p0, GoodP2 p0 → encP p0 ≠ s := by
     intro p0 hg he
     obtain ⟨⟨g1, g2, g3, g4, g5⟩, hfr⟩ := id hg
     have := congrArg List.length he
     rw [encP_cons] at this
     simp only [AQ] at this
     omega
   exact ⟨zeroP, .slice none 0 0, [], false, .nil, rfl, fitR0, rdP_no hno, (M5.bare.take 0).nils⟩
  ·
   refine D rfl rfl (D rfl rfl ?_)
   obtain ⟨a, ha⟩ : ∃ c, (s)[0]? = some c := ⟨_, List.getElem?_eq_getElem (show 0 < (s).length by omega)⟩
   refine D rfl (op_ixS 0 rfl rfl ha) ?_
   refine WS.lssN (a := (a).toNat) (b := 1) rfl rfl rfl (fun e19 => ?_) (fun e19 => ?_)
   ·
    refine D rfl rfl (D rfl rfl (U rfl (U rfl (U rfl (D rfl rfl (F [(0, _), (2, _), (25, _)] rfl ?_))))))
    refine AX rfl (G (J (CX (.agg #[(.int .u8 (0 : Int)), (.int .u64 (0 : Int)), (.int .u64 (0 : Int)), (.int .u8 (0 : Int)), (.int .u8 (0 : Int)), (.int .u64 (0 : Int)), (.string (bs ([]))), (.slice none 0 0)]) rfl rfl rfl ?_)))
    refine BX (M3.focus 0 rfl) [_, _, _, _, _, _, _, _] [_, _, _, _, _, _, _, _] rfl rfl rfl rfl rfl (C rfl) (C rfl) rfl rfl ?_
    intro h6 M7
    replace M7 : Mem _ _ ([(p1, _)] :: []) _ := M7
    refine D rfl rfl (F [(2, _), (3, _)] rfl ?_)
    refine AZ (⟨[_, _], (res_cellN [_, _, _, _, _, _, _, _] rfl (M7.at 0 rfl) (C rfl) rfl (res_tmp rfl res_nil)), ?_⟩)
    have hno : ∀ p0, GoodP2 p0 → encP p0 ≠ s := by
      intro p0 hg he
      obtain ⟨⟨g1, g2, g3, g4, g5⟩, hfr⟩ := id hg
      have hs0 : s = a :: s.drop 1 := by simpa using drop_cons ha
      have hka : p0.kd = a := by rw [hs0, encP_cons] at he; exact (List.cons.inj he).1
      have htl : (encP p0).tail = s.drop 1 := by rw [hs0, encP_cons] at he; exact (List.cons.inj he).2
      rw [hka] at g1 g2 g3 g4 g5
      by_cases k1 : a.toNat = 1
      · have hl1 : (s.drop 1).length = 0 := by rw [← htl, encP_1 (by rw [hka]; exact k1)]; rfl
        omega
      have htl2 : s.drop 1 = vb p0.se.toNat ++ (vb p0.sq.toNat ++ lastP p0) := by
        rw [← htl, encP_n (by rw [hka]; exact k1)]; simp
      obtain ⟨r1, r2, r4, r5, r6, r7⟩ := rv2r htl2
      first
      | omega
      | exact absurd r2 (by rw [show rvOK (s.drop 1) = false by assumption]; decide)
      | exact absurd r6 (by rw [show rvOK (s.drop (1 + rvK (s.drop 1))) = false by assumption]; decide)
      | (have l6 : lastP p0 = encR p0.r := by (unfold lastP; rw [if_neg (by rw [hka]; omega), if_pos (by rw [hka]; omega)])
         rw [l6] at r7
         exact (hC75.2 (by assumption)).2 p0.r hfr r7.symm)
      | (have l3 : lastP p0 = [p0.ld] := if_pos (by rw [hka]; omega)
         rw [l3] at r7
         have l4 := congrArg List.length r7
         simp only [AQ, X] at l4
         first
         | omega
         | (rw [r7] at hb_; have l5 : p0.ld = b_ := by simpa using hb_
            have l7 := g4 (by omega); rw [l5] at l7; omega)
         | (have l8 := Y (i := 1) (l := (s.drop ((1 + rvK (s.drop 1)) + rvK (s.drop (1 + rvK (s.drop 1)))))); omega))
      | (have l0 : lastP p0 = [] := by (unfold lastP; rw [if_neg (by rw [hka]; omega), if_neg (by rw [hka]; omega)])
         rw [l0] at r7
         have l4 := congrArg List.length r7
         simp only [X] at l4
         omega)
    exact ⟨zeroP, .slice none 0 0, [], false, .nil, rfl, fitR0, rdP_no hno, (M7.bare.take 0).nils⟩
   ·
    refine D rfl rfl (D rfl rfl (D rfl rfl (D rfl (op_ixS 0 rfl rfl ha) ?_)))
    refine WS.gtrN (a := (a).toNat) (b := 6) rfl rfl rfl (fun e24 => ?_) (fun e24 => ?_)
    ·
     refine D rfl rfl (F [(0, _), (2, _), (25, _)] rfl ?_)
     refine AX rfl (G (J (CX (.agg #[(.int .u8 (0 : Int)), (.int .u64 (0 : Int)), (.int .u64 (0 : Int)), (.int .u8 (0 : Int)), (.int .u8 (0 : Int)), (.int .u64 (0 : Int)), (.string (bs ([]))), (.slice none 0 0)]) rfl rfl rfl ?_)))
     refine BX (M3.focus 0 rfl) [_, _, _, _, _, _, _, _] [_, _, _, _, _, _, _, _] rfl rfl rfl rfl rfl (C rfl) (C rfl) rfl rfl ?_
     intro h8 M9
     replace M9 : Mem _ _ ([(p1, _)] :: []) _ := M9
     refine D rfl rfl (F [(2, _), (3, _)] rfl ?_)
     refine AZ (⟨[_, _], (res_cellN [_, _, _, _, _, _, _, _] rfl (M9.at 0 rfl) (C rfl) rfl (res_tmp rfl res_nil)), ?_⟩)
     have hno : ∀ p0, GoodP2 p0 → encP p0 ≠ s := by
       intro p0 hg he
       obtain ⟨⟨g1, g2, g3, g4, g5⟩, hfr⟩ := id hg
       have hs0 : s = a :: s.drop 1 := by simpa using drop_cons ha
       have hka : p0.kd = a := by rw [hs0, encP_cons] at he; exact (List.cons.inj he).1
       have htl : (encP p0).tail = s.drop 1 := by rw [hs0, encP_cons] at he; exact (List.cons.inj he).2
       rw [hka] at g1 g2 g3 g4 g5
       by_cases k1 : a.toNat = 1
       · have hl1 : (s.drop 1).length = 0 := by rw [← htl, encP_1 (by rw [hka]; exact k1)]; rfl
         omega
       have htl2 : s.drop 1 = vb p0.se.toNat ++ (vb p0.sq.toNat ++ lastP p0) := by
         rw [← htl, encP_n (by rw [hka]; exact k1)]; simp
       obtain ⟨r1, r2, r4, r5, r6, r7⟩ := rv2r htl2
       first
       | omega
       | exact absurd r2 (by rw [show rvOK (s.drop 1) = false by assumption]; decide)
       | exact absurd r6 (by rw [show rvOK (s.drop (1 + rvK (s.drop 1))) = false by assumption]; decide)
       | (have l6 : lastP p0 = encR p0.r := by (unfold lastP; rw [if_neg (by rw [hka]; omega), if_pos (by rw [hka]; omega)])
          rw [l6] at r7
          exact (hC75.2 (by assumption)).2 p0.r hfr r7.symm)
       | (have l3 : lastP p0 = [p0.ld] := if_pos (by rw [hka]; omega)
          rw [l3] at r7
          have l4 := congrArg List.length r7
          simp only [AQ, X] at l4
          first
          | omega
          | (rw [r7] at hb_; have l5 : p0.ld = b_ := by simpa using hb_
             have l7 := g4 (by omega); rw [l5] at l7; omega)
          | (have l8 := Y (i := 1) (l := (s.drop ((1 + rvK (s.drop 1)) + rvK (s.drop (1 + rvK (s.drop 1)))))); omega))
       | (have l0 : lastP p0 = [] := by (unfold lastP; rw [if_neg (by rw [hka]; omega), if_neg (by rw [hka]; omega)])
          rw [l0] at r7
          have l4 := congrArg List.length r7
          simp only [X] at l4
          omega)
     exact ⟨zeroP, .slice none 0 0, [], false, .nil, rfl, fitR0, rdP_no hno, (M9.bare.take 0).nils⟩
    ·
     refine D rfl rfl (F [(0, _), (2, _), (25, _)] rfl ?_)
     refine BQ rfl (CQ (G (J (D rfl rfl (D rfl (op_ixS 0 rfl rfl ha) (CX (.agg #[(.int .u8 (((a).toNat : Nat) : Int)), (.int .u64 (0 : Int)), (.int .u64 (0 : Int)), (.int .u8 (0 : Int)), (.int .u8 (0 : Int)), (.int .u64 (0 : Int)), (.string (bs ([]))), (.slice none 0 0)]) rfl rfl rfl ?_))))))
     refine WS.new M3 rfl ?_
     intro p10 h11 M12
     refine BX (M12.focus 0 rfl) [_, _, _, _, _, _, _, _] [_, _, _, _, _, _, _, _] rfl rfl rfl rfl rfl (C rfl) (C rfl) rfl rfl ?_
     intro h13 M14
     replace M14 : Mem _ _ ([(p10, _)] :: [(p1, _)] :: []) _ := M14
     refine F [(0, _), (2, _), (4, _)] rfl ?_
     refine G (G (J (D rfl rfl (D rfl (op_ld (M14.at 0 rfl) rfl rfl) ?_))))
     refine WS.eqlN (a := (a).toNat) (b := 1) rfl rfl rfl (fun e32 => ?_) (fun e32 => ?_)
     ·
      refine F [(0, _), (2, _), (4, _), (32, _)] rfl ?_
      refine AX rfl (G (G (J (D rfl rfl (D rfl (op_lenS (l := s) rfl) ?_)))))
      refine WS.gtrN (a := (s).length) (b := 1) rfl rfl rfl (fun e35 => ?_) (fun e35 => ?_)
      ·
       refine F [(2, _), (4, _), (35, _)] rfl ?_
       refine AX rfl (G (J (CX (.agg #[(.int .u8 (0 : Int)), (.int .u64 (0 : Int)), (.int .u64 (0 : Int)), (.int .u8 (0 : Int)), (.int .u8 (0 : Int)), (.int .u64 (0 : Int)), (.string (bs ([]))), (.slice none 0 0)]) rfl rfl rfl ?_)))
       refine BX (M14.focus 1 rfl) [_, _, _, _, _, _, _, _] [_, _, _, _, _, _, _, _] rfl rfl rfl rfl rfl (C rfl) (C rfl) rfl rfl ?_
       intro h15 M16
       replace M16 : Mem _ _ ([(p1, _)] :: [(p10, _)] :: []) _ := M16
       refine D rfl rfl (F [(2, _), (3, _)] rfl ?_)
       refine AZ (⟨[_, _], (res_cellN [_, _, _, _, _, _, _, _] rfl (M16.at 0 rfl) (C rfl) rfl (res_tmp rfl res_nil)), ?_⟩)
       have hno : ∀ p0, GoodP2 p0 → encP p0 ≠ s := by
         intro p0 hg he
         obtain ⟨⟨g1, g2, g3, g4, g5⟩, hfr⟩ := id hg
         have hs0 : s = a :: s.drop 1 := by simpa using drop_cons ha
         have hka : p0.kd = a := by rw [hs0, encP_cons] at he; exact (List.cons.inj he).1
         have htl : (encP p0).tail = s.drop 1 := by rw [hs0, encP_cons] at he; exact (List.cons.inj he).2
         rw [hka] at g1 g2 g3 g4 g5
         by_cases k1 : a.toNat = 1
         · have hl1 : (s.drop 1).length = 0 := by rw [← htl, encP_1 (by rw [hka]; exact k1)]; rfl
           omega
         have htl2 : s.drop 1 = vb p0.se.toNat ++ (vb p0.sq.toNat ++ lastP p0) := by
           rw [← htl, encP_n (by rw [hka]; exact k1)]; simp
         obtain ⟨r1, r2, r4, r5, r6, r7⟩ := rv2r htl2
         first
         | omega
         | exact absurd r2 (by rw [show rvOK (s.drop 1) = false by assumption]; decide)
         | exact absurd r6 (by rw [show rvOK (s.drop (1 + rvK (s.drop 1))) = false by assumption]; decide)
         | (have l6 : lastP p0 = encR p0.r := by (unfold lastP; rw [if_neg (by rw [hka]; omega), if_pos (by rw [hka]; omega)])
            rw [l6] at r7
            exact (hC75.2 (by assumption)).2 p0.r hfr r7.symm)
         | (have l3 : lastP p0 = [p0.ld] := if_pos (by rw [hka]; omega)
            rw [l3] at r7
            have l4 := congrArg List.length r7
            simp only [AQ, X] at l4
            first
            | omega
            | (rw [r7] at hb_; have l5 : p0.ld = b_ := by simpa using hb_
               have l7 := g4 (by omega); rw [l5] at l7; omega)
            | (have l8 := Y (i := 1) (l := (s.drop ((1 + rvK (s.drop 1)) + rvK (s.drop (1 + rvK (s.drop 1)))))); omega))
         | (have l0 : lastP p0 = [] := by (unfold lastP; rw [if_neg (by rw [hka]; omega), if_neg (by rw [hka]; omega)])
            rw [l0] at r7
            have l4 := congrArg List.length r7
            simp only [X] at l4
            omega)
       exact ⟨zeroP, .slice none 0 0, [], false, .nil, rfl, fitR0, rdP_no hno, (M16.bare.take 0).nils⟩
      ·
       refine F [(2, _), (4, _), (35, _)] rfl ?_
       refine BQ rfl (CQ (G (J (D rfl (op_lds [_, _, _, _, _, _, _, _] (M14.at 0 rfl) rfl (C rfl) rfl) ?_))))
       refine BX (M14.focus 1 rfl) [_, _, _, _, _, _, _, _] [_, _, _, _, _, _, _, _] rfl rfl rfl rfl rfl (C rfl) (C rfl) rfl rfl ?_
       intro h17 M18
       replace M18 : Mem _ _ ([(p1, _)] :: [(p10, _)] :: []) _ := M18
       refine D rfl rfl (F [(2, _), (3, _)] rfl ?_)
       refine AZ (⟨[_, _], (res_cellN [_, _, _, _, _, _, _, _] rfl (M18.at 0 rfl) (C rfl) rfl (res_tmp rfl res_nil)), ?_⟩)
       have hs0 : s = a :: s.drop 1 := by simpa using drop_cons ha
       have henc : encP (⟨a, 0, 0, 0, (⟨0, 0, ([]), []⟩ : Res)⟩ : Rep) = s := by
         rw [encP_1 (by dsimp only; omega)]
         have : s.drop 1 = [] := List.eq_nil_of_length_eq_zero (by omega)
         rw [this] at hs0; exact hs0.symm
       have hm : MayP (⟨a, 0, 0, 0, (⟨0, 0, ([]), []⟩ : Res)⟩ : Rep) := ⟨by dsimp only; omega, fun _ => ⟨rfl, rfl⟩, fun _ => rfl, fun q => by dsimp only at q; omega, fun _ => rfl⟩
       exact ⟨(⟨a, 0, 0, 0, (⟨0, 0, ([]), []⟩ : Res)⟩ : Rep), _, _, true, .nil, rfl, (by first | exact hF75 | exact fitR0), rdP_yes ⟨hm, by first | exact hF75 | exact fitR0⟩ henc, (M18.bare.take 0).nils⟩
     ·
      refine F [(0, _), (2, _), (4, _), (32, _)] rfl ?_
      refine BQ rfl (CQ (G (J (D rfl rfl (D rfl (op_slS0 (l := s) 1 rfl rfl (by omega)) ?_)))))
      refine DQ rfl rfl rfl (ref_ReadV_ran M14.here (l := ((s).drop 1)) (by first | omega | (simp only [Y, DX, BZ, AQ, X, CZ]; omega) | (simp only [Y, DX, BZ, AQ, X, CZ] at *; omega))) ?_
      rintro _ h19 ⟨rfl, N20⟩
      have M21 := M14.trans N20
      refine D rfl rfl (CX (.int .u64 (((UInt64.ofNat (rvN ((s).drop 1))).toNat : Nat) : Int)) rfl rfl (u64_ofNat (n := (rvN ((s).drop 1))) (by have := rvN_lt ((s).drop 1); omega)) (D rfl rfl (D rfl rfl (D rfl rfl (D rfl rfl (D rfl rfl (F [(0, _), (2, _), (4, _), (5, _), (6, _), (7, _)] rfl ?_)))))))
      refine G (G (J (D rfl rfl ?_)))
      cases hb1 : (rvOK ((s).drop 1))
      ·
       refine CX (.bool true) rfl rfl rfl (F [(0, _), (2, _), (4, _), (5, _), (6, _), (46, _)] rfl ?_)
       refine AX rfl (G (J (CX (.agg #[(.int .u8 (0 : Int)), (.int .u64 (0 : Int)), (.int .u64 (0 : Int)), (.int .u8 (0 : Int)), (.int .u8 (0 : Int)), (.int .u64 (0 : Int)), (.string (bs ([]))), (.slice none 0 0)]) rfl rfl rfl ?_)))
       refine BX (M21.focus 1 rfl) [_, _, _, _, _, _, _, _] [_, _, _, _, _, _, _, _] rfl rfl rfl rfl rfl (C rfl) (C rfl) rfl rfl ?_
       intro h23 M24
       replace M24 : Mem _ _ ([(p1, _)] :: [(p10, _)] :: []) _ := M24
       refine D rfl rfl (F [(2, _), (3, _)] rfl ?_)
       refine AZ (⟨[_, _], (res_cellN [_, _, _, _, _, _, _, _] rfl (M24.at 0 rfl) (C rfl) rfl (res_tmp rfl res_nil)), ?_⟩)
       have hno : ∀ p0, GoodP2 p0 → encP p0 ≠ s := by
         intro p0 hg he
         obtain ⟨⟨g1, g2, g3, g4, g5⟩, hfr⟩ := id hg
         have hs0 : s = a :: s.drop 1 := by simpa using drop_cons ha
         have hka : p0.kd = a := by rw [hs0, encP_cons] at he; exact (List.cons.inj he).1
         have htl : (encP p0).tail = s.drop 1 := by rw [hs0, encP_cons] at he; exact (List.cons.inj he).2
         rw [hka] at g1 g2 g3 g4 g5
         by_cases k1 : a.toNat = 1
         · have hl1 : (s.drop 1).length = 0 := by rw [← htl, encP_1 (by rw [hka]; exact k1)]; rfl
           omega
         have htl2 : s.drop 1 = vb p0.se.toNat ++ (vb p0.sq.toNat ++ lastP p0) := by
           rw [← htl, encP_n (by rw [hka]; exact k1)]; simp
         obtain ⟨r1, r2, r4, r5, r6, r7⟩ := rv2r htl2
         first
         | omega
         | exact absurd r2 (by rw [show rvOK (s.drop 1) = false by assumption]; decide)
         | exact absurd r6 (by rw [show rvOK (s.drop (1 + rvK (s.drop 1))) = false by assumption]; decide)
         | (have l6 : lastP p0 = encR p0.r := by (unfold lastP; rw [if_neg (by rw [hka]; omega), if_pos (by rw [hka]; omega)])
            rw [l6] at r7
            exact (hC75.2 (by assumption)).2 p0.r hfr r7.symm)
         | (have l3 : lastP p0 = [p0.ld] := if_pos (by rw [hka]; omega)
            rw [l3] at r7
            have l4 := congrArg List.length r7
            simp only [AQ, X] at l4
            first
            | omega
            | (rw [r7] at hb_; have l5 : p0.ld = b_ := by simpa using hb_
               have l7 := g4 (by omega); rw [l5] at l7; omega)
            | (have l8 := Y (i := 1) (l := (s.drop ((1 + rvK (s.drop 1)) + rvK (s.drop (1 + rvK (s.drop 1)))))); omega))
         | (have l0 : lastP p0 = [] := by (unfold lastP; rw [if_neg (by rw [hka]; omega), if_neg (by rw [hka]; omega)])
            rw [l0] at r7
            have l4 := congrArg List.length r7
            simp only [X] at l4
            omega)
       exact ⟨zeroP, .slice none 0 0, [], false, .nil, rfl, fitR0, rdP_no hno, (M24.bare.take 0).nils⟩
      ·
       refine CX (.bool false) rfl rfl rfl (F [(0, _), (2, _), (4, _), (5, _), (6, _), (46, _)] rfl ?_)
       refine BQ rfl (CQ (G (J (D rfl rfl (D rfl rfl (CX (.int .i64 (((1 + (rvK ((s).drop 1))) : Nat) : Int)) rfl rfl (add_i64 (a := 1) (b := (rvK ((s).drop 1))) (by have := rvK_le ((s).drop 1); omega)) (D rfl (op_slS0 (l := s) (1 + (rvK ((s).drop 1))) rfl rfl (by omega)) ?_)))))))
       refine DQ rfl rfl rfl (ref_ReadV_ran M21.here (l := ((s).drop (1 + (rvK ((s).drop 1))))) (by first | omega | (simp only [Y, DX, BZ, AQ, X, CZ]; omega) | (simp only [Y, DX, BZ, AQ, X, CZ] at *; omega))) ?_
       rintro _ h25 ⟨rfl, N26⟩
       have M27 := M21.trans N26
       refine D rfl rfl (CX (.int .u64 (((UInt64.ofNat (rvN ((s).drop (1 + (rvK ((s).drop 1)))))).toNat : Nat) : Int)) rfl rfl (u64_ofNat (n := (rvN ((s).drop (1 + (rvK ((s).drop 1)))))) (by have := rvN_lt ((s).drop (1 + (rvK ((s).drop 1)))); omega)) (D rfl rfl (D rfl rfl (D rfl rfl (D rfl rfl (D rfl rfl (F [(0, _), (2, _), (4, _), (5, _), (6, _), (7, _), (8, _), (9, _)] rfl ?_)))))))
       refine G (G (J (D rfl rfl ?_)))
       cases hb2 : (rvOK ((s).drop (1 + (rvK ((s).drop 1)))))
       ·
        refine CX (.bool true) rfl rfl rfl (F [(0, _), (2, _), (4, _), (5, _), (6, _), (8, _), (9, _), (58, _)] rfl ?_)
        refine AX rfl (G (J (CX (.agg #[(.int .u8 (0 : Int)), (.int .u64 (0 : Int)), (.int .u64 (0 : Int)), (.int .u8 (0 : Int)), (.int .u8 (0 : Int)), (.int .u64 (0 : Int)), (.string (bs ([]))), (.slice none 0 0)]) rfl rfl rfl ?_)))
        refine BX (M27.focus 1 rfl) [_, _, _, _, _, _, _, _] [_, _, _, _, _, _, _, _] rfl rfl rfl rfl rfl (C rfl) (C rfl) rfl rfl ?_
        intro h29 M30
        replace M30 : Mem _ _ ([(p1, _)] :: [(p10, _)] :: []) _ := M30
        refine D rfl rfl (F [(2, _), (3, _)] rfl ?_)
        refine AZ (⟨[_, _], (res_cellN [_, _, _, _, _, _, _, _] rfl (M30.at 0 rfl) (C rfl) rfl (res_tmp rfl res_nil)), ?_⟩)
        have hno : ∀ p0, GoodP2 p0 → encP p0 ≠ s := by
          intro p0 hg he
          obtain ⟨⟨g1, g2, g3, g4, g5⟩, hfr⟩ := id hg
          have hs0 : s = a :: s.drop 1 := by simpa using drop_cons ha
          have hka : p0.kd = a := by rw [hs0, encP_cons] at he; exact (List.cons.inj he).1
          have htl : (encP p0).tail = s.drop 1 := by rw [hs0, encP_cons] at he; exact (List.cons.inj he).2
          rw [hka] at g1 g2 g3 g4 g5
          by_cases k1 : a.toNat = 1
          · have hl1 : (s.drop 1).length = 0 := by rw [← htl, encP_1 (by rw [hka]; exact k1)]; rfl
            omega
          have htl2 : s.drop 1 = vb p0.se.toNat ++ (vb p0.sq.toNat ++ lastP p0) := by
            rw [← htl, encP_n (by rw [hka]; exact k1)]; simp
          obtain ⟨r1, r2, r4, r5, r6, r7⟩ := rv2r htl2
          first
          | omega
          | exact absurd r2 (by rw [show rvOK (s.drop 1) = false by assumption]; decide)
          | exact absurd r6 (by rw [show rvOK (s.drop (1 + rvK (s.drop 1))) = false by assumption]; decide)
          | (have l6 : lastP p0 = encR p0.r := by (unfold lastP; rw [if_neg (by rw [hka]; omega), if_pos (by rw [hka]; omega)])
             rw [l6] at r7
             exact (hC75.2 (by assumption)).2 p0.r hfr r7.symm)
          | (have l3 : lastP p0 = [p0.ld] := if_pos (by rw [hka]; omega)
             rw [l3] at r7
             have l4 := congrArg List.length r7
             simp only [AQ, X] at l4
             first
             | omega
             | (rw [r7] at hb_; have l5 : p0.ld = b_ := by simpa using hb_
                have l7 := g4 (by omega); rw [l5] at l7; omega)
             | (have l8 := Y (i := 1) (l := (s.drop ((1 + rvK (s.drop 1)) + rvK (s.drop (1 + rvK (s.drop 1)))))); omega))
          | (have l0 : lastP p0 = [] := by (unfold lastP; rw [if_neg (by rw [hka]; omega), if_neg (by rw [hka]; omega)])
             rw [l0] at r7
             have l4 := congrArg List.length r7
             simp only [X] at l4
             omega)
        exact ⟨zeroP, .slice none 0 0, [], false, .nil, rfl, fitR0, rdP_no hno, (M30.bare.take 0).nils⟩
       ·
        refine CX (.bool false) rfl rfl rfl (F [(0, _), (2, _), (4, _), (5, _), (6, _), (8, _), (9, _), (58, _)] rfl ?_)
        refine BQ rfl (CQ (G (J (D rfl rfl (D rfl rfl ?_)))))
        refine BX (M27.focus 0 rfl) [_] [_, _, _, _, _, _, _, _] rfl rfl rfl rfl rfl (C rfl) (C rfl) rfl rfl ?_
        intro h31 M32
        replace M32 : Mem _ _ ([(p10, _)] :: [(p1, _)] :: []) _ := M32
        refine F [(0, _), (2, _), (4, _), (6, _), (8, _), (9, _)] rfl ?_
        refine G (J (D rfl rfl (D rfl rfl ?_)))
        refine BX (M32.focus 0 rfl) [_] [_, _, _, _, _, _, _, _] rfl rfl rfl rfl rfl (C rfl) (C rfl) rfl rfl ?_
        intro h33 M34
        replace M34 : Mem _ _ ([(p10, _)] :: [(p1, _)] :: []) _ := M34
        refine F [(0, _), (2, _), (4, _), (6, _), (9, _)] rfl ?_
        refine G (J (D rfl rfl (D rfl rfl (CX (.int .i64 (((1 + (rvK ((s).drop 1))) : Nat) : Int)) rfl rfl (add_i64 (a := 1) (b := (rvK ((s).drop 1))) (by have := rvK_le ((s).drop 1); omega)) (D rfl rfl (CX (.int .i64 ((((1 + (rvK ((s).drop 1))) + (rvK ((s).drop (1 + (rvK ((s).drop 1)))))) : Nat) : Int)) rfl rfl (add_i64 (a := (1 + (rvK ((s).drop 1)))) (b := (rvK ((s).drop (1 + (rvK ((s).drop 1)))))) (by have := rvK_le ((s).drop (1 + (rvK ((s).drop 1)))); omega)) (D rfl (op_slS0 (l := s) ((1 + (rvK ((s).drop 1))) + (rvK ((s).drop (1 + (rvK ((s).drop 1)))))) rfl rfl (by omega)) (D rfl rfl (F [(2, _), (4, _), (10, _)] rfl ?_)))))))))
        refine G (G (J (D rfl rfl (D rfl (op_ld (M34.at 0 rfl) rfl rfl) ?_))))
        refine WS.eqlN (a := (a).toNat) (b := 6) rfl rfl rfl (fun e72 => ?_) (fun e72 => ?_)
        ·
         refine F [(2, _), (4, _), (10, _), (72, _)] rfl ?_
         refine AX rfl (G (J (D rfl rfl ?_)))
         refine DQ rfl rfl rfl (refReadR_ran M34.here (s := ((s).drop ((1 + (rvK ((s).drop 1))) + (rvK ((s).drop (1 + (rvK ((s).drop 1)))))))) (by first | omega | (simp only [Y]; omega))) ?_
         rintro _ h35 ⟨r75, V38, S39, ok75, O40, rfl, hF75, hC75, N36⟩
         obtain ⟨P41, rfl⟩ := O40.shape
         have M37 := M34.trans N36
         replace M37 : Mem _ _ (S39 :: [(p10, _)] :: [(p1, _)] :: []) _ := M37
         refine D rfl rfl (D rfl rfl (D rfl rfl ?_))
         refine WS.new M37 rfl ?_
         intro p42 h43 M44
         refine BX (M44.focus 0 rfl) [_, _, _, _] [_, _, _, _] rfl rfl rfl rfl rfl (C rfl) (C rfl) rfl rfl ?_
         intro h45 M46
         replace M46 : Mem _ _ ([(p42, _)] :: S39 :: [(p10, _)] :: [(p1, _)] :: []) _ := M46
         refine D rfl rfl (F [(2, _), (4, _), (11, _), (12, _)] rfl ?_)
         refine G (G (J (D rfl rfl ?_)))
         cases hb3 : ok75
         ·
          refine CX (.bool true) rfl rfl rfl (F [(2, _), (4, _), (11, _), (79, _)] rfl ?_)
          refine AX rfl (G (J (CX (.agg #[(.int .u8 (0 : Int)), (.int .u64 (0 : Int)), (.int .u64 (0 : Int)), (.int .u8 (0 : Int)), (.int .u8 (0 : Int)), (.int .u64 (0 : Int)), (.string (bs ([]))), (.slice none 0 0)]) rfl rfl rfl ?_)))
          refine BX (M46.focus 3 rfl) [_, _, _, _, _, _, _, _] [_, _, _, _, _, _, _, _] rfl rfl rfl rfl rfl (C rfl) (C rfl) rfl rfl ?_
          intro h47 M48
          replace M48 : Mem _ _ ([(p1, _)] :: [(p42, _)] :: S39 :: [(p10, _)] :: []) _ := M48
          refine D rfl rfl (F [(2, _), (3, _)] rfl ?_)
          refine AZ (⟨[_, _], (res_cellN [_, _, _, _, _, _, _, _] rfl (M48.at 0 rfl) (C rfl) rfl (res_tmp rfl res_nil)), ?_⟩)
          have hno : ∀ p0, GoodP2 p0 → encP p0 ≠ s := by
            intro p0 hg he
            obtain ⟨⟨g1, g2, g3, g4, g5⟩, hfr⟩ := id hg
            have hs0 : s = a :: s.drop 1 := by simpa using drop_cons ha
            have hka : p0.kd = a := by rw [hs0, encP_cons] at he; exact (List.cons.inj he).1
            have htl : (encP p0).tail = s.drop 1 := by rw [hs0, encP_cons] at he; exact (List.cons.inj he).2
            rw [hka] at g1 g2 g3 g4 g5
            by_cases k1 : a.toNat = 1
            · have hl1 : (s.drop 1).length = 0 := by rw [← htl, encP_1 (by rw [hka]; exact k1)]; rfl
              omega
            have htl2 : s.drop 1 = vb p0.se.toNat ++ (vb p0.sq.toNat ++ lastP p0) := by
              rw [← htl, encP_n (by rw [hka]; exact k1)]; simp
            obtain ⟨r1, r2, r4, r5, r6, r7⟩ := rv2r htl2
            first
            | omega
            | exact absurd r2 (by rw [show rvOK (s.drop 1) = false by assumption]; decide)
            | exact absurd r6 (by rw [show rvOK (s.drop (1 + rvK (s.drop 1))) = false by assumption]; decide)
            | (have l6 : lastP p0 = encR p0.r := by (unfold lastP; rw [if_neg (by rw [hka]; omega), if_pos (by rw [hka]; omega)])
               rw [l6] at r7
               exact (hC75.2 (by assumption)).2 p0.r hfr r7.symm)
            | (have l3 : lastP p0 = [p0.ld] := if_pos (by rw [hka]; omega)
               rw [l3] at r7
               have l4 := congrArg List.length r7
               simp only [AQ, X] at l4
               first
               | omega
               | (rw [r7] at hb_; have l5 : p0.ld = b_ := by simpa using hb_
                  have l7 := g4 (by omega); rw [l5] at l7; omega)
               | (have l8 := Y (i := 1) (l := (s.drop ((1 + rvK (s.drop 1)) + rvK (s.drop (1 + rvK (s.drop 1)))))); omega))
            | (have l0 : lastP p0 = [] := by (unfold lastP; rw [if_neg (by rw [hka]; omega), if_neg (by rw [hka]; omega)])
               rw [l0] at r7
               have l4 := congrArg List.length r7
               simp only [X] at l4
               omega)
          exact ⟨zeroP, .slice none 0 0, [], false, .nil, rfl, fitR0, rdP_no hno, (M48.bare.take 0).nils⟩
         ·
          refine CX (.bool false) rfl rfl rfl (F [(2, _), (4, _), (11, _), (79, _)] rfl ?_)
          refine BQ rfl (CQ (G (J (D rfl (op_lds [_, _, _, _] (M46.at 0 rfl) rfl (C rfl) rfl) (D rfl rfl ?_)))))
          refine BX (M46.focus 2 rfl) [_, _, _, _] [_, _, _, _, _, _, _, _] rfl rfl rfl rfl rfl (C rfl) (C rfl) rfl rfl ?_
          intro h49 M50
          replace M50 : Mem _ _ ([(p10, _)] :: [(p42, _)] :: S39 :: [(p1, _)] :: []) _ := M50
          refine F [(2, _), (4, _)] rfl ?_
          refine G (J (D rfl (op_lds [_, _, _, _, _, _, _, _] (M50.at 0 rfl) rfl (C rfl) rfl) ?_))
          refine BX (M50.focus 3 rfl) [_, _, _, _, _, _, _, _] [_, _, _, _, _, _, _, _] rfl rfl rfl rfl rfl (C rfl) (C rfl) rfl rfl ?_
          intro h51 M52
          replace M52 : Mem _ _ ([(p1, _)] :: [(p10, _)] :: [(p42, _)] :: S39 :: []) _ := M52
          refine D rfl rfl (F [(2, _), (3, _)] rfl ?_)
          refine AZ (⟨[_, _], (res_cellN [_, _, _, _, _, _, _, _] rfl (M52.at 0 rfl) (C rfl) rfl (res_tmp rfl res_nil)), ?_⟩)
          have hs0 : s = a :: s.drop 1 := by simpa using drop_cons ha
          have hs2 := snd2 (by assumption) (by assumption)
          have hu1 : (UInt64.ofNat (rvN (s.drop 1))).toNat = rvN (s.drop 1) := n64 hn1
          have hu2 : (UInt64.ofNat (rvN (s.drop (1 + rvK (s.drop 1))))).toNat = rvN (s.drop (1 + rvK (s.drop 1))) := n64 hn2
          have hR := hC75.1 (by assumption)
          have henc : encP (⟨a, (UInt64.ofNat (rvN ((s).drop 1))), (UInt64.ofNat (rvN ((s).drop (1 + (rvK ((s).drop 1)))))), 0, r75⟩ : Rep) = s := by
            rw [encP_6 (by dsimp only; omega)]
            dsimp only
            rw [hu1, hu2, hR]
            conv => rhs; rw [hs0, hs2]
            simp
          have hm : MayP (⟨a, (UInt64.ofNat (rvN ((s).drop 1))), (UInt64.ofNat (rvN ((s).drop (1 + (rvK ((s).drop 1)))))), 0, r75⟩ : Rep) := ⟨by dsimp only; omega, fun q => by dsimp only at q; omega, fun _ => rfl, fun q => by dsimp only at q; omega, fun q => by dsimp only at q; omega⟩
          exact ⟨(⟨a, (UInt64.ofNat (rvN ((s).drop 1))), (UInt64.ofNat (rvN ((s).drop (1 + (rvK ((s).drop 1)))))), 0, r75⟩ : Rep), _, _, true, O40, rfl, (by first | exact hF75 | exact fitR0), rdP_yes ⟨hm, by first | exact hF75 | exact fitR0⟩ henc, ((M52.bare.focus 3 rfl).take 1)⟩
        ·
         refine F [(2, _), (4, _), (10, _), (72, _)] rfl ?_
         refine BQ rfl (CQ (G (G (J (D rfl rfl (D rfl (op_ld (M34.at 0 rfl) rfl rfl) ?_))))))
         refine WS.eqlN (a := (a).toNat) (b := 3) rfl rfl rfl (fun e86 => ?_) (fun e86 => ?_)
         ·
          refine F [(2, _), (4, _), (10, _), (86, _)] rfl ?_
          refine AX rfl (G (G (J (D rfl rfl (D rfl (op_lenS (l := ((s).drop ((1 + (rvK ((s).drop 1))) + (rvK ((s).drop (1 + (rvK ((s).drop 1)))))))) rfl) ?_)))))
          refine WS.eqlN (a := (((s).drop ((1 + (rvK ((s).drop 1))) + (rvK ((s).drop (1 + (rvK ((s).drop 1)))))))).length) (b := 0) rfl rfl rfl (fun e89 => ?_) (fun e89 => ?_)
          ·
           refine D rfl rfl (U rfl (U rfl (U rfl (D rfl rfl (F [(2, _), (4, _), (10, _), (94, _)] rfl ?_)))))
           refine AX rfl (G (J (CX (.agg #[(.int .u8 (0 : Int)), (.int .u64 (0 : Int)), (.int .u64 (0 : Int)), (.int .u8 (0 : Int)), (.int .u8 (0 : Int)), (.int .u64 (0 : Int)), (.string (bs ([]))), (.slice none 0 0)]) rfl rfl rfl ?_)))
           refine BX (M34.focus 1 rfl) [_, _, _, _, _, _, _, _] [_, _, _, _, _, _, _, _] rfl rfl rfl rfl rfl (C rfl) (C rfl) rfl rfl ?_
           intro h53 M54
           replace M54 : Mem _ _ ([(p1, _)] :: [(p10, _)] :: []) _ := M54
           refine D rfl rfl (F [(2, _), (3, _)] rfl ?_)
           refine AZ (⟨[_, _], (res_cellN [_, _, _, _, _, _, _, _] rfl (M54.at 0 rfl) (C rfl) rfl (res_tmp rfl res_nil)), ?_⟩)
           have hno : ∀ p0, GoodP2 p0 → encP p0 ≠ s := by
             intro p0 hg he
             obtain ⟨⟨g1, g2, g3, g4, g5⟩, hfr⟩ := id hg
             have hs0 : s = a :: s.drop 1 := by simpa using drop_cons ha
             have hka : p0.kd = a := by rw [hs0, encP_cons] at he; exact (List.cons.inj he).1
             have htl : (encP p0).tail = s.drop 1 := by rw [hs0, encP_cons] at he; exact (List.cons.inj he).2
             rw [hka] at g1 g2 g3 g4 g5
             by_cases k1 : a.toNat = 1
             · have hl1 : (s.drop 1).length = 0 := by rw [← htl, encP_1 (by rw [hka]; exact k1)]; rfl
               omega
             have htl2 : s.drop 1 = vb p0.se.toNat ++ (vb p0.sq.toNat ++ lastP p0) := by
               rw [← htl, encP_n (by rw [hka]; exact k1)]; simp
             obtain ⟨r1, r2, r4, r5, r6, r7⟩ := rv2r htl2
             first
             | omega
             | exact absurd r2 (by rw [show rvOK (s.drop 1) = false by assumption]; decide)
             | exact absurd r6 (by rw [show rvOK (s.drop (1 + rvK (s.drop 1))) = false by assumption]; decide)
             | (have l6 : lastP p0 = encR p0.r := by (unfold lastP; rw [if_neg (by rw [hka]; omega), if_pos (by rw [hka]; omega)])
                rw [l6] at r7
                exact (hC75.2 (by assumption)).2 p0.r hfr r7.symm)
             | (have l3 : lastP p0 = [p0.ld] := if_pos (by rw [hka]; omega)
                rw [l3] at r7
                have l4 := congrArg List.length r7
                simp only [AQ, X] at l4
                first
                | omega
                | (rw [r7] at hb_; have l5 : p0.ld = b_ := by simpa using hb_
                   have l7 := g4 (by omega); rw [l5] at l7; omega)
                | (have l8 := Y (i := 1) (l := (s.drop ((1 + rvK (s.drop 1)) + rvK (s.drop (1 + rvK (s.drop 1)))))); omega))
             | (have l0 : lastP p0 = [] := by (unfold lastP; rw [if_neg (by rw [hka]; omega), if_neg (by rw [hka]; omega)])
                rw [l0] at r7
                have l4 := congrArg List.length r7
                simp only [X] at l4
                omega)
           exact ⟨zeroP, .slice none 0 0, [], false, .nil, rfl, fitR0, rdP_no hno, (M54.bare.take 0).nils⟩
          ·
           refine D rfl rfl (D rfl rfl ?_)
           obtain ⟨b_, hb_⟩ : ∃ c, (((s).drop ((1 + (rvK ((s).drop 1))) + (rvK ((s).drop (1 + (rvK ((s).drop 1))))))))[0]? = some c := ⟨_, List.getElem?_eq_getElem (show 0 < (((s).drop ((1 + (rvK ((s).drop 1))) + (rvK ((s).drop (1 + (rvK ((s).drop 1)))))))).length by omega)⟩
           refine D rfl (op_ixS 0 rfl rfl hb_) ?_
           refine WS.gtrN (a := (b_).toNat) (b := 5) rfl rfl rfl (fun e93 => ?_) (fun e93 => ?_)
           ·
            refine D rfl rfl (F [(2, _), (4, _), (10, _), (94, _)] rfl ?_)
            refine AX rfl (G (J (CX (.agg #[(.int .u8 (0 : Int)), (.int .u64 (0 : Int)), (.int .u64 (0 : Int)), (.int .u8 (0 : Int)), (.int .u8 (0 : Int)), (.int .u64 (0 : Int)), (.string (bs ([]))), (.slice none 0 0)]) rfl rfl rfl ?_)))
            refine BX (M34.focus 1 rfl) [_, _, _, _, _, _, _, _] [_, _, _, _, _, _, _, _] rfl rfl rfl rfl rfl (C rfl) (C rfl) rfl rfl ?_
            intro h55 M56
            replace M56 : Mem _ _ ([(p1, _)] :: [(p10, _)] :: []) _ := M56
            refine D rfl rfl (F [(2, _), (3, _)] rfl ?_)
            refine AZ (⟨[_, _], (res_cellN [_, _, _, _, _, _, _, _] rfl (M56.at 0 rfl) (C rfl) rfl (res_tmp rfl res_nil)), ?_⟩)
            have hno : ∀ p0, GoodP2 p0 → encP p0 ≠ s := by
              intro p0 hg he
              obtain ⟨⟨g1, g2, g3, g4, g5⟩, hfr⟩ := id hg
              have hs0 : s = a :: s.drop 1 := by simpa using drop_cons ha
              have hka : p0.kd = a := by rw [hs0, encP_cons] at he; exact (List.cons.inj he).1
              have htl : (encP p0).tail = s.drop 1 := by rw [hs0, encP_cons] at he; exact (List.cons.inj he).2
              rw [hka] at g1 g2 g3 g4 g5
              by_cases k1 : a.toNat = 1
              · have hl1 : (s.drop 1).length = 0 := by rw [← htl, encP_1 (by rw [hka]; exact k1)]; rfl
                omega
              have htl2 : s.drop 1 = vb p0.se.toNat ++ (vb p0.sq.toNat ++ lastP p0) := by
                rw [← htl, encP_n (by rw [hka]; exact k1)]; simp
              obtain ⟨r1, r2, r4, r5, r6, r7⟩ := rv2r htl2
              first
              | omega
              | exact absurd r2 (by rw [show rvOK (s.drop 1) = false by assumption]; decide)
              | exact absurd r6 (by rw [show rvOK (s.drop (1 + rvK (s.drop 1))) = false by assumption]; decide)
              | (have l6 : lastP p0 = encR p0.r := by (unfold lastP; rw [if_neg (by rw [hka]; omega), if_pos (by rw [hka]; omega)])
                 rw [l6] at r7
                 exact (hC75.2 (by assumption)).2 p0.r hfr r7.symm)
              | (have l3 : lastP p0 = [p0.ld] := if_pos (by rw [hka]; omega)
                 rw [l3] at r7
                 have l4 := congrArg List.length r7
                 simp only [AQ, X] at l4
                 first
                 | omega
                 | (rw [r7] at hb_; have l5 : p0.ld = b_ := by simpa using hb_
                    have l7 := g4 (by omega); rw [l5] at l7; omega)
                 | (have l8 := Y (i := 1) (l := (s.drop ((1 + rvK (s.drop 1)) + rvK (s.drop (1 + rvK (s.drop 1)))))); omega))
              | (have l0 : lastP p0 = [] := by (unfold lastP; rw [if_neg (by rw [hka]; omega), if_neg (by rw [hka]; omega)])
                 rw [l0] at r7
                 have l4 := congrArg List.length r7
                 simp only [X] at l4
                 omega)
            exact ⟨zeroP, .slice none 0 0, [], false, .nil, rfl, fitR0, rdP_no hno, (M56.bare.take 0).nils⟩
           ·
            refine D rfl rfl (F [(2, _), (4, _), (10, _), (94, _)] rfl ?_)
            refine BQ rfl (CQ (G (J (D rfl rfl (D rfl (op_ixS 0 rfl rfl hb_) (D rfl rfl ?_))))))
            refine BX (M34.focus 0 rfl) [_] [_, _, _, _, _, _, _, _] rfl rfl rfl rfl rfl (C rfl) (C rfl) rfl rfl ?_
            intro h57 M58
            replace M58 : Mem _ _ ([(p10, _)] :: [(p1, _)] :: []) _ := M58
            refine F [(2, _), (4, _), (10, _)] rfl ?_
            refine J (D rfl rfl (D rfl (op_slS0 (l := ((s).drop ((1 + (rvK ((s).drop 1))) + (rvK ((s).drop (1 + (rvK ((s).drop 1)))))))) 1 rfl rfl (by omega)) (D rfl rfl (F [(2, _), (4, _), (10, _)] rfl ?_))))
            refine G (G (J (D rfl rfl (D rfl (op_lenS (l := ((((s).drop ((1 + (rvK ((s).drop 1))) + (rvK ((s).drop (1 + (rvK ((s).drop 1)))))))).drop 1)) rfl) ?_))))
            refine WS.gtrN (a := (((((s).drop ((1 + (rvK ((s).drop 1))) + (rvK ((s).drop (1 + (rvK ((s).drop 1)))))))).drop 1)).length) (b := 0) rfl rfl rfl (fun e103 => ?_) (fun e103 => ?_)
            ·
             refine F [(2, _), (4, _), (103, _)] rfl ?_
             refine AX rfl (G (J (CX (.agg #[(.int .u8 (0 : Int)), (.int .u64 (0 : Int)), (.int .u64 (0 : Int)), (.int .u8 (0 : Int)), (.int .u8 (0 : Int)), (.int .u64 (0 : Int)), (.string (bs ([]))), (.slice none 0 0)]) rfl rfl rfl ?_)))
             refine BX (M58.focus 1 rfl) [_, _, _, _, _, _, _, _] [_, _, _, _, _, _, _, _] rfl rfl rfl rfl rfl (C rfl) (C rfl) rfl rfl ?_
             intro h59 M60
             replace M60 : Mem _ _ ([(p1, _)] :: [(p10, _)] :: []) _ := M60
             refine D rfl rfl (F [(2, _), (3, _)] rfl ?_)
             refine AZ (⟨[_, _], (res_cellN [_, _, _, _, _, _, _, _] rfl (M60.at 0 rfl) (C rfl) rfl (res_tmp rfl res_nil)), ?_⟩)
             have hno : ∀ p0, GoodP2 p0 → encP p0 ≠ s := by
               intro p0 hg he
               obtain ⟨⟨g1, g2, g3, g4, g5⟩, hfr⟩ := id hg
               have hs0 : s = a :: s.drop 1 := by simpa using drop_cons ha
               have hka : p0.kd = a := by rw [hs0, encP_cons] at he; exact (List.cons.inj he).1
               have htl : (encP p0).tail = s.drop 1 := by rw [hs0, encP_cons] at he; exact (List.cons.inj he).2
               rw [hka] at g1 g2 g3 g4 g5
               by_cases k1 : a.toNat = 1
               · have hl1 : (s.drop 1).length = 0 := by rw [← htl, encP_1 (by rw [hka]; exact k1)]; rfl
                 omega
               have htl2 : s.drop 1 = vb p0.se.toNat ++ (vb p0.sq.toNat ++ lastP p0) := by
                 rw [← htl, encP_n (by rw [hka]; exact k1)]; simp
               obtain ⟨r1, r2, r4, r5, r6, r7⟩ := rv2r htl2
               first
               | omega
               | exact absurd r2 (by rw [show rvOK (s.drop 1) = false by assumption]; decide)
               | exact absurd r6 (by rw [show rvOK (s.drop (1 + rvK (s.drop 1))) = false by assumption]; decide)
               | (have l6 : lastP p0 = encR p0.r := by (unfold lastP; rw [if_neg (by rw [hka]; omega), if_pos (by rw [hka]; omega)])
                  rw [l6] at r7
                  exact (hC75.2 (by assumption)).2 p0.r hfr r7.symm)
               | (have l3 : lastP p0 = [p0.ld] := if_pos (by rw [hka]; omega)
                  rw [l3] at r7
                  have l4 := congrArg List.length r7
                  simp only [AQ, X] at l4
                  first
                  | omega
                  | (rw [r7] at hb_; have l5 : p0.ld = b_ := by simpa using hb_
                     have l7 := g4 (by omega); rw [l5] at l7; omega)
                  | (have l8 := Y (i := 1) (l := (s.drop ((1 + rvK (s.drop 1)) + rvK (s.drop (1 + rvK (s.drop 1)))))); omega))
               | (have l0 : lastP p0 = [] := by (unfold lastP; rw [if_neg (by rw [hka]; omega), if_neg (by rw [hka]; omega)])
                  rw [l0] at r7
                  have l4 := congrArg List.length r7
                  simp only [X] at l4
                  omega)
             exact ⟨zeroP, .slice none 0 0, [], false, .nil, rfl, fitR0, rdP_no hno, (M60.bare.take 0).nils⟩
            ·
             refine F [(2, _), (4, _), (103, _)] rfl ?_
             refine BQ rfl (CQ (G (J (D rfl (op_lds [_, _, _, _, _, _, _, _] (M58.at 0 rfl) rfl (C rfl) rfl) ?_))))
             refine BX (M58.focus 1 rfl) [_, _, _, _, _, _, _, _] [_, _, _, _, _, _, _, _] rfl rfl rfl rfl rfl (C rfl) (C rfl) rfl rfl ?_
             intro h61 M62
             replace M62 : Mem _ _ ([(p1, _)] :: [(p10, _)] :: []) _ := M62
             refine D rfl rfl (F [(2, _), (3, _)] rfl ?_)
             refine AZ (⟨[_, _], (res_cellN [_, _, _, _, _, _, _, _] rfl (M62.at 0 rfl) (C rfl) rfl (res_tmp rfl res_nil)), ?_⟩)
             have hs0 : s = a :: s.drop 1 := by simpa using drop_cons ha
             have hs2 := snd2 (by assumption) (by assumption)
             have hu1 : (UInt64.ofNat (rvN (s.drop 1))).toNat = rvN (s.drop 1) := n64 hn1
             have hu2 : (UInt64.ofNat (rvN (s.drop (1 + rvK (s.drop 1))))).toNat = rvN (s.drop (1 + rvK (s.drop 1))) := n64 hn2
             have hR : (s.drop ((1 + rvK (s.drop 1)) + rvK (s.drop (1 + rvK (s.drop 1))))) = [b_] := by
               have e1 := drop_cons hb_
               rw [List.drop_zero] at e1
               rw [e1, List.eq_nil_of_length_eq_zero (show ((s.drop ((1 + rvK (s.drop 1)) + rvK (s.drop (1 + rvK (s.drop 1))))).drop (0 + 1)).length = 0 from by show ((s.drop ((1 + rvK (s.drop 1)) + rvK (s.drop (1 + rvK (s.drop 1))))).drop 1).length = 0; omega)]
             have henc : encP (⟨a, (UInt64.ofNat (rvN ((s).drop 1))), (UInt64.ofNat (rvN ((s).drop (1 + (rvK ((s).drop 1)))))), b_, (⟨0, 0, ([]), []⟩ : Res)⟩ : Rep) = s := by
               rw [encP_3 (by dsimp only; omega)]
               dsimp only
               rw [hu1, hu2]
               conv => rhs; rw [hs0, hs2, hR]
               simp
             have hm : MayP (⟨a, (UInt64.ofNat (rvN ((s).drop 1))), (UInt64.ofNat (rvN ((s).drop (1 + (rvK ((s).drop 1)))))), b_, (⟨0, 0, ([]), []⟩ : Res)⟩ : Rep) := ⟨by dsimp only; omega, fun q => by dsimp only at q; omega, fun q => by dsimp only at q; omega, fun q => by dsimp only; omega, fun _ => rfl⟩
             exact ⟨(⟨a, (UInt64.ofNat (rvN ((s).drop 1))), (UInt64.ofNat (rvN ((s).drop (1 + (rvK ((s).drop 1)))))), b_, (⟨0, 0, ([]), []⟩ : Res)⟩ : Rep), _, _, true, .nil, rfl, (by first | exact hF75 | exact fitR0), rdP_yes ⟨hm, by first | exact hF75 | exact fitR0⟩ henc, (M62.bare.take 0).nils⟩
         ·
          refine F [(2, _), (4, _), (10, _), (86, _)] rfl ?_
          refine BQ rfl (CQ (G (G (J (D rfl rfl (D rfl (op_lenS (l := ((s).drop ((1 + (rvK ((s).drop 1))) + (rvK ((s).drop (1 + (rvK ((s).drop 1)))))))) rfl) ?_))))))
          refine WS.gtrN (a := (((s).drop ((1 + (rvK ((s).drop 1))) + (rvK ((s).drop (1 + (rvK ((s).drop 1)))))))).length) (b := 0) rfl rfl rfl (fun e103 => ?_) (fun e103 => ?_)
          ·
           refine F [(2, _), (4, _), (103, _)] rfl ?_
           refine AX rfl (G (J (CX (.agg #[(.int .u8 (0 : Int)), (.int .u64 (0 : Int)), (.int .u64 (0 : Int)), (.int .u8 (0 : Int)), (.int .u8 (0 : Int)), (.int .u64 (0 : Int)), (.string (bs ([]))), (.slice none 0 0)]) rfl rfl rfl ?_)))
           refine BX (M34.focus 1 rfl) [_, _, _, _, _, _, _, _] [_, _, _, _, _, _, _, _] rfl rfl rfl rfl rfl (C rfl) (C rfl) rfl rfl ?_
           intro h63 M64
           replace M64 : Mem _ _ ([(p1, _)] :: [(p10, _)] :: []) _ := M64
           refine D rfl rfl (F [(2, _), (3, _)] rfl ?_)
           refine AZ (⟨[_, _], (res_cellN [_, _, _, _, _, _, _, _] rfl (M64.at 0 rfl) (C rfl) rfl (res_tmp rfl res_nil)), ?_⟩)
           have hno : ∀ p0, GoodP2 p0 → encP p0 ≠ s := by
             intro p0 hg he
             obtain ⟨⟨g1, g2, g3, g4, g5⟩, hfr⟩ := id hg
             have hs0 : s = a :: s.drop 1 := by simpa using drop_cons ha
             have hka : p0.kd = a := by rw [hs0, encP_cons] at he; exact (List.cons.inj he).1
             have htl : (encP p0).tail = s.drop 1 := by rw [hs0, encP_cons] at he; exact (List.cons.inj he).2
             rw [hka] at g1 g2 g3 g4 g5
             by_cases k1 : a.toNat = 1
             · have hl1 : (s.drop 1).length = 0 := by rw [← htl, encP_1 (by rw [hka]; exact k1)]; rfl
               omega
             have htl2 : s.drop 1 = vb p0.se.toNat ++ (vb p0.sq.toNat ++ lastP p0) := by
               rw [← htl, encP_n (by rw [hka]; exact k1)]; simp
             obtain ⟨r1, r2, r4, r5, r6, r7⟩ := rv2r htl2
             first
             | omega
             | exact absurd r2 (by rw [show rvOK (s.drop 1) = false by assumption]; decide)
             | exact absurd r6 (by rw [show rvOK (s.drop (1 + rvK (s.drop 1))) = false by assumption]; decide)
             | (have l6 : lastP p0 = encR p0.r := by (unfold lastP; rw [if_neg (by rw [hka]; omega), if_pos (by rw [hka]; omega)])
                rw [l6] at r7
                exact (hC75.2 (by assumption)).2 p0.r hfr r7.symm)
             | (have l3 : lastP p0 = [p0.ld] := if_pos (by rw [hka]; omega)
                rw [l3] at r7
                have l4 := congrArg List.length r7
                simp only [AQ, X] at l4
                first
                | omega
                | (rw [r7] at hb_; have l5 : p0.ld = b_ := by simpa using hb_
                   have l7 := g4 (by omega); rw [l5] at l7; omega)
                | (have l8 := Y (i := 1) (l := (s.drop ((1 + rvK (s.drop 1)) + rvK (s.drop (1 + rvK (s.drop 1)))))); omega))
             | (have l0 : lastP p0 = [] := by (unfold lastP; rw [if_neg (by rw [hka]; omega), if_neg (by rw [hka]; omega)])
                rw [l0] at r7
                have l4 := congrArg List.length r7
                simp only [X] at l4
                omega)
           exact ⟨zeroP, .slice none 0 0, [], false, .nil, rfl, fitR0, rdP_no hno, (M64.bare.take 0).nils⟩
          ·
           refine F [(2, _), (4, _), (103, _)] rfl ?_
           refine BQ rfl (CQ (G (J (D rfl (op_lds [_, _, _, _, _, _, _, _] (M34.at 0 rfl) rfl (C rfl) rfl) ?_))))
           refine BX (M34.focus 1 rfl) [_, _, _, _, _, _, _, _] [_, _, _, _, _, _, _, _] rfl rfl rfl rfl rfl (C rfl) (C rfl) rfl rfl ?_
           intro h65 M66
           replace M66 : Mem _ _ ([(p1, _)] :: [(p10, _)] :: []) _ := M66
           refine D rfl rfl (F [(2, _), (3, _)] rfl ?_)
           refine AZ (⟨[_, _], (res_cellN [_, _, _, _, _, _, _, _] rfl (M66.at 0 rfl) (C rfl) rfl (res_tmp rfl res_nil)), ?_⟩)
           have hs0 : s = a :: s.drop 1 := by simpa using drop_cons ha
           have hs2 := snd2 (by assumption) (by assumption)
           have hu1 : (UInt64.ofNat (rvN (s.drop 1))).toNat = rvN (s.drop 1) := n64 hn1
           have hu2 : (UInt64.ofNat (rvN (s.drop (1 + rvK (s.drop 1))))).toNat = rvN (s.drop (1 + rvK (s.drop 1))) := n64 hn2
           have hR : (s.drop ((1 + rvK (s.drop 1)) + rvK (s.drop (1 + rvK (s.drop 1))))) = [] := List.eq_nil_of_length_eq_zero (by omega)
           have henc : encP (⟨a, (UInt64.ofNat (rvN ((s).drop 1))), (UInt64.ofNat (rvN ((s).drop (1 + (rvK ((s).drop 1)))))), 0, (⟨0, 0, ([]), []⟩ : Res)⟩ : Rep) = s := by
             rw [encP_0 (by dsimp only; omega) (by dsimp only; omega) (by dsimp only; omega)]
             dsimp only
             rw [hu1, hu2]
             conv => rhs; rw [hs0, hs2, hR]
             simp
           have hm : MayP (⟨a, (UInt64.ofNat (rvN ((s).drop 1))), (UInt64.ofNat (rvN ((s).drop (1 + (rvK ((s).drop 1)))))), 0, (⟨0, 0, ([]), []⟩ : Res)⟩ : Rep) := ⟨by dsimp only; omega, fun q => by dsimp only at q; omega, fun _ => rfl, fun q => by dsimp only at q; omega, fun _ => rfl⟩
           exact ⟨(⟨a, (UInt64.ofNat (rvN ((s).drop 1))), (UInt64.ofNat (rvN ((s).drop (1 + (rvK ((s).drop 1)))))), 0, (⟨0, 0, ([]), []⟩ : Res)⟩ : Rep), _, _, true, .nil, rfl, (by first | exact hF75 | exact fitR0), rdP_yes ⟨hm, by first | exact hF75 | exact fitR0⟩ henc, (M66.bare.take 0).nils⟩
end Go.Proofs.Yteikngjiaboeaaa.Wt
namespace Go.Proofs.Yteikngjiaboeaaa.Wt
open Go Go.Proofs.Yteikngjiaboeaaa.Am Go.Proofs.Yteikngjiaboeaaa.IrAll
open Go.Proofs.Yteikngjiaboeaaa.Am.WS renaming op → C
open Nat renaming le_of_ble_eq_true → D
open List renaming length_singleton → F
open List renaming length_append → G
open List renaming length_cons → J
open List renaming length_drop → U
open List renaming length_take → X
open List renaming length_nil → Y
open Go.Proofs.Yteikngjiaboeaaa.Am.WS renaming nil → AQ
set_option linter.unusedVariables false
set_option linter.unusedSimpArgs false
variable {h base : H} {L : List Seg} {R : List Nat}
theorem awake6_ran (W : Mem h h [] []) : Cll tab0 15 [] h (fun v h2 => v = .bool true ∧ Mem h h2 [] []) := ⟨_, h, awake_run h, rfl, W⟩
set_option maxRecDepth 8000 in
theorem law_FrameReads (W : Mem h h [] []) {s : List UInt8} {u0 : Value} (l0 : layStr h s [u0]) (k0 : s.length < 9223372036854775808) : Cll tab0 5 [u0] h (fun v _ => v = .bool true) := by
  have l0 : [u0] = [_] := l0
  cases l0
  refine Cll.code rfl rfl ?_
  refine WC.env [(0, _)] rfl ?_
  refine WC.seq (WC.run (C rfl rfl (AQ [(0, _)] rfl ?_)))
  refine WC.seq (WC.seq (WC.run (C rfl rfl (C rfl (op_lenS (l := s) rfl) ?_))))
  refine WS.gtrN (a := (s).length) (b := 4000) rfl rfl rfl (fun e13 => ?_) (fun e13 => ?_)
  ·
   refine AQ [(0, _), (13, _)] rfl ?_
   refine WC.condT rfl (WC.run (C rfl rfl (C rfl (op_slS1 (l := s) 4000 rfl rfl (by first | omega | (simp only [U, X, G, J, Y, F]; omega) | (simp only [U, X, G, J, Y, F] at *; omega))) (C rfl rfl (AQ [(0, _)] rfl ?_)))))
   refine WC.seq (WC.run (C rfl rfl ?_))
   refine WS.call rfl rfl rfl (ReadF_ran W.here (s := ((s).take 4000)) (by first | omega | (simp only [U, X, G, J, Y, F]; omega) | (simp only [U, X, G, J, Y, F] at *; omega))) ?_
   rintro _ h1 ⟨f18, V4, S5, ok18, O6, rfl, hF18, hC18, N2⟩
   obtain ⟨P7, rfl⟩ := O6.shape
   have M3 := W.trans N2
   replace M3 : Mem _ _ (S5 :: []) _ := M3
   refine C rfl rfl (C rfl rfl (C rfl rfl ?_))
   refine WS.new M3 rfl ?_
   intro p8 h9 M10
   refine WS.st1 (M10.focus 0 rfl) [_, _, _, _, _, _, _, _, _, _, _, _, _, _, _, _, _, _, _, _, _, _, _, _, _, _, _, _, _, _, _, _, _, _, _, _, _] [_, _, _, _, _, _, _, _, _, _, _, _, _, _, _, _, _, _, _, _, _, _, _, _, _, _, _, _, _, _, _, _, _, _, _, _, _] rfl rfl rfl rfl rfl (D rfl) (D rfl) rfl rfl ?_
   intro h11 M12
   replace M12 : Mem _ _ ([(p8, _)] :: S5 :: []) _ := M12
   refine C rfl rfl (AQ [(0, _), (3, _), (4, _)] rfl ?_)
   refine WC.seq (WC.run (C rfl rfl ?_))
   refine WS.call rfl rfl rfl (refReadF_ran M12.here (s := ((s).take 4000)) (by first | omega | (simp only [U, X, G, J, Y, F]; omega) | (simp only [U, X, G, J, Y, F] at *; omega))) ?_
   rintro _ h13 ⟨f23, V16, S17, ok23, O18, rfl, hF23, hC23, N14⟩
   obtain ⟨P19, rfl⟩ := O18.shape
   have M15 := M12.trans N14
   replace M15 : Mem _ _ (S17 :: [(p8, _)] :: S5 :: []) _ := M15
   refine C rfl rfl (C rfl rfl (C rfl rfl ?_))
   refine WS.new M15 rfl ?_
   intro p20 h21 M22
   refine WS.st1 (M22.focus 0 rfl) [_, _, _, _, _, _, _, _, _, _, _, _, _, _, _, _, _, _, _, _, _, _, _, _, _, _, _, _, _, _, _, _, _, _, _, _, _] [_, _, _, _, _, _, _, _, _, _, _, _, _, _, _, _, _, _, _, _, _, _, _, _, _, _, _, _, _, _, _, _, _, _, _, _, _] rfl rfl rfl rfl rfl (D rfl) (D rfl) rfl rfl ?_
   intro h23 M24
   replace M24 : Mem _ _ ([(p20, _)] :: S17 :: [(p8, _)] :: S5 :: []) _ := M24
   refine C rfl rfl (AQ [(0, _), (3, _), (4, _), (5, _), (6, _)] rfl ?_)
   refine WC.seq (WC.run (C rfl rfl ?_))
   refine WS.call rfl rfl rfl (ReadP_ran M24.here (s := ((s).take 4000)) (by first | omega | (simp only [U, X, G, J, Y, F]; omega) | (simp only [U, X, G, J, Y, F] at *; omega))) ?_
   rintro _ h25 ⟨p28r, V28, S29, ok28, O30, rfl, hF28, hC28, N26⟩
   obtain ⟨P31, rfl⟩ := O30.shape
   have M27 := M24.trans N26
   replace M27 : Mem _ _ (S29 :: [(p20, _)] :: S17 :: [(p8, _)] :: S5 :: []) _ := M27
   refine C rfl rfl (C rfl rfl (C rfl rfl ?_))
   refine WS.new M27 rfl ?_
   intro p32 h33 M34
   refine WS.st1 (M34.focus 0 rfl) [_, _, _, _, _, _, _, _] [_, _, _, _, _, _, _, _] rfl rfl rfl rfl rfl (D rfl) (D rfl) rfl rfl ?_
   intro h35 M36
   replace M36 : Mem _ _ ([(p32, _)] :: S29 :: [(p20, _)] :: S17 :: [(p8, _)] :: S5 :: []) _ := M36
   refine C rfl rfl (AQ [(0, _), (3, _), (4, _), (5, _), (6, _), (7, _), (8, _)] rfl ?_)
   refine WC.seq (WC.run (C rfl rfl ?_))
   refine WS.call rfl rfl rfl (refReadP_ran M36.here (s := ((s).take 4000)) (by first | omega | (simp only [U, X, G, J, Y, F]; omega) | (simp only [U, X, G, J, Y, F] at *; omega))) ?_
   rintro _ h37 ⟨p33r, V40, S41, ok33, O42, rfl, hF33, hC33, N38⟩
   obtain ⟨P43, rfl⟩ := O42.shape
   have M39 := M36.trans N38
   replace M39 : Mem _ _ (S41 :: [(p32, _)] :: S29 :: [(p20, _)] :: S17 :: [(p8, _)] :: S5 :: []) _ := M39
   refine C rfl rfl (C rfl rfl (C rfl rfl ?_))
   refine WS.new M39 rfl ?_
   intro p44 h45 M46
   refine WS.st1 (M46.focus 0 rfl) [_, _, _, _, _, _, _, _] [_, _, _, _, _, _, _, _] rfl rfl rfl rfl rfl (D rfl) (D rfl) rfl rfl ?_
   intro h47 M48
   replace M48 : Mem _ _ ([(p44, _)] :: S41 :: [(p32, _)] :: S29 :: [(p20, _)] :: S17 :: [(p8, _)] :: S5 :: []) _ := M48
   refine C rfl rfl (AQ [(3, _), (4, _), (5, _), (6, _), (7, _), (8, _), (9, _), (10, _)] rfl ?_)
   refine WC.seq (WC.run (C rfl (op_lds [_, _, _, _, _, _, _, _, _, _, _, _, _, _, _, _, _, _, _, _, _, _, _, _, _, _, _, _, _, _, _, _, _, _, _, _, _] (M48.at 6 rfl) rfl (D rfl) rfl) (C rfl (op_lds [_, _, _, _, _, _, _, _, _, _, _, _, _, _, _, _, _, _, _, _, _, _, _, _, _, _, _, _, _, _, _, _, _, _, _, _, _] (M48.at 4 rfl) rfl (D rfl) rfl) ?_)))
   obtain ⟨q1, q2⟩ := rd_uniq encF_pf hC18 hC23
   obtain ⟨q3, q4⟩ := rd_uniq encP_pf hC28 hC33
   refine WS.call rfl rfl rfl (SameF_ran M48.here (a := f18) (b := f23) (Row.Own.sl O6 (Mem.owni M48 7 rfl)) (Row.Own.sl O18 (Mem.owni M48 5 rfl)) (by have := hF18.2.2.2.2.2.1; omega)) ?_
   rintro _ h49 ⟨rfl, N50⟩
   have M51 := M48.trans N50
   refine C rfl rfl ?_
   cases hb1 : (decide (f18 = f23))
   ·
    exact absurd q1 (of_decide_eq_false hb1)
   ·
    refine C rfl rfl (C rfl rfl ?_)
    cases hb2 : ok18
    ·
     cases hb3 : ok23
     ·
      refine WS.opV (.bool true) rfl rfl rfl (C rfl rfl (C rfl rfl (C rfl (op_lds [_, _, _, _, _, _, _, _] (M51.at 2 rfl) rfl (D rfl) rfl) (C rfl (op_lds [_, _, _, _, _, _, _, _] (M51.at 0 rfl) rfl (D rfl) rfl) ?_))))
      refine WS.call rfl rfl rfl (SameP_ran M51.here (a := p28r) (b := p33r) (Row.Own.sl O30 (Mem.owni M51 3 rfl)) (Row.Own.sl O42 (Mem.owni M51 1 rfl)) (by have := hF28.2.1; omega)) ?_
      rintro _ h52 ⟨rfl, N53⟩
      have M54 := M51.trans N53
      refine C rfl rfl (C rfl rfl ?_)
      cases hb4 : (decide (p28r = p33r))
      ·
       exact absurd q3 (of_decide_eq_false hb4)
      ·
       refine C rfl rfl (C rfl rfl ?_)
       cases hb5 : ok28
       ·
        cases hb6 : ok33
        ·
         refine WS.opV (.bool true) rfl rfl rfl (C rfl rfl (C rfl rfl ?_))
         refine WS.call rfl rfl rfl (awake6_ran M54.here ) ?_
         rintro _ h55 ⟨rfl, N56⟩
         have M57 := M54.trans N56
         refine C rfl rfl (C rfl rfl (AQ [(2, _)] rfl ?_))
         refine WC.ret (⟨[_], (res_tmp rfl res_nil), ?_⟩)
         rfl
        ·
         refine WS.opV (.bool false) rfl rfl rfl (C rfl rfl (C rfl rfl (WS.offC rfl (C rfl rfl (C rfl rfl (AQ [(2, _)] rfl ?_))))))
         refine WC.ret (⟨[_], (res_tmp rfl res_nil), ?_⟩)
         exfalso; first | exact Bool.noConfusion (((show ok18 = true by assumption).symm.trans q2).trans (show ok23 = false by assumption)) | exact Bool.noConfusion (((show ok18 = false by assumption).symm.trans q2).trans (show ok23 = true by assumption)) | exact Bool.noConfusion (((show ok28 = true by assumption).symm.trans q4).trans (show ok33 = false by assumption)) | exact Bool.noConfusion (((show ok28 = false by assumption).symm.trans q4).trans (show ok33 = true by assumption))
       ·
        cases hb6 : ok33
        ·
         refine WS.opV (.bool false) rfl rfl rfl (C rfl rfl (C rfl rfl (WS.offC rfl (C rfl rfl (C rfl rfl (AQ [(2, _)] rfl ?_))))))
         refine WC.ret (⟨[_], (res_tmp rfl res_nil), ?_⟩)
         exfalso; first | exact Bool.noConfusion (((show ok18 = true by assumption).symm.trans q2).trans (show ok23 = false by assumption)) | exact Bool.noConfusion (((show ok18 = false by assumption).symm.trans q2).trans (show ok23 = true by assumption)) | exact Bool.noConfusion (((show ok28 = true by assumption).symm.trans q4).trans (show ok33 = false by assumption)) | exact Bool.noConfusion (((show ok28 = false by assumption).symm.trans q4).trans (show ok33 = true by assumption))
        ·
         refine WS.opV (.bool true) rfl rfl rfl (C rfl rfl (C rfl rfl ?_))
         refine WS.call rfl rfl rfl (awake6_ran M54.here ) ?_
         rintro _ h58 ⟨rfl, N59⟩
         have M60 := M54.trans N59
         refine C rfl rfl (C rfl rfl (AQ [(2, _)] rfl ?_))
         refine WC.ret (⟨[_], (res_tmp rfl res_nil), ?_⟩)
         rfl
     ·
      refine WS.opV (.bool false) rfl rfl rfl (C rfl rfl (C rfl rfl (WS.off rfl (WS.off rfl (WS.offC rfl (C rfl rfl (C rfl rfl (WS.off rfl (WS.off rfl ?_)))))))))
      refine WS.off rfl (C rfl rfl (C rfl rfl (WS.offC rfl (C rfl rfl (C rfl rfl (AQ [(2, _)] rfl ?_))))))
      refine WC.ret (⟨[_], (res_tmp rfl res_nil), ?_⟩)
      exfalso; first | exact Bool.noConfusion (((show ok18 = true by assumption).symm.trans q2).trans (show ok23 = false by assumption)) | exact Bool.noConfusion (((show ok18 = false by assumption).symm.trans q2).trans (show ok23 = true by assumption)) | exact Bool.noConfusion (((show ok28 = true by assumption).symm.trans q4).trans (show ok33 = false by assumption)) | exact Bool.noConfusion (((show ok28 = false by assumption).symm.trans q4).trans (show ok33 = true by assumption))
    ·
     cases hb3 : ok23
     ·
      refine WS.opV (.bool false) rfl rfl rfl (C rfl rfl (C rfl rfl (WS.off rfl (WS.off rfl (WS.offC rfl (C rfl rfl (C rfl rfl (WS.off rfl (WS.off rfl ?_)))))))))
      refine WS.off rfl (C rfl rfl (C rfl rfl (WS.offC rfl (C rfl rfl (C rfl rfl (AQ [(2, _)] rfl ?_))))))
      refine WC.ret (⟨[_], (res_tmp rfl res_nil), ?_⟩)
      exfalso; first | exact Bool.noConfusion (((show ok18 = true by assumption).symm.trans q2).trans (show ok23 = false by assumption)) | exact Bool.noConfusion (((show ok18 = false by assumption).symm.trans q2).trans (show ok23 = true by assumption)) | exact Bool.noConfusion (((show ok28 = true by assumption).symm.trans q4).trans (show ok33 = false by assumption)) | exact Bool.noConfusion (((show ok28 = false by assumption).symm.trans q4).trans (show ok33 = true by assumption))
     ·
      refine WS.opV (.bool true) rfl rfl rfl (C rfl rfl (C rfl rfl (C rfl (op_lds [_, _, _, _, _, _, _, _] (M51.at 2 rfl) rfl (D rfl) rfl) (C rfl (op_lds [_, _, _, _, _, _, _, _] (M51.at 0 rfl) rfl (D rfl) rfl) ?_))))
      refine WS.call rfl rfl rfl (SameP_ran M51.here (a := p28r) (b := p33r) (Row.Own.sl O30 (Mem.owni M51 3 rfl)) (Row.Own.sl O42 (Mem.owni M51 1 rfl)) (by have := hF28.2.1; omega)) ?_
      rintro _ h61 ⟨rfl, N62⟩
      have M63 := M51.trans N62
      refine C rfl rfl (C rfl rfl ?_)
      cases hb4 : (decide (p28r = p33r))
      ·
       exact absurd q3 (of_decide_eq_false hb4)
      ·
       refine C rfl rfl (C rfl rfl ?_)
       cases hb5 : ok28
       ·
        cases hb6 : ok33
        ·
         refine WS.opV (.bool true) rfl rfl rfl (C rfl rfl (C rfl rfl ?_))
         refine WS.call rfl rfl rfl (awake6_ran M63.here ) ?_
         rintro _ h64 ⟨rfl, N65⟩
         have M66 := M63.trans N65
         refine C rfl rfl (C rfl rfl (AQ [(2, _)] rfl ?_))
         refine WC.ret (⟨[_], (res_tmp rfl res_nil), ?_⟩)
         rfl
        ·
         refine WS.opV (.bool false) rfl rfl rfl (C rfl rfl (C rfl rfl (WS.offC rfl (C rfl rfl (C rfl rfl (AQ [(2, _)] rfl ?_))))))
         refine WC.ret (⟨[_], (res_tmp rfl res_nil), ?_⟩)
         exfalso; first | exact Bool.noConfusion (((show ok18 = true by assumption).symm.trans q2).trans (show ok23 = false by assumption)) | exact Bool.noConfusion (((show ok18 = false by assumption).symm.trans q2).trans (show ok23 = true by assumption)) | exact Bool.noConfusion (((show ok28 = true by assumption).symm.trans q4).trans (show ok33 = false by assumption)) | exact Bool.noConfusion (((show ok28 = false by assumption).symm.trans q4).trans (show ok33 = true by assumption))
       ·
        cases hb6 : ok33
        ·
         refine WS.opV (.bool false) rfl rfl rfl (C rfl rfl (C rfl rfl (WS.offC rfl (C rfl rfl (C rfl rfl (AQ [(2, _)] rfl ?_))))))
         refine WC.ret (⟨[_], (res_tmp rfl res_nil), ?_⟩)
         exfalso; first | exact Bool.noConfusion (((show ok18 = true by assumption).symm.trans q2).trans (show ok23 = false by assumption)) | exact Bool.noConfusion (((show ok18 = false by assumption).symm.trans q2).trans (show ok23 = true by assumption)) | exact Bool.noConfusion (((show ok28 = true by assumption).symm.trans q4).trans (show ok33 = false by assumption)) | exact Bool.noConfusion (((show ok28 = false by assumption).symm.trans q4).trans (show ok33 = true by assumption))
        ·
         refine WS.opV (.bool true) rfl rfl rfl (C rfl rfl (C rfl rfl ?_))
         refine WS.call rfl rfl rfl (awake6_ran M63.here ) ?_
         rintro _ h67 ⟨rfl, N68⟩
         have M69 := M63.trans N68
         refine C rfl rfl (C rfl rfl (AQ [(2, _)] rfl ?_))
         refine WC.ret (⟨[_], (res_tmp rfl res_nil), ?_⟩)
         rfl
  ·
   refine AQ [(0, _), (13, _)] rfl ?_
   refine WC.condF rfl (WC.skip (WC.seq (WC.run (C rfl rfl ?_))))
   refine WS.call rfl rfl rfl (ReadF_ran W.here (s := s) (by first | omega | (simp only [U, X, G, J, Y, F]; omega) | (simp only [U, X, G, J, Y, F] at *; omega))) ?_
   rintro _ h70 ⟨f18, V73, S74, ok18, O75, rfl, hF18, hC18, N71⟩
   obtain ⟨P76, rfl⟩ := O75.shape
   have M72 := W.trans N71
   replace M72 : Mem _ _ (S74 :: []) _ := M72
   refine C rfl rfl (C rfl rfl (C rfl rfl ?_))
   refine WS.new M72 rfl ?_
   intro p77 h78 M79
   refine WS.st1 (M79.focus 0 rfl) [_, _, _, _, _, _, _, _, _, _, _, _, _, _, _, _, _, _, _, _, _, _, _, _, _, _, _, _, _, _, _, _, _, _, _, _, _] [_, _, _, _, _, _, _, _, _, _, _, _, _, _, _, _, _, _, _, _, _, _, _, _, _, _, _, _, _, _, _, _, _, _, _, _, _] rfl rfl rfl rfl rfl (D rfl) (D rfl) rfl rfl ?_
   intro h80 M81
   replace M81 : Mem _ _ ([(p77, _)] :: S74 :: []) _ := M81
   refine C rfl rfl (AQ [(0, _), (3, _), (4, _)] rfl ?_)
   refine WC.seq (WC.run (C rfl rfl ?_))
   refine WS.call rfl rfl rfl (refReadF_ran M81.here (s := s) (by first | omega | (simp only [U, X, G, J, Y, F]; omega) | (simp only [U, X, G, J, Y, F] at *; omega))) ?_
   rintro _ h82 ⟨f23, V85, S86, ok23, O87, rfl, hF23, hC23, N83⟩
   obtain ⟨P88, rfl⟩ := O87.shape
   have M84 := M81.trans N83
   replace M84 : Mem _ _ (S86 :: [(p77, _)] :: S74 :: []) _ := M84
   refine C rfl rfl (C rfl rfl (C rfl rfl ?_))
   refine WS.new M84 rfl ?_
   intro p89 h90 M91
   refine WS.st1 (M91.focus 0 rfl) [_, _, _, _, _, _, _, _, _, _, _, _, _, _, _, _, _, _, _, _, _, _, _, _, _, _, _, _, _, _, _, _, _, _, _, _, _] [_, _, _, _, _, _, _, _, _, _, _, _, _, _, _, _, _, _, _, _, _, _, _, _, _, _, _, _, _, _, _, _, _, _, _, _, _] rfl rfl rfl rfl rfl (D rfl) (D rfl) rfl rfl ?_
   intro h92 M93
   replace M93 : Mem _ _ ([(p89, _)] :: S86 :: [(p77, _)] :: S74 :: []) _ := M93
   refine C rfl rfl (AQ [(0, _), (3, _), (4, _), (5, _), (6, _)] rfl ?_)
   refine WC.seq (WC.run (C rfl rfl ?_))
   refine WS.call rfl rfl rfl (ReadP_ran M93.here (s := s) (by first | omega | (simp only [U, X, G, J, Y, F]; omega) | (simp only [U, X, G, J, Y, F] at *; omega))) ?_
   rintro _ h94 ⟨p28r, V97, S98, ok28, O99, rfl, hF28, hC28, N95⟩
   obtain ⟨P100, rfl⟩ := O99.shape
   have M96 := M93.trans N95
   replace M96 : Mem _ _ (S98 :: [(p89, _)] :: S86 :: [(p77, _)] :: S74 :: []) _ := M96
   refine C rfl rfl (C rfl rfl (C rfl rfl ?_))
   refine WS.new M96 rfl ?_
   intro p101 h102 M103
   refine WS.st1 (M103.focus 0 rfl) [_, _, _, _, _, _, _, _] [_, _, _, _, _, _, _, _] rfl rfl rfl rfl rfl (D rfl) (D rfl) rfl rfl ?_
   intro h104 M105
   replace M105 : Mem _ _ ([(p101, _)] :: S98 :: [(p89, _)] :: S86 :: [(p77, _)] :: S74 :: []) _ := M105
   refine C rfl rfl (AQ [(0, _), (3, _), (4, _), (5, _), (6, _), (7, _), (8, _)] rfl ?_)
   refine WC.seq (WC.run (C rfl rfl ?_))
   refine WS.call rfl rfl rfl (refReadP_ran M105.here (s := s) (by first | omega | (simp only [U, X, G, J, Y, F]; omega) | (simp only [U, X, G, J, Y, F] at *; omega))) ?_
   rintro _ h106 ⟨p33r, V109, S110, ok33, O111, rfl, hF33, hC33, N107⟩
   obtain ⟨P112, rfl⟩ := O111.shape
   have M108 := M105.trans N107
   replace M108 : Mem _ _ (S110 :: [(p101, _)] :: S98 :: [(p89, _)] :: S86 :: [(p77, _)] :: S74 :: []) _ := M108
   refine C rfl rfl (C rfl rfl (C rfl rfl ?_))
   refine WS.new M108 rfl ?_
   intro p113 h114 M115
   refine WS.st1 (M115.focus 0 rfl) [_, _, _, _, _, _, _, _] [_, _, _, _, _, _, _, _] rfl rfl rfl rfl rfl (D rfl) (D rfl) rfl rfl ?_
   intro h116 M117
   replace M117 : Mem _ _ ([(p113, _)] :: S110 :: [(p101, _)] :: S98 :: [(p89, _)] :: S86 :: [(p77, _)] :: S74 :: []) _ := M117
   refine C rfl rfl (AQ [(3, _), (4, _), (5, _), (6, _), (7, _), (8, _), (9, _), (10, _)] rfl ?_)
   refine WC.seq (WC.run (C rfl (op_lds [_, _, _, _, _, _, _, _, _, _, _, _, _, _, _, _, _, _, _, _, _, _, _, _, _, _, _, _, _, _, _, _, _, _, _, _, _] (M117.at 6 rfl) rfl (D rfl) rfl) (C rfl (op_lds [_, _, _, _, _, _, _, _, _, _, _, _, _, _, _, _, _, _, _, _, _, _, _, _, _, _, _, _, _, _, _, _, _, _, _, _, _] (M117.at 4 rfl) rfl (D rfl) rfl) ?_)))
   obtain ⟨q1, q2⟩ := rd_uniq encF_pf hC18 hC23
   obtain ⟨q3, q4⟩ := rd_uniq encP_pf hC28 hC33
   refine WS.call rfl rfl rfl (SameF_ran M117.here (a := f18) (b := f23) (Row.Own.sl O75 (Mem.owni M117 7 rfl)) (Row.Own.sl O87 (Mem.owni M117 5 rfl)) (by have := hF18.2.2.2.2.2.1; omega)) ?_
   rintro _ h118 ⟨rfl, N119⟩
   have M120 := M117.trans N119
   refine C rfl rfl ?_
   cases hb1 : (decide (f18 = f23))
   ·
    exact absurd q1 (of_decide_eq_false hb1)
   ·
    refine C rfl rfl (C rfl rfl ?_)
    cases hb2 : ok18
    ·
     cases hb3 : ok23
     ·
      refine WS.opV (.bool true) rfl rfl rfl (C rfl rfl (C rfl rfl (C rfl (op_lds [_, _, _, _, _, _, _, _] (M120.at 2 rfl) rfl (D rfl) rfl) (C rfl (op_lds [_, _, _, _, _, _, _, _] (M120.at 0 rfl) rfl (D rfl) rfl) ?_))))
      refine WS.call rfl rfl rfl (SameP_ran M120.here (a := p28r) (b := p33r) (Row.Own.sl O99 (Mem.owni M120 3 rfl)) (Row.Own.sl O111 (Mem.owni M120 1 rfl)) (by have := hF28.2.1; omega)) ?_
      rintro _ h121 ⟨rfl, N122⟩
      have M123 := M120.trans N122
      refine C rfl rfl (C rfl rfl ?_)
      cases hb4 : (decide (p28r = p33r))
      ·
       exact absurd q3 (of_decide_eq_false hb4)
      ·
       refine C rfl rfl (C rfl rfl ?_)
       cases hb5 : ok28
       ·
        cases hb6 : ok33
        ·
         refine WS.opV (.bool true) rfl rfl rfl (C rfl rfl (C rfl rfl ?_))
         refine WS.call rfl rfl rfl (awake6_ran M123.here ) ?_
         rintro _ h124 ⟨rfl, N125⟩
         have M126 := M123.trans N125
         refine C rfl rfl (C rfl rfl (AQ [(2, _)] rfl ?_))
         refine WC.ret (⟨[_], (res_tmp rfl res_nil), ?_⟩)
         rfl
        ·
         refine WS.opV (.bool false) rfl rfl rfl (C rfl rfl (C rfl rfl (WS.offC rfl (C rfl rfl (C rfl rfl (AQ [(2, _)] rfl ?_))))))
         refine WC.ret (⟨[_], (res_tmp rfl res_nil), ?_⟩)
         exfalso; first | exact Bool.noConfusion (((show ok18 = true by assumption).symm.trans q2).trans (show ok23 = false by assumption)) | exact Bool.noConfusion (((show ok18 = false by assumption).symm.trans q2).trans (show ok23 = true by assumption)) | exact Bool.noConfusion (((show ok28 = true by assumption).symm.trans q4).trans (show ok33 = false by assumption)) | exact Bool.noConfusion (((show ok28 = false by assumption).symm.trans q4).trans (show ok33 = true by assumption))
       ·
        cases hb6 : ok33
        ·
         refine WS.opV (.bool false) rfl rfl rfl (C rfl rfl (C rfl rfl (WS.offC rfl (C rfl rfl (C rfl rfl (AQ [(2, _)] rfl ?_))))))
         refine WC.ret (⟨[_], (res_tmp rfl res_nil), ?_⟩)
         exfalso; first | exact Bool.noConfusion (((show ok18 = true by assumption).symm.trans q2).trans (show ok23 = false by assumption)) | exact Bool.noConfusion (((show ok18 = false by assumption).symm.trans q2).trans (show ok23 = true by assumption)) | exact Bool.noConfusion (((show ok28 = true by assumption).symm.trans q4).trans (show ok33 = false by assumption)) | exact Bool.noConfusion (((show ok28 = false by assumption).symm.trans q4).trans (show ok33 = true by assumption))
        ·
         refine WS.opV (.bool true) rfl rfl rfl (C rfl rfl (C rfl rfl ?_))
         refine WS.call rfl rfl rfl (awake6_ran M123.here ) ?_
         rintro _ h127 ⟨rfl, N128⟩
         have M129 := M123.trans N128
         refine C rfl rfl (C rfl rfl (AQ [(2, _)] rfl ?_))
         refine WC.ret (⟨[_], (res_tmp rfl res_nil), ?_⟩)
         rfl
     ·
      refine WS.opV (.bool false) rfl rfl rfl (C rfl rfl (C rfl rfl (WS.off rfl (WS.off rfl (WS.offC rfl (C rfl rfl (C rfl rfl (WS.off rfl (WS.off rfl ?_)))))))))
      refine WS.off rfl (C rfl rfl (C rfl rfl (WS.offC rfl (C rfl rfl (C rfl rfl (AQ [(2, _)] rfl ?_))))))
      refine WC.ret (⟨[_], (res_tmp rfl res_nil), ?_⟩)
      exfalso; first | exact Bool.noConfusion (((show ok18 = true by assumption).symm.trans q2).trans (show ok23 = false by assumption)) | exact Bool.noConfusion (((show ok18 = false by assumption).symm.trans q2).trans (show ok23 = true by assumption)) | exact Bool.noConfusion (((show ok28 = true by assumption).symm.trans q4).trans (show ok33 = false by assumption)) | exact Bool.noConfusion (((show ok28 = false by assumption).symm.trans q4).trans (show ok33 = true by assumption))
    ·
     cases hb3 : ok23
     ·
      refine WS.opV (.bool false) rfl rfl rfl (C rfl rfl (C rfl rfl (WS.off rfl (WS.off rfl (WS.offC rfl (C rfl rfl (C rfl rfl (WS.off rfl (WS.off rfl ?_)))))))))
      refine WS.off rfl (C rfl rfl (C rfl rfl (WS.offC rfl (C rfl rfl (C rfl rfl (AQ [(2, _)] rfl ?_))))))
      refine WC.ret (⟨[_], (res_tmp rfl res_nil), ?_⟩)
      exfalso; first | exact Bool.noConfusion (((show ok18 = true by assumption).symm.trans q2).trans (show ok23 = false by assumption)) | exact Bool.noConfusion (((show ok18 = false by assumption).symm.trans q2).trans (show ok23 = true by assumption)) | exact Bool.noConfusion (((show ok28 = true by assumption).symm.trans q4).trans (show ok33 = false by assumption)) | exact Bool.noConfusion (((show ok28 = false by assumption).symm.trans q4).trans (show ok33 = true by assumption))
     ·
      refine WS.opV (.bool true) rfl rfl rfl (C rfl rfl (C rfl rfl (C rfl (op_lds [_, _, _, _, _, _, _, _] (M120.at 2 rfl) rfl (D rfl) rfl) (C rfl (op_lds [_, _, _, _, _, _, _, _] (M120.at 0 rfl) rfl (D rfl) rfl) ?_))))
      refine WS.call rfl rfl rfl (SameP_ran M120.here (a := p28r) (b := p33r) (Row.Own.sl O99 (Mem.owni M120 3 rfl)) (Row.Own.sl O111 (Mem.owni M120 1 rfl)) (by have := hF28.2.1; omega)) ?_
      rintro _ h130 ⟨rfl, N131⟩
      have M132 := M120.trans N131
      refine C rfl rfl (C rfl rfl ?_)
      cases hb4 : (decide (p28r = p33r))
      ·
       exact absurd q3 (of_decide_eq_false hb4)
      ·
       refine C rfl rfl (C rfl rfl ?_)
       cases hb5 : ok28
       ·
        cases hb6 : ok33
        ·
         refine WS.opV (.bool true) rfl rfl rfl (C rfl rfl (C rfl rfl ?_))
         refine WS.call rfl rfl rfl (awake6_ran M132.here ) ?_
         rintro _ h133 ⟨rfl, N134⟩
         have M135 := M132.trans N134
         refine C rfl rfl (C rfl rfl (AQ [(2, _)] rfl ?_))
         refine WC.ret (⟨[_], (res_tmp rfl res_nil), ?_⟩)
         rfl
        ·
         refine WS.opV (.bool false) rfl rfl rfl (C rfl rfl (C rfl rfl (WS.offC rfl (C rfl rfl (C rfl rfl (AQ [(2, _)] rfl ?_))))))
         refine WC.ret (⟨[_], (res_tmp rfl res_nil), ?_⟩)
         exfalso; first | exact Bool.noConfusion (((show ok18 = true by assumption).symm.trans q2).trans (show ok23 = false by assumption)) | exact Bool.noConfusion (((show ok18 = false by assumption).symm.trans q2).trans (show ok23 = true by assumption)) | exact Bool.noConfusion (((show ok28 = true by assumption).symm.trans q4).trans (show ok33 = false by assumption)) | exact Bool.noConfusion (((show ok28 = false by assumption).symm.trans q4).trans (show ok33 = true by assumption))
       ·
        cases hb6 : ok33
        ·
         refine WS.opV (.bool false) rfl rfl rfl (C rfl rfl (C rfl rfl (WS.offC rfl (C rfl rfl (C rfl rfl (AQ [(2, _)] rfl ?_))))))
         refine WC.ret (⟨[_], (res_tmp rfl res_nil), ?_⟩)
         exfalso; first | exact Bool.noConfusion (((show ok18 = true by assumption).symm.trans q2).trans (show ok23 = false by assumption)) | exact Bool.noConfusion (((show ok18 = false by assumption).symm.trans q2).trans (show ok23 = true by assumption)) | exact Bool.noConfusion (((show ok28 = true by assumption).symm.trans q4).trans (show ok33 = false by assumption)) | exact Bool.noConfusion (((show ok28 = false by assumption).symm.trans q4).trans (show ok33 = true by assumption))
        ·
         refine WS.opV (.bool true) rfl rfl rfl (C rfl rfl (C rfl rfl ?_))
         refine WS.call rfl rfl rfl (awake6_ran M132.here ) ?_
         rintro _ h136 ⟨rfl, N137⟩
         have M138 := M132.trans N137
         refine C rfl rfl (C rfl rfl (AQ [(2, _)] rfl ?_))
         refine WC.ret (⟨[_], (res_tmp rfl res_nil), ?_⟩)
         rfl
end Go.Proofs.Yteikngjiaboeaaa.Wt
