/- The law 'FrameReads' returns true for all arguments: what its proof stands on, part 7. -/
import Derived.Test.YteikngjiaboeaaaZFrameReads6
import Derived.OpenShut
namespace Go.Proofs.Yteikngjiaboeaaa.Am
open Go
set_option linter.unusedVariables false
set_option linter.unusedSimpArgs false
abbrev BL := List (Option Blk × Option Am.Loc)
def CompR (r : Rho) (k : Nat) (bl : BL) : Prop := ∀ i p, bl[i]? = some p → r (k + i) = p.2
def CompH (h : H) (k : Nat) (bl : BL) : Prop := ∀ i p, bl[i]? = some p → ∀ B, p.1 = some B → h.get (k + i) = some B
def BlkOK (W : World) (r : Rho) (p : Option Blk × Option Am.Loc) : Prop := ∀ B, p.1 = some B → ∃ L c e fz, p.2 = some L ∧ W.heap[L.b]? = some (.cells c e fz) ∧ L.es = B.es ∧ B.cells.length ≤ L.lim ∧ L.o + L.lim ≤ c.size ∧ B.ro = true ∧
  ∀ (i : Nat) (v : Value), B.cells[i]? = some v → v.oneCell' = true ∧ ∃ v', c[L.o + i]? = some v' ∧ VR r v v'
theorem CompR.left {r : Rho} {k : Nat} {a b : BL} (h : CompR r k (a ++ b)) : CompR r k a := fun i p hp => h i p (by rw [List.getElem?_append_left (List.getElem?_eq_some_iff.1 hp).1]; exact hp)
theorem CompR.right {r : Rho} {k : Nat} {a b : BL} (h : CompR r k (a ++ b)) : CompR r (k + a.length) b := fun i p hp => by
  have := h (a.length + i) p (by rw [List.getElem?_append_right (by omega), Nat.add_sub_cancel_left]; exact hp)
  rw [← this]; congr 1; omega
theorem CompH.left {r : H} {k : Nat} {a b : BL} (h : CompH r k (a ++ b)) : CompH r k a := fun i p hp => h i p (by rw [List.getElem?_append_left (List.getElem?_eq_some_iff.1 hp).1]; exact hp)
abbrev Lay (α : Type) := H → α → List Value → Prop
def Given (W : World) (k n : Nat) {α : Type} (L : Lay α) (ok : α → Prop) (cs : List Value) : Prop :=
  ∃ (a : α) (bl : BL) (acs : List Value), acs.length = n ∧ acs.all (·.oneCell') = true ∧ (∀ r, CompR r k bl → (∀ p ∈ bl, BlkOK W r p) ∧ VL r acs cs) ∧ (∀ h, CompH h k bl → L h a acs) ∧ ok a
def OpensL (P : Program) (t : TypeId) {α : Type} (L : Lay α) (n : Nat) (ok : α → Prop) : Prop :=
  P.cellsOf t = n ∧ ∀ {Hh : Type} (enc : TypeId × Value → Hh) (W : World) (held : Bool) (fuel : Nat) (cs : List Value) (x : DataW Hh × List MemPlace), DataW.trod enc P W 0 (fun _ => true) held fuel t cs = some x → ∀ k, Given W k n L ok cs
section
variable {P : Program} {t e : TypeId}
theorem given_plain {W : World} {k : Nat} {α : Type} {L : Lay α} {ok : α → Prop} {v : Value} (a : α) (hp : plain1 v = true) (hL : ∀ h, L h a [v]) (ho : ok a) : Given W k 1 L ok [v] :=
  ⟨a, [], [v], rfl, by simp [oneCell_of_plain1 hp], fun r _ => ⟨fun p hp => by simp at hp, VL.cons (VR.of_plain1 hp) (VL.nil r)⟩, fun h _ => hL h, ho⟩
def layStr : Lay (List UInt8) := fun _ a cs => cs = [.string (bs a)]
theorem OpensL.string (ht : P.underlying t = some .string) (hc : P.cellsOf t = 1) : OpensL P t layStr 1 (fun a => a.length < 9223372036854775808) := by
  refine ⟨hc, fun enc W held fuel cs x h k => ?_⟩
  obtain ⟨s, rfl, _, hs⟩ := DataW.trod_string ht h
  obtain ⟨l, rfl⟩ := bs_of s
  rw [bs_size] at hs
  exact given_plain l rfl (fun _ => rfl) (Nat.lt_succ_of_le hs)
end
theorem rel_bl {W : World} {bl : BL} (hb : ∀ p ∈ bl, BlkOK W (rhoL (bl.map Prod.snd)) p) : Rel W.heap.size (rhoL (bl.map Prod.snd)) (args (bl.map Prod.fst)) W := by
  have pick : ∀ k B, (args (bl.map Prod.fst)).get k = some B → ∃ p, bl[k]? = some p ∧ p.1 = some B := fun k B e => by
    rw [args_get, List.getElem?_map] at e
    cases ho : bl[k]? with
    | none => rw [ho] at e; cases e
    | some p => rw [ho] at e; exact ⟨p, rfl, by simpa using e⟩
  have loc : ∀ k p, bl[k]? = some p → rhoL (bl.map Prod.snd) k = p.2 := fun k p e => by simp [rhoL, List.getElem?_map, e]
  refine ⟨fun k B e => ?_, fun n m Bn Bm L M e1 e2 hne hro => ?_, fun n hn => ?_, Nat.le_refl _, fun n B L e hro hL => ?_⟩
  · obtain ⟨p, h1, h2⟩ := pick k B e
    obtain ⟨L, c, el, fz, g1, g2, g3, g4, g5, g6, g7⟩ := hb p (List.mem_of_getElem? h1) B h2
    exact ⟨L, c, el, fz, by rw [loc k p h1, g1], g2, g3, g4, g5, fun q => by (rw [g6] at q; cases q), g7⟩
  · obtain ⟨p, h1, h2⟩ := pick n Bn e1
    obtain ⟨_, _, _, _, _, _, _, _, _, g6, _⟩ := hb p (List.mem_of_getElem? h1) Bn h2
    rw [g6] at hro; cases hro
  · rw [args_next, List.length_map] at hn
    simp [rhoL, List.getElem?_eq_none (show bl.length ≤ n by omega)]
  · obtain ⟨p, h1, h2⟩ := pick n B e
    obtain ⟨L', c, el, fz, g1, g2, _⟩ := hb p (List.mem_of_getElem? h1) B h2
    rw [loc n p h1, g1] at hL; cases hL
    exact (Array.getElem?_eq_some_iff.1 g2).1
theorem compR_rho (bl : BL) : CompR (rhoL (bl.map Prod.snd)) 0 bl := fun i p hp => by simp [rhoL, List.getElem?_map, hp]
theorem compH_args (bl : BL) : CompH (args (bl.map Prod.fst)) 0 bl := fun i p hp B hB => by
  rw [args_get, List.getElem?_map, Nat.zero_add, hp]; simp [hB]
theorem wf_args (bl : BL) : Mem (args (bl.map Prod.fst)) (args (bl.map Prod.fst)) [] [] := Mem.start fun n B e => by
  rw [args_get] at e; rw [args_next]
  rcases Nat.lt_or_ge n (bl.map Prod.fst).length with q | q
  · exact q
  · rw [List.getElem?_eq_none q] at e; cases e
def GivenA (W : World) (k : Nat) (us us' : List Value) (bl : BL) : Prop := ∀ r, CompR r k bl → (∀ p ∈ bl, BlkOK W r p) ∧ VL r us us'
theorem GivenA.nil {W : World} {k : Nat} : GivenA W k [] [] [] := fun r _ => ⟨fun p hp => by simp at hp, VL.nil r⟩
theorem GivenA.cons {W : World} {k : Nat} {u u' : Value} {us us' : List Value} {bl bl2 : BL} (h1 : ∀ r, CompR r k bl → (∀ p ∈ bl, BlkOK W r p) ∧ VR r u u') (h2 : GivenA W (k + bl.length) us us' bl2) : GivenA W k (u :: us) (u' :: us') (bl ++ bl2) := fun r hr =>
  ⟨fun p hp => (List.mem_append.1 hp).elim ((h1 r hr.left).1 p) ((h2 r hr.right).1 p), VL.cons (h1 r hr.left).2 (h2 r hr.right).2⟩
theorem given_one {W : World} {k : Nat} {bl : BL} {u v : Value} (h : ∀ r, CompR r k bl → (∀ p ∈ bl, BlkOK W r p) ∧ VL r [u] [v]) : ∀ r, CompR r k bl → (∀ p ∈ bl, BlkOK W r p) ∧ VR r u v := fun r hr =>
  ⟨(h r hr).1, (h r hr).2.2 0 u v rfl rfl⟩
theorem one_of {l : List Value} (h : l.length = 1) : ∃ u, l = [u] := by
  match l, h with
  | [u], _ => exact ⟨u, rfl⟩
theorem law_calls {P : Program} {tab : Nat → Option FD} (hD : DrawOK P) (hT : TabOK P tab) {f : Nat} {W : World} {bl : BL} {us us' : List Value} (hb : ∀ r, CompR r 0 bl → (∀ p ∈ bl, BlkOK W r p) ∧ VL r us us')
    (hw : Cll tab f us (args (bl.map Prod.fst)) (fun v _ => v = .bool true)) : Calls P f us'.toArray W fun e W' => e = .returned (.bool true) ∧ Go.RowKit.Below W.heap.size W W' := by
  obtain ⟨v, h2, ⟨n, hr⟩, rfl⟩ := hw
  obtain ⟨b1, b2⟩ := hb _ (compR_rho bl)
  have R := rel_bl b1
  refine (run_table hD hT n f W.heap.size _ _ W us us' _ _ hr b2 R).2.mono fun e W' he => ?_
  obtain ⟨r2, v', rfl, hv, _, F, _⟩ := he
  cases hv
  exact ⟨rfl, F.below R⟩
end Go.Proofs.Yteikngjiaboeaaa.Am
namespace Go.Proofs.Yteikngjiaboeaaa.Wt
open Go Go.Proofs.Yteikngjiaboeaaa.Am Go.Proofs.Yteikngjiaboeaaa.IrAll
open Go.Proofs.Yteikngjiaboeaaa.Am.WS renaming op → C
open List renaming length_append → D
open List renaming length_cons → F
set_option linter.unusedVariables false
set_option linter.unusedSimpArgs false
structure Rrow where
  ky : List UInt8
  va : List UInt8
  vn : UInt64
  deriving DecidableEq
def Rrow.cells (x : Rrow) : List Value := [(.string (bs x.ky)), (.string (bs x.va)), (.int .u64 (((x.vn).toNat : Nat) : Int))]
def KRrow : Row Rrow := ⟨Rrow.cells, 3, fun _ => rfl, by decide, fun _ => rfl⟩
theorem Rrow_eqV (x y : Rrow) : eqV (.agg [(0, 2), (1, 2), (2, 1)]) (.agg (Rrow.cells x).toArray) (.agg (Rrow.cells y).toArray) = some (decide (x = y)) := by
  have e : eqV (.agg [(0, 2), (1, 2), (2, 1)]) (.agg (Rrow.cells x).toArray) (.agg (Rrow.cells y).toArray) = some ((((bs x.ky).toList == (bs y.ky).toList) && (((bs x.va).toList == (bs y.va).toList) && ((((x.vn.toNat : Nat) : Int) == ((y.vn.toNat : Nat) : Int)) && true)))) := rfl
  rw [e]; congr 1
  rw [Bool.eq_iff_iff]
  simp only [Bool.and_eq_true, beq_iff_eq, bs_toList, decide_eq_true_eq, Bool.and_true, and_true]
  constructor
  · intro h
    obtain ⟨h0, h1, h2⟩ := h
    obtain ⟨⟩ := x; obtain ⟨⟩ := y
    simp only at *
    rw [h0, h1, u64_inj (Int.ofNat.inj h2)]
  · intro h; subst h; exact ⟨rfl, rfl, rfl⟩
structure Res where
  cd : UInt8
  n : UInt64
  va : List UInt8
  rs : List Rrow
  deriving DecidableEq
def Res.cells (r : Res) (V : Value) : List Value := [(.int .u8 (((r.cd).toNat : Nat) : Int)), (.int .u64 (((r.n).toNat : Nat) : Int)), (.string (bs r.va)), V]
def Res.val (r : Res) (V : Value) : Value := .agg (r.cells V).toArray
variable {h base : H} {L : List Seg} {R : List Nat}
def FitR (rs : List Rrow) : Prop := ∀ p ∈ rs, p.ky.length ≤ 300000 ∧ p.va.length ≤ 300000
def FitRes (r : Res) : Prop := r.va.length ≤ 300000 ∧ r.rs.length ≤ 300000 ∧ FitR r.rs
def rowR (x : Rrow) : List UInt8 := (sb x.ky ++ sb x.va) ++ vb x.vn.toNat
def headR (r : Res) : List UInt8 := (([r.cd] ++ vb r.n.toNat) ++ sb r.va) ++ vb r.rs.length
def encR (r : Res) : List UInt8 := headR r ++ r.rs.flatMap rowR
theorem n64 {n : Nat} (h : n < 18446744073709551616) : (UInt64.ofNat n).toNat = n := by simp [UInt64.toNat_ofNat']; omega
theorem cvLen {n : Nat} (h : n < 18446744073709551616) : Value.int .u64 (IntKind.u64.wrap (n : Int)) = .int .u64 (((UInt64.ofNat n).toNat : Nat) : Int) := by rw [n64 h]; exact cv_u64 h
theorem walkRowW_ran {w p o : Nat} {l : List UInt8} {x : Rrow} {V : Value} {S : Seg} (ha : At base p o (Rrow.cells x)) (O : KU8.Own V l S) (M : Mem base h (S :: [(w, ⟨[V], 0, false⟩)] :: L) []) (hl : l.length ≤ 500000000000 ∧ x.ky.length ≤ 300000 ∧ x.va.length ≤ 300000) : Cll tab0 57 [.iface 85 (.pointer (some ⟨w, 0, none⟩)), .pointer (some ⟨p, o, none⟩)] h (fun v h2 => ∃ V2 S2, KU8.Own V2 (l ++ rowR x) S2 ∧ v = .tuple #[] ∧ Mem base h2 (S2 :: [(w, ⟨[V2], 0, false⟩)] :: L) []) := by
  obtain ⟨P, rfl⟩ := O.shape
  obtain ⟨l1, l2, l3⟩ := hl
  have s1 := sb_len3 l2
  have s2 := sb_len3 l3
  have s3 := vb_len x.vn.toNat_lt
  refine Cll.code rfl rfl ?_
  refine WC.env [(0, _), (1, _)] rfl ?_
  refine WC.seq (WC.draw M [] rfl ?_)
  intro rb1 h2 M3
  refine C rfl rfl (C rfl rfl (C rfl rfl (C rfl rfl (C rfl rfl (C rfl rfl (C rfl rfl ?_))))))
  refine WS.call rfl rfl rfl (w_text_ran (c := x.ky) O ((M3.focus 1 rfl).focus 1 rfl) (At.sees ha (k := 0) rfl) (by first | omega | (simp only [D, F, List.length_nil]; omega))) ?_
  rintro _ h4 ⟨V6, S7, O8, rfl, M5⟩
  obtain ⟨P9, rfl⟩ := O8.shape
  replace M5 : Mem _ _ (S7 :: [(w, _)] :: L) _ := M5
  refine WS.nil [(0, _), (1, _)] rfl ?_
  refine WC.seq (WC.draw M5.bare [] rfl ?_)
  intro rb10 h11 M12
  refine C rfl rfl (C rfl rfl (C rfl rfl (C rfl rfl (C rfl rfl (C rfl rfl (C rfl rfl ?_))))))
  refine WS.call rfl rfl rfl (w_text_ran (c := x.va) O8 ((M12.focus 1 rfl).focus 1 rfl) (At.sees ha (k := 1) rfl) (by first | omega | (simp only [D, F, List.length_nil]; omega))) ?_
  rintro _ h13 ⟨V15, S16, O17, rfl, M14⟩
  obtain ⟨P18, rfl⟩ := O17.shape
  replace M14 : Mem _ _ (S16 :: [(w, _)] :: L) _ := M14
  refine WS.nil [(0, _), (1, _)] rfl ?_
  refine WC.draw M14.bare [] rfl ?_
  intro rb19 h20 M21
  refine C rfl rfl (C rfl rfl (C rfl rfl (C rfl rfl (C rfl rfl (C rfl rfl (C rfl rfl ?_))))))
  refine WS.call rfl rfl rfl (w_number_ran (c := x.vn) O17 ((M21.focus 1 rfl).focus 1 rfl) (At.sees ha (k := 2) rfl) (by first | omega | (simp only [D, F, List.length_nil]; omega))) ?_
  rintro _ h22 ⟨V24, S25, O26, rfl, M23⟩
  obtain ⟨P27, rfl⟩ := O26.shape
  replace M23 : Mem _ _ (S25 :: [(w, _)] :: L) _ := M23
  refine WS.nil [] rfl ?_
  refine ⟨[], res_nil, ?_⟩
  exact ⟨_, _, by rw [show l ++ rowR x = (((l ++ (sb x.ky)) ++ (sb x.va)) ++ (vb x.vn.toNat)) by simp [rowR]]; exact O26, rfl, (M23.bare)⟩
theorem walkResW_ran {w p : Nat} {l : List UInt8} {r : Res} {V Vp : Value} {S : Seg} (A : KRrow.Sl base Vp r.rs) (hf : FitRes r) (O : KU8.Own V l S) (M : Mem base h (S :: [(w, ⟨[V], 0, false⟩)] :: [(p, ⟨r.cells Vp, 0, false⟩)] :: L) []) (hl : l.length ≤ 100000) : Cll tab0 56 [.iface 85 (.pointer (some ⟨w, 0, none⟩)), .pointer (some ⟨p, 0, none⟩)] h (fun v h2 => ∃ V2 S2, KU8.Own V2 (l ++ headR r) S2 ∧ v = .int .u64 (((UInt64.ofNat r.rs.length).toNat : Nat) : Int) ∧ Mem base h2 (S2 :: [(w, ⟨[V2], 0, false⟩)] :: [(p, ⟨r.cells Vp, 0, false⟩)] :: L) []) := by
  obtain ⟨P, rfl⟩ := O.shape
  obtain ⟨Pp, n, rfl⟩ := A.shape
  obtain ⟨f1, f2, f3⟩ := hf
  have s1 := sb_len3 f1
  have s2 := vb_len r.n.toNat_lt
  have s3 := vb_len (UInt64.ofNat r.rs.length).toNat_lt
  have hn := n64 (n := r.rs.length) (by omega)
  refine Cll.code rfl rfl ?_
  refine WC.env [(0, _), (1, _)] rfl ?_
  refine WC.seq (WC.run (C rfl rfl (WS.nil [(0, _), (1, _)] rfl ?_)))
  refine WC.seq (WC.run (C rfl rfl (C rfl rfl (C rfl rfl (C rfl (op_ld (M.at 2 rfl) rfl rfl) (C rfl (op_lenVS A rfl) (WS.opV (.int .u64 (((UInt64.ofNat r.rs.length).toNat : Nat) : Int)) rfl rfl (cvLen (by omega)) ?_)))))))
  refine WS.new M rfl ?_
  intro p1 h2 M3
  refine WS.st1 (M3.focus 0 rfl) [_] [_] rfl rfl rfl rfl rfl (Nat.le_of_ble_eq_true rfl) (Nat.le_of_ble_eq_true rfl) rfl rfl ?_
  intro h4 M5
  replace M5 : Mem _ _ ([(p1, _)] :: S :: [(w, _)] :: [(p, _)] :: L) _ := M5
  refine WS.nil [(0, _), (1, _), (5, _)] rfl ?_
  refine WC.seq (WC.draw M5 [] rfl ?_)
  intro rb6 h7 M8
  refine C rfl rfl (C rfl rfl (C rfl rfl (C rfl rfl (C rfl rfl (C rfl rfl (C rfl rfl ?_))))))
  refine WS.call rfl rfl rfl (w_byte_ran (c := r.cd) O ((M8.focus 2 rfl).focus 2 rfl) ⟨_, .inr (List.Mem.tail _ (List.Mem.head _)), rfl⟩ (by first | omega | (simp only [D, F, List.length_nil]; omega))) ?_
  rintro _ h9 ⟨V11, S12, O13, rfl, M10⟩
  obtain ⟨P14, rfl⟩ := O13.shape
  replace M10 : Mem _ _ (S12 :: [(w, _)] :: [(p1, _)] :: [(p, _)] :: L) _ := M10
  refine WS.nil [(0, _), (1, _), (5, _)] rfl ?_
  refine WC.seq (WC.draw M10.bare [] rfl ?_)
  intro rb15 h16 M17
  refine C rfl rfl (C rfl rfl (C rfl rfl (C rfl rfl (C rfl rfl (C rfl rfl (C rfl rfl ?_))))))
  refine WS.call rfl rfl rfl (w_number_ran (c := r.n) O13 ((M17.focus 1 rfl).focus 1 rfl) ⟨_, .inr (List.Mem.tail _ (List.Mem.head _)), rfl⟩ (by first | omega | (simp only [D, F, List.length_nil]; omega))) ?_
  rintro _ h18 ⟨V20, S21, O22, rfl, M19⟩
  obtain ⟨P23, rfl⟩ := O22.shape
  replace M19 : Mem _ _ (S21 :: [(w, _)] :: [(p1, _)] :: [(p, _)] :: L) _ := M19
  refine WS.nil [(0, _), (1, _), (5, _)] rfl ?_
  refine WC.seq (WC.draw M19.bare [] rfl ?_)
  intro rb24 h25 M26
  refine C rfl rfl (C rfl rfl (C rfl rfl (C rfl rfl (C rfl rfl (C rfl rfl (C rfl rfl ?_))))))
  refine WS.call rfl rfl rfl (w_text_ran (c := r.va) O22 ((M26.focus 1 rfl).focus 1 rfl) ⟨_, .inr (List.Mem.tail _ (List.Mem.head _)), rfl⟩ (by first | omega | (simp only [D, F, List.length_nil]; omega))) ?_
  rintro _ h27 ⟨V29, S30, O31, rfl, M28⟩
  obtain ⟨P32, rfl⟩ := O31.shape
  replace M28 : Mem _ _ (S30 :: [(w, _)] :: [(p1, _)] :: [(p, _)] :: L) _ := M28
  refine WS.nil [(0, _), (5, _)] rfl ?_
  refine WC.seq (WC.run (C rfl rfl ?_))
  refine WS.call rfl rfl rfl (w_number_ran (c := (UInt64.ofNat r.rs.length)) O31 ((M28.bare.focus 1 rfl).focus 1 rfl) ⟨_, .inr (List.Mem.head _), rfl⟩ (by first | omega | (simp only [D, F, List.length_nil]; omega))) ?_
  rintro _ h33 ⟨V35, S36, O37, rfl, M34⟩
  obtain ⟨P38, rfl⟩ := O37.shape
  replace M34 : Mem _ _ (S36 :: [(w, _)] :: [(p1, _)] :: [(p, _)] :: L) _ := M34
  refine WS.nil [(5, _)] rfl ?_
  refine WC.seq (WC.run (C rfl (op_ld (M34.at 2 rfl) rfl rfl) (C rfl rfl (WS.nil [(4, _)] rfl ?_))))
  refine WC.ret (⟨[_], (res_tmp rfl res_nil), ?_⟩)
  exact ⟨_, _, by rw [show l ++ headR r = ((((l ++ [r.cd]) ++ (vb r.n.toNat)) ++ (sb r.va)) ++ (vb (UInt64.ofNat r.rs.length).toNat)) by unfold headR; rw [hn]; simp]; exact O37, rfl, (M34.focus 2 rfl).drop⟩
theorem WriteR_ran (W : Mem h h [] []) {r : Res} {V : Value} (A : KRrow.Sl h V r.rs) (hf : FitRes r) : Cll tab0 30 [r.val V] h (fun v h2 => v = .string (bs (encR r)) ∧ Mem h h2 [] []) := by
  obtain ⟨P, n, rfl⟩ := A.shape
  obtain ⟨f1, f2, f3⟩ := id hf
  have s1 := sb_len3 f1
  have s2 := vb_len r.n.toNat_lt
  have s3 := vb_len (n := r.rs.length) (by omega)
  have hh : (headR r).length ≤ 301000 := by unfold headR; simp only [D, F, List.length_nil]; omega
  refine Cll.code rfl rfl ?_
  refine WC.env [(0, _)] rfl ?_
  refine WC.seq (WC.run (WS.box W [_, _, _, _] rfl rfl rfl rfl ?_))
  intro p1 h2 M3
  refine C rfl rfl (WS.nil [(1, _)] rfl ?_)
  refine WC.seq (WC.run (WS.opV (.agg #[(.slice none 0 0)]) rfl rfl rfl ?_))
  refine WS.box M3 [_] rfl rfl rfl rfl ?_
  intro p4 h5 M6
  refine C rfl rfl (WS.nil [(1, _), (3, _)] rfl ?_)
  refine WC.seq (WC.run (C rfl rfl (C rfl rfl ?_)))
  refine WS.call rfl rfl rfl (walkResW_ran (r := r) A (by assumption) (Row.Own.nil (K := KU8)) ((M6.focus 1 rfl).focus 1 rfl).nils (by simp)) ?_
  rintro _ h7 ⟨V9, S10, O11, rfl, M8⟩
  rw [List.nil_append] at O11
  obtain ⟨P12, rfl⟩ := O11.shape
  replace M8 : Mem _ _ (S10 :: [(p4, _)] :: [(p1, _)] :: []) _ := M8
  refine WS.nil [(1, _), (3, _)] rfl ?_
  refine WC.seq (WC.seq (WC.run (C rfl rfl (C rfl (op_ld (M8.at 2 rfl) rfl rfl) (C rfl (op_lenVS A rfl) (C rfl rfl (WS.nil [(1, _), (3, _), (12, _), (13, _)] rfl ?_)))))))
  refine WC.block ?_
  obtain ⟨L13, eL15, M14⟩ := Mem.name2 ((M8.bare.focus 1 rfl).focus 1 rfl)
  refine WC.loop (σ := Value × Seg × List UInt8 × Nat) (fun ((V_, S_, out, i)) => [(1, (.pointer (some ⟨p1, 0, none⟩))), (3, (.pointer (some ⟨p4, 0, none⟩))), (12, (.int .i64 (((r.rs).length : Nat) : Int))), (13, (.int .i64 ((i : Nat) : Int)))]) (fun ((V_, S_, out, i)) hh => Mem h hh (S_ :: [(p4, ⟨[V_], 0, false⟩)] :: L13) [] ∧ KU8.Own V_ out S_ ∧ out = headR r ++ (r.rs.take i).flatMap rowR ∧ i ≤ r.rs.length ∧ out.length ≤ 301000 + 610000 * i) (fun ((V_, S_, out, i)) => r.rs.length - i) ((.slice P12 ((headR r)).length (2 * ((headR r)).length)), S10, (headR r), 0) rfl ⟨(by exact M14), ?_⟩ ?_
  · exact ⟨by assumption, by simp, by omega, by omega⟩
  ·rintro ⟨V_, S_, out, i⟩ h16 ⟨M17, ⟨hO, hE, hi1, hol⟩⟩
   subst eL15
   refine WC.env [(1, _), (3, _), (12, _), (13, _)] rfl ?_
   obtain ⟨P_, rfl⟩ := hO.shape
   refine WC.seq (WC.run (WS.lssN (a := i) (b := (r.rs).length) rfl rfl rfl (fun e14 => ?_) (fun e14 => ?_)))
   ·
    refine WS.nil [(1, _), (3, _), (12, _), (13, _), (14, _)] rfl ?_
    refine WC.seq (WC.condT rfl (WC.skip (WC.seq (WC.block (WC.seq (WC.run (C rfl rfl (C rfl rfl (WS.nil [(1, _), (3, _), (4, _), (12, _), (13, _)] rfl ?_)))))))))
    refine WC.run (C rfl rfl (C rfl rfl (C rfl rfl (C rfl (op_ld (M17.at 2 rfl) rfl rfl) (C rfl rfl ?_)))))
    obtain ⟨y21, hy21⟩ : ∃ y, (r.rs)[i]? = some y := ⟨_, List.getElem?_eq_getElem (show i < (r.rs).length by first | omega | (simp only [List.length_drop, List.length_take, D, F, List.length_nil, List.length_singleton]; omega) | (simp only [List.length_drop, List.length_take, D, F, List.length_nil, List.length_singleton] at *; omega))⟩
    refine WS.iaVS A i hy21 rfl rfl rfl rfl ?_
    intro b21_ o21_ ha21
    refine WS.call rfl rfl rfl (walkRowW_ran (x := y21) ha21 hO ((M17.focus 1 rfl).focus 1 rfl) (by exact ⟨by omega, f3 _ (List.mem_of_getElem? hy21)⟩)) ?_
    rintro _ h18 ⟨V20, S21, O22, rfl, M19⟩
    obtain ⟨P23, rfl⟩ := O22.shape
    replace M19 : Mem _ _ (S21 :: [(p4, _)] :: [(p1, _)] :: []) _ := M19
    refine WS.nil [(1, _), (3, _), (12, _), (13, _)] rfl ?_
    refine WC.run (WS.opV (.int .i64 (((i + 1) : Nat) : Int)) rfl rfl (add_i64 (a := i) (b := 1) (by omega)) (C rfl rfl (WS.nil [(1, _), (3, _), (12, _), (13, _)] rfl ?_)))
    refine ⟨((.slice P23 ((out ++ rowR y21)).length (2 * ((out ++ rowR y21)).length)), S21, (out ++ rowR y21), i + 1), rfl, ⟨((((M19.bare.focus 2 rfl).focus 2 rfl).focus 2 rfl).take 3), ?_⟩, ?_⟩
    · exact ⟨by assumption, by rw [flatMap_take_succ rowR hy21, hE]; simp, by omega, by have t0 := f3 _ (List.mem_of_getElem? hy21); have t1 := sb_len3 t0.1; have t2 := sb_len3 t0.2; have t3 := vb_len y21.vn.toNat_lt; simp only [rowR, D]; omega⟩
    · simp only []; omega
   ·
    refine WS.nil [(1, _), (3, _), (12, _), (13, _), (14, _)] rfl ?_
    refine WC.seq (WC.condF rfl (WC.exit ?_))
    refine WC.seq (WC.run (C rfl rfl (C rfl rfl (C rfl rfl (C rfl (op_ld (M17.at 1 rfl) rfl rfl) (C rfl (op_cvBO hO (Mem.owni M17 0 rfl) rfl) (C rfl rfl (WS.nil [(2, _)] rfl ?_))))))))
    refine WC.ret (⟨[_], (res_tmp rfl res_nil), ?_⟩)
    rw [List.take_of_length_le (by omega)] at hE
    exact ⟨by rw [hE]; rfl, M17.bare.take 0⟩
theorem opens_9 : OpensL Try.prog 9 layStr 1 (fun a => a.length < 9223372036854775808) := OpensL.string Try.underlying9 (by kernel_rfl)
end Go.Proofs.Yteikngjiaboeaaa.Wt
namespace Go.Proofs.Yteikngjiaboeaaa.Wt
open Go Go.Proofs.Yteikngjiaboeaaa.Am Go.Proofs.Yteikngjiaboeaaa.IrAll
open Go.Proofs.Yteikngjiaboeaaa.Am.WS renaming op → C
open Nat renaming le_of_ble_eq_true → D
open Go.Proofs.Yteikngjiaboeaaa.Am.WS renaming nil → F
open Go.Proofs.Yteikngjiaboeaaa.Am.WC renaming seq → G
open Go.Proofs.Yteikngjiaboeaaa.Am.WC renaming run → J
open List renaming length_cons → U
open List renaming length_drop → X
open List renaming length_singleton → Y
open List renaming length_nil → AQ
open List renaming length_append → AX
set_option linter.unusedVariables false
set_option linter.unusedSimpArgs false
variable {h base : H} {L : List Seg} {R : List Nat}
theorem splice_set {cells : List Value} {k : Nat} {v : Value} (h : k < cells.length) : splice cells k [v] = cells.set k v := by
  unfold splice; rw [List.set_eq_take_append_cons_drop, if_pos h]; simp
theorem set_same {α : Type} {l : List α} {i : Nat} {y : α} (hy : l[i]? = some y) : l.set i y = l := by
  apply List.ext_getElem?
  intro j
  rw [List.getElem?_set]
  split
  · rename_i e; subst e; rw [if_pos (List.getElem?_eq_some_iff.1 hy).1, hy]
  · rfl
theorem flat_at0 {α : Type} {K : Row α} {l : List α} {j k : Nat} {y : α} {v : Value} (hy : l[j]? = some y) (hk : (K.cells y)[k]? = some v) : (K.flat l)[0 + j * K.n + k]? = some v := by
  rw [Nat.zero_add]; exact K.flat_at hy hk
theorem flat_set0 {α : Type} {K : Row α} {l : List α} {j k : Nat} {y y' : α} {v : Value} (hy : l[j]? = some y) (hk : k < K.n) (hs : (K.cells y).set k v = K.cells y') : (K.flat l).set (0 + j * K.n + k) v = K.flat (l.set j y') := by
  have hj := (List.getElem?_eq_some_iff.1 hy).1
  have := Nat.mul_le_mul_right K.n (show j + 1 ≤ l.length by omega)
  rw [Nat.add_mul, Nat.one_mul] at this
  rw [Nat.zero_add, ← splice_set (by rw [K.flat_length]; omega)]; exact Row.flat_set hy hk hs
theorem r_skip_ran {r n : Nat} {s : List UInt8} {b ok : Bool} (M : Mem base h ([(r, ⟨[.string (bs s), .bool b], 0, false⟩)] :: L) []) (hl : s.length ≤ 1000000) : Cll tab0 106 [.pointer (some ⟨r, 0, none⟩), .int .i64 (n : Int), .bool ok] h (fun v h2 => ∃ s' b', v = .bool (!b') ∧ Mem base h2 ([(r, ⟨[.string (bs s'), .bool b'], 0, false⟩)] :: L) [] ∧ (b' = false → b = false ∧ ok = true ∧ n ≤ s.length ∧ s' = s.drop n) ∧ (b' = true → s' = s) ∧ (b = false → ok = true → n ≤ s.length → b' = false)) := by
  refine Cll.code rfl rfl ?_
  refine WC.env [(0, _), (1, _), (2, _)] rfl ?_
  refine G (J (C rfl rfl (F [(0, _), (1, _), (2, _)] rfl ?_)))
  refine G (G (J (C rfl rfl (C rfl rfl (C rfl rfl (C rfl rfl (C rfl (op_ld (M.at 0 rfl) rfl rfl) (C rfl rfl ?_))))))))
  cases hb1 : b
  ·
   refine C rfl rfl ?_
   cases hb2 : ok
   ·
    refine WS.opV (.bool true) rfl rfl rfl (C rfl rfl (C rfl rfl (WS.off rfl (WS.off rfl (WS.off rfl (WS.off rfl (WS.off rfl (WS.off rfl (WS.off rfl ?_)))))))))
    refine C rfl rfl (C rfl rfl (C rfl rfl ?_))
    refine WS.st1 (M.focus 0 rfl) [_] [_, _] rfl rfl rfl rfl rfl (D rfl) (D rfl) rfl rfl ?_
    intro h1 M2
    replace M2 : Mem _ _ ([(r, _)] :: L) _ := M2
    refine F [(0, _), (1, _)] rfl ?_
    refine G (J (C rfl rfl (C rfl rfl (C rfl rfl (C rfl (op_ld (M2.at 0 rfl) rfl rfl) (F [(0, _), (1, _), (30, _)] rfl ?_))))))
    refine WC.condT rfl (G (J (C rfl rfl (F [(6, _)] rfl ?_))))
    refine WC.ret (⟨[_], (res_tmp rfl res_nil), ?_⟩)
    exact ⟨_, true, rfl, M2, fun q => (nomatch q), fun _ => rfl, fun u1 u2 u3 => by first | (cases u1; done) | (cases u2; done) | (rw [hb1] at u1; cases u1; done) | (rw [hb1] at u2; cases u2; done) | (rw [hb2] at u2; cases u2; done) | (exfalso; omega)⟩
   ·
    refine WS.opV (.bool false) rfl rfl rfl (C rfl rfl (C rfl rfl (C rfl rfl (C rfl rfl (C rfl rfl (C rfl rfl (C rfl (op_ld (M.at 0 rfl) rfl rfl) (C rfl (op_lenS (l := s) rfl) ?_))))))))
    refine WS.gtrN (a := n) (b := (s).length) rfl rfl rfl (fun e23 => ?_) (fun e23 => ?_)
    ·
     refine C rfl rfl (C rfl rfl (C rfl rfl ?_))
     refine WS.st1 (M.focus 0 rfl) [_] [_, _] rfl rfl rfl rfl rfl (D rfl) (D rfl) rfl rfl ?_
     intro h3 M4
     replace M4 : Mem _ _ ([(r, _)] :: L) _ := M4
     refine F [(0, _), (1, _)] rfl ?_
     refine G (J (C rfl rfl (C rfl rfl (C rfl rfl (C rfl (op_ld (M4.at 0 rfl) rfl rfl) (F [(0, _), (1, _), (30, _)] rfl ?_))))))
     refine WC.condT rfl (G (J (C rfl rfl (F [(6, _)] rfl ?_))))
     refine WC.ret (⟨[_], (res_tmp rfl res_nil), ?_⟩)
     exact ⟨_, true, rfl, M4, fun q => (nomatch q), fun _ => rfl, fun u1 u2 u3 => by first | (cases u1; done) | (cases u2; done) | (rw [hb1] at u1; cases u1; done) | (rw [hb1] at u2; cases u2; done) | (rw [hb2] at u2; cases u2; done) | (exfalso; omega)⟩
    ·
     refine C rfl rfl (C rfl rfl (C rfl rfl ?_))
     refine WS.st1 (M.focus 0 rfl) [_] [_, _] rfl rfl rfl rfl rfl (D rfl) (D rfl) rfl rfl ?_
     intro h5 M6
     replace M6 : Mem _ _ ([(r, _)] :: L) _ := M6
     refine F [(0, _), (1, _)] rfl ?_
     refine G (J (C rfl rfl (C rfl rfl (C rfl rfl (C rfl (op_ld (M6.at 0 rfl) rfl rfl) (F [(0, _), (1, _), (30, _)] rfl ?_))))))
     refine WC.condF rfl (WC.skip (G (J (C rfl rfl (C rfl rfl (C rfl rfl (C rfl rfl (C rfl (op_ld (M6.at 0 rfl) rfl rfl) (C rfl rfl (C rfl (op_slS0 (l := s) n rfl rfl (by first | omega | (simp only [X, List.length_take, AX, U, AQ, Y]; omega) | (simp only [X, List.length_take, AX, U, AQ, Y] at *; omega))) (C rfl rfl (C rfl rfl ?_))))))))))))
     refine WS.st1 (M6.focus 0 rfl) [_] [_, _] rfl rfl rfl rfl rfl (D rfl) (D rfl) rfl rfl ?_
     intro h7 M8
     replace M8 : Mem _ _ ([(r, _)] :: L) _ := M8
     refine F [] rfl ?_
     refine G (J (C rfl rfl (F [(6, _)] rfl ?_)))
     refine WC.ret (⟨[_], (res_tmp rfl res_nil), ?_⟩)
     exact ⟨_, false, rfl, M8, fun _ => ⟨by first | assumption | rfl, by first | assumption | rfl, by omega, rfl⟩, fun q => (nomatch q), fun _ _ _ => rfl⟩
  ·
   refine WS.off rfl (WS.off rfl (C rfl rfl (C rfl rfl (WS.off rfl (WS.off rfl (WS.off rfl (WS.off rfl (WS.off rfl (WS.off rfl ?_)))))))))
   refine WS.off rfl (C rfl rfl (C rfl rfl (C rfl rfl ?_)))
   refine WS.st1 (M.focus 0 rfl) [_] [_, _] rfl rfl rfl rfl rfl (D rfl) (D rfl) rfl rfl ?_
   intro h9 M10
   replace M10 : Mem _ _ ([(r, _)] :: L) _ := M10
   refine F [(0, _), (1, _)] rfl ?_
   refine G (J (C rfl rfl (C rfl rfl (C rfl rfl (C rfl (op_ld (M10.at 0 rfl) rfl rfl) (F [(0, _), (1, _), (30, _)] rfl ?_))))))
   refine WC.condT rfl (G (J (C rfl rfl (F [(6, _)] rfl ?_))))
   refine WC.ret (⟨[_], (res_tmp rfl res_nil), ?_⟩)
   exact ⟨_, true, rfl, M10, fun q => (nomatch q), fun _ => rfl, fun u1 u2 u3 => by first | (cases u1; done) | (cases u2; done) | (rw [hb1] at u1; cases u1; done) | (rw [hb1] at u2; cases u2; done) | (rw [hb2] at u2; cases u2; done) | (exfalso; omega)⟩
theorem r_byte_ran {r q k es : Nat} {s : List UInt8} {b : Bool} {cells : List Value} {old : UInt8} (M : Mem base h ([(r, ⟨[.string (bs s), .bool b], 0, false⟩)] :: [(q, ⟨cells, es, false⟩)] :: L) []) (hk : cells[k]? = some (.int .u8 ((old.toNat : Nat) : Int))) (hl : s.length ≤ 1000000) :
    Cll tab0 102 [.pointer (some ⟨r, 0, none⟩), .pointer (some ⟨q, k, none⟩)] h (fun v h2 => ∃ s' b' c, v = .tuple #[] ∧ Mem base h2 ([(r, ⟨[.string (bs s'), .bool b'], 0, false⟩)] :: [(q, ⟨cells.set k (.int .u8 ((UInt8.toNat c : Nat) : Int)), es, false⟩)] :: L) [] ∧ s'.length ≤ s.length ∧ (b' = false → b = false ∧ s = c :: s') ∧ (∀ c0 t, b = false → s = c0 :: t → b' = false ∧ c = c0 ∧ s' = t)) := by
  have hkl := (List.getElem?_eq_some_iff.1 hk).1
  refine Cll.code rfl rfl ?_
  refine WC.env [(0, _), (1, _)] rfl ?_
  refine G (J (C rfl rfl (C rfl rfl (C rfl rfl (C rfl (op_ld (M.at 0 rfl) rfl rfl) (C rfl rfl (F [(0, _), (1, _), (4, _)] rfl ?_)))))))
  refine G (J (C rfl rfl ?_))
  refine WS.call rfl rfl rfl (r_skip_ran (s := s) (b := b) (n := 1) (ok := true) (M.focus 0 rfl) (by omega)) ?_
  rintro _ h1 ⟨s', b', rfl, M2, q1, q2, q3⟩
  replace M2 : Mem _ _ ([(r, _)] :: [(q, _)] :: L) _ := M2
  refine F [(1, _), (4, _), (10, _)] rfl ?_
  cases hb1 : (!b')
  ·
   refine WC.condF rfl (WC.skip (⟨[], res_nil, ?_⟩))
   have g0 : b' = true := by simpa using hb1
   exact ⟨_, _, old, rfl, by rw [set_same hk]; exact M2, by rw [q2 g0]; exact Nat.le_refl _, fun q => by rw [g0] at q; exact absurd q (by decide), fun c0 t u e => by have := q3 u rfl (by subst e; simp); rw [g0] at this; exact absurd this (by decide)⟩
  ·
   refine WC.condT rfl (J (C rfl rfl (C rfl rfl ?_)))
   obtain ⟨g1, g2, g3, g4⟩ := q1 (by simpa using hb1)
   obtain ⟨c, hc⟩ : ∃ c, (s)[0]? = some c := ⟨_, List.getElem?_eq_getElem (show 0 < (s).length by first | omega | (simp only [X, List.length_take, AX, U, AQ, Y]; omega) | (simp only [X, List.length_take, AX, U, AQ, Y] at *; omega))⟩
   refine C rfl (op_ixS 0 rfl rfl hc) (C rfl rfl ?_)
   refine WS.st1 (M2.focus 1 rfl) [(.int .u8 (((c).toNat : Nat) : Int))] (cells.set k (.int .u8 (((c).toNat : Nat) : Int))) rfl rfl rfl rfl rfl (D rfl) (by exact hkl) rfl (splice_set hkl) ?_
   intro h3 M4
   replace M4 : Mem _ _ ([(q, _)] :: [(r, _)] :: L) _ := M4
   refine F [] rfl ?_
   refine ⟨[], res_nil, ?_⟩
   exact ⟨_, _, c, rfl, ((M4.focus 0 rfl).focus 1 rfl), by rw [g4, X]; omega, fun q => ⟨g1, by rw [g4]; simpa using drop_cons hc⟩, fun c0 t _ e => ⟨by simpa using hb1, by subst e; simpa using hc.symm, by subst e; rw [g4]; rfl⟩⟩
theorem r_number_ran {r q k es : Nat} {s : List UInt8} {b : Bool} {cells : List Value} {old : UInt64} (M : Mem base h ([(r, ⟨[.string (bs s), .bool b], 0, false⟩)] :: [(q, ⟨cells, es, false⟩)] :: L) []) (hk : cells[k]? = some (.int .u64 ((old.toNat : Nat) : Int))) (hl : s.length ≤ 1000000) :
    Cll tab0 103 [.pointer (some ⟨r, 0, none⟩), .pointer (some ⟨q, k, none⟩)] h (fun v h2 => ∃ s' b' c, v = .tuple #[] ∧ Mem base h2 ([(r, ⟨[.string (bs s'), .bool b'], 0, false⟩)] :: [(q, ⟨cells.set k (.int .u64 ((UInt64.toNat c : Nat) : Int)), es, false⟩)] :: L) [] ∧ s'.length ≤ s.length ∧ (b' = false → b = false ∧ s = vb c.toNat ++ s') ∧ (∀ (m : Nat) t, m < 18446744073709551616 → b = false → s = vb m ++ t → b' = false ∧ c.toNat = m ∧ s' = t)) := by
  have hkl := (List.getElem?_eq_some_iff.1 hk).1
  refine Cll.code rfl rfl ?_
  refine WC.env [(0, _), (1, _)] rfl ?_
  refine G (J (C rfl rfl (C rfl rfl (C rfl rfl (C rfl (op_ld (M.at 0 rfl) rfl rfl) ?_)))))
  refine WS.call rfl rfl rfl (num_ReadV_ran M.here (l := s) (by first | omega | (simp only [X, List.length_take, AX, U, AQ, Y]; omega) | (simp only [X, List.length_take, AX, U, AQ, Y] at *; omega))) ?_
  rintro _ h1 ⟨rfl, N2⟩
  have M3 := M.trans N2
  refine C rfl rfl (WS.opV (.int .u64 (((UInt64.ofNat (rvN s)).toNat : Nat) : Int)) rfl rfl (u64_ofNat (n := (rvN s)) (by have := rvN_lt s; omega)) (C rfl rfl (C rfl rfl (C rfl rfl (C rfl rfl (C rfl rfl (F [(0, _), (1, _), (4, _), (5, _), (6, _)] rfl ?_)))))))
  refine G (J (C rfl rfl (C rfl rfl (C rfl rfl ?_))))
  refine WS.call rfl rfl rfl (r_skip_ran (s := s) (b := b) (n := (rvK s)) (ok := (rvOK s)) (M3.focus 0 rfl) (by omega)) ?_
  rintro _ h5 ⟨s', b', rfl, M6, q1, q2, q3⟩
  replace M6 : Mem _ _ ([(r, _)] :: [(q, _)] :: L) _ := M6
  refine F [(1, _), (4, _), (19, _)] rfl ?_
  cases hb1 : (!b')
  ·
   refine WC.condF rfl (WC.skip (⟨[], res_nil, ?_⟩))
   have g0 : b' = true := by first | simpa using hb1 | simpa using hb2
   exact ⟨_, _, old, rfl, by rw [set_same hk]; exact M6, by rw [q2 g0]; exact Nat.le_refl _, fun q => by rw [g0] at q; exact absurd q (by decide), fun m t hm u e => by obtain ⟨f1, f2, f3⟩ := rv_eq_some (show getV s = some (m, (vb m).length) by rw [e]; exact getV_vb hm t); have := q3 u f3 (rvK_le s).1; rw [g0] at this; exact absurd this (by decide)⟩
  ·
   refine WC.condT rfl (J (C rfl rfl (C rfl rfl (C rfl rfl ?_))))
   refine WS.st1 (M6.focus 1 rfl) [(.int .u64 (((UInt64.ofNat (rvN s)).toNat : Nat) : Int))] (cells.set k (.int .u64 (((UInt64.ofNat (rvN s)).toNat : Nat) : Int))) rfl rfl rfl rfl rfl (D rfl) (by exact hkl) rfl (splice_set hkl) ?_
   intro h7 M8
   replace M8 : Mem _ _ ([(q, _)] :: [(r, _)] :: L) _ := M8
   refine F [] rfl ?_
   refine ⟨[], res_nil, ?_⟩
   have g0 : b' = false := by first | simpa using hb1 | simpa using hb2
   obtain ⟨g1, g2, g3, g4⟩ := q1 g0
   exact ⟨_, _, UInt64.ofNat (rvN s), rfl, ((M8.focus 0 rfl).focus 1 rfl), by rw [g4, X]; omega, fun q => ⟨g1, by rw [n64 (rvN_lt s), g4]; exact (getV_some (show getV s = some (rvN s, rvK s) by rw [getV_eq, g2]; rfl)).1⟩, fun m t hm _ e => by obtain ⟨f1, f2, f3⟩ := rv_eq_some (show getV s = some (m, (vb m).length) by rw [e]; exact getV_vb hm t); exact ⟨g0, by rw [n64 (rvN_lt s), f1], by rw [g4, f2, e, List.drop_left]⟩⟩
theorem r_text_ran {r q k es : Nat} {s : List UInt8} {b : Bool} {cells : List Value} {old : List UInt8} (M : Mem base h ([(r, ⟨[.string (bs s), .bool b], 0, false⟩)] :: [(q, ⟨cells, es, false⟩)] :: L) []) (hk : cells[k]? = some (.string (bs old))) (hl : s.length ≤ 1000000) (ho : old = []) :
    Cll tab0 104 [.pointer (some ⟨r, 0, none⟩), .pointer (some ⟨q, k, none⟩)] h (fun v h2 => ∃ s' b' c, v = .tuple #[] ∧ Mem base h2 ([(r, ⟨[.string (bs s'), .bool b'], 0, false⟩)] :: [(q, ⟨cells.set k (.string (bs c)), es, false⟩)] :: L) [] ∧ s'.length ≤ s.length ∧ c.length ≤ s.length ∧ (b' = false → b = false ∧ s = sb c ++ s') ∧ (∀ u t, u.length < 18446744073709551616 → b = false → s = sb u ++ t → b' = false ∧ c = u ∧ s' = t)) := by
  have hkl := (List.getElem?_eq_some_iff.1 hk).1
  have hrs := rsT_le s
  refine Cll.code rfl rfl ?_
  refine WC.env [(0, _), (1, _)] rfl ?_
  refine G (J (C rfl rfl (C rfl rfl (C rfl rfl (C rfl (op_ld (M.at 0 rfl) rfl rfl) ?_)))))
  refine WS.call rfl rfl rfl (num_ReadS_ran M.here (l := s) (by first | omega | (simp only [X, List.length_take, AX, U, AQ, Y]; omega) | (simp only [X, List.length_take, AX, U, AQ, Y] at *; omega))) ?_
  rintro _ h1 ⟨rfl, N2⟩
  have M3 := M.trans N2
  refine C rfl rfl (C rfl rfl (C rfl rfl (C rfl rfl (C rfl rfl (C rfl rfl (C rfl rfl (F [(0, _), (1, _), (4, _), (5, _), (6, _)] rfl ?_)))))))
  refine G (J (C rfl rfl (C rfl rfl (C rfl rfl ?_))))
  refine WS.call rfl rfl rfl (r_skip_ran (s := s) (b := b) (n := (rsK s)) (ok := (rsOK s)) (M3.focus 0 rfl) (by omega)) ?_
  rintro _ h5 ⟨s', b', rfl, M6, q1, q2, q3⟩
  replace M6 : Mem _ _ ([(r, _)] :: [(q, _)] :: L) _ := M6
  refine F [(1, _), (4, _), (19, _)] rfl ?_
  cases hb1 : (!b')
  ·
   refine WC.condF rfl (WC.skip (⟨[], res_nil, ?_⟩))
   have g0 : b' = true := by first | simpa using hb1 | simpa using hb2
   exact ⟨_, _, old, rfl, by rw [set_same hk]; exact M6, by rw [q2 g0]; exact Nat.le_refl _, by subst ho; exact Nat.zero_le _, fun q => by rw [g0] at q; exact absurd q (by decide), fun u t hu v e => by obtain ⟨f1, f2, f3⟩ := rs_eq_some (show getS s = some (u, (sb u).length) by rw [e]; exact getS_sb hu t); have := q3 v f3 (rsK_le s); rw [g0] at this; exact absurd this (by decide)⟩
  ·
   refine WC.condT rfl (J (C rfl rfl (C rfl rfl (C rfl rfl ?_))))
   refine WS.st1 (M6.focus 1 rfl) [(.string (bs (rsT s)))] (cells.set k (.string (bs (rsT s)))) rfl rfl rfl rfl rfl (D rfl) (by exact hkl) rfl (splice_set hkl) ?_
   intro h7 M8
   replace M8 : Mem _ _ ([(q, _)] :: [(r, _)] :: L) _ := M8
   refine F [] rfl ?_
   refine ⟨[], res_nil, ?_⟩
   have g0 : b' = false := by first | simpa using hb1 | simpa using hb2
   obtain ⟨g1, g2, g3, g4⟩ := q1 g0
   exact ⟨_, _, rsT s, rfl, ((M8.focus 0 rfl).focus 1 rfl), by rw [g4, X]; omega, hrs, fun q => ⟨g1, by rw [g4]; exact (getS_some (show getS s = some (rsT s, rsK s) by rw [getS_eq, g2]; rfl)).1⟩, fun u t hu _ e => by obtain ⟨f1, f2, f3⟩ := rs_eq_some (show getS s = some (u, (sb u).length) by rw [e]; exact getS_sb hu t); exact ⟨g0, f1, by rw [g4, f2, e, List.drop_left]⟩⟩
theorem well_ran (W : Mem h h [] []) {r : Nat} {s : List UInt8} {b : Bool} (hp : h.get r = some ⟨[.string (bs s), .bool b], 0, false⟩) : Cll tab0 58 [.pointer (some ⟨r, 0, none⟩)] h (fun v h2 => v = .bool (decide (b = false ∧ s = [])) ∧ Mem h h2 [] []) := by
  refine Cll.code rfl rfl ?_
  refine WC.env [(0, _)] rfl ?_
  refine G (J (C rfl rfl (F [(0, _)] rfl ?_)))
  refine G (J (C rfl rfl (C rfl rfl (C rfl rfl (C rfl (op_ld (W.sub _ _ hp) rfl rfl) ?_)))))
  cases hb1 : b
  ·
   refine WS.opV (.bool true) rfl rfl rfl (C rfl rfl (C rfl rfl (C rfl rfl (C rfl rfl (C rfl (op_ld (W.sub _ _ hp) rfl rfl) ?_)))))
   refine WS.seql (l := s) (m := []) rfl rfl rfl (fun e13 => ?_) (fun e13 => ?_)
   ·
    refine C rfl rfl (C rfl rfl (F [(2, _)] rfl ?_))
    refine WC.ret (⟨[_], (res_tmp rfl res_nil), ?_⟩)
    exact ⟨by rw [decide_eq_true ⟨by first | assumption | rfl, by assumption⟩]; rfl, W.bare.take 0⟩
   ·
    refine C rfl rfl (C rfl rfl (F [(2, _)] rfl ?_))
    refine WC.ret (⟨[_], (res_tmp rfl res_nil), ?_⟩)
    exact ⟨by rw [decide_eq_false (by rintro ⟨q1, q2⟩; first | exact absurd q2 (by assumption) | (cases q1; done) | (rw [hb1] at q1; cases q1))]; rfl, W.bare.take 0⟩
  ·
   refine WS.opV (.bool false) rfl rfl rfl (C rfl rfl (WS.off rfl (WS.off rfl (WS.off rfl (WS.off rfl (WS.off rfl (C rfl rfl (C rfl rfl (F [(2, _)] rfl ?_)))))))))
   refine WC.ret (⟨[_], (res_tmp rfl res_nil), ?_⟩)
   exact ⟨by rw [decide_eq_false (by rintro ⟨q1, q2⟩; first | exact absurd q2 (by assumption) | (cases q1; done) | (rw [hb1] at q1; cases q1))]; rfl, W.bare.take 0⟩
theorem own_block {α : Type} {K : Row α} {V : Value} {l : List α} {S : Seg} (O : K.Own V l S) (hne : l ≠ []) : ∃ p, V = .slice (some ⟨p, 0, none⟩) l.length (2 * l.length) ∧ S = [(p, ⟨K.flat l, K.n, false⟩)] := by
  cases O with
  | nil => exact absurd rfl hne
  | row p l h => exact ⟨p, rfl, rfl⟩
theorem FitP_set {l : List Part} {i : Nat} {y : Part} (h : FitP l) (hy : y.ky.length ≤ 300000 ∧ y.va.length ≤ 300000) : FitP (l.set i y) := by
  intro p hp
  rcases List.mem_or_eq_of_mem_set hp with q | q
  · exact h p q
  · subst q; exact hy
theorem FitP_app {l : List Part} (h : FitP l) : FitP (l ++ [⟨0, [], []⟩]) := by
  intro p hp
  rcases List.mem_append.1 hp with q | q
  · exact h p q
  · rw [List.mem_singleton] at q; subst q; exact ⟨Nat.zero_le _, Nat.zero_le _⟩
theorem FitP_snoc1 {l : List Part} {y : Part} (h : FitP l) (hy : y.ky.length ≤ 300000 ∧ y.va.length ≤ 300000) : FitP (l ++ [y]) := by
  intro p hp
  rcases List.mem_append.1 hp with q | q
  · exact h p q
  · rw [List.mem_singleton] at q; subst q; exact hy
def Ahead (s : List UInt8) (b : Bool) (qs : List Part) (t : List UInt8) : Prop := qs.length ≤ 4 ∧ FitP qs ∧ (∀ q ∈ qs, q.op.toNat ≠ 2 → q.va = []) ∧ b = false ∧ s = (UInt8.ofNat qs.length :: qs.flatMap partB) ++ t
theorem set_end {α : Type} {l : List α} {z y : α} {i : Nat} (h : l.length = i) : (l ++ [z]).set i y = l ++ [y] := by subst h; simp
theorem drop_flat {qs : List Part} {i : Nat} {y : Part} (h : qs[i]? = some y) : (qs.drop i).flatMap partB = partB y ++ (qs.drop (i + 1)).flatMap partB := by
  have hi := (List.getElem?_eq_some_iff.1 h).1
  rw [List.drop_eq_getElem_cons hi, List.flatMap_cons]
  rw [List.getElem?_eq_getElem hi] at h; cases h; rfl
set_option maxRecDepth 8000 in
theorem partsR_ran {r p : Nat} {s : List UInt8} {b : Bool} {c : Cmd} (M : Mem base h ([(r, ⟨[.string (bs s), .bool b], 0, false⟩)] :: [(p, ⟨c.cells (.slice none 0 0), 0, false⟩)] :: L) []) (hl : s.length ≤ 300000) : Cll tab0 74 [.iface 98 (.pointer (some ⟨r, 0, none⟩)), .pointer (some ⟨p, 0, none⟩)] h (fun v h2 => ∃ s' b' V ps S, v = .tuple #[] ∧ KPart.Own V ps S ∧ ps.length ≤ 40 ∧ FitP ps ∧ (∀ qs t, Ahead s b qs t → b' = false ∧ ps = qs ∧ s' = t) ∧ (b' = false → b = false) ∧ Mem base h2 (S :: [(r, ⟨[.string (bs s'), .bool b'], 0, false⟩)] :: [(p, ⟨c.cells V, 0, false⟩)] :: L) []) := by
  refine Cll.code rfl rfl ?_
  refine WC.env [(0, _), (1, _)] rfl ?_
  refine G (J (C rfl rfl (C rfl rfl (C rfl rfl (C rfl (op_ld (M.at 1 rfl) rfl rfl) (C rfl rfl (WS.opV (.int .u8 0) rfl rfl rfl ?_)))))))
  refine WS.new M rfl ?_
  intro p1 h2 M3
  refine WS.st1 (M3.focus 0 rfl) [_] [_] rfl rfl rfl rfl rfl (D rfl) (D rfl) rfl rfl ?_
  intro h4 M5
  replace M5 : Mem _ _ ([(p1, _)] :: [(r, _)] :: [(p, _)] :: L) _ := M5
  refine F [(0, _), (1, _), (4, _)] rfl ?_
  refine G (J (C rfl rfl ?_))
  refine WS.call rfl rfl rfl (r_byte_ran (s := s) (b := b) (k := 0) (old := 0) ((M5.focus 0 rfl).focus 1 rfl) rfl (by omega)) ?_
  rintro _ h6 ⟨s6_, b6_, m6_, rfl, M7, R6_⟩
  have R6_l := R6_.1
  replace M7 : Mem _ _ ([(r, _)] :: [(p1, _)] :: [(p, _)] :: L) _ := M7
  refine F [(0, _), (1, _), (4, _)] rfl ?_
  refine G (J (C rfl (op_ld (M7.at 1 rfl) rfl rfl) (WS.opV (.int .i64 (((m6_).toNat : Nat) : Int)) rfl rfl (cv_i64 (n := (m6_).toNat) (by have := UInt8.toNat_lt (m6_); omega)) (WS.opV (.int .i64 (((min ((m6_).toNat) 4) : Nat) : Int)) rfl rfl (mm_min (a := (m6_).toNat) (b := 4)) (C rfl rfl (F [(0, _), (1, _), (17, _), (18, _)] rfl ?_))))))
  refine WC.block ?_
  obtain ⟨L8, eL10, M9⟩ := Mem.name3 ((((M7.bare.focus 2 rfl).focus 1 rfl)).nils)
  refine WC.loop (σ := List UInt8 × Bool × List Part × Value × Seg × Nat) (fun ((s_, b_, ps, V_, S_, i)) => [(0, (.iface 98 (.pointer (some ⟨r, 0, none⟩)))), (1, (.pointer (some ⟨p, 0, none⟩))), (17, (.int .i64 (((min ((m6_).toNat) 4) : Nat) : Int))), (18, (.int .i64 ((i : Nat) : Int)))]) (fun ((s_, b_, ps, V_, S_, i)) hh => Mem base hh (S_ :: [(r, ⟨[(.string (bs s_)), (.bool b_)], 0, false⟩)] :: [(p, ⟨[(.int .u8 (((c.op).toNat : Nat) : Int)), (.int .u64 (((c.se).toNat : Nat) : Int)), (.int .u64 (((c.sq).toNat : Nat) : Int)), (.string (bs c.ky)), (.string (bs c.va)), (.string (bs c.ex)), (.string (bs c.fr)), (.string (bs c.to)), (.int .u8 (((c.li).toNat : Nat) : Int)), (.int .u64 (((c.le).toNat : Nat) : Int)), (.int .u64 (((c.tt).toNat : Nat) : Int)), V_], 0, false⟩)] :: L8) [] ∧ KPart.Own V_ ps S_ ∧ ps.length = i ∧ i ≤ 4 ∧ s_.length ≤ s.length ∧ FitP ps ∧ (∀ qs t, Ahead s b qs t → b_ = false ∧ ((m6_).toNat) = qs.length ∧ ps = qs.take i ∧ s_ = (qs.drop i).flatMap partB ++ t) ∧ (b_ = false → b = false)) (fun ((s_, b_, ps, V_, S_, i)) => 4 - i) (s6_, b6_, [], .slice none 0 0, [], 0) rfl ⟨(by exact M9), ?_⟩ ?_
  · exact ⟨.nil, rfl, by omega, by omega, (by intro p hp; cases hp), (fun qs t ⟨a1, a2, a3, a4, a5⟩ => by obtain ⟨z1, z2, z3⟩ := R6_.2.2 _ _ a4 a5; exact ⟨z1, by rw [z2]; exact toNat_ofNat (by omega), rfl, z3⟩), fun q => (R6_.2.1 q).1⟩
  ·rintro ⟨s_, b_, ps, V_, S_, i⟩ h11 ⟨M12, ⟨hO, hlen, hi1, hsl, hF, hI, hB⟩⟩
   subst eL10
   refine WC.env [(0, _), (1, _), (17, _), (18, _)] rfl ?_
   obtain ⟨P_, rfl⟩ := hO.shape
   refine G (J (WS.lssN (a := i) (b := (min ((m6_).toNat) 4)) rfl rfl rfl (fun e19 => ?_) (fun e19 => ?_)))
   ·
    refine F [(0, _), (1, _), (17, _), (18, _), (19, _)] rfl ?_
    refine G (WC.condT rfl (WC.skip (G (WC.block (G (J (C rfl rfl (C rfl rfl (F [(0, _), (1, _), (5, _), (17, _), (18, _)] rfl ?_)))))))))
    refine G (G (J (C rfl rfl (C rfl rfl (C rfl rfl (C rfl rfl (C rfl (op_ld (M12.at 2 rfl) rfl rfl) (C rfl (op_lenVO hO rfl) ?_))))))))
    refine WS.eqlN (a := i) (b := (ps).length) rfl rfl rfl (fun e27 => ?_) (fun e27 => ?_)
    ·
     refine F [(0, _), (1, _), (5, _), (17, _), (18, _), (27, _)] rfl ?_
     refine WC.condT rfl (J (C rfl rfl (C rfl rfl (C rfl rfl (C rfl rfl (C rfl (op_ld (M12.at 2 rfl) rfl rfl) (WS.opV (.agg #[(.int .u8 (0 : Int)), (.string (bs ([]))), (.string (bs ([])))]) rfl rfl rfl ?_)))))))
     refine WS.bsl M12 [_, _, _] rfl rfl rfl rfl ?_
     intro p13 h14 M15
     refine WS.app (l := ps) (m := [(⟨0, [], []⟩ : Part)]) (hO) (M15.focus 1 rfl) (Row.Src.one (K := KPart) (m := [(⟨0, [], []⟩ : Part)]) (M15.at 0 rfl)) rfl (by simp only [U, AQ]; omega) (by simp only [U, AQ]; omega) rfl rfl rfl ?_
     intro V16 S17 h18 O19 M20
     obtain ⟨P21, rfl⟩ := Row.Own.shape O19
     refine C rfl rfl (C rfl rfl ?_)
     refine WS.st1 (M20.focus 3 rfl) [_] [_, _, _, _, _, _, _, _, _, _, _, _] rfl rfl rfl rfl rfl (D rfl) (D rfl) rfl rfl ?_
     intro h22 M23
     replace M23 : Mem _ _ ([(p, _)] :: S17 :: [(p13, _)] :: [(r, _)] :: [(p1, _)] :: L) _ := M23
     refine F [(0, _), (1, _), (5, _), (17, _), (18, _)] rfl ?_
     refine G (J (C rfl rfl (C rfl rfl (C rfl rfl (C rfl (op_ld (M23.at 0 rfl) rfl rfl) (C rfl rfl ?_))))))
     obtain ⟨pp, hV_, rfl⟩ := own_block O19 (by simp)
     cases hV_
     have hy43 : ((ps ++ [(⟨0, [], []⟩ : Part)]))[i]? = some (⟨0, [], []⟩ : Part) := by rw [← hlen]; simp
     refine C rfl (op_iaV2 i rfl rfl (by simp only [AX, U, AQ]; omega)) (C rfl rfl (F [(0, _), (1, _), (6, _), (17, _), (18, _)] rfl ?_))
     refine G (WC.draw M23 [] rfl ?_)
     intro rb24 h25 M26
     refine C rfl rfl (C rfl rfl (C rfl rfl (C rfl rfl (C rfl rfl (C rfl rfl (C rfl rfl ?_))))))
     refine WS.call rfl rfl rfl (r_byte_ran (s := s_) (b := b_) (k := 0 + i * 3 + 0) (old := ((⟨0, [], []⟩ : Part).op)) ((M26.focus 1 rfl).focus 3 rfl) (flat_at0 hy43 rfl) (by omega)) ?_
     rintro _ h27 ⟨s27_, b27_, m27_, rfl, M28, R27_⟩
     have R27_l := R27_.1
     rw [show (KPart.flat (ps ++ [(⟨0, [], []⟩ : Part)])).set (0 + i * 3 + 0) (.int .u8 (((m27_).toNat : Nat) : Int)) = KPart.flat ((ps ++ [(⟨0, [], []⟩ : Part)]).set i (⟨m27_, [], []⟩ : Part)) from flat_set0 (K := KPart) (k := 0) hy43 (by decide) rfl] at M28
     have hyh27 : ((ps ++ [(⟨0, [], []⟩ : Part)]).set i (⟨m27_, [], []⟩ : Part))[i]? = some (⟨m27_, [], []⟩ : Part) := List.getElem?_set_self (List.getElem?_eq_some_iff.1 hy43).1
     replace M28 : Mem _ _ ([(r, _)] :: [(pp, _)] :: [(p, _)] :: [(p13, _)] :: [(p1, _)] :: L) _ := M28
     refine F [(0, _), (1, _), (6, _), (17, _), (18, _)] rfl ?_
     refine G (WC.draw M28.bare [] rfl ?_)
     intro rb29 h30 M31
     refine C rfl rfl (C rfl rfl (C rfl rfl (C rfl rfl (C rfl rfl (C rfl rfl (C rfl rfl ?_))))))
     refine WS.call rfl rfl rfl (r_text_ran (s := s27_) (b := b27_) (k := 0 + i * 3 + 1) ((M31.focus 1 rfl).focus 1 rfl) (flat_at0 hyh27 rfl) (by omega) rfl) ?_
     rintro _ h32 ⟨s32_, b32_, m32_, rfl, M33, R32_⟩
     have R32_l := R32_.1
     have R32_t := R32_.2.1
     rw [show (KPart.flat ((ps ++ [(⟨0, [], []⟩ : Part)]).set i (⟨m27_, [], []⟩ : Part))).set (0 + i * 3 + 1) (.string (bs m32_)) = KPart.flat (((ps ++ [(⟨0, [], []⟩ : Part)]).set i (⟨m27_, [], []⟩ : Part)).set i (⟨m27_, m32_, []⟩ : Part)) from flat_set0 (K := KPart) (k := 1) hyh27 (by decide) rfl] at M33
     have hyh32 : (((ps ++ [(⟨0, [], []⟩ : Part)]).set i (⟨m27_, [], []⟩ : Part)).set i (⟨m27_, m32_, []⟩ : Part))[i]? = some (⟨m27_, m32_, []⟩ : Part) := List.getElem?_set_self (List.getElem?_eq_some_iff.1 hyh27).1
     replace M33 : Mem _ _ ([(r, _)] :: [(pp, _)] :: [(p, _)] :: [(p13, _)] :: [(p1, _)] :: L) _ := M33
     refine F [(0, _), (1, _), (6, _), (17, _), (18, _)] rfl ?_
     refine G (J (C rfl rfl (C rfl rfl (C rfl rfl (C rfl (op_ldH rfl (Row.ld (K := KPart) (k := 0) (M33.bare.at 1 rfl) hyh32 rfl)) ?_)))))
     refine WS.eqlN (a := ((⟨m27_, m32_, []⟩ : Part).op).toNat) (b := 2) rfl rfl rfl (fun e64 => ?_) (fun e64 => ?_)
     ·
      refine F [(0, _), (1, _), (6, _), (17, _), (18, _), (64, _)] rfl ?_
      refine WC.condT rfl (WC.draw M33.bare [] rfl ?_)
      intro rb34 h35 M36
      refine C rfl rfl (C rfl rfl (C rfl rfl (C rfl rfl (C rfl rfl (C rfl rfl (C rfl rfl ?_))))))
      refine WS.call rfl rfl rfl (r_text_ran (s := s32_) (b := b32_) (k := 0 + i * 3 + 2) ((M36.focus 1 rfl).focus 1 rfl) (flat_at0 hyh32 rfl) (by omega) rfl) ?_
      rintro _ h37 ⟨s37_, b37_, m37_, rfl, M38, R37_⟩
      have R37_l := R37_.1
      have R37_t := R37_.2.1
      rw [show (KPart.flat (((ps ++ [(⟨0, [], []⟩ : Part)]).set i (⟨m27_, [], []⟩ : Part)).set i (⟨m27_, m32_, []⟩ : Part))).set (0 + i * 3 + 2) (.string (bs m37_)) = KPart.flat ((((ps ++ [(⟨0, [], []⟩ : Part)]).set i (⟨m27_, [], []⟩ : Part)).set i (⟨m27_, m32_, []⟩ : Part)).set i (⟨m27_, m32_, m37_⟩ : Part)) from flat_set0 (K := KPart) (k := 2) hyh32 (by decide) rfl] at M38
      have hyh37 : ((((ps ++ [(⟨0, [], []⟩ : Part)]).set i (⟨m27_, [], []⟩ : Part)).set i (⟨m27_, m32_, []⟩ : Part)).set i (⟨m27_, m32_, m37_⟩ : Part))[i]? = some (⟨m27_, m32_, m37_⟩ : Part) := List.getElem?_set_self (List.getElem?_eq_some_iff.1 hyh32).1
      replace M38 : Mem _ _ ([(r, _)] :: [(pp, _)] :: [(p, _)] :: [(p13, _)] :: [(p1, _)] :: L) _ := M38
      refine F [(0, _), (1, _), (17, _), (18, _)] rfl ?_
      refine J (WS.opV (.int .i64 (((i + 1) : Nat) : Int)) rfl rfl (add_i64 (a := i) (b := 1) (by omega)) (C rfl rfl (F [(0, _), (1, _), (17, _), (18, _)] rfl ?_)))
      refine ⟨(s37_, b37_, ((((ps ++ [(⟨0, [], []⟩ : Part)]).set i (⟨m27_, [], []⟩ : Part)).set i (⟨m27_, m32_, []⟩ : Part)).set i (⟨m27_, m32_, m37_⟩ : Part)), (.slice (some ⟨pp, 0, none⟩) ((ps ++ [(⟨0, [], []⟩ : Part)])).length (2 * ((ps ++ [(⟨0, [], []⟩ : Part)])).length)), [(pp, ⟨KPart.flat ((((ps ++ [(⟨0, [], []⟩ : Part)]).set i (⟨m27_, [], []⟩ : Part)).set i (⟨m27_, m32_, []⟩ : Part)).set i (⟨m27_, m32_, m37_⟩ : Part)), 3, false⟩)], i + 1), rfl, ⟨((((((M38.bare.focus 3 rfl).drop).focus 3 rfl).focus 3 rfl).focus 2 rfl).focus 3 rfl), ?_⟩, ?_⟩
      · exact ⟨(by have q_ := Row.Own.row (K := KPart) pp ((((ps ++ [(⟨0, [], []⟩ : Part)]).set i (⟨m27_, [], []⟩ : Part)).set i (⟨m27_, m32_, []⟩ : Part)).set i (⟨m27_, m32_, m37_⟩ : Part)) (by intro q; have := congrArg List.length q; simp at this); rw [show (((((ps ++ [(⟨0, [], []⟩ : Part)]).set i (⟨m27_, [], []⟩ : Part)).set i (⟨m27_, m32_, []⟩ : Part)).set i (⟨m27_, m32_, m37_⟩ : Part))).length = ((ps ++ [(⟨0, [], []⟩ : Part)])).length by simp] at q_; exact q_), by simp [hlen], by omega, by omega, (by (repeat' (first | exact FitP_app hF | refine FitP_set ?_ ⟨by dsimp only; first | omega | simp, by dsimp only; first | omega | simp⟩))), (fun qs t hA => by obtain ⟨u1, u2, u3, u4⟩ := hI qs t hA; have h4 := hA.1; obtain ⟨y, hy⟩ : ∃ y, qs[i]? = some y := ⟨_, List.getElem?_eq_getElem (show i < qs.length by omega)⟩; rw [drop_flat hy] at u4; obtain ⟨y0, y1, y2⟩ := R27_.2.2 y.op ((sb y.ky ++ (if y.op.toNat = 2 then sb y.va else [])) ++ ((qs.drop (i + 1)).flatMap partB ++ t)) u1 (by rw [u4]; simp [partB]); obtain ⟨v1, v2, v3⟩ := R32_.2.2.2 y.ky ((if y.op.toNat = 2 then sb y.va else []) ++ ((qs.drop (i + 1)).flatMap partB ++ t)) (by have := (hA.2.1 _ (mem_get hy)).1; omega) y0 (by rw [y2]; simp); rw [if_pos (by rw [← y1]; first | assumption | omega)] at v3; obtain ⟨x1, x2, x3⟩ := R37_.2.2.2 y.va ((qs.drop (i + 1)).flatMap partB ++ t) (by have := (hA.2.1 _ (mem_get hy)).2; omega) v1 v3; exact ⟨x1, u2, by rw [show (⟨m27_, m32_, m37_⟩ : Part) = y from by (obtain ⟨a, b, c⟩ := y; simp only at y1 v2 x2; rw [y1, v2, x2])]; simp only [List.set_set]; rw [set_end hlen, u3, List.take_add_one, hy]; rfl, x3⟩), fun q => hB (R27_.2.1 (R32_.2.2.1 (R37_.2.2.1 q).1).1).1⟩
      · simp only []; omega
     ·
      refine F [(0, _), (1, _), (6, _), (17, _), (18, _), (64, _)] rfl ?_
      refine WC.condF rfl (WC.skip (J (WS.opV (.int .i64 (((i + 1) : Nat) : Int)) rfl rfl (add_i64 (a := i) (b := 1) (by omega)) (C rfl rfl (F [(0, _), (1, _), (17, _), (18, _)] rfl ?_)))))
      refine ⟨(s32_, b32_, (((ps ++ [(⟨0, [], []⟩ : Part)]).set i (⟨m27_, [], []⟩ : Part)).set i (⟨m27_, m32_, []⟩ : Part)), (.slice (some ⟨pp, 0, none⟩) ((ps ++ [(⟨0, [], []⟩ : Part)])).length (2 * ((ps ++ [(⟨0, [], []⟩ : Part)])).length)), [(pp, ⟨KPart.flat (((ps ++ [(⟨0, [], []⟩ : Part)]).set i (⟨m27_, [], []⟩ : Part)).set i (⟨m27_, m32_, []⟩ : Part)), 3, false⟩)], i + 1), rfl, ⟨((((((M33.bare.focus 3 rfl).drop).focus 3 rfl).focus 3 rfl).focus 2 rfl).focus 3 rfl), ?_⟩, ?_⟩
      · exact ⟨(by have q_ := Row.Own.row (K := KPart) pp (((ps ++ [(⟨0, [], []⟩ : Part)]).set i (⟨m27_, [], []⟩ : Part)).set i (⟨m27_, m32_, []⟩ : Part)) (by intro q; have := congrArg List.length q; simp at this); rw [show ((((ps ++ [(⟨0, [], []⟩ : Part)]).set i (⟨m27_, [], []⟩ : Part)).set i (⟨m27_, m32_, []⟩ : Part))).length = ((ps ++ [(⟨0, [], []⟩ : Part)])).length by simp] at q_; exact q_), by simp [hlen], by omega, by omega, (by (repeat' (first | exact FitP_app hF | refine FitP_set ?_ ⟨by dsimp only; first | omega | simp, by dsimp only; first | omega | simp⟩))), (fun qs t hA => by obtain ⟨u1, u2, u3, u4⟩ := hI qs t hA; have h4 := hA.1; obtain ⟨y, hy⟩ : ∃ y, qs[i]? = some y := ⟨_, List.getElem?_eq_getElem (show i < qs.length by omega)⟩; rw [drop_flat hy] at u4; obtain ⟨y0, y1, y2⟩ := R27_.2.2 y.op ((sb y.ky ++ (if y.op.toNat = 2 then sb y.va else [])) ++ ((qs.drop (i + 1)).flatMap partB ++ t)) u1 (by rw [u4]; simp [partB]); obtain ⟨v1, v2, v3⟩ := R32_.2.2.2 y.ky ((if y.op.toNat = 2 then sb y.va else []) ++ ((qs.drop (i + 1)).flatMap partB ++ t)) (by have := (hA.2.1 _ (mem_get hy)).1; omega) y0 (by rw [y2]; simp); rw [if_neg (by rw [← y1]; first | assumption | omega), List.nil_append] at v3; have hva := hA.2.2.1 y (mem_get hy) (by rw [← y1]; assumption); exact ⟨v1, u2, by rw [show (⟨m27_, m32_, []⟩ : Part) = y from by (obtain ⟨a, b, c⟩ := y; simp only at hva y1 v2; rw [y1, v2, hva])]; simp only [List.set_set]; rw [set_end hlen, u3, List.take_add_one, hy]; rfl, v3⟩), fun q => hB (R27_.2.1 (R32_.2.2.1 q).1).1⟩
      · simp only []; omega
    ·
     exact absurd hlen.symm e27
   ·
    refine F [(0, _), (1, _), (17, _), (18, _), (19, _)] rfl ?_
    refine G (WC.condF rfl (WC.exit ?_))
    refine ⟨[], res_nil, ?_⟩
    exact ⟨_, _, _, _, _, rfl, hO, by omega, hF, fun qs t hA => by obtain ⟨z1, z2, z3, z4⟩ := hI qs t hA; have := hA.1; exact ⟨z1, by rw [z3, List.take_of_length_le (by omega)], by rw [z4, List.drop_eq_nil_of_le (by omega)]; rfl⟩, hB, (M12.focus 3 rfl).drop⟩
end Go.Proofs.Yteikngjiaboeaaa.Wt
namespace Go.Proofs.Yteikngjiaboeaaa.Wt
open Go Go.Proofs.Yteikngjiaboeaaa.Am Go.Proofs.Yteikngjiaboeaaa.IrAll
open Go.Proofs.Yteikngjiaboeaaa.Am.WS renaming op → C
open Nat renaming le_of_ble_eq_true → D
open Go.Proofs.Yteikngjiaboeaaa.Am.WS renaming nil → F
open Go.Proofs.Yteikngjiaboeaaa.Am.WC renaming seq → G
open Go.Proofs.Yteikngjiaboeaaa.Am.WS renaming call → J
open Go.Proofs.Yteikngjiaboeaaa.Am.WC renaming run → U
set_option linter.unusedVariables false
set_option linter.unusedSimpArgs false
variable {h base : H} {L : List Seg} {R : List Nat}
set_option maxRecDepth 8000 in
theorem walkR_ran {r p : Nat} {s : List UInt8} (M : Mem base h ([(r, ⟨[.string (bs s), .bool false], 0, false⟩)] :: [(p, ⟨[.int .u8 0, .int .u64 0, .int .u64 0, .string (bs []), .string (bs []), .string (bs []), .string (bs []), .string (bs []), .int .u8 0, .int .u64 0, .int .u64 0, .slice none 0 0], 0, false⟩)] :: L) []) (hl : s.length ≤ 300000) :
    Cll tab0 52 [.iface 98 (.pointer (some ⟨r, 0, none⟩)), .pointer (some ⟨p, 0, none⟩)] h (fun v h2 => ∃ c V S s' b', v = .tuple #[] ∧ KPart.Own V (Cmd.ps c) S ∧ Fit c ∧ (∀ c0, MayC c0 → Fit c0 → s = encC c0 → b' = false ∧ c = c0 ∧ s' = []) ∧ (b' = false → s ≠ []) ∧ Mem base h2 (S :: [(r, ⟨[.string (bs s'), .bool b'], 0, false⟩)] :: [(p, ⟨c.cells V, 0, false⟩)] :: L) []) := by
  refine Cll.code rfl rfl ?_
  refine WC.env [(0, _), (1, _)] rfl ?_
  refine G (WC.draw M [] rfl ?_)
  intro rb1 h2 M3
  refine C rfl rfl (C rfl rfl (C rfl rfl (C rfl rfl (C rfl rfl (C rfl rfl (C rfl rfl ?_))))))
  refine J rfl rfl rfl (r_byte_ran (s := s) (b := false) (k := 0) (old := 0) ((M3.focus 1 rfl).focus 1 rfl) rfl (by omega)) ?_
  rintro _ h4 ⟨s4_, b4_, m4_, rfl, M5, R4_⟩
  have R4_l := R4_.1
  replace M5 : Mem _ _ ([(r, _)] :: [(p, _)] :: L) _ := M5
  refine F [(0, _), (1, _)] rfl ?_
  refine G (WC.draw M5.bare [] rfl ?_)
  intro rb6 h7 M8
  refine C rfl rfl (C rfl rfl (C rfl rfl (C rfl rfl (C rfl rfl (C rfl rfl (C rfl rfl ?_))))))
  refine J rfl rfl rfl (r_number_ran (s := s4_) (b := b4_) (k := 1) (old := 0) ((M8.focus 1 rfl).focus 1 rfl) rfl (by omega)) ?_
  rintro _ h9 ⟨s9_, b9_, m9_, rfl, M10, R9_⟩
  have R9_l := R9_.1
  replace M10 : Mem _ _ ([(r, _)] :: [(p, _)] :: L) _ := M10
  refine F [(0, _), (1, _)] rfl ?_
  refine G (WC.draw M10.bare [] rfl ?_)
  intro rb11 h12 M13
  refine C rfl rfl (C rfl rfl (C rfl rfl (C rfl rfl (C rfl rfl (C rfl rfl (C rfl rfl ?_))))))
  refine J rfl rfl rfl (r_number_ran (s := s9_) (b := b9_) (k := 2) (old := 0) ((M13.focus 1 rfl).focus 1 rfl) rfl (by omega)) ?_
  rintro _ h14 ⟨s14_, b14_, m14_, rfl, M15, R14_⟩
  have R14_l := R14_.1
  replace M15 : Mem _ _ ([(r, _)] :: [(p, _)] :: L) _ := M15
  refine F [(0, _), (1, _)] rfl ?_
  refine G (U (C rfl rfl (C rfl rfl (C rfl rfl (C rfl (op_ld (M15.bare.at 1 rfl) rfl rfl) (F [(0, _), (1, _), (31, _)] rfl ?_))))))
  refine WC.block (G (G (U (WS.eqlN (a := (m4_).toNat) (b := 1) rfl rfl rfl (fun e33 => ?_) (fun e33 => ?_)))))
  ·
   refine C rfl rfl (F [(0, _), (1, _), (31, _), (32, _)] rfl ?_)
   refine WC.condT rfl (WC.skip (WC.condT rfl (WC.draw M15.bare [] rfl ?_)))
   intro rb16 h17 M18
   refine C rfl rfl (C rfl rfl (C rfl rfl (C rfl rfl (C rfl rfl (C rfl rfl (C rfl rfl ?_))))))
   refine J rfl rfl rfl (r_number_ran (s := s14_) (b := b14_) (k := 10) (old := 0) ((M18.focus 1 rfl).focus 1 rfl) rfl (by omega)) ?_
   rintro _ h19 ⟨s19_, b19_, m19_, rfl, M20, R19_⟩
   have R19_l := R19_.1
   replace M20 : Mem _ _ ([(r, _)] :: [(p, _)] :: L) _ := M20
   refine F [] rfl ?_
   refine ⟨[], res_nil, ?_⟩
   refine ⟨(⟨m4_, m9_, m14_, ([]), ([]), ([]), ([]), ([]), 0, 0, m19_, []⟩ : Cmd), _, _, _, _, rfl, .nil, ?_, ?_, ?_, ((M20.bare)).nils⟩
   · unfold Fit; dsimp only; exact ⟨by first | omega | simp, by first | omega | simp, by first | omega | simp, by first | omega | simp, by first | omega | simp, by simp, by intro p hp; cases hp⟩
   · intro c0 hm hf0 he
     obtain ⟨a1, a2, a3⟩ := R4_.2.2 c0.op (vb c0.se.toNat ++ (vb c0.sq.toNat ++ bodyB c0)) rfl (by rw [he]; simp [encC, headB])
     obtain ⟨b1, b2, b3⟩ := R9_.2.2 c0.se.toNat _ c0.se.toNat_lt a1 a3
     obtain ⟨d1, d2, d3⟩ := R14_.2.2 c0.sq.toNat _ c0.sq.toNat_lt b1 b3
     obtain ⟨g1, g2, g3, g4, g5, g6, g7⟩ := hf0
     obtain ⟨p1, p2⟩ := enc_1 (c := c0) (by rw [← a2]; omega)
     rw [p2] at d3
     obtain ⟨z0a, z0b, z0c⟩ := R19_.2.2 c0.tt.toNat ([]) (UInt64.toNat_lt _) d1 (by first | (rw [d3]; done) | (rw [d3]; simp))
     exact ⟨z0a, by rw [hm.2.1, p1]; simp only [blank]; rw [a2, u64_inj b2, u64_inj d2, u64_inj z0b], z0c⟩
   · intro q w; have z := (R4_.2.1 (R9_.2.1 (R14_.2.1 (R19_.2.1 q).1).1).1); rw [w] at z; exact absurd z.2 (by simp)
  ·
   refine C rfl rfl (F [(0, _), (1, _), (31, _), (32, _)] rfl ?_)
   refine WC.condF rfl (U (WS.eqlN (a := (m4_).toNat) (b := 6) rfl rfl rfl (fun e34 => ?_) (fun e34 => ?_)))
   ·
    refine C rfl rfl (F [(0, _), (1, _), (31, _), (32, _)] rfl ?_)
    refine WC.condT rfl (WC.draw M15.bare [] rfl ?_)
    intro rb21 h22 M23
    refine C rfl rfl (C rfl rfl (C rfl rfl (C rfl rfl (C rfl rfl (C rfl rfl (C rfl rfl ?_))))))
    refine J rfl rfl rfl (r_number_ran (s := s14_) (b := b14_) (k := 10) (old := 0) ((M23.focus 1 rfl).focus 1 rfl) rfl (by omega)) ?_
    rintro _ h24 ⟨s24_, b24_, m24_, rfl, M25, R24_⟩
    have R24_l := R24_.1
    replace M25 : Mem _ _ ([(r, _)] :: [(p, _)] :: L) _ := M25
    refine F [] rfl ?_
    refine ⟨[], res_nil, ?_⟩
    refine ⟨(⟨m4_, m9_, m14_, ([]), ([]), ([]), ([]), ([]), 0, 0, m24_, []⟩ : Cmd), _, _, _, _, rfl, .nil, ?_, ?_, ?_, ((M25.bare)).nils⟩
    · unfold Fit; dsimp only; exact ⟨by first | omega | simp, by first | omega | simp, by first | omega | simp, by first | omega | simp, by first | omega | simp, by simp, by intro p hp; cases hp⟩
    · intro c0 hm hf0 he
      obtain ⟨a1, a2, a3⟩ := R4_.2.2 c0.op (vb c0.se.toNat ++ (vb c0.sq.toNat ++ bodyB c0)) rfl (by rw [he]; simp [encC, headB])
      obtain ⟨b1, b2, b3⟩ := R9_.2.2 c0.se.toNat _ c0.se.toNat_lt a1 a3
      obtain ⟨d1, d2, d3⟩ := R14_.2.2 c0.sq.toNat _ c0.sq.toNat_lt b1 b3
      obtain ⟨g1, g2, g3, g4, g5, g6, g7⟩ := hf0
      obtain ⟨p1, p2⟩ := enc_1 (c := c0) (by rw [← a2]; omega)
      rw [p2] at d3
      obtain ⟨z0a, z0b, z0c⟩ := R24_.2.2 c0.tt.toNat ([]) (UInt64.toNat_lt _) d1 (by first | (rw [d3]; done) | (rw [d3]; simp))
      exact ⟨z0a, by rw [hm.2.1, p1]; simp only [blank]; rw [a2, u64_inj b2, u64_inj d2, u64_inj z0b], z0c⟩
    · intro q w; have z := (R4_.2.1 (R9_.2.1 (R14_.2.1 (R24_.2.1 q).1).1).1); rw [w] at z; exact absurd z.2 (by simp)
   ·
    refine C rfl rfl (F [(0, _), (1, _), (31, _), (32, _)] rfl ?_)
    refine WC.condF rfl (G (U (WS.eqlN (a := (m4_).toNat) (b := 2) rfl rfl rfl (fun e44 => ?_) (fun e44 => ?_))))
    ·
     refine C rfl rfl (F [(0, _), (1, _), (31, _), (43, _)] rfl ?_)
     refine WC.condT rfl (G (WC.draw M15.bare [] rfl ?_))
     intro rb26 h27 M28
     refine C rfl rfl (C rfl rfl (C rfl rfl (C rfl rfl (C rfl rfl (C rfl rfl (C rfl rfl ?_))))))
     refine J rfl rfl rfl (r_text_ran (s := s14_) (b := b14_) (k := 3) ((M28.focus 1 rfl).focus 1 rfl) rfl (by omega) rfl) ?_
     rintro _ h29 ⟨s29_, b29_, m29_, rfl, M30, R29_⟩
     have R29_l := R29_.1
     have R29_t := R29_.2.1
     replace M30 : Mem _ _ ([(r, _)] :: [(p, _)] :: L) _ := M30
     refine F [(0, _), (1, _)] rfl ?_
     refine G (WC.draw M30.bare [] rfl ?_)
     intro rb31 h32 M33
     refine C rfl rfl (C rfl rfl (C rfl rfl (C rfl rfl (C rfl rfl (C rfl rfl (C rfl rfl ?_))))))
     refine J rfl rfl rfl (r_text_ran (s := s29_) (b := b29_) (k := 4) ((M33.focus 1 rfl).focus 1 rfl) rfl (by omega) rfl) ?_
     rintro _ h34 ⟨s34_, b34_, m34_, rfl, M35, R34_⟩
     have R34_l := R34_.1
     have R34_t := R34_.2.1
     replace M35 : Mem _ _ ([(r, _)] :: [(p, _)] :: L) _ := M35
     refine F [(0, _), (1, _)] rfl ?_
     refine WC.draw M35.bare [] rfl ?_
     intro rb36 h37 M38
     refine C rfl rfl (C rfl rfl (C rfl rfl (C rfl rfl (C rfl rfl (C rfl rfl (C rfl rfl ?_))))))
     refine J rfl rfl rfl (r_number_ran (s := s34_) (b := b34_) (k := 9) (old := 0) ((M38.focus 1 rfl).focus 1 rfl) rfl (by omega)) ?_
     rintro _ h39 ⟨s39_, b39_, m39_, rfl, M40, R39_⟩
     have R39_l := R39_.1
     replace M40 : Mem _ _ ([(r, _)] :: [(p, _)] :: L) _ := M40
     refine F [] rfl ?_
     refine ⟨[], res_nil, ?_⟩
     refine ⟨(⟨m4_, m9_, m14_, m29_, m34_, ([]), ([]), ([]), 0, m39_, 0, []⟩ : Cmd), _, _, _, _, rfl, .nil, ?_, ?_, ?_, ((M40.bare)).nils⟩
     · unfold Fit; dsimp only; exact ⟨by first | omega | simp, by first | omega | simp, by first | omega | simp, by first | omega | simp, by first | omega | simp, by simp, by intro p hp; cases hp⟩
     · intro c0 hm hf0 he
       obtain ⟨a1, a2, a3⟩ := R4_.2.2 c0.op (vb c0.se.toNat ++ (vb c0.sq.toNat ++ bodyB c0)) rfl (by rw [he]; simp [encC, headB])
       obtain ⟨b1, b2, b3⟩ := R9_.2.2 c0.se.toNat _ c0.se.toNat_lt a1 a3
       obtain ⟨d1, d2, d3⟩ := R14_.2.2 c0.sq.toNat _ c0.sq.toNat_lt b1 b3
       obtain ⟨g1, g2, g3, g4, g5, g6, g7⟩ := hf0
       obtain ⟨p1, p2⟩ := enc_2 (c := c0) (by rw [← a2]; omega)
       rw [p2] at d3
       obtain ⟨z0a, z0b, z0c⟩ := R29_.2.2.2 c0.ky (sb c0.va ++ vb c0.le.toNat) (by omega) d1 (by first | (rw [d3]; done) | (rw [d3]; simp))
       obtain ⟨z1a, z1b, z1c⟩ := R34_.2.2.2 c0.va (vb c0.le.toNat) (by omega) z0a (by first | (rw [z0c]; done) | (rw [z0c]; simp))
       obtain ⟨z2a, z2b, z2c⟩ := R39_.2.2 c0.le.toNat ([]) (UInt64.toNat_lt _) z1a (by first | (rw [z1c]; done) | (rw [z1c]; simp))
       exact ⟨z2a, by rw [hm.2.1, p1]; simp only [blank]; rw [a2, u64_inj b2, u64_inj d2, z0b, z1b, u64_inj z2b], z2c⟩
     · intro q w; have z := (R4_.2.1 (R9_.2.1 (R14_.2.1 (R29_.2.2.1 (R34_.2.2.1 (R39_.2.1 q).1).1).1).1).1); rw [w] at z; exact absurd z.2 (by simp)
    ·
     refine C rfl rfl (F [(0, _), (1, _), (31, _), (43, _)] rfl ?_)
     refine WC.condF rfl (G (G (U (WS.eqlN (a := (m4_).toNat) (b := 3) rfl rfl rfl (fun e70 => ?_) (fun e70 => ?_)))))
     ·
      refine C rfl rfl (F [(0, _), (1, _), (31, _), (69, _)] rfl ?_)
      refine WC.condT rfl (WC.skip (WC.condT rfl (WC.draw M15.bare [] rfl ?_)))
      intro rb41 h42 M43
      refine C rfl rfl (C rfl rfl (C rfl rfl (C rfl rfl (C rfl rfl (C rfl rfl (C rfl rfl ?_))))))
      refine J rfl rfl rfl (r_text_ran (s := s14_) (b := b14_) (k := 3) ((M43.focus 1 rfl).focus 1 rfl) rfl (by omega) rfl) ?_
      rintro _ h44 ⟨s44_, b44_, m44_, rfl, M45, R44_⟩
      have R44_l := R44_.1
      have R44_t := R44_.2.1
      replace M45 : Mem _ _ ([(r, _)] :: [(p, _)] :: L) _ := M45
      refine F [] rfl ?_
      refine ⟨[], res_nil, ?_⟩
      refine ⟨(⟨m4_, m9_, m14_, m44_, ([]), ([]), ([]), ([]), 0, 0, 0, []⟩ : Cmd), _, _, _, _, rfl, .nil, ?_, ?_, ?_, ((M45.bare)).nils⟩
      · unfold Fit; dsimp only; exact ⟨by first | omega | simp, by first | omega | simp, by first | omega | simp, by first | omega | simp, by first | omega | simp, by simp, by intro p hp; cases hp⟩
      · intro c0 hm hf0 he
        obtain ⟨a1, a2, a3⟩ := R4_.2.2 c0.op (vb c0.se.toNat ++ (vb c0.sq.toNat ++ bodyB c0)) rfl (by rw [he]; simp [encC, headB])
        obtain ⟨b1, b2, b3⟩ := R9_.2.2 c0.se.toNat _ c0.se.toNat_lt a1 a3
        obtain ⟨d1, d2, d3⟩ := R14_.2.2 c0.sq.toNat _ c0.sq.toNat_lt b1 b3
        obtain ⟨g1, g2, g3, g4, g5, g6, g7⟩ := hf0
        obtain ⟨p1, p2⟩ := enc_3 (c := c0) (by rw [← a2]; omega)
        rw [p2] at d3
        obtain ⟨z0a, z0b, z0c⟩ := R44_.2.2.2 c0.ky ([]) (by omega) d1 (by first | (rw [d3]; done) | (rw [d3]; simp))
        exact ⟨z0a, by rw [hm.2.1, p1]; simp only [blank]; rw [a2, u64_inj b2, u64_inj d2, z0b], z0c⟩
      · intro q w; have z := (R4_.2.1 (R9_.2.1 (R14_.2.1 (R44_.2.2.1 q).1).1).1); rw [w] at z; exact absurd z.2 (by simp)
     ·
      refine C rfl rfl (F [(0, _), (1, _), (31, _), (69, _)] rfl ?_)
      refine WC.condF rfl (U (WS.eqlN (a := (m4_).toNat) (b := 8) rfl rfl rfl (fun e71 => ?_) (fun e71 => ?_)))
      ·
       refine C rfl rfl (F [(0, _), (1, _), (31, _), (69, _)] rfl ?_)
       refine WC.condT rfl (WC.draw M15.bare [] rfl ?_)
       intro rb46 h47 M48
       refine C rfl rfl (C rfl rfl (C rfl rfl (C rfl rfl (C rfl rfl (C rfl rfl (C rfl rfl ?_))))))
       refine J rfl rfl rfl (r_text_ran (s := s14_) (b := b14_) (k := 3) ((M48.focus 1 rfl).focus 1 rfl) rfl (by omega) rfl) ?_
       rintro _ h49 ⟨s49_, b49_, m49_, rfl, M50, R49_⟩
       have R49_l := R49_.1
       have R49_t := R49_.2.1
       replace M50 : Mem _ _ ([(r, _)] :: [(p, _)] :: L) _ := M50
       refine F [] rfl ?_
       refine ⟨[], res_nil, ?_⟩
       refine ⟨(⟨m4_, m9_, m14_, m49_, ([]), ([]), ([]), ([]), 0, 0, 0, []⟩ : Cmd), _, _, _, _, rfl, .nil, ?_, ?_, ?_, ((M50.bare)).nils⟩
       · unfold Fit; dsimp only; exact ⟨by first | omega | simp, by first | omega | simp, by first | omega | simp, by first | omega | simp, by first | omega | simp, by simp, by intro p hp; cases hp⟩
       · intro c0 hm hf0 he
         obtain ⟨a1, a2, a3⟩ := R4_.2.2 c0.op (vb c0.se.toNat ++ (vb c0.sq.toNat ++ bodyB c0)) rfl (by rw [he]; simp [encC, headB])
         obtain ⟨b1, b2, b3⟩ := R9_.2.2 c0.se.toNat _ c0.se.toNat_lt a1 a3
         obtain ⟨d1, d2, d3⟩ := R14_.2.2 c0.sq.toNat _ c0.sq.toNat_lt b1 b3
         obtain ⟨g1, g2, g3, g4, g5, g6, g7⟩ := hf0
         obtain ⟨p1, p2⟩ := enc_3 (c := c0) (by rw [← a2]; omega)
         rw [p2] at d3
         obtain ⟨z0a, z0b, z0c⟩ := R49_.2.2.2 c0.ky ([]) (by omega) d1 (by first | (rw [d3]; done) | (rw [d3]; simp))
         exact ⟨z0a, by rw [hm.2.1, p1]; simp only [blank]; rw [a2, u64_inj b2, u64_inj d2, z0b], z0c⟩
       · intro q w; have z := (R4_.2.1 (R9_.2.1 (R14_.2.1 (R49_.2.2.1 q).1).1).1); rw [w] at z; exact absurd z.2 (by simp)
      ·
       refine C rfl rfl (F [(0, _), (1, _), (31, _), (69, _)] rfl ?_)
       refine WC.condF rfl (G (U (WS.eqlN (a := (m4_).toNat) (b := 4) rfl rfl rfl (fun e81 => ?_) (fun e81 => ?_))))
       ·
        refine C rfl rfl (F [(0, _), (1, _), (31, _), (80, _)] rfl ?_)
        refine WC.condT rfl (G (WC.draw M15.bare [] rfl ?_))
        intro rb51 h52 M53
        refine C rfl rfl (C rfl rfl (C rfl rfl (C rfl rfl (C rfl rfl (C rfl rfl (C rfl rfl ?_))))))
        refine J rfl rfl rfl (r_text_ran (s := s14_) (b := b14_) (k := 3) ((M53.focus 1 rfl).focus 1 rfl) rfl (by omega) rfl) ?_
        rintro _ h54 ⟨s54_, b54_, m54_, rfl, M55, R54_⟩
        have R54_l := R54_.1
        have R54_t := R54_.2.1
        replace M55 : Mem _ _ ([(r, _)] :: [(p, _)] :: L) _ := M55
        refine F [(0, _), (1, _)] rfl ?_
        refine G (WC.draw M55.bare [] rfl ?_)
        intro rb56 h57 M58
        refine C rfl rfl (C rfl rfl (C rfl rfl (C rfl rfl (C rfl rfl (C rfl rfl (C rfl rfl ?_))))))
        refine J rfl rfl rfl (r_text_ran (s := s54_) (b := b54_) (k := 5) ((M58.focus 1 rfl).focus 1 rfl) rfl (by omega) rfl) ?_
        rintro _ h59 ⟨s59_, b59_, m59_, rfl, M60, R59_⟩
        have R59_l := R59_.1
        have R59_t := R59_.2.1
        replace M60 : Mem _ _ ([(r, _)] :: [(p, _)] :: L) _ := M60
        refine F [(0, _), (1, _)] rfl ?_
        refine WC.draw M60.bare [] rfl ?_
        intro rb61 h62 M63
        refine C rfl rfl (C rfl rfl (C rfl rfl (C rfl rfl (C rfl rfl (C rfl rfl (C rfl rfl ?_))))))
        refine J rfl rfl rfl (r_text_ran (s := s59_) (b := b59_) (k := 4) ((M63.focus 1 rfl).focus 1 rfl) rfl (by omega) rfl) ?_
        rintro _ h64 ⟨s64_, b64_, m64_, rfl, M65, R64_⟩
        have R64_l := R64_.1
        have R64_t := R64_.2.1
        replace M65 : Mem _ _ ([(r, _)] :: [(p, _)] :: L) _ := M65
        refine F [] rfl ?_
        refine ⟨[], res_nil, ?_⟩
        refine ⟨(⟨m4_, m9_, m14_, m54_, m64_, m59_, ([]), ([]), 0, 0, 0, []⟩ : Cmd), _, _, _, _, rfl, .nil, ?_, ?_, ?_, ((M65.bare)).nils⟩
        · unfold Fit; dsimp only; exact ⟨by first | omega | simp, by first | omega | simp, by first | omega | simp, by first | omega | simp, by first | omega | simp, by simp, by intro p hp; cases hp⟩
        · intro c0 hm hf0 he
          obtain ⟨a1, a2, a3⟩ := R4_.2.2 c0.op (vb c0.se.toNat ++ (vb c0.sq.toNat ++ bodyB c0)) rfl (by rw [he]; simp [encC, headB])
          obtain ⟨b1, b2, b3⟩ := R9_.2.2 c0.se.toNat _ c0.se.toNat_lt a1 a3
          obtain ⟨d1, d2, d3⟩ := R14_.2.2 c0.sq.toNat _ c0.sq.toNat_lt b1 b3
          obtain ⟨g1, g2, g3, g4, g5, g6, g7⟩ := hf0
          obtain ⟨p1, p2⟩ := enc_4 (c := c0) (by rw [← a2]; omega)
          rw [p2] at d3
          obtain ⟨z0a, z0b, z0c⟩ := R54_.2.2.2 c0.ky (sb c0.ex ++ sb c0.va) (by omega) d1 (by first | (rw [d3]; done) | (rw [d3]; simp))
          obtain ⟨z1a, z1b, z1c⟩ := R59_.2.2.2 c0.ex (sb c0.va) (by omega) z0a (by first | (rw [z0c]; done) | (rw [z0c]; simp))
          obtain ⟨z2a, z2b, z2c⟩ := R64_.2.2.2 c0.va ([]) (by omega) z1a (by first | (rw [z1c]; done) | (rw [z1c]; simp))
          exact ⟨z2a, by rw [hm.2.1, p1]; simp only [blank]; rw [a2, u64_inj b2, u64_inj d2, z0b, z1b, z2b], z2c⟩
        · intro q w; have z := (R4_.2.1 (R9_.2.1 (R14_.2.1 (R54_.2.2.1 (R59_.2.2.1 (R64_.2.2.1 q).1).1).1).1).1); rw [w] at z; exact absurd z.2 (by simp)
       ·
        refine C rfl rfl (F [(0, _), (1, _), (31, _), (80, _)] rfl ?_)
        refine WC.condF rfl (G (U (WS.eqlN (a := (m4_).toNat) (b := 5) rfl rfl rfl (fun e107 => ?_) (fun e107 => ?_))))
        ·
         refine C rfl rfl (F [(0, _), (1, _), (31, _), (106, _)] rfl ?_)
         refine WC.condT rfl (U (C rfl rfl (C rfl rfl ?_)))
         refine J rfl rfl rfl (partsR_ran (s := s14_) (b := b14_) (c := (⟨m4_, m9_, m14_, ([]), ([]), ([]), ([]), ([]), 0, 0, 0, []⟩ : Cmd)) ((M15.bare.focus 1 rfl).focus 1 rfl) (by omega)) ?_
         rintro _ h66 ⟨sp, bp, V68, ps, S69, rfl, O70, hpl, hpf, hpA, hpB, M67⟩
         obtain ⟨P71, rfl⟩ := O70.shape
         replace M67 : Mem _ _ (S69 :: [(r, _)] :: [(p, _)] :: L) _ := M67
         refine F [] rfl ?_
         refine ⟨[], res_nil, ?_⟩
         refine ⟨(⟨m4_, m9_, m14_, ([]), ([]), ([]), ([]), ([]), 0, 0, 0, ps⟩ : Cmd), _, _, _, _, rfl, O70, ?_, ?_, ?_, M67⟩
         · unfold Fit; dsimp only; exact ⟨by first | omega | simp, by first | omega | simp, by first | omega | simp, by first | omega | simp, by first | omega | simp, (by omega), hpf⟩
         · intro c0 hm hf0 he
           obtain ⟨a1, a2, a3⟩ := R4_.2.2 c0.op (vb c0.se.toNat ++ (vb c0.sq.toNat ++ bodyB c0)) rfl (by rw [he]; simp [encC, headB])
           obtain ⟨b1, b2, b3⟩ := R9_.2.2 c0.se.toNat _ c0.se.toNat_lt a1 a3
           obtain ⟨d1, d2, d3⟩ := R14_.2.2 c0.sq.toNat _ c0.sq.toNat_lt b1 b3
           obtain ⟨g1, g2, g3, g4, g5, g6, g7⟩ := hf0
           obtain ⟨p1, p2⟩ := enc_5 (c := c0) (by rw [← a2]; omega)
           rw [p2] at d3
           obtain ⟨za, zb, zc⟩ := hpA c0.ps [] ⟨(hm.2.2.1 (by rw [← a2]; omega)).2, g7, fun q hq hne => by rcases hm.2.2.2 q hq with w | w; exact absurd w hne; exact w.2, d1, by first | (rw [d3]; done) | (rw [d3]; simp)⟩
           exact ⟨za, by rw [hm.2.1, p1]; simp only [blank]; rw [a2, u64_inj b2, u64_inj d2, zb], zc⟩
         · intro q w; have z := (R4_.2.1 (R9_.2.1 (R14_.2.1 (hpB q)).1).1); rw [w] at z; exact absurd z.2 (by simp)
        ·
         refine C rfl rfl (F [(0, _), (1, _), (31, _), (106, _)] rfl ?_)
         refine WC.condF rfl (G (U (WS.eqlN (a := (m4_).toNat) (b := 7) rfl rfl rfl (fun e112 => ?_) (fun e112 => ?_))))
         ·
          refine C rfl rfl (F [(0, _), (1, _), (31, _), (111, _)] rfl ?_)
          refine WC.condT rfl (WC.draw M15.bare [] rfl ?_)
          intro rb72 h73 M74
          refine C rfl rfl (C rfl rfl (C rfl rfl (C rfl rfl (C rfl rfl (C rfl rfl (C rfl rfl ?_))))))
          refine J rfl rfl rfl (r_number_ran (s := s14_) (b := b14_) (k := 9) (old := 0) ((M74.focus 1 rfl).focus 1 rfl) rfl (by omega)) ?_
          rintro _ h75 ⟨s75_, b75_, m75_, rfl, M76, R75_⟩
          have R75_l := R75_.1
          replace M76 : Mem _ _ ([(r, _)] :: [(p, _)] :: L) _ := M76
          refine F [] rfl ?_
          refine ⟨[], res_nil, ?_⟩
          refine ⟨(⟨m4_, m9_, m14_, ([]), ([]), ([]), ([]), ([]), 0, m75_, 0, []⟩ : Cmd), _, _, _, _, rfl, .nil, ?_, ?_, ?_, ((M76.bare)).nils⟩
          · unfold Fit; dsimp only; exact ⟨by first | omega | simp, by first | omega | simp, by first | omega | simp, by first | omega | simp, by first | omega | simp, by simp, by intro p hp; cases hp⟩
          · intro c0 hm hf0 he
            obtain ⟨a1, a2, a3⟩ := R4_.2.2 c0.op (vb c0.se.toNat ++ (vb c0.sq.toNat ++ bodyB c0)) rfl (by rw [he]; simp [encC, headB])
            obtain ⟨b1, b2, b3⟩ := R9_.2.2 c0.se.toNat _ c0.se.toNat_lt a1 a3
            obtain ⟨d1, d2, d3⟩ := R14_.2.2 c0.sq.toNat _ c0.sq.toNat_lt b1 b3
            obtain ⟨g1, g2, g3, g4, g5, g6, g7⟩ := hf0
            obtain ⟨p1, p2⟩ := enc_7 (c := c0) (by rw [← a2]; omega)
            rw [p2] at d3
            obtain ⟨z0a, z0b, z0c⟩ := R75_.2.2 c0.le.toNat ([]) (UInt64.toNat_lt _) d1 (by first | (rw [d3]; done) | (rw [d3]; simp))
            exact ⟨z0a, by rw [hm.2.1, p1]; simp only [blank]; rw [a2, u64_inj b2, u64_inj d2, u64_inj z0b], z0c⟩
          · intro q w; have z := (R4_.2.1 (R9_.2.1 (R14_.2.1 (R75_.2.1 q).1).1).1); rw [w] at z; exact absurd z.2 (by simp)
         ·
          refine C rfl rfl (F [(0, _), (1, _), (31, _), (111, _)] rfl ?_)
          refine WC.condF rfl (G (U (WS.eqlN (a := (m4_).toNat) (b := 9) rfl rfl rfl (fun e122 => ?_) (fun e122 => ?_))))
          ·
           refine C rfl rfl (F [(0, _), (1, _), (121, _)] rfl ?_)
           refine WC.condT rfl (G (WC.draw M15.bare [] rfl ?_))
           intro rb77 h78 M79
           refine C rfl rfl (C rfl rfl (C rfl rfl (C rfl rfl (C rfl rfl (C rfl rfl (C rfl rfl ?_))))))
           refine J rfl rfl rfl (r_text_ran (s := s14_) (b := b14_) (k := 6) ((M79.focus 1 rfl).focus 1 rfl) rfl (by omega) rfl) ?_
           rintro _ h80 ⟨s80_, b80_, m80_, rfl, M81, R80_⟩
           have R80_l := R80_.1
           have R80_t := R80_.2.1
           replace M81 : Mem _ _ ([(r, _)] :: [(p, _)] :: L) _ := M81
           refine F [(0, _), (1, _)] rfl ?_
           refine G (WC.draw M81.bare [] rfl ?_)
           intro rb82 h83 M84
           refine C rfl rfl (C rfl rfl (C rfl rfl (C rfl rfl (C rfl rfl (C rfl rfl (C rfl rfl ?_))))))
           refine J rfl rfl rfl (r_text_ran (s := s80_) (b := b80_) (k := 7) ((M84.focus 1 rfl).focus 1 rfl) rfl (by omega) rfl) ?_
           rintro _ h85 ⟨s85_, b85_, m85_, rfl, M86, R85_⟩
           have R85_l := R85_.1
           have R85_t := R85_.2.1
           replace M86 : Mem _ _ ([(r, _)] :: [(p, _)] :: L) _ := M86
           refine F [(0, _), (1, _)] rfl ?_
           refine WC.draw M86.bare [] rfl ?_
           intro rb87 h88 M89
           refine C rfl rfl (C rfl rfl (C rfl rfl (C rfl rfl (C rfl rfl (C rfl rfl (C rfl rfl ?_))))))
           refine J rfl rfl rfl (r_byte_ran (s := s85_) (b := b85_) (k := 8) (old := 0) ((M89.focus 1 rfl).focus 1 rfl) rfl (by omega)) ?_
           rintro _ h90 ⟨s90_, b90_, m90_, rfl, M91, R90_⟩
           have R90_l := R90_.1
           replace M91 : Mem _ _ ([(r, _)] :: [(p, _)] :: L) _ := M91
           refine F [] rfl ?_
           refine ⟨[], res_nil, ?_⟩
           refine ⟨(⟨m4_, m9_, m14_, ([]), ([]), ([]), m80_, m85_, m90_, 0, 0, []⟩ : Cmd), _, _, _, _, rfl, .nil, ?_, ?_, ?_, ((M91.bare)).nils⟩
           · unfold Fit; dsimp only; exact ⟨by first | omega | simp, by first | omega | simp, by first | omega | simp, by first | omega | simp, by first | omega | simp, by simp, by intro p hp; cases hp⟩
           · intro c0 hm hf0 he
             obtain ⟨a1, a2, a3⟩ := R4_.2.2 c0.op (vb c0.se.toNat ++ (vb c0.sq.toNat ++ bodyB c0)) rfl (by rw [he]; simp [encC, headB])
             obtain ⟨b1, b2, b3⟩ := R9_.2.2 c0.se.toNat _ c0.se.toNat_lt a1 a3
             obtain ⟨d1, d2, d3⟩ := R14_.2.2 c0.sq.toNat _ c0.sq.toNat_lt b1 b3
             obtain ⟨g1, g2, g3, g4, g5, g6, g7⟩ := hf0
             obtain ⟨p1, p2⟩ := enc_9 (c := c0) (by rw [← a2]; omega)
             rw [p2] at d3
             obtain ⟨z0a, z0b, z0c⟩ := R80_.2.2.2 c0.fr (sb c0.to ++ [c0.li]) (by omega) d1 (by first | (rw [d3]; done) | (rw [d3]; simp))
             obtain ⟨z1a, z1b, z1c⟩ := R85_.2.2.2 c0.to ([c0.li]) (by omega) z0a (by first | (rw [z0c]; done) | (rw [z0c]; simp))
             obtain ⟨z2a, z2b, z2c⟩ := R90_.2.2 c0.li ([]) z1a (by first | (rw [z1c]; done) | (rw [z1c]; simp))
             exact ⟨z2a, by rw [hm.2.1, p1]; simp only [blank]; rw [a2, u64_inj b2, u64_inj d2, z0b, z1b, z2b], z2c⟩
           · intro q w; have z := (R4_.2.1 (R9_.2.1 (R14_.2.1 (R80_.2.2.1 (R85_.2.2.1 (R90_.2.1 q).1).1).1).1).1); rw [w] at z; exact absurd z.2 (by simp)
          ·
           refine C rfl rfl (F [(0, _), (1, _), (121, _)] rfl ?_)
           refine WC.condF rfl (WC.skip (⟨[], res_nil, ?_⟩))
           refine ⟨(⟨m4_, m9_, m14_, ([]), ([]), ([]), ([]), ([]), 0, 0, 0, []⟩ : Cmd), _, _, _, _, rfl, .nil, ?_, ?_, ?_, ((M15.bare)).nils⟩
           · unfold Fit; dsimp only; exact ⟨by first | omega | simp, by first | omega | simp, by first | omega | simp, by first | omega | simp, by first | omega | simp, by simp, by intro p hp; cases hp⟩
           · intro c0 hm hf0 he
             obtain ⟨a1, a2, a3⟩ := R4_.2.2 c0.op (vb c0.se.toNat ++ (vb c0.sq.toNat ++ bodyB c0)) rfl (by rw [he]; simp [encC, headB])
             obtain ⟨b1, b2, b3⟩ := R9_.2.2 c0.se.toNat _ c0.se.toNat_lt a1 a3
             obtain ⟨d1, d2, d3⟩ := R14_.2.2 c0.sq.toNat _ c0.sq.toNat_lt b1 b3
             obtain ⟨g1, g2, g3, g4, g5, g6, g7⟩ := hf0
             obtain ⟨p1, p2⟩ := enc_0 (c := c0) (by rw [← a2]; omega)
             rw [p2] at d3
             exact ⟨d1, by rw [hm.2.1, p1]; simp only [blank]; rw [a2, u64_inj b2, u64_inj d2], d3⟩
           · intro q w; have z := (R4_.2.1 (R9_.2.1 (R14_.2.1 q).1).1); rw [w] at z; exact absurd z.2 (by simp)
def zeroC : Cmd := ⟨0, 0, 0, [], [], [], [], [], 0, 0, 0, []⟩
def RdC (s : List UInt8) (c : Cmd) (ok : Bool) : Prop := (ok = true → MayC c ∧ encC c = s) ∧ (ok = false → c = zeroC ∧ ∀ c0, MayC c0 → Fit c0 → encC c0 ≠ s)
theorem rdC_yes {s : List UInt8} {c : Cmd} (h : (if mayB c then encC c else []) = s) (hs : s ≠ []) : RdC s c true := by
  refine ⟨fun _ => ?_, fun q => nomatch q⟩
  by_cases q : mayB c = true
  · rw [if_pos q] at h; exact ⟨of_decide_eq_true q, h⟩
  · rw [if_neg q] at h; exact absurd h.symm hs
theorem rdC_no {s : List UInt8} (h : ∀ c0, MayC c0 → Fit c0 → encC c0 ≠ s) : RdC s zeroC false := ⟨fun q => (nomatch q), fun _ => ⟨rfl, h⟩⟩
theorem fit0 : Fit zeroC := by unfold Fit zeroC FitP; simp
set_option maxRecDepth 8000 in
theorem Read_ran (W : Mem h h [] []) {s : List UInt8} (hl : s.length ≤ 300000) : Cll tab0 32 [.string (bs s)] h (fun v h2 => ∃ c V S ok, KPart.Own V (Cmd.ps c) S ∧ v = .tuple #[c.val V, .bool ok] ∧ Fit c ∧ (ok = true → (if mayB c then encC c else []) = s) ∧ (ok = false → c = zeroC) ∧ RdC s c ok ∧ Mem h h2 [S] []) := by
  refine Cll.code rfl rfl ?_
  refine WC.env [(0, _)] rfl ?_
  refine G (U (WS.new W rfl ?_))
  intro p1 h2 M3
  refine C rfl rfl (F [(0, _), (2, _)] rfl ?_)
  refine G (U (WS.new M3 rfl ?_))
  intro p4 h5 M6
  refine F [(0, _), (2, _), (4, _)] rfl ?_
  refine G (U (C rfl rfl (WS.opV (.agg #[(.string (bs s)), (.bool false)]) rfl rfl rfl ?_)))
  refine WS.box M6 [_, _] rfl rfl rfl rfl ?_
  intro p7 h8 M9
  refine C rfl rfl (F [(0, _), (2, _), (4, _), (5, _)] rfl ?_)
  refine G (U (C rfl rfl (C rfl rfl ?_)))
  refine J rfl rfl rfl (walkR_ran (s := s) ((M9.focus 1 rfl).focus 1 rfl) (by omega)) ?_
  rintro _ h10 ⟨cr, V12, S13, sr, br, rfl, O14, hF, hP, hNe, M11⟩
  obtain ⟨P15, rfl⟩ := O14.shape
  replace M11 : Mem _ _ (S13 :: [(p7, _)] :: [(p4, _)] :: [(p1, _)] :: []) _ := M11
  refine F [(0, _), (2, _), (4, _), (5, _)] rfl ?_
  refine G (G (U (C rfl rfl ?_)))
  refine J rfl rfl rfl (well_ran M11.here (s := sr) (b := br) (M11.at 1 rfl)) ?_
  rintro _ h16 ⟨rfl, N17⟩
  have M18 := M11.trans N17
  cases hb1 : (decide (br = false ∧ sr = []))
  ·
   refine WS.opV (.bool true) rfl rfl rfl (C rfl rfl (WS.off rfl (WS.offC rfl (WS.off rfl (WS.off rfl (C rfl rfl (F [(2, _), (4, _), (20, _)] rfl ?_)))))))
   refine WC.condT rfl (G (U (WS.opV (.agg #[(.int .u8 (0 : Int)), (.int .u64 (0 : Int)), (.int .u64 (0 : Int)), (.string (bs ([]))), (.string (bs ([]))), (.string (bs ([]))), (.string (bs ([]))), (.string (bs ([]))), (.int .u8 (0 : Int)), (.int .u64 (0 : Int)), (.int .u64 (0 : Int)), (.slice none 0 0)]) rfl rfl rfl ?_)))
   refine WS.st1 (M18.focus 3 rfl) [_, _, _, _, _, _, _, _, _, _, _, _] [_, _, _, _, _, _, _, _, _, _, _, _] rfl rfl rfl rfl rfl (D rfl) (D rfl) rfl rfl ?_
   intro h19 M20
   replace M20 : Mem _ _ ([(p1, _)] :: S13 :: [(p7, _)] :: [(p4, _)] :: []) _ := M20
   refine C rfl rfl (F [(2, _), (3, _)] rfl ?_)
   refine WC.ret (⟨[_, _], (res_cellN [_, _, _, _, _, _, _, _, _, _, _, _] rfl (M20.at 0 rfl) (D rfl) rfl (res_tmp rfl res_nil)), ?_⟩)
   exact ⟨zeroC, .slice none 0 0, [], false, .nil, rfl, fit0, (fun q => nomatch q), fun _ => rfl, rdC_no (fun c0 hm hf he2 => by have he := he2.symm; obtain ⟨w1, w2, w3⟩ := hP c0 hm hf he; first | exact absurd (show br = false ∧ sr = [] from ⟨w1, w3⟩) (of_decide_eq_false (by assumption)) | (subst w2; exact e19 (by rw [if_pos (show mayB _ = true from decide_eq_true hm)]; exact he.symm))), (M20.bare.take 0).nils⟩
  ·
   refine WS.opV (.bool false) rfl rfl rfl (C rfl rfl (C rfl (op_lds [_, _, _, _, _, _, _, _, _, _, _, _] (M18.at 2 rfl) rfl (D rfl) rfl) ?_))
   refine J rfl rfl rfl (Write_ran M18.here (c := cr) (Row.Own.sl O14 (Mem.owni M18 0 rfl)) (by exact hF)) ?_
   rintro _ h21 ⟨rfl, N22⟩
   have M23 := M18.trans N22
   refine C rfl rfl ?_
   refine WS.sneq (l := (if mayB cr then encC cr else [])) (m := s) rfl rfl rfl (fun e19 => ?_) (fun e19 => ?_)
   ·
    refine C rfl rfl (F [(2, _), (4, _), (20, _)] rfl ?_)
    refine WC.condT rfl (G (U (WS.opV (.agg #[(.int .u8 (0 : Int)), (.int .u64 (0 : Int)), (.int .u64 (0 : Int)), (.string (bs ([]))), (.string (bs ([]))), (.string (bs ([]))), (.string (bs ([]))), (.string (bs ([]))), (.int .u8 (0 : Int)), (.int .u64 (0 : Int)), (.int .u64 (0 : Int)), (.slice none 0 0)]) rfl rfl rfl ?_)))
    refine WS.st1 (M23.focus 3 rfl) [_, _, _, _, _, _, _, _, _, _, _, _] [_, _, _, _, _, _, _, _, _, _, _, _] rfl rfl rfl rfl rfl (D rfl) (D rfl) rfl rfl ?_
    intro h24 M25
    replace M25 : Mem _ _ ([(p1, _)] :: S13 :: [(p7, _)] :: [(p4, _)] :: []) _ := M25
    refine C rfl rfl (F [(2, _), (3, _)] rfl ?_)
    refine WC.ret (⟨[_, _], (res_cellN [_, _, _, _, _, _, _, _, _, _, _, _] rfl (M25.at 0 rfl) (D rfl) rfl (res_tmp rfl res_nil)), ?_⟩)
    exact ⟨zeroC, .slice none 0 0, [], false, .nil, rfl, fit0, (fun q => nomatch q), fun _ => rfl, rdC_no (fun c0 hm hf he2 => by have he := he2.symm; obtain ⟨w1, w2, w3⟩ := hP c0 hm hf he; first | exact absurd (show br = false ∧ sr = [] from ⟨w1, w3⟩) (of_decide_eq_false (by assumption)) | (subst w2; exact e19 (by rw [if_pos (show mayB _ = true from decide_eq_true hm)]; exact he.symm))), (M25.bare.take 0).nils⟩
   ·
    refine C rfl rfl (F [(2, _), (4, _), (20, _)] rfl ?_)
    refine WC.condF rfl (WC.skip (G (U (C rfl (op_lds [_, _, _, _, _, _, _, _, _, _, _, _] (M23.at 2 rfl) rfl (D rfl) rfl) ?_))))
    refine WS.st1 (M23.focus 3 rfl) [_, _, _, _, _, _, _, _, _, _, _, _] [_, _, _, _, _, _, _, _, _, _, _, _] rfl rfl rfl rfl rfl (D rfl) (D rfl) rfl rfl ?_
    intro h26 M27
    replace M27 : Mem _ _ ([(p1, _)] :: S13 :: [(p7, _)] :: [(p4, _)] :: []) _ := M27
    refine C rfl rfl (F [(2, _), (3, _)] rfl ?_)
    refine WC.ret (⟨[_, _], (res_cellN [_, _, _, _, _, _, _, _, _, _, _, _] rfl (M27.at 0 rfl) (D rfl) rfl (res_tmp rfl res_nil)), ?_⟩)
    exact ⟨cr, _, _, true, O14, rfl, hF, fun _ => by assumption, (fun q => nomatch q), rdC_yes (by assumption) (hNe (of_decide_eq_true (p := br = false ∧ sr = []) (by assumption)).1), ((M27.bare.focus 1 rfl).take 1)⟩
theorem walkRowR_ran {r p : Nat} {s : List UInt8} {b : Bool} (M : Mem base h ([(r, ⟨[.string (bs s), .bool b], 0, false⟩)] :: [(p, ⟨[.string (bs []), .string (bs []), .int .u64 0], 0, false⟩)] :: L) []) (hl : s.length ≤ 300000) :
    Cll tab0 57 [.iface 98 (.pointer (some ⟨r, 0, none⟩)), .pointer (some ⟨p, 0, none⟩)] h (fun v h2 => ∃ x s' b', v = .tuple #[] ∧ Mem base h2 ([(r, ⟨[.string (bs s'), .bool b'], 0, false⟩)] :: [(p, ⟨Rrow.cells x, 0, false⟩)] :: L) [] ∧ s'.length ≤ s.length ∧ (x.ky.length ≤ 300000 ∧ x.va.length ≤ 300000) ∧ (b' = false → b = false ∧ s = rowR x ++ s') ∧ (∀ x0 t, x0.ky.length ≤ 300000 → x0.va.length ≤ 300000 → b = false → s = rowR x0 ++ t → b' = false ∧ x = x0 ∧ s' = t)) := by
  refine Cll.code rfl rfl ?_
  refine WC.env [(0, _), (1, _)] rfl ?_
  refine G (WC.draw M [] rfl ?_)
  intro rb1 h2 M3
  refine C rfl rfl (C rfl rfl (C rfl rfl (C rfl rfl (C rfl rfl (C rfl rfl (C rfl rfl ?_))))))
  refine J rfl rfl rfl (r_text_ran (s := s) (b := b) (k := 0) ((M3.focus 1 rfl).focus 1 rfl) rfl (by omega) rfl) ?_
  rintro _ h4 ⟨s4_, b4_, m4_, rfl, M5, R4_⟩
  have R4_l := R4_.1
  have R4_t := R4_.2.1
  replace M5 : Mem _ _ ([(r, _)] :: [(p, _)] :: L) _ := M5
  refine F [(0, _), (1, _)] rfl ?_
  refine G (WC.draw M5.bare [] rfl ?_)
  intro rb6 h7 M8
  refine C rfl rfl (C rfl rfl (C rfl rfl (C rfl rfl (C rfl rfl (C rfl rfl (C rfl rfl ?_))))))
  refine J rfl rfl rfl (r_text_ran (s := s4_) (b := b4_) (k := 1) ((M8.focus 1 rfl).focus 1 rfl) rfl (by omega) rfl) ?_
  rintro _ h9 ⟨s9_, b9_, m9_, rfl, M10, R9_⟩
  have R9_l := R9_.1
  have R9_t := R9_.2.1
  replace M10 : Mem _ _ ([(r, _)] :: [(p, _)] :: L) _ := M10
  refine F [(0, _), (1, _)] rfl ?_
  refine WC.draw M10.bare [] rfl ?_
  intro rb11 h12 M13
  refine C rfl rfl (C rfl rfl (C rfl rfl (C rfl rfl (C rfl rfl (C rfl rfl (C rfl rfl ?_))))))
  refine J rfl rfl rfl (r_number_ran (s := s9_) (b := b9_) (k := 2) (old := 0) ((M13.focus 1 rfl).focus 1 rfl) rfl (by omega)) ?_
  rintro _ h14 ⟨s14_, b14_, m14_, rfl, M15, R14_⟩
  have R14_l := R14_.1
  replace M15 : Mem _ _ ([(r, _)] :: [(p, _)] :: L) _ := M15
  refine F [] rfl ?_
  refine ⟨[], res_nil, ?_⟩
  refine ⟨(⟨m4_, m9_, m14_⟩ : Rrow), _, _, rfl, (M15.bare), by omega, ⟨by dsimp only; omega, by dsimp only; omega⟩, fun q => ?_, fun x0 t y1 y2 y3 y4 => ?_⟩
  · obtain ⟨g1, g2⟩ := R14_.2.1 q
    obtain ⟨g3, g4⟩ := R9_.2.2.1 g1
    obtain ⟨g5, g6⟩ := R4_.2.2.1 g3
    exact ⟨g5, by rw [g6, g4, g2]; simp [rowR]⟩
  · obtain ⟨z1, z2, z3⟩ := R4_.2.2.2 x0.ky (sb x0.va ++ (vb x0.vn.toNat ++ t)) (by omega) y3 (by rw [y4]; simp [rowR])
    obtain ⟨z4, z5, z6⟩ := R9_.2.2.2 x0.va _ (by omega) z1 z3
    obtain ⟨z7, z8, z9⟩ := R14_.2.2 x0.vn.toNat _ (UInt64.toNat_lt _) z4 z6
    exact ⟨z7, by rw [z2, z5, u64_inj z8], z9⟩
theorem walkResR_ran {r p : Nat} {s : List UInt8} {b : Bool} (M : Mem base h ([(r, ⟨[.string (bs s), .bool b], 0, false⟩)] :: [(p, ⟨[.int .u8 0, .int .u64 0, .string (bs []), .slice none 0 0], 0, false⟩)] :: L) []) (hl : s.length ≤ 300000) :
    Cll tab0 56 [.iface 98 (.pointer (some ⟨r, 0, none⟩)), .pointer (some ⟨p, 0, none⟩)] h (fun v h2 => ∃ cd n va N s' b', v = .int .u64 ((UInt64.toNat N : Nat) : Int) ∧ Mem base h2 ([(r, ⟨[.string (bs s'), .bool b'], 0, false⟩)] :: [(p, ⟨[.int .u8 ((UInt8.toNat cd : Nat) : Int), .int .u64 ((UInt64.toNat n : Nat) : Int), .string (bs va), .slice none 0 0], 0, false⟩)] :: L) [] ∧ s'.length ≤ s.length ∧ va.length ≤ 300000 ∧ (b' = false → b = false ∧ s = ((([cd] ++ vb n.toNat) ++ sb va) ++ vb N.toNat) ++ s') ∧ (∀ cd0 n0 va0 N0 t, va0.length ≤ 300000 → b = false → s = ((([cd0] ++ vb (UInt64.toNat n0)) ++ sb va0) ++ vb (UInt64.toNat N0)) ++ t → b' = false ∧ cd = cd0 ∧ n = n0 ∧ va = va0 ∧ N = N0 ∧ s' = t)) := by
  refine Cll.code rfl rfl ?_
  refine WC.env [(0, _), (1, _)] rfl ?_
  refine G (U (C rfl rfl (F [(0, _), (1, _)] rfl ?_)))
  refine G (U (C rfl rfl (C rfl rfl (C rfl rfl (C rfl (op_ld (M.at 1 rfl) rfl rfl) (C rfl rfl (WS.opV (.int .u64 0) rfl rfl rfl ?_)))))))
  refine WS.new M rfl ?_
  intro p1 h2 M3
  refine WS.st1 (M3.focus 0 rfl) [_] [_] rfl rfl rfl rfl rfl (D rfl) (D rfl) rfl rfl ?_
  intro h4 M5
  replace M5 : Mem _ _ ([(p1, _)] :: [(r, _)] :: [(p, _)] :: L) _ := M5
  refine F [(0, _), (1, _), (5, _)] rfl ?_
  refine G (WC.draw M5 [] rfl ?_)
  intro rb6 h7 M8
  refine C rfl rfl (C rfl rfl (C rfl rfl (C rfl rfl (C rfl rfl (C rfl rfl (C rfl rfl ?_))))))
  refine J rfl rfl rfl (r_byte_ran (s := s) (b := b) (k := 0) (old := 0) ((M8.focus 2 rfl).focus 2 rfl) rfl (by omega)) ?_
  rintro _ h9 ⟨s9_, b9_, m9_, rfl, M10, R9_⟩
  have R9_l := R9_.1
  replace M10 : Mem _ _ ([(r, _)] :: [(p, _)] :: [(p1, _)] :: L) _ := M10
  refine F [(0, _), (1, _), (5, _)] rfl ?_
  refine G (WC.draw M10.bare [] rfl ?_)
  intro rb11 h12 M13
  refine C rfl rfl (C rfl rfl (C rfl rfl (C rfl rfl (C rfl rfl (C rfl rfl (C rfl rfl ?_))))))
  refine J rfl rfl rfl (r_number_ran (s := s9_) (b := b9_) (k := 1) (old := 0) ((M13.focus 1 rfl).focus 1 rfl) rfl (by omega)) ?_
  rintro _ h14 ⟨s14_, b14_, m14_, rfl, M15, R14_⟩
  have R14_l := R14_.1
  replace M15 : Mem _ _ ([(r, _)] :: [(p, _)] :: [(p1, _)] :: L) _ := M15
  refine F [(0, _), (1, _), (5, _)] rfl ?_
  refine G (WC.draw M15.bare [] rfl ?_)
  intro rb16 h17 M18
  refine C rfl rfl (C rfl rfl (C rfl rfl (C rfl rfl (C rfl rfl (C rfl rfl (C rfl rfl ?_))))))
  refine J rfl rfl rfl (r_text_ran (s := s14_) (b := b14_) (k := 2) ((M18.focus 1 rfl).focus 1 rfl) rfl (by omega) rfl) ?_
  rintro _ h19 ⟨s19_, b19_, m19_, rfl, M20, R19_⟩
  have R19_l := R19_.1
  have R19_t := R19_.2.1
  replace M20 : Mem _ _ ([(r, _)] :: [(p, _)] :: [(p1, _)] :: L) _ := M20
  refine F [(0, _), (5, _)] rfl ?_
  refine G (U (C rfl rfl ?_))
  refine J rfl rfl rfl (r_number_ran (s := s19_) (b := b19_) (k := 0) (old := 0) ((M20.bare.focus 2 rfl).focus 1 rfl) rfl (by omega)) ?_
  rintro _ h21 ⟨s21_, b21_, m21_, rfl, M22, R21_⟩
  have R21_l := R21_.1
  replace M22 : Mem _ _ ([(r, _)] :: [(p1, _)] :: [(p, _)] :: L) _ := M22
  refine F [(5, _)] rfl ?_
  refine G (U (C rfl (op_ld (M22.at 1 rfl) rfl rfl) (C rfl rfl (F [(4, _)] rfl ?_))))
  refine WC.ret (⟨[_], (res_tmp rfl res_nil), ?_⟩)
  refine ⟨_, _, _, _, _, _, rfl, (M22.focus 1 rfl).drop, by omega, by omega, fun q => ?_, fun cd0 n0 va0 N0 t y1 y2 y3 => ?_⟩
  · obtain ⟨g1, g2⟩ := R21_.2.1 q
    obtain ⟨g3, g4⟩ := R19_.2.2.1 g1
    obtain ⟨g5, g6⟩ := R14_.2.1 g3
    obtain ⟨g7, g8⟩ := R9_.2.1 g5
    exact ⟨g7, by rw [g8, g6, g4, g2]; simp⟩
  · obtain ⟨z1, z2, z3⟩ := R9_.2.2 cd0 (vb n0.toNat ++ (sb va0 ++ (vb N0.toNat ++ t))) y2 (by rw [y3]; simp)
    obtain ⟨z4, z5, z6⟩ := R14_.2.2 n0.toNat _ (UInt64.toNat_lt _) z1 z3
    obtain ⟨z7, z8, z9⟩ := R19_.2.2.2 va0 _ (by omega) z4 z6
    obtain ⟨x1, x2, x3⟩ := R21_.2.2 N0.toNat _ (UInt64.toNat_lt _) z7 z9
    exact ⟨x1, z2, u64_inj z5, z8, u64_inj x2, x3⟩
theorem rows_min (l : List Rrow) : 3 * l.length ≤ (l.flatMap rowR).length := by
  induction l with
  | nil => simp
  | cons x l ih =>
    have h1 := List.length_pos_iff.2 (vb_ne x.vn.toNat)
    have h2 := List.length_pos_iff.2 (vb_ne x.ky.length)
    have h3 := List.length_pos_iff.2 (vb_ne x.va.length)
    rw [List.flatMap_cons, List.length_append, List.length_cons]
    simp only [rowR, sb, List.length_append]; omega
def zeroR : Res := ⟨0, 0, [], []⟩
def RdR (s : List UInt8) (r : Res) (ok : Bool) : Prop := (ok = true → encR r = s) ∧ (ok = false → r = zeroR ∧ ∀ r0, FitRes r0 → encR r0 ≠ s)
theorem rdR_no {s : List UInt8} (h : ∀ r0, FitRes r0 → encR r0 ≠ s) : RdR s zeroR false := ⟨fun q => (nomatch q), fun _ => ⟨rfl, h⟩⟩
theorem drop_flatR {qs : List Rrow} {i : Nat} {y : Rrow} (h : qs[i]? = some y) : (qs.drop i).flatMap rowR = rowR y ++ (qs.drop (i + 1)).flatMap rowR := by
  have hi := (List.getElem?_eq_some_iff.1 h).1
  rw [List.drop_eq_getElem_cons hi, List.flatMap_cons]
  rw [List.getElem?_eq_getElem hi] at h; cases h; rfl
theorem fitR0 : FitRes zeroR := by unfold FitRes zeroR FitR; simp
theorem FitR_app {l : List Rrow} {x : Rrow} (h : FitR l) (hx : x.ky.length ≤ 300000 ∧ x.va.length ≤ 300000) : FitR (l ++ [x]) := by
  intro p hp
  rcases List.mem_append.1 hp with q | q
  · exact h p q
  · rw [List.mem_singleton] at q; subst q; exact hx
set_option maxRecDepth 8000 in
theorem ReadR_ran (W : Mem h h [] []) {s : List UInt8} (hl : s.length ≤ 299000) : Cll tab0 35 [.string (bs s)] h (fun v h2 => ∃ r V S ok, KRrow.Own V (Res.rs r) S ∧ v = .tuple #[r.val V, .bool ok] ∧ FitRes r ∧ (ok = true → encR r = s) ∧ (ok = false → r = zeroR) ∧ RdR s r ok ∧ Mem h h2 [S] []) := by
  refine Cll.code rfl rfl ?_
  refine WC.env [(0, _)] rfl ?_
  refine G (U (WS.new W rfl ?_))
  intro p1 h2 M3
  refine C rfl rfl (F [(0, _), (2, _)] rfl ?_)
  refine G (U (WS.new M3 rfl ?_))
  intro p4 h5 M6
  refine F [(0, _), (2, _), (4, _)] rfl ?_
  refine G (U (C rfl rfl (WS.opV (.agg #[(.string (bs s)), (.bool false)]) rfl rfl rfl ?_)))
  refine WS.box M6 [_, _] rfl rfl rfl rfl ?_
  intro p7 h8 M9
  refine C rfl rfl (F [(2, _), (4, _), (5, _)] rfl ?_)
  refine G (G (U (C rfl rfl (C rfl rfl ?_))))
  refine J rfl rfl rfl (walkResR_ran (s := s) (b := false) ((M9.focus 1 rfl).focus 1 rfl) (by omega)) ?_
  rintro _ h10 ⟨cd, n_, va, N_, sx, bx, rfl, M11, hx1, hx2, hx3, hx4⟩
  replace M11 : Mem _ _ ([(p7, _)] :: [(p4, _)] :: [(p1, _)] :: []) _ := M11
  refine C rfl rfl (F [(2, _), (4, _), (5, _), (6, _)] rfl ?_)
  refine WC.block ?_
  obtain ⟨L12, eL14, M13⟩ := Mem.name3 ((((M11.bare.focus 1 rfl).focus 1 rfl)).nils)
  refine WC.loop (σ := List UInt8 × Bool × List Rrow × Value × Seg × Nat) (fun ((s_, b_, l, V_, S_, n)) => [(2, (.pointer (some ⟨p1, 0, none⟩))), (4, (.pointer (some ⟨p4, 0, none⟩))), (5, (.pointer (some ⟨p7, 0, none⟩))), (6, (.int .u64 ((n : Nat) : Int)))]) (fun ((s_, b_, l, V_, S_, n)) hh => Mem h hh (S_ :: [(p7, ⟨[(.string (bs s_)), (.bool b_)], 0, false⟩)] :: [(p4, ⟨[(.int .u8 (((cd).toNat : Nat) : Int)), (.int .u64 (((n_).toNat : Nat) : Int)), (.string (bs va)), V_], 0, false⟩)] :: L12) [] ∧ KRrow.Own V_ l S_ ∧ n < 18446744073709551616 ∧ s_.length ≤ s.length ∧ FitR l ∧ l.length ≤ 299001 ∧ (b_ = false → s = (((([cd] ++ vb n_.toNat) ++ sb va) ++ vb N_.toNat) ++ l.flatMap rowR) ++ s_ ∧ l.length + n = N_.toNat) ∧ (∀ r0 : Res, FitRes r0 → s = encR r0 → b_ = false ∧ cd = r0.cd ∧ n_ = r0.n ∧ va = r0.va ∧ n + l.length = r0.rs.length ∧ l = r0.rs.take l.length ∧ s_ = (r0.rs.drop l.length).flatMap rowR)) (fun ((s_, b_, l, V_, S_, n)) => n) (sx, bx, [], .slice none 0 0, [], N_.toNat) rfl ⟨(by exact M13), ?_⟩ ?_
  · exact ⟨.nil, UInt64.toNat_lt _, by omega, (by intro p hp; cases hp), by simp, (fun q => ⟨by rw [(hx3 q).2]; simp, by simp⟩), fun r0 hf he => by have hq := hf.2.1; obtain ⟨x1, x2, x3, x4, x5, x6⟩ := hx4 r0.cd r0.n r0.va (UInt64.ofNat r0.rs.length) (r0.rs.flatMap rowR) hf.1 rfl (by rw [he]; unfold encR headR; rw [n64 (by omega)]); exact ⟨x1, x2, x3, x4, by rw [x5, n64 (by omega)]; simp, by simp, by simpa using x6⟩⟩
  ·rintro ⟨s_, b_, l, V_, S_, n⟩ h15 ⟨M16, ⟨hO, hn64, hsl, hF, hll, hI, hC⟩⟩
   subst eL14
   refine WC.env [(2, _), (4, _), (5, _), (6, _)] rfl ?_
   obtain ⟨P_, rfl⟩ := hO.shape
   refine G (G (U (C rfl rfl ?_)))
   refine WS.gtrN (a := n) (b := 0) rfl rfl rfl (fun e15 => ?_) (fun e15 => ?_)
   ·
    refine C rfl rfl (C rfl rfl (C rfl rfl (C rfl rfl (C rfl (op_ld (M16.at 1 rfl) rfl rfl) ?_))))
    cases b_
    ·
     refine WS.opV (.bool true) rfl rfl rfl (C rfl rfl (F [(2, _), (4, _), (5, _), (6, _), (22, _)] rfl ?_))
     refine WC.condT rfl (WC.skip (G (WC.block (G (U (WS.new M16 rfl ?_))))))
     intro p17 h18 M19
     refine F [(2, _), (4, _), (5, _), (6, _), (7, _)] rfl ?_
     refine G (U (C rfl rfl (C rfl rfl ?_)))
     refine J rfl rfl rfl (walkRowR_ran (s := s_) (b := false) ((M19.focus 0 rfl).focus 2 rfl) (by omega)) ?_
     rintro _ h20 ⟨xr, sx, bx, rfl, M21, hx1, hx2, hx3, hx4⟩
     replace M21 : Mem _ _ ([(p7, _)] :: [(p17, _)] :: S_ :: [(p4, _)] :: [(p1, _)] :: []) _ := M21
     refine F [(2, _), (4, _), (5, _), (6, _), (7, _)] rfl ?_
     refine U (C rfl rfl (C rfl (op_ld (M21.at 3 rfl) rfl rfl) (C rfl (op_lds [_, _, _] (M21.at 1 rfl) rfl (D rfl) rfl) ?_)))
     refine WS.bsl M21 [_, _, _] rfl rfl rfl rfl ?_
     intro p22 h23 M24
     refine WS.app (l := l) (m := [xr]) (hO) (M24.focus 3 rfl) (Row.Src.one (K := KRrow) (m := [xr]) (M24.at 0 rfl)) rfl (by simp only [List.length_cons, List.length_nil]; omega) (by simp only [List.length_cons, List.length_nil]; omega) rfl rfl rfl ?_
     intro V25 S26 h27 O28 M29
     obtain ⟨P30, rfl⟩ := Row.Own.shape O28
     refine C rfl rfl ?_
     refine WS.st1 (M29.focus 4 rfl) [_] [_, _, _, _] rfl rfl rfl rfl rfl (D rfl) (D rfl) rfl rfl ?_
     intro h31 M32
     replace M32 : Mem _ _ ([(p4, _)] :: S26 :: [(p22, _)] :: [(p7, _)] :: [(p17, _)] :: [(p1, _)] :: []) _ := M32
     refine F [(2, _), (4, _), (5, _), (6, _)] rfl ?_
     refine U (C rfl rfl (WS.opV (.int .u64 (((n - 1) : Nat) : Int)) rfl rfl (sub_u64 (a := n) (b := 1) (by have := hn64; omega)) (C rfl rfl (F [(2, _), (4, _), (5, _), (6, _)] rfl ?_))))
     refine ⟨(sx, bx, l ++ [xr], (.slice P30 ((l ++ [xr])).length (2 * ((l ++ [xr])).length)), S26, n - 1), rfl, ⟨(((((M32.bare.focus 5 rfl).focus 1 rfl).focus 4 rfl).focus 3 rfl).take 4), ?_⟩, ?_⟩
     · exact ⟨O28, by omega, by omega, FitR_app hF hx2, by have e_ := congrArg List.length (hI rfl).1; have := rows_min l; simp only [List.length_append] at e_; simp only [List.length_append, List.length_cons, List.length_nil]; omega, (fun q => by obtain ⟨g1, g2⟩ := hx3 q; obtain ⟨g3, g4⟩ := hI rfl; exact ⟨by rw [g3, g2]; simp, by simp; omega⟩), fun r0 hf he => by obtain ⟨g1, g2, g3, g4, g5, g6, g7⟩ := hC r0 hf he; obtain ⟨y, hy⟩ : ∃ y, r0.rs[l.length]? = some y := ⟨_, List.getElem?_eq_getElem (by omega)⟩; have hyf := hf.2.2 _ (mem_get hy); obtain ⟨z1, z2, z3⟩ := hx4 y ((r0.rs.drop (l.length + 1)).flatMap rowR) hyf.1 hyf.2 rfl (by rw [g7, drop_flatR hy]); exact ⟨z1, g2, g3, g4, by simp; omega, by rw [List.length_append, List.length_singleton, List.take_add_one, hy, ← g6, z2]; rfl, by rw [List.length_append, List.length_singleton]; exact z3⟩⟩
     · simp only []; omega
    ·
     refine WS.opV (.bool false) rfl rfl rfl (C rfl rfl (F [(2, _), (4, _), (5, _), (6, _), (22, _)] rfl ?_))
     refine WC.condF rfl (WC.exit ?_)
     refine G (G (U (C rfl rfl ?_)))
     refine J rfl rfl rfl (well_ran M16.here (s := s_) (b := true) (M16.at 1 rfl)) ?_
     rintro _ h33 ⟨rfl, N34⟩
     have M35 := M16.trans N34
     cases hb2 : (decide (true = false ∧ s_ = []))
     ·
      refine WS.opV (.bool true) rfl rfl rfl (F [(2, _), (4, _), (36, _)] rfl ?_)
      refine WC.condT rfl (G (U (WS.opV (.agg #[(.int .u8 (0 : Int)), (.int .u64 (0 : Int)), (.string (bs ([]))), (.slice none 0 0)]) rfl rfl rfl ?_)))
      refine WS.st1 (M35.focus 3 rfl) [_, _, _, _] [_, _, _, _] rfl rfl rfl rfl rfl (D rfl) (D rfl) rfl rfl ?_
      intro h36 M37
      replace M37 : Mem _ _ ([(p1, _)] :: S_ :: [(p7, _)] :: [(p4, _)] :: []) _ := M37
      refine C rfl rfl (F [(2, _), (3, _)] rfl ?_)
      refine WC.ret (⟨[_, _], (res_cellN [_, _, _, _] rfl (M37.at 0 rfl) (D rfl) rfl (res_tmp rfl res_nil)), ?_⟩)
      have hno : ∀ r0, FitRes r0 → encR r0 ≠ s := by
        intro r0 hf he
        obtain ⟨g1, g2, g3, g4, g5, g6, g7⟩ := hC r0 hf he.symm
        first
        | (cases g1; done)
        | (have g8 : s_ = [] := by (rw [g7, List.drop_eq_nil_of_le (by omega)]; rfl)
           exact absurd (And.intro g1 g8) (of_decide_eq_false (by assumption)))
      exact ⟨zeroR, .slice none 0 0, [], false, .nil, rfl, fitR0, (fun q => nomatch q), (fun _ => rfl), rdR_no hno, (M37.bare.take 0).nils⟩
     ·
      refine WS.opV (.bool false) rfl rfl rfl (F [(2, _), (4, _), (36, _)] rfl ?_)
      refine WC.condF rfl (WC.skip (G (U (C rfl (op_lds [_, _, _, _] (M35.at 2 rfl) rfl (D rfl) rfl) ?_))))
      refine WS.st1 (M35.focus 3 rfl) [_, _, _, _] [_, _, _, _] rfl rfl rfl rfl rfl (D rfl) (D rfl) rfl rfl ?_
      intro h38 M39
      replace M39 : Mem _ _ ([(p1, _)] :: S_ :: [(p7, _)] :: [(p4, _)] :: []) _ := M39
      refine C rfl rfl (F [(2, _), (3, _)] rfl ?_)
      refine WC.ret (⟨[_, _], (res_cellN [_, _, _, _] rfl (M39.at 0 rfl) (D rfl) rfl (res_tmp rfl res_nil)), ?_⟩)
      obtain ⟨w1, w2⟩ := of_decide_eq_true (p := true = false ∧ s_ = []) (by assumption)
      cases w1
   ·
    refine C rfl rfl (WS.off rfl (WS.off rfl (WS.off rfl (WS.off rfl (WS.off rfl (C rfl rfl (F [(2, _), (4, _), (5, _), (6, _), (22, _)] rfl ?_)))))))
    refine WC.condF rfl (WC.exit ?_)
    refine G (G (U (C rfl rfl ?_)))
    refine J rfl rfl rfl (well_ran M16.here (s := s_) (b := b_) (M16.at 1 rfl)) ?_
    rintro _ h40 ⟨rfl, N41⟩
    have M42 := M16.trans N41
    cases hb3 : (decide (b_ = false ∧ s_ = []))
    ·
     refine WS.opV (.bool true) rfl rfl rfl (F [(2, _), (4, _), (36, _)] rfl ?_)
     refine WC.condT rfl (G (U (WS.opV (.agg #[(.int .u8 (0 : Int)), (.int .u64 (0 : Int)), (.string (bs ([]))), (.slice none 0 0)]) rfl rfl rfl ?_)))
     refine WS.st1 (M42.focus 3 rfl) [_, _, _, _] [_, _, _, _] rfl rfl rfl rfl rfl (D rfl) (D rfl) rfl rfl ?_
     intro h43 M44
     replace M44 : Mem _ _ ([(p1, _)] :: S_ :: [(p7, _)] :: [(p4, _)] :: []) _ := M44
     refine C rfl rfl (F [(2, _), (3, _)] rfl ?_)
     refine WC.ret (⟨[_, _], (res_cellN [_, _, _, _] rfl (M44.at 0 rfl) (D rfl) rfl (res_tmp rfl res_nil)), ?_⟩)
     have hno : ∀ r0, FitRes r0 → encR r0 ≠ s := by
       intro r0 hf he
       obtain ⟨g1, g2, g3, g4, g5, g6, g7⟩ := hC r0 hf he.symm
       first
       | (cases g1; done)
       | (have g8 : s_ = [] := by (rw [g7, List.drop_eq_nil_of_le (by omega)]; rfl)
          exact absurd (And.intro g1 g8) (of_decide_eq_false (by assumption)))
     exact ⟨zeroR, .slice none 0 0, [], false, .nil, rfl, fitR0, (fun q => nomatch q), (fun _ => rfl), rdR_no hno, (M44.bare.take 0).nils⟩
    ·
     refine WS.opV (.bool false) rfl rfl rfl (F [(2, _), (4, _), (36, _)] rfl ?_)
     refine WC.condF rfl (WC.skip (G (U (C rfl (op_lds [_, _, _, _] (M42.at 2 rfl) rfl (D rfl) rfl) ?_))))
     refine WS.st1 (M42.focus 3 rfl) [_, _, _, _] [_, _, _, _] rfl rfl rfl rfl rfl (D rfl) (D rfl) rfl rfl ?_
     intro h45 M46
     replace M46 : Mem _ _ ([(p1, _)] :: S_ :: [(p7, _)] :: [(p4, _)] :: []) _ := M46
     refine C rfl rfl (F [(2, _), (3, _)] rfl ?_)
     refine WC.ret (⟨[_, _], (res_cellN [_, _, _, _] rfl (M46.at 0 rfl) (D rfl) rfl (res_tmp rfl res_nil)), ?_⟩)
     obtain ⟨w1, w2⟩ := of_decide_eq_true (p := b_ = false ∧ s_ = []) (by assumption)
     obtain ⟨g3, g4⟩ := hI w1
     exact ⟨⟨cd, n_, va, l⟩, _, _, true, hO, rfl, ⟨hx2, by dsimp only; omega, hF⟩, (fun _ => by rw [g3, w2]; unfold encR headR; dsimp only; rw [show l.length = N_.toNat by omega]; simp), (fun q => nomatch q), ⟨fun _ => (by rw [g3, w2]; unfold encR headR; dsimp only; rw [show l.length = N_.toNat by omega]; simp), fun q => nomatch q⟩, ((M46.bare.focus 1 rfl).take 1)⟩
end Go.Proofs.Yteikngjiaboeaaa.Wt
namespace Go.Proofs.Yteikngjiaboeaaa.Wt
open Go Go.Proofs.Yteikngjiaboeaaa.Am Go.Proofs.Yteikngjiaboeaaa.IrAll
open Go.Proofs.Yteikngjiaboeaaa.Am.WS renaming op → C
open Nat renaming le_of_ble_eq_true → D
open Go.Proofs.Yteikngjiaboeaaa.Am.WS renaming nil → F
open Go.Proofs.Yteikngjiaboeaaa.Am.WC renaming seq → G
open Go.Proofs.Yteikngjiaboeaaa.Am.WC renaming run → J
open Go.Proofs.Yteikngjiaboeaaa.Am.WS renaming off → U
set_option linter.unusedVariables false
set_option linter.unusedSimpArgs false
def zeroO2 : Oper := ⟨0, 0, 0, 0, 0, 0, 0, 0, 0, 0, 0, 0, 0, 0, 0, 0⟩
def tokd (o : Oper) (c0 c1 c2 c3 c4 c5 c6 c7 : UInt8) : Oper := ⟨o.op, o.sl, c0, c1, c2, c3, c4, c5, c6, c7, o.ro, o.ks, o.bt, o.ra, o.bu, o.nd⟩
def zcells : List Value := [.int .u8 0, .int .u8 0, .int .u8 0, .int .u8 0, .int .u8 0, .int .u8 0, .int .u8 0, .int .u8 0, .int .u8 0, .int .u8 0, .int .u8 0, .int .i64 0, .int .i64 0, .int .i64 0, .int .i64 0, .int .u8 0]
variable {h base : H} {L : List Seg} {R : List Nat}
theorem r_token_ran {r q : Nat} {s : List UInt8} {b : Bool} {o : Oper} (M : Mem base h ([(r, ⟨[.string (bs s), .bool b], 0, false⟩)] :: [(q, ⟨Oper.cells o, 0, false⟩)] :: L) []) (hl : s.length ≤ 300000) :
    Cll tab0 105 [.pointer (some ⟨r, 0, none⟩), .pointer (some ⟨q, 2, none⟩)] h (fun v h2 => ∃ c0 c1 c2 c3 c4 c5 c6 c7 s' b', v = .tuple #[] ∧ Mem base h2 ([(r, ⟨[.string (bs s'), .bool b'], 0, false⟩)] :: [(q, ⟨Oper.cells (tokd o c0 c1 c2 c3 c4 c5 c6 c7), 0, false⟩)] :: L) [] ∧ s'.length ≤ s.length ∧ (b' = false → b = false) ∧ (∀ k0 k1 k2 k3 k4 k5 k6 k7 t, b = false → s = [k0, k1, k2, k3, k4, k5, k6, k7] ++ t → b' = false ∧ (c0 = k0 ∧ c1 = k1 ∧ c2 = k2 ∧ c3 = k3 ∧ c4 = k4 ∧ c5 = k5 ∧ c6 = k6 ∧ c7 = k7) ∧ s' = t)) := by
  refine Cll.code rfl rfl ?_
  refine WC.env [(0, _), (1, _)] rfl ?_
  refine G (J (C rfl rfl (C rfl rfl (C rfl rfl (C rfl (op_ld (M.at 0 rfl) rfl rfl) (C rfl rfl (F [(0, _), (1, _), (4, _)] rfl ?_)))))))
  refine G (J (C rfl rfl ?_))
  refine WS.call rfl rfl rfl (r_skip_ran (s := s) (b := b) (n := 8) (ok := true) (M.focus 0 rfl) (by omega)) ?_
  rintro _ h1 ⟨s', b', rfl, M2, q1, q2, q3⟩
  replace M2 : Mem _ _ ([(r, _)] :: [(q, _)] :: L) _ := M2
  refine F [(1, _), (4, _), (10, _)] rfl ?_
  cases hb1 : (!b')
  ·
   refine WC.condF rfl (WC.skip (⟨[], res_nil, ?_⟩))
   have g0 : b' = true := by simpa using hb1
   exact ⟨o.t0, o.t1, o.t2, o.t3, o.t4, o.t5, o.t6, o.t7, _, _, rfl, M2, by rw [q2 g0]; exact Nat.le_refl _, (fun q => by rw [g0] at q; exact absurd q (by decide)), fun k0 k1 k2 k3 k4 k5 k6 k7 t u e => by have := q3 u rfl (by subst e; simp); rw [g0] at this; exact absurd this (by decide)⟩
  ·
   refine WC.condT rfl (J (C rfl rfl (C rfl rfl ?_)))
   obtain ⟨g1, g2, g3, g4⟩ := q1 (by simpa using hb1)
   refine WS.opV (.slice (some ⟨q, 2, none⟩) 8 17) rfl rfl rfl (C rfl rfl ?_)
   obtain ⟨c3, c4, c5, c6, c7, c8, c9, c10, h8_11⟩ := take8 (l := s) (by first | omega | (simp only [List.length_drop, List.length_take, List.length_append, List.length_cons, List.length_nil, List.length_singleton]; omega) | (simp only [List.length_drop, List.length_take, List.length_append, List.length_cons, List.length_nil, List.length_singleton] at *; omega))
   refine WS.cpyS (l := s) (M2.focus 1 rfl) [(.int .u8 (((c3).toNat : Nat) : Int)), (.int .u8 (((c4).toNat : Nat) : Int)), (.int .u8 (((c5).toNat : Nat) : Int)), (.int .u8 (((c6).toNat : Nat) : Int)), (.int .u8 (((c7).toNat : Nat) : Int)), (.int .u8 (((c8).toNat : Nat) : Int)), (.int .u8 (((c9).toNat : Nat) : Int)), (.int .u8 (((c10).toNat : Nat) : Int))] [_, _, _, _, _, _, _, _, _, _, _, _, _, _, _, _] rfl rfl rfl rfl (by rw [h8_11]; rfl) rfl (D rfl) (D rfl) rfl rfl ?_
   intro h12 M13
   replace M13 : Mem _ _ ([(q, _)] :: [(r, _)] :: L) _ := M13
   refine F [] rfl ?_
   refine ⟨[], res_nil, ?_⟩
   exact ⟨c3, c4, c5, c6, c7, c8, c9, c10, s', b', rfl, ((M13.focus 0 rfl).focus 1 rfl), by rw [g4, List.length_drop]; omega, fun _ => g1, fun k0 k1 k2 k3 k4 k5 k6 k7 t u e => by have q8 := h8_11; rw [e] at q8; simp at q8; obtain ⟨w0, w1, w2, w3, w4, w5, w6, w7⟩ := q8; exact ⟨by simpa using hb1, ⟨w0.symm, w1.symm, w2.symm, w3.symm, w4.symm, w5.symm, w6.symm, w7.symm⟩, by rw [g4, e]; rfl⟩⟩
def iz (m : UInt64) : Int64 := Int64.ofInt ((min m.toNat 4294967296 : Nat) : Int)
theorem cvZ {m : UInt64} : Value.int .i64 (IntKind.i64.wrap ((min m.toNat 4294967296 : Nat) : Int)) = .int .i64 (iz m).toInt := by
  have e : (iz m).toInt = ((min m.toNat 4294967296 : Nat) : Int) := by
    unfold iz; rw [Int64.toInt_ofInt_of_le (by omega) (by omega)]
  rw [e]; exact cv_i64 (by omega)
theorem encO_cons (o : Oper) : encO o = o.op :: (encO o).tail := by
  by_cases h1 : o.op.toNat = 1
  · rw [encO_1 h1]; rfl
  by_cases h2 : o.op.toNat = 2
  · rw [encO_2 h2]; rfl
  by_cases h3 : o.op.toNat = 3
  · rw [encO_3 h3]; rfl
  by_cases h4 : o.op.toNat = 4
  · rw [encO_4 h4]; rfl
  unfold encO; rw [if_neg h1, if_neg h2, if_neg h3, if_neg h4]; rfl
theorem iz_nu {x : Int64} (h : Sm x.toInt) : iz (nu x) = x := by
  have h1 := nu_nat h
  unfold Sm at h
  unfold iz
  rw [show ((min (nu x).toNat 4294967296 : Nat) : Int) = x.toInt by omega]; exact Int64.ofInt_toInt x
theorem plainO_1 {o : Oper} (h : o.op.toNat = 1) : plainO o = ⟨o.op, o.sl, 0, 0, 0, 0, 0, 0, 0, 0, 0, o.ks, o.bt, o.ra, o.bu, 0⟩ := by
  rw [show o.op = 1 from u8_inj h]; unfold plainO; rw [if_pos h]
theorem plainO_2 {o : Oper} (h : o.op.toNat = 2) : plainO o = ⟨o.op, o.sl, o.t0, o.t1, o.t2, o.t3, o.t4, o.t5, o.t6, o.t7, o.ro, 0, 0, 0, 0, 0⟩ := by
  rw [show o.op = 2 from u8_inj h]; unfold plainO; rw [if_neg (show ¬ o.op.toNat = 1 by omega), if_pos h]
theorem plainO_3 {o : Oper} (h : o.op.toNat = 3) : plainO o = ⟨o.op, 0, o.t0, o.t1, o.t2, o.t3, o.t4, o.t5, o.t6, o.t7, 0, 0, 0, 0, 0, 0⟩ := by
  rw [show o.op = 3 from u8_inj h]; unfold plainO; rw [if_neg (show ¬ o.op.toNat = 1 by omega), if_neg (show ¬ o.op.toNat = 2 by omega), if_pos h]
theorem plainO_4 {o : Oper} (h : o.op.toNat = 4) : plainO o = ⟨o.op, o.sl, 0, 0, 0, 0, 0, 0, 0, 0, 0, 0, 0, 0, 0, 0⟩ := by
  rw [show o.op = 4 from u8_inj h]; unfold plainO; rw [if_neg (show ¬ o.op.toNat = 1 by omega), if_neg (show ¬ o.op.toNat = 2 by omega), if_neg (show ¬ o.op.toNat = 3 by omega), if_pos h]
theorem plainO_5 {o : Oper} (h : 4 < o.op.toNat) : plainO o = ⟨o.op, 0, 0, 0, 0, 0, 0, 0, 0, 0, 0, 0, 0, 0, 0, o.nd⟩ := by
  unfold plainO; rw [if_neg (by omega), if_neg (by omega), if_neg (by omega), if_neg (by omega)]
set_option maxRecDepth 8000 in
theorem walkOR_ran {r p : Nat} {s : List UInt8} (M : Mem base h ([(r, ⟨[.string (bs s), .bool false], 0, false⟩)] :: [(p, ⟨zcells, 0, false⟩)] :: L) []) (hl : s.length ≤ 300000) :
    Cll tab0 54 [.iface 98 (.pointer (some ⟨r, 0, none⟩)), .pointer (some ⟨p, 0, none⟩)] h (fun v h2 => ∃ o s' b', v = .tuple #[] ∧ Mem base h2 ([(r, ⟨[.string (bs s'), .bool b'], 0, false⟩)] :: [(p, ⟨Oper.cells o, 0, false⟩)] :: L) [] ∧ (∀ o0, MayO o0 → s = encO o0 → b' = false ∧ o = o0 ∧ s' = []) ∧ (b' = false → s ≠ [])) := by
  refine Cll.code rfl rfl ?_
  refine WC.env [(0, _), (1, _)] rfl ?_
  refine G (WC.draw M [] rfl ?_)
  intro rb1 h2 M3
  refine C rfl rfl (C rfl rfl (C rfl rfl (C rfl rfl (C rfl rfl (C rfl rfl (C rfl rfl ?_))))))
  refine WS.call rfl rfl rfl (r_byte_ran (s := s) (b := false) (k := 0) (old := 0) ((M3.focus 1 rfl).focus 1 rfl) rfl (by omega)) ?_
  rintro _ h4 ⟨s4_, b4_, m4_, rfl, M5, R4_⟩
  have R4_l := R4_.1
  replace M5 : Mem _ _ ([(r, _)] :: [(p, _)] :: L) _ := M5
  refine F [(0, _), (1, _)] rfl ?_
  refine G (J (C rfl rfl (C rfl rfl (C rfl rfl (C rfl (op_ld (M5.bare.at 1 rfl) rfl rfl) (F [(0, _), (1, _), (18, _)] rfl ?_))))))
  refine WC.block (G (J (WS.eqlN (a := (m4_).toNat) (b := 1) rfl rfl rfl (fun e20 => ?_) (fun e20 => ?_))))
  ·
   refine C rfl rfl (F [(0, _), (1, _), (18, _), (19, _)] rfl ?_)
   refine WC.condT rfl (G (WC.draw M5.bare [] rfl ?_))
   intro rb6 h7 M8
   refine C rfl rfl (C rfl rfl (C rfl rfl (C rfl rfl (C rfl rfl (C rfl rfl (C rfl rfl ?_))))))
   refine WS.call rfl rfl rfl (r_byte_ran (s := s4_) (b := b4_) (k := 1) (old := 0) ((M8.focus 1 rfl).focus 1 rfl) rfl (by omega)) ?_
   rintro _ h9 ⟨s9_, b9_, m9_, rfl, M10, R9_⟩
   have R9_l := R9_.1
   replace M10 : Mem _ _ ([(r, _)] :: [(p, _)] :: L) _ := M10
   refine F [(0, _), (1, _)] rfl ?_
   refine G (WC.draw M10.bare [12] rfl ?_)
   intro rb11 h12 M13
   refine C rfl rfl (C rfl rfl (C rfl rfl (C rfl rfl (C rfl rfl (C rfl rfl (C rfl rfl (C rfl rfl (C rfl rfl (C rfl rfl ?_)))))))))
   refine C rfl rfl (C rfl rfl (C rfl rfl ?_))
   refine WS.bslA M13 [_, _, _, _] 0 rfl rfl rfl rfl rfl ?_
   intro h15 M16
   refine C rfl rfl (F [(0, _), (41, _), (42, _), (43, _)] rfl ?_)
   refine WC.block (WC.unroll [(0, _), (41, _), (42, _), (43, _)] rfl ?_)
   refine G (J (WS.opV (.bool true) rfl rfl rfl (F [(0, _), (41, _), (42, _), (43, _), (44, _)] rfl ?_)))
   refine G (WC.condT rfl (WC.skip (G (WC.block (G (J (C rfl rfl (C rfl (op_ld (M16.bare.at 0 rfl) rfl rfl) (C rfl rfl (F [(0, _), (5, _), (41, _), (42, _), (43, _)] rfl ?_))))))))))
   refine G (J (C rfl rfl (C rfl rfl (C rfl (op_ld (M16.bare.at 2 rfl) rfl rfl) (WS.opV (.int .u64 0) rfl rfl rfl ?_)))))
   refine WS.new M16.bare rfl ?_
   intro p17 h18 M19
   refine WS.st1 (M19.focus 0 rfl) [_] [_] rfl rfl rfl rfl rfl (D rfl) (D rfl) rfl rfl ?_
   intro h20 M21
   replace M21 : Mem _ _ ([(p17, _)] :: [((rb11 + 12), _)] :: [(r, _)] :: [(p, _)] :: L) _ := M21
   refine F [(0, _), (5, _), (6, _), (41, _), (42, _), (43, _)] rfl ?_
   refine G (J (C rfl rfl ?_))
   refine WS.call rfl rfl rfl (r_number_ran (s := s9_) (b := b9_) (k := 0) (old := 0) ((M21.focus 0 rfl).focus 2 rfl) rfl (by omega)) ?_
   rintro _ h22 ⟨s22_, b22_, m22_, rfl, M23, R22_⟩
   have R22_l := R22_.1
   replace M23 : Mem _ _ ([(r, _)] :: [(p17, _)] :: [((rb11 + 12), _)] :: [(p, _)] :: L) _ := M23
   refine F [(0, _), (5, _), (6, _), (41, _), (42, _), (43, _)] rfl ?_
   refine J (C rfl rfl (C rfl (op_ld (M23.at 1 rfl) rfl rfl) (WS.opV (.int .u64 (((min ((m22_).toNat) 4294967296) : Nat) : Int)) rfl rfl (mm_min (a := (m22_).toNat) (b := 4294967296)) (WS.opV (.int .i64 (iz m22_).toInt) rfl rfl (cvZ (m := m22_)) (C rfl rfl ?_)))))
   refine WS.st1 (M23.focus 3 rfl) [_] [_, _, _, _, _, _, _, _, _, _, _, _, _, _, _, _] rfl rfl rfl rfl rfl (D rfl) (D rfl) rfl rfl ?_
   intro h24 M25
   replace M25 : Mem _ _ ([(p, _)] :: [(r, _)] :: [(p17, _)] :: [((rb11 + 12), _)] :: L) _ := M25
   refine F [(0, _), (41, _), (42, _), (43, _)] rfl ?_
   refine J (WS.opV (.int .i64 1) rfl rfl rfl (C rfl rfl (F [(0, _), (41, _), (42, _), (43, _)] rfl ?_)))
   refine WC.unroll [(0, _), (41, _), (42, _), (43, _)] rfl ?_
   refine G (J (WS.opV (.bool true) rfl rfl rfl (F [(0, _), (41, _), (42, _), (43, _), (44, _)] rfl ?_)))
   refine G (WC.condT rfl (WC.skip (G (WC.block (G (J (C rfl rfl (C rfl (op_ld (M25.at 3 rfl) rfl rfl) (C rfl rfl (F [(0, _), (5, _), (41, _), (42, _), (43, _)] rfl ?_))))))))))
   refine G (J (C rfl rfl (C rfl rfl (C rfl (op_ld (M25.at 0 rfl) rfl rfl) (WS.opV (.int .u64 0) rfl rfl rfl ?_)))))
   refine WS.new M25 rfl ?_
   intro p26 h27 M28
   refine WS.st1 (M28.focus 0 rfl) [_] [_] rfl rfl rfl rfl rfl (D rfl) (D rfl) rfl rfl ?_
   intro h29 M30
   replace M30 : Mem _ _ ([(p26, _)] :: [(p, _)] :: [(r, _)] :: [(p17, _)] :: [((rb11 + 12), _)] :: L) _ := M30
   refine F [(0, _), (5, _), (6, _), (41, _), (42, _), (43, _)] rfl ?_
   refine G (J (C rfl rfl ?_))
   refine WS.call rfl rfl rfl (r_number_ran (s := s22_) (b := b22_) (k := 0) (old := 0) ((M30.focus 0 rfl).focus 2 rfl) rfl (by omega)) ?_
   rintro _ h31 ⟨s31_, b31_, m31_, rfl, M32, R31_⟩
   have R31_l := R31_.1
   replace M32 : Mem _ _ ([(r, _)] :: [(p26, _)] :: [(p, _)] :: [(p17, _)] :: [((rb11 + 12), _)] :: L) _ := M32
   refine F [(0, _), (5, _), (6, _), (41, _), (42, _), (43, _)] rfl ?_
   refine J (C rfl rfl (C rfl (op_ld (M32.at 1 rfl) rfl rfl) (WS.opV (.int .u64 (((min ((m31_).toNat) 4294967296) : Nat) : Int)) rfl rfl (mm_min (a := (m31_).toNat) (b := 4294967296)) (WS.opV (.int .i64 (iz m31_).toInt) rfl rfl (cvZ (m := m31_)) (C rfl rfl ?_)))))
   refine WS.st1 (M32.focus 2 rfl) [_] [_, _, _, _, _, _, _, _, _, _, _, _, _, _, _, _] rfl rfl rfl rfl rfl (D rfl) (D rfl) rfl rfl ?_
   intro h33 M34
   replace M34 : Mem _ _ ([(p, _)] :: [(r, _)] :: [(p26, _)] :: [(p17, _)] :: [((rb11 + 12), _)] :: L) _ := M34
   refine F [(0, _), (41, _), (42, _), (43, _)] rfl ?_
   refine J (WS.opV (.int .i64 2) rfl rfl rfl (C rfl rfl (F [(0, _), (41, _), (42, _), (43, _)] rfl ?_)))
   refine WC.unroll [(0, _), (41, _), (42, _), (43, _)] rfl ?_
   refine G (J (WS.opV (.bool true) rfl rfl rfl (F [(0, _), (41, _), (42, _), (43, _), (44, _)] rfl ?_)))
   refine G (WC.condT rfl (WC.skip (G (WC.block (G (J (C rfl rfl (C rfl (op_ld (M34.at 4 rfl) rfl rfl) (C rfl rfl (F [(0, _), (5, _), (41, _), (42, _), (43, _)] rfl ?_))))))))))
   refine G (J (C rfl rfl (C rfl rfl (C rfl (op_ld (M34.at 0 rfl) rfl rfl) (WS.opV (.int .u64 0) rfl rfl rfl ?_)))))
   refine WS.new M34 rfl ?_
   intro p35 h36 M37
   refine WS.st1 (M37.focus 0 rfl) [_] [_] rfl rfl rfl rfl rfl (D rfl) (D rfl) rfl rfl ?_
   intro h38 M39
   replace M39 : Mem _ _ ([(p35, _)] :: [(p, _)] :: [(r, _)] :: [(p26, _)] :: [(p17, _)] :: [((rb11 + 12), _)] :: L) _ := M39
   refine F [(0, _), (5, _), (6, _), (41, _), (42, _), (43, _)] rfl ?_
   refine G (J (C rfl rfl ?_))
   refine WS.call rfl rfl rfl (r_number_ran (s := s31_) (b := b31_) (k := 0) (old := 0) ((M39.focus 0 rfl).focus 2 rfl) rfl (by omega)) ?_
   rintro _ h40 ⟨s40_, b40_, m40_, rfl, M41, R40_⟩
   have R40_l := R40_.1
   replace M41 : Mem _ _ ([(r, _)] :: [(p35, _)] :: [(p, _)] :: [(p26, _)] :: [(p17, _)] :: [((rb11 + 12), _)] :: L) _ := M41
   refine F [(0, _), (5, _), (6, _), (41, _), (42, _), (43, _)] rfl ?_
   refine J (C rfl rfl (C rfl (op_ld (M41.at 1 rfl) rfl rfl) (WS.opV (.int .u64 (((min ((m40_).toNat) 4294967296) : Nat) : Int)) rfl rfl (mm_min (a := (m40_).toNat) (b := 4294967296)) (WS.opV (.int .i64 (iz m40_).toInt) rfl rfl (cvZ (m := m40_)) (C rfl rfl ?_)))))
   refine WS.st1 (M41.focus 2 rfl) [_] [_, _, _, _, _, _, _, _, _, _, _, _, _, _, _, _] rfl rfl rfl rfl rfl (D rfl) (D rfl) rfl rfl ?_
   intro h42 M43
   replace M43 : Mem _ _ ([(p, _)] :: [(r, _)] :: [(p35, _)] :: [(p26, _)] :: [(p17, _)] :: [((rb11 + 12), _)] :: L) _ := M43
   refine F [(0, _), (41, _), (42, _), (43, _)] rfl ?_
   refine J (WS.opV (.int .i64 3) rfl rfl rfl (C rfl rfl (F [(0, _), (41, _), (42, _), (43, _)] rfl ?_)))
   refine WC.unroll [(0, _), (41, _), (42, _), (43, _)] rfl ?_
   refine G (J (WS.opV (.bool true) rfl rfl rfl (F [(0, _), (41, _), (42, _), (43, _), (44, _)] rfl ?_)))
   refine G (WC.condT rfl (WC.skip (G (WC.block (G (J (C rfl rfl (C rfl (op_ld (M43.at 5 rfl) rfl rfl) (C rfl rfl (F [(0, _), (5, _), (41, _), (42, _), (43, _)] rfl ?_))))))))))
   refine G (J (C rfl rfl (C rfl rfl (C rfl (op_ld (M43.at 0 rfl) rfl rfl) (WS.opV (.int .u64 0) rfl rfl rfl ?_)))))
   refine WS.new M43 rfl ?_
   intro p44 h45 M46
   refine WS.st1 (M46.focus 0 rfl) [_] [_] rfl rfl rfl rfl rfl (D rfl) (D rfl) rfl rfl ?_
   intro h47 M48
   replace M48 : Mem _ _ ([(p44, _)] :: [(p, _)] :: [(r, _)] :: [(p35, _)] :: [(p26, _)] :: [(p17, _)] :: [((rb11 + 12), _)] :: L) _ := M48
   refine F [(0, _), (5, _), (6, _), (41, _), (42, _), (43, _)] rfl ?_
   refine G (J (C rfl rfl ?_))
   refine WS.call rfl rfl rfl (r_number_ran (s := s40_) (b := b40_) (k := 0) (old := 0) ((M48.focus 0 rfl).focus 2 rfl) rfl (by omega)) ?_
   rintro _ h49 ⟨s49_, b49_, m49_, rfl, M50, R49_⟩
   have R49_l := R49_.1
   replace M50 : Mem _ _ ([(r, _)] :: [(p44, _)] :: [(p, _)] :: [(p35, _)] :: [(p26, _)] :: [(p17, _)] :: [((rb11 + 12), _)] :: L) _ := M50
   refine F [(0, _), (5, _), (6, _), (41, _), (42, _), (43, _)] rfl ?_
   refine J (C rfl rfl (C rfl (op_ld (M50.at 1 rfl) rfl rfl) (WS.opV (.int .u64 (((min ((m49_).toNat) 4294967296) : Nat) : Int)) rfl rfl (mm_min (a := (m49_).toNat) (b := 4294967296)) (WS.opV (.int .i64 (iz m49_).toInt) rfl rfl (cvZ (m := m49_)) (C rfl rfl ?_)))))
   refine WS.st1 (M50.focus 2 rfl) [_] [_, _, _, _, _, _, _, _, _, _, _, _, _, _, _, _] rfl rfl rfl rfl rfl (D rfl) (D rfl) rfl rfl ?_
   intro h51 M52
   replace M52 : Mem _ _ ([(p, _)] :: [(r, _)] :: [(p44, _)] :: [(p35, _)] :: [(p26, _)] :: [(p17, _)] :: [((rb11 + 12), _)] :: L) _ := M52
   refine F [(0, _), (41, _), (42, _), (43, _)] rfl ?_
   refine J (WS.opV (.int .i64 4) rfl rfl rfl (C rfl rfl (F [(0, _), (41, _), (42, _), (43, _)] rfl ?_)))
   refine WC.unroll [(0, _), (41, _), (42, _), (43, _)] rfl ?_
   refine G (J (WS.opV (.bool false) rfl rfl rfl (F [(0, _), (41, _), (42, _), (43, _), (44, _)] rfl ?_)))
   refine G (WC.condF rfl (WC.exit ?_))
   refine ⟨[], res_nil, ?_⟩
   refine ⟨(⟨m4_, m9_, 0, 0, 0, 0, 0, 0, 0, 0, 0, iz m22_, iz m31_, iz m40_, iz m49_, 0⟩ : Oper), _, _, rfl, ((((((((((((M52.focus 2 rfl).drop).focus 2 rfl).drop).focus 2 rfl).drop).focus 2 rfl).drop).focus 2 rfl).drop).focus 0 rfl).focus 1 rfl), ?_, ?_⟩
   · intro o0 hm he
     obtain ⟨a1, a2, a3⟩ := R4_.2.2 o0.op (encO o0).tail rfl (by rw [he]; exact encO_cons o0)
     have hk : o0.op.toNat = 1 := by rw [← a2]; omega
     have e := plainO_1 hk
     rw [← hm.2.1] at e
     rw [encO_1 hk] at a3
     obtain ⟨z0a, z0b, z0c⟩ := R9_.2.2 o0.sl (vb (nu o0.ks).toNat ++ (vb (nu o0.bt).toNat ++ (vb (nu o0.ra).toNat ++ (vb (nu o0.bu).toNat)))) a1 (by first | (rw [a3]; done) | (rw [a3]; simp [Oper.tok]; done))
     obtain ⟨z1a, z1b, z1c⟩ := R22_.2.2 (nu o0.ks).toNat (vb (nu o0.bt).toNat ++ (vb (nu o0.ra).toNat ++ (vb (nu o0.bu).toNat))) (UInt64.toNat_lt _) z0a (by first | (rw [z0c]; done) | (rw [z0c]; simp [Oper.tok]; done))
     obtain ⟨z2a, z2b, z2c⟩ := R31_.2.2 (nu o0.bt).toNat (vb (nu o0.ra).toNat ++ (vb (nu o0.bu).toNat)) (UInt64.toNat_lt _) z1a (by first | (rw [z1c]; done) | (rw [z1c]; simp [Oper.tok]; done))
     obtain ⟨z3a, z3b, z3c⟩ := R40_.2.2 (nu o0.ra).toNat (vb (nu o0.bu).toNat) (UInt64.toNat_lt _) z2a (by first | (rw [z2c]; done) | (rw [z2c]; simp [Oper.tok]; done))
     obtain ⟨z4a, z4b, z4c⟩ := R49_.2.2 (nu o0.bu).toNat ([]) (UInt64.toNat_lt _) z3a (by first | (rw [z3c]; done) | (rw [z3c]; simp [Oper.tok]; done))
     exact ⟨z4a, by rw [e]; rw [a2, z0b, u64_inj z1b, iz_nu (x := o0.ks) hm.2.2.2.2.2.1, u64_inj z2b, iz_nu (x := o0.bt) hm.2.2.2.2.2.2.1, u64_inj z3b, iz_nu (x := o0.ra) hm.2.2.2.2.2.2.2.1, u64_inj z4b, iz_nu (x := o0.bu) hm.2.2.2.2.2.2.2.2], z4c⟩
   · intro q w; have z := (R4_.2.1 (R9_.2.1 (R22_.2.1 (R31_.2.1 (R40_.2.1 (R49_.2.1 q).1).1).1).1).1); rw [w] at z; exact absurd z.2 (by simp)
  ·
   refine C rfl rfl (F [(0, _), (1, _), (18, _), (19, _)] rfl ?_)
   refine WC.condF rfl (G (J (WS.eqlN (a := (m4_).toNat) (b := 2) rfl rfl rfl (fun e60 => ?_) (fun e60 => ?_))))
   ·
    refine C rfl rfl (F [(0, _), (1, _), (18, _), (59, _)] rfl ?_)
    refine WC.condT rfl (G (WC.draw M5.bare [] rfl ?_))
    intro rb53 h54 M55
    refine C rfl rfl (C rfl rfl (C rfl rfl (C rfl rfl (C rfl rfl (C rfl rfl (C rfl rfl ?_))))))
    refine WS.call rfl rfl rfl (r_byte_ran (s := s4_) (b := b4_) (k := 1) (old := 0) ((M55.focus 1 rfl).focus 1 rfl) rfl (by omega)) ?_
    rintro _ h56 ⟨s56_, b56_, m56_, rfl, M57, R56_⟩
    have R56_l := R56_.1
    replace M57 : Mem _ _ ([(r, _)] :: [(p, _)] :: L) _ := M57
    refine F [(0, _), (1, _)] rfl ?_
    refine G (WC.draw M57.bare [] rfl ?_)
    intro rb58 h59 M60
    refine C rfl rfl (C rfl rfl (C rfl rfl (C rfl rfl (C rfl rfl (C rfl rfl (C rfl rfl ?_))))))
    refine WS.call rfl rfl rfl (r_token_ran (s := s56_) (b := b56_) (o := (⟨m4_, m56_, 0, 0, 0, 0, 0, 0, 0, 0, 0, 0, 0, 0, 0, 0⟩ : Oper)) ((M60.focus 1 rfl).focus 1 rfl) (by omega)) ?_
    rintro _ h61 ⟨kh61_0, kh61_1, kh61_2, kh61_3, kh61_4, kh61_5, kh61_6, kh61_7, sh61_, bh61_, rfl, M62, Rh61_⟩
    have Rh61_l := Rh61_.1
    replace M62 : Mem _ _ ([(r, _)] :: [(p, _)] :: L) _ := M62
    refine F [(0, _), (1, _)] rfl ?_
    refine WC.draw M62.bare [] rfl ?_
    intro rb63 h64 M65
    refine C rfl rfl (C rfl rfl (C rfl rfl (C rfl rfl (C rfl rfl (C rfl rfl (C rfl rfl ?_))))))
    refine WS.call rfl rfl rfl (r_byte_ran (s := sh61_) (b := bh61_) (k := 10) (old := 0) ((M65.focus 1 rfl).focus 1 rfl) rfl (by omega)) ?_
    rintro _ h66 ⟨s66_, b66_, m66_, rfl, M67, R66_⟩
    have R66_l := R66_.1
    replace M67 : Mem _ _ ([(r, _)] :: [(p, _)] :: L) _ := M67
    refine F [] rfl ?_
    refine ⟨[], res_nil, ?_⟩
    refine ⟨(⟨m4_, m56_, kh61_0, kh61_1, kh61_2, kh61_3, kh61_4, kh61_5, kh61_6, kh61_7, m66_, 0, 0, 0, 0, 0⟩ : Oper), _, _, rfl, (M67.bare), ?_, ?_⟩
    · intro o0 hm he
      obtain ⟨a1, a2, a3⟩ := R4_.2.2 o0.op (encO o0).tail rfl (by rw [he]; exact encO_cons o0)
      have hk : o0.op.toNat = 2 := by rw [← a2]; omega
      have e := plainO_2 hk
      rw [← hm.2.1] at e
      rw [encO_2 hk] at a3
      obtain ⟨z0a, z0b, z0c⟩ := R56_.2.2 o0.sl (o0.tok ++ ([o0.ro])) a1 (by first | (rw [a3]; done) | (rw [a3]; simp [Oper.tok]; done))
      obtain ⟨z1a, ⟨w0, w1, w2, w3, w4, w5, w6, w7⟩, z1c⟩ := Rh61_.2.2 o0.t0 o0.t1 o0.t2 o0.t3 o0.t4 o0.t5 o0.t6 o0.t7 ([o0.ro]) z0a (by first | (rw [z0c]; done) | (rw [z0c]; simp [Oper.tok]; done))
      obtain ⟨z2a, z2b, z2c⟩ := R66_.2.2 o0.ro ([]) z1a (by first | (rw [z1c]; done) | (rw [z1c]; simp [Oper.tok]; done))
      exact ⟨z2a, by rw [e]; rw [a2, z0b, w0, w1, w2, w3, w4, w5, w6, w7, z2b], z2c⟩
    · intro q w; have z := (R4_.2.1 (R56_.2.1 (Rh61_.2.1 (R66_.2.1 q).1)).1); rw [w] at z; exact absurd z.2 (by simp)
   ·
    refine C rfl rfl (F [(0, _), (1, _), (18, _), (59, _)] rfl ?_)
    refine WC.condF rfl (G (J (WS.eqlN (a := (m4_).toNat) (b := 3) rfl rfl rfl (fun e86 => ?_) (fun e86 => ?_))))
    ·
     refine C rfl rfl (F [(0, _), (1, _), (18, _), (85, _)] rfl ?_)
     refine WC.condT rfl (WC.draw M5.bare [] rfl ?_)
     intro rb68 h69 M70
     refine C rfl rfl (C rfl rfl (C rfl rfl (C rfl rfl (C rfl rfl (C rfl rfl (C rfl rfl ?_))))))
     refine WS.call rfl rfl rfl (r_token_ran (s := s4_) (b := b4_) (o := (⟨m4_, 0, 0, 0, 0, 0, 0, 0, 0, 0, 0, 0, 0, 0, 0, 0⟩ : Oper)) ((M70.focus 1 rfl).focus 1 rfl) (by omega)) ?_
     rintro _ h71 ⟨kh71_0, kh71_1, kh71_2, kh71_3, kh71_4, kh71_5, kh71_6, kh71_7, sh71_, bh71_, rfl, M72, Rh71_⟩
     have Rh71_l := Rh71_.1
     replace M72 : Mem _ _ ([(r, _)] :: [(p, _)] :: L) _ := M72
     refine F [] rfl ?_
     refine ⟨[], res_nil, ?_⟩
     refine ⟨(⟨m4_, 0, kh71_0, kh71_1, kh71_2, kh71_3, kh71_4, kh71_5, kh71_6, kh71_7, 0, 0, 0, 0, 0, 0⟩ : Oper), _, _, rfl, (M72.bare), ?_, ?_⟩
     · intro o0 hm he
       obtain ⟨a1, a2, a3⟩ := R4_.2.2 o0.op (encO o0).tail rfl (by rw [he]; exact encO_cons o0)
       have hk : o0.op.toNat = 3 := by rw [← a2]; omega
       have e := plainO_3 hk
       rw [← hm.2.1] at e
       rw [encO_3 hk] at a3
       obtain ⟨z0a, ⟨w0, w1, w2, w3, w4, w5, w6, w7⟩, z0c⟩ := Rh71_.2.2 o0.t0 o0.t1 o0.t2 o0.t3 o0.t4 o0.t5 o0.t6 o0.t7 ([]) a1 (by first | (rw [a3]; done) | (rw [a3]; simp [Oper.tok]; done))
       exact ⟨z0a, by rw [e]; rw [a2, w0, w1, w2, w3, w4, w5, w6, w7], z0c⟩
     · intro q w; have z := (R4_.2.1 (Rh71_.2.1 q)); rw [w] at z; exact absurd z.2 (by simp)
    ·
     refine C rfl rfl (F [(0, _), (1, _), (18, _), (85, _)] rfl ?_)
     refine WC.condF rfl (G (J (WS.eqlN (a := (m4_).toNat) (b := 4) rfl rfl rfl (fun e96 => ?_) (fun e96 => ?_))))
     ·
      refine C rfl rfl (F [(0, _), (1, _), (18, _), (95, _)] rfl ?_)
      refine WC.condT rfl (WC.draw M5.bare [] rfl ?_)
      intro rb73 h74 M75
      refine C rfl rfl (C rfl rfl (C rfl rfl (C rfl rfl (C rfl rfl (C rfl rfl (C rfl rfl ?_))))))
      refine WS.call rfl rfl rfl (r_byte_ran (s := s4_) (b := b4_) (k := 1) (old := 0) ((M75.focus 1 rfl).focus 1 rfl) rfl (by omega)) ?_
      rintro _ h76 ⟨s76_, b76_, m76_, rfl, M77, R76_⟩
      have R76_l := R76_.1
      replace M77 : Mem _ _ ([(r, _)] :: [(p, _)] :: L) _ := M77
      refine F [] rfl ?_
      refine ⟨[], res_nil, ?_⟩
      refine ⟨(⟨m4_, m76_, 0, 0, 0, 0, 0, 0, 0, 0, 0, 0, 0, 0, 0, 0⟩ : Oper), _, _, rfl, (M77.bare), ?_, ?_⟩
      · intro o0 hm he
        obtain ⟨a1, a2, a3⟩ := R4_.2.2 o0.op (encO o0).tail rfl (by rw [he]; exact encO_cons o0)
        have hk : o0.op.toNat = 4 := by rw [← a2]; omega
        have e := plainO_4 hk
        rw [← hm.2.1] at e
        rw [encO_4 hk] at a3
        obtain ⟨z0a, z0b, z0c⟩ := R76_.2.2 o0.sl ([]) a1 (by first | (rw [a3]; done) | (rw [a3]; simp [Oper.tok]; done))
        exact ⟨z0a, by rw [e]; rw [a2, z0b], z0c⟩
      · intro q w; have z := (R4_.2.1 (R76_.2.1 q).1); rw [w] at z; exact absurd z.2 (by simp)
     ·
      refine C rfl rfl (F [(0, _), (1, _), (18, _), (95, _)] rfl ?_)
      refine WC.condF rfl (G (G (J (WS.eqlN (a := (m4_).toNat) (b := 5) rfl rfl rfl (fun e106 => ?_) (fun e106 => ?_)))))
      ·
       refine C rfl rfl (F [(0, _), (1, _), (18, _), (105, _)] rfl ?_)
       refine WC.condT rfl (WC.skip (WC.condT rfl (WC.draw M5.bare [] rfl ?_)))
       intro rb78 h79 M80
       refine C rfl rfl (C rfl rfl (C rfl rfl (C rfl rfl (C rfl rfl (C rfl rfl (C rfl rfl ?_))))))
       refine WS.call rfl rfl rfl (r_byte_ran (s := s4_) (b := b4_) (k := 15) (old := 0) ((M80.focus 1 rfl).focus 1 rfl) rfl (by omega)) ?_
       rintro _ h81 ⟨s81_, b81_, m81_, rfl, M82, R81_⟩
       have R81_l := R81_.1
       replace M82 : Mem _ _ ([(r, _)] :: [(p, _)] :: L) _ := M82
       refine F [] rfl ?_
       refine ⟨[], res_nil, ?_⟩
       refine ⟨(⟨m4_, 0, 0, 0, 0, 0, 0, 0, 0, 0, 0, 0, 0, 0, 0, m81_⟩ : Oper), _, _, rfl, (M82.bare), ?_, ?_⟩
       · intro o0 hm he
         obtain ⟨a1, a2, a3⟩ := R4_.2.2 o0.op (encO o0).tail rfl (by rw [he]; exact encO_cons o0)
         have hk : 4 < o0.op.toNat := by rw [← a2]; omega
         have e := plainO_5 hk
         rw [← hm.2.1] at e
         rw [encO_5 hk] at a3
         obtain ⟨z0a, z0b, z0c⟩ := R81_.2.2 o0.nd ([]) a1 (by first | (rw [a3]; done) | (rw [a3]; simp [Oper.tok]; done))
         exact ⟨z0a, by rw [e]; rw [a2, z0b], z0c⟩
       · intro q w; have z := (R4_.2.1 (R81_.2.1 q).1); rw [w] at z; exact absurd z.2 (by simp)
      ·
       refine C rfl rfl (F [(0, _), (1, _), (18, _), (105, _)] rfl ?_)
       refine WC.condF rfl (G (J (WS.eqlN (a := (m4_).toNat) (b := 6) rfl rfl rfl (fun e107 => ?_) (fun e107 => ?_))))
       ·
        refine C rfl rfl (F [(0, _), (1, _), (18, _), (105, _)] rfl ?_)
        refine WC.condT rfl (WC.skip (WC.condT rfl (WC.draw M5.bare [] rfl ?_)))
        intro rb83 h84 M85
        refine C rfl rfl (C rfl rfl (C rfl rfl (C rfl rfl (C rfl rfl (C rfl rfl (C rfl rfl ?_))))))
        refine WS.call rfl rfl rfl (r_byte_ran (s := s4_) (b := b4_) (k := 15) (old := 0) ((M85.focus 1 rfl).focus 1 rfl) rfl (by omega)) ?_
        rintro _ h86 ⟨s86_, b86_, m86_, rfl, M87, R86_⟩
        have R86_l := R86_.1
        replace M87 : Mem _ _ ([(r, _)] :: [(p, _)] :: L) _ := M87
        refine F [] rfl ?_
        refine ⟨[], res_nil, ?_⟩
        refine ⟨(⟨m4_, 0, 0, 0, 0, 0, 0, 0, 0, 0, 0, 0, 0, 0, 0, m86_⟩ : Oper), _, _, rfl, (M87.bare), ?_, ?_⟩
        · intro o0 hm he
          obtain ⟨a1, a2, a3⟩ := R4_.2.2 o0.op (encO o0).tail rfl (by rw [he]; exact encO_cons o0)
          have hk : 4 < o0.op.toNat := by rw [← a2]; omega
          have e := plainO_5 hk
          rw [← hm.2.1] at e
          rw [encO_5 hk] at a3
          obtain ⟨z0a, z0b, z0c⟩ := R86_.2.2 o0.nd ([]) a1 (by first | (rw [a3]; done) | (rw [a3]; simp [Oper.tok]; done))
          exact ⟨z0a, by rw [e]; rw [a2, z0b], z0c⟩
        · intro q w; have z := (R4_.2.1 (R86_.2.1 q).1); rw [w] at z; exact absurd z.2 (by simp)
       ·
        refine C rfl rfl (F [(0, _), (1, _), (18, _), (105, _)] rfl ?_)
        refine WC.condF rfl (J (WS.eqlN (a := (m4_).toNat) (b := 7) rfl rfl rfl (fun e108 => ?_) (fun e108 => ?_)))
        ·
         refine C rfl rfl (F [(0, _), (1, _), (105, _)] rfl ?_)
         refine WC.condT rfl (WC.draw M5.bare [] rfl ?_)
         intro rb88 h89 M90
         refine C rfl rfl (C rfl rfl (C rfl rfl (C rfl rfl (C rfl rfl (C rfl rfl (C rfl rfl ?_))))))
         refine WS.call rfl rfl rfl (r_byte_ran (s := s4_) (b := b4_) (k := 15) (old := 0) ((M90.focus 1 rfl).focus 1 rfl) rfl (by omega)) ?_
         rintro _ h91 ⟨s91_, b91_, m91_, rfl, M92, R91_⟩
         have R91_l := R91_.1
         replace M92 : Mem _ _ ([(r, _)] :: [(p, _)] :: L) _ := M92
         refine F [] rfl ?_
         refine ⟨[], res_nil, ?_⟩
         refine ⟨(⟨m4_, 0, 0, 0, 0, 0, 0, 0, 0, 0, 0, 0, 0, 0, 0, m91_⟩ : Oper), _, _, rfl, (M92.bare), ?_, ?_⟩
         · intro o0 hm he
           obtain ⟨a1, a2, a3⟩ := R4_.2.2 o0.op (encO o0).tail rfl (by rw [he]; exact encO_cons o0)
           have hk : 4 < o0.op.toNat := by rw [← a2]; omega
           have e := plainO_5 hk
           rw [← hm.2.1] at e
           rw [encO_5 hk] at a3
           obtain ⟨z0a, z0b, z0c⟩ := R91_.2.2 o0.nd ([]) a1 (by first | (rw [a3]; done) | (rw [a3]; simp [Oper.tok]; done))
           exact ⟨z0a, by rw [e]; rw [a2, z0b], z0c⟩
         · intro q w; have z := (R4_.2.1 (R91_.2.1 q).1); rw [w] at z; exact absurd z.2 (by simp)
        ·
         refine C rfl rfl (F [(0, _), (1, _), (105, _)] rfl ?_)
         refine WC.condF rfl (WC.skip (⟨[], res_nil, ?_⟩))
         refine ⟨(⟨m4_, 0, 0, 0, 0, 0, 0, 0, 0, 0, 0, 0, 0, 0, 0, 0⟩ : Oper), _, _, rfl, (M5.bare), ?_, ?_⟩
         · intro o0 hm he
           obtain ⟨a1, a2, a3⟩ := R4_.2.2 o0.op (encO o0).tail rfl (by rw [he]; exact encO_cons o0)
           exfalso; have := hm.1; rw [← a2] at this; omega
         · intro q w; have z := (R4_.2.1 q); rw [w] at z; exact absurd z.2 (by simp)
def RdO (s : List UInt8) (o : Oper) (ok : Bool) : Prop := (ok = true → MayO o ∧ encO o = s) ∧ (ok = false → o = zeroO2 ∧ ∀ o0, MayO o0 → encO o0 ≠ s)
theorem rdO_yes {s : List UInt8} {o : Oper} (h : (if mayOB o then encO o else []) = s) (hs : s ≠ []) : RdO s o true := by
  refine ⟨fun _ => ?_, fun q => nomatch q⟩
  by_cases q : mayOB o = true
  · rw [if_pos q] at h; exact ⟨of_decide_eq_true q, h⟩
  · rw [if_neg q] at h; exact absurd h.symm hs
theorem rdO_no {s : List UInt8} (h : ∀ o0, MayO o0 → encO o0 ≠ s) : RdO s zeroO2 false := ⟨fun q => (nomatch q), fun _ => ⟨rfl, h⟩⟩
set_option maxRecDepth 8000 in
theorem ReadO_ran (W : Mem h h [] []) {s : List UInt8} (hl : s.length ≤ 300000) : Cll tab0 33 [.string (bs s)] h (fun v h2 => ∃ o ok, v = .tuple #[.agg (Oper.cells o).toArray, .bool ok] ∧ (ok = true → (if mayOB o then encO o else []) = s) ∧ (ok = false → o = zeroO2) ∧ RdO s o ok ∧ Mem h h2 [] []) := by
  refine Cll.code rfl rfl ?_
  refine WC.env [(0, _)] rfl ?_
  refine G (J (WS.new W rfl ?_))
  intro p1 h2 M3
  refine C rfl rfl (F [(0, _), (2, _)] rfl ?_)
  refine G (J (WS.new M3 rfl ?_))
  intro p4 h5 M6
  refine F [(0, _), (2, _), (4, _)] rfl ?_
  refine G (J (C rfl rfl (WS.opV (.agg #[(.string (bs s)), (.bool false)]) rfl rfl rfl ?_)))
  refine WS.box M6 [_, _] rfl rfl rfl rfl ?_
  intro p7 h8 M9
  refine C rfl rfl (F [(0, _), (2, _), (4, _), (5, _)] rfl ?_)
  refine G (J (C rfl rfl (C rfl rfl ?_)))
  refine WS.call rfl rfl rfl (walkOR_ran (s := s) ((M9.focus 1 rfl).focus 1 rfl) (by omega)) ?_
  rintro _ h10 ⟨ro, so, bo, rfl, M11, hP, hNe⟩
  replace M11 : Mem _ _ ([(p7, _)] :: [(p4, _)] :: [(p1, _)] :: []) _ := M11
  refine F [(0, _), (2, _), (4, _), (5, _)] rfl ?_
  refine G (G (J (C rfl rfl ?_)))
  refine WS.call rfl rfl rfl (well_ran M11.here (s := so) (b := bo) (M11.at 0 rfl)) ?_
  rintro _ h12 ⟨rfl, N13⟩
  have M14 := M11.trans N13
  cases hb1 : (decide (bo = false ∧ so = []))
  ·
   refine WS.opV (.bool true) rfl rfl rfl (C rfl rfl (U rfl (WS.offC rfl (U rfl (U rfl (C rfl rfl (F [(2, _), (4, _), (20, _)] rfl ?_)))))))
   refine WC.condT rfl (G (J (WS.opV (.agg #[(.int .u8 (0 : Int)), (.int .u8 (0 : Int)), (.int .u8 (0 : Int)), (.int .u8 (0 : Int)), (.int .u8 (0 : Int)), (.int .u8 (0 : Int)), (.int .u8 (0 : Int)), (.int .u8 (0 : Int)), (.int .u8 (0 : Int)), (.int .u8 (0 : Int)), (.int .u8 (0 : Int)), (.int .i64 (0 : Int)), (.int .i64 (0 : Int)), (.int .i64 (0 : Int)), (.int .i64 (0 : Int)), (.int .u8 (0 : Int))]) rfl rfl rfl ?_)))
   refine WS.st1 (M14.focus 2 rfl) [_, _, _, _, _, _, _, _, _, _, _, _, _, _, _, _] [_, _, _, _, _, _, _, _, _, _, _, _, _, _, _, _] rfl rfl rfl rfl rfl (D rfl) (D rfl) rfl rfl ?_
   intro h15 M16
   replace M16 : Mem _ _ ([(p1, _)] :: [(p7, _)] :: [(p4, _)] :: []) _ := M16
   refine C rfl rfl (F [(2, _), (3, _)] rfl ?_)
   refine WC.ret (⟨[_, _], (res_cellN [_, _, _, _, _, _, _, _, _, _, _, _, _, _, _, _] rfl (M16.at 0 rfl) (D rfl) rfl (res_tmp rfl res_nil)), ?_⟩)
   exact ⟨zeroO2, false, rfl, (fun q => nomatch q), (fun _ => rfl), rdO_no (fun o0 hm he2 => by have he := he2.symm; obtain ⟨w1, w2, w3⟩ := hP o0 hm he; first | exact absurd (show bo = false ∧ so = [] from ⟨w1, w3⟩) (of_decide_eq_false (by assumption)) | (subst w2; exact absurd (show (if mayOB _ then encO _ else []) = s by rw [if_pos (show mayOB _ = true from decide_eq_true hm)]; exact he.symm) (by assumption))), M16.bare.take 0⟩
  ·
   refine WS.opV (.bool false) rfl rfl rfl (C rfl rfl (C rfl (op_lds [_, _, _, _, _, _, _, _, _, _, _, _, _, _, _, _] (M14.at 1 rfl) rfl (D rfl) rfl) ?_))
   refine WS.call rfl rfl rfl (WriteO_ran M14.here (o := ro)) ?_
   rintro _ h17 ⟨rfl, N18⟩
   have M19 := M14.trans N18
   refine C rfl rfl ?_
   refine WS.sneq (l := (if mayOB ro then encO ro else [])) (m := s) rfl rfl rfl (fun e19 => ?_) (fun e19 => ?_)
   ·
    refine C rfl rfl (F [(2, _), (4, _), (20, _)] rfl ?_)
    refine WC.condT rfl (G (J (WS.opV (.agg #[(.int .u8 (0 : Int)), (.int .u8 (0 : Int)), (.int .u8 (0 : Int)), (.int .u8 (0 : Int)), (.int .u8 (0 : Int)), (.int .u8 (0 : Int)), (.int .u8 (0 : Int)), (.int .u8 (0 : Int)), (.int .u8 (0 : Int)), (.int .u8 (0 : Int)), (.int .u8 (0 : Int)), (.int .i64 (0 : Int)), (.int .i64 (0 : Int)), (.int .i64 (0 : Int)), (.int .i64 (0 : Int)), (.int .u8 (0 : Int))]) rfl rfl rfl ?_)))
    refine WS.st1 (M19.focus 2 rfl) [_, _, _, _, _, _, _, _, _, _, _, _, _, _, _, _] [_, _, _, _, _, _, _, _, _, _, _, _, _, _, _, _] rfl rfl rfl rfl rfl (D rfl) (D rfl) rfl rfl ?_
    intro h20 M21
    replace M21 : Mem _ _ ([(p1, _)] :: [(p7, _)] :: [(p4, _)] :: []) _ := M21
    refine C rfl rfl (F [(2, _), (3, _)] rfl ?_)
    refine WC.ret (⟨[_, _], (res_cellN [_, _, _, _, _, _, _, _, _, _, _, _, _, _, _, _] rfl (M21.at 0 rfl) (D rfl) rfl (res_tmp rfl res_nil)), ?_⟩)
    exact ⟨zeroO2, false, rfl, (fun q => nomatch q), (fun _ => rfl), rdO_no (fun o0 hm he2 => by have he := he2.symm; obtain ⟨w1, w2, w3⟩ := hP o0 hm he; first | exact absurd (show bo = false ∧ so = [] from ⟨w1, w3⟩) (of_decide_eq_false (by assumption)) | (subst w2; exact absurd (show (if mayOB _ then encO _ else []) = s by rw [if_pos (show mayOB _ = true from decide_eq_true hm)]; exact he.symm) (by assumption))), M21.bare.take 0⟩
   ·
    refine C rfl rfl (F [(2, _), (4, _), (20, _)] rfl ?_)
    refine WC.condF rfl (WC.skip (G (J (C rfl (op_lds [_, _, _, _, _, _, _, _, _, _, _, _, _, _, _, _] (M19.at 1 rfl) rfl (D rfl) rfl) ?_))))
    refine WS.st1 (M19.focus 2 rfl) [_, _, _, _, _, _, _, _, _, _, _, _, _, _, _, _] [_, _, _, _, _, _, _, _, _, _, _, _, _, _, _, _] rfl rfl rfl rfl rfl (D rfl) (D rfl) rfl rfl ?_
    intro h22 M23
    replace M23 : Mem _ _ ([(p1, _)] :: [(p7, _)] :: [(p4, _)] :: []) _ := M23
    refine C rfl rfl (F [(2, _), (3, _)] rfl ?_)
    refine WC.ret (⟨[_, _], (res_cellN [_, _, _, _, _, _, _, _, _, _, _, _, _, _, _, _] rfl (M23.at 0 rfl) (D rfl) rfl (res_tmp rfl res_nil)), ?_⟩)
    exact ⟨ro, true, rfl, (fun _ => by assumption), (fun q => nomatch q), rdO_yes (by assumption) (hNe (of_decide_eq_true (p := bo = false ∧ so = []) (by assumption)).1), M23.bare.take 0⟩
def SameRH (a b : Res) : Prop := a.cd.toNat = b.cd.toNat ∧ a.n.toNat = b.n.toNat ∧ a.va = b.va ∧ a.rs.length = b.rs.length
theorem sameR_yes {a b : Res} (q : SameRH a b) (hp : a.rs = b.rs) : a = b := by
  obtain ⟨q1, q2, q3, _⟩ := q
  obtain ⟨⟩ := a; obtain ⟨⟩ := b
  simp only at *
  rw [u8_inj q1, u64_inj q2, q3, hp]
theorem sameR_no {a b : Res} (q : ¬ SameRH a b) : a ≠ b := fun e => q (by subst e; exact ⟨rfl, rfl, rfl, rfl⟩)
theorem SameR_ran (W : Mem h h [] []) {a b : Res} {V V2 : Value} (A : KRrow.Sl h V a.rs) (B : KRrow.Sl h V2 b.rs) (hl : a.rs.length ≤ 1000000) : Cll tab0 49 [a.val V, b.val V2] h (fun v h2 => v = .bool (decide (a = b)) ∧ Mem h h2 [] []) := by
  obtain ⟨P, n, rfl⟩ := A.shape
  obtain ⟨P2, n2, rfl⟩ := B.shape
  refine Cll.code rfl rfl ?_
  refine WC.env [(0, _), (1, _)] rfl ?_
  refine G (J (WS.box W [_, _, _, _] rfl rfl rfl rfl ?_))
  intro p1 h2 M3
  refine WS.box M3 [_, _, _, _] rfl rfl rfl rfl ?_
  intro p4 h5 M6
  refine C rfl rfl (F [(2, _), (3, _)] rfl ?_)
  refine G (G ?_)
  obtain ⟨L7, eL9, M8⟩ := Mem.name M6.bare
  refine WC.joinB (base := h) (fun b => [(2, (.pointer (some ⟨p1, 0, none⟩))), (3, (.pointer (some ⟨p4, 0, none⟩))), (33, .bool b)]) L7 (¬ SameRH a b) (SameRH a b) ?_ ?_ ?_
  ·subst eL9
   refine C rfl rfl (C rfl (op_ld (M8.at 1 rfl) rfl rfl) (C rfl rfl (C rfl (op_ld (M8.at 0 rfl) rfl rfl) ?_)))
   refine WS.neqN (a := (a.cd).toNat) (b := (b.cd).toNat) rfl rfl rfl (fun e10 => ?_) (fun e10 => ?_)
   ·
    refine C rfl rfl (U rfl (U rfl (U rfl (U rfl (U rfl (C rfl rfl (C rfl rfl (U rfl (U rfl ?_)))))))))
    refine U rfl (U rfl (U rfl (C rfl rfl (C rfl rfl (U rfl (U rfl (U rfl (U rfl (U rfl ?_)))))))))
    refine U rfl (U rfl (C rfl rfl ?_))
    refine WS.nil' ⟨true, rfl, (((M8.bare.focus 1 rfl).focus 1 rfl).take 2), fun _ => ?_, fun hh => ?_⟩
    · rintro ⟨q0, q1, q2, q3⟩; first | exact e10 q0 | exact e16 q1 | exact e23 q2 | exact e32 q3
    · cases hh
   ·
    refine C rfl rfl (C rfl rfl (C rfl (op_ld (M8.at 1 rfl) rfl rfl) (C rfl rfl (C rfl (op_ld (M8.at 0 rfl) rfl rfl) ?_))))
    refine WS.neqN (a := (a.n).toNat) (b := (b.n).toNat) rfl rfl rfl (fun e16 => ?_) (fun e16 => ?_)
    ·
     refine C rfl rfl (C rfl rfl (U rfl (U rfl (U rfl (U rfl (U rfl (C rfl rfl (C rfl rfl (U rfl ?_)))))))))
     refine U rfl (U rfl (U rfl (U rfl (U rfl (U rfl (C rfl rfl ?_))))))
     refine WS.nil' ⟨true, rfl, (((M8.bare.focus 1 rfl).focus 1 rfl).take 2), fun _ => ?_, fun hh => ?_⟩
     · rintro ⟨q0, q1, q2, q3⟩; first | exact e10 q0 | exact e16 q1 | exact e23 q2 | exact e32 q3
     · cases hh
    ·
     refine C rfl rfl (C rfl rfl (C rfl rfl (C rfl (op_ld (M8.at 1 rfl) rfl rfl) (C rfl rfl (C rfl (op_ld (M8.at 0 rfl) rfl rfl) ?_)))))
     refine WS.sneq (l := a.va) (m := b.va) rfl rfl rfl (fun e23 => ?_) (fun e23 => ?_)
     ·
      refine C rfl rfl (C rfl rfl (U rfl (U rfl (U rfl (U rfl (U rfl (U rfl (U rfl (C rfl rfl ?_)))))))))
      refine WS.nil' ⟨true, rfl, (((M8.bare.focus 1 rfl).focus 1 rfl).take 2), fun _ => ?_, fun hh => ?_⟩
      · rintro ⟨q0, q1, q2, q3⟩; first | exact e10 q0 | exact e16 q1 | exact e23 q2 | exact e32 q3
      · cases hh
     ·
      refine C rfl rfl (C rfl rfl (C rfl rfl (C rfl (op_ld (M8.at 1 rfl) rfl rfl) (C rfl (op_lenVS A rfl) (C rfl rfl (C rfl (op_ld (M8.at 0 rfl) rfl rfl) (C rfl (op_lenVS B rfl) ?_)))))))
      refine WS.neqN (a := (a.rs).length) (b := (b.rs).length) rfl rfl rfl (fun e32 => ?_) (fun e32 => ?_)
      ·
       refine C rfl rfl ?_
       refine WS.nil' ⟨true, rfl, (((M8.bare.focus 1 rfl).focus 1 rfl).take 2), fun _ => ?_, fun hh => ?_⟩
       · rintro ⟨q0, q1, q2, q3⟩; first | exact e10 q0 | exact e16 q1 | exact e23 q2 | exact e32 q3
       · cases hh
      ·
       refine C rfl rfl ?_
       refine WS.nil' ⟨false, rfl, (((M8.bare.focus 1 rfl).focus 1 rfl).take 2), fun hh => ?_, fun _ => ?_⟩
       · cases hh
       · exact ⟨e10, e16, e23, e32⟩
  ·intro h10 M11 hp33
   subst eL9
   refine WC.condT rfl (G (J (C rfl rfl (F [(4, _)] rfl ?_))))
   refine WC.ret (⟨[_], (res_tmp rfl res_nil), ?_⟩)
   exact ⟨by rw [decide_eq_false (sameR_no hp33)]; rfl, M11.bare.take 0⟩
  ·intro h12 M13 hp33
   subst eL9
   refine WC.condF rfl (WC.skip (G (G (J (C rfl rfl (F [(2, _), (3, _), (5, _)] rfl ?_))))))
   refine WC.block ?_
   obtain ⟨L14, eL16, M15⟩ := Mem.name M13.bare
   refine WC.loop (σ := Nat) (fun (i) => [(2, (.pointer (some ⟨p1, 0, none⟩))), (3, (.pointer (some ⟨p4, 0, none⟩))), (5, (.int .i64 ((i : Nat) : Int)))]) (fun (i) hh => Mem h hh (L14) [] ∧ a.rs.take i = b.rs.take i ∧ i ≤ a.rs.length) (fun (i) => a.rs.length - i) (0) rfl ⟨M15, ?_⟩ ?_
   · exact ⟨rfl, by omega⟩
   ·rintro i h17 ⟨M18, ⟨hO, hi1⟩⟩
    subst eL16
    refine WC.env [(2, _), (3, _), (5, _)] rfl ?_
    refine G (G (J (C rfl rfl (C rfl rfl (C rfl (op_ld (M18.at 1 rfl) rfl rfl) (C rfl (op_lenVS A rfl) ?_))))))
    refine WS.lssN (a := i) (b := (a.rs).length) rfl rfl rfl (fun e38 => ?_) (fun e38 => ?_)
    ·
     refine F [(2, _), (3, _), (5, _), (38, _)] rfl ?_
     refine WC.condT rfl (WC.skip (G (WC.block (G (WC.draw M18 [] rfl ?_)))))
     intro rb19 h20 M21
     refine C rfl rfl (C rfl (op_ld (M21.at 1 rfl) rfl rfl) (C rfl rfl ?_))
     obtain ⟨y44, hy44⟩ : ∃ y, (a.rs)[i]? = some y := ⟨_, List.getElem?_eq_getElem (show i < (a.rs).length by first | omega | (simp only [List.length_drop, List.length_take, List.length_append, List.length_cons, List.length_nil, List.length_singleton]; omega) | (simp only [List.length_drop, List.length_take, List.length_append, List.length_cons, List.length_nil, List.length_singleton] at *; omega))⟩
     refine WS.iaVS A i hy44 rfl rfl rfl rfl ?_
     intro b44_ o44_ ha44
     refine C rfl (op_ldAt rfl (ha44.mono M21.sub) rfl) (C rfl rfl (C rfl (op_ld (M21.at 0 rfl) rfl rfl) (C rfl rfl ?_)))
     obtain ⟨y49, hy49⟩ : ∃ y, (b.rs)[i]? = some y := ⟨_, List.getElem?_eq_getElem (show i < (b.rs).length by have := hp33.2.2.2; omega)⟩
     refine WS.iaVS B i hy49 rfl rfl rfl rfl ?_
     intro b49_ o49_ ha49
     refine C rfl (op_ldAt rfl (ha49.mono M21.sub) rfl) ?_
     refine WS.eqqDn (p := y44 = y49) rfl rfl rfl (Rrow_eqV _ _) (fun e51 => ?_) (fun e51 => ?_)
     ·
      refine F [(2, _), (3, _), (5, _), (51, _)] rfl ?_
      refine WC.condT rfl (G (J (C rfl rfl (F [(4, _)] rfl ?_))))
      refine WC.ret (⟨[_], (res_tmp rfl res_nil), ?_⟩)
      exact ⟨by rw [decide_eq_false (fun q => ne_of_get hy44 hy49 e51 (congrArg Res.rs q))]; rfl, M21.bare.bare.take 0⟩
     ·
      refine F [(2, _), (3, _), (5, _), (51, _)] rfl ?_
      refine WC.condF rfl (WC.skip (J (C rfl rfl (WS.opV (.int .i64 (((i + 1) : Nat) : Int)) rfl rfl (add_i64 (a := i) (b := 1) (by omega)) (C rfl rfl (F [(2, _), (3, _), (5, _)] rfl ?_))))))
      refine ⟨i + 1, rfl, ⟨(((M21.bare.bare.focus 1 rfl).focus 1 rfl).take 2), ?_⟩, ?_⟩
      · exact ⟨eq_take_step hO hy44 hy49 (by assumption), by omega⟩
      · simp only []; omega
    ·
     refine F [(2, _), (3, _), (5, _), (38, _)] rfl ?_
     refine WC.condF rfl (WC.exit ?_)
     refine G (J (C rfl rfl (F [(4, _)] rfl ?_)))
     refine WC.ret (⟨[_], (res_tmp rfl res_nil), ?_⟩)
     have hln := hp33.2.2.2
     rw [List.take_of_length_le (by omega), List.take_of_length_le (by omega)] at hO
     exact ⟨by rw [decide_eq_true (sameR_yes hp33 hO)]; rfl, M18.bare.take 0⟩
end Go.Proofs.Yteikngjiaboeaaa.Wt
namespace Go.Proofs.Yteikngjiaboeaaa.Wt
open Go Go.Proofs.Yteikngjiaboeaaa.Am Go.Proofs.Yteikngjiaboeaaa.IrAll
open Nat renaming le_of_ble_eq_true → C
open Go.Proofs.Yteikngjiaboeaaa.Am.WS renaming op → D
open List renaming length_singleton → F
open List renaming length_drop → G
open Go.Proofs.Yteikngjiaboeaaa.Am.WS renaming nil → J
open Go.Proofs.Yteikngjiaboeaaa.Am.WC renaming seq → U
open Go.Proofs.Yteikngjiaboeaaa.Am.WC renaming run → X
open List renaming length_append → Y
open List renaming length_cons → AQ
open List renaming length_take → AX
open List renaming length_nil → AZ
set_option linter.unusedVariables false
set_option linter.unusedSimpArgs false
variable {h base : H} {L : List Seg} {R : List Nat}
def cutQ {σ : Type} (E : σ → Env) (I : σ → H → Prop) (Q : Ex → Env → H → Prop) : Ex → Env → H → Prop
  | .norm, e, h => ∃ s, e = E s ∧ I s h
  | x, e, h => Q x e h
theorem WC.cutB {σ : Type} {tab : Nat → Option FD} {b : IC} {e : Env} {Q : Ex → Env → H → Prop} (E : σ → Env) (I : σ → H → Prop) (w : WC tab b e h (cutQ E I Q)) (k : ∀ s h2, I s h2 → Q .norm (E s) h2) : WC tab b e h Q := by
  obtain ⟨x, e2, h2, r, p⟩ := w
  cases x with
  | norm => obtain ⟨s, rfl, i⟩ := p; exact ⟨_, _, _, r, k s h2 i⟩
  | exit id => exact ⟨_, _, _, r, p⟩
  | ret => exact ⟨_, _, _, r, p⟩
theorem tk_byte_ran {r : Nat} {s : List UInt8} {w : Bool} (M : Mem base h ([(r, ⟨[.string (bs s), .bool w], 0, false⟩)] :: L) []) (hl : s.length ≤ 1000000) :
    Cll tab0 66 [.pointer (some ⟨r, 0, none⟩)] h (fun v h2 => ∃ s' w' c, v = .int .i64 ((UInt8.toNat c : Nat) : Int) ∧ Mem base h2 ([(r, ⟨[.string (bs s'), .bool w'], 0, false⟩)] :: L) [] ∧ s'.length ≤ s.length ∧ (w' = true → w = true ∧ s = c :: s') ∧ (∀ c0 t, w = true → s = c0 :: t → w' = true ∧ c = c0 ∧ s' = t)) := by
  refine Cll.code rfl rfl ?_
  refine WC.env [(0, _)] rfl ?_
  refine U (X (D rfl rfl (J [(0, _)] rfl ?_)))
  refine U (U (X (D rfl rfl (D rfl rfl (D rfl rfl (D rfl (op_ld (M.at 0 rfl) rfl rfl) (D rfl (op_lenS (l := s) rfl) ?_)))))))
  refine WS.eqlN (a := (s).length) (b := 0) rfl rfl rfl (fun e9 => ?_) (fun e9 => ?_)
  ·
   refine J [(0, _), (9, _)] rfl ?_
   refine WC.condT rfl (U (X (D rfl rfl (D rfl rfl (D rfl rfl ?_)))))
   refine WS.st1 (M.focus 0 rfl) [_] [_, _] rfl rfl rfl rfl rfl (C rfl) (C rfl) rfl rfl ?_
   intro h1 M2
   replace M2 : Mem _ _ ([(r, _)] :: L) _ := M2
   refine J [] rfl ?_
   refine U (X (D rfl rfl (J [(2, _)] rfl ?_)))
   refine WC.ret (⟨[_], (res_tmp rfl res_nil), ?_⟩)
   have hs0 : s = [] := List.eq_nil_of_length_eq_zero (by omega)
   exact ⟨_, false, 0, rfl, M2, Nat.le_refl _, fun q => (nomatch q), fun c0 t u e => by rw [hs0] at e; cases e⟩
  ·
   refine J [(0, _), (9, _)] rfl ?_
   refine WC.condF rfl (WC.skip (U (X (D rfl rfl (D rfl rfl (D rfl rfl (D rfl (op_ld (M.at 0 rfl) rfl rfl) ?_)))))))
   obtain ⟨c3, hc4⟩ : ∃ c, (s)[0]? = some c := ⟨_, List.getElem?_eq_getElem (show 0 < (s).length by first | omega | (simp only [G, AX, Y, AQ, AZ, F]; omega) | (simp only [G, AX, Y, AQ, AZ, F] at *; omega))⟩
   refine D rfl (op_ixS 0 rfl rfl hc4) (WS.opV (.int .i64 (((c3).toNat : Nat) : Int)) rfl rfl (cv_i64 (n := (c3).toNat) (by have := UInt8.toNat_lt (c3); omega)) (D rfl rfl (J [(0, _), (3, _)] rfl ?_)))
   refine U (X (D rfl rfl (D rfl rfl (D rfl rfl (D rfl rfl (D rfl (op_ld (M.at 0 rfl) rfl rfl) (D rfl (op_slS0 (l := s) 1 rfl rfl (by first | omega | (simp only [G, AX, Y, AQ, AZ, F]; omega) | (simp only [G, AX, Y, AQ, AZ, F] at *; omega))) (D rfl rfl (D rfl rfl ?_)))))))))
   refine WS.st1 (M.focus 0 rfl) [_] [_, _] rfl rfl rfl rfl rfl (C rfl) (C rfl) rfl rfl ?_
   intro h5 M6
   replace M6 : Mem _ _ ([(r, _)] :: L) _ := M6
   refine J [(3, _)] rfl ?_
   refine U (X (D rfl rfl (D rfl rfl (J [(2, _)] rfl ?_))))
   refine WC.ret (⟨[_], (res_tmp rfl res_nil), ?_⟩)
   exact ⟨_, _, c3, rfl, M6, by rw [G]; omega, fun q => ⟨q, by simpa using drop_cons hc4⟩, fun c0 t u e => ⟨u, by subst e; simpa using hc4.symm, by subst e; rfl⟩⟩
theorem tk_number_ran {r : Nat} {s : List UInt8} {w : Bool} (M : Mem base h ([(r, ⟨[.string (bs s), .bool w], 0, false⟩)] :: L) []) (hl : s.length ≤ 1000000) :
    Cll tab0 67 [.pointer (some ⟨r, 0, none⟩)] h (fun v h2 => ∃ s' w' c, v = .int .u64 ((UInt64.toNat c : Nat) : Int) ∧ Mem base h2 ([(r, ⟨[.string (bs s'), .bool w'], 0, false⟩)] :: L) [] ∧ s'.length ≤ s.length ∧ (w' = true → w = true ∧ s = vb c.toNat ++ s') ∧ (∀ (m : Nat) t, m < 18446744073709551616 → w = true → s = vb m ++ t → w' = true ∧ c.toNat = m ∧ s' = t)) := by
  have hrk := rvK_le s
  refine Cll.code rfl rfl ?_
  refine WC.env [(0, _)] rfl ?_
  refine U (X (D rfl rfl (J [(0, _)] rfl ?_)))
  refine U (X (D rfl rfl (D rfl rfl (D rfl rfl (D rfl (op_ld (M.at 0 rfl) rfl rfl) ?_)))))
  refine WS.call rfl rfl rfl (ref_ReadV_ran M.here (l := s) (by first | omega | (simp only [G, AX, Y, AQ, AZ, F]; omega) | (simp only [G, AX, Y, AQ, AZ, F] at *; omega))) ?_
  rintro _ h1 ⟨rfl, N2⟩
  have M3 := M.trans N2
  refine D rfl rfl (D rfl rfl (D rfl rfl (D rfl rfl (D rfl rfl (D rfl rfl (D rfl rfl (J [(0, _), (3, _), (4, _), (5, _)] rfl ?_)))))))
  refine U (X (D rfl rfl (D rfl rfl (D rfl rfl (D rfl rfl (D rfl (op_ld (M3.at 0 rfl) rfl rfl) (D rfl rfl ?_)))))))
  cases hb1 : w
  ·
   refine WS.off rfl (D rfl rfl (D rfl rfl (D rfl rfl ?_)))
   refine WS.st1 (M3.focus 0 rfl) [_] [_, _] rfl rfl rfl rfl rfl (C rfl) (C rfl) rfl rfl ?_
   intro h5 M6
   replace M6 : Mem _ _ ([(r, _)] :: L) _ := M6
   refine J [(0, _), (3, _), (4, _)] rfl ?_
   refine U (X (D rfl rfl (D rfl rfl (D rfl rfl (D rfl rfl (D rfl (op_ld (M6.at 0 rfl) rfl rfl) (D rfl rfl (D rfl (op_slS0 (l := s) (rvK s) rfl rfl (by first | omega | (simp only [G, AX, Y, AQ, AZ, F]; omega) | (simp only [G, AX, Y, AQ, AZ, F] at *; omega))) (D rfl rfl (D rfl rfl ?_))))))))))
   refine WS.st1 (M6.focus 0 rfl) [_] [_, _] rfl rfl rfl rfl rfl (C rfl) (C rfl) rfl rfl ?_
   intro h7 M8
   replace M8 : Mem _ _ ([(r, _)] :: L) _ := M8
   refine J [(3, _)] rfl ?_
   refine U (X (D rfl rfl (D rfl rfl (J [(2, _)] rfl ?_))))
   refine WC.ret (⟨[_], (res_tmp rfl res_nil), ?_⟩)
   exact ⟨((s).drop (rvK s)), false, UInt64.ofNat (rvN s), by rw [n64 (rvN_lt s)]; rfl, M8, by rw [G]; omega, fun q => (nomatch q), fun m t hm u e => by exfalso; first | (cases u; done) | (rw [hb1] at u; cases u; done)⟩
  ·
   refine D rfl rfl (D rfl rfl (D rfl rfl (D rfl rfl ?_)))
   refine WS.st1 (M3.focus 0 rfl) [_] [_, _] rfl rfl rfl rfl rfl (C rfl) (C rfl) rfl rfl ?_
   intro h9 M10
   replace M10 : Mem _ _ ([(r, _)] :: L) _ := M10
   refine J [(0, _), (3, _), (4, _)] rfl ?_
   refine U (X (D rfl rfl (D rfl rfl (D rfl rfl (D rfl rfl (D rfl (op_ld (M10.at 0 rfl) rfl rfl) (D rfl rfl (D rfl (op_slS0 (l := s) (rvK s) rfl rfl (by first | omega | (simp only [G, AX, Y, AQ, AZ, F]; omega) | (simp only [G, AX, Y, AQ, AZ, F] at *; omega))) (D rfl rfl (D rfl rfl ?_))))))))))
   refine WS.st1 (M10.focus 0 rfl) [_] [_, _] rfl rfl rfl rfl rfl (C rfl) (C rfl) rfl rfl ?_
   intro h11 M12
   replace M12 : Mem _ _ ([(r, _)] :: L) _ := M12
   refine J [(3, _)] rfl ?_
   refine U (X (D rfl rfl (D rfl rfl (J [(2, _)] rfl ?_))))
   refine WC.ret (⟨[_], (res_tmp rfl res_nil), ?_⟩)
   exact ⟨((s).drop (rvK s)), (rvOK s), UInt64.ofNat (rvN s), by rw [n64 (rvN_lt s)]; rfl, M12, by rw [G]; omega, fun q => ⟨by first | assumption | rfl, by rw [n64 (rvN_lt s)]; exact (getV_some (show getV s = some (rvN s, rvK s) by rw [getV_eq, q]; rfl)).1⟩, fun m t hm u e => by obtain ⟨f1, f2, f3⟩ := rv_eq_some (show getV s = some (m, (vb m).length) by rw [e]; exact getV_vb hm t); exact ⟨f3, by rw [n64 (rvN_lt s), f1], by rw [f2, e, List.drop_left]⟩⟩
theorem tk_text_ran {r : Nat} {s : List UInt8} {w : Bool} (M : Mem base h ([(r, ⟨[.string (bs s), .bool w], 0, false⟩)] :: L) []) (hl : s.length ≤ 1000000) :
    Cll tab0 68 [.pointer (some ⟨r, 0, none⟩)] h (fun v h2 => ∃ s' w' c, v = .string (bs c) ∧ Mem base h2 ([(r, ⟨[.string (bs s'), .bool w'], 0, false⟩)] :: L) [] ∧ s'.length ≤ s.length ∧ c.length ≤ s.length ∧ (w' = true → w = true ∧ s = sb c ++ s') ∧ (∀ u t, u.length < 18446744073709551616 → w = true → s = sb u ++ t → w' = true ∧ c = u ∧ s' = t)) := by
  have hrs := rsT_le s
  have hrk := rsK_le s
  refine Cll.code rfl rfl ?_
  refine WC.env [(0, _)] rfl ?_
  refine U (X (D rfl rfl (J [(0, _)] rfl ?_)))
  refine U (X (D rfl rfl (D rfl rfl (D rfl rfl (D rfl (op_ld (M.at 0 rfl) rfl rfl) ?_)))))
  refine WS.call rfl rfl rfl (ref_ReadS_ran M.here (l := s) (by first | omega | (simp only [G, AX, Y, AQ, AZ, F]; omega) | (simp only [G, AX, Y, AQ, AZ, F] at *; omega))) ?_
  rintro _ h1 ⟨rfl, N2⟩
  have M3 := M.trans N2
  refine D rfl rfl (D rfl rfl (D rfl rfl (D rfl rfl (D rfl rfl (D rfl rfl (D rfl rfl (J [(0, _), (3, _), (4, _), (5, _)] rfl ?_)))))))
  refine U (X (D rfl rfl (D rfl rfl (D rfl rfl (D rfl rfl (D rfl (op_ld (M3.at 0 rfl) rfl rfl) (D rfl rfl ?_)))))))
  cases hb1 : w
  ·
   refine WS.off rfl (D rfl rfl (D rfl rfl (D rfl rfl ?_)))
   refine WS.st1 (M3.focus 0 rfl) [_] [_, _] rfl rfl rfl rfl rfl (C rfl) (C rfl) rfl rfl ?_
   intro h5 M6
   replace M6 : Mem _ _ ([(r, _)] :: L) _ := M6
   refine J [(0, _), (3, _), (4, _)] rfl ?_
   refine U (X (D rfl rfl (D rfl rfl (D rfl rfl (D rfl rfl (D rfl (op_ld (M6.at 0 rfl) rfl rfl) (D rfl rfl (D rfl (op_slS0 (l := s) (rsK s) rfl rfl (by first | omega | (simp only [G, AX, Y, AQ, AZ, F]; omega) | (simp only [G, AX, Y, AQ, AZ, F] at *; omega))) (D rfl rfl (D rfl rfl ?_))))))))))
   refine WS.st1 (M6.focus 0 rfl) [_] [_, _] rfl rfl rfl rfl rfl (C rfl) (C rfl) rfl rfl ?_
   intro h7 M8
   replace M8 : Mem _ _ ([(r, _)] :: L) _ := M8
   refine J [(3, _)] rfl ?_
   refine U (X (D rfl rfl (D rfl rfl (J [(2, _)] rfl ?_))))
   refine WC.ret (⟨[_], (res_tmp rfl res_nil), ?_⟩)
   exact ⟨((s).drop (rsK s)), false, rsT s, rfl, M8, by rw [G]; omega, hrs, fun q => (nomatch q), fun u t hu v e => by exfalso; first | (cases v; done) | (rw [hb1] at v; cases v; done)⟩
  ·
   refine D rfl rfl (D rfl rfl (D rfl rfl (D rfl rfl ?_)))
   refine WS.st1 (M3.focus 0 rfl) [_] [_, _] rfl rfl rfl rfl rfl (C rfl) (C rfl) rfl rfl ?_
   intro h9 M10
   replace M10 : Mem _ _ ([(r, _)] :: L) _ := M10
   refine J [(0, _), (3, _), (4, _)] rfl ?_
   refine U (X (D rfl rfl (D rfl rfl (D rfl rfl (D rfl rfl (D rfl (op_ld (M10.at 0 rfl) rfl rfl) (D rfl rfl (D rfl (op_slS0 (l := s) (rsK s) rfl rfl (by first | omega | (simp only [G, AX, Y, AQ, AZ, F]; omega) | (simp only [G, AX, Y, AQ, AZ, F] at *; omega))) (D rfl rfl (D rfl rfl ?_))))))))))
   refine WS.st1 (M10.focus 0 rfl) [_] [_, _] rfl rfl rfl rfl rfl (C rfl) (C rfl) rfl rfl ?_
   intro h11 M12
   replace M12 : Mem _ _ ([(r, _)] :: L) _ := M12
   refine J [(3, _)] rfl ?_
   refine U (X (D rfl rfl (D rfl rfl (J [(2, _)] rfl ?_))))
   refine WC.ret (⟨[_], (res_tmp rfl res_nil), ?_⟩)
   exact ⟨((s).drop (rsK s)), (rsOK s), rsT s, rfl, M12, by rw [G]; omega, hrs, fun q => ⟨by first | assumption | rfl, (getS_some (show getS s = some (rsT s, rsK s) by rw [getS_eq, q]; rfl)).1⟩, fun u t hu v e => by obtain ⟨f1, f2, f3⟩ := rs_eq_some (show getS s = some (u, (sb u).length) by rw [e]; exact getS_sb hu t); exact ⟨f3, f1, by rw [f2, e, List.drop_left]⟩⟩
theorem tk_token_ran {r : Nat} {s : List UInt8} {w : Bool} (M : Mem base h ([(r, ⟨[.string (bs s), .bool w], 0, false⟩)] :: L) []) (hl : s.length ≤ 1000000) :
    Cll tab0 70 [.pointer (some ⟨r, 0, none⟩)] h (fun v h2 => ∃ s' w' c0 c1 c2 c3 c4 c5 c6 c7, v = .agg #[.int .u8 ((UInt8.toNat c0 : Nat) : Int), .int .u8 ((UInt8.toNat c1 : Nat) : Int), .int .u8 ((UInt8.toNat c2 : Nat) : Int), .int .u8 ((UInt8.toNat c3 : Nat) : Int), .int .u8 ((UInt8.toNat c4 : Nat) : Int), .int .u8 ((UInt8.toNat c5 : Nat) : Int), .int .u8 ((UInt8.toNat c6 : Nat) : Int), .int .u8 ((UInt8.toNat c7 : Nat) : Int)] ∧ Mem base h2 ([(r, ⟨[.string (bs s'), .bool w'], 0, false⟩)] :: L) [] ∧ s'.length ≤ s.length ∧ (w' = true → w = true ∧ s = [c0, c1, c2, c3, c4, c5, c6, c7] ++ s') ∧ (∀ k0 k1 k2 k3 k4 k5 k6 k7 t, w = true → s = [k0, k1, k2, k3, k4, k5, k6, k7] ++ t → w' = true ∧ (c0 = k0 ∧ c1 = k1 ∧ c2 = k2 ∧ c3 = k3 ∧ c4 = k4 ∧ c5 = k5 ∧ c6 = k6 ∧ c7 = k7) ∧ s' = t)) := by
  refine Cll.code rfl rfl ?_
  refine WC.env [(0, _)] rfl ?_
  refine U (X (WS.new M rfl ?_))
  intro p1 h2 M3
  refine J [(0, _), (2, _)] rfl ?_
  refine U (X (WS.new M3 rfl ?_))
  intro p4 h5 M6
  refine J [(0, _), (2, _), (3, _)] rfl ?_
  refine U (U (X (D rfl rfl (J [(0, _), (2, _), (3, _), (4, _)] rfl ?_))))
  refine WC.block (WC.unroll [(0, _), (2, _), (3, _), (4, _)] rfl ?_)
  refine U (U (X (D rfl rfl (WS.opV (.bool true) rfl rfl rfl (J [(0, _), (2, _), (3, _), (4, _), (6, _)] rfl ?_)))))
  refine WC.condT rfl (WC.skip (U (WC.block (X (D rfl rfl (D rfl rfl ?_))))))
  refine WS.call rfl rfl rfl (tk_byte_ran (s := s) (w := w) (M6.focus 2 rfl) (by omega)) ?_
  rintro _ h7 ⟨s7_, b7_, m7_, rfl, M8, R7_⟩
  have R7_l := R7_.1
  replace M8 : Mem _ _ ([(r, _)] :: [(p4, _)] :: [(p1, _)] :: L) _ := M8
  refine WS.opV (.int .u8 (((m7_).toNat : Nat) : Int)) rfl rfl (cv_u8 (n := (m7_).toNat) (by have := UInt8.toNat_lt (m7_); omega)) (D rfl rfl ?_)
  refine WS.st1 (M8.focus 1 rfl) [_] [_, _, _, _, _, _, _, _] rfl rfl rfl rfl rfl (C rfl) (C rfl) rfl rfl ?_
  intro h9 M10
  replace M10 : Mem _ _ ([(p4, _)] :: [(r, _)] :: [(p1, _)] :: L) _ := M10
  refine J [(0, _), (2, _), (3, _), (4, _)] rfl ?_
  refine X (D rfl rfl (WS.opV (.int .i64 1) rfl rfl rfl (D rfl rfl (J [(0, _), (2, _), (3, _), (4, _)] rfl ?_))))
  refine WC.unroll [(0, _), (2, _), (3, _), (4, _)] rfl ?_
  refine U (U (X (D rfl rfl (WS.opV (.bool true) rfl rfl rfl (J [(0, _), (2, _), (3, _), (4, _), (6, _)] rfl ?_)))))
  refine WC.condT rfl (WC.skip (U (WC.block (X (D rfl rfl (D rfl rfl ?_))))))
  refine WS.call rfl rfl rfl (tk_byte_ran (s := s7_) (w := b7_) (M10.focus 1 rfl) (by omega)) ?_
  rintro _ h11 ⟨s11_, b11_, m11_, rfl, M12, R11_⟩
  have R11_l := R11_.1
  replace M12 : Mem _ _ ([(r, _)] :: [(p4, _)] :: [(p1, _)] :: L) _ := M12
  refine WS.opV (.int .u8 (((m11_).toNat : Nat) : Int)) rfl rfl (cv_u8 (n := (m11_).toNat) (by have := UInt8.toNat_lt (m11_); omega)) (D rfl rfl ?_)
  refine WS.st1 (M12.focus 1 rfl) [_] [_, _, _, _, _, _, _, _] rfl rfl rfl rfl rfl (C rfl) (C rfl) rfl rfl ?_
  intro h13 M14
  replace M14 : Mem _ _ ([(p4, _)] :: [(r, _)] :: [(p1, _)] :: L) _ := M14
  refine J [(0, _), (2, _), (3, _), (4, _)] rfl ?_
  refine X (D rfl rfl (WS.opV (.int .i64 2) rfl rfl rfl (D rfl rfl (J [(0, _), (2, _), (3, _), (4, _)] rfl ?_))))
  refine WC.unroll [(0, _), (2, _), (3, _), (4, _)] rfl ?_
  refine U (U (X (D rfl rfl (WS.opV (.bool true) rfl rfl rfl (J [(0, _), (2, _), (3, _), (4, _), (6, _)] rfl ?_)))))
  refine WC.condT rfl (WC.skip (U (WC.block (X (D rfl rfl (D rfl rfl ?_))))))
  refine WS.call rfl rfl rfl (tk_byte_ran (s := s11_) (w := b11_) (M14.focus 1 rfl) (by omega)) ?_
  rintro _ h15 ⟨s15_, b15_, m15_, rfl, M16, R15_⟩
  have R15_l := R15_.1
  replace M16 : Mem _ _ ([(r, _)] :: [(p4, _)] :: [(p1, _)] :: L) _ := M16
  refine WS.opV (.int .u8 (((m15_).toNat : Nat) : Int)) rfl rfl (cv_u8 (n := (m15_).toNat) (by have := UInt8.toNat_lt (m15_); omega)) (D rfl rfl ?_)
  refine WS.st1 (M16.focus 1 rfl) [_] [_, _, _, _, _, _, _, _] rfl rfl rfl rfl rfl (C rfl) (C rfl) rfl rfl ?_
  intro h17 M18
  replace M18 : Mem _ _ ([(p4, _)] :: [(r, _)] :: [(p1, _)] :: L) _ := M18
  refine J [(0, _), (2, _), (3, _), (4, _)] rfl ?_
  refine X (D rfl rfl (WS.opV (.int .i64 3) rfl rfl rfl (D rfl rfl (J [(0, _), (2, _), (3, _), (4, _)] rfl ?_))))
  refine WC.unroll [(0, _), (2, _), (3, _), (4, _)] rfl ?_
  refine U (U (X (D rfl rfl (WS.opV (.bool true) rfl rfl rfl (J [(0, _), (2, _), (3, _), (4, _), (6, _)] rfl ?_)))))
  refine WC.condT rfl (WC.skip (U (WC.block (X (D rfl rfl (D rfl rfl ?_))))))
  refine WS.call rfl rfl rfl (tk_byte_ran (s := s15_) (w := b15_) (M18.focus 1 rfl) (by omega)) ?_
  rintro _ h19 ⟨s19_, b19_, m19_, rfl, M20, R19_⟩
  have R19_l := R19_.1
  replace M20 : Mem _ _ ([(r, _)] :: [(p4, _)] :: [(p1, _)] :: L) _ := M20
  refine WS.opV (.int .u8 (((m19_).toNat : Nat) : Int)) rfl rfl (cv_u8 (n := (m19_).toNat) (by have := UInt8.toNat_lt (m19_); omega)) (D rfl rfl ?_)
  refine WS.st1 (M20.focus 1 rfl) [_] [_, _, _, _, _, _, _, _] rfl rfl rfl rfl rfl (C rfl) (C rfl) rfl rfl ?_
  intro h21 M22
  replace M22 : Mem _ _ ([(p4, _)] :: [(r, _)] :: [(p1, _)] :: L) _ := M22
  refine J [(0, _), (2, _), (3, _), (4, _)] rfl ?_
  refine X (D rfl rfl (WS.opV (.int .i64 4) rfl rfl rfl (D rfl rfl (J [(0, _), (2, _), (3, _), (4, _)] rfl ?_))))
  refine WC.unroll [(0, _), (2, _), (3, _), (4, _)] rfl ?_
  refine U (U (X (D rfl rfl (WS.opV (.bool true) rfl rfl rfl (J [(0, _), (2, _), (3, _), (4, _), (6, _)] rfl ?_)))))
  refine WC.condT rfl (WC.skip (U (WC.block (X (D rfl rfl (D rfl rfl ?_))))))
  refine WS.call rfl rfl rfl (tk_byte_ran (s := s19_) (w := b19_) (M22.focus 1 rfl) (by omega)) ?_
  rintro _ h23 ⟨s23_, b23_, m23_, rfl, M24, R23_⟩
  have R23_l := R23_.1
  replace M24 : Mem _ _ ([(r, _)] :: [(p4, _)] :: [(p1, _)] :: L) _ := M24
  refine WS.opV (.int .u8 (((m23_).toNat : Nat) : Int)) rfl rfl (cv_u8 (n := (m23_).toNat) (by have := UInt8.toNat_lt (m23_); omega)) (D rfl rfl ?_)
  refine WS.st1 (M24.focus 1 rfl) [_] [_, _, _, _, _, _, _, _] rfl rfl rfl rfl rfl (C rfl) (C rfl) rfl rfl ?_
  intro h25 M26
  replace M26 : Mem _ _ ([(p4, _)] :: [(r, _)] :: [(p1, _)] :: L) _ := M26
  refine J [(0, _), (2, _), (3, _), (4, _)] rfl ?_
  refine X (D rfl rfl (WS.opV (.int .i64 5) rfl rfl rfl (D rfl rfl (J [(0, _), (2, _), (3, _), (4, _)] rfl ?_))))
  refine WC.unroll [(0, _), (2, _), (3, _), (4, _)] rfl ?_
  refine U (U (X (D rfl rfl (WS.opV (.bool true) rfl rfl rfl (J [(0, _), (2, _), (3, _), (4, _), (6, _)] rfl ?_)))))
  refine WC.condT rfl (WC.skip (U (WC.block (X (D rfl rfl (D rfl rfl ?_))))))
  refine WS.call rfl rfl rfl (tk_byte_ran (s := s23_) (w := b23_) (M26.focus 1 rfl) (by omega)) ?_
  rintro _ h27 ⟨s27_, b27_, m27_, rfl, M28, R27_⟩
  have R27_l := R27_.1
  replace M28 : Mem _ _ ([(r, _)] :: [(p4, _)] :: [(p1, _)] :: L) _ := M28
  refine WS.opV (.int .u8 (((m27_).toNat : Nat) : Int)) rfl rfl (cv_u8 (n := (m27_).toNat) (by have := UInt8.toNat_lt (m27_); omega)) (D rfl rfl ?_)
  refine WS.st1 (M28.focus 1 rfl) [_] [_, _, _, _, _, _, _, _] rfl rfl rfl rfl rfl (C rfl) (C rfl) rfl rfl ?_
  intro h29 M30
  replace M30 : Mem _ _ ([(p4, _)] :: [(r, _)] :: [(p1, _)] :: L) _ := M30
  refine J [(0, _), (2, _), (3, _), (4, _)] rfl ?_
  refine X (D rfl rfl (WS.opV (.int .i64 6) rfl rfl rfl (D rfl rfl (J [(0, _), (2, _), (3, _), (4, _)] rfl ?_))))
  refine WC.unroll [(0, _), (2, _), (3, _), (4, _)] rfl ?_
  refine U (U (X (D rfl rfl (WS.opV (.bool true) rfl rfl rfl (J [(0, _), (2, _), (3, _), (4, _), (6, _)] rfl ?_)))))
  refine WC.condT rfl (WC.skip (U (WC.block (X (D rfl rfl (D rfl rfl ?_))))))
  refine WS.call rfl rfl rfl (tk_byte_ran (s := s27_) (w := b27_) (M30.focus 1 rfl) (by omega)) ?_
  rintro _ h31 ⟨s31_, b31_, m31_, rfl, M32, R31_⟩
  have R31_l := R31_.1
  replace M32 : Mem _ _ ([(r, _)] :: [(p4, _)] :: [(p1, _)] :: L) _ := M32
  refine WS.opV (.int .u8 (((m31_).toNat : Nat) : Int)) rfl rfl (cv_u8 (n := (m31_).toNat) (by have := UInt8.toNat_lt (m31_); omega)) (D rfl rfl ?_)
  refine WS.st1 (M32.focus 1 rfl) [_] [_, _, _, _, _, _, _, _] rfl rfl rfl rfl rfl (C rfl) (C rfl) rfl rfl ?_
  intro h33 M34
  replace M34 : Mem _ _ ([(p4, _)] :: [(r, _)] :: [(p1, _)] :: L) _ := M34
  refine J [(0, _), (2, _), (3, _), (4, _)] rfl ?_
  refine X (D rfl rfl (WS.opV (.int .i64 7) rfl rfl rfl (D rfl rfl (J [(0, _), (2, _), (3, _), (4, _)] rfl ?_))))
  refine WC.unroll [(0, _), (2, _), (3, _), (4, _)] rfl ?_
  refine U (U (X (D rfl rfl (WS.opV (.bool true) rfl rfl rfl (J [(0, _), (2, _), (3, _), (4, _), (6, _)] rfl ?_)))))
  refine WC.condT rfl (WC.skip (U (WC.block (X (D rfl rfl (D rfl rfl ?_))))))
  refine WS.call rfl rfl rfl (tk_byte_ran (s := s31_) (w := b31_) (M34.focus 1 rfl) (by omega)) ?_
  rintro _ h35 ⟨s35_, b35_, m35_, rfl, M36, R35_⟩
  have R35_l := R35_.1
  replace M36 : Mem _ _ ([(r, _)] :: [(p4, _)] :: [(p1, _)] :: L) _ := M36
  refine WS.opV (.int .u8 (((m35_).toNat : Nat) : Int)) rfl rfl (cv_u8 (n := (m35_).toNat) (by have := UInt8.toNat_lt (m35_); omega)) (D rfl rfl ?_)
  refine WS.st1 (M36.focus 1 rfl) [_] [_, _, _, _, _, _, _, _] rfl rfl rfl rfl rfl (C rfl) (C rfl) rfl rfl ?_
  intro h37 M38
  replace M38 : Mem _ _ ([(p4, _)] :: [(r, _)] :: [(p1, _)] :: L) _ := M38
  refine J [(0, _), (2, _), (3, _), (4, _)] rfl ?_
  refine X (D rfl rfl (WS.opV (.int .i64 8) rfl rfl rfl (D rfl rfl (J [(0, _), (2, _), (3, _), (4, _)] rfl ?_))))
  refine WC.unroll [(0, _), (2, _), (3, _), (4, _)] rfl ?_
  refine U (U (X (D rfl rfl (WS.opV (.bool false) rfl rfl rfl (J [(0, _), (2, _), (3, _), (4, _), (6, _)] rfl ?_)))))
  refine WC.condF rfl (WC.exit ?_)
  refine U (X (D rfl (op_lds [_, _, _, _, _, _, _, _] (M38.at 0 rfl) rfl (C rfl) rfl) ?_))
  refine WS.st1 (M38.focus 2 rfl) [_, _, _, _, _, _, _, _] [_, _, _, _, _, _, _, _] rfl rfl rfl rfl rfl (C rfl) (C rfl) rfl rfl ?_
  intro h39 M40
  replace M40 : Mem _ _ ([(p1, _)] :: [(p4, _)] :: [(r, _)] :: L) _ := M40
  refine J [(2, _)] rfl ?_
  refine WC.ret (⟨[_], (res_cellN [_, _, _, _, _, _, _, _] rfl (M40.at 0 rfl) (C rfl) rfl res_nil), ?_⟩)
  refine ⟨_, _, m7_, m11_, m15_, m19_, m23_, m27_, m31_, m35_, rfl, (((M40.focus 0 rfl).drop).focus 0 rfl).drop, by omega, fun q => ?_, fun k0 k1 k2 k3 k4 k5 k6 k7 t u e => ?_⟩
  · obtain ⟨y7, e7⟩ := R35_.2.1 q
    obtain ⟨y6, e6⟩ := R31_.2.1 y7
    obtain ⟨y5, e5⟩ := R27_.2.1 y6
    obtain ⟨y4, e4⟩ := R23_.2.1 y5
    obtain ⟨y3, e3⟩ := R19_.2.1 y4
    obtain ⟨y2, e2⟩ := R15_.2.1 y3
    obtain ⟨y1, e1⟩ := R11_.2.1 y2
    obtain ⟨y0, e0⟩ := R7_.2.1 y1
    exact ⟨y0, by rw [e0, e1, e2, e3, e4, e5, e6, e7]; rfl⟩
  · obtain ⟨a0, b0, d0⟩ := R7_.2.2 k0 ([k1, k2, k3, k4, k5, k6, k7] ++ t) u (by rw [e]; rfl)
    obtain ⟨a1, b1, d1⟩ := R11_.2.2 k1 ([k2, k3, k4, k5, k6, k7] ++ t) a0 (by rw [d0]; rfl)
    obtain ⟨a2, b2, d2⟩ := R15_.2.2 k2 ([k3, k4, k5, k6, k7] ++ t) a1 (by rw [d1]; rfl)
    obtain ⟨a3, b3, d3⟩ := R19_.2.2 k3 ([k4, k5, k6, k7] ++ t) a2 (by rw [d2]; rfl)
    obtain ⟨a4, b4, d4⟩ := R23_.2.2 k4 ([k5, k6, k7] ++ t) a3 (by rw [d3]; rfl)
    obtain ⟨a5, b5, d5⟩ := R27_.2.2 k5 ([k6, k7] ++ t) a4 (by rw [d4]; rfl)
    obtain ⟨a6, b6, d6⟩ := R31_.2.2 k6 ([k7] ++ t) a5 (by rw [d5]; rfl)
    obtain ⟨a7, b7, d7⟩ := R35_.2.2 k7 ([] ++ t) a6 (by rw [d6]; rfl)
    exact ⟨a7, ⟨b0, b1, b2, b3, b4, b5, b6, b7⟩, d7⟩
def i31 (m : UInt64) : Int64 := if 2147483647 < m.toNat then 2147483648 else Int64.ofInt (m.toNat : Int)
theorem i31_big {m : UInt64} (h : 2147483647 < m.toNat) : (i31 m).toInt = 2147483648 := by unfold i31; rw [if_pos h]; rfl
theorem i31_small {m : UInt64} (h : m.toNat ≤ 2147483647) : (i31 m).toInt = ((m.toNat : Nat) : Int) := by
  unfold i31; rw [if_neg (by omega), Int64.toInt_ofInt_of_le (by omega) (by omega)]
theorem i31_nu {x : Int64} (h : Sm x.toInt) : i31 (nu x) = x := by
  have h1 := nu_nat h
  have h2 := h
  unfold Sm at h2
  apply Int64.toInt_inj.1
  rw [i31_small (by omega), h1]
theorem nu_i31 {m : UInt64} (h : Sm (i31 m).toInt) : (nu (i31 m)).toNat = m.toNat := by
  have h1 := nu_nat h
  unfold Sm at h
  by_cases q : 2147483647 < m.toNat
  · rw [i31_big q] at h; omega
  · rw [i31_small (by omega)] at h1; omega
theorem tk_int31_ran {r : Nat} {s : List UInt8} {w : Bool} (M : Mem base h ([(r, ⟨[.string (bs s), .bool w], 0, false⟩)] :: L) []) (hl : s.length ≤ 1000000) :
    Cll tab0 69 [.pointer (some ⟨r, 0, none⟩)] h (fun v h2 => ∃ s' w' c, v = .int .i64 (i31 c).toInt ∧ Mem base h2 ([(r, ⟨[.string (bs s'), .bool w'], 0, false⟩)] :: L) [] ∧ s'.length ≤ s.length ∧ (w' = true → w = true ∧ s = vb c.toNat ++ s') ∧ (∀ (m : Nat) t, m < 18446744073709551616 → w = true → s = vb m ++ t → w' = true ∧ c.toNat = m ∧ s' = t)) := by
  refine Cll.code rfl rfl ?_
  refine WC.env [(0, _)] rfl ?_
  refine U (X (D rfl rfl (J [(0, _)] rfl ?_)))
  refine U (X (D rfl rfl ?_))
  refine WS.call rfl rfl rfl (tk_number_ran (s := s) (w := w) (M.focus 0 rfl) (by omega)) ?_
  rintro _ h1 ⟨s1_, b1_, m1_, rfl, M2, R1_⟩
  have R1_l := R1_.1
  replace M2 : Mem _ _ ([(r, _)] :: L) _ := M2
  refine D rfl rfl (J [(3, _)] rfl ?_)
  refine U (U (X (D rfl rfl ?_)))
  refine WS.gtrN (a := (m1_).toNat) (b := 2147483647) rfl rfl rfl (fun e7 => ?_) (fun e7 => ?_)
  ·
   refine J [(3, _), (7, _)] rfl ?_
   refine WC.condT rfl (U (X (D rfl rfl (J [(2, _)] rfl ?_))))
   refine WC.ret (⟨[_], (res_tmp rfl res_nil), ?_⟩)
   exact ⟨_, _, m1_, by rw [i31_big (by omega)]; rfl, M2, R1_⟩
  ·
   refine J [(3, _), (7, _)] rfl ?_
   refine WC.condF rfl (WC.skip (U (X (D rfl rfl (WS.opV (.int .i64 (((m1_).toNat : Nat) : Int)) rfl rfl (cv_i64 (n := (m1_).toNat) (by have := UInt64.toNat_lt (m1_); omega)) (D rfl rfl (J [(2, _)] rfl ?_)))))))
   refine WC.ret (⟨[_], (res_tmp rfl res_nil), ?_⟩)
   exact ⟨_, _, m1_, by rw [i31_small (by omega)]; rfl, M2, R1_⟩
end Go.Proofs.Yteikngjiaboeaaa.Wt
namespace Go.Proofs.Yteikngjiaboeaaa.Wt
open Go Go.Proofs.Yteikngjiaboeaaa.Am
set_option linter.unusedVariables false
set_option linter.unusedSimpArgs false
section
variable {α : Type} {Good : α → Prop} {enc : α → List UInt8} {z a b c : α} {s bh : List UInt8} {oa ob : Bool}
def Rd (Good : α → Prop) (enc : α → List UInt8) (z : α) (s : List UInt8) (c : α) (ok : Bool) : Prop := (ok = true → Good c ∧ enc c = s) ∧ (ok = false → c = z ∧ ∀ c0, Good c0 → enc c0 ≠ s)
def PF (Good : α → Prop) (enc : α → List UInt8) : Prop := ∀ (a b : α) (x y : List UInt8), Good a → Good b → enc a ++ x = enc b ++ y → a = b ∧ x = y
theorem rd_uniq (P : PF Good enc) (A : Rd Good enc z s a oa) (B : Rd Good enc z s b ob) : a = b ∧ oa = ob := by
  obtain ⟨a1, a2⟩ := A
  obtain ⟨b1, b2⟩ := B
  cases oa with
  | true =>
    obtain ⟨r1, e1⟩ := a1 rfl
    cases ob with
    | true => obtain ⟨r2, e2⟩ := b1 rfl; exact ⟨(P a b [] [] r1 r2 (by rw [e1, e2])).1, rfl⟩
    | false => exact absurd e1 ((b2 rfl).2 a r1)
  | false =>
    cases ob with
    | true => obtain ⟨r2, e2⟩ := b1 rfl; exact absurd e2 ((a2 rfl).2 b r2)
    | false => exact ⟨by rw [(a2 rfl).1, (b2 rfl).1], rfl⟩
theorem rd_self (P : PF Good enc) (g : Good c) (A : Rd Good enc z (enc c) a oa) : oa = true ∧ a = c := by
  obtain ⟨a1, a2⟩ := A
  cases oa with
  | true => obtain ⟨r1, e1⟩ := a1 rfl; exact ⟨rfl, (P a c [] [] r1 g (by rw [e1])).1⟩
  | false => exact absurd rfl ((a2 rfl).2 c g)
end
theorem vb_cancel {a b : Nat} (ha : a < 18446744073709551616) (hb : b < 18446744073709551616) {x y : List UInt8} (h : vb a ++ x = vb b ++ y) : a = b ∧ x = y := by
  have g1 := getV_vb ha x
  rw [h, getV_vb hb y] at g1
  have e : a = b := by simp at g1; exact g1.1.symm
  subst e
  exact ⟨rfl, List.append_cancel_left h⟩
theorem sb_cancel {a b : List UInt8} (ha : a.length < 18446744073709551616) (hb : b.length < 18446744073709551616) {x y : List UInt8} (h : sb a ++ x = sb b ++ y) : a = b ∧ x = y := by
  have g1 := getS_sb ha x
  rw [h, getS_sb hb y] at g1
  have e : a = b := by simp at g1; exact g1.1.symm
  subst e
  exact ⟨rfl, List.append_cancel_left h⟩
theorem sb_can {a b : List UInt8} (ha : a.length ≤ 300000) (hb : b.length ≤ 300000) {x y : List UInt8} (h : sb a ++ x = sb b ++ y) : a = b ∧ x = y := sb_cancel (by omega) (by omega) h
theorem n64c {a b : UInt64} {x y : List UInt8} (h : vb a.toNat ++ x = vb b.toNat ++ y) : a = b ∧ x = y := by
  obtain ⟨h1, h2⟩ := vb_cancel a.toNat_lt b.toNat_lt h
  exact ⟨u64_inj h1, h2⟩
def GoodC (c : Cmd) : Prop := MayC c ∧ Fit c
theorem parts_pf : ∀ {ps qs : List Part} {x y : List UInt8}, FitP ps → FitP qs → AllG ps → AllG qs → ps.length = qs.length → ps.flatMap partB ++ x = qs.flatMap partB ++ y → ps = qs ∧ x = y := by
  intro ps
  induction ps with
  | nil =>
    intro qs x y _ _ _ _ hl h
    have : qs = [] := List.eq_nil_of_length_eq_zero hl.symm
    subst this
    exact ⟨rfl, by simpa using h⟩
  | cons p ps ih =>
    intro qs x y f1 f2 g1 g2 hl h
    cases qs with
    | nil => simp at hl
    | cons q qs =>
      simp only [List.flatMap_cons, partB, List.append_assoc, List.cons_append, List.nil_append, List.cons.injEq] at h
      obtain ⟨h1, h⟩ := h
      have fp := f1 p (by simp)
      have fq := f2 q (by simp)
      obtain ⟨h2, h⟩ := sb_can fp.1 fq.1 h
      have gp := g1 p (by simp)
      have gq := g2 q (by simp)
      unfold GoodP at gp gq
      have tl : p.va = q.va ∧ ps.flatMap partB ++ x = qs.flatMap partB ++ y := by
        rw [h1] at h gp
        by_cases c : q.op.toNat = 2
        · rw [if_pos c] at h; exact sb_can fp.2 fq.2 (by rw [if_pos c] at h; exact h)
        · rw [if_neg c, List.nil_append] at h
          rw [if_neg c, List.nil_append] at h
          rcases gp with gp | gp
          · exact absurd gp c
          · rcases gq with gq | gq
            · exact absurd gq c
            · exact ⟨by rw [gp.2, gq.2], h⟩
      obtain ⟨e1, e2⟩ := ih (qs := qs) (x := x) (y := y) (fun z hz => f1 z (by simp [hz])) (fun z hz => f2 z (by simp [hz])) (fun z hz => g1 z (by simp [hz])) (fun z hz => g2 z (by simp [hz])) (by simpa using hl) tl.2
      refine ⟨?_, e2⟩
      obtain ⟨⟩ := p; obtain ⟨⟩ := q
      simp only at *
      rw [h1, h2, tl.1, e1]
theorem encC_pf : PF GoodC encC := by
  rintro a b x y ⟨ma, fa⟩ ⟨mb, fb⟩ h
  simp only [encC, headB, List.append_assoc, List.cons_append, List.nil_append, List.cons.injEq] at h
  obtain ⟨h1, h⟩ := h
  obtain ⟨n1, h⟩ := n64c h
  obtain ⟨n2, h⟩ := n64c h
  obtain ⟨a1, a2, a3, a4⟩ := ma
  obtain ⟨b1, b2, b3, b4⟩ := mb
  obtain ⟨f1, f2, f3, f4, f5, f6, f7⟩ := fa
  obtain ⟨g1, g2, g3, g4, g5, g6, g7⟩ := fb
  have ho : a.op.toNat = b.op.toNat := by rw [h1]
  by_cases k1 : a.op.toNat = 1 ∨ a.op.toNat = 6
  · skip
    obtain ⟨p1, p2⟩ := enc_1 (c := a) k1
    obtain ⟨r1, r2⟩ := enc_1 (c := b) (by rw [← ho]; exact k1)
    rw [p2, r2] at h
    try simp only [List.append_assoc, List.cons_append, List.nil_append, List.cons.injEq] at h
    obtain ⟨e0, h⟩ := n64c h
    exact ⟨by rw [a2, b2, p1, r1]; simp only [blank]; rw [h1, n1, n2, e0], h⟩
  by_cases k2 : a.op.toNat = 2
  · skip
    obtain ⟨p1, p2⟩ := enc_2 (c := a) k2
    obtain ⟨r1, r2⟩ := enc_2 (c := b) (by rw [← ho]; exact k2)
    rw [p2, r2] at h
    try simp only [List.append_assoc, List.cons_append, List.nil_append, List.cons.injEq] at h
    obtain ⟨e0, h⟩ := sb_can f1 g1 h
    obtain ⟨e1, h⟩ := sb_can f2 g2 h
    obtain ⟨e2, h⟩ := n64c h
    exact ⟨by rw [a2, b2, p1, r1]; simp only [blank]; rw [h1, n1, n2, e0, e1, e2], h⟩
  by_cases k3 : a.op.toNat = 3 ∨ a.op.toNat = 8
  · skip
    obtain ⟨p1, p2⟩ := enc_3 (c := a) k3
    obtain ⟨r1, r2⟩ := enc_3 (c := b) (by rw [← ho]; exact k3)
    rw [p2, r2] at h
    try simp only [List.append_assoc, List.cons_append, List.nil_append, List.cons.injEq] at h
    obtain ⟨e0, h⟩ := sb_can f1 g1 h
    exact ⟨by rw [a2, b2, p1, r1]; simp only [blank]; rw [h1, n1, n2, e0], h⟩
  by_cases k4 : a.op.toNat = 4
  · skip
    obtain ⟨p1, p2⟩ := enc_4 (c := a) k4
    obtain ⟨r1, r2⟩ := enc_4 (c := b) (by rw [← ho]; exact k4)
    rw [p2, r2] at h
    try simp only [List.append_assoc, List.cons_append, List.nil_append, List.cons.injEq] at h
    obtain ⟨e0, h⟩ := sb_can f1 g1 h
    obtain ⟨e1, h⟩ := sb_can f3 g3 h
    obtain ⟨e2, h⟩ := sb_can f2 g2 h
    exact ⟨by rw [a2, b2, p1, r1]; simp only [blank]; rw [h1, n1, n2, e0, e1, e2], h⟩
  by_cases k5 : a.op.toNat = 5
  · skip
    obtain ⟨p1, p2⟩ := enc_5 (c := a) k5
    obtain ⟨r1, r2⟩ := enc_5 (c := b) (by rw [← ho]; exact k5)
    rw [p2, r2] at h
    try simp only [List.append_assoc, List.cons_append, List.nil_append, List.cons.injEq] at h
    obtain ⟨hc, h⟩ := h
    have hl : a.ps.length = b.ps.length := by
      have q1 := (a3 k5).2
      have q2 := (b3 (by rw [← ho]; exact k5)).2
      have := congrArg UInt8.toNat hc
      rw [toNat_ofNat (by omega), toNat_ofNat (by omega)] at this; exact this
    obtain ⟨e0, h⟩ := parts_pf f7 g7 a4 b4 hl h
    exact ⟨by rw [a2, b2, p1, r1]; simp only [blank]; rw [h1, n1, n2, e0], h⟩
  by_cases k7 : a.op.toNat = 7
  · skip
    obtain ⟨p1, p2⟩ := enc_7 (c := a) k7
    obtain ⟨r1, r2⟩ := enc_7 (c := b) (by rw [← ho]; exact k7)
    rw [p2, r2] at h
    try simp only [List.append_assoc, List.cons_append, List.nil_append, List.cons.injEq] at h
    obtain ⟨e0, h⟩ := n64c h
    exact ⟨by rw [a2, b2, p1, r1]; simp only [blank]; rw [h1, n1, n2, e0], h⟩
  by_cases k9 : a.op.toNat = 9
  · skip
    obtain ⟨p1, p2⟩ := enc_9 (c := a) k9
    obtain ⟨r1, r2⟩ := enc_9 (c := b) (by rw [← ho]; exact k9)
    rw [p2, r2] at h
    try simp only [List.append_assoc, List.cons_append, List.nil_append, List.cons.injEq] at h
    obtain ⟨e0, h⟩ := sb_can f4 g4 h
    obtain ⟨e1, h⟩ := sb_can f5 g5 h
    obtain ⟨e2, h⟩ := List.cons.inj h
    exact ⟨by rw [a2, b2, p1, r1]; simp only [blank]; rw [h1, n1, n2, e0, e1, e2], h⟩
  have k0 : ¬ (1 ≤ a.op.toNat ∧ a.op.toNat ≤ 9) := by omega
  obtain ⟨p1, p2⟩ := enc_0 (c := a) k0
  obtain ⟨r1, r2⟩ := enc_0 (c := b) (by rw [← ho]; exact k0)
  rw [p2, r2] at h
  try simp only [List.append_assoc, List.cons_append, List.nil_append, List.cons.injEq] at h
  exact ⟨by rw [a2, b2, p1, r1]; simp only [blank]; rw [h1, n1, n2], h⟩
theorem nu_inj {x y : Int64} (hx : Sm x.toInt) (hy : Sm y.toInt) (h : nu x = nu y) : x = y := by rw [← iz_nu hx, ← iz_nu hy, h]
theorem encO_pf : PF MayO encO := by
  rintro a b x y ma mb h
  have h1 : a.op = b.op := by
    rw [encO_cons a, encO_cons b] at h
    simp only [List.cons_append, List.cons.injEq] at h; exact h.1
  have ho : a.op.toNat = b.op.toNat := by rw [h1]
  have ea := ma.2.1
  have eb := mb.2.1
  obtain ⟨x1, x2, x3, x4⟩ := ma.2.2.2.2.2
  obtain ⟨y1, y2, y3, y4⟩ := mb.2.2.2.2.2
  have r1 := ma.1
  by_cases k1 : a.op.toNat = 1
  · skip
    rw [encO_1 k1, encO_1 (by rw [← ho]; exact k1)] at h
    rw [plainO_1 k1] at ea
    rw [plainO_1 (by rw [← ho]; exact k1)] at eb
    simp only [Oper.tok, List.append_assoc, List.cons_append, List.nil_append, List.cons.injEq] at h
    obtain ⟨_, h⟩ := h
    obtain ⟨e0, h⟩ := h
    obtain ⟨e1, h⟩ := n64c h
    obtain ⟨e2, h⟩ := n64c h
    obtain ⟨e3, h⟩ := n64c h
    obtain ⟨e4, h⟩ := n64c h
    exact ⟨by rw [ea, eb]; rw [h1, e0, nu_inj x1 y1 e1, nu_inj x2 y2 e2, nu_inj x3 y3 e3, nu_inj x4 y4 e4], h⟩
  by_cases k2 : a.op.toNat = 2
  · skip
    rw [encO_2 k2, encO_2 (by rw [← ho]; exact k2)] at h
    rw [plainO_2 k2] at ea
    rw [plainO_2 (by rw [← ho]; exact k2)] at eb
    simp only [Oper.tok, List.append_assoc, List.cons_append, List.nil_append, List.cons.injEq] at h
    obtain ⟨_, h⟩ := h
    obtain ⟨e0, h⟩ := h
    obtain ⟨w0, w1, w2, w3, w4, w5, w6, w7, h⟩ := h
    obtain ⟨e2, h⟩ := h
    exact ⟨by rw [ea, eb]; rw [h1, e0, w0, w1, w2, w3, w4, w5, w6, w7, e2], h⟩
  by_cases k3 : a.op.toNat = 3
  · skip
    rw [encO_3 k3, encO_3 (by rw [← ho]; exact k3)] at h
    rw [plainO_3 k3] at ea
    rw [plainO_3 (by rw [← ho]; exact k3)] at eb
    simp only [Oper.tok, List.append_assoc, List.cons_append, List.nil_append, List.cons.injEq] at h
    obtain ⟨_, h⟩ := h
    obtain ⟨w0, w1, w2, w3, w4, w5, w6, w7, h⟩ := h
    exact ⟨by rw [ea, eb]; rw [h1, w0, w1, w2, w3, w4, w5, w6, w7], h⟩
  by_cases k4 : a.op.toNat = 4
  · skip
    rw [encO_4 k4, encO_4 (by rw [← ho]; exact k4)] at h
    rw [plainO_4 k4] at ea
    rw [plainO_4 (by rw [← ho]; exact k4)] at eb
    simp only [Oper.tok, List.append_assoc, List.cons_append, List.nil_append, List.cons.injEq] at h
    obtain ⟨_, h⟩ := h
    obtain ⟨e0, h⟩ := h
    exact ⟨by rw [ea, eb]; rw [h1, e0], h⟩
  have k5 : 4 < a.op.toNat := by omega
  rw [encO_5 k5, encO_5 (by rw [← ho]; exact k5)] at h
  rw [plainO_5 k5] at ea
  rw [plainO_5 (by rw [← ho]; exact k5)] at eb
  simp only [Oper.tok, List.append_assoc, List.cons_append, List.nil_append, List.cons.injEq] at h
  obtain ⟨_, h⟩ := h
  obtain ⟨e0, h⟩ := h
  exact ⟨by rw [ea, eb]; rw [h1, e0], h⟩
theorem rows_pf : ∀ {ps qs : List Rrow} {x y : List UInt8}, FitR ps → FitR qs → ps.length = qs.length → ps.flatMap rowR ++ x = qs.flatMap rowR ++ y → ps = qs ∧ x = y := by
  intro ps
  induction ps with
  | nil =>
    intro qs x y _ _ hl h
    have : qs = [] := List.eq_nil_of_length_eq_zero hl.symm
    subst this
    exact ⟨rfl, by simpa using h⟩
  | cons p ps ih =>
    intro qs x y f1 f2 hl h
    cases qs with
    | nil => simp at hl
    | cons q qs =>
      simp only [List.flatMap_cons, rowR, List.append_assoc] at h
      have fp := f1 p (by simp)
      have fq := f2 q (by simp)
      obtain ⟨h1, h⟩ := sb_can fp.1 fq.1 h
      obtain ⟨h2, h⟩ := sb_can fp.2 fq.2 h
      obtain ⟨h3, h⟩ := n64c h
      obtain ⟨e1, e2⟩ := ih (qs := qs) (x := x) (y := y) (fun z hz => f1 z (by simp [hz])) (fun z hz => f2 z (by simp [hz])) (by simpa using hl) (by simpa [rowR] using h)
      refine ⟨?_, e2⟩
      obtain ⟨⟩ := p; obtain ⟨⟩ := q
      simp only at *
      rw [h1, h2, h3, e1]
theorem encR_pf : PF FitRes encR := by
  rintro a b x y ⟨f1, f2, f3⟩ ⟨g1, g2, g3⟩ h
  simp only [encR, headR, List.append_assoc, List.cons_append, List.nil_append, List.cons.injEq] at h
  obtain ⟨h1, h⟩ := h
  obtain ⟨h2, h⟩ := n64c h
  obtain ⟨h3, h⟩ := sb_can f1 g1 h
  obtain ⟨h4, h⟩ := vb_cancel (by omega) (by omega) h
  obtain ⟨h5, h⟩ := rows_pf f3 g3 h4 h
  refine ⟨?_, h⟩
  obtain ⟨⟩ := a; obtain ⟨⟩ := b
  simp only at *
  rw [h1, h2, h3, h5]
theorem RdR.rd {s : List UInt8} {c : Res} {ok : Bool} (h : RdR s c ok) (hf : FitRes c) : Rd FitRes encR zeroR s c ok :=
  ⟨fun q => ⟨hf, h.1 q⟩, h.2⟩
end Go.Proofs.Yteikngjiaboeaaa.Wt
namespace Go.Proofs.Yteikngjiaboeaaa.Wt
open Go Go.Proofs.Yteikngjiaboeaaa.Am Go.Proofs.Yteikngjiaboeaaa.IrAll
open Nat renaming le_of_ble_eq_true → C
open Go.Proofs.Yteikngjiaboeaaa.Am.WS renaming op → D
open Go.Proofs.Yteikngjiaboeaaa.Am.WS renaming nil → F
open Go.Proofs.Yteikngjiaboeaaa.Am.WC renaming run → G
open Go.Proofs.Yteikngjiaboeaaa.Am.WC renaming seq → J
open Go.Proofs.Yteikngjiaboeaaa.Am.WS renaming st1 → U
open Go.Proofs.Yteikngjiaboeaaa.Am.WS renaming call → X
open List renaming length_nil → Y
open Go.Proofs.Yteikngjiaboeaaa.Am.WS renaming opV → AQ
open Go.Proofs.Yteikngjiaboeaaa.Am.WS renaming off → AX
open Go.Proofs.Yteikngjiaboeaaa.Am.WC renaming condT → AZ
set_option linter.unusedVariables false
set_option linter.unusedSimpArgs false
variable {h base : H} {L : List Seg} {R : List Nat}
set_option maxRecDepth 8000 in
theorem refRead_ran (W : Mem h h [] []) {s : List UInt8} (hl : s.length ≤ 300000) : Cll tab0 45 [.string (bs s)] h (fun v h2 => ∃ c V S ok, KPart.Own V (Cmd.ps c) S ∧ v = .tuple #[c.val V, .bool ok] ∧ Fit c ∧ RdC s c ok ∧ Mem h h2 [S] []) := by
  refine Cll.code rfl rfl ?_
  refine WC.env [(0, _)] rfl ?_
  refine J (G (WS.new W rfl ?_))
  intro p1 h2 M3
  refine D rfl rfl (F [(0, _), (2, _)] rfl ?_)
  refine J (G (D rfl rfl (AQ (.agg #[(.string (bs s)), (.bool true)]) rfl rfl rfl ?_)))
  refine WS.box M3 [_, _] rfl rfl rfl rfl ?_
  intro p4 h5 M6
  refine D rfl rfl (F [(2, _), (4, _)] rfl ?_)
  refine J (G (D rfl rfl ?_))
  refine X rfl rfl rfl (tk_byte_ran (s := s) (w := true) (M6.focus 0 rfl) (by omega)) ?_
  rintro _ h7 ⟨s7_, b7_, m7_, rfl, M8, R7_⟩
  have R7_l := R7_.1
  replace M8 : Mem _ _ ([(p4, _)] :: [(p1, _)] :: []) _ := M8
  refine AQ (.int .u8 (((m7_).toNat : Nat) : Int)) rfl rfl (cv_u8 (n := (m7_).toNat) (by have := UInt8.toNat_lt (m7_); omega)) (AQ (.agg #[(.int .u8 (((m7_).toNat : Nat) : Int)), (.int .u64 (0 : Int)), (.int .u64 (0 : Int)), (.string (bs ([]))), (.string (bs ([]))), (.string (bs ([]))), (.string (bs ([]))), (.string (bs ([]))), (.int .u8 (0 : Int)), (.int .u64 (0 : Int)), (.int .u64 (0 : Int)), (.slice none 0 0)]) rfl rfl rfl ?_)
  refine WS.new M8 rfl ?_
  intro p9 h10 M11
  refine U (M11.focus 0 rfl) [_, _, _, _, _, _, _, _, _, _, _, _] [_, _, _, _, _, _, _, _, _, _, _, _] rfl rfl rfl rfl rfl (C rfl) (C rfl) rfl rfl ?_
  intro h12 M13
  replace M13 : Mem _ _ ([(p9, _)] :: [(p4, _)] :: [(p1, _)] :: []) _ := M13
  refine F [(2, _), (4, _), (5, _)] rfl ?_
  refine J (G (D rfl rfl ?_))
  refine X rfl rfl rfl (tk_number_ran (s := s7_) (w := b7_) (M13.focus 1 rfl) (by omega)) ?_
  rintro _ h14 ⟨s14_, b14_, m14_, rfl, M15, R14_⟩
  have R14_l := R14_.1
  replace M15 : Mem _ _ ([(p4, _)] :: [(p9, _)] :: [(p1, _)] :: []) _ := M15
  refine D rfl rfl ?_
  refine U (M15.focus 1 rfl) [_] [_, _, _, _, _, _, _, _, _, _, _, _] rfl rfl rfl rfl rfl (C rfl) (C rfl) rfl rfl ?_
  intro h16 M17
  replace M17 : Mem _ _ ([(p9, _)] :: [(p4, _)] :: [(p1, _)] :: []) _ := M17
  refine F [(2, _), (4, _), (5, _)] rfl ?_
  refine J (G (D rfl rfl ?_))
  refine X rfl rfl rfl (tk_number_ran (s := s14_) (w := b14_) (M17.focus 1 rfl) (by omega)) ?_
  rintro _ h18 ⟨s18_, b18_, m18_, rfl, M19, R18_⟩
  have R18_l := R18_.1
  replace M19 : Mem _ _ ([(p4, _)] :: [(p9, _)] :: [(p1, _)] :: []) _ := M19
  refine D rfl rfl ?_
  refine U (M19.focus 1 rfl) [_] [_, _, _, _, _, _, _, _, _, _, _, _] rfl rfl rfl rfl rfl (C rfl) (C rfl) rfl rfl ?_
  intro h20 M21
  replace M21 : Mem _ _ ([(p9, _)] :: [(p4, _)] :: [(p1, _)] :: []) _ := M21
  refine F [(2, _), (4, _), (5, _)] rfl ?_
  refine J (J (G (D rfl rfl (D rfl (op_ld (M21.at 0 rfl) rfl rfl) (F [(2, _), (4, _), (5, _), (23, _)] rfl ?_)))))
  refine WC.cutB (σ := List UInt8 × Bool × Cmd × Value × Seg × Env) (fun (sf_, wf_, c_, V_, S_, X_) => (2, (.pointer (some ⟨p1, 0, none⟩))) :: (4, (.pointer (some ⟨p4, 0, none⟩))) :: (5, (.pointer (some ⟨p9, 0, none⟩))) :: X_) (fun (sf_, wf_, c_, V_, S_, X_) hh => Mem h hh (S_ :: [(p4, ⟨[(.string (bs sf_)), (.bool wf_)], 0, false⟩)] :: [(p9, ⟨[(.int .u8 (((c_.op).toNat : Nat) : Int)), (.int .u64 (((c_.se).toNat : Nat) : Int)), (.int .u64 (((c_.sq).toNat : Nat) : Int)), (.string (bs c_.ky)), (.string (bs c_.va)), (.string (bs c_.ex)), (.string (bs c_.fr)), (.string (bs c_.to)), (.int .u8 (((c_.li).toNat : Nat) : Int)), (.int .u64 (((c_.le).toNat : Nat) : Int)), (.int .u64 (((c_.tt).toNat : Nat) : Int)), V_], 0, false⟩)] :: [(p1, ⟨[(.int .u8 (0 : Int)), (.int .u64 (0 : Int)), (.int .u64 (0 : Int)), (.string (bs ([]))), (.string (bs ([]))), (.string (bs ([]))), (.string (bs ([]))), (.string (bs ([]))), (.int .u8 (0 : Int)), (.int .u64 (0 : Int)), (.int .u64 (0 : Int)), (.slice none 0 0)], 0, false⟩)] :: []) [] ∧ KPart.Own V_ c_.ps S_ ∧ sf_.length ≤ s.length ∧ Fit c_ ∧ (wf_ = true → s = encC c_ ++ sf_) ∧ (∀ c0, MayC c0 → Fit c0 → s = encC c0 → wf_ = true ∧ c_ = c0 ∧ sf_ = [])) (WC.block ?_) ?_
  ·
   refine J (J (G (WS.eqlN (a := (m7_).toNat) (b := 1) rfl rfl rfl (fun e25 => ?_) (fun e25 => ?_))))
   ·
    refine D rfl rfl (F [(2, _), (4, _), (5, _), (23, _), (24, _)] rfl ?_)
    refine AZ rfl (WC.skip (AZ rfl (G (D rfl rfl ?_))))
    refine X rfl rfl rfl (tk_number_ran (s := s18_) (w := b18_) (M21.focus 1 rfl) (by omega)) ?_
    rintro _ h22 ⟨s22_, b22_, m22_, rfl, M23, R22_⟩
    have R22_l := R22_.1
    replace M23 : Mem _ _ ([(p4, _)] :: [(p9, _)] :: [(p1, _)] :: []) _ := M23
    refine D rfl rfl ?_
    refine U (M23.focus 1 rfl) [_] [_, _, _, _, _, _, _, _, _, _, _, _] rfl rfl rfl rfl rfl (C rfl) (C rfl) rfl rfl ?_
    intro h24 M25
    replace M25 : Mem _ _ ([(p9, _)] :: [(p4, _)] :: [(p1, _)] :: []) _ := M25
    refine F [(2, _), (4, _), (5, _)] rfl ?_
    refine ⟨(s22_, b22_, (⟨m7_, m14_, m18_, ([]), ([]), ([]), ([]), ([]), 0, 0, m22_, []⟩ : Cmd), .slice none 0 0, [], []), rfl, (((((M25.bare.focus 2 rfl).focus 1 rfl).focus 2 rfl).take 3)).nils, ?_⟩
    refine ⟨.nil, by omega, (by first | exact hF | (unfold Fit; dsimp only; exact ⟨by first | omega | simp, by first | omega | simp, by first | omega | simp, by first | omega | simp, by first | omega | simp, by first | omega | simp, by first | exact hF | (intro p hp; cases hp)⟩)), ?_, ?_⟩
    · intro q
      obtain ⟨y3, e3'⟩ := R22_.2.1 q
      obtain ⟨y2, e2'⟩ := R18_.2.1 y3
      obtain ⟨y1, e1'⟩ := R14_.2.1 y2
      obtain ⟨y0, e0'⟩ := R7_.2.1 y1
      obtain ⟨p1, p2⟩ := enc_1 (c := (⟨m7_, m14_, m18_, ([]), ([]), ([]), ([]), ([]), 0, 0, m22_, []⟩ : Cmd)) (by dsimp only; omega)
      unfold encC
      rw [p2]
      unfold headB
      dsimp only
      rw [e0', e1', e2', e3']
      simp
    · intro c0 hm hf0 he
      obtain ⟨a1, a2, a3⟩ := R7_.2.2 c0.op (vb c0.se.toNat ++ (vb c0.sq.toNat ++ bodyB c0)) rfl (by rw [he]; simp [encC, headB])
      obtain ⟨b1, b2, b3⟩ := R14_.2.2 c0.se.toNat _ c0.se.toNat_lt a1 a3
      obtain ⟨d1, d2, d3⟩ := R18_.2.2 c0.sq.toNat _ c0.sq.toNat_lt b1 b3
      obtain ⟨g1, g2, g3, g4, g5, g6, g7⟩ := id hf0
      obtain ⟨p1, p2⟩ := enc_1 (c := c0) (by rw [← a2]; omega)
      rw [p2] at d3
      obtain ⟨z0a, z0b, z0c⟩ := R22_.2.2 c0.tt.toNat ([]) (UInt64.toNat_lt _) d1 (by first | (rw [d3]; done) | (rw [d3]; simp))
      exact ⟨z0a, by rw [hm.2.1, p1]; simp only [blank]; rw [a2, u64_inj b2, u64_inj d2, u64_inj z0b], z0c⟩
   ·
    refine D rfl rfl (F [(2, _), (4, _), (5, _), (23, _), (24, _)] rfl ?_)
    refine WC.condF rfl (G (WS.eqlN (a := (m7_).toNat) (b := 6) rfl rfl rfl (fun e26 => ?_) (fun e26 => ?_)))
    ·
     refine D rfl rfl (F [(2, _), (4, _), (5, _), (23, _), (24, _)] rfl ?_)
     refine AZ rfl (G (D rfl rfl ?_))
     refine X rfl rfl rfl (tk_number_ran (s := s18_) (w := b18_) (M21.focus 1 rfl) (by omega)) ?_
     rintro _ h26 ⟨s26_, b26_, m26_, rfl, M27, R26_⟩
     have R26_l := R26_.1
     replace M27 : Mem _ _ ([(p4, _)] :: [(p9, _)] :: [(p1, _)] :: []) _ := M27
     refine D rfl rfl ?_
     refine U (M27.focus 1 rfl) [_] [_, _, _, _, _, _, _, _, _, _, _, _] rfl rfl rfl rfl rfl (C rfl) (C rfl) rfl rfl ?_
     intro h28 M29
     replace M29 : Mem _ _ ([(p9, _)] :: [(p4, _)] :: [(p1, _)] :: []) _ := M29
     refine F [(2, _), (4, _), (5, _)] rfl ?_
     refine ⟨(s26_, b26_, (⟨m7_, m14_, m18_, ([]), ([]), ([]), ([]), ([]), 0, 0, m26_, []⟩ : Cmd), .slice none 0 0, [], []), rfl, (((((M29.bare.focus 2 rfl).focus 1 rfl).focus 2 rfl).take 3)).nils, ?_⟩
     refine ⟨.nil, by omega, (by first | exact hF | (unfold Fit; dsimp only; exact ⟨by first | omega | simp, by first | omega | simp, by first | omega | simp, by first | omega | simp, by first | omega | simp, by first | omega | simp, by first | exact hF | (intro p hp; cases hp)⟩)), ?_, ?_⟩
     · intro q
       obtain ⟨y3, e3'⟩ := R26_.2.1 q
       obtain ⟨y2, e2'⟩ := R18_.2.1 y3
       obtain ⟨y1, e1'⟩ := R14_.2.1 y2
       obtain ⟨y0, e0'⟩ := R7_.2.1 y1
       obtain ⟨p1, p2⟩ := enc_1 (c := (⟨m7_, m14_, m18_, ([]), ([]), ([]), ([]), ([]), 0, 0, m26_, []⟩ : Cmd)) (by dsimp only; omega)
       unfold encC
       rw [p2]
       unfold headB
       dsimp only
       rw [e0', e1', e2', e3']
       simp
     · intro c0 hm hf0 he
       obtain ⟨a1, a2, a3⟩ := R7_.2.2 c0.op (vb c0.se.toNat ++ (vb c0.sq.toNat ++ bodyB c0)) rfl (by rw [he]; simp [encC, headB])
       obtain ⟨b1, b2, b3⟩ := R14_.2.2 c0.se.toNat _ c0.se.toNat_lt a1 a3
       obtain ⟨d1, d2, d3⟩ := R18_.2.2 c0.sq.toNat _ c0.sq.toNat_lt b1 b3
       obtain ⟨g1, g2, g3, g4, g5, g6, g7⟩ := id hf0
       obtain ⟨p1, p2⟩ := enc_1 (c := c0) (by rw [← a2]; omega)
       rw [p2] at d3
       obtain ⟨z0a, z0b, z0c⟩ := R26_.2.2 c0.tt.toNat ([]) (UInt64.toNat_lt _) d1 (by first | (rw [d3]; done) | (rw [d3]; simp))
       exact ⟨z0a, by rw [hm.2.1, p1]; simp only [blank]; rw [a2, u64_inj b2, u64_inj d2, u64_inj z0b], z0c⟩
    ·
     refine D rfl rfl (F [(2, _), (4, _), (5, _), (23, _), (24, _)] rfl ?_)
     refine WC.condF rfl (J (G (WS.eqlN (a := (m7_).toNat) (b := 2) rfl rfl rfl (fun e31 => ?_) (fun e31 => ?_))))
     ·
      refine D rfl rfl (F [(2, _), (4, _), (5, _), (23, _), (30, _)] rfl ?_)
      refine AZ rfl (J (G (D rfl rfl ?_)))
      refine X rfl rfl rfl (tk_text_ran (s := s18_) (w := b18_) (M21.focus 1 rfl) (by omega)) ?_
      rintro _ h30 ⟨s30_, b30_, m30_, rfl, M31, R30_⟩
      have R30_l := R30_.1
      have R30_t := R30_.2.1
      replace M31 : Mem _ _ ([(p4, _)] :: [(p9, _)] :: [(p1, _)] :: []) _ := M31
      refine D rfl rfl ?_
      refine U (M31.focus 1 rfl) [_] [_, _, _, _, _, _, _, _, _, _, _, _] rfl rfl rfl rfl rfl (C rfl) (C rfl) rfl rfl ?_
      intro h32 M33
      replace M33 : Mem _ _ ([(p9, _)] :: [(p4, _)] :: [(p1, _)] :: []) _ := M33
      refine F [(2, _), (4, _), (5, _)] rfl ?_
      refine J (G (D rfl rfl ?_))
      refine X rfl rfl rfl (tk_text_ran (s := s30_) (w := b30_) (M33.focus 1 rfl) (by omega)) ?_
      rintro _ h34 ⟨s34_, b34_, m34_, rfl, M35, R34_⟩
      have R34_l := R34_.1
      have R34_t := R34_.2.1
      replace M35 : Mem _ _ ([(p4, _)] :: [(p9, _)] :: [(p1, _)] :: []) _ := M35
      refine D rfl rfl ?_
      refine U (M35.focus 1 rfl) [_] [_, _, _, _, _, _, _, _, _, _, _, _] rfl rfl rfl rfl rfl (C rfl) (C rfl) rfl rfl ?_
      intro h36 M37
      replace M37 : Mem _ _ ([(p9, _)] :: [(p4, _)] :: [(p1, _)] :: []) _ := M37
      refine F [(2, _), (4, _), (5, _)] rfl ?_
      refine G (D rfl rfl ?_)
      refine X rfl rfl rfl (tk_number_ran (s := s34_) (w := b34_) (M37.focus 1 rfl) (by omega)) ?_
      rintro _ h38 ⟨s38_, b38_, m38_, rfl, M39, R38_⟩
      have R38_l := R38_.1
      replace M39 : Mem _ _ ([(p4, _)] :: [(p9, _)] :: [(p1, _)] :: []) _ := M39
      refine D rfl rfl ?_
      refine U (M39.focus 1 rfl) [_] [_, _, _, _, _, _, _, _, _, _, _, _] rfl rfl rfl rfl rfl (C rfl) (C rfl) rfl rfl ?_
      intro h40 M41
      replace M41 : Mem _ _ ([(p9, _)] :: [(p4, _)] :: [(p1, _)] :: []) _ := M41
      refine F [(2, _), (4, _), (5, _)] rfl ?_
      refine ⟨(s38_, b38_, (⟨m7_, m14_, m18_, m30_, m34_, ([]), ([]), ([]), 0, m38_, 0, []⟩ : Cmd), .slice none 0 0, [], []), rfl, (((((M41.bare.focus 2 rfl).focus 1 rfl).focus 2 rfl).take 3)).nils, ?_⟩
      refine ⟨.nil, by omega, (by first | exact hF | (unfold Fit; dsimp only; exact ⟨by first | omega | simp, by first | omega | simp, by first | omega | simp, by first | omega | simp, by first | omega | simp, by first | omega | simp, by first | exact hF | (intro p hp; cases hp)⟩)), ?_, ?_⟩
      · intro q
        obtain ⟨y5, e5'⟩ := R38_.2.1 q
        obtain ⟨y4, e4'⟩ := R34_.2.2.1 y5
        obtain ⟨y3, e3'⟩ := R30_.2.2.1 y4
        obtain ⟨y2, e2'⟩ := R18_.2.1 y3
        obtain ⟨y1, e1'⟩ := R14_.2.1 y2
        obtain ⟨y0, e0'⟩ := R7_.2.1 y1
        obtain ⟨p1, p2⟩ := enc_2 (c := (⟨m7_, m14_, m18_, m30_, m34_, ([]), ([]), ([]), 0, m38_, 0, []⟩ : Cmd)) (by dsimp only; omega)
        unfold encC
        rw [p2]
        unfold headB
        dsimp only
        rw [e0', e1', e2', e3', e4', e5']
        simp
      · intro c0 hm hf0 he
        obtain ⟨a1, a2, a3⟩ := R7_.2.2 c0.op (vb c0.se.toNat ++ (vb c0.sq.toNat ++ bodyB c0)) rfl (by rw [he]; simp [encC, headB])
        obtain ⟨b1, b2, b3⟩ := R14_.2.2 c0.se.toNat _ c0.se.toNat_lt a1 a3
        obtain ⟨d1, d2, d3⟩ := R18_.2.2 c0.sq.toNat _ c0.sq.toNat_lt b1 b3
        obtain ⟨g1, g2, g3, g4, g5, g6, g7⟩ := id hf0
        obtain ⟨p1, p2⟩ := enc_2 (c := c0) (by rw [← a2]; omega)
        rw [p2] at d3
        obtain ⟨z0a, z0b, z0c⟩ := R30_.2.2.2 c0.ky (sb c0.va ++ vb c0.le.toNat) (by omega) d1 (by first | (rw [d3]; done) | (rw [d3]; simp))
        obtain ⟨z1a, z1b, z1c⟩ := R34_.2.2.2 c0.va (vb c0.le.toNat) (by omega) z0a (by first | (rw [z0c]; done) | (rw [z0c]; simp))
        obtain ⟨z2a, z2b, z2c⟩ := R38_.2.2 c0.le.toNat ([]) (UInt64.toNat_lt _) z1a (by first | (rw [z1c]; done) | (rw [z1c]; simp))
        exact ⟨z2a, by rw [hm.2.1, p1]; simp only [blank]; rw [a2, u64_inj b2, u64_inj d2, z0b, z1b, u64_inj z2b], z2c⟩
     ·
      refine D rfl rfl (F [(2, _), (4, _), (5, _), (23, _), (30, _)] rfl ?_)
      refine WC.condF rfl (J (J (G (WS.eqlN (a := (m7_).toNat) (b := 3) rfl rfl rfl (fun e42 => ?_) (fun e42 => ?_)))))
      ·
       refine D rfl rfl (F [(2, _), (4, _), (5, _), (23, _), (41, _)] rfl ?_)
       refine AZ rfl (WC.skip (AZ rfl (G (D rfl rfl ?_))))
       refine X rfl rfl rfl (tk_text_ran (s := s18_) (w := b18_) (M21.focus 1 rfl) (by omega)) ?_
       rintro _ h42 ⟨s42_, b42_, m42_, rfl, M43, R42_⟩
       have R42_l := R42_.1
       have R42_t := R42_.2.1
       replace M43 : Mem _ _ ([(p4, _)] :: [(p9, _)] :: [(p1, _)] :: []) _ := M43
       refine D rfl rfl ?_
       refine U (M43.focus 1 rfl) [_] [_, _, _, _, _, _, _, _, _, _, _, _] rfl rfl rfl rfl rfl (C rfl) (C rfl) rfl rfl ?_
       intro h44 M45
       replace M45 : Mem _ _ ([(p9, _)] :: [(p4, _)] :: [(p1, _)] :: []) _ := M45
       refine F [(2, _), (4, _), (5, _)] rfl ?_
       refine ⟨(s42_, b42_, (⟨m7_, m14_, m18_, m42_, ([]), ([]), ([]), ([]), 0, 0, 0, []⟩ : Cmd), .slice none 0 0, [], []), rfl, (((((M45.bare.focus 2 rfl).focus 1 rfl).focus 2 rfl).take 3)).nils, ?_⟩
       refine ⟨.nil, by omega, (by first | exact hF | (unfold Fit; dsimp only; exact ⟨by first | omega | simp, by first | omega | simp, by first | omega | simp, by first | omega | simp, by first | omega | simp, by first | omega | simp, by first | exact hF | (intro p hp; cases hp)⟩)), ?_, ?_⟩
       · intro q
         obtain ⟨y3, e3'⟩ := R42_.2.2.1 q
         obtain ⟨y2, e2'⟩ := R18_.2.1 y3
         obtain ⟨y1, e1'⟩ := R14_.2.1 y2
         obtain ⟨y0, e0'⟩ := R7_.2.1 y1
         obtain ⟨p1, p2⟩ := enc_3 (c := (⟨m7_, m14_, m18_, m42_, ([]), ([]), ([]), ([]), 0, 0, 0, []⟩ : Cmd)) (by dsimp only; omega)
         unfold encC
         rw [p2]
         unfold headB
         dsimp only
         rw [e0', e1', e2', e3']
         simp
       · intro c0 hm hf0 he
         obtain ⟨a1, a2, a3⟩ := R7_.2.2 c0.op (vb c0.se.toNat ++ (vb c0.sq.toNat ++ bodyB c0)) rfl (by rw [he]; simp [encC, headB])
         obtain ⟨b1, b2, b3⟩ := R14_.2.2 c0.se.toNat _ c0.se.toNat_lt a1 a3
         obtain ⟨d1, d2, d3⟩ := R18_.2.2 c0.sq.toNat _ c0.sq.toNat_lt b1 b3
         obtain ⟨g1, g2, g3, g4, g5, g6, g7⟩ := id hf0
         obtain ⟨p1, p2⟩ := enc_3 (c := c0) (by rw [← a2]; omega)
         rw [p2] at d3
         obtain ⟨z0a, z0b, z0c⟩ := R42_.2.2.2 c0.ky ([]) (by omega) d1 (by first | (rw [d3]; done) | (rw [d3]; simp))
         exact ⟨z0a, by rw [hm.2.1, p1]; simp only [blank]; rw [a2, u64_inj b2, u64_inj d2, z0b], z0c⟩
      ·
       refine D rfl rfl (F [(2, _), (4, _), (5, _), (23, _), (41, _)] rfl ?_)
       refine WC.condF rfl (G (WS.eqlN (a := (m7_).toNat) (b := 8) rfl rfl rfl (fun e43 => ?_) (fun e43 => ?_)))
       ·
        refine D rfl rfl (F [(2, _), (4, _), (5, _), (23, _), (41, _)] rfl ?_)
        refine AZ rfl (G (D rfl rfl ?_))
        refine X rfl rfl rfl (tk_text_ran (s := s18_) (w := b18_) (M21.focus 1 rfl) (by omega)) ?_
        rintro _ h46 ⟨s46_, b46_, m46_, rfl, M47, R46_⟩
        have R46_l := R46_.1
        have R46_t := R46_.2.1
        replace M47 : Mem _ _ ([(p4, _)] :: [(p9, _)] :: [(p1, _)] :: []) _ := M47
        refine D rfl rfl ?_
        refine U (M47.focus 1 rfl) [_] [_, _, _, _, _, _, _, _, _, _, _, _] rfl rfl rfl rfl rfl (C rfl) (C rfl) rfl rfl ?_
        intro h48 M49
        replace M49 : Mem _ _ ([(p9, _)] :: [(p4, _)] :: [(p1, _)] :: []) _ := M49
        refine F [(2, _), (4, _), (5, _)] rfl ?_
        refine ⟨(s46_, b46_, (⟨m7_, m14_, m18_, m46_, ([]), ([]), ([]), ([]), 0, 0, 0, []⟩ : Cmd), .slice none 0 0, [], []), rfl, (((((M49.bare.focus 2 rfl).focus 1 rfl).focus 2 rfl).take 3)).nils, ?_⟩
        refine ⟨.nil, by omega, (by first | exact hF | (unfold Fit; dsimp only; exact ⟨by first | omega | simp, by first | omega | simp, by first | omega | simp, by first | omega | simp, by first | omega | simp, by first | omega | simp, by first | exact hF | (intro p hp; cases hp)⟩)), ?_, ?_⟩
        · intro q
          obtain ⟨y3, e3'⟩ := R46_.2.2.1 q
          obtain ⟨y2, e2'⟩ := R18_.2.1 y3
          obtain ⟨y1, e1'⟩ := R14_.2.1 y2
          obtain ⟨y0, e0'⟩ := R7_.2.1 y1
          obtain ⟨p1, p2⟩ := enc_3 (c := (⟨m7_, m14_, m18_, m46_, ([]), ([]), ([]), ([]), 0, 0, 0, []⟩ : Cmd)) (by dsimp only; omega)
          unfold encC
          rw [p2]
          unfold headB
          dsimp only
          rw [e0', e1', e2', e3']
          simp
        · intro c0 hm hf0 he
          obtain ⟨a1, a2, a3⟩ := R7_.2.2 c0.op (vb c0.se.toNat ++ (vb c0.sq.toNat ++ bodyB c0)) rfl (by rw [he]; simp [encC, headB])
          obtain ⟨b1, b2, b3⟩ := R14_.2.2 c0.se.toNat _ c0.se.toNat_lt a1 a3
          obtain ⟨d1, d2, d3⟩ := R18_.2.2 c0.sq.toNat _ c0.sq.toNat_lt b1 b3
          obtain ⟨g1, g2, g3, g4, g5, g6, g7⟩ := id hf0
          obtain ⟨p1, p2⟩ := enc_3 (c := c0) (by rw [← a2]; omega)
          rw [p2] at d3
          obtain ⟨z0a, z0b, z0c⟩ := R46_.2.2.2 c0.ky ([]) (by omega) d1 (by first | (rw [d3]; done) | (rw [d3]; simp))
          exact ⟨z0a, by rw [hm.2.1, p1]; simp only [blank]; rw [a2, u64_inj b2, u64_inj d2, z0b], z0c⟩
       ·
        refine D rfl rfl (F [(2, _), (4, _), (5, _), (23, _), (41, _)] rfl ?_)
        refine WC.condF rfl (J (G (WS.eqlN (a := (m7_).toNat) (b := 4) rfl rfl rfl (fun e48 => ?_) (fun e48 => ?_))))
        ·
         refine D rfl rfl (F [(2, _), (4, _), (5, _), (23, _), (47, _)] rfl ?_)
         refine AZ rfl (J (G (D rfl rfl ?_)))
         refine X rfl rfl rfl (tk_text_ran (s := s18_) (w := b18_) (M21.focus 1 rfl) (by omega)) ?_
         rintro _ h50 ⟨s50_, b50_, m50_, rfl, M51, R50_⟩
         have R50_l := R50_.1
         have R50_t := R50_.2.1
         replace M51 : Mem _ _ ([(p4, _)] :: [(p9, _)] :: [(p1, _)] :: []) _ := M51
         refine D rfl rfl ?_
         refine U (M51.focus 1 rfl) [_] [_, _, _, _, _, _, _, _, _, _, _, _] rfl rfl rfl rfl rfl (C rfl) (C rfl) rfl rfl ?_
         intro h52 M53
         replace M53 : Mem _ _ ([(p9, _)] :: [(p4, _)] :: [(p1, _)] :: []) _ := M53
         refine F [(2, _), (4, _), (5, _)] rfl ?_
         refine J (G (D rfl rfl ?_))
         refine X rfl rfl rfl (tk_text_ran (s := s50_) (w := b50_) (M53.focus 1 rfl) (by omega)) ?_
         rintro _ h54 ⟨s54_, b54_, m54_, rfl, M55, R54_⟩
         have R54_l := R54_.1
         have R54_t := R54_.2.1
         replace M55 : Mem _ _ ([(p4, _)] :: [(p9, _)] :: [(p1, _)] :: []) _ := M55
         refine D rfl rfl ?_
         refine U (M55.focus 1 rfl) [_] [_, _, _, _, _, _, _, _, _, _, _, _] rfl rfl rfl rfl rfl (C rfl) (C rfl) rfl rfl ?_
         intro h56 M57
         replace M57 : Mem _ _ ([(p9, _)] :: [(p4, _)] :: [(p1, _)] :: []) _ := M57
         refine F [(2, _), (4, _), (5, _)] rfl ?_
         refine G (D rfl rfl ?_)
         refine X rfl rfl rfl (tk_text_ran (s := s54_) (w := b54_) (M57.focus 1 rfl) (by omega)) ?_
         rintro _ h58 ⟨s58_, b58_, m58_, rfl, M59, R58_⟩
         have R58_l := R58_.1
         have R58_t := R58_.2.1
         replace M59 : Mem _ _ ([(p4, _)] :: [(p9, _)] :: [(p1, _)] :: []) _ := M59
         refine D rfl rfl ?_
         refine U (M59.focus 1 rfl) [_] [_, _, _, _, _, _, _, _, _, _, _, _] rfl rfl rfl rfl rfl (C rfl) (C rfl) rfl rfl ?_
         intro h60 M61
         replace M61 : Mem _ _ ([(p9, _)] :: [(p4, _)] :: [(p1, _)] :: []) _ := M61
         refine F [(2, _), (4, _), (5, _)] rfl ?_
         refine ⟨(s58_, b58_, (⟨m7_, m14_, m18_, m50_, m58_, m54_, ([]), ([]), 0, 0, 0, []⟩ : Cmd), .slice none 0 0, [], []), rfl, (((((M61.bare.focus 2 rfl).focus 1 rfl).focus 2 rfl).take 3)).nils, ?_⟩
         refine ⟨.nil, by omega, (by first | exact hF | (unfold Fit; dsimp only; exact ⟨by first | omega | simp, by first | omega | simp, by first | omega | simp, by first | omega | simp, by first | omega | simp, by first | omega | simp, by first | exact hF | (intro p hp; cases hp)⟩)), ?_, ?_⟩
         · intro q
           obtain ⟨y5, e5'⟩ := R58_.2.2.1 q
           obtain ⟨y4, e4'⟩ := R54_.2.2.1 y5
           obtain ⟨y3, e3'⟩ := R50_.2.2.1 y4
           obtain ⟨y2, e2'⟩ := R18_.2.1 y3
           obtain ⟨y1, e1'⟩ := R14_.2.1 y2
           obtain ⟨y0, e0'⟩ := R7_.2.1 y1
           obtain ⟨p1, p2⟩ := enc_4 (c := (⟨m7_, m14_, m18_, m50_, m58_, m54_, ([]), ([]), 0, 0, 0, []⟩ : Cmd)) (by dsimp only; omega)
           unfold encC
           rw [p2]
           unfold headB
           dsimp only
           rw [e0', e1', e2', e3', e4', e5']
           simp
         · intro c0 hm hf0 he
           obtain ⟨a1, a2, a3⟩ := R7_.2.2 c0.op (vb c0.se.toNat ++ (vb c0.sq.toNat ++ bodyB c0)) rfl (by rw [he]; simp [encC, headB])
           obtain ⟨b1, b2, b3⟩ := R14_.2.2 c0.se.toNat _ c0.se.toNat_lt a1 a3
           obtain ⟨d1, d2, d3⟩ := R18_.2.2 c0.sq.toNat _ c0.sq.toNat_lt b1 b3
           obtain ⟨g1, g2, g3, g4, g5, g6, g7⟩ := id hf0
           obtain ⟨p1, p2⟩ := enc_4 (c := c0) (by rw [← a2]; omega)
           rw [p2] at d3
           obtain ⟨z0a, z0b, z0c⟩ := R50_.2.2.2 c0.ky (sb c0.ex ++ sb c0.va) (by omega) d1 (by first | (rw [d3]; done) | (rw [d3]; simp))
           obtain ⟨z1a, z1b, z1c⟩ := R54_.2.2.2 c0.ex (sb c0.va) (by omega) z0a (by first | (rw [z0c]; done) | (rw [z0c]; simp))
           obtain ⟨z2a, z2b, z2c⟩ := R58_.2.2.2 c0.va ([]) (by omega) z1a (by first | (rw [z1c]; done) | (rw [z1c]; simp))
           exact ⟨z2a, by rw [hm.2.1, p1]; simp only [blank]; rw [a2, u64_inj b2, u64_inj d2, z0b, z1b, z2b], z2c⟩
        ·
         refine D rfl rfl (F [(2, _), (4, _), (5, _), (23, _), (47, _)] rfl ?_)
         refine WC.condF rfl (J (G (WS.eqlN (a := (m7_).toNat) (b := 5) rfl rfl rfl (fun e59 => ?_) (fun e59 => ?_))))
         ·
          refine D rfl rfl (F [(2, _), (4, _), (5, _), (23, _), (58, _)] rfl ?_)
          refine AZ rfl (J (G (D rfl rfl ?_)))
          refine X rfl rfl rfl (tk_byte_ran (s := s18_) (w := b18_) (M21.focus 1 rfl) (by omega)) ?_
          rintro _ h62 ⟨s62_, b62_, m62_, rfl, M63, R62_⟩
          have R62_l := R62_.1
          replace M63 : Mem _ _ ([(p4, _)] :: [(p9, _)] :: [(p1, _)] :: []) _ := M63
          refine D rfl rfl (F [(2, _), (4, _), (5, _), (6, _)] rfl ?_)
          refine J (G (D rfl rfl (F [(2, _), (4, _), (5, _), (6, _), (7, _)] rfl ?_)))
          refine WC.block ?_
          obtain ⟨L64, eL66, M65⟩ := Mem.name3 ((((M63.bare.focus 1 rfl).focus 1 rfl)).nils)
          refine WC.loop (σ := List UInt8 × Bool × List Part × Value × Seg × Nat) (fun ((s_, w_, ps, V_, S_, i)) => [(2, (.pointer (some ⟨p1, 0, none⟩))), (4, (.pointer (some ⟨p4, 0, none⟩))), (5, (.pointer (some ⟨p9, 0, none⟩))), (6, (.int .i64 (((m62_).toNat : Nat) : Int))), (7, (.int .i64 ((i : Nat) : Int)))]) (fun ((s_, w_, ps, V_, S_, i)) hh => Mem h hh (S_ :: [(p4, ⟨[(.string (bs s_)), (.bool w_)], 0, false⟩)] :: [(p9, ⟨[(.int .u8 (((m7_).toNat : Nat) : Int)), (.int .u64 (((m14_).toNat : Nat) : Int)), (.int .u64 (((m18_).toNat : Nat) : Int)), (.string (bs ([]))), (.string (bs ([]))), (.string (bs ([]))), (.string (bs ([]))), (.string (bs ([]))), (.int .u8 (0 : Int)), (.int .u64 (0 : Int)), (.int .u64 (0 : Int)), V_], 0, false⟩)] :: L64) [] ∧ KPart.Own V_ ps S_ ∧ ps.length = i ∧ i ≤ (m62_).toNat ∧ s_.length ≤ s.length ∧ FitP ps ∧ (w_ = true → b62_ = true ∧ s62_ = ps.flatMap partB ++ s_) ∧ (∀ (qs : List Part) t, FitP qs → (∀ q ∈ qs, q.op.toNat ≠ 2 → q.va = []) → b62_ = true → (m62_).toNat = qs.length → s62_ = qs.flatMap partB ++ t → w_ = true ∧ ps = qs.take i ∧ s_ = (qs.drop i).flatMap partB ++ t)) (fun ((s_, w_, ps, V_, S_, i)) => (m62_).toNat - i) (s62_, b62_, [], .slice none 0 0, [], 0) rfl ⟨(by exact M65), ?_⟩ ?_
          · exact ⟨.nil, rfl, by omega, by omega, (by intro p hp; cases hp), (fun q => ⟨q, rfl⟩), fun qs t a1 a2 a3 a4 a5 => ⟨a3, rfl, a5⟩⟩
          ·rintro ⟨s_, w_, ps, V_, S_, i⟩ h67 ⟨M68, ⟨hO, hlen, hi1, hsl, hF, hS, hI⟩⟩
           replace eL66 := eL66.symm; subst eL66
           refine WC.env [(2, _), (4, _), (5, _), (6, _), (7, _)] rfl ?_
           obtain ⟨P_, rfl⟩ := hO.shape
           have hn8 := UInt8.toNat_lt m62_
           refine J (J (G (D rfl rfl (D rfl rfl ?_))))
           refine WS.lssN (a := i) (b := (m62_).toNat) rfl rfl rfl (fun e64 => ?_) (fun e64 => ?_)
           ·
            refine D rfl rfl (D rfl rfl (D rfl rfl (D rfl rfl (D rfl (op_ld (M68.at 1 rfl) rfl rfl) (D rfl rfl (F [(2, _), (4, _), (5, _), (6, _), (7, _), (70, _)] rfl ?_))))))
            cases w_
            ·
             refine WC.condF rfl (WC.exit ?_)
             refine ⟨(s_, false, (⟨m7_, m14_, m18_, ([]), ([]), ([]), ([]), ([]), 0, 0, 0, ps⟩ : Cmd), (.slice P_ ps.length (2 * ps.length)), S_, [(6, (.int .i64 (((m62_).toNat : Nat) : Int))), (7, (.int .i64 ((i : Nat) : Int))), (70, (.bool false))]), rfl, (((((M68.bare.focus 3 rfl).focus 3 rfl).focus 3 rfl).focus 3 rfl).take 4), ?_⟩
             refine ⟨hO, by omega, (by first | exact hF | (unfold Fit; dsimp only; exact ⟨by first | omega | simp, by first | omega | simp, by first | omega | simp, by first | omega | simp, by first | omega | simp, by first | omega | simp, by first | exact hF | (intro p hp; cases hp)⟩)), ?_, ?_⟩
             · intro q; cases q
             · intro c0 hm hf0 he
               obtain ⟨a1, a2, a3⟩ := R7_.2.2 c0.op (vb c0.se.toNat ++ (vb c0.sq.toNat ++ bodyB c0)) rfl (by rw [he]; simp [encC, headB])
               obtain ⟨b1, b2, b3⟩ := R14_.2.2 c0.se.toNat _ c0.se.toNat_lt a1 a3
               obtain ⟨d1, d2, d3⟩ := R18_.2.2 c0.sq.toNat _ c0.sq.toNat_lt b1 b3
               obtain ⟨g1, g2, g3, g4, g5, g6, g7⟩ := id hf0
               obtain ⟨p1, p2⟩ := enc_5 (c := c0) (by rw [← a2]; omega)
               rw [p2] at d3
               have hq4 := hm.2.2.1 (by rw [← a2]; omega)
               obtain ⟨ya, yb, yc⟩ := R62_.2.2 (UInt8.ofNat c0.ps.length) (c0.ps.flatMap partB) d1 (by rw [d3]; simp)
               obtain ⟨za, zb, zc⟩ := hI c0.ps [] g7 (fun q hq hne => by rcases hm.2.2.2 q hq with w | w; exact absurd w hne; exact w.2) ya (by rw [yb]; exact toNat_ofNat (by omega)) (by rw [yc]; simp)
               cases za
            ·
             refine AZ rfl (WC.skip (J (WC.block (J (G (D rfl rfl ?_))))))
             refine X rfl rfl rfl (tk_byte_ran (s := s_) (w := true) (M68.focus 1 rfl) (by omega)) ?_
             rintro _ h69 ⟨s69_, b69_, m69_, rfl, M70, R69_⟩
             have R69_l := R69_.1
             replace M70 : Mem _ _ ([(p4, _)] :: S_ :: [(p9, _)] :: [(p1, _)] :: []) _ := M70
             refine AQ (.int .u8 (((m69_).toNat : Nat) : Int)) rfl rfl (cv_u8 (n := (m69_).toNat) (by have := UInt8.toNat_lt (m69_); omega)) (AQ (.agg #[(.int .u8 (((m69_).toNat : Nat) : Int)), (.string (bs ([]))), (.string (bs ([])))]) rfl rfl rfl ?_)
             refine WS.new M70 rfl ?_
             intro p71 h72 M73
             refine U (M73.focus 0 rfl) [_, _, _] [_, _, _] rfl rfl rfl rfl rfl (C rfl) (C rfl) rfl rfl ?_
             intro h74 M75
             replace M75 : Mem _ _ ([(p71, _)] :: [(p4, _)] :: S_ :: [(p9, _)] :: [(p1, _)] :: []) _ := M75
             refine F [(2, _), (4, _), (5, _), (6, _), (7, _), (8, _)] rfl ?_
             refine J (G (D rfl rfl ?_))
             refine X rfl rfl rfl (tk_text_ran (s := s69_) (w := b69_) (M75.focus 1 rfl) (by omega)) ?_
             rintro _ h76 ⟨s76_, b76_, m76_, rfl, M77, R76_⟩
             have R76_l := R76_.1
             have R76_t := R76_.2.1
             replace M77 : Mem _ _ ([(p4, _)] :: [(p71, _)] :: S_ :: [(p9, _)] :: [(p1, _)] :: []) _ := M77
             refine D rfl rfl ?_
             refine U (M77.focus 1 rfl) [_] [_, _, _] rfl rfl rfl rfl rfl (C rfl) (C rfl) rfl rfl ?_
             intro h78 M79
             replace M79 : Mem _ _ ([(p71, _)] :: [(p4, _)] :: S_ :: [(p9, _)] :: [(p1, _)] :: []) _ := M79
             refine F [(2, _), (4, _), (5, _), (6, _), (7, _), (8, _)] rfl ?_
             refine J (J (G (D rfl rfl (D rfl (op_ld (M79.at 0 rfl) rfl rfl) ?_))))
             refine WS.eqlN (a := (m69_).toNat) (b := 2) rfl rfl rfl (fun e82 => ?_) (fun e82 => ?_)
             ·
              refine F [(2, _), (4, _), (5, _), (6, _), (7, _), (8, _), (82, _)] rfl ?_
              refine AZ rfl (G (D rfl rfl ?_))
              refine X rfl rfl rfl (tk_text_ran (s := s76_) (w := b76_) (M79.focus 1 rfl) (by omega)) ?_
              rintro _ h80 ⟨s80_, b80_, m80_, rfl, M81, R80_⟩
              have R80_l := R80_.1
              have R80_t := R80_.2.1
              replace M81 : Mem _ _ ([(p4, _)] :: [(p71, _)] :: S_ :: [(p9, _)] :: [(p1, _)] :: []) _ := M81
              refine D rfl rfl ?_
              refine U (M81.focus 1 rfl) [_] [_, _, _] rfl rfl rfl rfl rfl (C rfl) (C rfl) rfl rfl ?_
              intro h82 M83
              replace M83 : Mem _ _ ([(p71, _)] :: [(p4, _)] :: S_ :: [(p9, _)] :: [(p1, _)] :: []) _ := M83
              refine F [(2, _), (4, _), (5, _), (6, _), (7, _), (8, _)] rfl ?_
              refine G (D rfl rfl (D rfl (op_ld (M83.at 3 rfl) rfl rfl) (D rfl (op_lds [_, _, _] (M83.at 0 rfl) rfl (C rfl) rfl) ?_)))
              refine WS.bsl M83 [_, _, _] rfl rfl rfl rfl ?_
              intro p84 h85 M86
              refine WS.app (l := ps) (m := [(⟨m69_, m76_, m80_⟩ : Part)]) (hO) (M86.focus 3 rfl) (Row.Src.one (K := KPart) (m := [(⟨m69_, m76_, m80_⟩ : Part)]) (M86.at 0 rfl)) rfl (by simp only [List.length_cons, Y]; omega) (by simp only [List.length_cons, Y]; omega) rfl rfl rfl ?_
              intro V87 S88 h89 O90 M91
              obtain ⟨P92, rfl⟩ := Row.Own.shape O90
              refine D rfl rfl ?_
              refine U (M91.focus 4 rfl) [_] [_, _, _, _, _, _, _, _, _, _, _, _] rfl rfl rfl rfl rfl (C rfl) (C rfl) rfl rfl ?_
              intro h93 M94
              replace M94 : Mem _ _ ([(p9, _)] :: S88 :: [(p84, _)] :: [(p71, _)] :: [(p4, _)] :: [(p1, _)] :: []) _ := M94
              refine F [(2, _), (4, _), (5, _), (6, _), (7, _)] rfl ?_
              refine G (D rfl rfl (AQ (.int .i64 (((i + 1) : Nat) : Int)) rfl rfl (add_i64 (a := i) (b := 1) (by omega)) (D rfl rfl (F [(2, _), (4, _), (5, _), (6, _), (7, _)] rfl ?_))))
              refine ⟨(s80_, b80_, (ps ++ [(⟨m69_, m76_, m80_⟩ : Part)]), (.slice P92 ((ps ++ [(⟨m69_, m76_, m80_⟩ : Part)])).length (2 * ((ps ++ [(⟨m69_, m76_, m80_⟩ : Part)])).length)), S88, i + 1), rfl, ⟨(((((M94.bare.focus 5 rfl).focus 1 rfl).focus 5 rfl).focus 3 rfl).take 4), ?_⟩, ?_⟩
              · exact ⟨O90, by simp [hlen], by omega, by omega, FitP_snoc1 hF ⟨by dsimp only; first | omega | simp, by dsimp only; first | omega | simp⟩, (fun q => by obtain ⟨y2, e2⟩ := R80_.2.2.1 q; obtain ⟨y1, e1⟩ := R76_.2.2.1 y2; obtain ⟨y0, e0⟩ := R69_.2.1 y1; obtain ⟨z1, z2⟩ := hS y0; exact ⟨z1, by rw [z2, e0, e1, e2]; simp [partB, e82]⟩), fun qs t a1 a2 a3 a4 a5 => by obtain ⟨u1, u3, u4⟩ := hI qs t a1 a2 a3 a4 a5; obtain ⟨y, hy⟩ : ∃ y, qs[i]? = some y := ⟨_, List.getElem?_eq_getElem (show i < qs.length by omega)⟩; rw [drop_flat hy] at u4; obtain ⟨y0, y1, y2⟩ := R69_.2.2 y.op ((sb y.ky ++ (if y.op.toNat = 2 then sb y.va else [])) ++ ((qs.drop (i + 1)).flatMap partB ++ t)) u1 (by rw [u4]; simp [partB]); obtain ⟨v1, v2, v3⟩ := R76_.2.2.2 y.ky ((if y.op.toNat = 2 then sb y.va else []) ++ ((qs.drop (i + 1)).flatMap partB ++ t)) (by have := (a1 _ (mem_get hy)).1; omega) y0 (by rw [y2]; simp); rw [if_pos (by rw [← y1]; first | assumption | omega)] at v3; obtain ⟨x1, x2, x3⟩ := R80_.2.2.2 y.va ((qs.drop (i + 1)).flatMap partB ++ t) (by have := (a1 _ (mem_get hy)).2; omega) v1 v3; exact ⟨x1, by rw [show (⟨m69_, m76_, m80_⟩ : Part) = y from by (obtain ⟨a, b, c⟩ := y; simp only at y1 v2 x2; rw [y1, v2, x2]), u3, List.take_add_one, hy]; rfl, x3⟩⟩
              · simp only []; omega
             ·
              refine F [(2, _), (4, _), (5, _), (6, _), (7, _), (8, _), (82, _)] rfl ?_
              refine WC.condF rfl (WC.skip (G (D rfl rfl (D rfl (op_ld (M79.at 3 rfl) rfl rfl) (D rfl (op_lds [_, _, _] (M79.at 0 rfl) rfl (C rfl) rfl) ?_)))))
              refine WS.bsl M79 [_, _, _] rfl rfl rfl rfl ?_
              intro p95 h96 M97
              refine WS.app (l := ps) (m := [(⟨m69_, m76_, ([])⟩ : Part)]) (hO) (M97.focus 3 rfl) (Row.Src.one (K := KPart) (m := [(⟨m69_, m76_, ([])⟩ : Part)]) (M97.at 0 rfl)) rfl (by simp only [List.length_cons, Y]; omega) (by simp only [List.length_cons, Y]; omega) rfl rfl rfl ?_
              intro V98 S99 h100 O101 M102
              obtain ⟨P103, rfl⟩ := Row.Own.shape O101
              refine D rfl rfl ?_
              refine U (M102.focus 4 rfl) [_] [_, _, _, _, _, _, _, _, _, _, _, _] rfl rfl rfl rfl rfl (C rfl) (C rfl) rfl rfl ?_
              intro h104 M105
              replace M105 : Mem _ _ ([(p9, _)] :: S99 :: [(p95, _)] :: [(p71, _)] :: [(p4, _)] :: [(p1, _)] :: []) _ := M105
              refine F [(2, _), (4, _), (5, _), (6, _), (7, _)] rfl ?_
              refine G (D rfl rfl (AQ (.int .i64 (((i + 1) : Nat) : Int)) rfl rfl (add_i64 (a := i) (b := 1) (by omega)) (D rfl rfl (F [(2, _), (4, _), (5, _), (6, _), (7, _)] rfl ?_))))
              refine ⟨(s76_, b76_, (ps ++ [(⟨m69_, m76_, ([])⟩ : Part)]), (.slice P103 ((ps ++ [(⟨m69_, m76_, ([])⟩ : Part)])).length (2 * ((ps ++ [(⟨m69_, m76_, ([])⟩ : Part)])).length)), S99, i + 1), rfl, ⟨(((((M105.bare.focus 5 rfl).focus 1 rfl).focus 5 rfl).focus 3 rfl).take 4), ?_⟩, ?_⟩
              · exact ⟨O101, by simp [hlen], by omega, by omega, FitP_snoc1 hF ⟨by dsimp only; first | omega | simp, by dsimp only; first | omega | simp⟩, (fun q => by obtain ⟨y1, e1⟩ := R76_.2.2.1 q; obtain ⟨y0, e0⟩ := R69_.2.1 y1; obtain ⟨z1, z2⟩ := hS y0; exact ⟨z1, by rw [z2, e0, e1]; simp [partB, e82]⟩), fun qs t a1 a2 a3 a4 a5 => by obtain ⟨u1, u3, u4⟩ := hI qs t a1 a2 a3 a4 a5; obtain ⟨y, hy⟩ : ∃ y, qs[i]? = some y := ⟨_, List.getElem?_eq_getElem (show i < qs.length by omega)⟩; rw [drop_flat hy] at u4; obtain ⟨y0, y1, y2⟩ := R69_.2.2 y.op ((sb y.ky ++ (if y.op.toNat = 2 then sb y.va else [])) ++ ((qs.drop (i + 1)).flatMap partB ++ t)) u1 (by rw [u4]; simp [partB]); obtain ⟨v1, v2, v3⟩ := R76_.2.2.2 y.ky ((if y.op.toNat = 2 then sb y.va else []) ++ ((qs.drop (i + 1)).flatMap partB ++ t)) (by have := (a1 _ (mem_get hy)).1; omega) y0 (by rw [y2]; simp); rw [if_neg (by rw [← y1]; first | assumption | omega), List.nil_append] at v3; have hva := a2 y (mem_get hy) (by rw [← y1]; assumption); exact ⟨v1, by rw [show (⟨m69_, m76_, ([])⟩ : Part) = y from by (obtain ⟨a, b, c⟩ := y; simp only at hva y1 v2; rw [y1, v2, hva]), u3, List.take_add_one, hy]; rfl, v3⟩⟩
              · simp only []; omega
           ·
            refine D rfl rfl (AX rfl (AX rfl (AX rfl (AX rfl (D rfl rfl (F [(2, _), (4, _), (5, _), (6, _), (7, _), (70, _)] rfl ?_))))))
            refine WC.condF rfl (WC.exit ?_)
            refine ⟨(s_, w_, (⟨m7_, m14_, m18_, ([]), ([]), ([]), ([]), ([]), 0, 0, 0, ps⟩ : Cmd), (.slice P_ ps.length (2 * ps.length)), S_, [(6, (.int .i64 (((m62_).toNat : Nat) : Int))), (7, (.int .i64 ((i : Nat) : Int))), (70, (.bool false))]), rfl, (((((M68.bare.focus 3 rfl).focus 3 rfl).focus 3 rfl).focus 3 rfl).take 4), ?_⟩
            refine ⟨hO, by omega, (by first | exact hF | (unfold Fit; dsimp only; exact ⟨by first | omega | simp, by first | omega | simp, by first | omega | simp, by first | omega | simp, by first | omega | simp, by first | omega | simp, by first | exact hF | (intro p hp; cases hp)⟩)), ?_, ?_⟩
            · intro q
              obtain ⟨yp, ep⟩ := hS q
              obtain ⟨y3, e3'⟩ := R62_.2.1 yp
              obtain ⟨y2, e2'⟩ := R18_.2.1 y3
              obtain ⟨y1, e1'⟩ := R14_.2.1 y2
              obtain ⟨y0, e0'⟩ := R7_.2.1 y1
              obtain ⟨p1, p2⟩ := enc_5 (c := (⟨m7_, m14_, m18_, ([]), ([]), ([]), ([]), ([]), 0, 0, 0, ps⟩ : Cmd)) (by dsimp only; omega)
              have hcn : UInt8.ofNat ps.length = m62_ := by rw [show ps.length = (m62_).toNat by omega, ofNat_toNat]
              unfold encC
              rw [p2]
              unfold headB
              dsimp only
              rw [e0', e1', e2', e3', ep]
              simp [hcn]
            · intro c0 hm hf0 he
              obtain ⟨a1, a2, a3⟩ := R7_.2.2 c0.op (vb c0.se.toNat ++ (vb c0.sq.toNat ++ bodyB c0)) rfl (by rw [he]; simp [encC, headB])
              obtain ⟨b1, b2, b3⟩ := R14_.2.2 c0.se.toNat _ c0.se.toNat_lt a1 a3
              obtain ⟨d1, d2, d3⟩ := R18_.2.2 c0.sq.toNat _ c0.sq.toNat_lt b1 b3
              obtain ⟨g1, g2, g3, g4, g5, g6, g7⟩ := id hf0
              obtain ⟨p1, p2⟩ := enc_5 (c := c0) (by rw [← a2]; omega)
              rw [p2] at d3
              have hq4 := hm.2.2.1 (by rw [← a2]; omega)
              obtain ⟨ya, yb, yc⟩ := R62_.2.2 (UInt8.ofNat c0.ps.length) (c0.ps.flatMap partB) d1 (by rw [d3]; simp)
              obtain ⟨za, zb, zc⟩ := hI c0.ps [] g7 (fun q hq hne => by rcases hm.2.2.2 q hq with w | w; exact absurd w hne; exact w.2) ya (by rw [yb]; exact toNat_ofNat (by omega)) (by rw [yc]; simp)
              have hln : (m62_).toNat = c0.ps.length := by rw [yb]; exact toNat_ofNat (by omega)
              exact ⟨za, by rw [hm.2.1, p1]; simp only [blank]; rw [a2, u64_inj b2, u64_inj d2, zb, List.take_of_length_le (by omega)], by rw [zc, List.drop_eq_nil_of_le (by omega)]; rfl⟩
         ·
          refine D rfl rfl (F [(2, _), (4, _), (5, _), (23, _), (58, _)] rfl ?_)
          refine WC.condF rfl (J (G (WS.eqlN (a := (m7_).toNat) (b := 7) rfl rfl rfl (fun e93 => ?_) (fun e93 => ?_))))
          ·
           refine D rfl rfl (F [(2, _), (4, _), (5, _), (23, _), (92, _)] rfl ?_)
           refine AZ rfl (G (D rfl rfl ?_))
           refine X rfl rfl rfl (tk_number_ran (s := s18_) (w := b18_) (M21.focus 1 rfl) (by omega)) ?_
           rintro _ h106 ⟨s106_, b106_, m106_, rfl, M107, R106_⟩
           have R106_l := R106_.1
           replace M107 : Mem _ _ ([(p4, _)] :: [(p9, _)] :: [(p1, _)] :: []) _ := M107
           refine D rfl rfl ?_
           refine U (M107.focus 1 rfl) [_] [_, _, _, _, _, _, _, _, _, _, _, _] rfl rfl rfl rfl rfl (C rfl) (C rfl) rfl rfl ?_
           intro h108 M109
           replace M109 : Mem _ _ ([(p9, _)] :: [(p4, _)] :: [(p1, _)] :: []) _ := M109
           refine F [(2, _), (4, _), (5, _)] rfl ?_
           refine ⟨(s106_, b106_, (⟨m7_, m14_, m18_, ([]), ([]), ([]), ([]), ([]), 0, m106_, 0, []⟩ : Cmd), .slice none 0 0, [], []), rfl, (((((M109.bare.focus 2 rfl).focus 1 rfl).focus 2 rfl).take 3)).nils, ?_⟩
           refine ⟨.nil, by omega, (by first | exact hF | (unfold Fit; dsimp only; exact ⟨by first | omega | simp, by first | omega | simp, by first | omega | simp, by first | omega | simp, by first | omega | simp, by first | omega | simp, by first | exact hF | (intro p hp; cases hp)⟩)), ?_, ?_⟩
           · intro q
             obtain ⟨y3, e3'⟩ := R106_.2.1 q
             obtain ⟨y2, e2'⟩ := R18_.2.1 y3
             obtain ⟨y1, e1'⟩ := R14_.2.1 y2
             obtain ⟨y0, e0'⟩ := R7_.2.1 y1
             obtain ⟨p1, p2⟩ := enc_7 (c := (⟨m7_, m14_, m18_, ([]), ([]), ([]), ([]), ([]), 0, m106_, 0, []⟩ : Cmd)) (by dsimp only; omega)
             unfold encC
             rw [p2]
             unfold headB
             dsimp only
             rw [e0', e1', e2', e3']
             simp
           · intro c0 hm hf0 he
             obtain ⟨a1, a2, a3⟩ := R7_.2.2 c0.op (vb c0.se.toNat ++ (vb c0.sq.toNat ++ bodyB c0)) rfl (by rw [he]; simp [encC, headB])
             obtain ⟨b1, b2, b3⟩ := R14_.2.2 c0.se.toNat _ c0.se.toNat_lt a1 a3
             obtain ⟨d1, d2, d3⟩ := R18_.2.2 c0.sq.toNat _ c0.sq.toNat_lt b1 b3
             obtain ⟨g1, g2, g3, g4, g5, g6, g7⟩ := id hf0
             obtain ⟨p1, p2⟩ := enc_7 (c := c0) (by rw [← a2]; omega)
             rw [p2] at d3
             obtain ⟨z0a, z0b, z0c⟩ := R106_.2.2 c0.le.toNat ([]) (UInt64.toNat_lt _) d1 (by first | (rw [d3]; done) | (rw [d3]; simp))
             exact ⟨z0a, by rw [hm.2.1, p1]; simp only [blank]; rw [a2, u64_inj b2, u64_inj d2, u64_inj z0b], z0c⟩
          ·
           refine D rfl rfl (F [(2, _), (4, _), (5, _), (23, _), (92, _)] rfl ?_)
           refine WC.condF rfl (J (G (WS.eqlN (a := (m7_).toNat) (b := 9) rfl rfl rfl (fun e98 => ?_) (fun e98 => ?_))))
           ·
            refine D rfl rfl (F [(2, _), (4, _), (5, _), (97, _)] rfl ?_)
            refine AZ rfl (J (G (D rfl rfl ?_)))
            refine X rfl rfl rfl (tk_text_ran (s := s18_) (w := b18_) (M21.focus 1 rfl) (by omega)) ?_
            rintro _ h110 ⟨s110_, b110_, m110_, rfl, M111, R110_⟩
            have R110_l := R110_.1
            have R110_t := R110_.2.1
            replace M111 : Mem _ _ ([(p4, _)] :: [(p9, _)] :: [(p1, _)] :: []) _ := M111
            refine D rfl rfl ?_
            refine U (M111.focus 1 rfl) [_] [_, _, _, _, _, _, _, _, _, _, _, _] rfl rfl rfl rfl rfl (C rfl) (C rfl) rfl rfl ?_
            intro h112 M113
            replace M113 : Mem _ _ ([(p9, _)] :: [(p4, _)] :: [(p1, _)] :: []) _ := M113
            refine F [(2, _), (4, _), (5, _)] rfl ?_
            refine J (G (D rfl rfl ?_))
            refine X rfl rfl rfl (tk_text_ran (s := s110_) (w := b110_) (M113.focus 1 rfl) (by omega)) ?_
            rintro _ h114 ⟨s114_, b114_, m114_, rfl, M115, R114_⟩
            have R114_l := R114_.1
            have R114_t := R114_.2.1
            replace M115 : Mem _ _ ([(p4, _)] :: [(p9, _)] :: [(p1, _)] :: []) _ := M115
            refine D rfl rfl ?_
            refine U (M115.focus 1 rfl) [_] [_, _, _, _, _, _, _, _, _, _, _, _] rfl rfl rfl rfl rfl (C rfl) (C rfl) rfl rfl ?_
            intro h116 M117
            replace M117 : Mem _ _ ([(p9, _)] :: [(p4, _)] :: [(p1, _)] :: []) _ := M117
            refine F [(2, _), (4, _), (5, _)] rfl ?_
            refine G (D rfl rfl ?_)
            refine X rfl rfl rfl (tk_byte_ran (s := s114_) (w := b114_) (M117.focus 1 rfl) (by omega)) ?_
            rintro _ h118 ⟨s118_, b118_, m118_, rfl, M119, R118_⟩
            have R118_l := R118_.1
            replace M119 : Mem _ _ ([(p4, _)] :: [(p9, _)] :: [(p1, _)] :: []) _ := M119
            refine AQ (.int .u8 (((m118_).toNat : Nat) : Int)) rfl rfl (cv_u8 (n := (m118_).toNat) (by have := UInt8.toNat_lt (m118_); omega)) (D rfl rfl ?_)
            refine U (M119.focus 1 rfl) [_] [_, _, _, _, _, _, _, _, _, _, _, _] rfl rfl rfl rfl rfl (C rfl) (C rfl) rfl rfl ?_
            intro h120 M121
            replace M121 : Mem _ _ ([(p9, _)] :: [(p4, _)] :: [(p1, _)] :: []) _ := M121
            refine F [(2, _), (4, _), (5, _)] rfl ?_
            refine ⟨(s118_, b118_, (⟨m7_, m14_, m18_, ([]), ([]), ([]), m110_, m114_, m118_, 0, 0, []⟩ : Cmd), .slice none 0 0, [], []), rfl, (((((M121.bare.focus 2 rfl).focus 1 rfl).focus 2 rfl).take 3)).nils, ?_⟩
            refine ⟨.nil, by omega, (by first | exact hF | (unfold Fit; dsimp only; exact ⟨by first | omega | simp, by first | omega | simp, by first | omega | simp, by first | omega | simp, by first | omega | simp, by first | omega | simp, by first | exact hF | (intro p hp; cases hp)⟩)), ?_, ?_⟩
            · intro q
              obtain ⟨y5, e5'⟩ := R118_.2.1 q
              obtain ⟨y4, e4'⟩ := R114_.2.2.1 y5
              obtain ⟨y3, e3'⟩ := R110_.2.2.1 y4
              obtain ⟨y2, e2'⟩ := R18_.2.1 y3
              obtain ⟨y1, e1'⟩ := R14_.2.1 y2
              obtain ⟨y0, e0'⟩ := R7_.2.1 y1
              obtain ⟨p1, p2⟩ := enc_9 (c := (⟨m7_, m14_, m18_, ([]), ([]), ([]), m110_, m114_, m118_, 0, 0, []⟩ : Cmd)) (by dsimp only; omega)
              unfold encC
              rw [p2]
              unfold headB
              dsimp only
              rw [e0', e1', e2', e3', e4', e5']
              simp
            · intro c0 hm hf0 he
              obtain ⟨a1, a2, a3⟩ := R7_.2.2 c0.op (vb c0.se.toNat ++ (vb c0.sq.toNat ++ bodyB c0)) rfl (by rw [he]; simp [encC, headB])
              obtain ⟨b1, b2, b3⟩ := R14_.2.2 c0.se.toNat _ c0.se.toNat_lt a1 a3
              obtain ⟨d1, d2, d3⟩ := R18_.2.2 c0.sq.toNat _ c0.sq.toNat_lt b1 b3
              obtain ⟨g1, g2, g3, g4, g5, g6, g7⟩ := id hf0
              obtain ⟨p1, p2⟩ := enc_9 (c := c0) (by rw [← a2]; omega)
              rw [p2] at d3
              obtain ⟨z0a, z0b, z0c⟩ := R110_.2.2.2 c0.fr (sb c0.to ++ [c0.li]) (by omega) d1 (by first | (rw [d3]; done) | (rw [d3]; simp))
              obtain ⟨z1a, z1b, z1c⟩ := R114_.2.2.2 c0.to ([c0.li]) (by omega) z0a (by first | (rw [z0c]; done) | (rw [z0c]; simp))
              obtain ⟨z2a, z2b, z2c⟩ := R118_.2.2 c0.li ([]) z1a (by first | (rw [z1c]; done) | (rw [z1c]; simp))
              exact ⟨z2a, by rw [hm.2.1, p1]; simp only [blank]; rw [a2, u64_inj b2, u64_inj d2, z0b, z1b, z2b], z2c⟩
           ·
            refine D rfl rfl (F [(2, _), (4, _), (5, _), (97, _)] rfl ?_)
            refine WC.condF rfl (WC.skip (⟨(s18_, b18_, (⟨m7_, m14_, m18_, ([]), ([]), ([]), ([]), ([]), 0, 0, 0, []⟩ : Cmd), .slice none 0 0, [], [(97, (.bool false))]), rfl, (((((M21.bare.focus 2 rfl).focus 1 rfl).focus 2 rfl).take 3)).nils, ?_⟩))
            refine ⟨.nil, by omega, (by first | exact hF | (unfold Fit; dsimp only; exact ⟨by first | omega | simp, by first | omega | simp, by first | omega | simp, by first | omega | simp, by first | omega | simp, by first | omega | simp, by first | exact hF | (intro p hp; cases hp)⟩)), ?_, ?_⟩
            · intro q
              obtain ⟨y2, e2'⟩ := R18_.2.1 q
              obtain ⟨y1, e1'⟩ := R14_.2.1 y2
              obtain ⟨y0, e0'⟩ := R7_.2.1 y1
              obtain ⟨p1, p2⟩ := enc_0 (c := (⟨m7_, m14_, m18_, ([]), ([]), ([]), ([]), ([]), 0, 0, 0, []⟩ : Cmd)) (by dsimp only; omega)
              unfold encC
              rw [p2]
              unfold headB
              dsimp only
              rw [e0', e1', e2']
              simp
            · intro c0 hm hf0 he
              obtain ⟨a1, a2, a3⟩ := R7_.2.2 c0.op (vb c0.se.toNat ++ (vb c0.sq.toNat ++ bodyB c0)) rfl (by rw [he]; simp [encC, headB])
              obtain ⟨b1, b2, b3⟩ := R14_.2.2 c0.se.toNat _ c0.se.toNat_lt a1 a3
              obtain ⟨d1, d2, d3⟩ := R18_.2.2 c0.sq.toNat _ c0.sq.toNat_lt b1 b3
              obtain ⟨g1, g2, g3, g4, g5, g6, g7⟩ := id hf0
              obtain ⟨p1, p2⟩ := enc_0 (c := c0) (by rw [← a2]; omega)
              rw [p2] at d3
              exact ⟨d1, by rw [hm.2.1, p1]; simp only [blank]; rw [a2, u64_inj b2, u64_inj d2], d3⟩
  ·rintro ⟨sf_, wf_, c_, V_, S_, X_⟩ h122 ⟨M123, hO, hsl, hF, hS, hC⟩
   obtain ⟨P_, rfl⟩ := hO.shape
   refine J (J (G (D rfl rfl (D rfl rfl (D rfl rfl (D rfl (op_ld (M123.at 1 rfl) rfl rfl) ?_))))))
   cases hb2 : wf_
   ·
    refine AQ (.bool true) rfl rfl rfl (D rfl rfl (AX rfl (AX rfl (AX rfl (AX rfl (AX rfl (AX rfl (D rfl rfl (D rfl rfl ?_)))))))))
    refine AX rfl (WS.offC rfl (AX rfl (D rfl rfl (F [(2, _), (5, _), (126, _)] rfl ?_))))
    refine AZ rfl (J (G (AQ (.agg #[(.int .u8 (0 : Int)), (.int .u64 (0 : Int)), (.int .u64 (0 : Int)), (.string (bs ([]))), (.string (bs ([]))), (.string (bs ([]))), (.string (bs ([]))), (.string (bs ([]))), (.int .u8 (0 : Int)), (.int .u64 (0 : Int)), (.int .u64 (0 : Int)), (.slice none 0 0)]) rfl rfl rfl ?_)))
    refine U (M123.focus 3 rfl) [_, _, _, _, _, _, _, _, _, _, _, _] [_, _, _, _, _, _, _, _, _, _, _, _] rfl rfl rfl rfl rfl (C rfl) (C rfl) rfl rfl ?_
    intro h124 M125
    replace M125 : Mem _ _ ([(p1, _)] :: S_ :: [(p4, _)] :: [(p9, _)] :: []) _ := M125
    refine D rfl rfl (F [(2, _), (3, _)] rfl ?_)
    refine WC.ret (⟨[_, _], (res_cellN [_, _, _, _, _, _, _, _, _, _, _, _] rfl (M125.at 0 rfl) (C rfl) rfl (res_tmp rfl res_nil)), ?_⟩)
    have hno : ∀ c0, MayC c0 → Fit c0 → encC c0 ≠ s := by
      intro c0 hm hf0 he
      obtain ⟨z1, z2, z3⟩ := hC c0 hm hf0 he.symm
      first
      | (cases z1; done)
      | exact Bool.noConfusion (z1.symm.trans (show wf_ = false by assumption))
      | (have q := congrArg List.length z3; simp only [Y] at q; omega)
      | (subst z2; exact absurd hm (of_decide_eq_false (by assumption)))
    exact ⟨zeroC, .slice none 0 0, [], false, .nil, rfl, fit0, rdC_no hno, (M125.bare.take 0).nils⟩
   ·
    refine AQ (.bool false) rfl rfl rfl (D rfl rfl (D rfl rfl (D rfl rfl (D rfl rfl (D rfl (op_ld (M123.at 1 rfl) rfl rfl) (D rfl (op_lenS (l := sf_) rfl) ?_))))))
    refine WS.gtrN (a := (sf_).length) (b := 0) rfl rfl rfl (fun e120 => ?_) (fun e120 => ?_)
    ·
     refine D rfl rfl (D rfl rfl (AX rfl (WS.offC rfl (AX rfl (D rfl rfl (F [(2, _), (5, _), (126, _)] rfl ?_))))))
     refine AZ rfl (J (G (AQ (.agg #[(.int .u8 (0 : Int)), (.int .u64 (0 : Int)), (.int .u64 (0 : Int)), (.string (bs ([]))), (.string (bs ([]))), (.string (bs ([]))), (.string (bs ([]))), (.string (bs ([]))), (.int .u8 (0 : Int)), (.int .u64 (0 : Int)), (.int .u64 (0 : Int)), (.slice none 0 0)]) rfl rfl rfl ?_)))
     refine U (M123.focus 3 rfl) [_, _, _, _, _, _, _, _, _, _, _, _] [_, _, _, _, _, _, _, _, _, _, _, _] rfl rfl rfl rfl rfl (C rfl) (C rfl) rfl rfl ?_
     intro h126 M127
     replace M127 : Mem _ _ ([(p1, _)] :: S_ :: [(p4, _)] :: [(p9, _)] :: []) _ := M127
     refine D rfl rfl (F [(2, _), (3, _)] rfl ?_)
     refine WC.ret (⟨[_, _], (res_cellN [_, _, _, _, _, _, _, _, _, _, _, _] rfl (M127.at 0 rfl) (C rfl) rfl (res_tmp rfl res_nil)), ?_⟩)
     have hno : ∀ c0, MayC c0 → Fit c0 → encC c0 ≠ s := by
       intro c0 hm hf0 he
       obtain ⟨z1, z2, z3⟩ := hC c0 hm hf0 he.symm
       first
       | (cases z1; done)
       | exact Bool.noConfusion (z1.symm.trans (show wf_ = false by assumption))
       | (have q := congrArg List.length z3; simp only [Y] at q; omega)
       | (subst z2; exact absurd hm (of_decide_eq_false (by assumption)))
     exact ⟨zeroC, .slice none 0 0, [], false, .nil, rfl, fit0, rdC_no hno, (M127.bare.take 0).nils⟩
    ·
     refine D rfl rfl (D rfl rfl (D rfl (op_lds [_, _, _, _, _, _, _, _, _, _, _, _] (M123.at 2 rfl) rfl (C rfl) rfl) ?_))
     refine X rfl rfl rfl (refMay_ran M123.here (c := c_) (Row.Own.sl hO (Mem.owni M123 0 rfl)) (by first | exact hF | (unfold Fit; dsimp only; exact ⟨by first | omega | simp, by first | omega | simp, by first | omega | simp, by first | omega | simp, by first | omega | simp, by first | omega | simp, by first | exact hF | (intro p hp; cases hp)⟩))) ?_
     rintro _ h128 ⟨rfl, N129⟩
     have M130 := M123.trans N129
     cases hb3 : (mayB c_)
     ·
      refine AQ (.bool true) rfl rfl rfl (D rfl rfl (F [(2, _), (5, _), (126, _)] rfl ?_))
      refine AZ rfl (J (G (AQ (.agg #[(.int .u8 (0 : Int)), (.int .u64 (0 : Int)), (.int .u64 (0 : Int)), (.string (bs ([]))), (.string (bs ([]))), (.string (bs ([]))), (.string (bs ([]))), (.string (bs ([]))), (.int .u8 (0 : Int)), (.int .u64 (0 : Int)), (.int .u64 (0 : Int)), (.slice none 0 0)]) rfl rfl rfl ?_)))
      refine U (M130.focus 3 rfl) [_, _, _, _, _, _, _, _, _, _, _, _] [_, _, _, _, _, _, _, _, _, _, _, _] rfl rfl rfl rfl rfl (C rfl) (C rfl) rfl rfl ?_
      intro h131 M132
      replace M132 : Mem _ _ ([(p1, _)] :: S_ :: [(p4, _)] :: [(p9, _)] :: []) _ := M132
      refine D rfl rfl (F [(2, _), (3, _)] rfl ?_)
      refine WC.ret (⟨[_, _], (res_cellN [_, _, _, _, _, _, _, _, _, _, _, _] rfl (M132.at 0 rfl) (C rfl) rfl (res_tmp rfl res_nil)), ?_⟩)
      have hno : ∀ c0, MayC c0 → Fit c0 → encC c0 ≠ s := by
        intro c0 hm hf0 he
        obtain ⟨z1, z2, z3⟩ := hC c0 hm hf0 he.symm
        first
        | (cases z1; done)
        | exact Bool.noConfusion (z1.symm.trans (show wf_ = false by assumption))
        | (have q := congrArg List.length z3; simp only [Y] at q; omega)
        | (subst z2; exact absurd hm (of_decide_eq_false (by assumption)))
      exact ⟨zeroC, .slice none 0 0, [], false, .nil, rfl, fit0, rdC_no hno, (M132.bare.take 0).nils⟩
     ·
      refine AQ (.bool false) rfl rfl rfl (D rfl rfl (F [(2, _), (5, _), (126, _)] rfl ?_))
      refine WC.condF rfl (WC.skip (J (G (D rfl (op_lds [_, _, _, _, _, _, _, _, _, _, _, _] (M130.at 2 rfl) rfl (C rfl) rfl) ?_))))
      refine U (M130.focus 3 rfl) [_, _, _, _, _, _, _, _, _, _, _, _] [_, _, _, _, _, _, _, _, _, _, _, _] rfl rfl rfl rfl rfl (C rfl) (C rfl) rfl rfl ?_
      intro h133 M134
      replace M134 : Mem _ _ ([(p1, _)] :: S_ :: [(p4, _)] :: [(p9, _)] :: []) _ := M134
      refine D rfl rfl (F [(2, _), (3, _)] rfl ?_)
      refine WC.ret (⟨[_, _], (res_cellN [_, _, _, _, _, _, _, _, _, _, _, _] rfl (M134.at 0 rfl) (C rfl) rfl (res_tmp rfl res_nil)), ?_⟩)
      have hs0 : sf_ = [] := List.eq_nil_of_length_eq_zero (by omega)
      exact ⟨c_, _, _, true, hO, rfl, hF, ⟨fun _ => ⟨of_decide_eq_true (by assumption), by rw [hS (by first | assumption | rfl), hs0, List.append_nil]⟩, fun q => nomatch q⟩, ((M134.bare.focus 1 rfl).take 1)⟩
set_option maxRecDepth 8000 in
theorem refReadO_ran (W : Mem h h [] []) {s : List UInt8} (hl : s.length ≤ 300000) : Cll tab0 46 [.string (bs s)] h (fun v h2 => ∃ o ok, v = .tuple #[.agg (Oper.cells o).toArray, .bool ok] ∧ RdO s o ok ∧ Mem h h2 [] []) := by
  refine Cll.code rfl rfl ?_
  refine WC.env [(0, _)] rfl ?_
  refine J (G (WS.new W rfl ?_))
  intro p1 h2 M3
  refine D rfl rfl (F [(0, _), (2, _)] rfl ?_)
  refine J (G (D rfl rfl (AQ (.agg #[(.string (bs s)), (.bool true)]) rfl rfl rfl ?_)))
  refine WS.box M3 [_, _] rfl rfl rfl rfl ?_
  intro p4 h5 M6
  refine D rfl rfl (F [(2, _), (4, _)] rfl ?_)
  refine J (G (D rfl rfl ?_))
  refine X rfl rfl rfl (tk_byte_ran (s := s) (w := true) (M6.focus 0 rfl) (by omega)) ?_
  rintro _ h7 ⟨s7_, b7_, m7_, rfl, M8, R7_⟩
  have R7_l := R7_.1
  replace M8 : Mem _ _ ([(p4, _)] :: [(p1, _)] :: []) _ := M8
  refine AQ (.int .u8 (((m7_).toNat : Nat) : Int)) rfl rfl (cv_u8 (n := (m7_).toNat) (by have := UInt8.toNat_lt (m7_); omega)) (AQ (.agg #[(.int .u8 (((m7_).toNat : Nat) : Int)), (.int .u8 (0 : Int)), (.int .u8 (0 : Int)), (.int .u8 (0 : Int)), (.int .u8 (0 : Int)), (.int .u8 (0 : Int)), (.int .u8 (0 : Int)), (.int .u8 (0 : Int)), (.int .u8 (0 : Int)), (.int .u8 (0 : Int)), (.int .u8 (0 : Int)), (.int .i64 (0 : Int)), (.int .i64 (0 : Int)), (.int .i64 (0 : Int)), (.int .i64 (0 : Int)), (.int .u8 (0 : Int))]) rfl rfl rfl ?_)
  refine WS.new M8 rfl ?_
  intro p9 h10 M11
  refine U (M11.focus 0 rfl) [_, _, _, _, _, _, _, _, _, _, _, _, _, _, _, _] [_, _, _, _, _, _, _, _, _, _, _, _, _, _, _, _] rfl rfl rfl rfl rfl (C rfl) (C rfl) rfl rfl ?_
  intro h12 M13
  replace M13 : Mem _ _ ([(p9, _)] :: [(p4, _)] :: [(p1, _)] :: []) _ := M13
  refine F [(2, _), (4, _), (5, _)] rfl ?_
  refine J (J (G (D rfl rfl (D rfl (op_ld (M13.at 0 rfl) rfl rfl) (F [(2, _), (4, _), (5, _), (14, _)] rfl ?_)))))
  refine WC.cutB (σ := List UInt8 × Bool × Oper × Env) (fun (sf_, wf_, o_, X_) => (2, (.pointer (some ⟨p1, 0, none⟩))) :: (4, (.pointer (some ⟨p4, 0, none⟩))) :: (5, (.pointer (some ⟨p9, 0, none⟩))) :: X_) (fun (sf_, wf_, o_, X_) hh => Mem h hh ([(p4, ⟨[(.string (bs sf_)), (.bool wf_)], 0, false⟩)] :: [(p9, ⟨[(.int .u8 (((o_.op).toNat : Nat) : Int)), (.int .u8 (((o_.sl).toNat : Nat) : Int)), (.int .u8 (((o_.t0).toNat : Nat) : Int)), (.int .u8 (((o_.t1).toNat : Nat) : Int)), (.int .u8 (((o_.t2).toNat : Nat) : Int)), (.int .u8 (((o_.t3).toNat : Nat) : Int)), (.int .u8 (((o_.t4).toNat : Nat) : Int)), (.int .u8 (((o_.t5).toNat : Nat) : Int)), (.int .u8 (((o_.t6).toNat : Nat) : Int)), (.int .u8 (((o_.t7).toNat : Nat) : Int)), (.int .u8 (((o_.ro).toNat : Nat) : Int)), (.int .i64 (o_.ks).toInt), (.int .i64 (o_.bt).toInt), (.int .i64 (o_.ra).toInt), (.int .i64 (o_.bu).toInt), (.int .u8 (((o_.nd).toNat : Nat) : Int))], 0, false⟩)] :: [(p1, ⟨[(.int .u8 (0 : Int)), (.int .u8 (0 : Int)), (.int .u8 (0 : Int)), (.int .u8 (0 : Int)), (.int .u8 (0 : Int)), (.int .u8 (0 : Int)), (.int .u8 (0 : Int)), (.int .u8 (0 : Int)), (.int .u8 (0 : Int)), (.int .u8 (0 : Int)), (.int .u8 (0 : Int)), (.int .i64 (0 : Int)), (.int .i64 (0 : Int)), (.int .i64 (0 : Int)), (.int .i64 (0 : Int)), (.int .u8 (0 : Int))], 0, false⟩)] :: []) [] ∧ sf_.length ≤ s.length ∧ (wf_ = true → MayO o_ → encO o_ ++ sf_ = s) ∧ (∀ o0, MayO o0 → encO o0 = s → wf_ = true ∧ o_ = o0 ∧ sf_ = [])) (WC.block ?_) ?_
  ·
   refine J (G (WS.eqlN (a := (m7_).toNat) (b := 1) rfl rfl rfl (fun e20 => ?_) (fun e20 => ?_)))
   ·
    refine D rfl rfl (F [(2, _), (4, _), (5, _), (14, _), (19, _)] rfl ?_)
    refine AZ rfl (J (G (D rfl rfl ?_)))
    refine X rfl rfl rfl (tk_byte_ran (s := s7_) (w := b7_) (M13.focus 1 rfl) (by omega)) ?_
    rintro _ h14 ⟨s14_, b14_, m14_, rfl, M15, R14_⟩
    have R14_l := R14_.1
    replace M15 : Mem _ _ ([(p4, _)] :: [(p9, _)] :: [(p1, _)] :: []) _ := M15
    refine AQ (.int .u8 (((m14_).toNat : Nat) : Int)) rfl rfl (cv_u8 (n := (m14_).toNat) (by have := UInt8.toNat_lt (m14_); omega)) (D rfl rfl ?_)
    refine U (M15.focus 1 rfl) [_] [_, _, _, _, _, _, _, _, _, _, _, _, _, _, _, _] rfl rfl rfl rfl rfl (C rfl) (C rfl) rfl rfl ?_
    intro h16 M17
    replace M17 : Mem _ _ ([(p9, _)] :: [(p4, _)] :: [(p1, _)] :: []) _ := M17
    refine F [(2, _), (4, _), (5, _)] rfl ?_
    refine J (G (D rfl rfl ?_))
    refine X rfl rfl rfl (tk_int31_ran (s := s14_) (w := b14_) (M17.focus 1 rfl) (by omega)) ?_
    rintro _ h18 ⟨s18_, b18_, m18_, rfl, M19, R18_⟩
    have R18_l := R18_.1
    replace M19 : Mem _ _ ([(p4, _)] :: [(p9, _)] :: [(p1, _)] :: []) _ := M19
    refine D rfl rfl ?_
    refine U (M19.focus 1 rfl) [_] [_, _, _, _, _, _, _, _, _, _, _, _, _, _, _, _] rfl rfl rfl rfl rfl (C rfl) (C rfl) rfl rfl ?_
    intro h20 M21
    replace M21 : Mem _ _ ([(p9, _)] :: [(p4, _)] :: [(p1, _)] :: []) _ := M21
    refine F [(2, _), (4, _), (5, _)] rfl ?_
    refine J (G (D rfl rfl ?_))
    refine X rfl rfl rfl (tk_int31_ran (s := s18_) (w := b18_) (M21.focus 1 rfl) (by omega)) ?_
    rintro _ h22 ⟨s22_, b22_, m22_, rfl, M23, R22_⟩
    have R22_l := R22_.1
    replace M23 : Mem _ _ ([(p4, _)] :: [(p9, _)] :: [(p1, _)] :: []) _ := M23
    refine D rfl rfl ?_
    refine U (M23.focus 1 rfl) [_] [_, _, _, _, _, _, _, _, _, _, _, _, _, _, _, _] rfl rfl rfl rfl rfl (C rfl) (C rfl) rfl rfl ?_
    intro h24 M25
    replace M25 : Mem _ _ ([(p9, _)] :: [(p4, _)] :: [(p1, _)] :: []) _ := M25
    refine F [(2, _), (4, _), (5, _)] rfl ?_
    refine J (G (D rfl rfl ?_))
    refine X rfl rfl rfl (tk_int31_ran (s := s22_) (w := b22_) (M25.focus 1 rfl) (by omega)) ?_
    rintro _ h26 ⟨s26_, b26_, m26_, rfl, M27, R26_⟩
    have R26_l := R26_.1
    replace M27 : Mem _ _ ([(p4, _)] :: [(p9, _)] :: [(p1, _)] :: []) _ := M27
    refine D rfl rfl ?_
    refine U (M27.focus 1 rfl) [_] [_, _, _, _, _, _, _, _, _, _, _, _, _, _, _, _] rfl rfl rfl rfl rfl (C rfl) (C rfl) rfl rfl ?_
    intro h28 M29
    replace M29 : Mem _ _ ([(p9, _)] :: [(p4, _)] :: [(p1, _)] :: []) _ := M29
    refine F [(2, _), (4, _), (5, _)] rfl ?_
    refine G (D rfl rfl ?_)
    refine X rfl rfl rfl (tk_int31_ran (s := s26_) (w := b26_) (M29.focus 1 rfl) (by omega)) ?_
    rintro _ h30 ⟨s30_, b30_, m30_, rfl, M31, R30_⟩
    have R30_l := R30_.1
    replace M31 : Mem _ _ ([(p4, _)] :: [(p9, _)] :: [(p1, _)] :: []) _ := M31
    refine D rfl rfl ?_
    refine U (M31.focus 1 rfl) [_] [_, _, _, _, _, _, _, _, _, _, _, _, _, _, _, _] rfl rfl rfl rfl rfl (C rfl) (C rfl) rfl rfl ?_
    intro h32 M33
    replace M33 : Mem _ _ ([(p9, _)] :: [(p4, _)] :: [(p1, _)] :: []) _ := M33
    refine F [(2, _), (4, _), (5, _)] rfl ?_
    refine ⟨(s30_, b30_, (⟨m7_, m14_, 0, 0, 0, 0, 0, 0, 0, 0, 0, i31 m18_, i31 m22_, i31 m26_, i31 m30_, 0⟩ : Oper), []), rfl, ((((M33.bare.focus 2 rfl).focus 1 rfl).focus 2 rfl).take 3), ?_⟩
    refine ⟨by omega, ?_, ?_⟩
    · intro q hm
      obtain ⟨r1, r2⟩ := hm.1
      dsimp only at r1 r2
      obtain ⟨y5, e5'⟩ := R30_.2.1 q
      obtain ⟨y4, e4'⟩ := R26_.2.1 y5
      obtain ⟨y3, e3'⟩ := R22_.2.1 y4
      obtain ⟨y2, e2'⟩ := R18_.2.1 y3
      obtain ⟨y1, e1'⟩ := R14_.2.1 y2
      obtain ⟨y0, e0'⟩ := R7_.2.1 y1
      rw [encO_1 (by dsimp only; omega)]
      simp only [Oper.tok]
      rw [nu_i31 (m := m18_) hm.2.2.2.2.2.1, nu_i31 (m := m22_) hm.2.2.2.2.2.2.1, nu_i31 (m := m26_) hm.2.2.2.2.2.2.2.1, nu_i31 (m := m30_) hm.2.2.2.2.2.2.2.2, e0', e1', e2', e3', e4', e5']
      try simp
    · intro o0 hm he2
      have he := he2.symm
      obtain ⟨a1, a2, a3⟩ := R7_.2.2 o0.op (encO o0).tail rfl (by rw [he]; exact encO_cons o0)
      have hop := hm.1
      have hk : o0.op.toNat = 1 := by rw [← a2] at hop ⊢; omega
      have e := plainO_1 hk
      rw [← hm.2.1] at e
      rw [encO_1 hk] at a3
      obtain ⟨z0a, z0b, z0c⟩ := R14_.2.2 o0.sl (vb (nu o0.ks).toNat ++ (vb (nu o0.bt).toNat ++ (vb (nu o0.ra).toNat ++ (vb (nu o0.bu).toNat)))) a1 (by first | (rw [a3]; done) | (rw [a3]; simp [Oper.tok]; done))
      obtain ⟨z1a, z1b, z1c⟩ := R18_.2.2 (nu o0.ks).toNat (vb (nu o0.bt).toNat ++ (vb (nu o0.ra).toNat ++ (vb (nu o0.bu).toNat))) (UInt64.toNat_lt _) z0a (by first | (rw [z0c]; done) | (rw [z0c]; simp [Oper.tok]; done))
      obtain ⟨z2a, z2b, z2c⟩ := R22_.2.2 (nu o0.bt).toNat (vb (nu o0.ra).toNat ++ (vb (nu o0.bu).toNat)) (UInt64.toNat_lt _) z1a (by first | (rw [z1c]; done) | (rw [z1c]; simp [Oper.tok]; done))
      obtain ⟨z3a, z3b, z3c⟩ := R26_.2.2 (nu o0.ra).toNat (vb (nu o0.bu).toNat) (UInt64.toNat_lt _) z2a (by first | (rw [z2c]; done) | (rw [z2c]; simp [Oper.tok]; done))
      obtain ⟨z4a, z4b, z4c⟩ := R30_.2.2 (nu o0.bu).toNat ([]) (UInt64.toNat_lt _) z3a (by first | (rw [z3c]; done) | (rw [z3c]; simp [Oper.tok]; done))
      exact ⟨z4a, (by rw [e]; rw [a2, z0b, u64_inj z1b, i31_nu (x := o0.ks) hm.2.2.2.2.2.1, u64_inj z2b, i31_nu (x := o0.bt) hm.2.2.2.2.2.2.1, u64_inj z3b, i31_nu (x := o0.ra) hm.2.2.2.2.2.2.2.1, u64_inj z4b, i31_nu (x := o0.bu) hm.2.2.2.2.2.2.2.2]), z4c⟩
   ·
    refine D rfl rfl (F [(2, _), (4, _), (5, _), (14, _), (19, _)] rfl ?_)
    refine WC.condF rfl (J (G (WS.eqlN (a := (m7_).toNat) (b := 2) rfl rfl rfl (fun e38 => ?_) (fun e38 => ?_))))
    ·
     refine D rfl rfl (F [(2, _), (4, _), (5, _), (14, _), (37, _)] rfl ?_)
     refine AZ rfl (J (G (D rfl rfl ?_)))
     refine X rfl rfl rfl (tk_byte_ran (s := s7_) (w := b7_) (M13.focus 1 rfl) (by omega)) ?_
     rintro _ h34 ⟨s34_, b34_, m34_, rfl, M35, R34_⟩
     have R34_l := R34_.1
     replace M35 : Mem _ _ ([(p4, _)] :: [(p9, _)] :: [(p1, _)] :: []) _ := M35
     refine AQ (.int .u8 (((m34_).toNat : Nat) : Int)) rfl rfl (cv_u8 (n := (m34_).toNat) (by have := UInt8.toNat_lt (m34_); omega)) (D rfl rfl ?_)
     refine U (M35.focus 1 rfl) [_] [_, _, _, _, _, _, _, _, _, _, _, _, _, _, _, _] rfl rfl rfl rfl rfl (C rfl) (C rfl) rfl rfl ?_
     intro h36 M37
     replace M37 : Mem _ _ ([(p9, _)] :: [(p4, _)] :: [(p1, _)] :: []) _ := M37
     refine F [(2, _), (4, _), (5, _)] rfl ?_
     refine J (G (D rfl rfl ?_))
     refine X rfl rfl rfl (tk_token_ran (s := s34_) (w := b34_) (M37.focus 1 rfl) (by omega)) ?_
     rintro _ h38 ⟨s38_, b38_, m38_0, m38_1, m38_2, m38_3, m38_4, m38_5, m38_6, m38_7, rfl, M39, R38_⟩
     have R38_l := R38_.1
     replace M39 : Mem _ _ ([(p4, _)] :: [(p9, _)] :: [(p1, _)] :: []) _ := M39
     refine D rfl rfl ?_
     refine U (M39.focus 1 rfl) [_, _, _, _, _, _, _, _] [_, _, _, _, _, _, _, _, _, _, _, _, _, _, _, _] rfl rfl rfl rfl rfl (C rfl) (C rfl) rfl rfl ?_
     intro h40 M41
     replace M41 : Mem _ _ ([(p9, _)] :: [(p4, _)] :: [(p1, _)] :: []) _ := M41
     refine F [(2, _), (4, _), (5, _)] rfl ?_
     refine G (D rfl rfl ?_)
     refine X rfl rfl rfl (tk_byte_ran (s := s38_) (w := b38_) (M41.focus 1 rfl) (by omega)) ?_
     rintro _ h42 ⟨s42_, b42_, m42_, rfl, M43, R42_⟩
     have R42_l := R42_.1
     replace M43 : Mem _ _ ([(p4, _)] :: [(p9, _)] :: [(p1, _)] :: []) _ := M43
     refine AQ (.int .u8 (((m42_).toNat : Nat) : Int)) rfl rfl (cv_u8 (n := (m42_).toNat) (by have := UInt8.toNat_lt (m42_); omega)) (D rfl rfl ?_)
     refine U (M43.focus 1 rfl) [_] [_, _, _, _, _, _, _, _, _, _, _, _, _, _, _, _] rfl rfl rfl rfl rfl (C rfl) (C rfl) rfl rfl ?_
     intro h44 M45
     replace M45 : Mem _ _ ([(p9, _)] :: [(p4, _)] :: [(p1, _)] :: []) _ := M45
     refine F [(2, _), (4, _), (5, _)] rfl ?_
     refine ⟨(s42_, b42_, (⟨m7_, m34_, m38_0, m38_1, m38_2, m38_3, m38_4, m38_5, m38_6, m38_7, m42_, 0, 0, 0, 0, 0⟩ : Oper), []), rfl, ((((M45.bare.focus 2 rfl).focus 1 rfl).focus 2 rfl).take 3), ?_⟩
     refine ⟨by omega, ?_, ?_⟩
     · intro q hm
       obtain ⟨r1, r2⟩ := hm.1
       dsimp only at r1 r2
       obtain ⟨y3, e3'⟩ := R42_.2.1 q
       obtain ⟨y2, e2'⟩ := R38_.2.1 y3
       obtain ⟨y1, e1'⟩ := R34_.2.1 y2
       obtain ⟨y0, e0'⟩ := R7_.2.1 y1
       rw [encO_2 (by dsimp only; omega)]
       simp only [Oper.tok]
       rw [e0', e1', e2', e3']
       try simp
     · intro o0 hm he2
       have he := he2.symm
       obtain ⟨a1, a2, a3⟩ := R7_.2.2 o0.op (encO o0).tail rfl (by rw [he]; exact encO_cons o0)
       have hop := hm.1
       have hk : o0.op.toNat = 2 := by rw [← a2] at hop ⊢; omega
       have e := plainO_2 hk
       rw [← hm.2.1] at e
       rw [encO_2 hk] at a3
       obtain ⟨z0a, z0b, z0c⟩ := R34_.2.2 o0.sl (o0.tok ++ ([o0.ro])) a1 (by first | (rw [a3]; done) | (rw [a3]; simp [Oper.tok]; done))
       obtain ⟨z1a, ⟨w0, w1, w2, w3, w4, w5, w6, w7⟩, z1c⟩ := R38_.2.2 o0.t0 o0.t1 o0.t2 o0.t3 o0.t4 o0.t5 o0.t6 o0.t7 ([o0.ro]) z0a (by first | (rw [z0c]; done) | (rw [z0c]; simp [Oper.tok]; done))
       obtain ⟨z2a, z2b, z2c⟩ := R42_.2.2 o0.ro ([]) z1a (by first | (rw [z1c]; done) | (rw [z1c]; simp [Oper.tok]; done))
       exact ⟨z2a, (by rw [e]; rw [a2, z0b, w0, w1, w2, w3, w4, w5, w6, w7, z2b]), z2c⟩
    ·
     refine D rfl rfl (F [(2, _), (4, _), (5, _), (14, _), (37, _)] rfl ?_)
     refine WC.condF rfl (J (G (WS.eqlN (a := (m7_).toNat) (b := 3) rfl rfl rfl (fun e51 => ?_) (fun e51 => ?_))))
     ·
      refine D rfl rfl (F [(2, _), (4, _), (5, _), (14, _), (50, _)] rfl ?_)
      refine AZ rfl (G (D rfl rfl ?_))
      refine X rfl rfl rfl (tk_token_ran (s := s7_) (w := b7_) (M13.focus 1 rfl) (by omega)) ?_
      rintro _ h46 ⟨s46_, b46_, m46_0, m46_1, m46_2, m46_3, m46_4, m46_5, m46_6, m46_7, rfl, M47, R46_⟩
      have R46_l := R46_.1
      replace M47 : Mem _ _ ([(p4, _)] :: [(p9, _)] :: [(p1, _)] :: []) _ := M47
      refine D rfl rfl ?_
      refine U (M47.focus 1 rfl) [_, _, _, _, _, _, _, _] [_, _, _, _, _, _, _, _, _, _, _, _, _, _, _, _] rfl rfl rfl rfl rfl (C rfl) (C rfl) rfl rfl ?_
      intro h48 M49
      replace M49 : Mem _ _ ([(p9, _)] :: [(p4, _)] :: [(p1, _)] :: []) _ := M49
      refine F [(2, _), (4, _), (5, _)] rfl ?_
      refine ⟨(s46_, b46_, (⟨m7_, 0, m46_0, m46_1, m46_2, m46_3, m46_4, m46_5, m46_6, m46_7, 0, 0, 0, 0, 0, 0⟩ : Oper), []), rfl, ((((M49.bare.focus 2 rfl).focus 1 rfl).focus 2 rfl).take 3), ?_⟩
      refine ⟨by omega, ?_, ?_⟩
      · intro q hm
        obtain ⟨r1, r2⟩ := hm.1
        dsimp only at r1 r2
        obtain ⟨y1, e1'⟩ := R46_.2.1 q
        obtain ⟨y0, e0'⟩ := R7_.2.1 y1
        rw [encO_3 (by dsimp only; omega)]
        simp only [Oper.tok]
        rw [e0', e1']
        try simp
      · intro o0 hm he2
        have he := he2.symm
        obtain ⟨a1, a2, a3⟩ := R7_.2.2 o0.op (encO o0).tail rfl (by rw [he]; exact encO_cons o0)
        have hop := hm.1
        have hk : o0.op.toNat = 3 := by rw [← a2] at hop ⊢; omega
        have e := plainO_3 hk
        rw [← hm.2.1] at e
        rw [encO_3 hk] at a3
        obtain ⟨z0a, ⟨w0, w1, w2, w3, w4, w5, w6, w7⟩, z0c⟩ := R46_.2.2 o0.t0 o0.t1 o0.t2 o0.t3 o0.t4 o0.t5 o0.t6 o0.t7 ([]) a1 (by first | (rw [a3]; done) | (rw [a3]; simp [Oper.tok]; done))
        exact ⟨z0a, (by rw [e]; rw [a2, w0, w1, w2, w3, w4, w5, w6, w7]), z0c⟩
     ·
      refine D rfl rfl (F [(2, _), (4, _), (5, _), (14, _), (50, _)] rfl ?_)
      refine WC.condF rfl (J (G (WS.eqlN (a := (m7_).toNat) (b := 4) rfl rfl rfl (fun e56 => ?_) (fun e56 => ?_))))
      ·
       refine D rfl rfl (F [(2, _), (4, _), (5, _), (55, _)] rfl ?_)
       refine AZ rfl (G (D rfl rfl ?_))
       refine X rfl rfl rfl (tk_byte_ran (s := s7_) (w := b7_) (M13.focus 1 rfl) (by omega)) ?_
       rintro _ h50 ⟨s50_, b50_, m50_, rfl, M51, R50_⟩
       have R50_l := R50_.1
       replace M51 : Mem _ _ ([(p4, _)] :: [(p9, _)] :: [(p1, _)] :: []) _ := M51
       refine AQ (.int .u8 (((m50_).toNat : Nat) : Int)) rfl rfl (cv_u8 (n := (m50_).toNat) (by have := UInt8.toNat_lt (m50_); omega)) (D rfl rfl ?_)
       refine U (M51.focus 1 rfl) [_] [_, _, _, _, _, _, _, _, _, _, _, _, _, _, _, _] rfl rfl rfl rfl rfl (C rfl) (C rfl) rfl rfl ?_
       intro h52 M53
       replace M53 : Mem _ _ ([(p9, _)] :: [(p4, _)] :: [(p1, _)] :: []) _ := M53
       refine F [(2, _), (4, _), (5, _)] rfl ?_
       refine ⟨(s50_, b50_, (⟨m7_, m50_, 0, 0, 0, 0, 0, 0, 0, 0, 0, 0, 0, 0, 0, 0⟩ : Oper), []), rfl, ((((M53.bare.focus 2 rfl).focus 1 rfl).focus 2 rfl).take 3), ?_⟩
       refine ⟨by omega, ?_, ?_⟩
       · intro q hm
         obtain ⟨r1, r2⟩ := hm.1
         dsimp only at r1 r2
         obtain ⟨y1, e1'⟩ := R50_.2.1 q
         obtain ⟨y0, e0'⟩ := R7_.2.1 y1
         rw [encO_4 (by dsimp only; omega)]
         simp only [Oper.tok]
         rw [e0', e1']
         try simp
       · intro o0 hm he2
         have he := he2.symm
         obtain ⟨a1, a2, a3⟩ := R7_.2.2 o0.op (encO o0).tail rfl (by rw [he]; exact encO_cons o0)
         have hop := hm.1
         have hk : o0.op.toNat = 4 := by rw [← a2] at hop ⊢; omega
         have e := plainO_4 hk
         rw [← hm.2.1] at e
         rw [encO_4 hk] at a3
         obtain ⟨z0a, z0b, z0c⟩ := R50_.2.2 o0.sl ([]) a1 (by first | (rw [a3]; done) | (rw [a3]; simp [Oper.tok]; done))
         exact ⟨z0a, (by rw [e]; rw [a2, z0b]), z0c⟩
      ·
       refine D rfl rfl (F [(2, _), (4, _), (5, _), (55, _)] rfl ?_)
       refine WC.condF rfl (G (D rfl rfl ?_))
       refine X rfl rfl rfl (tk_byte_ran (s := s7_) (w := b7_) (M13.focus 1 rfl) (by omega)) ?_
       rintro _ h54 ⟨s54_, b54_, m54_, rfl, M55, R54_⟩
       have R54_l := R54_.1
       replace M55 : Mem _ _ ([(p4, _)] :: [(p9, _)] :: [(p1, _)] :: []) _ := M55
       refine AQ (.int .u8 (((m54_).toNat : Nat) : Int)) rfl rfl (cv_u8 (n := (m54_).toNat) (by have := UInt8.toNat_lt (m54_); omega)) (D rfl rfl ?_)
       refine U (M55.focus 1 rfl) [_] [_, _, _, _, _, _, _, _, _, _, _, _, _, _, _, _] rfl rfl rfl rfl rfl (C rfl) (C rfl) rfl rfl ?_
       intro h56 M57
       replace M57 : Mem _ _ ([(p9, _)] :: [(p4, _)] :: [(p1, _)] :: []) _ := M57
       refine F [(2, _), (4, _), (5, _)] rfl ?_
       refine ⟨(s54_, b54_, (⟨m7_, 0, 0, 0, 0, 0, 0, 0, 0, 0, 0, 0, 0, 0, 0, m54_⟩ : Oper), []), rfl, ((((M57.bare.focus 2 rfl).focus 1 rfl).focus 2 rfl).take 3), ?_⟩
       refine ⟨by omega, ?_, ?_⟩
       · intro q hm
         obtain ⟨r1, r2⟩ := hm.1
         dsimp only at r1 r2
         obtain ⟨y1, e1'⟩ := R54_.2.1 q
         obtain ⟨y0, e0'⟩ := R7_.2.1 y1
         rw [encO_5 (by dsimp only; omega)]
         simp only [Oper.tok]
         rw [e0', e1']
         try simp
       · intro o0 hm he2
         have he := he2.symm
         obtain ⟨a1, a2, a3⟩ := R7_.2.2 o0.op (encO o0).tail rfl (by rw [he]; exact encO_cons o0)
         have hop := hm.1
         have hk : 4 < o0.op.toNat := by rw [← a2] at hop ⊢; omega
         have e := plainO_5 hk
         rw [← hm.2.1] at e
         rw [encO_5 hk] at a3
         obtain ⟨z0a, z0b, z0c⟩ := R54_.2.2 o0.nd ([]) a1 (by first | (rw [a3]; done) | (rw [a3]; simp [Oper.tok]; done))
         exact ⟨z0a, (by rw [e]; rw [a2, z0b]), z0c⟩
  ·rintro ⟨sf_, wf_, o_, X_⟩ h58 ⟨M59, hsl, hS, hC⟩
   refine J (J (G (D rfl rfl (D rfl rfl (D rfl rfl (D rfl (op_ld (M59.at 0 rfl) rfl rfl) ?_))))))
   cases hb1 : wf_
   ·
    refine AQ (.bool true) rfl rfl rfl (D rfl rfl (AX rfl (AX rfl (AX rfl (AX rfl (AX rfl (AX rfl (D rfl rfl (D rfl rfl ?_)))))))))
    refine AX rfl (WS.offC rfl (AX rfl (D rfl rfl (F [(2, _), (5, _), (78, _)] rfl ?_))))
    refine AZ rfl (J (G (AQ (.agg #[(.int .u8 (0 : Int)), (.int .u8 (0 : Int)), (.int .u8 (0 : Int)), (.int .u8 (0 : Int)), (.int .u8 (0 : Int)), (.int .u8 (0 : Int)), (.int .u8 (0 : Int)), (.int .u8 (0 : Int)), (.int .u8 (0 : Int)), (.int .u8 (0 : Int)), (.int .u8 (0 : Int)), (.int .i64 (0 : Int)), (.int .i64 (0 : Int)), (.int .i64 (0 : Int)), (.int .i64 (0 : Int)), (.int .u8 (0 : Int))]) rfl rfl rfl ?_)))
    refine U (M59.focus 2 rfl) [_, _, _, _, _, _, _, _, _, _, _, _, _, _, _, _] [_, _, _, _, _, _, _, _, _, _, _, _, _, _, _, _] rfl rfl rfl rfl rfl (C rfl) (C rfl) rfl rfl ?_
    intro h60 M61
    replace M61 : Mem _ _ ([(p1, _)] :: [(p4, _)] :: [(p9, _)] :: []) _ := M61
    refine D rfl rfl (F [(2, _), (3, _)] rfl ?_)
    refine WC.ret (⟨[_, _], (res_cellN [_, _, _, _, _, _, _, _, _, _, _, _, _, _, _, _] rfl (M61.at 0 rfl) (C rfl) rfl (res_tmp rfl res_nil)), ?_⟩)
    have hno : ∀ o0, MayO o0 → encO o0 ≠ s := by
      intro o0 hm he
      obtain ⟨z1, z2, z3⟩ := hC o0 hm he
      first
      | (cases z1; done)
      | exact Bool.noConfusion (z1.symm.trans (show wf_ = false by assumption))
      | (have q := congrArg List.length z3; simp only [Y] at q; omega)
      | (subst z2; exact absurd hm (of_decide_eq_false (by assumption)))
    exact ⟨zeroO2, false, rfl, rdO_no hno, M61.bare.take 0⟩
   ·
    refine AQ (.bool false) rfl rfl rfl (D rfl rfl (D rfl rfl (D rfl rfl (D rfl rfl (D rfl (op_ld (M59.at 0 rfl) rfl rfl) (D rfl (op_lenS (l := sf_) rfl) ?_))))))
    refine WS.gtrN (a := (sf_).length) (b := 0) rfl rfl rfl (fun e72 => ?_) (fun e72 => ?_)
    ·
     refine D rfl rfl (D rfl rfl (AX rfl (WS.offC rfl (AX rfl (D rfl rfl (F [(2, _), (5, _), (78, _)] rfl ?_))))))
     refine AZ rfl (J (G (AQ (.agg #[(.int .u8 (0 : Int)), (.int .u8 (0 : Int)), (.int .u8 (0 : Int)), (.int .u8 (0 : Int)), (.int .u8 (0 : Int)), (.int .u8 (0 : Int)), (.int .u8 (0 : Int)), (.int .u8 (0 : Int)), (.int .u8 (0 : Int)), (.int .u8 (0 : Int)), (.int .u8 (0 : Int)), (.int .i64 (0 : Int)), (.int .i64 (0 : Int)), (.int .i64 (0 : Int)), (.int .i64 (0 : Int)), (.int .u8 (0 : Int))]) rfl rfl rfl ?_)))
     refine U (M59.focus 2 rfl) [_, _, _, _, _, _, _, _, _, _, _, _, _, _, _, _] [_, _, _, _, _, _, _, _, _, _, _, _, _, _, _, _] rfl rfl rfl rfl rfl (C rfl) (C rfl) rfl rfl ?_
     intro h62 M63
     replace M63 : Mem _ _ ([(p1, _)] :: [(p4, _)] :: [(p9, _)] :: []) _ := M63
     refine D rfl rfl (F [(2, _), (3, _)] rfl ?_)
     refine WC.ret (⟨[_, _], (res_cellN [_, _, _, _, _, _, _, _, _, _, _, _, _, _, _, _] rfl (M63.at 0 rfl) (C rfl) rfl (res_tmp rfl res_nil)), ?_⟩)
     have hno : ∀ o0, MayO o0 → encO o0 ≠ s := by
       intro o0 hm he
       obtain ⟨z1, z2, z3⟩ := hC o0 hm he
       first
       | (cases z1; done)
       | exact Bool.noConfusion (z1.symm.trans (show wf_ = false by assumption))
       | (have q := congrArg List.length z3; simp only [Y] at q; omega)
       | (subst z2; exact absurd hm (of_decide_eq_false (by assumption)))
     exact ⟨zeroO2, false, rfl, rdO_no hno, M63.bare.take 0⟩
    ·
     refine D rfl rfl (D rfl rfl (D rfl (op_lds [_, _, _, _, _, _, _, _, _, _, _, _, _, _, _, _] (M59.at 1 rfl) rfl (C rfl) rfl) ?_))
     refine X rfl rfl rfl (refMayO_ran M59.here (o := o_)) ?_
     rintro _ h64 ⟨rfl, N65⟩
     have M66 := M59.trans N65
     cases hb2 : (mayOB o_)
     ·
      refine AQ (.bool true) rfl rfl rfl (D rfl rfl (F [(2, _), (5, _), (78, _)] rfl ?_))
      refine AZ rfl (J (G (AQ (.agg #[(.int .u8 (0 : Int)), (.int .u8 (0 : Int)), (.int .u8 (0 : Int)), (.int .u8 (0 : Int)), (.int .u8 (0 : Int)), (.int .u8 (0 : Int)), (.int .u8 (0 : Int)), (.int .u8 (0 : Int)), (.int .u8 (0 : Int)), (.int .u8 (0 : Int)), (.int .u8 (0 : Int)), (.int .i64 (0 : Int)), (.int .i64 (0 : Int)), (.int .i64 (0 : Int)), (.int .i64 (0 : Int)), (.int .u8 (0 : Int))]) rfl rfl rfl ?_)))
      refine U (M66.focus 2 rfl) [_, _, _, _, _, _, _, _, _, _, _, _, _, _, _, _] [_, _, _, _, _, _, _, _, _, _, _, _, _, _, _, _] rfl rfl rfl rfl rfl (C rfl) (C rfl) rfl rfl ?_
      intro h67 M68
      replace M68 : Mem _ _ ([(p1, _)] :: [(p4, _)] :: [(p9, _)] :: []) _ := M68
      refine D rfl rfl (F [(2, _), (3, _)] rfl ?_)
      refine WC.ret (⟨[_, _], (res_cellN [_, _, _, _, _, _, _, _, _, _, _, _, _, _, _, _] rfl (M68.at 0 rfl) (C rfl) rfl (res_tmp rfl res_nil)), ?_⟩)
      have hno : ∀ o0, MayO o0 → encO o0 ≠ s := by
        intro o0 hm he
        obtain ⟨z1, z2, z3⟩ := hC o0 hm he
        first
        | (cases z1; done)
        | exact Bool.noConfusion (z1.symm.trans (show wf_ = false by assumption))
        | (have q := congrArg List.length z3; simp only [Y] at q; omega)
        | (subst z2; exact absurd hm (of_decide_eq_false (by assumption)))
      exact ⟨zeroO2, false, rfl, rdO_no hno, M68.bare.take 0⟩
     ·
      refine AQ (.bool false) rfl rfl rfl (D rfl rfl (F [(2, _), (5, _), (78, _)] rfl ?_))
      refine WC.condF rfl (WC.skip (J (G (D rfl (op_lds [_, _, _, _, _, _, _, _, _, _, _, _, _, _, _, _] (M66.at 1 rfl) rfl (C rfl) rfl) ?_))))
      refine U (M66.focus 2 rfl) [_, _, _, _, _, _, _, _, _, _, _, _, _, _, _, _] [_, _, _, _, _, _, _, _, _, _, _, _, _, _, _, _] rfl rfl rfl rfl rfl (C rfl) (C rfl) rfl rfl ?_
      intro h69 M70
      replace M70 : Mem _ _ ([(p1, _)] :: [(p4, _)] :: [(p9, _)] :: []) _ := M70
      refine D rfl rfl (F [(2, _), (3, _)] rfl ?_)
      refine WC.ret (⟨[_, _], (res_cellN [_, _, _, _, _, _, _, _, _, _, _, _, _, _, _, _] rfl (M70.at 0 rfl) (C rfl) rfl (res_tmp rfl res_nil)), ?_⟩)
      have hs0 : sf_ = [] := List.eq_nil_of_length_eq_zero (by omega)
      have hm : MayO o_ := of_decide_eq_true (by assumption)
      exact ⟨o_, true, rfl, ⟨fun _ => ⟨hm, by rw [← hS (by first | assumption | rfl) hm, hs0, List.append_nil]⟩, fun q => nomatch q⟩, M70.bare.take 0⟩
set_option maxRecDepth 8000 in
theorem refReadR_ran (W : Mem h h [] []) {s : List UInt8} (hl : s.length ≤ 299000) : Cll tab0 48 [.string (bs s)] h (fun v h2 => ∃ r V S ok, KRrow.Own V (Res.rs r) S ∧ v = .tuple #[r.val V, .bool ok] ∧ FitRes r ∧ RdR s r ok ∧ Mem h h2 [S] []) := by
  refine Cll.code rfl rfl ?_
  refine WC.env [(0, _)] rfl ?_
  refine J (G (WS.new W rfl ?_))
  intro p1 h2 M3
  refine D rfl rfl (F [(0, _), (2, _)] rfl ?_)
  refine J (G (D rfl rfl (AQ (.agg #[(.string (bs s)), (.bool true)]) rfl rfl rfl ?_)))
  refine WS.box M3 [_, _] rfl rfl rfl rfl ?_
  intro p4 h5 M6
  refine D rfl rfl (F [(2, _), (4, _)] rfl ?_)
  refine J (G (D rfl rfl ?_))
  refine X rfl rfl rfl (tk_byte_ran (s := s) (w := true) (M6.focus 0 rfl) (by omega)) ?_
  rintro _ h7 ⟨s7_, b7_, m7_, rfl, M8, R7_⟩
  have R7_l := R7_.1
  replace M8 : Mem _ _ ([(p4, _)] :: [(p1, _)] :: []) _ := M8
  refine AQ (.int .u8 (((m7_).toNat : Nat) : Int)) rfl rfl (cv_u8 (n := (m7_).toNat) (by have := UInt8.toNat_lt (m7_); omega)) (AQ (.agg #[(.int .u8 (((m7_).toNat : Nat) : Int)), (.int .u64 (0 : Int)), (.string (bs ([]))), (.slice none 0 0)]) rfl rfl rfl ?_)
  refine WS.new M8 rfl ?_
  intro p9 h10 M11
  refine U (M11.focus 0 rfl) [_, _, _, _] [_, _, _, _] rfl rfl rfl rfl rfl (C rfl) (C rfl) rfl rfl ?_
  intro h12 M13
  replace M13 : Mem _ _ ([(p9, _)] :: [(p4, _)] :: [(p1, _)] :: []) _ := M13
  refine F [(2, _), (4, _), (5, _)] rfl ?_
  refine J (G (D rfl rfl ?_))
  refine X rfl rfl rfl (tk_number_ran (s := s7_) (w := b7_) (M13.focus 1 rfl) (by omega)) ?_
  rintro _ h14 ⟨s14_, b14_, m14_, rfl, M15, R14_⟩
  have R14_l := R14_.1
  replace M15 : Mem _ _ ([(p4, _)] :: [(p9, _)] :: [(p1, _)] :: []) _ := M15
  refine D rfl rfl ?_
  refine U (M15.focus 1 rfl) [_] [_, _, _, _] rfl rfl rfl rfl rfl (C rfl) (C rfl) rfl rfl ?_
  intro h16 M17
  replace M17 : Mem _ _ ([(p9, _)] :: [(p4, _)] :: [(p1, _)] :: []) _ := M17
  refine F [(2, _), (4, _), (5, _)] rfl ?_
  refine J (G (D rfl rfl ?_))
  refine X rfl rfl rfl (tk_text_ran (s := s14_) (w := b14_) (M17.focus 1 rfl) (by omega)) ?_
  rintro _ h18 ⟨s18_, b18_, m18_, rfl, M19, R18_⟩
  have R18_l := R18_.1
  have R18_t := R18_.2.1
  replace M19 : Mem _ _ ([(p4, _)] :: [(p9, _)] :: [(p1, _)] :: []) _ := M19
  refine D rfl rfl ?_
  refine U (M19.focus 1 rfl) [_] [_, _, _, _] rfl rfl rfl rfl rfl (C rfl) (C rfl) rfl rfl ?_
  intro h20 M21
  replace M21 : Mem _ _ ([(p9, _)] :: [(p4, _)] :: [(p1, _)] :: []) _ := M21
  refine F [(2, _), (4, _), (5, _)] rfl ?_
  refine J (G (D rfl rfl ?_))
  refine X rfl rfl rfl (tk_number_ran (s := s18_) (w := b18_) (M21.focus 1 rfl) (by omega)) ?_
  rintro _ h22 ⟨s22_, b22_, m22_, rfl, M23, R22_⟩
  have R22_l := R22_.1
  replace M23 : Mem _ _ ([(p4, _)] :: [(p9, _)] :: [(p1, _)] :: []) _ := M23
  refine D rfl rfl (F [(2, _), (4, _), (5, _), (6, _)] rfl ?_)
  refine J (J (G (D rfl rfl (F [(2, _), (4, _), (5, _), (6, _), (7, _)] rfl ?_))))
  refine WC.block ?_
  have hN64 := UInt64.toNat_lt m22_
  obtain ⟨L24, eL26, M25⟩ := Mem.name3 ((((M23.bare.focus 1 rfl).focus 1 rfl)).nils)
  refine WC.loop (σ := List UInt8 × Bool × List Rrow × Value × Seg × Nat) (fun ((s_, w_, l, V_, S_, i)) => [(2, (.pointer (some ⟨p1, 0, none⟩))), (4, (.pointer (some ⟨p4, 0, none⟩))), (5, (.pointer (some ⟨p9, 0, none⟩))), (6, (.int .u64 (((m22_).toNat : Nat) : Int))), (7, (.int .u64 ((i : Nat) : Int)))]) (fun ((s_, w_, l, V_, S_, i)) hh => Mem h hh (S_ :: [(p4, ⟨[(.string (bs s_)), (.bool w_)], 0, false⟩)] :: [(p9, ⟨[(.int .u8 (((m7_).toNat : Nat) : Int)), (.int .u64 (((m14_).toNat : Nat) : Int)), (.string (bs m18_)), V_], 0, false⟩)] :: L24) [] ∧ KRrow.Own V_ l S_ ∧ l.length = i ∧ i ≤ (m22_).toNat ∧ s_.length ≤ s.length ∧ FitR l ∧ l.length ≤ 299001 ∧ (w_ = true → s = (((([m7_] ++ vb (UInt64.toNat m14_)) ++ sb m18_) ++ vb (m22_).toNat) ++ l.flatMap rowR) ++ s_) ∧ (∀ r0 : Res, FitRes r0 → s = encR r0 → w_ = true ∧ m7_ = r0.cd ∧ m14_ = r0.n ∧ m18_ = r0.va ∧ (m22_).toNat = r0.rs.length ∧ l = r0.rs.take i ∧ s_ = (r0.rs.drop i).flatMap rowR)) (fun ((s_, w_, l, V_, S_, i)) => (m22_).toNat - i) (s22_, b22_, [], .slice none 0 0, [], 0) rfl ⟨(by exact M25), ?_⟩ ?_
  · exact ⟨.nil, rfl, by omega, by omega, (by intro p hp; cases hp), by simp, (fun q => by obtain ⟨y3, e3⟩ := R22_.2.1 q; obtain ⟨y2, e2⟩ := R18_.2.2.1 y3; obtain ⟨y1, e1⟩ := R14_.2.1 y2; obtain ⟨y0, e0⟩ := R7_.2.1 y1; rw [e0, e1, e2, e3]; simp), fun r0 hf he => by have hq := hf.2.1; obtain ⟨x0, z0, t0⟩ := R7_.2.2 r0.cd (vb r0.n.toNat ++ (sb r0.va ++ (vb r0.rs.length ++ r0.rs.flatMap rowR))) rfl (by rw [he]; simp [encR, headR]); obtain ⟨x1, z1, t1⟩ := R14_.2.2 r0.n.toNat _ (UInt64.toNat_lt _) x0 t0; obtain ⟨x2, z2, t2⟩ := R18_.2.2.2 r0.va _ (by have := hf.1; omega) x1 t1; obtain ⟨x3, z3, t3⟩ := R22_.2.2 r0.rs.length _ (by omega) x2 t2; exact ⟨x3, z0, u64_inj z1, z2, z3, rfl, t3⟩⟩
  ·rintro ⟨s_, w_, l, V_, S_, i⟩ h27 ⟨M28, ⟨hO, hlen, hi1, hsl, hF, hll, hI, hC⟩⟩
   replace eL26 := eL26.symm; subst eL26
   refine WC.env [(2, _), (4, _), (5, _), (6, _), (7, _)] rfl ?_
   obtain ⟨P_, rfl⟩ := hO.shape
   refine J (J (G (D rfl rfl (D rfl rfl ?_))))
   refine WS.lssN (a := i) (b := (m22_).toNat) rfl rfl rfl (fun e26 => ?_) (fun e26 => ?_)
   ·
    refine D rfl rfl (D rfl rfl (D rfl rfl (D rfl rfl (D rfl (op_ld (M28.at 1 rfl) rfl rfl) (D rfl rfl (F [(2, _), (4, _), (5, _), (6, _), (7, _), (32, _)] rfl ?_))))))
    cases w_
    ·
     refine WC.condF rfl (WC.exit ?_)
     refine J (J (G (D rfl rfl (D rfl rfl (D rfl rfl (D rfl (op_ld (M28.at 1 rfl) rfl rfl) (AQ (.bool true) rfl rfl rfl (D rfl rfl (AX rfl (AX rfl (AX rfl (AX rfl ?_))))))))))))
     refine AX rfl (AX rfl (D rfl rfl (F [(2, _), (5, _), (62, _)] rfl ?_)))
     refine AZ rfl (J (G (AQ (.agg #[(.int .u8 (0 : Int)), (.int .u64 (0 : Int)), (.string (bs ([]))), (.slice none 0 0)]) rfl rfl rfl ?_)))
     refine U (M28.focus 3 rfl) [_, _, _, _] [_, _, _, _] rfl rfl rfl rfl rfl (C rfl) (C rfl) rfl rfl ?_
     intro h29 M30
     replace M30 : Mem _ _ ([(p1, _)] :: S_ :: [(p4, _)] :: [(p9, _)] :: []) _ := M30
     refine D rfl rfl (F [(2, _), (3, _)] rfl ?_)
     refine WC.ret (⟨[_, _], (res_cellN [_, _, _, _] rfl (M30.at 0 rfl) (C rfl) rfl (res_tmp rfl res_nil)), ?_⟩)
     have hno : ∀ r0, FitRes r0 → encR r0 ≠ s := by
       intro r0 hf he
       obtain ⟨g1, g2, g3, g4, g5, g6, g7⟩ := hC r0 hf he.symm
       first
       | (cases g1; done)
       | (have g8 : s_ = [] := by (rw [g7, List.drop_eq_nil_of_le (by omega)]; rfl)
          have q := congrArg List.length g8; simp only [Y] at q; omega)
     exact ⟨zeroR, .slice none 0 0, [], false, .nil, rfl, fitR0, rdR_no hno, (M30.bare.take 0).nils⟩
    ·
     refine AZ rfl (WC.skip (J (WC.block (J (G (D rfl rfl ?_))))))
     refine X rfl rfl rfl (tk_text_ran (s := s_) (w := true) (M28.focus 1 rfl) (by omega)) ?_
     rintro _ h31 ⟨s31_, b31_, m31_, rfl, M32, R31_⟩
     have R31_l := R31_.1
     have R31_t := R31_.2.1
     replace M32 : Mem _ _ ([(p4, _)] :: S_ :: [(p9, _)] :: [(p1, _)] :: []) _ := M32
     refine AQ (.agg #[(.string (bs m31_)), (.string (bs ([]))), (.int .u64 (0 : Int))]) rfl rfl rfl ?_
     refine WS.new M32 rfl ?_
     intro p33 h34 M35
     refine U (M35.focus 0 rfl) [_, _, _] [_, _, _] rfl rfl rfl rfl rfl (C rfl) (C rfl) rfl rfl ?_
     intro h36 M37
     replace M37 : Mem _ _ ([(p33, _)] :: [(p4, _)] :: S_ :: [(p9, _)] :: [(p1, _)] :: []) _ := M37
     refine F [(2, _), (4, _), (5, _), (6, _), (7, _), (8, _)] rfl ?_
     refine J (G (D rfl rfl ?_))
     refine X rfl rfl rfl (tk_text_ran (s := s31_) (w := b31_) (M37.focus 1 rfl) (by omega)) ?_
     rintro _ h38 ⟨s38_, b38_, m38_, rfl, M39, R38_⟩
     have R38_l := R38_.1
     have R38_t := R38_.2.1
     replace M39 : Mem _ _ ([(p4, _)] :: [(p33, _)] :: S_ :: [(p9, _)] :: [(p1, _)] :: []) _ := M39
     refine D rfl rfl ?_
     refine U (M39.focus 1 rfl) [_] [_, _, _] rfl rfl rfl rfl rfl (C rfl) (C rfl) rfl rfl ?_
     intro h40 M41
     replace M41 : Mem _ _ ([(p33, _)] :: [(p4, _)] :: S_ :: [(p9, _)] :: [(p1, _)] :: []) _ := M41
     refine F [(2, _), (4, _), (5, _), (6, _), (7, _), (8, _)] rfl ?_
     refine J (G (D rfl rfl ?_))
     refine X rfl rfl rfl (tk_number_ran (s := s38_) (w := b38_) (M41.focus 1 rfl) (by omega)) ?_
     rintro _ h42 ⟨s42_, b42_, m42_, rfl, M43, R42_⟩
     have R42_l := R42_.1
     replace M43 : Mem _ _ ([(p4, _)] :: [(p33, _)] :: S_ :: [(p9, _)] :: [(p1, _)] :: []) _ := M43
     refine D rfl rfl ?_
     refine U (M43.focus 1 rfl) [_] [_, _, _] rfl rfl rfl rfl rfl (C rfl) (C rfl) rfl rfl ?_
     intro h44 M45
     replace M45 : Mem _ _ ([(p33, _)] :: [(p4, _)] :: S_ :: [(p9, _)] :: [(p1, _)] :: []) _ := M45
     refine F [(2, _), (4, _), (5, _), (6, _), (7, _), (8, _)] rfl ?_
     refine G (D rfl rfl (D rfl (op_ld (M45.at 3 rfl) rfl rfl) (D rfl (op_lds [_, _, _] (M45.at 0 rfl) rfl (C rfl) rfl) ?_)))
     refine WS.bsl M45 [_, _, _] rfl rfl rfl rfl ?_
     intro p46 h47 M48
     refine WS.app (l := l) (m := [(⟨m31_, m38_, m42_⟩ : Rrow)]) (hO) (M48.focus 3 rfl) (Row.Src.one (K := KRrow) (m := [(⟨m31_, m38_, m42_⟩ : Rrow)]) (M48.at 0 rfl)) rfl (by simp only [List.length_cons, Y]; omega) (by simp only [List.length_cons, Y]; omega) rfl rfl rfl ?_
     intro V49 S50 h51 O52 M53
     obtain ⟨P54, rfl⟩ := Row.Own.shape O52
     refine D rfl rfl ?_
     refine U (M53.focus 4 rfl) [_] [_, _, _, _] rfl rfl rfl rfl rfl (C rfl) (C rfl) rfl rfl ?_
     intro h55 M56
     replace M56 : Mem _ _ ([(p9, _)] :: S50 :: [(p46, _)] :: [(p33, _)] :: [(p4, _)] :: [(p1, _)] :: []) _ := M56
     refine F [(2, _), (4, _), (5, _), (6, _), (7, _)] rfl ?_
     refine G (D rfl rfl (AQ (.int .u64 (((i + 1) : Nat) : Int)) rfl rfl (add_u64 (a := i) (b := 1) (by omega)) (D rfl rfl (F [(2, _), (4, _), (5, _), (6, _), (7, _)] rfl ?_))))
     refine ⟨(s42_, b42_, (l ++ [(⟨m31_, m38_, m42_⟩ : Rrow)]), (.slice P54 ((l ++ [(⟨m31_, m38_, m42_⟩ : Rrow)])).length (2 * ((l ++ [(⟨m31_, m38_, m42_⟩ : Rrow)])).length)), S50, i + 1), rfl, ⟨(((((M56.bare.focus 5 rfl).focus 1 rfl).focus 5 rfl).focus 3 rfl).take 4), ?_⟩, ?_⟩
     · exact ⟨O52, by simp [hlen], by omega, by omega, FitR_app hF ⟨by dsimp only; omega, by dsimp only; omega⟩, (by have e_ := congrArg List.length (hI rfl); have := rows_min l; simp only [List.length_append] at e_; simp only [List.length_append, List.length_cons, Y]; omega), (fun q => by obtain ⟨y2, e2⟩ := R42_.2.1 q; obtain ⟨y1, e1⟩ := R38_.2.2.1 y2; obtain ⟨y0, e0⟩ := R31_.2.2.1 y1; rw [hI y0, e0, e1, e2]; simp [rowR]), fun r0 hf he => by obtain ⟨g1, g2, g3, g4, g5, g6, g7⟩ := hC r0 hf he; obtain ⟨y, hy⟩ : ∃ y, r0.rs[i]? = some y := ⟨_, List.getElem?_eq_getElem (by omega)⟩; have hyf := hf.2.2 _ (mem_get hy); rw [drop_flatR hy] at g7; obtain ⟨z1, z2, z3⟩ := R31_.2.2.2 y.ky (sb y.va ++ (vb y.vn.toNat ++ (r0.rs.drop (i + 1)).flatMap rowR)) (by omega) g1 (by rw [g7]; simp [rowR]); obtain ⟨z4, z5, z6⟩ := R38_.2.2.2 y.va _ (by omega) z1 z3; obtain ⟨z7, z8, z9⟩ := R42_.2.2 y.vn.toNat _ (UInt64.toNat_lt _) z4 z6; exact ⟨z7, g2, g3, g4, g5, by rw [show (⟨m31_, m38_, m42_⟩ : Rrow) = y from by (obtain ⟨a, b, c⟩ := y; simp only at z2 z5 z8; rw [z2, z5, u64_inj z8]), g6, List.take_add_one, hy]; rfl, z9⟩⟩
     · simp only []; omega
   ·
    refine D rfl rfl (AX rfl (AX rfl (AX rfl (AX rfl (D rfl rfl (F [(2, _), (4, _), (5, _), (6, _), (7, _), (32, _)] rfl ?_))))))
    refine WC.condF rfl (WC.exit ?_)
    refine J (J (G (D rfl rfl (D rfl rfl (D rfl rfl (D rfl (op_ld (M28.at 1 rfl) rfl rfl) ?_))))))
    cases w_
    ·
     refine AQ (.bool true) rfl rfl rfl (D rfl rfl (AX rfl (AX rfl (AX rfl (AX rfl (AX rfl (AX rfl (D rfl rfl (F [(2, _), (5, _), (62, _)] rfl ?_)))))))))
     refine AZ rfl (J (G (AQ (.agg #[(.int .u8 (0 : Int)), (.int .u64 (0 : Int)), (.string (bs ([]))), (.slice none 0 0)]) rfl rfl rfl ?_)))
     refine U (M28.focus 3 rfl) [_, _, _, _] [_, _, _, _] rfl rfl rfl rfl rfl (C rfl) (C rfl) rfl rfl ?_
     intro h57 M58
     replace M58 : Mem _ _ ([(p1, _)] :: S_ :: [(p4, _)] :: [(p9, _)] :: []) _ := M58
     refine D rfl rfl (F [(2, _), (3, _)] rfl ?_)
     refine WC.ret (⟨[_, _], (res_cellN [_, _, _, _] rfl (M58.at 0 rfl) (C rfl) rfl (res_tmp rfl res_nil)), ?_⟩)
     have hno : ∀ r0, FitRes r0 → encR r0 ≠ s := by
       intro r0 hf he
       obtain ⟨g1, g2, g3, g4, g5, g6, g7⟩ := hC r0 hf he.symm
       first
       | (cases g1; done)
       | (have g8 : s_ = [] := by (rw [g7, List.drop_eq_nil_of_le (by omega)]; rfl)
          have q := congrArg List.length g8; simp only [Y] at q; omega)
     exact ⟨zeroR, .slice none 0 0, [], false, .nil, rfl, fitR0, rdR_no hno, (M58.bare.take 0).nils⟩
    ·
     refine AQ (.bool false) rfl rfl rfl (D rfl rfl (D rfl rfl (D rfl rfl (D rfl rfl (D rfl (op_ld (M28.at 1 rfl) rfl rfl) (D rfl (op_lenS (l := s_) rfl) ?_))))))
     refine WS.gtrN (a := (s_).length) (b := 0) rfl rfl rfl (fun e61 => ?_) (fun e61 => ?_)
     ·
      refine D rfl rfl (F [(2, _), (5, _), (62, _)] rfl ?_)
      refine AZ rfl (J (G (AQ (.agg #[(.int .u8 (0 : Int)), (.int .u64 (0 : Int)), (.string (bs ([]))), (.slice none 0 0)]) rfl rfl rfl ?_)))
      refine U (M28.focus 3 rfl) [_, _, _, _] [_, _, _, _] rfl rfl rfl rfl rfl (C rfl) (C rfl) rfl rfl ?_
      intro h59 M60
      replace M60 : Mem _ _ ([(p1, _)] :: S_ :: [(p4, _)] :: [(p9, _)] :: []) _ := M60
      refine D rfl rfl (F [(2, _), (3, _)] rfl ?_)
      refine WC.ret (⟨[_, _], (res_cellN [_, _, _, _] rfl (M60.at 0 rfl) (C rfl) rfl (res_tmp rfl res_nil)), ?_⟩)
      have hno : ∀ r0, FitRes r0 → encR r0 ≠ s := by
        intro r0 hf he
        obtain ⟨g1, g2, g3, g4, g5, g6, g7⟩ := hC r0 hf he.symm
        first
        | (cases g1; done)
        | (have g8 : s_ = [] := by (rw [g7, List.drop_eq_nil_of_le (by omega)]; rfl)
           have q := congrArg List.length g8; simp only [Y] at q; omega)
      exact ⟨zeroR, .slice none 0 0, [], false, .nil, rfl, fitR0, rdR_no hno, (M60.bare.take 0).nils⟩
     ·
      refine D rfl rfl (F [(2, _), (5, _), (62, _)] rfl ?_)
      refine WC.condF rfl (WC.skip (J (G (D rfl (op_lds [_, _, _, _] (M28.at 2 rfl) rfl (C rfl) rfl) ?_))))
      refine U (M28.focus 3 rfl) [_, _, _, _] [_, _, _, _] rfl rfl rfl rfl rfl (C rfl) (C rfl) rfl rfl ?_
      intro h61 M62
      replace M62 : Mem _ _ ([(p1, _)] :: S_ :: [(p4, _)] :: [(p9, _)] :: []) _ := M62
      refine D rfl rfl (F [(2, _), (3, _)] rfl ?_)
      refine WC.ret (⟨[_, _], (res_cellN [_, _, _, _] rfl (M62.at 0 rfl) (C rfl) rfl (res_tmp rfl res_nil)), ?_⟩)
      have hs0 : s_ = [] := List.eq_nil_of_length_eq_zero (by omega)
      have henc : encR ⟨m7_, m14_, m18_, l⟩ = s := by
        rw [hI (show true = true by first | assumption | rfl), hs0]
        unfold encR headR
        dsimp only
        rw [show l.length = (m22_).toNat by omega]
        simp
      exact ⟨⟨m7_, m14_, m18_, l⟩, _, _, true, hO, rfl, ⟨by dsimp only; omega, by dsimp only; omega, hF⟩, ⟨fun _ => henc, fun q => nomatch q⟩, ((M62.bare.focus 1 rfl).take 1)⟩
end Go.Proofs.Yteikngjiaboeaaa.Wt
