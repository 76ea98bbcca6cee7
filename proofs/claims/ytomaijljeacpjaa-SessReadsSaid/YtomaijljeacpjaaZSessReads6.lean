/- The law 'SessReads' returns true for all arguments: what its proof stands on, part 6. -/
import Derived.Test.YtomaijljeacpjaaZSessReads5
import Derived.OpenShut
namespace Go.Proofs.Ytomaijljeacpjaa.Am
open Go
set_option linter.unusedVariables false
set_option linter.unusedSimpArgs false
abbrev BL := List (Option Blk × Option Am.Loc)
def CompR (r : Rho) (k : Nat) (bl : BL) : Prop := ∀ i p, bl[i]? = some p → r (k + i) = p.2
def CompH (h : H) (k : Nat) (bl : BL) : Prop := ∀ i p, bl[i]? = some p → ∀ B, p.1 = some B → h.get (k + i) = some B
def BlkOK (W : World) (r : Rho) (p : Option Blk × Option Am.Loc) : Prop := ∀ B, p.1 = some B → ∃ L c e fz, p.2 = some L ∧ W.heap[L.b]? = some (.cells c e fz) ∧ L.es = B.es ∧ B.cells.length ≤ L.lim ∧ L.o + L.lim ≤ c.size ∧ B.ro = true ∧
  ∀ (i : Nat) (v : Value), B.cells[i]? = some v → v.oneCell' = true ∧ ∃ v', c[L.o + i]? = some v' ∧ VR r v v'
theorem CompR.left {r : Rho} {k : Nat} {a b : BL} (h : CompR r k (a ++ b)) : CompR r k a := fun i p hp => h i p (by rw [List.getElem?_append_left (List.getElem?_eq_some_iff.1 hp).1]; exact hp)
theorem CompR.right {r : Rho} {k : Nat} {a b : BL} (h : CompR r k (a ++ b)) : CompR r (k + a.length) b := fun i p hp => by
  have := h (a.length + i) p (by rw [List.getElem?_append_right (by omega), Nat.add_sub_cancel_left]; exact hp)
  rw [← this]; congr 1; omega
theorem CompH.left {r : H} {k : Nat} {a b : BL} (h : CompH r k (a ++ b)) : CompH r k a := fun i p hp => h i p (by rw [List.getElem?_append_left (List.getElem?_eq_some_iff.1 hp).1]; exact hp)
abbrev Lay (α : Type) := H → α → List Value → Prop
def Given (W : World) (k n : Nat) {α : Type} (L : Lay α) (ok : α → Prop) (cs : List Value) : Prop :=
  ∃ (a : α) (bl : BL) (acs : List Value), acs.length = n ∧ acs.all (·.oneCell') = true ∧ (∀ r, CompR r k bl → (∀ p ∈ bl, BlkOK W r p) ∧ VL r acs cs) ∧ (∀ h, CompH h k bl → L h a acs) ∧ ok a
def OpensL (P : Program) (t : TypeId) {α : Type} (L : Lay α) (n : Nat) (ok : α → Prop) : Prop :=
  P.cellsOf t = n ∧ ∀ {Hh : Type} (enc : TypeId × Value → Hh) (W : World) (held : Bool) (fuel : Nat) (cs : List Value) (x : DataW Hh × List MemPlace), DataW.trod enc P W 0 (fun _ => true) held fuel t cs = some x → ∀ k, Given W k n L ok cs
section
variable {P : Program} {t e : TypeId}
theorem given_plain {W : World} {k : Nat} {α : Type} {L : Lay α} {ok : α → Prop} {v : Value} (a : α) (hp : plain1 v = true) (hL : ∀ h, L h a [v]) (ho : ok a) : Given W k 1 L ok [v] :=
  ⟨a, [], [v], rfl, by simp [oneCell_of_plain1 hp], fun r _ => ⟨fun p hp => by simp at hp, VL.cons (VR.of_plain1 hp) (VL.nil r)⟩, fun h _ => hL h, ho⟩
def layStr : Lay (List UInt8) := fun _ a cs => cs = [.string (bs a)]
theorem OpensL.string (ht : P.underlying t = some .string) (hc : P.cellsOf t = 1) : OpensL P t layStr 1 (fun a => a.length < 9223372036854775808) := by
  refine ⟨hc, fun enc W held fuel cs x h k => ?_⟩
  obtain ⟨s, rfl, _, hs⟩ := DataW.trod_string ht h
  obtain ⟨l, rfl⟩ := bs_of s
  rw [bs_size] at hs
  exact given_plain l rfl (fun _ => rfl) (Nat.lt_succ_of_le hs)
end
theorem rel_bl {W : World} {bl : BL} (hb : ∀ p ∈ bl, BlkOK W (rhoL (bl.map Prod.snd)) p) : Rel W.heap.size (rhoL (bl.map Prod.snd)) (args (bl.map Prod.fst)) W := by
  have pick : ∀ k B, (args (bl.map Prod.fst)).get k = some B → ∃ p, bl[k]? = some p ∧ p.1 = some B := fun k B e => by
    rw [args_get, List.getElem?_map] at e
    cases ho : bl[k]? with
    | none => rw [ho] at e; cases e
    | some p => rw [ho] at e; exact ⟨p, rfl, by simpa using e⟩
  have loc : ∀ k p, bl[k]? = some p → rhoL (bl.map Prod.snd) k = p.2 := fun k p e => by simp [rhoL, List.getElem?_map, e]
  refine ⟨fun k B e => ?_, fun n m Bn Bm L M e1 e2 hne hro => ?_, fun n hn => ?_, Nat.le_refl _, fun n B L e hro hL => ?_⟩
  · obtain ⟨p, h1, h2⟩ := pick k B e
    obtain ⟨L, c, el, fz, g1, g2, g3, g4, g5, g6, g7⟩ := hb p (List.mem_of_getElem? h1) B h2
    exact ⟨L, c, el, fz, by rw [loc k p h1, g1], g2, g3, g4, g5, fun q => by (rw [g6] at q; cases q), g7⟩
  · obtain ⟨p, h1, h2⟩ := pick n Bn e1
    obtain ⟨_, _, _, _, _, _, _, _, _, g6, _⟩ := hb p (List.mem_of_getElem? h1) Bn h2
    rw [g6] at hro; cases hro
  · rw [args_next, List.length_map] at hn
    simp [rhoL, List.getElem?_eq_none (show bl.length ≤ n by omega)]
  · obtain ⟨p, h1, h2⟩ := pick n B e
    obtain ⟨L', c, el, fz, g1, g2, _⟩ := hb p (List.mem_of_getElem? h1) B h2
    rw [loc n p h1, g1] at hL; cases hL
    exact (Array.getElem?_eq_some_iff.1 g2).1
theorem compR_rho (bl : BL) : CompR (rhoL (bl.map Prod.snd)) 0 bl := fun i p hp => by simp [rhoL, List.getElem?_map, hp]
theorem compH_args (bl : BL) : CompH (args (bl.map Prod.fst)) 0 bl := fun i p hp B hB => by
  rw [args_get, List.getElem?_map, Nat.zero_add, hp]; simp [hB]
theorem wf_args (bl : BL) : Mem (args (bl.map Prod.fst)) (args (bl.map Prod.fst)) [] [] := Mem.start fun n B e => by
  rw [args_get] at e; rw [args_next]
  rcases Nat.lt_or_ge n (bl.map Prod.fst).length with q | q
  · exact q
  · rw [List.getElem?_eq_none q] at e; cases e
def GivenA (W : World) (k : Nat) (us us' : List Value) (bl : BL) : Prop := ∀ r, CompR r k bl → (∀ p ∈ bl, BlkOK W r p) ∧ VL r us us'
theorem GivenA.nil {W : World} {k : Nat} : GivenA W k [] [] [] := fun r _ => ⟨fun p hp => by simp at hp, VL.nil r⟩
theorem GivenA.cons {W : World} {k : Nat} {u u' : Value} {us us' : List Value} {bl bl2 : BL} (h1 : ∀ r, CompR r k bl → (∀ p ∈ bl, BlkOK W r p) ∧ VR r u u') (h2 : GivenA W (k + bl.length) us us' bl2) : GivenA W k (u :: us) (u' :: us') (bl ++ bl2) := fun r hr =>
  ⟨fun p hp => (List.mem_append.1 hp).elim ((h1 r hr.left).1 p) ((h2 r hr.right).1 p), VL.cons (h1 r hr.left).2 (h2 r hr.right).2⟩
theorem given_one {W : World} {k : Nat} {bl : BL} {u v : Value} (h : ∀ r, CompR r k bl → (∀ p ∈ bl, BlkOK W r p) ∧ VL r [u] [v]) : ∀ r, CompR r k bl → (∀ p ∈ bl, BlkOK W r p) ∧ VR r u v := fun r hr =>
  ⟨(h r hr).1, (h r hr).2.2 0 u v rfl rfl⟩
theorem one_of {l : List Value} (h : l.length = 1) : ∃ u, l = [u] := by
  match l, h with
  | [u], _ => exact ⟨u, rfl⟩
theorem law_calls {P : Program} {tab : Nat → Option FD} (hD : DrawOK P) (hT : TabOK P tab) {f : Nat} {W : World} {bl : BL} {us us' : List Value} (hb : ∀ r, CompR r 0 bl → (∀ p ∈ bl, BlkOK W r p) ∧ VL r us us')
    (hw : Cll tab f us (args (bl.map Prod.fst)) (fun v _ => v = .bool true)) : Calls P f us'.toArray W fun e W' => e = .returned (.bool true) ∧ Go.RowKit.Below W.heap.size W W' := by
  obtain ⟨v, h2, ⟨n, hr⟩, rfl⟩ := hw
  obtain ⟨b1, b2⟩ := hb _ (compR_rho bl)
  have R := rel_bl b1
  refine (run_table hD hT n f W.heap.size _ _ W us us' _ _ hr b2 R).2.mono fun e W' he => ?_
  obtain ⟨r2, v', rfl, hv, _, F, _⟩ := he
  cases hv
  exact ⟨rfl, F.below R⟩
end Go.Proofs.Ytomaijljeacpjaa.Am
namespace Go.Proofs.Ytomaijljeacpjaa.Wt
open Go Go.Proofs.Ytomaijljeacpjaa.Am Go.Proofs.Ytomaijljeacpjaa.IrAll
open Go.Proofs.Ytomaijljeacpjaa.Am.WS renaming op → C
open List renaming length_append → D
open List renaming length_cons → F
open List renaming length_nil → G
set_option linter.unusedVariables false
set_option linter.unusedSimpArgs false
structure Rrow where
  ky : List UInt8
  va : List UInt8
  vn : UInt64
  deriving DecidableEq
def Rrow.cells (x : Rrow) : List Value := [(.string (bs x.ky)), (.string (bs x.va)), (.int .u64 (((x.vn).toNat : Nat) : Int))]
def KRrow : Row Rrow := ⟨Rrow.cells, 3, fun _ => rfl, by decide, fun _ => rfl⟩
theorem Rrow_eqV (x y : Rrow) : eqV (.agg [(0, 2), (1, 2), (2, 1)]) (.agg (Rrow.cells x).toArray) (.agg (Rrow.cells y).toArray) = some (decide (x = y)) := by
  have e : eqV (.agg [(0, 2), (1, 2), (2, 1)]) (.agg (Rrow.cells x).toArray) (.agg (Rrow.cells y).toArray) = some ((((bs x.ky).toList == (bs y.ky).toList) && (((bs x.va).toList == (bs y.va).toList) && ((((x.vn.toNat : Nat) : Int) == ((y.vn.toNat : Nat) : Int)) && true)))) := rfl
  rw [e]; congr 1
  rw [Bool.eq_iff_iff]
  simp only [Bool.and_eq_true, beq_iff_eq, bs_toList, decide_eq_true_eq, Bool.and_true, and_true]
  constructor
  · intro h
    obtain ⟨h0, h1, h2⟩ := h
    obtain ⟨⟩ := x; obtain ⟨⟩ := y
    simp only at *
    rw [h0, h1, u64_inj (Int.ofNat.inj h2)]
  · intro h; subst h; exact ⟨rfl, rfl, rfl⟩
structure Res where
  cd : UInt8
  n : UInt64
  va : List UInt8
  rs : List Rrow
  deriving DecidableEq
def Res.cells (r : Res) (V : Value) : List Value := [(.int .u8 (((r.cd).toNat : Nat) : Int)), (.int .u64 (((r.n).toNat : Nat) : Int)), (.string (bs r.va)), V]
def Res.val (r : Res) (V : Value) : Value := .agg (r.cells V).toArray
variable {h base : H} {L : List Seg} {R : List Nat}
def FitR (rs : List Rrow) : Prop := ∀ p ∈ rs, p.ky.length ≤ 300000 ∧ p.va.length ≤ 300000
def FitRes (r : Res) : Prop := r.va.length ≤ 300000 ∧ r.rs.length ≤ 300000 ∧ FitR r.rs
def rowR (x : Rrow) : List UInt8 := (sb x.ky ++ sb x.va) ++ vb x.vn.toNat
def headR (r : Res) : List UInt8 := (([r.cd] ++ vb r.n.toNat) ++ sb r.va) ++ vb r.rs.length
def encR (r : Res) : List UInt8 := headR r ++ r.rs.flatMap rowR
theorem n64 {n : Nat} (h : n < 18446744073709551616) : (UInt64.ofNat n).toNat = n := by simp [UInt64.toNat_ofNat']; omega
theorem cvLen {n : Nat} (h : n < 18446744073709551616) : Value.int .u64 (IntKind.u64.wrap (n : Int)) = .int .u64 (((UInt64.ofNat n).toNat : Nat) : Int) := by rw [n64 h]; exact cv_u64 h
theorem walkRowW_ran {w p o : Nat} {l : List UInt8} {x : Rrow} {V : Value} {S : Seg} (ha : At base p o (Rrow.cells x)) (O : KU8.Own V l S) (M : Mem base h (S :: [(w, ⟨[V], 0, false⟩)] :: L) []) (hl : l.length ≤ 500000000000 ∧ x.ky.length ≤ 300000 ∧ x.va.length ≤ 300000) : Cll tab0 52 [.iface 107 (.pointer (some ⟨w, 0, none⟩)), .pointer (some ⟨p, o, none⟩)] h (fun v h2 => ∃ V2 S2, KU8.Own V2 (l ++ rowR x) S2 ∧ v = .tuple #[] ∧ Mem base h2 (S2 :: [(w, ⟨[V2], 0, false⟩)] :: L) []) := by
  obtain ⟨P, rfl⟩ := O.shape
  obtain ⟨l1, l2, l3⟩ := hl
  have s1 := sb_len3 l2
  have s2 := sb_len3 l3
  have s3 := vb_len x.vn.toNat_lt
  refine Cll.code rfl rfl ?_
  refine WC.env [(0, _), (1, _)] rfl ?_
  refine WC.seq (WC.draw M [] rfl ?_)
  intro rb1 h2 M3
  refine C rfl rfl (C rfl rfl (C rfl rfl (C rfl rfl (C rfl rfl (C rfl rfl (C rfl rfl ?_))))))
  refine WS.call rfl rfl rfl (w_text_ran (c := x.ky) O ((M3.focus 1 rfl).focus 1 rfl) (At.sees ha (k := 0) rfl) (by first | omega | (simp only [D, F, G]; omega))) ?_
  rintro _ h4 ⟨V6, S7, O8, rfl, M5⟩
  obtain ⟨P9, rfl⟩ := O8.shape
  replace M5 : Mem _ _ (S7 :: [(w, _)] :: L) _ := M5
  refine WS.nil [(0, _), (1, _)] rfl ?_
  refine WC.seq (WC.draw M5.bare [] rfl ?_)
  intro rb10 h11 M12
  refine C rfl rfl (C rfl rfl (C rfl rfl (C rfl rfl (C rfl rfl (C rfl rfl (C rfl rfl ?_))))))
  refine WS.call rfl rfl rfl (w_text_ran (c := x.va) O8 ((M12.focus 1 rfl).focus 1 rfl) (At.sees ha (k := 1) rfl) (by first | omega | (simp only [D, F, G]; omega))) ?_
  rintro _ h13 ⟨V15, S16, O17, rfl, M14⟩
  obtain ⟨P18, rfl⟩ := O17.shape
  replace M14 : Mem _ _ (S16 :: [(w, _)] :: L) _ := M14
  refine WS.nil [(0, _), (1, _)] rfl ?_
  refine WC.draw M14.bare [] rfl ?_
  intro rb19 h20 M21
  refine C rfl rfl (C rfl rfl (C rfl rfl (C rfl rfl (C rfl rfl (C rfl rfl (C rfl rfl ?_))))))
  refine WS.call rfl rfl rfl (w_number_ran (c := x.vn) O17 ((M21.focus 1 rfl).focus 1 rfl) (At.sees ha (k := 2) rfl) (by first | omega | (simp only [D, F, G]; omega))) ?_
  rintro _ h22 ⟨V24, S25, O26, rfl, M23⟩
  obtain ⟨P27, rfl⟩ := O26.shape
  replace M23 : Mem _ _ (S25 :: [(w, _)] :: L) _ := M23
  refine WS.nil [] rfl ?_
  refine ⟨[], res_nil, ?_⟩
  exact ⟨_, _, by rw [show l ++ rowR x = (((l ++ (sb x.ky)) ++ (sb x.va)) ++ (vb x.vn.toNat)) by simp [rowR]]; exact O26, rfl, (M23.bare)⟩
theorem walkResW_ran {w p : Nat} {l : List UInt8} {r : Res} {V Vp : Value} {S : Seg} (A : KRrow.Sl base Vp r.rs) (hf : FitRes r) (O : KU8.Own V l S) (M : Mem base h (S :: [(w, ⟨[V], 0, false⟩)] :: [(p, ⟨r.cells Vp, 0, false⟩)] :: L) []) (hl : l.length ≤ 100000) : Cll tab0 51 [.iface 107 (.pointer (some ⟨w, 0, none⟩)), .pointer (some ⟨p, 0, none⟩)] h (fun v h2 => ∃ V2 S2, KU8.Own V2 (l ++ headR r) S2 ∧ v = .int .u64 (((UInt64.ofNat r.rs.length).toNat : Nat) : Int) ∧ Mem base h2 (S2 :: [(w, ⟨[V2], 0, false⟩)] :: [(p, ⟨r.cells Vp, 0, false⟩)] :: L) []) := by
  obtain ⟨P, rfl⟩ := O.shape
  obtain ⟨Pp, n, rfl⟩ := A.shape
  obtain ⟨f1, f2, f3⟩ := hf
  have s1 := sb_len3 f1
  have s2 := vb_len r.n.toNat_lt
  have s3 := vb_len (UInt64.ofNat r.rs.length).toNat_lt
  have hn := n64 (n := r.rs.length) (by omega)
  refine Cll.code rfl rfl ?_
  refine WC.env [(0, _), (1, _)] rfl ?_
  refine WC.seq (WC.run (C rfl rfl (WS.nil [(0, _), (1, _)] rfl ?_)))
  refine WC.seq (WC.run (C rfl rfl (C rfl rfl (C rfl rfl (C rfl (op_ld (M.at 2 rfl) rfl rfl) (C rfl (op_lenVS A rfl) (WS.opV (.int .u64 (((UInt64.ofNat r.rs.length).toNat : Nat) : Int)) rfl rfl (cvLen (by omega)) ?_)))))))
  refine WS.new M rfl ?_
  intro p1 h2 M3
  refine WS.st1 (M3.focus 0 rfl) [_] [_] rfl rfl rfl rfl rfl (Nat.le_of_ble_eq_true rfl) (Nat.le_of_ble_eq_true rfl) rfl rfl ?_
  intro h4 M5
  replace M5 : Mem _ _ ([(p1, _)] :: S :: [(w, _)] :: [(p, _)] :: L) _ := M5
  refine WS.nil [(0, _), (1, _), (5, _)] rfl ?_
  refine WC.seq (WC.draw M5 [] rfl ?_)
  intro rb6 h7 M8
  refine C rfl rfl (C rfl rfl (C rfl rfl (C rfl rfl (C rfl rfl (C rfl rfl (C rfl rfl ?_))))))
  refine WS.call rfl rfl rfl (w_byte_ran (c := r.cd) O ((M8.focus 2 rfl).focus 2 rfl) ⟨_, .inr (List.Mem.tail _ (List.Mem.head _)), rfl⟩ (by first | omega | (simp only [D, F, G]; omega))) ?_
  rintro _ h9 ⟨V11, S12, O13, rfl, M10⟩
  obtain ⟨P14, rfl⟩ := O13.shape
  replace M10 : Mem _ _ (S12 :: [(w, _)] :: [(p1, _)] :: [(p, _)] :: L) _ := M10
  refine WS.nil [(0, _), (1, _), (5, _)] rfl ?_
  refine WC.seq (WC.draw M10.bare [] rfl ?_)
  intro rb15 h16 M17
  refine C rfl rfl (C rfl rfl (C rfl rfl (C rfl rfl (C rfl rfl (C rfl rfl (C rfl rfl ?_))))))
  refine WS.call rfl rfl rfl (w_number_ran (c := r.n) O13 ((M17.focus 1 rfl).focus 1 rfl) ⟨_, .inr (List.Mem.tail _ (List.Mem.head _)), rfl⟩ (by first | omega | (simp only [D, F, G]; omega))) ?_
  rintro _ h18 ⟨V20, S21, O22, rfl, M19⟩
  obtain ⟨P23, rfl⟩ := O22.shape
  replace M19 : Mem _ _ (S21 :: [(w, _)] :: [(p1, _)] :: [(p, _)] :: L) _ := M19
  refine WS.nil [(0, _), (1, _), (5, _)] rfl ?_
  refine WC.seq (WC.draw M19.bare [] rfl ?_)
  intro rb24 h25 M26
  refine C rfl rfl (C rfl rfl (C rfl rfl (C rfl rfl (C rfl rfl (C rfl rfl (C rfl rfl ?_))))))
  refine WS.call rfl rfl rfl (w_text_ran (c := r.va) O22 ((M26.focus 1 rfl).focus 1 rfl) ⟨_, .inr (List.Mem.tail _ (List.Mem.head _)), rfl⟩ (by first | omega | (simp only [D, F, G]; omega))) ?_
  rintro _ h27 ⟨V29, S30, O31, rfl, M28⟩
  obtain ⟨P32, rfl⟩ := O31.shape
  replace M28 : Mem _ _ (S30 :: [(w, _)] :: [(p1, _)] :: [(p, _)] :: L) _ := M28
  refine WS.nil [(0, _), (5, _)] rfl ?_
  refine WC.seq (WC.run (C rfl rfl ?_))
  refine WS.call rfl rfl rfl (w_number_ran (c := (UInt64.ofNat r.rs.length)) O31 ((M28.bare.focus 1 rfl).focus 1 rfl) ⟨_, .inr (List.Mem.head _), rfl⟩ (by first | omega | (simp only [D, F, G]; omega))) ?_
  rintro _ h33 ⟨V35, S36, O37, rfl, M34⟩
  obtain ⟨P38, rfl⟩ := O37.shape
  replace M34 : Mem _ _ (S36 :: [(w, _)] :: [(p1, _)] :: [(p, _)] :: L) _ := M34
  refine WS.nil [(5, _)] rfl ?_
  refine WC.seq (WC.run (C rfl (op_ld (M34.at 2 rfl) rfl rfl) (C rfl rfl (WS.nil [(4, _)] rfl ?_))))
  refine WC.ret (⟨[_], (res_tmp rfl res_nil), ?_⟩)
  exact ⟨_, _, by rw [show l ++ headR r = ((((l ++ [r.cd]) ++ (vb r.n.toNat)) ++ (sb r.va)) ++ (vb (UInt64.ofNat r.rs.length).toNat)) by unfold headR; rw [hn]; simp]; exact O37, rfl, (M34.focus 2 rfl).drop⟩
theorem WriteR_ran (W : Mem h h [] []) {r : Res} {V : Value} (A : KRrow.Sl h V r.rs) (hf : FitRes r) : Cll tab0 31 [r.val V] h (fun v h2 => v = .string (bs (encR r)) ∧ Mem h h2 [] []) := by
  obtain ⟨P, n, rfl⟩ := A.shape
  obtain ⟨f1, f2, f3⟩ := id hf
  have s1 := sb_len3 f1
  have s2 := vb_len r.n.toNat_lt
  have s3 := vb_len (n := r.rs.length) (by omega)
  have hh : (headR r).length ≤ 301000 := by unfold headR; simp only [D, F, G]; omega
  refine Cll.code rfl rfl ?_
  refine WC.env [(0, _)] rfl ?_
  refine WC.seq (WC.run (WS.box W [_, _, _, _] rfl rfl rfl rfl ?_))
  intro p1 h2 M3
  refine C rfl rfl (WS.nil [(1, _)] rfl ?_)
  refine WC.seq (WC.run (WS.opV (.agg #[(.slice none 0 0)]) rfl rfl rfl ?_))
  refine WS.box M3 [_] rfl rfl rfl rfl ?_
  intro p4 h5 M6
  refine C rfl rfl (WS.nil [(1, _), (3, _)] rfl ?_)
  refine WC.seq (WC.run (C rfl rfl (C rfl rfl ?_)))
  refine WS.call rfl rfl rfl (walkResW_ran (r := r) A (by assumption) (Row.Own.nil (K := KU8)) ((M6.focus 1 rfl).focus 1 rfl).nils (by simp)) ?_
  rintro _ h7 ⟨V9, S10, O11, rfl, M8⟩
  rw [List.nil_append] at O11
  obtain ⟨P12, rfl⟩ := O11.shape
  replace M8 : Mem _ _ (S10 :: [(p4, _)] :: [(p1, _)] :: []) _ := M8
  refine WS.nil [(1, _), (3, _)] rfl ?_
  refine WC.seq (WC.seq (WC.run (C rfl rfl (C rfl (op_ld (M8.at 2 rfl) rfl rfl) (C rfl (op_lenVS A rfl) (C rfl rfl (WS.nil [(1, _), (3, _), (12, _), (13, _)] rfl ?_)))))))
  refine WC.block ?_
  obtain ⟨L13, eL15, M14⟩ := Mem.name2 ((M8.bare.focus 1 rfl).focus 1 rfl)
  refine WC.loop (σ := Value × Seg × List UInt8 × Nat) (fun ((V_, S_, out, i)) => [(1, (.pointer (some ⟨p1, 0, none⟩))), (3, (.pointer (some ⟨p4, 0, none⟩))), (12, (.int .i64 (((r.rs).length : Nat) : Int))), (13, (.int .i64 ((i : Nat) : Int)))]) (fun ((V_, S_, out, i)) hh => Mem h hh (S_ :: [(p4, ⟨[V_], 0, false⟩)] :: L13) [] ∧ KU8.Own V_ out S_ ∧ out = headR r ++ (r.rs.take i).flatMap rowR ∧ i ≤ r.rs.length ∧ out.length ≤ 301000 + 610000 * i) (fun ((V_, S_, out, i)) => r.rs.length - i) ((.slice P12 ((headR r)).length (2 * ((headR r)).length)), S10, (headR r), 0) rfl ⟨(by exact M14), ?_⟩ ?_
  · exact ⟨by assumption, by simp, by omega, by omega⟩
  ·rintro ⟨V_, S_, out, i⟩ h16 ⟨M17, ⟨hO, hE, hi1, hol⟩⟩
   replace eL15 := eL15.symm; subst eL15
   refine WC.env [(1, _), (3, _), (12, _), (13, _)] rfl ?_
   obtain ⟨P_, rfl⟩ := hO.shape
   refine WC.seq (WC.run (WS.lssN (a := i) (b := (r.rs).length) rfl rfl rfl (fun e14 => ?_) (fun e14 => ?_)))
   ·
    refine WS.nil [(1, _), (3, _), (12, _), (13, _), (14, _)] rfl ?_
    refine WC.seq (WC.condT rfl (WC.skip (WC.seq (WC.block (WC.seq (WC.run (C rfl rfl (C rfl rfl (WS.nil [(1, _), (3, _), (4, _), (12, _), (13, _)] rfl ?_)))))))))
    refine WC.run (C rfl rfl (C rfl rfl (C rfl rfl (C rfl (op_ld (M17.at 2 rfl) rfl rfl) (C rfl rfl ?_)))))
    obtain ⟨y21, hy21⟩ : ∃ y, (r.rs)[i]? = some y := ⟨_, List.getElem?_eq_getElem (show i < (r.rs).length by first | omega | (simp only [List.length_drop, List.length_take, D, F, G, List.length_singleton]; omega) | (simp only [List.length_drop, List.length_take, D, F, G, List.length_singleton] at *; omega))⟩
    refine WS.iaVS A i hy21 rfl rfl rfl rfl ?_
    intro b21_ o21_ ha21
    refine WS.call rfl rfl rfl (walkRowW_ran (x := y21) ha21 hO ((M17.focus 1 rfl).focus 1 rfl) (by exact ⟨by omega, f3 _ (List.mem_of_getElem? hy21)⟩)) ?_
    rintro _ h18 ⟨V20, S21, O22, rfl, M19⟩
    obtain ⟨P23, rfl⟩ := O22.shape
    replace M19 : Mem _ _ (S21 :: [(p4, _)] :: [(p1, _)] :: []) _ := M19
    refine WS.nil [(1, _), (3, _), (12, _), (13, _)] rfl ?_
    refine WC.run (WS.opV (.int .i64 (((i + 1) : Nat) : Int)) rfl rfl (add_i64 (a := i) (b := 1) (by omega)) (C rfl rfl (WS.nil [(1, _), (3, _), (12, _), (13, _)] rfl ?_)))
    refine ⟨((.slice P23 ((out ++ rowR y21)).length (2 * ((out ++ rowR y21)).length)), S21, (out ++ rowR y21), i + 1), rfl, ⟨((((M19.bare.focus 2 rfl).focus 2 rfl).focus 2 rfl).take 3), ?_⟩, ?_⟩
    · exact ⟨by assumption, by rw [flatMap_take_succ rowR hy21, hE]; simp, by omega, by have t0 := f3 _ (List.mem_of_getElem? hy21); have t1 := sb_len3 t0.1; have t2 := sb_len3 t0.2; have t3 := vb_len y21.vn.toNat_lt; simp only [rowR, D]; omega⟩
    · simp only []; omega
   ·
    refine WS.nil [(1, _), (3, _), (12, _), (13, _), (14, _)] rfl ?_
    refine WC.seq (WC.condF rfl (WC.exit ?_))
    refine WC.seq (WC.run (C rfl rfl (C rfl rfl (C rfl rfl (C rfl (op_ld (M17.at 1 rfl) rfl rfl) (C rfl (op_cvBO hO (Mem.owni M17 0 rfl) rfl) (C rfl rfl (WS.nil [(2, _)] rfl ?_))))))))
    refine WC.ret (⟨[_], (res_tmp rfl res_nil), ?_⟩)
    rw [List.take_of_length_le (by omega)] at hE
    exact ⟨by rw [hE]; rfl, M17.bare.take 0⟩
set_option maxRecDepth 8000 in
theorem refWriteR_ran (W : Mem h h [] []) {r : Res} {V : Value} (A : KRrow.Sl h V r.rs) (hf : FitRes r) : Cll tab0 28 [r.val V] h (fun v h2 => v = .string (bs (encR r)) ∧ Mem h h2 [] []) := by
  obtain ⟨P, n, rfl⟩ := A.shape
  obtain ⟨f1, f2, f3⟩ := id hf
  have s1 := sb_len3 f1
  have s2 := vb_len r.n.toNat_lt
  have u1 := r.n.toNat_lt
  have s3 := vb_len (n := r.rs.length) (by omega)
  refine Cll.code rfl rfl ?_
  refine WC.env [(0, _)] rfl ?_
  refine WC.seq (WC.run (WS.box W [_, _, _, _] rfl rfl rfl rfl ?_))
  intro p1 h2 M3
  refine C rfl rfl (WS.nil [(1, _)] rfl ?_)
  refine WC.seq (WC.draw M3 [] rfl ?_)
  intro rb4 h5 M6
  refine C rfl rfl (C rfl (op_ld (M6.at 0 rfl) rfl rfl) (WS.opV (.int .i64 (((r.cd).toNat : Nat) : Int)) rfl rfl (cv_i64 (n := (r.cd).toNat) (by have := UInt8.toNat_lt (r.cd); omega)) (C rfl rfl (C rfl (op_ld (M6.at 0 rfl) rfl rfl) (C rfl rfl (C rfl (op_ld (M6.at 0 rfl) rfl rfl) (C rfl rfl (C rfl (op_ld (M6.at 0 rfl) rfl rfl) (C rfl (op_lenVS A rfl) ?_)))))))))
  refine WS.opV (.int .u64 (((r.rs).length : Nat) : Int)) rfl rfl (cv_u64 (n := (r.rs).length) (by omega)) ?_
  refine WS.call rfl rfl rfl (one_ran M6.here (n := (r.cd).toNat) (b := r.cd) (by first | rfl | simp)) ?_
  rintro _ h7 ⟨rfl, N8⟩
  have M9 := M6.trans N8
  refine WS.chk rfl (op_ld (M9.at 0 rfl) rfl rfl) rfl (sameV_refl rfl) (WS.chk rfl (op_ld (M9.at 0 rfl) rfl rfl) rfl (sameV_refl rfl) (WS.chk rfl (op_ld (M9.at 0 rfl) rfl rfl) rfl same_sl ?_))
  refine WS.call rfl rfl rfl (ref_One_ran M9.here (n := ((r.n).toNat)) (by omega)) ?_
  rintro _ h10 ⟨rfl, N11⟩
  have M12 := M9.trans N11
  refine WS.chk rfl (op_ld (M12.at 0 rfl) rfl rfl) rfl (sameV_refl rfl) (WS.chk rfl (op_ld (M12.at 0 rfl) rfl rfl) rfl same_sl (C rfl (op_sadd (l := [r.cd]) (m := (vb ((r.n).toNat))) rfl rfl (by first | omega | (simp only [D, F, G]; omega))) ?_))
  refine WS.call rfl rfl rfl (text_ran M12.here (l := r.va) (by omega)) ?_
  rintro _ h14 ⟨rfl, N15⟩
  have M16 := M12.trans N15
  refine WS.chk rfl (op_ld (M16.at 0 rfl) rfl rfl) rfl same_sl (C rfl (op_sadd (l := ([r.cd] ++ (vb ((r.n).toNat)))) (m := (sb r.va)) rfl rfl (by first | omega | (simp only [D, F, G]; omega))) ?_)
  refine WS.call rfl rfl rfl (ref_One_ran M16.here (n := ((r.rs).length)) (by omega)) ?_
  rintro _ h17 ⟨rfl, N18⟩
  have M19 := M16.trans N18
  refine C rfl (op_sadd (l := (([r.cd] ++ (vb ((r.n).toNat))) ++ (sb r.va))) (m := (vb ((r.rs).length))) rfl rfl (by first | omega | (simp only [D, F, G]; omega))) (C rfl rfl (WS.nil [(1, _), (3, _)] rfl ?_))
  refine WC.seq (WC.seq (WC.run (C rfl rfl (WS.nil [(1, _), (3, _), (4, _)] rfl ?_))))
  refine WC.block ?_
  obtain ⟨L21, eL23, M22⟩ := Mem.name M19.bare.bare
  refine WC.loop (σ := List UInt8 × Nat) (fun ((out, i)) => [(1, (.pointer (some ⟨p1, 0, none⟩))), (3, (.string (bs out))), (4, (.int .i64 ((i : Nat) : Int)))]) (fun ((out, i)) hh => Mem h hh (L21) [] ∧ out = headR r ++ (r.rs.take i).flatMap rowR ∧ i ≤ r.rs.length ∧ out.length ≤ 301000 + 610000 * i) (fun ((out, i)) => r.rs.length - i) (((([r.cd] ++ (vb ((r.n).toNat))) ++ (sb r.va)) ++ (vb ((r.rs).length))), 0) rfl ⟨M22, ?_⟩ ?_
  · exact ⟨by simp [headR], by omega, by simp only [D, F, G]; omega⟩
  ·rintro ⟨out, i⟩ h24 ⟨M25, ⟨hE, hi1, hol⟩⟩
   replace eL23 := eL23.symm; subst eL23
   refine WC.env [(1, _), (3, _), (4, _)] rfl ?_
   refine WC.seq (WC.seq (WC.run (C rfl rfl (C rfl rfl (C rfl (op_ld (M25.at 0 rfl) rfl rfl) (C rfl (op_lenVS A rfl) ?_))))))
   refine WS.lssN (a := i) (b := (r.rs).length) rfl rfl rfl (fun e27 => ?_) (fun e27 => ?_)
   ·
    refine WS.nil [(1, _), (3, _), (4, _), (27, _)] rfl ?_
    refine WC.condT rfl (WC.skip (WC.seq (WC.block (WC.draw M25 [] rfl ?_))))
    intro rb26 h27 M28
    refine C rfl rfl (C rfl rfl (C rfl (op_ld (M28.at 0 rfl) rfl rfl) (C rfl rfl ?_)))
    obtain ⟨y34, hy34⟩ : ∃ y, (r.rs)[i]? = some y := ⟨_, List.getElem?_eq_getElem (show i < (r.rs).length by first | omega | (simp only [List.length_drop, List.length_take, D, F, G, List.length_singleton]; omega) | (simp only [List.length_drop, List.length_take, D, F, G, List.length_singleton] at *; omega))⟩
    refine WS.iaVS A i hy34 rfl rfl rfl rfl ?_
    intro b34_ o34_ ha34
    refine C rfl rfl (C rfl (op_ldH rfl (At.ld0 (ha34.mono M28.sub) rfl)) (C rfl rfl (C rfl (op_ld (M28.at 0 rfl) rfl rfl) (C rfl rfl ?_))))
    refine WS.iaVS A i hy34 rfl rfl rfl rfl ?_
    intro b42_ o42_ ha42
    refine C rfl rfl (C rfl (op_ldH rfl (At.ld (ha42.mono M28.sub) rfl)) (C rfl rfl (C rfl (op_ld (M28.at 0 rfl) rfl rfl) (C rfl rfl ?_))))
    refine WS.iaVS A i hy34 rfl rfl rfl rfl ?_
    intro b50_ o50_ ha50
    refine C rfl rfl (C rfl (op_ldH rfl (At.ld (ha50.mono M28.sub) rfl)) ?_)
    have t0 := f3 _ (List.mem_of_getElem? hy34)
    have t1 := sb_len3 t0.1
    have t2 := sb_len3 t0.2
    have t3 := vb_len y34.vn.toNat_lt
    have t4 := y34.vn.toNat_lt
    refine WS.call rfl rfl rfl (text_ran M28.here (l := y34.ky) (by omega)) ?_
    rintro _ h29 ⟨rfl, N30⟩
    have M31 := M28.trans N30
    refine WS.chk rfl (op_ld (M31.at 0 rfl) rfl rfl) rfl same_sl (WS.chk rfl (op_ldH rfl (At.ld (ha42.mono M31.sub) rfl)) rfl (sameV_refl rfl) (WS.chk rfl (op_ld (M31.at 0 rfl) rfl rfl) rfl same_sl (WS.chk rfl (op_ldH rfl (At.ld (ha50.mono M31.sub) rfl)) rfl (sameV_refl rfl) (C rfl (op_sadd (l := out) (m := (sb y34.ky)) rfl rfl (by first | omega | (simp only [D, F, G]; omega))) ?_))))
    refine WS.call rfl rfl rfl (text_ran M31.here (l := y34.va) (by omega)) ?_
    rintro _ h32 ⟨rfl, N33⟩
    have M34 := M31.trans N33
    refine WS.chk rfl (op_ld (M34.at 0 rfl) rfl rfl) rfl same_sl (WS.chk rfl (op_ldH rfl (At.ld (ha50.mono M34.sub) rfl)) rfl (sameV_refl rfl) (C rfl (op_sadd (l := (out ++ (sb y34.ky))) (m := (sb y34.va)) rfl rfl (by first | omega | (simp only [D, F, G]; omega))) ?_))
    refine WS.call rfl rfl rfl (ref_One_ran M34.here (n := ((y34.vn).toNat)) (by omega)) ?_
    rintro _ h35 ⟨rfl, N36⟩
    have M37 := M34.trans N36
    refine C rfl (op_sadd (l := ((out ++ (sb y34.ky)) ++ (sb y34.va))) (m := (vb ((y34.vn).toNat))) rfl rfl (by first | omega | (simp only [D, F, G]; omega))) (C rfl rfl (WS.nil [(1, _), (3, _), (4, _)] rfl ?_))
    refine WC.run (C rfl rfl (WS.opV (.int .i64 (((i + 1) : Nat) : Int)) rfl rfl (add_i64 (a := i) (b := 1) (by omega)) (C rfl rfl (WS.nil [(1, _), (3, _), (4, _)] rfl ?_))))
    refine ⟨((((out ++ (sb y34.ky)) ++ (sb y34.va)) ++ (vb ((y34.vn).toNat))), i + 1), rfl, ⟨((M37.bare.bare.focus 0 rfl).take 1), ?_⟩, ?_⟩
    · exact ⟨by rw [flatMap_take_succ rowR hy34, hE]; simp [rowR], by omega, by simp only [D, F, G]; omega⟩
    · simp only []; omega
   ·
    refine WS.nil [(1, _), (3, _), (4, _), (27, _)] rfl ?_
    refine WC.condF rfl (WC.exit ?_)
    refine WC.seq (WC.run (C rfl rfl (C rfl rfl (WS.nil [(2, _)] rfl ?_))))
    refine WC.ret (⟨[_], (res_tmp rfl res_nil), ?_⟩)
    rw [List.take_of_length_le (by omega)] at hE
    exact ⟨by rw [hE]; rfl, M25.bare.take 0⟩
theorem opens_9 : OpensL Try.prog 9 layStr 1 (fun a => a.length < 9223372036854775808) := OpensL.string Try.underlying9 (by kernel_rfl)
end Go.Proofs.Ytomaijljeacpjaa.Wt
namespace Go.Proofs.Ytomaijljeacpjaa.Wt
open Go Go.Proofs.Ytomaijljeacpjaa.Am Go.Proofs.Ytomaijljeacpjaa.IrAll
open Go.Proofs.Ytomaijljeacpjaa.Am.WS renaming op → C
open Nat renaming le_of_ble_eq_true → D
open List renaming length_drop → F
open List renaming length_singleton → G
set_option linter.unusedVariables false
set_option linter.unusedSimpArgs false
variable {h base : H} {L : List Seg} {R : List Nat}
theorem splice_set {cells : List Value} {k : Nat} {v : Value} (h : k < cells.length) : splice cells k [v] = cells.set k v := by
  unfold splice; rw [List.set_eq_take_append_cons_drop, if_pos h]; simp
theorem set_same {α : Type} {l : List α} {i : Nat} {y : α} (hy : l[i]? = some y) : l.set i y = l := by
  apply List.ext_getElem?
  intro j
  rw [List.getElem?_set]
  split
  · rename_i e; subst e; rw [if_pos (List.getElem?_eq_some_iff.1 hy).1, hy]
  · rfl
theorem r_skip_ran {r n : Nat} {s : List UInt8} {b ok : Bool} (M : Mem base h ([(r, ⟨[.string (bs s), .bool b], 0, false⟩)] :: L) []) (hl : s.length ≤ 1000000) : Cll tab0 76 [.pointer (some ⟨r, 0, none⟩), .int .i64 (n : Int), .bool ok] h (fun v h2 => ∃ s' b', v = .bool (!b') ∧ Mem base h2 ([(r, ⟨[.string (bs s'), .bool b'], 0, false⟩)] :: L) [] ∧ (b' = false → b = false ∧ ok = true ∧ n ≤ s.length ∧ s' = s.drop n) ∧ (b' = true → s' = s) ∧ (b = false → ok = true → n ≤ s.length → b' = false)) := by
  refine Cll.code rfl rfl ?_
  refine WC.env [(0, _), (1, _), (2, _)] rfl ?_
  refine WC.seq (WC.run (C rfl rfl (WS.nil [(0, _), (1, _), (2, _)] rfl ?_)))
  refine WC.seq (WC.seq (WC.run (C rfl rfl (C rfl rfl (C rfl rfl (C rfl rfl (C rfl (op_ld (M.at 0 rfl) rfl rfl) (C rfl rfl ?_))))))))
  cases hb1 : b
  ·
   refine C rfl rfl ?_
   cases hb2 : ok
   ·
    refine WS.opV (.bool true) rfl rfl rfl (C rfl rfl (C rfl rfl (WS.off rfl (WS.off rfl (WS.off rfl (WS.off rfl (WS.off rfl (WS.off rfl (WS.off rfl ?_)))))))))
    refine C rfl rfl (C rfl rfl (C rfl rfl ?_))
    refine WS.st1 (M.focus 0 rfl) [_] [_, _] rfl rfl rfl rfl rfl (D rfl) (D rfl) rfl rfl ?_
    intro h1 M2
    replace M2 : Mem _ _ ([(r, _)] :: L) _ := M2
    refine WS.nil [(0, _), (1, _)] rfl ?_
    refine WC.seq (WC.run (C rfl rfl (C rfl rfl (C rfl rfl (C rfl (op_ld (M2.at 0 rfl) rfl rfl) (WS.nil [(0, _), (1, _), (30, _)] rfl ?_))))))
    refine WC.condT rfl (WC.seq (WC.run (C rfl rfl (WS.nil [(6, _)] rfl ?_))))
    refine WC.ret (⟨[_], (res_tmp rfl res_nil), ?_⟩)
    exact ⟨_, true, rfl, M2, fun q => (nomatch q), fun _ => rfl, fun u1 u2 u3 => by first | (cases u1; done) | (cases u2; done) | (rw [hb1] at u1; cases u1; done) | (rw [hb1] at u2; cases u2; done) | (rw [hb2] at u2; cases u2; done) | (exfalso; omega)⟩
   ·
    refine WS.opV (.bool false) rfl rfl rfl (C rfl rfl (C rfl rfl (C rfl rfl (C rfl rfl (C rfl rfl (C rfl rfl (C rfl (op_ld (M.at 0 rfl) rfl rfl) (C rfl (op_lenS (l := s) rfl) ?_))))))))
    refine WS.gtrN (a := n) (b := (s).length) rfl rfl rfl (fun e23 => ?_) (fun e23 => ?_)
    ·
     refine C rfl rfl (C rfl rfl (C rfl rfl ?_))
     refine WS.st1 (M.focus 0 rfl) [_] [_, _] rfl rfl rfl rfl rfl (D rfl) (D rfl) rfl rfl ?_
     intro h3 M4
     replace M4 : Mem _ _ ([(r, _)] :: L) _ := M4
     refine WS.nil [(0, _), (1, _)] rfl ?_
     refine WC.seq (WC.run (C rfl rfl (C rfl rfl (C rfl rfl (C rfl (op_ld (M4.at 0 rfl) rfl rfl) (WS.nil [(0, _), (1, _), (30, _)] rfl ?_))))))
     refine WC.condT rfl (WC.seq (WC.run (C rfl rfl (WS.nil [(6, _)] rfl ?_))))
     refine WC.ret (⟨[_], (res_tmp rfl res_nil), ?_⟩)
     exact ⟨_, true, rfl, M4, fun q => (nomatch q), fun _ => rfl, fun u1 u2 u3 => by first | (cases u1; done) | (cases u2; done) | (rw [hb1] at u1; cases u1; done) | (rw [hb1] at u2; cases u2; done) | (rw [hb2] at u2; cases u2; done) | (exfalso; omega)⟩
    ·
     refine C rfl rfl (C rfl rfl (C rfl rfl ?_))
     refine WS.st1 (M.focus 0 rfl) [_] [_, _] rfl rfl rfl rfl rfl (D rfl) (D rfl) rfl rfl ?_
     intro h5 M6
     replace M6 : Mem _ _ ([(r, _)] :: L) _ := M6
     refine WS.nil [(0, _), (1, _)] rfl ?_
     refine WC.seq (WC.run (C rfl rfl (C rfl rfl (C rfl rfl (C rfl (op_ld (M6.at 0 rfl) rfl rfl) (WS.nil [(0, _), (1, _), (30, _)] rfl ?_))))))
     refine WC.condF rfl (WC.skip (WC.seq (WC.run (C rfl rfl (C rfl rfl (C rfl rfl (C rfl rfl (C rfl (op_ld (M6.at 0 rfl) rfl rfl) (C rfl rfl (C rfl (op_slS0 (l := s) n rfl rfl (by first | omega | (simp only [F, List.length_take, List.length_append, List.length_cons, List.length_nil, G]; omega) | (simp only [F, List.length_take, List.length_append, List.length_cons, List.length_nil, G] at *; omega))) (C rfl rfl (C rfl rfl ?_))))))))))))
     refine WS.st1 (M6.focus 0 rfl) [_] [_, _] rfl rfl rfl rfl rfl (D rfl) (D rfl) rfl rfl ?_
     intro h7 M8
     replace M8 : Mem _ _ ([(r, _)] :: L) _ := M8
     refine WS.nil [] rfl ?_
     refine WC.seq (WC.run (C rfl rfl (WS.nil [(6, _)] rfl ?_)))
     refine WC.ret (⟨[_], (res_tmp rfl res_nil), ?_⟩)
     exact ⟨_, false, rfl, M8, fun _ => ⟨by first | assumption | rfl, by first | assumption | rfl, by omega, rfl⟩, fun q => (nomatch q), fun _ _ _ => rfl⟩
  ·
   refine WS.off rfl (WS.off rfl (C rfl rfl (C rfl rfl (WS.off rfl (WS.off rfl (WS.off rfl (WS.off rfl (WS.off rfl (WS.off rfl ?_)))))))))
   refine WS.off rfl (C rfl rfl (C rfl rfl (C rfl rfl ?_)))
   refine WS.st1 (M.focus 0 rfl) [_] [_, _] rfl rfl rfl rfl rfl (D rfl) (D rfl) rfl rfl ?_
   intro h9 M10
   replace M10 : Mem _ _ ([(r, _)] :: L) _ := M10
   refine WS.nil [(0, _), (1, _)] rfl ?_
   refine WC.seq (WC.run (C rfl rfl (C rfl rfl (C rfl rfl (C rfl (op_ld (M10.at 0 rfl) rfl rfl) (WS.nil [(0, _), (1, _), (30, _)] rfl ?_))))))
   refine WC.condT rfl (WC.seq (WC.run (C rfl rfl (WS.nil [(6, _)] rfl ?_))))
   refine WC.ret (⟨[_], (res_tmp rfl res_nil), ?_⟩)
   exact ⟨_, true, rfl, M10, fun q => (nomatch q), fun _ => rfl, fun u1 u2 u3 => by first | (cases u1; done) | (cases u2; done) | (rw [hb1] at u1; cases u1; done) | (rw [hb1] at u2; cases u2; done) | (rw [hb2] at u2; cases u2; done) | (exfalso; omega)⟩
theorem r_byte_ran {r q k es : Nat} {s : List UInt8} {b : Bool} {cells : List Value} {old : UInt8} (M : Mem base h ([(r, ⟨[.string (bs s), .bool b], 0, false⟩)] :: [(q, ⟨cells, es, false⟩)] :: L) []) (hk : cells[k]? = some (.int .u8 ((old.toNat : Nat) : Int))) (hl : s.length ≤ 1000000) :
    Cll tab0 73 [.pointer (some ⟨r, 0, none⟩), .pointer (some ⟨q, k, none⟩)] h (fun v h2 => ∃ s' b' c, v = .tuple #[] ∧ Mem base h2 ([(r, ⟨[.string (bs s'), .bool b'], 0, false⟩)] :: [(q, ⟨cells.set k (.int .u8 ((UInt8.toNat c : Nat) : Int)), es, false⟩)] :: L) [] ∧ s'.length ≤ s.length ∧ (b' = false → b = false ∧ s = c :: s') ∧ (∀ c0 t, b = false → s = c0 :: t → b' = false ∧ c = c0 ∧ s' = t)) := by
  have hkl := (List.getElem?_eq_some_iff.1 hk).1
  refine Cll.code rfl rfl ?_
  refine WC.env [(0, _), (1, _)] rfl ?_
  refine WC.seq (WC.run (C rfl rfl (C rfl rfl (C rfl rfl (C rfl (op_ld (M.at 0 rfl) rfl rfl) (C rfl rfl (WS.nil [(0, _), (1, _), (4, _)] rfl ?_)))))))
  refine WC.seq (WC.run (C rfl rfl ?_))
  refine WS.call rfl rfl rfl (r_skip_ran (s := s) (b := b) (n := 1) (ok := true) (M.focus 0 rfl) (by omega)) ?_
  rintro _ h1 ⟨s', b', rfl, M2, q1, q2, q3⟩
  replace M2 : Mem _ _ ([(r, _)] :: [(q, _)] :: L) _ := M2
  refine WS.nil [(1, _), (4, _), (10, _)] rfl ?_
  cases hb1 : (!b')
  ·
   refine WC.condF rfl (WC.skip (⟨[], res_nil, ?_⟩))
   have g0 : b' = true := by simpa using hb1
   exact ⟨_, _, old, rfl, by rw [set_same hk]; exact M2, by rw [q2 g0]; exact Nat.le_refl _, fun q => by rw [g0] at q; exact absurd q (by decide), fun c0 t u e => by have := q3 u rfl (by subst e; simp); rw [g0] at this; exact absurd this (by decide)⟩
  ·
   refine WC.condT rfl (WC.run (C rfl rfl (C rfl rfl ?_)))
   obtain ⟨g1, g2, g3, g4⟩ := q1 (by simpa using hb1)
   obtain ⟨c, hc⟩ : ∃ c, (s)[0]? = some c := ⟨_, List.getElem?_eq_getElem (show 0 < (s).length by first | omega | (simp only [F, List.length_take, List.length_append, List.length_cons, List.length_nil, G]; omega) | (simp only [F, List.length_take, List.length_append, List.length_cons, List.length_nil, G] at *; omega))⟩
   refine C rfl (op_ixS 0 rfl rfl hc) (C rfl rfl ?_)
   refine WS.st1 (M2.focus 1 rfl) [(.int .u8 (((c).toNat : Nat) : Int))] (cells.set k (.int .u8 (((c).toNat : Nat) : Int))) rfl rfl rfl rfl rfl (D rfl) (by exact hkl) rfl (splice_set hkl) ?_
   intro h3 M4
   replace M4 : Mem _ _ ([(q, _)] :: [(r, _)] :: L) _ := M4
   refine WS.nil [] rfl ?_
   refine ⟨[], res_nil, ?_⟩
   exact ⟨_, _, c, rfl, ((M4.focus 0 rfl).focus 1 rfl), by rw [g4, F]; omega, fun q => ⟨g1, by rw [g4]; simpa using drop_cons hc⟩, fun c0 t _ e => ⟨by simpa using hb1, by subst e; simpa using hc.symm, by subst e; rw [g4]; rfl⟩⟩
theorem r_number_ran {r q k es : Nat} {s : List UInt8} {b : Bool} {cells : List Value} {old : UInt64} (M : Mem base h ([(r, ⟨[.string (bs s), .bool b], 0, false⟩)] :: [(q, ⟨cells, es, false⟩)] :: L) []) (hk : cells[k]? = some (.int .u64 ((old.toNat : Nat) : Int))) (hl : s.length ≤ 1000000) :
    Cll tab0 74 [.pointer (some ⟨r, 0, none⟩), .pointer (some ⟨q, k, none⟩)] h (fun v h2 => ∃ s' b' c, v = .tuple #[] ∧ Mem base h2 ([(r, ⟨[.string (bs s'), .bool b'], 0, false⟩)] :: [(q, ⟨cells.set k (.int .u64 ((UInt64.toNat c : Nat) : Int)), es, false⟩)] :: L) [] ∧ s'.length ≤ s.length ∧ (b' = false → b = false ∧ s = vb c.toNat ++ s') ∧ (∀ (m : Nat) t, m < 18446744073709551616 → b = false → s = vb m ++ t → b' = false ∧ c.toNat = m ∧ s' = t)) := by
  have hkl := (List.getElem?_eq_some_iff.1 hk).1
  refine Cll.code rfl rfl ?_
  refine WC.env [(0, _), (1, _)] rfl ?_
  refine WC.seq (WC.run (C rfl rfl (C rfl rfl (C rfl rfl (C rfl (op_ld (M.at 0 rfl) rfl rfl) ?_)))))
  refine WS.call rfl rfl rfl (num_ReadV_ran M.here (l := s) (by first | omega | (simp only [F, List.length_take, List.length_append, List.length_cons, List.length_nil, G]; omega) | (simp only [F, List.length_take, List.length_append, List.length_cons, List.length_nil, G] at *; omega))) ?_
  rintro _ h1 ⟨rfl, N2⟩
  have M3 := M.trans N2
  refine C rfl rfl (WS.opV (.int .u64 (((UInt64.ofNat (rvN s)).toNat : Nat) : Int)) rfl rfl (u64_ofNat (n := (rvN s)) (by have := rvN_lt s; omega)) (C rfl rfl (C rfl rfl (C rfl rfl (C rfl rfl (C rfl rfl (WS.nil [(0, _), (1, _), (4, _), (5, _), (6, _)] rfl ?_)))))))
  refine WC.seq (WC.run (C rfl rfl (C rfl rfl (C rfl rfl ?_))))
  refine WS.call rfl rfl rfl (r_skip_ran (s := s) (b := b) (n := (rvK s)) (ok := (rvOK s)) (M3.focus 0 rfl) (by omega)) ?_
  rintro _ h5 ⟨s', b', rfl, M6, q1, q2, q3⟩
  replace M6 : Mem _ _ ([(r, _)] :: [(q, _)] :: L) _ := M6
  refine WS.nil [(1, _), (4, _), (19, _)] rfl ?_
  cases hb1 : (!b')
  ·
   refine WC.condF rfl (WC.skip (⟨[], res_nil, ?_⟩))
   have g0 : b' = true := by first | simpa using hb1 | simpa using hb2
   exact ⟨_, _, old, rfl, by rw [set_same hk]; exact M6, by rw [q2 g0]; exact Nat.le_refl _, fun q => by rw [g0] at q; exact absurd q (by decide), fun m t hm u e => by obtain ⟨f1, f2, f3⟩ := rv_eq_some (show getV s = some (m, (vb m).length) by rw [e]; exact getV_vb hm t); have := q3 u f3 (rvK_le s).1; rw [g0] at this; exact absurd this (by decide)⟩
  ·
   refine WC.condT rfl (WC.run (C rfl rfl (C rfl rfl (C rfl rfl ?_))))
   refine WS.st1 (M6.focus 1 rfl) [(.int .u64 (((UInt64.ofNat (rvN s)).toNat : Nat) : Int))] (cells.set k (.int .u64 (((UInt64.ofNat (rvN s)).toNat : Nat) : Int))) rfl rfl rfl rfl rfl (D rfl) (by exact hkl) rfl (splice_set hkl) ?_
   intro h7 M8
   replace M8 : Mem _ _ ([(q, _)] :: [(r, _)] :: L) _ := M8
   refine WS.nil [] rfl ?_
   refine ⟨[], res_nil, ?_⟩
   have g0 : b' = false := by first | simpa using hb1 | simpa using hb2
   obtain ⟨g1, g2, g3, g4⟩ := q1 g0
   exact ⟨_, _, UInt64.ofNat (rvN s), rfl, ((M8.focus 0 rfl).focus 1 rfl), by rw [g4, F]; omega, fun q => ⟨g1, by rw [n64 (rvN_lt s), g4]; exact (getV_some (show getV s = some (rvN s, rvK s) by rw [getV_eq, g2]; rfl)).1⟩, fun m t hm _ e => by obtain ⟨f1, f2, f3⟩ := rv_eq_some (show getV s = some (m, (vb m).length) by rw [e]; exact getV_vb hm t); exact ⟨g0, by rw [n64 (rvN_lt s), f1], by rw [g4, f2, e, List.drop_left]⟩⟩
theorem r_text_ran {r q k es : Nat} {s : List UInt8} {b : Bool} {cells : List Value} {old : List UInt8} (M : Mem base h ([(r, ⟨[.string (bs s), .bool b], 0, false⟩)] :: [(q, ⟨cells, es, false⟩)] :: L) []) (hk : cells[k]? = some (.string (bs old))) (hl : s.length ≤ 1000000) (ho : old = []) :
    Cll tab0 75 [.pointer (some ⟨r, 0, none⟩), .pointer (some ⟨q, k, none⟩)] h (fun v h2 => ∃ s' b' c, v = .tuple #[] ∧ Mem base h2 ([(r, ⟨[.string (bs s'), .bool b'], 0, false⟩)] :: [(q, ⟨cells.set k (.string (bs c)), es, false⟩)] :: L) [] ∧ s'.length ≤ s.length ∧ c.length ≤ s.length ∧ (b' = false → b = false ∧ s = sb c ++ s') ∧ (∀ u t, u.length < 18446744073709551616 → b = false → s = sb u ++ t → b' = false ∧ c = u ∧ s' = t)) := by
  have hkl := (List.getElem?_eq_some_iff.1 hk).1
  have hrs := rsT_le s
  refine Cll.code rfl rfl ?_
  refine WC.env [(0, _), (1, _)] rfl ?_
  refine WC.seq (WC.run (C rfl rfl (C rfl rfl (C rfl rfl (C rfl (op_ld (M.at 0 rfl) rfl rfl) ?_)))))
  refine WS.call rfl rfl rfl (num_ReadS_ran M.here (l := s) (by first | omega | (simp only [F, List.length_take, List.length_append, List.length_cons, List.length_nil, G]; omega) | (simp only [F, List.length_take, List.length_append, List.length_cons, List.length_nil, G] at *; omega))) ?_
  rintro _ h1 ⟨rfl, N2⟩
  have M3 := M.trans N2
  refine C rfl rfl (C rfl rfl (C rfl rfl (C rfl rfl (C rfl rfl (C rfl rfl (C rfl rfl (WS.nil [(0, _), (1, _), (4, _), (5, _), (6, _)] rfl ?_)))))))
  refine WC.seq (WC.run (C rfl rfl (C rfl rfl (C rfl rfl ?_))))
  refine WS.call rfl rfl rfl (r_skip_ran (s := s) (b := b) (n := (rsK s)) (ok := (rsOK s)) (M3.focus 0 rfl) (by omega)) ?_
  rintro _ h5 ⟨s', b', rfl, M6, q1, q2, q3⟩
  replace M6 : Mem _ _ ([(r, _)] :: [(q, _)] :: L) _ := M6
  refine WS.nil [(1, _), (4, _), (19, _)] rfl ?_
  cases hb1 : (!b')
  ·
   refine WC.condF rfl (WC.skip (⟨[], res_nil, ?_⟩))
   have g0 : b' = true := by first | simpa using hb1 | simpa using hb2
   exact ⟨_, _, old, rfl, by rw [set_same hk]; exact M6, by rw [q2 g0]; exact Nat.le_refl _, by subst ho; exact Nat.zero_le _, fun q => by rw [g0] at q; exact absurd q (by decide), fun u t hu v e => by obtain ⟨f1, f2, f3⟩ := rs_eq_some (show getS s = some (u, (sb u).length) by rw [e]; exact getS_sb hu t); have := q3 v f3 (rsK_le s); rw [g0] at this; exact absurd this (by decide)⟩
  ·
   refine WC.condT rfl (WC.run (C rfl rfl (C rfl rfl (C rfl rfl ?_))))
   refine WS.st1 (M6.focus 1 rfl) [(.string (bs (rsT s)))] (cells.set k (.string (bs (rsT s)))) rfl rfl rfl rfl rfl (D rfl) (by exact hkl) rfl (splice_set hkl) ?_
   intro h7 M8
   replace M8 : Mem _ _ ([(q, _)] :: [(r, _)] :: L) _ := M8
   refine WS.nil [] rfl ?_
   refine ⟨[], res_nil, ?_⟩
   have g0 : b' = false := by first | simpa using hb1 | simpa using hb2
   obtain ⟨g1, g2, g3, g4⟩ := q1 g0
   exact ⟨_, _, rsT s, rfl, ((M8.focus 0 rfl).focus 1 rfl), by rw [g4, F]; omega, hrs, fun q => ⟨g1, by rw [g4]; exact (getS_some (show getS s = some (rsT s, rsK s) by rw [getS_eq, g2]; rfl)).1⟩, fun u t hu _ e => by obtain ⟨f1, f2, f3⟩ := rs_eq_some (show getS s = some (u, (sb u).length) by rw [e]; exact getS_sb hu t); exact ⟨g0, f1, by rw [g4, f2, e, List.drop_left]⟩⟩
theorem well_ran (W : Mem h h [] []) {r : Nat} {s : List UInt8} {b : Bool} (hp : h.get r = some ⟨[.string (bs s), .bool b], 0, false⟩) : Cll tab0 53 [.pointer (some ⟨r, 0, none⟩)] h (fun v h2 => v = .bool (decide (b = false ∧ s = [])) ∧ Mem h h2 [] []) := by
  refine Cll.code rfl rfl ?_
  refine WC.env [(0, _)] rfl ?_
  refine WC.seq (WC.run (C rfl rfl (WS.nil [(0, _)] rfl ?_)))
  refine WC.seq (WC.run (C rfl rfl (C rfl rfl (C rfl rfl (C rfl (op_ld (W.sub _ _ hp) rfl rfl) ?_)))))
  cases hb1 : b
  ·
   refine WS.opV (.bool true) rfl rfl rfl (C rfl rfl (C rfl rfl (C rfl rfl (C rfl rfl (C rfl (op_ld (W.sub _ _ hp) rfl rfl) ?_)))))
   refine WS.seql (l := s) (m := []) rfl rfl rfl (fun e13 => ?_) (fun e13 => ?_)
   ·
    refine C rfl rfl (C rfl rfl (WS.nil [(2, _)] rfl ?_))
    refine WC.ret (⟨[_], (res_tmp rfl res_nil), ?_⟩)
    exact ⟨by rw [decide_eq_true ⟨by first | assumption | rfl, by assumption⟩]; rfl, W.bare.take 0⟩
   ·
    refine C rfl rfl (C rfl rfl (WS.nil [(2, _)] rfl ?_))
    refine WC.ret (⟨[_], (res_tmp rfl res_nil), ?_⟩)
    exact ⟨by rw [decide_eq_false (by rintro ⟨q1, q2⟩; first | exact absurd q2 (by assumption) | (cases q1; done) | (rw [hb1] at q1; cases q1))]; rfl, W.bare.take 0⟩
  ·
   refine WS.opV (.bool false) rfl rfl rfl (C rfl rfl (WS.off rfl (WS.off rfl (WS.off rfl (WS.off rfl (WS.off rfl (C rfl rfl (C rfl rfl (WS.nil [(2, _)] rfl ?_)))))))))
   refine WC.ret (⟨[_], (res_tmp rfl res_nil), ?_⟩)
   exact ⟨by rw [decide_eq_false (by rintro ⟨q1, q2⟩; first | exact absurd q2 (by assumption) | (cases q1; done) | (rw [hb1] at q1; cases q1))]; rfl, W.bare.take 0⟩
end Go.Proofs.Ytomaijljeacpjaa.Wt
namespace Go.Proofs.Ytomaijljeacpjaa.Wt
open Go Go.Proofs.Ytomaijljeacpjaa.Am Go.Proofs.Ytomaijljeacpjaa.IrAll
open Nat renaming le_of_ble_eq_true → C
open Go.Proofs.Ytomaijljeacpjaa.Am.WS renaming op → D
set_option linter.unusedVariables false
set_option linter.unusedSimpArgs false
variable {h base : H} {L : List Seg} {R : List Nat}
theorem walkRowR_ran {r p : Nat} {s : List UInt8} {b : Bool} (M : Mem base h ([(r, ⟨[.string (bs s), .bool b], 0, false⟩)] :: [(p, ⟨[.string (bs []), .string (bs []), .int .u64 0], 0, false⟩)] :: L) []) (hl : s.length ≤ 300000) :
    Cll tab0 52 [.iface 100 (.pointer (some ⟨r, 0, none⟩)), .pointer (some ⟨p, 0, none⟩)] h (fun v h2 => ∃ x s' b', v = .tuple #[] ∧ Mem base h2 ([(r, ⟨[.string (bs s'), .bool b'], 0, false⟩)] :: [(p, ⟨Rrow.cells x, 0, false⟩)] :: L) [] ∧ s'.length ≤ s.length ∧ (x.ky.length ≤ 300000 ∧ x.va.length ≤ 300000) ∧ (b' = false → b = false ∧ s = rowR x ++ s') ∧ (∀ x0 t, x0.ky.length ≤ 300000 → x0.va.length ≤ 300000 → b = false → s = rowR x0 ++ t → b' = false ∧ x = x0 ∧ s' = t)) := by
  refine Cll.code rfl rfl ?_
  refine WC.env [(0, _), (1, _)] rfl ?_
  refine WC.seq (WC.draw M [] rfl ?_)
  intro rb1 h2 M3
  refine D rfl rfl (D rfl rfl (D rfl rfl (D rfl rfl (D rfl rfl (D rfl rfl (D rfl rfl ?_))))))
  refine WS.call rfl rfl rfl (r_text_ran (s := s) (b := b) (k := 0) ((M3.focus 1 rfl).focus 1 rfl) rfl (by omega) rfl) ?_
  rintro _ h4 ⟨s4_, b4_, m4_, rfl, M5, R4_⟩
  have R4_l := R4_.1
  have R4_t := R4_.2.1
  replace M5 : Mem _ _ ([(r, _)] :: [(p, _)] :: L) _ := M5
  refine WS.nil [(0, _), (1, _)] rfl ?_
  refine WC.seq (WC.draw M5.bare [] rfl ?_)
  intro rb6 h7 M8
  refine D rfl rfl (D rfl rfl (D rfl rfl (D rfl rfl (D rfl rfl (D rfl rfl (D rfl rfl ?_))))))
  refine WS.call rfl rfl rfl (r_text_ran (s := s4_) (b := b4_) (k := 1) ((M8.focus 1 rfl).focus 1 rfl) rfl (by omega) rfl) ?_
  rintro _ h9 ⟨s9_, b9_, m9_, rfl, M10, R9_⟩
  have R9_l := R9_.1
  have R9_t := R9_.2.1
  replace M10 : Mem _ _ ([(r, _)] :: [(p, _)] :: L) _ := M10
  refine WS.nil [(0, _), (1, _)] rfl ?_
  refine WC.draw M10.bare [] rfl ?_
  intro rb11 h12 M13
  refine D rfl rfl (D rfl rfl (D rfl rfl (D rfl rfl (D rfl rfl (D rfl rfl (D rfl rfl ?_))))))
  refine WS.call rfl rfl rfl (r_number_ran (s := s9_) (b := b9_) (k := 2) (old := 0) ((M13.focus 1 rfl).focus 1 rfl) rfl (by omega)) ?_
  rintro _ h14 ⟨s14_, b14_, m14_, rfl, M15, R14_⟩
  have R14_l := R14_.1
  replace M15 : Mem _ _ ([(r, _)] :: [(p, _)] :: L) _ := M15
  refine WS.nil [] rfl ?_
  refine ⟨[], res_nil, ?_⟩
  refine ⟨(⟨m4_, m9_, m14_⟩ : Rrow), _, _, rfl, (M15.bare), by omega, ⟨by dsimp only; omega, by dsimp only; omega⟩, fun q => ?_, fun x0 t y1 y2 y3 y4 => ?_⟩
  · obtain ⟨g1, g2⟩ := R14_.2.1 q
    obtain ⟨g3, g4⟩ := R9_.2.2.1 g1
    obtain ⟨g5, g6⟩ := R4_.2.2.1 g3
    exact ⟨g5, by rw [g6, g4, g2]; simp [rowR]⟩
  · obtain ⟨z1, z2, z3⟩ := R4_.2.2.2 x0.ky (sb x0.va ++ (vb x0.vn.toNat ++ t)) (by omega) y3 (by rw [y4]; simp [rowR])
    obtain ⟨z4, z5, z6⟩ := R9_.2.2.2 x0.va _ (by omega) z1 z3
    obtain ⟨z7, z8, z9⟩ := R14_.2.2 x0.vn.toNat _ (UInt64.toNat_lt _) z4 z6
    exact ⟨z7, by rw [z2, z5, u64_inj z8], z9⟩
theorem walkResR_ran {r p : Nat} {s : List UInt8} {b : Bool} (M : Mem base h ([(r, ⟨[.string (bs s), .bool b], 0, false⟩)] :: [(p, ⟨[.int .u8 0, .int .u64 0, .string (bs []), .slice none 0 0], 0, false⟩)] :: L) []) (hl : s.length ≤ 300000) :
    Cll tab0 51 [.iface 100 (.pointer (some ⟨r, 0, none⟩)), .pointer (some ⟨p, 0, none⟩)] h (fun v h2 => ∃ cd n va N s' b', v = .int .u64 ((UInt64.toNat N : Nat) : Int) ∧ Mem base h2 ([(r, ⟨[.string (bs s'), .bool b'], 0, false⟩)] :: [(p, ⟨[.int .u8 ((UInt8.toNat cd : Nat) : Int), .int .u64 ((UInt64.toNat n : Nat) : Int), .string (bs va), .slice none 0 0], 0, false⟩)] :: L) [] ∧ s'.length ≤ s.length ∧ va.length ≤ 300000 ∧ (b' = false → b = false ∧ s = ((([cd] ++ vb n.toNat) ++ sb va) ++ vb N.toNat) ++ s') ∧ (∀ cd0 n0 va0 N0 t, va0.length ≤ 300000 → b = false → s = ((([cd0] ++ vb (UInt64.toNat n0)) ++ sb va0) ++ vb (UInt64.toNat N0)) ++ t → b' = false ∧ cd = cd0 ∧ n = n0 ∧ va = va0 ∧ N = N0 ∧ s' = t)) := by
  refine Cll.code rfl rfl ?_
  refine WC.env [(0, _), (1, _)] rfl ?_
  refine WC.seq (WC.run (D rfl rfl (WS.nil [(0, _), (1, _)] rfl ?_)))
  refine WC.seq (WC.run (D rfl rfl (D rfl rfl (D rfl rfl (D rfl (op_ld (M.at 1 rfl) rfl rfl) (D rfl rfl (WS.opV (.int .u64 0) rfl rfl rfl ?_)))))))
  refine WS.new M rfl ?_
  intro p1 h2 M3
  refine WS.st1 (M3.focus 0 rfl) [_] [_] rfl rfl rfl rfl rfl (C rfl) (C rfl) rfl rfl ?_
  intro h4 M5
  replace M5 : Mem _ _ ([(p1, _)] :: [(r, _)] :: [(p, _)] :: L) _ := M5
  refine WS.nil [(0, _), (1, _), (5, _)] rfl ?_
  refine WC.seq (WC.draw M5 [] rfl ?_)
  intro rb6 h7 M8
  refine D rfl rfl (D rfl rfl (D rfl rfl (D rfl rfl (D rfl rfl (D rfl rfl (D rfl rfl ?_))))))
  refine WS.call rfl rfl rfl (r_byte_ran (s := s) (b := b) (k := 0) (old := 0) ((M8.focus 2 rfl).focus 2 rfl) rfl (by omega)) ?_
  rintro _ h9 ⟨s9_, b9_, m9_, rfl, M10, R9_⟩
  have R9_l := R9_.1
  replace M10 : Mem _ _ ([(r, _)] :: [(p, _)] :: [(p1, _)] :: L) _ := M10
  refine WS.nil [(0, _), (1, _), (5, _)] rfl ?_
  refine WC.seq (WC.draw M10.bare [] rfl ?_)
  intro rb11 h12 M13
  refine D rfl rfl (D rfl rfl (D rfl rfl (D rfl rfl (D rfl rfl (D rfl rfl (D rfl rfl ?_))))))
  refine WS.call rfl rfl rfl (r_number_ran (s := s9_) (b := b9_) (k := 1) (old := 0) ((M13.focus 1 rfl).focus 1 rfl) rfl (by omega)) ?_
  rintro _ h14 ⟨s14_, b14_, m14_, rfl, M15, R14_⟩
  have R14_l := R14_.1
  replace M15 : Mem _ _ ([(r, _)] :: [(p, _)] :: [(p1, _)] :: L) _ := M15
  refine WS.nil [(0, _), (1, _), (5, _)] rfl ?_
  refine WC.seq (WC.draw M15.bare [] rfl ?_)
  intro rb16 h17 M18
  refine D rfl rfl (D rfl rfl (D rfl rfl (D rfl rfl (D rfl rfl (D rfl rfl (D rfl rfl ?_))))))
  refine WS.call rfl rfl rfl (r_text_ran (s := s14_) (b := b14_) (k := 2) ((M18.focus 1 rfl).focus 1 rfl) rfl (by omega) rfl) ?_
  rintro _ h19 ⟨s19_, b19_, m19_, rfl, M20, R19_⟩
  have R19_l := R19_.1
  have R19_t := R19_.2.1
  replace M20 : Mem _ _ ([(r, _)] :: [(p, _)] :: [(p1, _)] :: L) _ := M20
  refine WS.nil [(0, _), (5, _)] rfl ?_
  refine WC.seq (WC.run (D rfl rfl ?_))
  refine WS.call rfl rfl rfl (r_number_ran (s := s19_) (b := b19_) (k := 0) (old := 0) ((M20.bare.focus 2 rfl).focus 1 rfl) rfl (by omega)) ?_
  rintro _ h21 ⟨s21_, b21_, m21_, rfl, M22, R21_⟩
  have R21_l := R21_.1
  replace M22 : Mem _ _ ([(r, _)] :: [(p1, _)] :: [(p, _)] :: L) _ := M22
  refine WS.nil [(5, _)] rfl ?_
  refine WC.seq (WC.run (D rfl (op_ld (M22.at 1 rfl) rfl rfl) (D rfl rfl (WS.nil [(4, _)] rfl ?_))))
  refine WC.ret (⟨[_], (res_tmp rfl res_nil), ?_⟩)
  refine ⟨_, _, _, _, _, _, rfl, (M22.focus 1 rfl).drop, by omega, by omega, fun q => ?_, fun cd0 n0 va0 N0 t y1 y2 y3 => ?_⟩
  · obtain ⟨g1, g2⟩ := R21_.2.1 q
    obtain ⟨g3, g4⟩ := R19_.2.2.1 g1
    obtain ⟨g5, g6⟩ := R14_.2.1 g3
    obtain ⟨g7, g8⟩ := R9_.2.1 g5
    exact ⟨g7, by rw [g8, g6, g4, g2]; simp⟩
  · obtain ⟨z1, z2, z3⟩ := R9_.2.2 cd0 (vb n0.toNat ++ (sb va0 ++ (vb N0.toNat ++ t))) y2 (by rw [y3]; simp)
    obtain ⟨z4, z5, z6⟩ := R14_.2.2 n0.toNat _ (UInt64.toNat_lt _) z1 z3
    obtain ⟨z7, z8, z9⟩ := R19_.2.2.2 va0 _ (by omega) z4 z6
    obtain ⟨x1, x2, x3⟩ := R21_.2.2 N0.toNat _ (UInt64.toNat_lt _) z7 z9
    exact ⟨x1, z2, u64_inj z5, z8, u64_inj x2, x3⟩
theorem rows_min (l : List Rrow) : 3 * l.length ≤ (l.flatMap rowR).length := by
  induction l with
  | nil => simp
  | cons x l ih =>
    have h1 := List.length_pos_iff.2 (vb_ne x.vn.toNat)
    have h2 := List.length_pos_iff.2 (vb_ne x.ky.length)
    have h3 := List.length_pos_iff.2 (vb_ne x.va.length)
    rw [List.flatMap_cons, List.length_append, List.length_cons]
    simp only [rowR, sb, List.length_append]; omega
def zeroR : Res := ⟨0, 0, [], []⟩
def RdR (s : List UInt8) (r : Res) (ok : Bool) : Prop := (ok = true → encR r = s) ∧ (ok = false → r = zeroR ∧ ∀ r0, FitRes r0 → encR r0 ≠ s)
theorem rdR_no {s : List UInt8} (h : ∀ r0, FitRes r0 → encR r0 ≠ s) : RdR s zeroR false := ⟨fun q => (nomatch q), fun _ => ⟨rfl, h⟩⟩
theorem drop_flatR {qs : List Rrow} {i : Nat} {y : Rrow} (h : qs[i]? = some y) : (qs.drop i).flatMap rowR = rowR y ++ (qs.drop (i + 1)).flatMap rowR := by
  have hi := (List.getElem?_eq_some_iff.1 h).1
  rw [List.drop_eq_getElem_cons hi, List.flatMap_cons]
  rw [List.getElem?_eq_getElem hi] at h; cases h; rfl
theorem fitR0 : FitRes zeroR := by unfold FitRes zeroR FitR; simp
theorem FitR_app {l : List Rrow} {x : Rrow} (h : FitR l) (hx : x.ky.length ≤ 300000 ∧ x.va.length ≤ 300000) : FitR (l ++ [x]) := by
  intro p hp
  rcases List.mem_append.1 hp with q | q
  · exact h p q
  · rw [List.mem_singleton] at q; subst q; exact hx
set_option maxRecDepth 8000 in
theorem ReadR_ran (W : Mem h h [] []) {s : List UInt8} (hl : s.length ≤ 299000) : Cll tab0 30 [.string (bs s)] h (fun v h2 => ∃ r V S ok, KRrow.Own V (Res.rs r) S ∧ v = .tuple #[r.val V, .bool ok] ∧ FitRes r ∧ (ok = true → encR r = s) ∧ (ok = false → r = zeroR) ∧ RdR s r ok ∧ Mem h h2 [S] []) := by
  refine Cll.code rfl rfl ?_
  refine WC.env [(0, _)] rfl ?_
  refine WC.seq (WC.run (WS.new W rfl ?_))
  intro p1 h2 M3
  refine D rfl rfl (WS.nil [(0, _), (2, _)] rfl ?_)
  refine WC.seq (WC.run (WS.new M3 rfl ?_))
  intro p4 h5 M6
  refine WS.nil [(0, _), (2, _), (4, _)] rfl ?_
  refine WC.seq (WC.run (D rfl rfl (WS.opV (.agg #[(.string (bs s)), (.bool false)]) rfl rfl rfl ?_)))
  refine WS.box M6 [_, _] rfl rfl rfl rfl ?_
  intro p7 h8 M9
  refine D rfl rfl (WS.nil [(2, _), (4, _), (5, _)] rfl ?_)
  refine WC.seq (WC.seq (WC.run (D rfl rfl (D rfl rfl ?_))))
  refine WS.call rfl rfl rfl (walkResR_ran (s := s) (b := false) ((M9.focus 1 rfl).focus 1 rfl) (by omega)) ?_
  rintro _ h10 ⟨cd, n_, va, N_, sx, bx, rfl, M11, hx1, hx2, hx3, hx4⟩
  replace M11 : Mem _ _ ([(p7, _)] :: [(p4, _)] :: [(p1, _)] :: []) _ := M11
  refine D rfl rfl (WS.nil [(2, _), (4, _), (5, _), (6, _)] rfl ?_)
  refine WC.block ?_
  obtain ⟨L12, eL14, M13⟩ := Mem.name3 ((((M11.bare.focus 1 rfl).focus 1 rfl)).nils)
  refine WC.loop (σ := List UInt8 × Bool × List Rrow × Value × Seg × Nat) (fun ((s_, b_, l, V_, S_, n)) => [(2, (.pointer (some ⟨p1, 0, none⟩))), (4, (.pointer (some ⟨p4, 0, none⟩))), (5, (.pointer (some ⟨p7, 0, none⟩))), (6, (.int .u64 ((n : Nat) : Int)))]) (fun ((s_, b_, l, V_, S_, n)) hh => Mem h hh (S_ :: [(p7, ⟨[(.string (bs s_)), (.bool b_)], 0, false⟩)] :: [(p4, ⟨[(.int .u8 (((cd).toNat : Nat) : Int)), (.int .u64 (((n_).toNat : Nat) : Int)), (.string (bs va)), V_], 0, false⟩)] :: L12) [] ∧ KRrow.Own V_ l S_ ∧ n < 18446744073709551616 ∧ s_.length ≤ s.length ∧ FitR l ∧ l.length ≤ 299001 ∧ (b_ = false → s = (((([cd] ++ vb n_.toNat) ++ sb va) ++ vb N_.toNat) ++ l.flatMap rowR) ++ s_ ∧ l.length + n = N_.toNat) ∧ (∀ r0 : Res, FitRes r0 → s = encR r0 → b_ = false ∧ cd = r0.cd ∧ n_ = r0.n ∧ va = r0.va ∧ n + l.length = r0.rs.length ∧ l = r0.rs.take l.length ∧ s_ = (r0.rs.drop l.length).flatMap rowR)) (fun ((s_, b_, l, V_, S_, n)) => n) (sx, bx, [], .slice none 0 0, [], N_.toNat) rfl ⟨(by exact M13), ?_⟩ ?_
  · exact ⟨.nil, UInt64.toNat_lt _, by omega, (by intro p hp; cases hp), by simp, (fun q => ⟨by rw [(hx3 q).2]; simp, by simp⟩), fun r0 hf he => by have hq := hf.2.1; obtain ⟨x1, x2, x3, x4, x5, x6⟩ := hx4 r0.cd r0.n r0.va (UInt64.ofNat r0.rs.length) (r0.rs.flatMap rowR) hf.1 rfl (by rw [he]; unfold encR headR; rw [n64 (by omega)]); exact ⟨x1, x2, x3, x4, by rw [x5, n64 (by omega)]; simp, by simp, by simpa using x6⟩⟩
  ·rintro ⟨s_, b_, l, V_, S_, n⟩ h15 ⟨M16, ⟨hO, hn64, hsl, hF, hll, hI, hC⟩⟩
   replace eL14 := eL14.symm; subst eL14
   refine WC.env [(2, _), (4, _), (5, _), (6, _)] rfl ?_
   obtain ⟨P_, rfl⟩ := hO.shape
   refine WC.seq (WC.seq (WC.run (D rfl rfl ?_)))
   refine WS.gtrN (a := n) (b := 0) rfl rfl rfl (fun e15 => ?_) (fun e15 => ?_)
   ·
    refine D rfl rfl (D rfl rfl (D rfl rfl (D rfl rfl (D rfl (op_ld (M16.at 1 rfl) rfl rfl) ?_))))
    cases b_
    ·
     refine WS.opV (.bool true) rfl rfl rfl (D rfl rfl (WS.nil [(2, _), (4, _), (5, _), (6, _), (22, _)] rfl ?_))
     refine WC.condT rfl (WC.skip (WC.seq (WC.block (WC.seq (WC.run (WS.new M16 rfl ?_))))))
     intro p17 h18 M19
     refine WS.nil [(2, _), (4, _), (5, _), (6, _), (7, _)] rfl ?_
     refine WC.seq (WC.run (D rfl rfl (D rfl rfl ?_)))
     refine WS.call rfl rfl rfl (walkRowR_ran (s := s_) (b := false) ((M19.focus 0 rfl).focus 2 rfl) (by omega)) ?_
     rintro _ h20 ⟨xr, sx, bx, rfl, M21, hx1, hx2, hx3, hx4⟩
     replace M21 : Mem _ _ ([(p7, _)] :: [(p17, _)] :: S_ :: [(p4, _)] :: [(p1, _)] :: []) _ := M21
     refine WS.nil [(2, _), (4, _), (5, _), (6, _), (7, _)] rfl ?_
     refine WC.run (D rfl rfl (D rfl (op_ld (M21.at 3 rfl) rfl rfl) (D rfl (op_lds [_, _, _] (M21.at 1 rfl) rfl (C rfl) rfl) ?_)))
     refine WS.bsl M21 [_, _, _] rfl rfl rfl rfl ?_
     intro p22 h23 M24
     refine WS.app (l := l) (m := [xr]) (hO) (M24.focus 3 rfl) (Row.Src.one (K := KRrow) (m := [xr]) (M24.at 0 rfl)) rfl (by simp only [List.length_cons, List.length_nil]; omega) (by simp only [List.length_cons, List.length_nil]; omega) rfl rfl rfl ?_
     intro V25 S26 h27 O28 M29
     obtain ⟨P30, rfl⟩ := Row.Own.shape O28
     refine D rfl rfl ?_
     refine WS.st1 (M29.focus 4 rfl) [_] [_, _, _, _] rfl rfl rfl rfl rfl (C rfl) (C rfl) rfl rfl ?_
     intro h31 M32
     replace M32 : Mem _ _ ([(p4, _)] :: S26 :: [(p22, _)] :: [(p7, _)] :: [(p17, _)] :: [(p1, _)] :: []) _ := M32
     refine WS.nil [(2, _), (4, _), (5, _), (6, _)] rfl ?_
     refine WC.run (D rfl rfl (WS.opV (.int .u64 (((n - 1) : Nat) : Int)) rfl rfl (sub_u64 (a := n) (b := 1) (by have := hn64; omega)) (D rfl rfl (WS.nil [(2, _), (4, _), (5, _), (6, _)] rfl ?_))))
     refine ⟨(sx, bx, l ++ [xr], (.slice P30 ((l ++ [xr])).length (2 * ((l ++ [xr])).length)), S26, n - 1), rfl, ⟨(((((M32.bare.focus 5 rfl).focus 1 rfl).focus 4 rfl).focus 3 rfl).take 4), ?_⟩, ?_⟩
     · exact ⟨O28, by omega, by omega, FitR_app hF hx2, by have e_ := congrArg List.length (hI rfl).1; have := rows_min l; simp only [List.length_append] at e_; simp only [List.length_append, List.length_cons, List.length_nil]; omega, (fun q => by obtain ⟨g1, g2⟩ := hx3 q; obtain ⟨g3, g4⟩ := hI rfl; exact ⟨by rw [g3, g2]; simp, by simp; omega⟩), fun r0 hf he => by obtain ⟨g1, g2, g3, g4, g5, g6, g7⟩ := hC r0 hf he; obtain ⟨y, hy⟩ : ∃ y, r0.rs[l.length]? = some y := ⟨_, List.getElem?_eq_getElem (by omega)⟩; have hyf := hf.2.2 _ (mem_get hy); obtain ⟨z1, z2, z3⟩ := hx4 y ((r0.rs.drop (l.length + 1)).flatMap rowR) hyf.1 hyf.2 rfl (by rw [g7, drop_flatR hy]); exact ⟨z1, g2, g3, g4, by simp; omega, by rw [List.length_append, List.length_singleton, List.take_add_one, hy, ← g6, z2]; rfl, by rw [List.length_append, List.length_singleton]; exact z3⟩⟩
     · simp only []; omega
    ·
     refine WS.opV (.bool false) rfl rfl rfl (D rfl rfl (WS.nil [(2, _), (4, _), (5, _), (6, _), (22, _)] rfl ?_))
     refine WC.condF rfl (WC.exit ?_)
     refine WC.seq (WC.seq (WC.run (D rfl rfl ?_)))
     refine WS.call rfl rfl rfl (well_ran M16.here (s := s_) (b := true) (M16.at 1 rfl)) ?_
     rintro _ h33 ⟨rfl, N34⟩
     have M35 := M16.trans N34
     cases hb2 : (decide (true = false ∧ s_ = []))
     ·
      refine WS.opV (.bool true) rfl rfl rfl (WS.nil [(2, _), (4, _), (36, _)] rfl ?_)
      refine WC.condT rfl (WC.seq (WC.run (WS.opV (.agg #[(.int .u8 (0 : Int)), (.int .u64 (0 : Int)), (.string (bs ([]))), (.slice none 0 0)]) rfl rfl rfl ?_)))
      refine WS.st1 (M35.focus 3 rfl) [_, _, _, _] [_, _, _, _] rfl rfl rfl rfl rfl (C rfl) (C rfl) rfl rfl ?_
      intro h36 M37
      replace M37 : Mem _ _ ([(p1, _)] :: S_ :: [(p7, _)] :: [(p4, _)] :: []) _ := M37
      refine D rfl rfl (WS.nil [(2, _), (3, _)] rfl ?_)
      refine WC.ret (⟨[_, _], (res_cellN [_, _, _, _] rfl (M37.at 0 rfl) (C rfl) rfl (res_tmp rfl res_nil)), ?_⟩)
      have hno : ∀ r0, FitRes r0 → encR r0 ≠ s := by
        intro r0 hf he
        obtain ⟨g1, g2, g3, g4, g5, g6, g7⟩ := hC r0 hf he.symm
        first
        | (cases g1; done)
        | (have g8 : s_ = [] := by (rw [g7, List.drop_eq_nil_of_le (by omega)]; rfl)
           exact absurd (And.intro g1 g8) (of_decide_eq_false (by assumption)))
      exact ⟨zeroR, .slice none 0 0, [], false, .nil, rfl, fitR0, (fun q => nomatch q), (fun _ => rfl), rdR_no hno, (M37.bare.take 0).nils⟩
     ·
      refine WS.opV (.bool false) rfl rfl rfl (WS.nil [(2, _), (4, _), (36, _)] rfl ?_)
      refine WC.condF rfl (WC.skip (WC.seq (WC.run (D rfl (op_lds [_, _, _, _] (M35.at 2 rfl) rfl (C rfl) rfl) ?_))))
      refine WS.st1 (M35.focus 3 rfl) [_, _, _, _] [_, _, _, _] rfl rfl rfl rfl rfl (C rfl) (C rfl) rfl rfl ?_
      intro h38 M39
      replace M39 : Mem _ _ ([(p1, _)] :: S_ :: [(p7, _)] :: [(p4, _)] :: []) _ := M39
      refine D rfl rfl (WS.nil [(2, _), (3, _)] rfl ?_)
      refine WC.ret (⟨[_, _], (res_cellN [_, _, _, _] rfl (M39.at 0 rfl) (C rfl) rfl (res_tmp rfl res_nil)), ?_⟩)
      obtain ⟨w1, w2⟩ := of_decide_eq_true (p := true = false ∧ s_ = []) (by assumption)
      cases w1
   ·
    refine D rfl rfl (WS.off rfl (WS.off rfl (WS.off rfl (WS.off rfl (WS.off rfl (D rfl rfl (WS.nil [(2, _), (4, _), (5, _), (6, _), (22, _)] rfl ?_)))))))
    refine WC.condF rfl (WC.exit ?_)
    refine WC.seq (WC.seq (WC.run (D rfl rfl ?_)))
    refine WS.call rfl rfl rfl (well_ran M16.here (s := s_) (b := b_) (M16.at 1 rfl)) ?_
    rintro _ h40 ⟨rfl, N41⟩
    have M42 := M16.trans N41
    cases hb3 : (decide (b_ = false ∧ s_ = []))
    ·
     refine WS.opV (.bool true) rfl rfl rfl (WS.nil [(2, _), (4, _), (36, _)] rfl ?_)
     refine WC.condT rfl (WC.seq (WC.run (WS.opV (.agg #[(.int .u8 (0 : Int)), (.int .u64 (0 : Int)), (.string (bs ([]))), (.slice none 0 0)]) rfl rfl rfl ?_)))
     refine WS.st1 (M42.focus 3 rfl) [_, _, _, _] [_, _, _, _] rfl rfl rfl rfl rfl (C rfl) (C rfl) rfl rfl ?_
     intro h43 M44
     replace M44 : Mem _ _ ([(p1, _)] :: S_ :: [(p7, _)] :: [(p4, _)] :: []) _ := M44
     refine D rfl rfl (WS.nil [(2, _), (3, _)] rfl ?_)
     refine WC.ret (⟨[_, _], (res_cellN [_, _, _, _] rfl (M44.at 0 rfl) (C rfl) rfl (res_tmp rfl res_nil)), ?_⟩)
     have hno : ∀ r0, FitRes r0 → encR r0 ≠ s := by
       intro r0 hf he
       obtain ⟨g1, g2, g3, g4, g5, g6, g7⟩ := hC r0 hf he.symm
       first
       | (cases g1; done)
       | (have g8 : s_ = [] := by (rw [g7, List.drop_eq_nil_of_le (by omega)]; rfl)
          exact absurd (And.intro g1 g8) (of_decide_eq_false (by assumption)))
     exact ⟨zeroR, .slice none 0 0, [], false, .nil, rfl, fitR0, (fun q => nomatch q), (fun _ => rfl), rdR_no hno, (M44.bare.take 0).nils⟩
    ·
     refine WS.opV (.bool false) rfl rfl rfl (WS.nil [(2, _), (4, _), (36, _)] rfl ?_)
     refine WC.condF rfl (WC.skip (WC.seq (WC.run (D rfl (op_lds [_, _, _, _] (M42.at 2 rfl) rfl (C rfl) rfl) ?_))))
     refine WS.st1 (M42.focus 3 rfl) [_, _, _, _] [_, _, _, _] rfl rfl rfl rfl rfl (C rfl) (C rfl) rfl rfl ?_
     intro h45 M46
     replace M46 : Mem _ _ ([(p1, _)] :: S_ :: [(p7, _)] :: [(p4, _)] :: []) _ := M46
     refine D rfl rfl (WS.nil [(2, _), (3, _)] rfl ?_)
     refine WC.ret (⟨[_, _], (res_cellN [_, _, _, _] rfl (M46.at 0 rfl) (C rfl) rfl (res_tmp rfl res_nil)), ?_⟩)
     obtain ⟨w1, w2⟩ := of_decide_eq_true (p := b_ = false ∧ s_ = []) (by assumption)
     obtain ⟨g3, g4⟩ := hI w1
     exact ⟨⟨cd, n_, va, l⟩, _, _, true, hO, rfl, ⟨hx2, by dsimp only; omega, hF⟩, (fun _ => by rw [g3, w2]; unfold encR headR; dsimp only; rw [show l.length = N_.toNat by omega]; simp), (fun q => nomatch q), ⟨fun _ => (by rw [g3, w2]; unfold encR headR; dsimp only; rw [show l.length = N_.toNat by omega]; simp), fun q => nomatch q⟩, ((M46.bare.focus 1 rfl).take 1)⟩
end Go.Proofs.Ytomaijljeacpjaa.Wt
namespace Go.Proofs.Ytomaijljeacpjaa.Wt
open Go Go.Proofs.Ytomaijljeacpjaa.Am Go.Proofs.Ytomaijljeacpjaa.IrAll
open Go.Proofs.Ytomaijljeacpjaa.Am.WS renaming op → C
open Go.Proofs.Ytomaijljeacpjaa.Am.WS renaming off → D
set_option linter.unusedVariables false
set_option linter.unusedSimpArgs false
variable {h base : H} {L : List Seg} {R : List Nat}
def SameRH (a b : Res) : Prop := a.cd.toNat = b.cd.toNat ∧ a.n.toNat = b.n.toNat ∧ a.va = b.va ∧ a.rs.length = b.rs.length
theorem sameR_yes {a b : Res} (q : SameRH a b) (hp : a.rs = b.rs) : a = b := by
  obtain ⟨q1, q2, q3, _⟩ := q
  obtain ⟨⟩ := a; obtain ⟨⟩ := b
  simp only at *
  rw [u8_inj q1, u64_inj q2, q3, hp]
theorem sameR_no {a b : Res} (q : ¬ SameRH a b) : a ≠ b := fun e => q (by subst e; exact ⟨rfl, rfl, rfl, rfl⟩)
theorem SameR_ran (W : Mem h h [] []) {a b : Res} {V V2 : Value} (A : KRrow.Sl h V a.rs) (B : KRrow.Sl h V2 b.rs) (hl : a.rs.length ≤ 1000000) : Cll tab0 14 [a.val V, b.val V2] h (fun v h2 => v = .bool (decide (a = b)) ∧ Mem h h2 [] []) := by
  obtain ⟨P, n, rfl⟩ := A.shape
  obtain ⟨P2, n2, rfl⟩ := B.shape
  refine Cll.code rfl rfl ?_
  refine WC.env [(0, _), (1, _)] rfl ?_
  refine WC.seq (WC.run (WS.box W [_, _, _, _] rfl rfl rfl rfl ?_))
  intro p1 h2 M3
  refine WS.box M3 [_, _, _, _] rfl rfl rfl rfl ?_
  intro p4 h5 M6
  refine C rfl rfl (WS.nil [(2, _), (3, _)] rfl ?_)
  refine WC.seq (WC.seq ?_)
  obtain ⟨L7, eL9, M8⟩ := Mem.name M6.bare
  refine WC.joinB (base := h) (fun b => [(2, (.pointer (some ⟨p1, 0, none⟩))), (3, (.pointer (some ⟨p4, 0, none⟩))), (33, .bool b)]) L7 (¬ SameRH a b) (SameRH a b) ?_ ?_ ?_
  ·replace eL9 := eL9.symm; subst eL9
   refine C rfl rfl (C rfl (op_ld (M8.at 1 rfl) rfl rfl) (C rfl rfl (C rfl (op_ld (M8.at 0 rfl) rfl rfl) ?_)))
   refine WS.neqN (a := (a.cd).toNat) (b := (b.cd).toNat) rfl rfl rfl (fun e10 => ?_) (fun e10 => ?_)
   ·
    refine C rfl rfl (D rfl (D rfl (D rfl (D rfl (D rfl (C rfl rfl (C rfl rfl (D rfl (D rfl ?_)))))))))
    refine D rfl (D rfl (D rfl (C rfl rfl (C rfl rfl (D rfl (D rfl (D rfl (D rfl (D rfl ?_)))))))))
    refine D rfl (D rfl (C rfl rfl ?_))
    refine WS.nil' ⟨true, rfl, (((M8.bare.focus 1 rfl).focus 1 rfl).take 2), fun _ => ?_, fun hh => ?_⟩
    · rintro ⟨q0, q1, q2, q3⟩; first | exact e10 q0 | exact e16 q1 | exact e23 q2 | exact e32 q3
    · cases hh
   ·
    refine C rfl rfl (C rfl rfl (C rfl (op_ld (M8.at 1 rfl) rfl rfl) (C rfl rfl (C rfl (op_ld (M8.at 0 rfl) rfl rfl) ?_))))
    refine WS.neqN (a := (a.n).toNat) (b := (b.n).toNat) rfl rfl rfl (fun e16 => ?_) (fun e16 => ?_)
    ·
     refine C rfl rfl (C rfl rfl (D rfl (D rfl (D rfl (D rfl (D rfl (C rfl rfl (C rfl rfl (D rfl ?_)))))))))
     refine D rfl (D rfl (D rfl (D rfl (D rfl (D rfl (C rfl rfl ?_))))))
     refine WS.nil' ⟨true, rfl, (((M8.bare.focus 1 rfl).focus 1 rfl).take 2), fun _ => ?_, fun hh => ?_⟩
     · rintro ⟨q0, q1, q2, q3⟩; first | exact e10 q0 | exact e16 q1 | exact e23 q2 | exact e32 q3
     · cases hh
    ·
     refine C rfl rfl (C rfl rfl (C rfl rfl (C rfl (op_ld (M8.at 1 rfl) rfl rfl) (C rfl rfl (C rfl (op_ld (M8.at 0 rfl) rfl rfl) ?_)))))
     refine WS.sneq (l := a.va) (m := b.va) rfl rfl rfl (fun e23 => ?_) (fun e23 => ?_)
     ·
      refine C rfl rfl (C rfl rfl (D rfl (D rfl (D rfl (D rfl (D rfl (D rfl (D rfl (C rfl rfl ?_)))))))))
      refine WS.nil' ⟨true, rfl, (((M8.bare.focus 1 rfl).focus 1 rfl).take 2), fun _ => ?_, fun hh => ?_⟩
      · rintro ⟨q0, q1, q2, q3⟩; first | exact e10 q0 | exact e16 q1 | exact e23 q2 | exact e32 q3
      · cases hh
     ·
      refine C rfl rfl (C rfl rfl (C rfl rfl (C rfl (op_ld (M8.at 1 rfl) rfl rfl) (C rfl (op_lenVS A rfl) (C rfl rfl (C rfl (op_ld (M8.at 0 rfl) rfl rfl) (C rfl (op_lenVS B rfl) ?_)))))))
      refine WS.neqN (a := (a.rs).length) (b := (b.rs).length) rfl rfl rfl (fun e32 => ?_) (fun e32 => ?_)
      ·
       refine C rfl rfl ?_
       refine WS.nil' ⟨true, rfl, (((M8.bare.focus 1 rfl).focus 1 rfl).take 2), fun _ => ?_, fun hh => ?_⟩
       · rintro ⟨q0, q1, q2, q3⟩; first | exact e10 q0 | exact e16 q1 | exact e23 q2 | exact e32 q3
       · cases hh
      ·
       refine C rfl rfl ?_
       refine WS.nil' ⟨false, rfl, (((M8.bare.focus 1 rfl).focus 1 rfl).take 2), fun hh => ?_, fun _ => ?_⟩
       · cases hh
       · exact ⟨e10, e16, e23, e32⟩
  ·intro h10 M11 hp33
   replace eL9 := eL9.symm; subst eL9
   refine WC.condT rfl (WC.seq (WC.run (C rfl rfl (WS.nil [(4, _)] rfl ?_))))
   refine WC.ret (⟨[_], (res_tmp rfl res_nil), ?_⟩)
   exact ⟨by rw [decide_eq_false (sameR_no hp33)]; rfl, M11.bare.take 0⟩
  ·intro h12 M13 hp33
   replace eL9 := eL9.symm; subst eL9
   refine WC.condF rfl (WC.skip (WC.seq (WC.seq (WC.run (C rfl rfl (WS.nil [(2, _), (3, _), (5, _)] rfl ?_))))))
   refine WC.block ?_
   obtain ⟨L14, eL16, M15⟩ := Mem.name M13.bare
   refine WC.loop (σ := Nat) (fun (i) => [(2, (.pointer (some ⟨p1, 0, none⟩))), (3, (.pointer (some ⟨p4, 0, none⟩))), (5, (.int .i64 ((i : Nat) : Int)))]) (fun (i) hh => Mem h hh (L14) [] ∧ a.rs.take i = b.rs.take i ∧ i ≤ a.rs.length) (fun (i) => a.rs.length - i) (0) rfl ⟨M15, ?_⟩ ?_
   · exact ⟨rfl, by omega⟩
   ·rintro i h17 ⟨M18, ⟨hO, hi1⟩⟩
    replace eL16 := eL16.symm; subst eL16
    refine WC.env [(2, _), (3, _), (5, _)] rfl ?_
    refine WC.seq (WC.seq (WC.run (C rfl rfl (C rfl rfl (C rfl (op_ld (M18.at 1 rfl) rfl rfl) (C rfl (op_lenVS A rfl) ?_))))))
    refine WS.lssN (a := i) (b := (a.rs).length) rfl rfl rfl (fun e38 => ?_) (fun e38 => ?_)
    ·
     refine WS.nil [(2, _), (3, _), (5, _), (38, _)] rfl ?_
     refine WC.condT rfl (WC.skip (WC.seq (WC.block (WC.seq (WC.draw M18 [] rfl ?_)))))
     intro rb19 h20 M21
     refine C rfl rfl (C rfl (op_ld (M21.at 1 rfl) rfl rfl) (C rfl rfl ?_))
     obtain ⟨y44, hy44⟩ : ∃ y, (a.rs)[i]? = some y := ⟨_, List.getElem?_eq_getElem (show i < (a.rs).length by first | omega | (simp only [List.length_drop, List.length_take, List.length_append, List.length_cons, List.length_nil, List.length_singleton]; omega) | (simp only [List.length_drop, List.length_take, List.length_append, List.length_cons, List.length_nil, List.length_singleton] at *; omega))⟩
     refine WS.iaVS A i hy44 rfl rfl rfl rfl ?_
     intro b44_ o44_ ha44
     refine C rfl (op_ldAt rfl (ha44.mono M21.sub) rfl) (C rfl rfl (C rfl (op_ld (M21.at 0 rfl) rfl rfl) (C rfl rfl ?_)))
     obtain ⟨y49, hy49⟩ : ∃ y, (b.rs)[i]? = some y := ⟨_, List.getElem?_eq_getElem (show i < (b.rs).length by have := hp33.2.2.2; omega)⟩
     refine WS.iaVS B i hy49 rfl rfl rfl rfl ?_
     intro b49_ o49_ ha49
     refine C rfl (op_ldAt rfl (ha49.mono M21.sub) rfl) ?_
     refine WS.eqqDn (p := y44 = y49) rfl rfl rfl (Rrow_eqV _ _) (fun e51 => ?_) (fun e51 => ?_)
     ·
      refine WS.nil [(2, _), (3, _), (5, _), (51, _)] rfl ?_
      refine WC.condT rfl (WC.seq (WC.run (C rfl rfl (WS.nil [(4, _)] rfl ?_))))
      refine WC.ret (⟨[_], (res_tmp rfl res_nil), ?_⟩)
      exact ⟨by rw [decide_eq_false (fun q => ne_of_get hy44 hy49 e51 (congrArg Res.rs q))]; rfl, M21.bare.bare.take 0⟩
     ·
      refine WS.nil [(2, _), (3, _), (5, _), (51, _)] rfl ?_
      refine WC.condF rfl (WC.skip (WC.run (C rfl rfl (WS.opV (.int .i64 (((i + 1) : Nat) : Int)) rfl rfl (add_i64 (a := i) (b := 1) (by omega)) (C rfl rfl (WS.nil [(2, _), (3, _), (5, _)] rfl ?_))))))
      refine ⟨i + 1, rfl, ⟨(((M21.bare.bare.focus 1 rfl).focus 1 rfl).take 2), ?_⟩, ?_⟩
      · exact ⟨eq_take_step hO hy44 hy49 (by assumption), by omega⟩
      · simp only []; omega
    ·
     refine WS.nil [(2, _), (3, _), (5, _), (38, _)] rfl ?_
     refine WC.condF rfl (WC.exit ?_)
     refine WC.seq (WC.run (C rfl rfl (WS.nil [(4, _)] rfl ?_)))
     refine WC.ret (⟨[_], (res_tmp rfl res_nil), ?_⟩)
     have hln := hp33.2.2.2
     rw [List.take_of_length_le (by omega), List.take_of_length_le (by omega)] at hO
     exact ⟨by rw [decide_eq_true (sameR_yes hp33 hO)]; rfl, M18.bare.take 0⟩
end Go.Proofs.Ytomaijljeacpjaa.Wt
namespace Go.Proofs.Ytomaijljeacpjaa.Wt
open Go Go.Proofs.Ytomaijljeacpjaa.Am Go.Proofs.Ytomaijljeacpjaa.IrAll
open Go.Proofs.Ytomaijljeacpjaa.Am.WS renaming op → C
open Nat renaming le_of_ble_eq_true → D
open List renaming length_singleton → F
open List renaming length_drop → G
open List renaming length_append → J
open List renaming length_cons → U
open List renaming length_take → X
open List renaming length_nil → Y
set_option linter.unusedVariables false
set_option linter.unusedSimpArgs false
variable {h base : H} {L : List Seg} {R : List Nat}
theorem tk_byte_ran {r : Nat} {s : List UInt8} {w : Bool} (M : Mem base h ([(r, ⟨[.string (bs s), .bool w], 0, false⟩)] :: L) []) (hl : s.length ≤ 1000000) :
    Cll tab0 55 [.pointer (some ⟨r, 0, none⟩)] h (fun v h2 => ∃ s' w' c, v = .int .i64 ((UInt8.toNat c : Nat) : Int) ∧ Mem base h2 ([(r, ⟨[.string (bs s'), .bool w'], 0, false⟩)] :: L) [] ∧ s'.length ≤ s.length ∧ (w' = true → w = true ∧ s = c :: s') ∧ (∀ c0 t, w = true → s = c0 :: t → w' = true ∧ c = c0 ∧ s' = t)) := by
  refine Cll.code rfl rfl ?_
  refine WC.env [(0, _)] rfl ?_
  refine WC.seq (WC.run (C rfl rfl (WS.nil [(0, _)] rfl ?_)))
  refine WC.seq (WC.seq (WC.run (C rfl rfl (C rfl rfl (C rfl rfl (C rfl (op_ld (M.at 0 rfl) rfl rfl) (C rfl (op_lenS (l := s) rfl) ?_)))))))
  refine WS.eqlN (a := (s).length) (b := 0) rfl rfl rfl (fun e9 => ?_) (fun e9 => ?_)
  ·
   refine WS.nil [(0, _), (9, _)] rfl ?_
   refine WC.condT rfl (WC.seq (WC.run (C rfl rfl (C rfl rfl (C rfl rfl ?_)))))
   refine WS.st1 (M.focus 0 rfl) [_] [_, _] rfl rfl rfl rfl rfl (D rfl) (D rfl) rfl rfl ?_
   intro h1 M2
   replace M2 : Mem _ _ ([(r, _)] :: L) _ := M2
   refine WS.nil [] rfl ?_
   refine WC.seq (WC.run (C rfl rfl (WS.nil [(2, _)] rfl ?_)))
   refine WC.ret (⟨[_], (res_tmp rfl res_nil), ?_⟩)
   have hs0 : s = [] := List.eq_nil_of_length_eq_zero (by omega)
   exact ⟨_, false, 0, rfl, M2, Nat.le_refl _, fun q => (nomatch q), fun c0 t u e => by rw [hs0] at e; cases e⟩
  ·
   refine WS.nil [(0, _), (9, _)] rfl ?_
   refine WC.condF rfl (WC.skip (WC.seq (WC.run (C rfl rfl (C rfl rfl (C rfl rfl (C rfl (op_ld (M.at 0 rfl) rfl rfl) ?_)))))))
   obtain ⟨c3, hc4⟩ : ∃ c, (s)[0]? = some c := ⟨_, List.getElem?_eq_getElem (show 0 < (s).length by first | omega | (simp only [G, X, J, U, Y, F]; omega) | (simp only [G, X, J, U, Y, F] at *; omega))⟩
   refine C rfl (op_ixS 0 rfl rfl hc4) (WS.opV (.int .i64 (((c3).toNat : Nat) : Int)) rfl rfl (cv_i64 (n := (c3).toNat) (by have := UInt8.toNat_lt (c3); omega)) (C rfl rfl (WS.nil [(0, _), (3, _)] rfl ?_)))
   refine WC.seq (WC.run (C rfl rfl (C rfl rfl (C rfl rfl (C rfl rfl (C rfl (op_ld (M.at 0 rfl) rfl rfl) (C rfl (op_slS0 (l := s) 1 rfl rfl (by first | omega | (simp only [G, X, J, U, Y, F]; omega) | (simp only [G, X, J, U, Y, F] at *; omega))) (C rfl rfl (C rfl rfl ?_)))))))))
   refine WS.st1 (M.focus 0 rfl) [_] [_, _] rfl rfl rfl rfl rfl (D rfl) (D rfl) rfl rfl ?_
   intro h5 M6
   replace M6 : Mem _ _ ([(r, _)] :: L) _ := M6
   refine WS.nil [(3, _)] rfl ?_
   refine WC.seq (WC.run (C rfl rfl (C rfl rfl (WS.nil [(2, _)] rfl ?_))))
   refine WC.ret (⟨[_], (res_tmp rfl res_nil), ?_⟩)
   exact ⟨_, _, c3, rfl, M6, by rw [G]; omega, fun q => ⟨q, by simpa using drop_cons hc4⟩, fun c0 t u e => ⟨u, by subst e; simpa using hc4.symm, by subst e; rfl⟩⟩
theorem tk_number_ran {r : Nat} {s : List UInt8} {w : Bool} (M : Mem base h ([(r, ⟨[.string (bs s), .bool w], 0, false⟩)] :: L) []) (hl : s.length ≤ 1000000) :
    Cll tab0 56 [.pointer (some ⟨r, 0, none⟩)] h (fun v h2 => ∃ s' w' c, v = .int .u64 ((UInt64.toNat c : Nat) : Int) ∧ Mem base h2 ([(r, ⟨[.string (bs s'), .bool w'], 0, false⟩)] :: L) [] ∧ s'.length ≤ s.length ∧ (w' = true → w = true ∧ s = vb c.toNat ++ s') ∧ (∀ (m : Nat) t, m < 18446744073709551616 → w = true → s = vb m ++ t → w' = true ∧ c.toNat = m ∧ s' = t)) := by
  have hrk := rvK_le s
  refine Cll.code rfl rfl ?_
  refine WC.env [(0, _)] rfl ?_
  refine WC.seq (WC.run (C rfl rfl (WS.nil [(0, _)] rfl ?_)))
  refine WC.seq (WC.run (C rfl rfl (C rfl rfl (C rfl rfl (C rfl (op_ld (M.at 0 rfl) rfl rfl) ?_)))))
  refine WS.call rfl rfl rfl (ref_ReadV_ran M.here (l := s) (by first | omega | (simp only [G, X, J, U, Y, F]; omega) | (simp only [G, X, J, U, Y, F] at *; omega))) ?_
  rintro _ h1 ⟨rfl, N2⟩
  have M3 := M.trans N2
  refine C rfl rfl (C rfl rfl (C rfl rfl (C rfl rfl (C rfl rfl (C rfl rfl (C rfl rfl (WS.nil [(0, _), (3, _), (4, _), (5, _)] rfl ?_)))))))
  refine WC.seq (WC.run (C rfl rfl (C rfl rfl (C rfl rfl (C rfl rfl (C rfl (op_ld (M3.at 0 rfl) rfl rfl) (C rfl rfl ?_)))))))
  cases hb1 : w
  ·
   refine WS.off rfl (C rfl rfl (C rfl rfl (C rfl rfl ?_)))
   refine WS.st1 (M3.focus 0 rfl) [_] [_, _] rfl rfl rfl rfl rfl (D rfl) (D rfl) rfl rfl ?_
   intro h5 M6
   replace M6 : Mem _ _ ([(r, _)] :: L) _ := M6
   refine WS.nil [(0, _), (3, _), (4, _)] rfl ?_
   refine WC.seq (WC.run (C rfl rfl (C rfl rfl (C rfl rfl (C rfl rfl (C rfl (op_ld (M6.at 0 rfl) rfl rfl) (C rfl rfl (C rfl (op_slS0 (l := s) (rvK s) rfl rfl (by first | omega | (simp only [G, X, J, U, Y, F]; omega) | (simp only [G, X, J, U, Y, F] at *; omega))) (C rfl rfl (C rfl rfl ?_))))))))))
   refine WS.st1 (M6.focus 0 rfl) [_] [_, _] rfl rfl rfl rfl rfl (D rfl) (D rfl) rfl rfl ?_
   intro h7 M8
   replace M8 : Mem _ _ ([(r, _)] :: L) _ := M8
   refine WS.nil [(3, _)] rfl ?_
   refine WC.seq (WC.run (C rfl rfl (C rfl rfl (WS.nil [(2, _)] rfl ?_))))
   refine WC.ret (⟨[_], (res_tmp rfl res_nil), ?_⟩)
   exact ⟨((s).drop (rvK s)), false, UInt64.ofNat (rvN s), by rw [n64 (rvN_lt s)]; rfl, M8, by rw [G]; omega, fun q => (nomatch q), fun m t hm u e => by exfalso; first | (cases u; done) | (rw [hb1] at u; cases u; done)⟩
  ·
   refine C rfl rfl (C rfl rfl (C rfl rfl (C rfl rfl ?_)))
   refine WS.st1 (M3.focus 0 rfl) [_] [_, _] rfl rfl rfl rfl rfl (D rfl) (D rfl) rfl rfl ?_
   intro h9 M10
   replace M10 : Mem _ _ ([(r, _)] :: L) _ := M10
   refine WS.nil [(0, _), (3, _), (4, _)] rfl ?_
   refine WC.seq (WC.run (C rfl rfl (C rfl rfl (C rfl rfl (C rfl rfl (C rfl (op_ld (M10.at 0 rfl) rfl rfl) (C rfl rfl (C rfl (op_slS0 (l := s) (rvK s) rfl rfl (by first | omega | (simp only [G, X, J, U, Y, F]; omega) | (simp only [G, X, J, U, Y, F] at *; omega))) (C rfl rfl (C rfl rfl ?_))))))))))
   refine WS.st1 (M10.focus 0 rfl) [_] [_, _] rfl rfl rfl rfl rfl (D rfl) (D rfl) rfl rfl ?_
   intro h11 M12
   replace M12 : Mem _ _ ([(r, _)] :: L) _ := M12
   refine WS.nil [(3, _)] rfl ?_
   refine WC.seq (WC.run (C rfl rfl (C rfl rfl (WS.nil [(2, _)] rfl ?_))))
   refine WC.ret (⟨[_], (res_tmp rfl res_nil), ?_⟩)
   exact ⟨((s).drop (rvK s)), (rvOK s), UInt64.ofNat (rvN s), by rw [n64 (rvN_lt s)]; rfl, M12, by rw [G]; omega, fun q => ⟨by first | assumption | rfl, by rw [n64 (rvN_lt s)]; exact (getV_some (show getV s = some (rvN s, rvK s) by rw [getV_eq, q]; rfl)).1⟩, fun m t hm u e => by obtain ⟨f1, f2, f3⟩ := rv_eq_some (show getV s = some (m, (vb m).length) by rw [e]; exact getV_vb hm t); exact ⟨f3, by rw [n64 (rvN_lt s), f1], by rw [f2, e, List.drop_left]⟩⟩
theorem tk_text_ran {r : Nat} {s : List UInt8} {w : Bool} (M : Mem base h ([(r, ⟨[.string (bs s), .bool w], 0, false⟩)] :: L) []) (hl : s.length ≤ 1000000) :
    Cll tab0 57 [.pointer (some ⟨r, 0, none⟩)] h (fun v h2 => ∃ s' w' c, v = .string (bs c) ∧ Mem base h2 ([(r, ⟨[.string (bs s'), .bool w'], 0, false⟩)] :: L) [] ∧ s'.length ≤ s.length ∧ c.length ≤ s.length ∧ (w' = true → w = true ∧ s = sb c ++ s') ∧ (∀ u t, u.length < 18446744073709551616 → w = true → s = sb u ++ t → w' = true ∧ c = u ∧ s' = t)) := by
  have hrs := rsT_le s
  have hrk := rsK_le s
  refine Cll.code rfl rfl ?_
  refine WC.env [(0, _)] rfl ?_
  refine WC.seq (WC.run (C rfl rfl (WS.nil [(0, _)] rfl ?_)))
  refine WC.seq (WC.run (C rfl rfl (C rfl rfl (C rfl rfl (C rfl (op_ld (M.at 0 rfl) rfl rfl) ?_)))))
  refine WS.call rfl rfl rfl (ref_ReadS_ran M.here (l := s) (by first | omega | (simp only [G, X, J, U, Y, F]; omega) | (simp only [G, X, J, U, Y, F] at *; omega))) ?_
  rintro _ h1 ⟨rfl, N2⟩
  have M3 := M.trans N2
  refine C rfl rfl (C rfl rfl (C rfl rfl (C rfl rfl (C rfl rfl (C rfl rfl (C rfl rfl (WS.nil [(0, _), (3, _), (4, _), (5, _)] rfl ?_)))))))
  refine WC.seq (WC.run (C rfl rfl (C rfl rfl (C rfl rfl (C rfl rfl (C rfl (op_ld (M3.at 0 rfl) rfl rfl) (C rfl rfl ?_)))))))
  cases hb1 : w
  ·
   refine WS.off rfl (C rfl rfl (C rfl rfl (C rfl rfl ?_)))
   refine WS.st1 (M3.focus 0 rfl) [_] [_, _] rfl rfl rfl rfl rfl (D rfl) (D rfl) rfl rfl ?_
   intro h5 M6
   replace M6 : Mem _ _ ([(r, _)] :: L) _ := M6
   refine WS.nil [(0, _), (3, _), (4, _)] rfl ?_
   refine WC.seq (WC.run (C rfl rfl (C rfl rfl (C rfl rfl (C rfl rfl (C rfl (op_ld (M6.at 0 rfl) rfl rfl) (C rfl rfl (C rfl (op_slS0 (l := s) (rsK s) rfl rfl (by first | omega | (simp only [G, X, J, U, Y, F]; omega) | (simp only [G, X, J, U, Y, F] at *; omega))) (C rfl rfl (C rfl rfl ?_))))))))))
   refine WS.st1 (M6.focus 0 rfl) [_] [_, _] rfl rfl rfl rfl rfl (D rfl) (D rfl) rfl rfl ?_
   intro h7 M8
   replace M8 : Mem _ _ ([(r, _)] :: L) _ := M8
   refine WS.nil [(3, _)] rfl ?_
   refine WC.seq (WC.run (C rfl rfl (C rfl rfl (WS.nil [(2, _)] rfl ?_))))
   refine WC.ret (⟨[_], (res_tmp rfl res_nil), ?_⟩)
   exact ⟨((s).drop (rsK s)), false, rsT s, rfl, M8, by rw [G]; omega, hrs, fun q => (nomatch q), fun u t hu v e => by exfalso; first | (cases v; done) | (rw [hb1] at v; cases v; done)⟩
  ·
   refine C rfl rfl (C rfl rfl (C rfl rfl (C rfl rfl ?_)))
   refine WS.st1 (M3.focus 0 rfl) [_] [_, _] rfl rfl rfl rfl rfl (D rfl) (D rfl) rfl rfl ?_
   intro h9 M10
   replace M10 : Mem _ _ ([(r, _)] :: L) _ := M10
   refine WS.nil [(0, _), (3, _), (4, _)] rfl ?_
   refine WC.seq (WC.run (C rfl rfl (C rfl rfl (C rfl rfl (C rfl rfl (C rfl (op_ld (M10.at 0 rfl) rfl rfl) (C rfl rfl (C rfl (op_slS0 (l := s) (rsK s) rfl rfl (by first | omega | (simp only [G, X, J, U, Y, F]; omega) | (simp only [G, X, J, U, Y, F] at *; omega))) (C rfl rfl (C rfl rfl ?_))))))))))
   refine WS.st1 (M10.focus 0 rfl) [_] [_, _] rfl rfl rfl rfl rfl (D rfl) (D rfl) rfl rfl ?_
   intro h11 M12
   replace M12 : Mem _ _ ([(r, _)] :: L) _ := M12
   refine WS.nil [(3, _)] rfl ?_
   refine WC.seq (WC.run (C rfl rfl (C rfl rfl (WS.nil [(2, _)] rfl ?_))))
   refine WC.ret (⟨[_], (res_tmp rfl res_nil), ?_⟩)
   exact ⟨((s).drop (rsK s)), (rsOK s), rsT s, rfl, M12, by rw [G]; omega, hrs, fun q => ⟨by first | assumption | rfl, (getS_some (show getS s = some (rsT s, rsK s) by rw [getS_eq, q]; rfl)).1⟩, fun u t hu v e => by obtain ⟨f1, f2, f3⟩ := rs_eq_some (show getS s = some (u, (sb u).length) by rw [e]; exact getS_sb hu t); exact ⟨f3, f1, by rw [f2, e, List.drop_left]⟩⟩
end Go.Proofs.Ytomaijljeacpjaa.Wt
namespace Go.Proofs.Ytomaijljeacpjaa.Wt
open Go Go.Proofs.Ytomaijljeacpjaa.Am
set_option linter.unusedVariables false
set_option linter.unusedSimpArgs false
section
variable {α : Type} {Good : α → Prop} {enc : α → List UInt8} {z a b c : α} {s bh : List UInt8} {oa ob : Bool}
def Rd (Good : α → Prop) (enc : α → List UInt8) (z : α) (s : List UInt8) (c : α) (ok : Bool) : Prop := (ok = true → Good c ∧ enc c = s) ∧ (ok = false → c = z ∧ ∀ c0, Good c0 → enc c0 ≠ s)
def PF (Good : α → Prop) (enc : α → List UInt8) : Prop := ∀ (a b : α) (x y : List UInt8), Good a → Good b → enc a ++ x = enc b ++ y → a = b ∧ x = y
theorem rd_self (P : PF Good enc) (g : Good c) (A : Rd Good enc z (enc c) a oa) : oa = true ∧ a = c := by
  obtain ⟨a1, a2⟩ := A
  cases oa with
  | true => obtain ⟨r1, e1⟩ := a1 rfl; exact ⟨rfl, (P a c [] [] r1 g (by rw [e1])).1⟩
  | false => exact absurd rfl ((a2 rfl).2 c g)
end
theorem vb_cancel {a b : Nat} (ha : a < 18446744073709551616) (hb : b < 18446744073709551616) {x y : List UInt8} (h : vb a ++ x = vb b ++ y) : a = b ∧ x = y := by
  have g1 := getV_vb ha x
  rw [h, getV_vb hb y] at g1
  have e : a = b := by simp at g1; exact g1.1.symm
  subst e
  exact ⟨rfl, List.append_cancel_left h⟩
theorem sb_cancel {a b : List UInt8} (ha : a.length < 18446744073709551616) (hb : b.length < 18446744073709551616) {x y : List UInt8} (h : sb a ++ x = sb b ++ y) : a = b ∧ x = y := by
  have g1 := getS_sb ha x
  rw [h, getS_sb hb y] at g1
  have e : a = b := by simp at g1; exact g1.1.symm
  subst e
  exact ⟨rfl, List.append_cancel_left h⟩
theorem sb_can {a b : List UInt8} (ha : a.length ≤ 300000) (hb : b.length ≤ 300000) {x y : List UInt8} (h : sb a ++ x = sb b ++ y) : a = b ∧ x = y := sb_cancel (by omega) (by omega) h
theorem n64c {a b : UInt64} {x y : List UInt8} (h : vb a.toNat ++ x = vb b.toNat ++ y) : a = b ∧ x = y := by
  obtain ⟨h1, h2⟩ := vb_cancel a.toNat_lt b.toNat_lt h
  exact ⟨u64_inj h1, h2⟩
theorem rows_pf : ∀ {ps qs : List Rrow} {x y : List UInt8}, FitR ps → FitR qs → ps.length = qs.length → ps.flatMap rowR ++ x = qs.flatMap rowR ++ y → ps = qs ∧ x = y := by
  intro ps
  induction ps with
  | nil =>
    intro qs x y _ _ hl h
    have : qs = [] := List.eq_nil_of_length_eq_zero hl.symm
    subst this
    exact ⟨rfl, by simpa using h⟩
  | cons p ps ih =>
    intro qs x y f1 f2 hl h
    cases qs with
    | nil => simp at hl
    | cons q qs =>
      simp only [List.flatMap_cons, rowR, List.append_assoc] at h
      have fp := f1 p (by simp)
      have fq := f2 q (by simp)
      obtain ⟨h1, h⟩ := sb_can fp.1 fq.1 h
      obtain ⟨h2, h⟩ := sb_can fp.2 fq.2 h
      obtain ⟨h3, h⟩ := n64c h
      obtain ⟨e1, e2⟩ := ih (qs := qs) (x := x) (y := y) (fun z hz => f1 z (by simp [hz])) (fun z hz => f2 z (by simp [hz])) (by simpa using hl) (by simpa [rowR] using h)
      refine ⟨?_, e2⟩
      obtain ⟨⟩ := p; obtain ⟨⟩ := q
      simp only at *
      rw [h1, h2, h3, e1]
theorem encR_pf : PF FitRes encR := by
  rintro a b x y ⟨f1, f2, f3⟩ ⟨g1, g2, g3⟩ h
  simp only [encR, headR, List.append_assoc, List.cons_append, List.nil_append, List.cons.injEq] at h
  obtain ⟨h1, h⟩ := h
  obtain ⟨h2, h⟩ := n64c h
  obtain ⟨h3, h⟩ := sb_can f1 g1 h
  obtain ⟨h4, h⟩ := vb_cancel (by omega) (by omega) h
  obtain ⟨h5, h⟩ := rows_pf f3 g3 h4 h
  refine ⟨?_, h⟩
  obtain ⟨⟩ := a; obtain ⟨⟩ := b
  simp only at *
  rw [h1, h2, h3, h5]
theorem RdR.rd {s : List UInt8} {c : Res} {ok : Bool} (h : RdR s c ok) (hf : FitRes c) : Rd FitRes encR zeroR s c ok :=
  ⟨fun q => ⟨hf, h.1 q⟩, h.2⟩
end Go.Proofs.Ytomaijljeacpjaa.Wt
namespace Go.Proofs.Ytomaijljeacpjaa.Wt
open Go Go.Proofs.Ytomaijljeacpjaa.Am Go.Proofs.Ytomaijljeacpjaa.IrAll
open Nat renaming le_of_ble_eq_true → C
open Go.Proofs.Ytomaijljeacpjaa.Am.WS renaming op → D
set_option linter.unusedVariables false
set_option linter.unusedSimpArgs false
variable {h base : H} {L : List Seg} {R : List Nat}
set_option maxRecDepth 8000 in
theorem refReadR_ran (W : Mem h h [] []) {s : List UInt8} (hl : s.length ≤ 299000) : Cll tab0 45 [.string (bs s)] h (fun v h2 => ∃ r V S ok, KRrow.Own V (Res.rs r) S ∧ v = .tuple #[r.val V, .bool ok] ∧ FitRes r ∧ RdR s r ok ∧ Mem h h2 [S] []) := by
  refine Cll.code rfl rfl ?_
  refine WC.env [(0, _)] rfl ?_
  refine WC.seq (WC.run (WS.new W rfl ?_))
  intro p1 h2 M3
  refine D rfl rfl (WS.nil [(0, _), (2, _)] rfl ?_)
  refine WC.seq (WC.run (D rfl rfl (WS.opV (.agg #[(.string (bs s)), (.bool true)]) rfl rfl rfl ?_)))
  refine WS.box M3 [_, _] rfl rfl rfl rfl ?_
  intro p4 h5 M6
  refine D rfl rfl (WS.nil [(2, _), (4, _)] rfl ?_)
  refine WC.seq (WC.run (D rfl rfl ?_))
  refine WS.call rfl rfl rfl (tk_byte_ran (s := s) (w := true) (M6.focus 0 rfl) (by omega)) ?_
  rintro _ h7 ⟨s7_, b7_, m7_, rfl, M8, R7_⟩
  have R7_l := R7_.1
  replace M8 : Mem _ _ ([(p4, _)] :: [(p1, _)] :: []) _ := M8
  refine WS.opV (.int .u8 (((m7_).toNat : Nat) : Int)) rfl rfl (cv_u8 (n := (m7_).toNat) (by have := UInt8.toNat_lt (m7_); omega)) (WS.opV (.agg #[(.int .u8 (((m7_).toNat : Nat) : Int)), (.int .u64 (0 : Int)), (.string (bs ([]))), (.slice none 0 0)]) rfl rfl rfl ?_)
  refine WS.new M8 rfl ?_
  intro p9 h10 M11
  refine WS.st1 (M11.focus 0 rfl) [_, _, _, _] [_, _, _, _] rfl rfl rfl rfl rfl (C rfl) (C rfl) rfl rfl ?_
  intro h12 M13
  replace M13 : Mem _ _ ([(p9, _)] :: [(p4, _)] :: [(p1, _)] :: []) _ := M13
  refine WS.nil [(2, _), (4, _), (5, _)] rfl ?_
  refine WC.seq (WC.run (D rfl rfl ?_))
  refine WS.call rfl rfl rfl (tk_number_ran (s := s7_) (w := b7_) (M13.focus 1 rfl) (by omega)) ?_
  rintro _ h14 ⟨s14_, b14_, m14_, rfl, M15, R14_⟩
  have R14_l := R14_.1
  replace M15 : Mem _ _ ([(p4, _)] :: [(p9, _)] :: [(p1, _)] :: []) _ := M15
  refine D rfl rfl ?_
  refine WS.st1 (M15.focus 1 rfl) [_] [_, _, _, _] rfl rfl rfl rfl rfl (C rfl) (C rfl) rfl rfl ?_
  intro h16 M17
  replace M17 : Mem _ _ ([(p9, _)] :: [(p4, _)] :: [(p1, _)] :: []) _ := M17
  refine WS.nil [(2, _), (4, _), (5, _)] rfl ?_
  refine WC.seq (WC.run (D rfl rfl ?_))
  refine WS.call rfl rfl rfl (tk_text_ran (s := s14_) (w := b14_) (M17.focus 1 rfl) (by omega)) ?_
  rintro _ h18 ⟨s18_, b18_, m18_, rfl, M19, R18_⟩
  have R18_l := R18_.1
  have R18_t := R18_.2.1
  replace M19 : Mem _ _ ([(p4, _)] :: [(p9, _)] :: [(p1, _)] :: []) _ := M19
  refine D rfl rfl ?_
  refine WS.st1 (M19.focus 1 rfl) [_] [_, _, _, _] rfl rfl rfl rfl rfl (C rfl) (C rfl) rfl rfl ?_
  intro h20 M21
  replace M21 : Mem _ _ ([(p9, _)] :: [(p4, _)] :: [(p1, _)] :: []) _ := M21
  refine WS.nil [(2, _), (4, _), (5, _)] rfl ?_
  refine WC.seq (WC.run (D rfl rfl ?_))
  refine WS.call rfl rfl rfl (tk_number_ran (s := s18_) (w := b18_) (M21.focus 1 rfl) (by omega)) ?_
  rintro _ h22 ⟨s22_, b22_, m22_, rfl, M23, R22_⟩
  have R22_l := R22_.1
  replace M23 : Mem _ _ ([(p4, _)] :: [(p9, _)] :: [(p1, _)] :: []) _ := M23
  refine D rfl rfl (WS.nil [(2, _), (4, _), (5, _), (6, _)] rfl ?_)
  refine WC.seq (WC.seq (WC.run (D rfl rfl (WS.nil [(2, _), (4, _), (5, _), (6, _), (7, _)] rfl ?_))))
  refine WC.block ?_
  have hN64 := UInt64.toNat_lt m22_
  obtain ⟨L24, eL26, M25⟩ := Mem.name3 ((((M23.bare.focus 1 rfl).focus 1 rfl)).nils)
  refine WC.loop (σ := List UInt8 × Bool × List Rrow × Value × Seg × Nat) (fun ((s_, w_, l, V_, S_, i)) => [(2, (.pointer (some ⟨p1, 0, none⟩))), (4, (.pointer (some ⟨p4, 0, none⟩))), (5, (.pointer (some ⟨p9, 0, none⟩))), (6, (.int .u64 (((m22_).toNat : Nat) : Int))), (7, (.int .u64 ((i : Nat) : Int)))]) (fun ((s_, w_, l, V_, S_, i)) hh => Mem h hh (S_ :: [(p4, ⟨[(.string (bs s_)), (.bool w_)], 0, false⟩)] :: [(p9, ⟨[(.int .u8 (((m7_).toNat : Nat) : Int)), (.int .u64 (((m14_).toNat : Nat) : Int)), (.string (bs m18_)), V_], 0, false⟩)] :: L24) [] ∧ KRrow.Own V_ l S_ ∧ l.length = i ∧ i ≤ (m22_).toNat ∧ s_.length ≤ s.length ∧ FitR l ∧ l.length ≤ 299001 ∧ (w_ = true → s = (((([m7_] ++ vb (UInt64.toNat m14_)) ++ sb m18_) ++ vb (m22_).toNat) ++ l.flatMap rowR) ++ s_) ∧ (∀ r0 : Res, FitRes r0 → s = encR r0 → w_ = true ∧ m7_ = r0.cd ∧ m14_ = r0.n ∧ m18_ = r0.va ∧ (m22_).toNat = r0.rs.length ∧ l = r0.rs.take i ∧ s_ = (r0.rs.drop i).flatMap rowR)) (fun ((s_, w_, l, V_, S_, i)) => (m22_).toNat - i) (s22_, b22_, [], .slice none 0 0, [], 0) rfl ⟨(by exact M25), ?_⟩ ?_
  · exact ⟨.nil, rfl, by omega, by omega, (by intro p hp; cases hp), by simp, (fun q => by obtain ⟨y3, e3⟩ := R22_.2.1 q; obtain ⟨y2, e2⟩ := R18_.2.2.1 y3; obtain ⟨y1, e1⟩ := R14_.2.1 y2; obtain ⟨y0, e0⟩ := R7_.2.1 y1; rw [e0, e1, e2, e3]; simp), fun r0 hf he => by have hq := hf.2.1; obtain ⟨x0, z0, t0⟩ := R7_.2.2 r0.cd (vb r0.n.toNat ++ (sb r0.va ++ (vb r0.rs.length ++ r0.rs.flatMap rowR))) rfl (by rw [he]; simp [encR, headR]); obtain ⟨x1, z1, t1⟩ := R14_.2.2 r0.n.toNat _ (UInt64.toNat_lt _) x0 t0; obtain ⟨x2, z2, t2⟩ := R18_.2.2.2 r0.va _ (by have := hf.1; omega) x1 t1; obtain ⟨x3, z3, t3⟩ := R22_.2.2 r0.rs.length _ (by omega) x2 t2; exact ⟨x3, z0, u64_inj z1, z2, z3, rfl, t3⟩⟩
  ·rintro ⟨s_, w_, l, V_, S_, i⟩ h27 ⟨M28, ⟨hO, hlen, hi1, hsl, hF, hll, hI, hC⟩⟩
   replace eL26 := eL26.symm; subst eL26
   refine WC.env [(2, _), (4, _), (5, _), (6, _), (7, _)] rfl ?_
   obtain ⟨P_, rfl⟩ := hO.shape
   refine WC.seq (WC.seq (WC.run (D rfl rfl (D rfl rfl ?_))))
   refine WS.lssN (a := i) (b := (m22_).toNat) rfl rfl rfl (fun e26 => ?_) (fun e26 => ?_)
   ·
    refine D rfl rfl (D rfl rfl (D rfl rfl (D rfl rfl (D rfl (op_ld (M28.at 1 rfl) rfl rfl) (D rfl rfl (WS.nil [(2, _), (4, _), (5, _), (6, _), (7, _), (32, _)] rfl ?_))))))
    cases w_
    ·
     refine WC.condF rfl (WC.exit ?_)
     refine WC.seq (WC.seq (WC.run (D rfl rfl (D rfl rfl (D rfl rfl (D rfl (op_ld (M28.at 1 rfl) rfl rfl) (WS.opV (.bool true) rfl rfl rfl (D rfl rfl (WS.off rfl (WS.off rfl (WS.off rfl (WS.off rfl ?_))))))))))))
     refine WS.off rfl (WS.off rfl (D rfl rfl (WS.nil [(2, _), (5, _), (62, _)] rfl ?_)))
     refine WC.condT rfl (WC.seq (WC.run (WS.opV (.agg #[(.int .u8 (0 : Int)), (.int .u64 (0 : Int)), (.string (bs ([]))), (.slice none 0 0)]) rfl rfl rfl ?_)))
     refine WS.st1 (M28.focus 3 rfl) [_, _, _, _] [_, _, _, _] rfl rfl rfl rfl rfl (C rfl) (C rfl) rfl rfl ?_
     intro h29 M30
     replace M30 : Mem _ _ ([(p1, _)] :: S_ :: [(p4, _)] :: [(p9, _)] :: []) _ := M30
     refine D rfl rfl (WS.nil [(2, _), (3, _)] rfl ?_)
     refine WC.ret (⟨[_, _], (res_cellN [_, _, _, _] rfl (M30.at 0 rfl) (C rfl) rfl (res_tmp rfl res_nil)), ?_⟩)
     have hno : ∀ r0, FitRes r0 → encR r0 ≠ s := by
       intro r0 hf he
       obtain ⟨g1, g2, g3, g4, g5, g6, g7⟩ := hC r0 hf he.symm
       first
       | (cases g1; done)
       | (have g8 : s_ = [] := by (rw [g7, List.drop_eq_nil_of_le (by omega)]; rfl)
          have q := congrArg List.length g8; simp only [List.length_nil] at q; omega)
     exact ⟨zeroR, .slice none 0 0, [], false, .nil, rfl, fitR0, rdR_no hno, (M30.bare.take 0).nils⟩
    ·
     refine WC.condT rfl (WC.skip (WC.seq (WC.block (WC.seq (WC.run (D rfl rfl ?_))))))
     refine WS.call rfl rfl rfl (tk_text_ran (s := s_) (w := true) (M28.focus 1 rfl) (by omega)) ?_
     rintro _ h31 ⟨s31_, b31_, m31_, rfl, M32, R31_⟩
     have R31_l := R31_.1
     have R31_t := R31_.2.1
     replace M32 : Mem _ _ ([(p4, _)] :: S_ :: [(p9, _)] :: [(p1, _)] :: []) _ := M32
     refine WS.opV (.agg #[(.string (bs m31_)), (.string (bs ([]))), (.int .u64 (0 : Int))]) rfl rfl rfl ?_
     refine WS.new M32 rfl ?_
     intro p33 h34 M35
     refine WS.st1 (M35.focus 0 rfl) [_, _, _] [_, _, _] rfl rfl rfl rfl rfl (C rfl) (C rfl) rfl rfl ?_
     intro h36 M37
     replace M37 : Mem _ _ ([(p33, _)] :: [(p4, _)] :: S_ :: [(p9, _)] :: [(p1, _)] :: []) _ := M37
     refine WS.nil [(2, _), (4, _), (5, _), (6, _), (7, _), (8, _)] rfl ?_
     refine WC.seq (WC.run (D rfl rfl ?_))
     refine WS.call rfl rfl rfl (tk_text_ran (s := s31_) (w := b31_) (M37.focus 1 rfl) (by omega)) ?_
     rintro _ h38 ⟨s38_, b38_, m38_, rfl, M39, R38_⟩
     have R38_l := R38_.1
     have R38_t := R38_.2.1
     replace M39 : Mem _ _ ([(p4, _)] :: [(p33, _)] :: S_ :: [(p9, _)] :: [(p1, _)] :: []) _ := M39
     refine D rfl rfl ?_
     refine WS.st1 (M39.focus 1 rfl) [_] [_, _, _] rfl rfl rfl rfl rfl (C rfl) (C rfl) rfl rfl ?_
     intro h40 M41
     replace M41 : Mem _ _ ([(p33, _)] :: [(p4, _)] :: S_ :: [(p9, _)] :: [(p1, _)] :: []) _ := M41
     refine WS.nil [(2, _), (4, _), (5, _), (6, _), (7, _), (8, _)] rfl ?_
     refine WC.seq (WC.run (D rfl rfl ?_))
     refine WS.call rfl rfl rfl (tk_number_ran (s := s38_) (w := b38_) (M41.focus 1 rfl) (by omega)) ?_
     rintro _ h42 ⟨s42_, b42_, m42_, rfl, M43, R42_⟩
     have R42_l := R42_.1
     replace M43 : Mem _ _ ([(p4, _)] :: [(p33, _)] :: S_ :: [(p9, _)] :: [(p1, _)] :: []) _ := M43
     refine D rfl rfl ?_
     refine WS.st1 (M43.focus 1 rfl) [_] [_, _, _] rfl rfl rfl rfl rfl (C rfl) (C rfl) rfl rfl ?_
     intro h44 M45
     replace M45 : Mem _ _ ([(p33, _)] :: [(p4, _)] :: S_ :: [(p9, _)] :: [(p1, _)] :: []) _ := M45
     refine WS.nil [(2, _), (4, _), (5, _), (6, _), (7, _), (8, _)] rfl ?_
     refine WC.run (D rfl rfl (D rfl (op_ld (M45.at 3 rfl) rfl rfl) (D rfl (op_lds [_, _, _] (M45.at 0 rfl) rfl (C rfl) rfl) ?_)))
     refine WS.bsl M45 [_, _, _] rfl rfl rfl rfl ?_
     intro p46 h47 M48
     refine WS.app (l := l) (m := [(⟨m31_, m38_, m42_⟩ : Rrow)]) (hO) (M48.focus 3 rfl) (Row.Src.one (K := KRrow) (m := [(⟨m31_, m38_, m42_⟩ : Rrow)]) (M48.at 0 rfl)) rfl (by simp only [List.length_cons, List.length_nil]; omega) (by simp only [List.length_cons, List.length_nil]; omega) rfl rfl rfl ?_
     intro V49 S50 h51 O52 M53
     obtain ⟨P54, rfl⟩ := Row.Own.shape O52
     refine D rfl rfl ?_
     refine WS.st1 (M53.focus 4 rfl) [_] [_, _, _, _] rfl rfl rfl rfl rfl (C rfl) (C rfl) rfl rfl ?_
     intro h55 M56
     replace M56 : Mem _ _ ([(p9, _)] :: S50 :: [(p46, _)] :: [(p33, _)] :: [(p4, _)] :: [(p1, _)] :: []) _ := M56
     refine WS.nil [(2, _), (4, _), (5, _), (6, _), (7, _)] rfl ?_
     refine WC.run (D rfl rfl (WS.opV (.int .u64 (((i + 1) : Nat) : Int)) rfl rfl (add_u64 (a := i) (b := 1) (by omega)) (D rfl rfl (WS.nil [(2, _), (4, _), (5, _), (6, _), (7, _)] rfl ?_))))
     refine ⟨(s42_, b42_, (l ++ [(⟨m31_, m38_, m42_⟩ : Rrow)]), (.slice P54 ((l ++ [(⟨m31_, m38_, m42_⟩ : Rrow)])).length (2 * ((l ++ [(⟨m31_, m38_, m42_⟩ : Rrow)])).length)), S50, i + 1), rfl, ⟨(((((M56.bare.focus 5 rfl).focus 1 rfl).focus 5 rfl).focus 3 rfl).take 4), ?_⟩, ?_⟩
     · exact ⟨O52, by simp [hlen], by omega, by omega, FitR_app hF ⟨by dsimp only; omega, by dsimp only; omega⟩, (by have e_ := congrArg List.length (hI rfl); have := rows_min l; simp only [List.length_append] at e_; simp only [List.length_append, List.length_cons, List.length_nil]; omega), (fun q => by obtain ⟨y2, e2⟩ := R42_.2.1 q; obtain ⟨y1, e1⟩ := R38_.2.2.1 y2; obtain ⟨y0, e0⟩ := R31_.2.2.1 y1; rw [hI y0, e0, e1, e2]; simp [rowR]), fun r0 hf he => by obtain ⟨g1, g2, g3, g4, g5, g6, g7⟩ := hC r0 hf he; obtain ⟨y, hy⟩ : ∃ y, r0.rs[i]? = some y := ⟨_, List.getElem?_eq_getElem (by omega)⟩; have hyf := hf.2.2 _ (mem_get hy); rw [drop_flatR hy] at g7; obtain ⟨z1, z2, z3⟩ := R31_.2.2.2 y.ky (sb y.va ++ (vb y.vn.toNat ++ (r0.rs.drop (i + 1)).flatMap rowR)) (by omega) g1 (by rw [g7]; simp [rowR]); obtain ⟨z4, z5, z6⟩ := R38_.2.2.2 y.va _ (by omega) z1 z3; obtain ⟨z7, z8, z9⟩ := R42_.2.2 y.vn.toNat _ (UInt64.toNat_lt _) z4 z6; exact ⟨z7, g2, g3, g4, g5, by rw [show (⟨m31_, m38_, m42_⟩ : Rrow) = y from by (obtain ⟨a, b, c⟩ := y; simp only at z2 z5 z8; rw [z2, z5, u64_inj z8]), g6, List.take_add_one, hy]; rfl, z9⟩⟩
     · simp only []; omega
   ·
    refine D rfl rfl (WS.off rfl (WS.off rfl (WS.off rfl (WS.off rfl (D rfl rfl (WS.nil [(2, _), (4, _), (5, _), (6, _), (7, _), (32, _)] rfl ?_))))))
    refine WC.condF rfl (WC.exit ?_)
    refine WC.seq (WC.seq (WC.run (D rfl rfl (D rfl rfl (D rfl rfl (D rfl (op_ld (M28.at 1 rfl) rfl rfl) ?_))))))
    cases w_
    ·
     refine WS.opV (.bool true) rfl rfl rfl (D rfl rfl (WS.off rfl (WS.off rfl (WS.off rfl (WS.off rfl (WS.off rfl (WS.off rfl (D rfl rfl (WS.nil [(2, _), (5, _), (62, _)] rfl ?_)))))))))
     refine WC.condT rfl (WC.seq (WC.run (WS.opV (.agg #[(.int .u8 (0 : Int)), (.int .u64 (0 : Int)), (.string (bs ([]))), (.slice none 0 0)]) rfl rfl rfl ?_)))
     refine WS.st1 (M28.focus 3 rfl) [_, _, _, _] [_, _, _, _] rfl rfl rfl rfl rfl (C rfl) (C rfl) rfl rfl ?_
     intro h57 M58
     replace M58 : Mem _ _ ([(p1, _)] :: S_ :: [(p4, _)] :: [(p9, _)] :: []) _ := M58
     refine D rfl rfl (WS.nil [(2, _), (3, _)] rfl ?_)
     refine WC.ret (⟨[_, _], (res_cellN [_, _, _, _] rfl (M58.at 0 rfl) (C rfl) rfl (res_tmp rfl res_nil)), ?_⟩)
     have hno : ∀ r0, FitRes r0 → encR r0 ≠ s := by
       intro r0 hf he
       obtain ⟨g1, g2, g3, g4, g5, g6, g7⟩ := hC r0 hf he.symm
       first
       | (cases g1; done)
       | (have g8 : s_ = [] := by (rw [g7, List.drop_eq_nil_of_le (by omega)]; rfl)
          have q := congrArg List.length g8; simp only [List.length_nil] at q; omega)
     exact ⟨zeroR, .slice none 0 0, [], false, .nil, rfl, fitR0, rdR_no hno, (M58.bare.take 0).nils⟩
    ·
     refine WS.opV (.bool false) rfl rfl rfl (D rfl rfl (D rfl rfl (D rfl rfl (D rfl rfl (D rfl (op_ld (M28.at 1 rfl) rfl rfl) (D rfl (op_lenS (l := s_) rfl) ?_))))))
     refine WS.gtrN (a := (s_).length) (b := 0) rfl rfl rfl (fun e61 => ?_) (fun e61 => ?_)
     ·
      refine D rfl rfl (WS.nil [(2, _), (5, _), (62, _)] rfl ?_)
      refine WC.condT rfl (WC.seq (WC.run (WS.opV (.agg #[(.int .u8 (0 : Int)), (.int .u64 (0 : Int)), (.string (bs ([]))), (.slice none 0 0)]) rfl rfl rfl ?_)))
      refine WS.st1 (M28.focus 3 rfl) [_, _, _, _] [_, _, _, _] rfl rfl rfl rfl rfl (C rfl) (C rfl) rfl rfl ?_
      intro h59 M60
      replace M60 : Mem _ _ ([(p1, _)] :: S_ :: [(p4, _)] :: [(p9, _)] :: []) _ := M60
      refine D rfl rfl (WS.nil [(2, _), (3, _)] rfl ?_)
      refine WC.ret (⟨[_, _], (res_cellN [_, _, _, _] rfl (M60.at 0 rfl) (C rfl) rfl (res_tmp rfl res_nil)), ?_⟩)
      have hno : ∀ r0, FitRes r0 → encR r0 ≠ s := by
        intro r0 hf he
        obtain ⟨g1, g2, g3, g4, g5, g6, g7⟩ := hC r0 hf he.symm
        first
        | (cases g1; done)
        | (have g8 : s_ = [] := by (rw [g7, List.drop_eq_nil_of_le (by omega)]; rfl)
           have q := congrArg List.length g8; simp only [List.length_nil] at q; omega)
      exact ⟨zeroR, .slice none 0 0, [], false, .nil, rfl, fitR0, rdR_no hno, (M60.bare.take 0).nils⟩
     ·
      refine D rfl rfl (WS.nil [(2, _), (5, _), (62, _)] rfl ?_)
      refine WC.condF rfl (WC.skip (WC.seq (WC.run (D rfl (op_lds [_, _, _, _] (M28.at 2 rfl) rfl (C rfl) rfl) ?_))))
      refine WS.st1 (M28.focus 3 rfl) [_, _, _, _] [_, _, _, _] rfl rfl rfl rfl rfl (C rfl) (C rfl) rfl rfl ?_
      intro h61 M62
      replace M62 : Mem _ _ ([(p1, _)] :: S_ :: [(p4, _)] :: [(p9, _)] :: []) _ := M62
      refine D rfl rfl (WS.nil [(2, _), (3, _)] rfl ?_)
      refine WC.ret (⟨[_, _], (res_cellN [_, _, _, _] rfl (M62.at 0 rfl) (C rfl) rfl (res_tmp rfl res_nil)), ?_⟩)
      have hs0 : s_ = [] := List.eq_nil_of_length_eq_zero (by omega)
      have henc : encR ⟨m7_, m14_, m18_, l⟩ = s := by
        rw [hI (show true = true by first | assumption | rfl), hs0]
        unfold encR headR
        dsimp only
        rw [show l.length = (m22_).toNat by omega]
        simp
      exact ⟨⟨m7_, m14_, m18_, l⟩, _, _, true, hO, rfl, ⟨by dsimp only; omega, by dsimp only; omega, hF⟩, ⟨fun _ => henc, fun q => nomatch q⟩, ((M62.bare.focus 1 rfl).take 1)⟩
end Go.Proofs.Ytomaijljeacpjaa.Wt
namespace Go.Proofs.Ytomaijljeacpjaa.Am
open Go
set_option linter.unusedVariables false
set_option linter.unusedSimpArgs false
section
variable {base h h1 h2 h3 : H} {L L' : List Seg} {R : List Nat} {S : Seg}
variable {tab : Nat → Option FD} {Q : Ex → Env → H → Prop} {q : Env → H → Prop} {e e2 : Env}
variable {rb : Nat} {ss : List Step} {d : Option Nat} {g : Option (Nat × Bool)}
variable {α : Type} {K : Row α} {V y : Value} {l m : List α}
variable (K) in
inductive Row.Grow : Value → List α → Seg → Prop
  | nil : Row.Grow (.slice none 0 0) [] []
  | row (p : Nat) (l j : List α) : Row.Grow (.slice (some ⟨p, 0, none⟩) l.length (2 * (l ++ j).length)) l [(p, ⟨K.flat (l ++ j), K.n, false⟩)]
theorem Row.Grow.one (O : K.Grow V l S) : V.cells.toList = [V] ∧ V.oneCell' = true := by
  cases O <;> exact ⟨rfl, rfl⟩
theorem Row.Grow.sl (O : K.Grow V l S) (M : ∀ p ∈ S, h.get p.1 = some p.2) : K.Sl h V l := by
  cases O with
  | nil => exact .nil
  | row p l j =>
    have hb := M _ (List.mem_singleton.2 rfl)
    refine .row p 0 _ l ⟨_, hb, by simp [K.flat_length, Nat.add_mul], ?_⟩
    rw [List.drop_zero, K.flat_append, List.take_left]
theorem splice_flat {l m j : List α} (hm : m.length ≤ j.length) : splice (K.flat (l ++ j)) (l.length * K.n) (K.flat m) = K.flat (l ++ m ++ j.drop m.length) := by
  have e1 : l.length * K.n = (K.flat l).length := by rw [K.flat_length]
  have e2 : (K.flat m).length = (K.flat (j.take m.length)).length := by rw [K.flat_length, K.flat_length, List.length_take]; congr 1; omega
  have e3 : K.flat j = K.flat (j.take m.length) ++ K.flat (j.drop m.length) := by rw [← K.flat_append, List.take_append_drop]
  unfold splice
  rw [e1, K.flat_append, List.take_left, ← List.drop_drop, List.drop_left, e2, e3, List.drop_left, K.flat_append, K.flat_append]
theorem WS.appG {S : Seg} {x z : Operand} {bytes es : Nat} (O : K.Grow V l S) (M : Mem base h (S :: L) R) (A : K.Src h y m) (hm : m ≠ []) (hes : es = K.n) (hb : (l.length + m.length) * bytes ≤ 140737488355328) (hn : l.length + m.length ≤ 1099511627776) (hg : gd e g = some true) (hx : ev e x = some V) (hy : ev e z = some y)
    (k : ∀ V' S' h1, K.Grow V' (l ++ m) S' → Mem base h1 (S' :: L) R → WS tab rb ss (put e d V') h1 q) : WS tab rb (.op d g (.app es bytes x z) :: ss) e h q := by
  subst hes
  obtain ⟨a1, a2⟩ := A
  have hall := plain1_one (K.flat_plain m)
  have hml : m.length ≠ 0 := fun e => hm (List.eq_nil_of_length_eq_zero e)
  cases O with
  | nil =>
    refine .op hg (op_app hx hy (r := (.slice (some ⟨h.next, 0, none⟩) m.length (2 * m.length), h.alloc ⟨K.flat m, K.n, false⟩)) ?_) (k _ [(h.next, ⟨K.flat m, K.n, false⟩)] _ ?_ (Mem.perm (M.alloc _) (by simp)))
    · simp only [appE, a1, a2]
      simp only [List.length_nil, Nat.zero_add] at hb hn
      rw [if_neg hml, if_pos ⟨hb, hn, hall⟩]; rfl
    · have := Row.Grow.row (K := K) h.next m []
      rw [List.append_nil] at this
      rw [List.nil_append]; exact this
  | row p l j =>
    have hg2 : h.get p = some ⟨K.flat (l ++ j), K.n, false⟩ := M.own0 _ (List.mem_singleton.2 rfl)
    have hlj : (l ++ j).length = l.length + j.length := List.length_append
    by_cases c : m.length ≤ j.length
    · have hsp := splice_flat (K := K) (l := l) c
      have hle : 0 + l.length * K.n + (K.flat m).length ≤ (K.flat (l ++ j)).length := by
        rw [K.flat_length, K.flat_length, hlj, Nat.add_mul, Nat.zero_add]
        have := Nat.mul_le_mul_right K.n c; omega
      have hst : h.sts ⟨p, 0 + l.length * K.n, none⟩ (K.flat m) = some (h.set p (some ⟨K.flat (l ++ m ++ j.drop m.length), K.n, false⟩)) := by
        have hpos : 0 < (K.flat m).length := by rw [K.flat_length]; exact Nat.mul_pos (by omega) K.pos
        rw [← hsp]
        generalize hfl : K.flat m = fl at *
        match fl, hpos, hall with
        | v :: vs, _, hall =>
          have := sts_at hg2 rfl (off := 0 + l.length * K.n) (v := v) (vs := vs) hle hall
          rw [this, Nat.zero_add]
      refine .op hg (op_app hx hy (r := (.slice (some ⟨p, 0, none⟩) (l.length + m.length) (2 * (l ++ j).length), h.set p (some ⟨K.flat (l ++ m ++ j.drop m.length), K.n, false⟩))) ?_) (k _ _ _ ?_ (Mem.set (S1 := []) (S2 := []) M _))
      · simp only [appE, a1, a2]
        rw [if_pos (by omega)]
        show (match h.sts ⟨p, 0 + l.length * K.n, none⟩ (K.flat m) with | some h2 => some (Value.slice (some ⟨p, 0, none⟩) (l.length + m.length) (2 * (l ++ j).length), h2) | none => none) = _
        rw [hst]
      · have := Row.Grow.row (K := K) p (l ++ m) (j.drop m.length)
        have e1 : (l ++ m ++ j.drop m.length).length = (l ++ j).length := by simp; omega
        rw [e1, List.length_append] at this; exact this
    · have M2 := (Mem.free (S1 := []) (S2 := []) M).alloc ⟨K.flat (l ++ m), K.n, false⟩
      refine .op hg (op_app hx hy (r := (.slice (some ⟨h.next, 0, none⟩) (l.length + m.length) (2 * (l.length + m.length)), (h.set p none).alloc ⟨K.flat (l ++ m), K.n, false⟩)) ?_) (k _ [(h.next, ⟨K.flat (l ++ m), K.n, false⟩)] _ ?_ (Mem.perm M2 (by simp [H.next_set])))
      · simp only [appE, a1, a2]
        rw [if_neg (by omega), if_pos ⟨hb, hn, hall⟩, lds_at hg2 (by rw [K.flat_length, hlj, Nat.add_mul]; omega)]
        simp only
        rw [if_neg (by omega)]
        simp only [hg2]
        rw [if_pos ⟨trivial, trivial, trivial⟩, List.drop_zero, K.flat_append, ← K.flat_length, List.take_left, K.flat_append]
      · have := Row.Grow.row (K := K) h.next (l ++ m) []
        rw [List.append_nil, List.length_append] at this; exact this
end
end Go.Proofs.Ytomaijljeacpjaa.Am
namespace Go.Proofs.Ytomaijljeacpjaa.Wt
open Go Go.Proofs.Ytomaijljeacpjaa.Am Go.Proofs.Ytomaijljeacpjaa.IrAll
set_option linter.unusedVariables false
set_option linter.unusedSimpArgs false
structure Ses where
  id : UInt64
  tt : UInt64
  lf : UInt64
  sq : UInt64
  kp : List UInt8
  deriving DecidableEq
def Ses.cells (x : Ses) : List Value := [(.int .u64 (((x.id).toNat : Nat) : Int)), (.int .u64 (((x.tt).toNat : Nat) : Int)), (.int .u64 (((x.lf).toNat : Nat) : Int)), (.int .u64 (((x.sq).toNat : Nat) : Int)), (.string (bs x.kp))]
def KSes : Row Ses := ⟨Ses.cells, 5, fun _ => rfl, by decide, fun _ => rfl⟩
variable {h base : H} {L : List Seg} {R : List Nat}
structure Tab where
  l : List Ses
  la : UInt64
end Go.Proofs.Ytomaijljeacpjaa.Wt
namespace Go.Proofs.Ytomaijljeacpjaa.Wt
open Go Go.Proofs.Ytomaijljeacpjaa.Am Go.Proofs.Ytomaijljeacpjaa.IrAll
open Go.Proofs.Ytomaijljeacpjaa.Am.WS renaming op → C
open Go.Proofs.Ytomaijljeacpjaa.Am.WS renaming off → D
open Go.Proofs.Ytomaijljeacpjaa.Am.WS renaming nil → F
open List renaming length_append → G
open List renaming length_cons → J
set_option linter.unusedVariables false
set_option linter.unusedSimpArgs false
variable {h base : H} {L : List Seg} {R : List Nat}
theorem nothing_ran (W : Mem h h [] []) : Cll tab0 39 [] h (fun v h2 => v = .string (bs (encR zeroR)) ∧ Mem h h2 [] []) := by
  refine Cll.code rfl rfl ?_
  refine WC.env [] rfl ?_
  refine WC.seq (WC.run (C rfl rfl (F [] rfl ?_)))
  refine WC.seq (WC.run (WS.opV (.agg #[(.int .u8 (0 : Int)), (.int .u64 (0 : Int)), (.string (bs ([]))), (.slice none 0 0)]) rfl rfl rfl ?_))
  refine WS.call rfl rfl rfl (WriteR_ran W.here (r := (⟨0, 0, ([]), []⟩ : Res)) Row.Sl.nil (by exact fitR0)) ?_
  rintro _ h1 ⟨rfl, N2⟩
  have M3 := W.trans N2
  refine C rfl rfl (F [(0, _)] rfl ?_)
  refine WC.ret (⟨[_], (res_tmp rfl res_nil), ?_⟩)
  exact ⟨rfl, M3.bare.take 0⟩
def keptOf (y : Ses) : List UInt8 := if y.sq.toNat = 0 then encR zeroR else y.kp
def encS (y : Ses) : List UInt8 := vb y.id.toNat ++ (vb y.tt.toNat ++ (vb y.lf.toNat ++ vb y.sq.toNat)) ++ sb (keptOf y)
def encT (T : Tab) : List UInt8 := vb T.la.toNat ++ vb T.l.length ++ T.l.flatMap encS
def RightS (y : Ses) (b : UInt64) : Prop := (∃ r0, FitRes r0 ∧ encR r0 = y.kp) ∧ (y.sq.toNat = 0 → y.kp = encR zeroR) ∧ b.toNat < y.id.toNat ∧ 1 ≤ y.lf.toNat ∧ y.lf.toNat ≤ y.tt.toNat
theorem right_ran (W : Mem h h [] []) {y : Ses} {b : UInt64} (hk : y.kp.length ≤ 299000) : Cll tab0 37 [.agg (Ses.cells y).toArray, .int .u64 ((b.toNat : Nat) : Int)] h (fun v h2 => ∃ g, v = .bool g ∧ (g = true ↔ RightS y b) ∧ Mem h h2 [] []) := by
  refine Cll.code rfl rfl ?_
  refine WC.env [(0, _), (1, _)] rfl ?_
  refine WC.seq (WC.run (WS.box W [_, _, _, _, _] rfl rfl rfl rfl ?_))
  intro p1 h2 M3
  refine C rfl rfl (F [(1, _), (2, _)] rfl ?_)
  refine WC.seq (WC.run (C rfl rfl (C rfl (op_ld (M3.at 0 rfl) rfl rfl) ?_)))
  refine WS.call rfl rfl rfl (ReadR_ran M3.here (s := y.kp) (by exact hk)) ?_
  rintro _ h4 ⟨r10, V7, S8, ok10, O9, rfl, hF10, hy10, hn10, hC10, N5⟩
  obtain ⟨P10, rfl⟩ := O9.shape
  have M6 := M3.trans N5
  replace M6 : Mem _ _ (S8 :: [(p1, _)] :: []) _ := M6
  refine C rfl rfl (C rfl rfl (C rfl rfl ?_))
  refine WS.new M6 rfl ?_
  intro p11 h12 M13
  refine WS.st1 (M13.focus 0 rfl) [_, _, _, _] [_, _, _, _] rfl rfl rfl rfl rfl (Nat.le_of_ble_eq_true rfl) (Nat.le_of_ble_eq_true rfl) rfl rfl ?_
  intro h14 M15
  replace M15 : Mem _ _ ([(p11, _)] :: S8 :: [(p1, _)] :: []) _ := M15
  refine C rfl rfl (F [(1, _), (2, _), (6, _)] rfl ?_)
  refine WC.seq (WC.seq (WC.draw M15 [] rfl ?_))
  intro rb16 h17 M18
  refine C rfl rfl ?_
  cases hb1 : ok10
  ·
   refine WS.opV (.bool true) rfl rfl rfl (C rfl rfl (D rfl (D rfl (D rfl (D rfl (D rfl (D rfl (WS.offC rfl (WS.chkOff rfl ?_)))))))))
   refine D rfl (D rfl (C rfl rfl (F [(1, _), (2, _), (25, _)] rfl ?_)))
   refine WC.condT rfl (WC.seq (WC.run (C rfl rfl (F [(4, _)] rfl ?_))))
   refine WC.ret (⟨[_], (res_tmp rfl res_nil), ?_⟩)
   refine ⟨_, rfl, ⟨fun q => (nomatch q), fun ⟨⟨r0, z1, z2⟩, z3, z4, z5, z6⟩ => ?_⟩, M18.bare.bare.take 0⟩
   exfalso
   first
   | omega
   | exact (hC10.2 hb1).2 r0 z1 z2
   | exact e23 (z3 e18)
  ·
   refine WS.opV (.bool false) rfl rfl rfl (C rfl rfl (C rfl rfl (C rfl (op_ld (M18.at 2 rfl) rfl rfl) ?_)))
   refine WS.eqlN (a := (y.sq).toNat) (b := 0) rfl rfl rfl (fun e18 => ?_) (fun e18 => ?_)
   ·
    refine C rfl rfl (C rfl rfl (C rfl (op_ld (M18.at 2 rfl) rfl rfl) ?_))
    refine WS.call rfl rfl rfl (nothing_ran M18.here) ?_
    rintro _ h19 ⟨rfl, N20⟩
    have M21 := M18.trans N20
    refine WS.chk rfl (op_ld (M21.at 2 rfl) rfl rfl) rfl (sameV_refl rfl) ?_
    refine WS.sneq (l := y.kp) (m := (encR zeroR)) rfl rfl rfl (fun e23 => ?_) (fun e23 => ?_)
    ·
     refine C rfl rfl (C rfl rfl (F [(1, _), (2, _), (25, _)] rfl ?_))
     refine WC.condT rfl (WC.seq (WC.run (C rfl rfl (F [(4, _)] rfl ?_))))
     refine WC.ret (⟨[_], (res_tmp rfl res_nil), ?_⟩)
     refine ⟨_, rfl, ⟨fun q => (nomatch q), fun ⟨⟨r0, z1, z2⟩, z3, z4, z5, z6⟩ => ?_⟩, M21.bare.bare.take 0⟩
     exfalso
     first
     | omega
     | exact (hC10.2 hb1).2 r0 z1 z2
     | exact e23 (z3 e18)
    ·
     refine C rfl rfl (C rfl rfl (F [(1, _), (2, _), (25, _)] rfl ?_))
     refine WC.condF rfl (WC.skip (WC.seq (WC.run (C rfl rfl (C rfl (op_ld (M21.bare.at 2 rfl) rfl rfl) (C rfl rfl ?_))))))
     refine WS.gtrN (a := (y.id).toNat) (b := (b).toNat) rfl rfl rfl (fun e29 => ?_) (fun e29 => ?_)
     ·
      refine C rfl rfl (C rfl rfl (C rfl (op_ld (M21.bare.at 2 rfl) rfl rfl) ?_))
      refine WS.geqN (a := (y.lf).toNat) (b := 1) rfl rfl rfl (fun e33 => ?_) (fun e33 => ?_)
      ·
       refine C rfl rfl (C rfl rfl (C rfl rfl (C rfl (op_ld (M21.bare.at 2 rfl) rfl rfl) (C rfl rfl (C rfl (op_ld (M21.bare.at 2 rfl) rfl rfl) ?_)))))
       refine WS.leqN (a := (y.lf).toNat) (b := (y.tt).toNat) rfl rfl rfl (fun e40 => ?_) (fun e40 => ?_)
       ·
        refine C rfl rfl (C rfl rfl (F [(4, _)] rfl ?_))
        refine WC.ret (⟨[_], (res_tmp rfl res_nil), ?_⟩)
        exact ⟨_, rfl, ⟨fun _ => ⟨⟨r10, hF10, hy10 hb1⟩, (fun q => by first | exact absurd q e18 | exact e23), by omega, by omega, by omega⟩, fun _ => rfl⟩, M21.bare.bare.take 0⟩
       ·
        refine C rfl rfl (C rfl rfl (F [(4, _)] rfl ?_))
        refine WC.ret (⟨[_], (res_tmp rfl res_nil), ?_⟩)
        refine ⟨_, rfl, ⟨fun q => (nomatch q), fun ⟨⟨r0, z1, z2⟩, z3, z4, z5, z6⟩ => ?_⟩, M21.bare.bare.take 0⟩
        exfalso
        first
        | omega
        | exact (hC10.2 hb1).2 r0 z1 z2
        | exact e23 (z3 e18)
      ·
       refine C rfl rfl (C rfl rfl (D rfl (D rfl (D rfl (D rfl (D rfl (C rfl rfl (C rfl rfl (F [(4, _)] rfl ?_)))))))))
       refine WC.ret (⟨[_], (res_tmp rfl res_nil), ?_⟩)
       refine ⟨_, rfl, ⟨fun q => (nomatch q), fun ⟨⟨r0, z1, z2⟩, z3, z4, z5, z6⟩ => ?_⟩, M21.bare.bare.take 0⟩
       exfalso
       first
       | omega
       | exact (hC10.2 hb1).2 r0 z1 z2
       | exact e23 (z3 e18)
     ·
      refine C rfl rfl (D rfl (D rfl (D rfl (C rfl rfl (C rfl rfl (D rfl (D rfl (D rfl (D rfl ?_)))))))))
      refine D rfl (C rfl rfl (C rfl rfl (F [(4, _)] rfl ?_)))
      refine WC.ret (⟨[_], (res_tmp rfl res_nil), ?_⟩)
      refine ⟨_, rfl, ⟨fun q => (nomatch q), fun ⟨⟨r0, z1, z2⟩, z3, z4, z5, z6⟩ => ?_⟩, M21.bare.bare.take 0⟩
      exfalso
      first
      | omega
      | exact (hC10.2 hb1).2 r0 z1 z2
      | exact e23 (z3 e18)
   ·
    refine C rfl rfl (D rfl (D rfl (WS.offC rfl (WS.chkOff rfl (D rfl (C rfl rfl (C rfl rfl (F [(1, _), (2, _), (25, _)] rfl ?_))))))))
    refine WC.condF rfl (WC.skip (WC.seq (WC.run (C rfl rfl (C rfl (op_ld (M18.bare.at 2 rfl) rfl rfl) (C rfl rfl ?_))))))
    refine WS.gtrN (a := (y.id).toNat) (b := (b).toNat) rfl rfl rfl (fun e29 => ?_) (fun e29 => ?_)
    ·
     refine C rfl rfl (C rfl rfl (C rfl (op_ld (M18.bare.at 2 rfl) rfl rfl) ?_))
     refine WS.geqN (a := (y.lf).toNat) (b := 1) rfl rfl rfl (fun e33 => ?_) (fun e33 => ?_)
     ·
      refine C rfl rfl (C rfl rfl (C rfl rfl (C rfl (op_ld (M18.bare.at 2 rfl) rfl rfl) (C rfl rfl (C rfl (op_ld (M18.bare.at 2 rfl) rfl rfl) ?_)))))
      refine WS.leqN (a := (y.lf).toNat) (b := (y.tt).toNat) rfl rfl rfl (fun e40 => ?_) (fun e40 => ?_)
      ·
       refine C rfl rfl (C rfl rfl (F [(4, _)] rfl ?_))
       refine WC.ret (⟨[_], (res_tmp rfl res_nil), ?_⟩)
       exact ⟨_, rfl, ⟨fun _ => ⟨⟨r10, hF10, hy10 hb1⟩, (fun q => by first | exact absurd q e18 | exact e23), by omega, by omega, by omega⟩, fun _ => rfl⟩, M18.bare.bare.take 0⟩
      ·
       refine C rfl rfl (C rfl rfl (F [(4, _)] rfl ?_))
       refine WC.ret (⟨[_], (res_tmp rfl res_nil), ?_⟩)
       refine ⟨_, rfl, ⟨fun q => (nomatch q), fun ⟨⟨r0, z1, z2⟩, z3, z4, z5, z6⟩ => ?_⟩, M18.bare.bare.take 0⟩
       exfalso
       first
       | omega
       | exact (hC10.2 hb1).2 r0 z1 z2
       | exact e23 (z3 e18)
     ·
      refine C rfl rfl (C rfl rfl (D rfl (D rfl (D rfl (D rfl (D rfl (C rfl rfl (C rfl rfl (F [(4, _)] rfl ?_)))))))))
      refine WC.ret (⟨[_], (res_tmp rfl res_nil), ?_⟩)
      refine ⟨_, rfl, ⟨fun q => (nomatch q), fun ⟨⟨r0, z1, z2⟩, z3, z4, z5, z6⟩ => ?_⟩, M18.bare.bare.take 0⟩
      exfalso
      first
      | omega
      | exact (hC10.2 hb1).2 r0 z1 z2
      | exact e23 (z3 e18)
    ·
     refine C rfl rfl (D rfl (D rfl (D rfl (C rfl rfl (C rfl rfl (D rfl (D rfl (D rfl (D rfl ?_)))))))))
     refine D rfl (C rfl rfl (C rfl rfl (F [(4, _)] rfl ?_)))
     refine WC.ret (⟨[_], (res_tmp rfl res_nil), ?_⟩)
     refine ⟨_, rfl, ⟨fun q => (nomatch q), fun ⟨⟨r0, z1, z2⟩, z3, z4, z5, z6⟩ => ?_⟩, M18.bare.bare.take 0⟩
     exfalso
     first
     | omega
     | exact (hC10.2 hb1).2 r0 z1 z2
     | exact e23 (z3 e18)
theorem keptOf_len {y : Ses} (h : y.kp.length ≤ 299000) : (keptOf y).length ≤ 299000 := by
  unfold keptOf; split
  · exact Nat.le_trans (show (encR zeroR).length ≤ 60 by decide +kernel) (by omega)
  · exact h
set_option maxRecDepth 8000 in
theorem Write_ran {t : Nat} {T : Tab} {V : Value} {S : Seg} (O : KSes.Grow V T.l S) (M : Mem base h (S :: [(t, ⟨[V, .int .u64 ((T.la.toNat : Nat) : Int)], 0, false⟩)] :: L) []) (hl : T.l.length ≤ 1000) (hk : ∀ y ∈ T.l, y.kp.length ≤ 299000) : Cll tab0 19 [.pointer (some ⟨t, 0, none⟩)] h (fun v h2 => v = .string (bs (encT T)) ∧ Mem base h2 (S :: [(t, ⟨[V, .int .u64 ((T.la.toNat : Nat) : Int)], 0, false⟩)] :: L) []) := by
  have hla := T.la.toNat_lt
  have w1 := vb_len (n := T.la.toNat) (by omega)
  have w2 := vb_len (n := T.l.length) (by omega)
  refine Cll.code rfl rfl ?_
  refine WC.env [(0, _)] rfl ?_
  refine WC.seq (WC.run (C rfl rfl (F [(0, _)] rfl ?_)))
  refine WC.seq (WC.seq (WC.run (C rfl rfl (WS.opV (.bool false) rfl rfl rfl (F [(0, _), (8, _)] rfl ?_)))))
  refine WC.condF rfl (WC.skip (WC.seq (WC.draw M [10] rfl ?_)))
  intro rb1 h2 M3
  refine C rfl rfl (C rfl rfl (C rfl rfl (C rfl (op_ld (M3.at 1 rfl) rfl rfl) (C rfl rfl (C rfl rfl (C rfl rfl (C rfl (op_ld (M3.at 1 rfl) rfl rfl) (C rfl (op_lenVS (Row.Grow.sl O (Mem.owni M3 0 rfl)) rfl) (WS.opV (.int .u64 (((T.l).length : Nat) : Int)) rfl rfl (cv_u64 (n := (T.l).length) (by omega)) ?_)))))))))
  refine WS.bslA M3 [_, _] 0 rfl rfl rfl rfl rfl ?_
  intro h5 M6
  refine WS.call rfl rfl rfl (num_V_ran M6.here (Row.Sl.own (K := KNat) (l := [(T.la).toNat, (T.l).length]) (M6.at 0 rfl)) (by intro n hn; simp only [List.mem_cons, List.mem_nil_iff, or_false] at hn; omega) (by simp) (r := ((vb ((T.la).toNat)) ++ (vb ((T.l).length)))) (by simp [List.flatMap])) ?_
  rintro _ h7 ⟨rfl, N8⟩
  have M9 := M6.trans N8
  refine C rfl rfl (F [(0, _), (3, _)] rfl ?_)
  refine WC.seq (WC.seq (WC.run (C rfl rfl (C rfl rfl (C rfl rfl (C rfl (op_ld (M9.bare.at 2 rfl) rfl rfl) (C rfl (op_lenVS (Row.Grow.sl O (Mem.owni M9.bare 1 rfl)) rfl) (C rfl rfl (F [(3, _), (24, _), (25, _), (26, _)] rfl ?_)))))))))
  refine WC.block ?_
  obtain ⟨L10, eL12, M11⟩ := Mem.name M9.bare.bare
  refine WC.loop (σ := List UInt8 × Nat) (fun ((out, i)) => [(3, (.string (bs out))), (24, V), (25, (.int .i64 (((T.l).length : Nat) : Int))), (26, (.int .i64 ((i : Nat) : Int)))]) (fun ((out, i)) hh => Mem base hh (L10) [] ∧ out = (vb T.la.toNat ++ vb T.l.length) ++ (T.l.take i).flatMap encS ∧ i ≤ T.l.length ∧ out.length ≤ 20 + 300000 * i) (fun ((out, i)) => T.l.length - i) (((vb ((T.la).toNat)) ++ (vb ((T.l).length))), 0) rfl ⟨M11, ?_⟩ ?_
  · exact ⟨by simp, by omega, by simp only [G]; omega⟩
  ·rintro ⟨out, i⟩ h13 ⟨M14, ⟨hE, hi1, hol⟩⟩
   replace eL12 := eL12.symm; subst eL12
   refine WC.env [(3, _), (24, _), (25, _), (26, _)] rfl ?_
   refine WC.seq (WC.run (WS.lssN (a := i) (b := (T.l).length) rfl rfl rfl (fun e27 => ?_) (fun e27 => ?_)))
   ·
    refine F [(3, _), (24, _), (25, _), (26, _), (27, _)] rfl ?_
    refine WC.seq (WC.condT rfl (WC.skip (WC.seq (WC.block (WC.seq (WC.run ?_))))))
    obtain ⟨y28, hy28⟩ : ∃ y, (T.l)[i]? = some y := ⟨_, List.getElem?_eq_getElem (show i < (T.l).length by first | omega | (simp only [List.length_drop, List.length_take, G, J, List.length_nil, List.length_singleton]; omega) | (simp only [List.length_drop, List.length_take, G, J, List.length_nil, List.length_singleton] at *; omega))⟩
    refine WS.iaVS (Row.Grow.sl O (Mem.owni M14 1 rfl)) i hy28 rfl rfl rfl rfl ?_
    intro b28_ o28_ ha28
    have t0 := hk _ (List.mem_of_getElem? hy28)
    have tk := keptOf_len t0
    have t1 := sb_len (t := keptOf y28) (by omega)
    have t2 := vb_len y28.id.toNat_lt
    have t3 := vb_len y28.tt.toNat_lt
    have t4 := vb_len y28.lf.toNat_lt
    have t5 := vb_len y28.sq.toNat_lt
    have t6 := y28.id.toNat_lt
    have t7 := y28.tt.toNat_lt
    have t8 := y28.lf.toNat_lt
    have t9 := y28.sq.toNat_lt
    refine C rfl (op_ldAt rfl ha28 rfl) ?_
    refine WS.new M14 rfl ?_
    intro p15 h16 M17
    refine WS.st1 (M17.focus 0 rfl) [_, _, _, _, _] [_, _, _, _, _] rfl rfl rfl rfl rfl (Nat.le_of_ble_eq_true rfl) (Nat.le_of_ble_eq_true rfl) rfl rfl ?_
    intro h18 M19
    replace M19 : Mem _ _ ([(p15, _)] :: [((rb1 + 10), _)] :: S :: [(t, _)] :: L) _ := M19
    refine F [(3, _), (5, _), (24, _), (25, _), (26, _)] rfl ?_
    refine WC.seq (WC.run (C rfl rfl (C rfl (op_ld (M19.at 0 rfl) rfl rfl) (C rfl rfl (F [(3, _), (5, _), (6, _), (24, _), (25, _), (26, _)] rfl ?_)))))
    refine WC.seq (WC.seq (WC.run (C rfl rfl (C rfl (op_ld (M19.at 0 rfl) rfl rfl) ?_))))
    refine WS.eqlN (a := (y28.sq).toNat) (b := 0) rfl rfl rfl (fun e34 => ?_) (fun e34 => ?_)
    ·
     have hkq : keptOf y28 = encR zeroR := if_pos e34
     rw [hkq] at tk t1
     refine F [(3, _), (5, _), (6, _), (24, _), (25, _), (26, _), (34, _)] rfl ?_
     refine WC.condT rfl (WC.run (WS.call rfl rfl rfl (nothing_ran M19.here) ?_))
     rintro _ h20 ⟨rfl, N21⟩
     have M22 := M19.trans N21
     refine C rfl rfl (F [(3, _), (5, _), (6, _), (24, _), (25, _), (26, _)] rfl ?_)
     refine WC.run (C rfl rfl (C rfl rfl (C rfl (op_ld (M22.at 0 rfl) rfl rfl) (C rfl rfl (C rfl (op_ld (M22.at 0 rfl) rfl rfl) (C rfl rfl (C rfl (op_ld (M22.at 0 rfl) rfl rfl) (C rfl rfl (C rfl (op_ld (M22.at 0 rfl) rfl rfl) ?_)))))))))
     refine WS.bsl M22 [_, _, _, _] rfl rfl rfl rfl ?_
     intro p24 h25 M26
     refine WS.call rfl rfl rfl (num_V_ran M26.here (Row.Sl.own (K := KNat) (l := [(y28.id).toNat, (y28.tt).toNat, (y28.lf).toNat, (y28.sq).toNat]) (M26.at 0 rfl)) (by intro n hn; simp only [List.mem_cons, List.mem_nil_iff, or_false] at hn; omega) (by simp) (r := ((vb ((y28.id).toNat)) ++ (vb ((y28.tt).toNat)) ++ (vb ((y28.lf).toNat)) ++ (vb ((y28.sq).toNat)))) (by simp [List.flatMap])) ?_
     rintro _ h27 ⟨rfl, N28⟩
     have M29 := M26.trans N28
     refine C rfl rfl ?_
     refine WS.bsl M29 [_] rfl rfl rfl rfl ?_
     intro p30 h31 M32
     refine WS.call rfl rfl rfl (num_S_ran M32.here (Row.Sl.own (K := KStr) (l := [(encR zeroR)]) (M32.at 0 rfl)) (by simp only [List.map_cons, List.map_nil, List.sum_cons, List.sum_nil, J, List.length_nil]; omega) (r := (sb (encR zeroR))) (by simp [List.flatMap])) ?_
     rintro _ h33 ⟨rfl, N34⟩
     have M35 := M32.trans N34
     refine C rfl (op_sadd (l := ((vb ((y28.id).toNat)) ++ (vb ((y28.tt).toNat)) ++ (vb ((y28.lf).toNat)) ++ (vb ((y28.sq).toNat)))) (m := (sb (encR zeroR))) rfl rfl (by first | omega | (simp only [G, J, List.length_nil]; omega))) (C rfl (op_sadd (l := out) (m := (((vb ((y28.id).toNat)) ++ (vb ((y28.tt).toNat)) ++ (vb ((y28.lf).toNat)) ++ (vb ((y28.sq).toNat))) ++ (sb (encR zeroR)))) rfl rfl (by first | omega | (simp only [G, J, List.length_nil]; omega))) (C rfl rfl (F [(3, _), (24, _), (25, _), (26, _)] rfl ?_)))
     refine WC.run (WS.opV (.int .i64 (((i + 1) : Nat) : Int)) rfl rfl (add_i64 (a := i) (b := 1) (by omega)) (C rfl rfl (F [(3, _), (24, _), (25, _), (26, _)] rfl ?_)))
     refine ⟨((out ++ (((vb ((y28.id).toNat)) ++ (vb ((y28.tt).toNat)) ++ (vb ((y28.lf).toNat)) ++ (vb ((y28.sq).toNat))) ++ (sb (encR zeroR)))), i + 1), rfl, ⟨(((((M35.focus 0 rfl).drop).focus 0 rfl).drop).focus 0 rfl).drop, ?_⟩, ?_⟩
     · exact ⟨by rw [flatMap_take_succ encS hy28, hE]; simp [encS, hkq], by omega, by simp only [G, J, List.length_nil]; omega⟩
     · simp only []; omega
    ·
     have hkq : keptOf y28 = y28.kp := if_neg e34
     rw [hkq] at tk t1
     refine F [(3, _), (5, _), (6, _), (24, _), (25, _), (26, _), (34, _)] rfl ?_
     refine WC.condF rfl (WC.skip (WC.run (C rfl rfl (C rfl rfl (C rfl (op_ld (M19.at 0 rfl) rfl rfl) (C rfl rfl (C rfl (op_ld (M19.at 0 rfl) rfl rfl) (C rfl rfl (C rfl (op_ld (M19.at 0 rfl) rfl rfl) (C rfl rfl (C rfl (op_ld (M19.at 0 rfl) rfl rfl) ?_)))))))))))
     refine WS.bsl M19 [_, _, _, _] rfl rfl rfl rfl ?_
     intro p36 h37 M38
     refine WS.call rfl rfl rfl (num_V_ran M38.here (Row.Sl.own (K := KNat) (l := [(y28.id).toNat, (y28.tt).toNat, (y28.lf).toNat, (y28.sq).toNat]) (M38.at 0 rfl)) (by intro n hn; simp only [List.mem_cons, List.mem_nil_iff, or_false] at hn; omega) (by simp) (r := ((vb ((y28.id).toNat)) ++ (vb ((y28.tt).toNat)) ++ (vb ((y28.lf).toNat)) ++ (vb ((y28.sq).toNat)))) (by simp [List.flatMap])) ?_
     rintro _ h39 ⟨rfl, N40⟩
     have M41 := M38.trans N40
     refine C rfl rfl ?_
     refine WS.bsl M41 [_] rfl rfl rfl rfl ?_
     intro p42 h43 M44
     refine WS.call rfl rfl rfl (num_S_ran M44.here (Row.Sl.own (K := KStr) (l := [y28.kp]) (M44.at 0 rfl)) (by simp only [List.map_cons, List.map_nil, List.sum_cons, List.sum_nil, J, List.length_nil]; omega) (r := (sb y28.kp)) (by simp [List.flatMap])) ?_
     rintro _ h45 ⟨rfl, N46⟩
     have M47 := M44.trans N46
     refine C rfl (op_sadd (l := ((vb ((y28.id).toNat)) ++ (vb ((y28.tt).toNat)) ++ (vb ((y28.lf).toNat)) ++ (vb ((y28.sq).toNat)))) (m := (sb y28.kp)) rfl rfl (by first | omega | (simp only [G, J, List.length_nil]; omega))) (C rfl (op_sadd (l := out) (m := (((vb ((y28.id).toNat)) ++ (vb ((y28.tt).toNat)) ++ (vb ((y28.lf).toNat)) ++ (vb ((y28.sq).toNat))) ++ (sb y28.kp))) rfl rfl (by first | omega | (simp only [G, J, List.length_nil]; omega))) (C rfl rfl (F [(3, _), (24, _), (25, _), (26, _)] rfl ?_)))
     refine WC.run (WS.opV (.int .i64 (((i + 1) : Nat) : Int)) rfl rfl (add_i64 (a := i) (b := 1) (by omega)) (C rfl rfl (F [(3, _), (24, _), (25, _), (26, _)] rfl ?_)))
     refine ⟨((out ++ (((vb ((y28.id).toNat)) ++ (vb ((y28.tt).toNat)) ++ (vb ((y28.lf).toNat)) ++ (vb ((y28.sq).toNat))) ++ (sb y28.kp))), i + 1), rfl, ⟨(((((M47.focus 0 rfl).drop).focus 0 rfl).drop).focus 0 rfl).drop, ?_⟩, ?_⟩
     · exact ⟨by rw [flatMap_take_succ encS hy28, hE]; simp [encS, hkq], by omega, by simp only [G, J, List.length_nil]; omega⟩
     · simp only []; omega
   ·
    refine F [(3, _), (24, _), (25, _), (26, _), (27, _)] rfl ?_
    refine WC.seq (WC.condF rfl (WC.exit ?_))
    refine WC.seq (WC.run (C rfl rfl (C rfl rfl (F [(2, _)] rfl ?_))))
    refine WC.ret (⟨[_], (res_tmp rfl res_nil), ?_⟩)
    rw [List.take_of_length_le (by omega)] at hE
    exact ⟨by rw [hE]; rfl, (M14.focus 0 rfl).drop⟩
end Go.Proofs.Ytomaijljeacpjaa.Wt
namespace Go.Proofs.Ytomaijljeacpjaa.Wt
open Go Go.Proofs.Ytomaijljeacpjaa.Am Go.Proofs.Ytomaijljeacpjaa.IrAll
open Go.Proofs.Ytomaijljeacpjaa.Am.WS renaming op → C
open Nat renaming le_of_ble_eq_true → D
open Go.Proofs.Ytomaijljeacpjaa.Am.WS renaming nil → F
open Go.Proofs.Ytomaijljeacpjaa.Am.WC renaming seq → G
open Go.Proofs.Ytomaijljeacpjaa.Am.WC renaming run → J
open Go.Proofs.Ytomaijljeacpjaa.Am.WS renaming off → U
set_option linter.unusedVariables false
set_option linter.unusedSimpArgs false
variable {h base : H} {L : List Seg} {R : List Nat}
theorem Mem.name4 {S S2 S3 S4 : Seg} (M : Mem base h (S :: S2 :: S3 :: S4 :: L) R) : ∃ L', L' = L ∧ Mem base h (S :: S2 :: S3 :: S4 :: L') R := ⟨L, rfl, M⟩
theorem rv_of {s t : List UInt8} {c : UInt64} (h : s = vb c.toNat ++ t) : rvN s = c.toNat ∧ rvOK s = true ∧ s.drop (rvK s) = t := by
  obtain ⟨e1, e2, e3⟩ := rv_eq_some (show getV s = some (c.toNat, (vb c.toNat).length) by rw [h]; exact getV_vb c.toNat_lt _)
  refine ⟨e1, e3, ?_⟩
  rw [e2, h, List.drop_left]
theorem rs_of {s t k : List UInt8} (hk : k.length < 18446744073709551616) (h : s = sb k ++ t) : rsT s = k ∧ rsOK s = true ∧ s.drop (rsK s) = t := by
  obtain ⟨e1, e2, e3⟩ := rs_eq_some (show getS s = some (k, (sb k).length) by rw [h]; exact getS_sb hk _)
  refine ⟨e1, e3, ?_⟩
  rw [e2, h, List.drop_left]
theorem number_ran {r q : Nat} {s : List UInt8} {w : Bool} (M : Mem base h ([(r, ⟨[.string (bs s)], 0, false⟩)] :: [(q, ⟨[.bool w], 0, false⟩)] :: L) []) (hl : s.length ≤ 1000000) : Cll tab0 34 [.pointer (some ⟨r, 0, none⟩), .pointer (some ⟨q, 0, none⟩)] h (fun v h2 => ∃ m s' w', v = .int .u64 ((UInt64.toNat m : Nat) : Int) ∧ Mem base h2 ([(r, ⟨[.string (bs s')], 0, false⟩)] :: [(q, ⟨[.bool w'], 0, false⟩)] :: L) [] ∧ s'.length ≤ s.length ∧ (∀ (c : UInt64) t, s = vb c.toNat ++ t → w' = w ∧ m = c ∧ s' = t)) := by
  have hk := rvK_le s
  have hn := rvN_lt s
  refine Cll.code rfl rfl ?_
  refine WC.env [(0, _), (1, _)] rfl ?_
  refine G (J (C rfl rfl (F [(0, _), (1, _)] rfl ?_)))
  refine G (J (C rfl (op_ld (M.at 0 rfl) rfl rfl) ?_))
  refine WS.call rfl rfl rfl (num_ReadV_ran M.here (l := s) (by first | omega | (simp only [List.length_drop, List.length_take, List.length_append, List.length_cons, List.length_nil, List.length_singleton]; omega) | (simp only [List.length_drop, List.length_take, List.length_append, List.length_cons, List.length_nil, List.length_singleton] at *; omega))) ?_
  rintro _ h1 ⟨rfl, N2⟩
  have M3 := M.trans N2
  refine C rfl rfl (WS.opV (.int .u64 (((UInt64.ofNat (rvN s)).toNat : Nat) : Int)) rfl rfl (u64_ofNat (n := (rvN s)) (by have := rvN_lt s; omega)) (C rfl rfl (C rfl rfl (C rfl rfl (C rfl rfl (C rfl rfl (F [(0, _), (1, _), (3, _), (4, _), (5, _)] rfl ?_)))))))
  refine G (J (C rfl (op_ld (M3.at 1 rfl) rfl rfl) (C rfl rfl ?_)))
  cases hb1 : w
  ·
   refine U rfl (C rfl rfl ?_)
   refine WS.st1 (M3.focus 1 rfl) [_] [_] rfl rfl rfl rfl rfl (D rfl) (D rfl) rfl rfl ?_
   intro h5 M6
   replace M6 : Mem _ _ ([(q, _)] :: [(r, _)] :: L) _ := M6
   refine F [(0, _), (3, _), (4, _)] rfl ?_
   refine G (J (C rfl (op_ld (M6.at 1 rfl) rfl rfl) (C rfl rfl (C rfl (op_slS0 (l := s) (rvK s) rfl rfl (by omega)) ?_))))
   refine WS.st1 (M6.focus 1 rfl) [_] [_] rfl rfl rfl rfl rfl (D rfl) (D rfl) rfl rfl ?_
   intro h7 M8
   replace M8 : Mem _ _ ([(r, _)] :: [(q, _)] :: L) _ := M8
   refine F [(3, _)] rfl ?_
   refine G (J (C rfl rfl (C rfl rfl (F [(2, _)] rfl ?_))))
   refine WC.ret (⟨[_], (res_tmp rfl res_nil), ?_⟩)
   exact ⟨UInt64.ofNat (rvN s), _, _, rfl, M8, by simp, fun c t e => by obtain ⟨e1, e2, e3⟩ := rv_of e; exact ⟨by first | rfl | (rw [e2] at *; simp_all; done) | simp_all, by rw [e1]; simp, e3⟩⟩
  ·
   refine C rfl rfl (C rfl rfl ?_)
   refine WS.st1 (M3.focus 1 rfl) [_] [_] rfl rfl rfl rfl rfl (D rfl) (D rfl) rfl rfl ?_
   intro h9 M10
   replace M10 : Mem _ _ ([(q, _)] :: [(r, _)] :: L) _ := M10
   refine F [(0, _), (3, _), (4, _)] rfl ?_
   refine G (J (C rfl (op_ld (M10.at 1 rfl) rfl rfl) (C rfl rfl (C rfl (op_slS0 (l := s) (rvK s) rfl rfl (by omega)) ?_))))
   refine WS.st1 (M10.focus 1 rfl) [_] [_] rfl rfl rfl rfl rfl (D rfl) (D rfl) rfl rfl ?_
   intro h11 M12
   replace M12 : Mem _ _ ([(r, _)] :: [(q, _)] :: L) _ := M12
   refine F [(3, _)] rfl ?_
   refine G (J (C rfl rfl (C rfl rfl (F [(2, _)] rfl ?_))))
   refine WC.ret (⟨[_], (res_tmp rfl res_nil), ?_⟩)
   exact ⟨UInt64.ofNat (rvN s), _, _, rfl, M12, by simp, fun c t e => by obtain ⟨e1, e2, e3⟩ := rv_of e; exact ⟨by first | rfl | (rw [e2] at *; simp_all; done) | simp_all, by rw [e1]; simp, e3⟩⟩
def lastId : UInt64 → List Ses → UInt64
  | b, [] => b
  | _, y :: l => lastId y.id l
def GoodL : UInt64 → List Ses → Prop
  | _, [] => True
  | b, y :: l => RightS y b ∧ GoodL y.id l
theorem lastId_app : ∀ {l : List Ses} {b : UInt64} {y : Ses}, lastId b (l ++ [y]) = y.id := by
  intro l
  induction l with
  | nil => intro b y; rfl
  | cons x l ih => intro b y; exact ih
theorem goodL_app : ∀ {l : List Ses} {b : UInt64} {y : Ses}, GoodL b l → RightS y (lastId b l) → GoodL b (l ++ [y]) := by
  intro l
  induction l with
  | nil => intro b y _ h; exact ⟨h, trivial⟩
  | cons x l ih => intro b y h h2; exact ⟨h.1, ih h.2 h2⟩
theorem goodL_get : ∀ {l : List Ses} {b : UInt64} {n : Nat} {y : Ses}, GoodL b l → l[n]? = some y → RightS y (lastId b (l.take n)) := by
  intro l
  induction l with
  | nil => intro b n y _ h; simp at h
  | cons x l ih =>
    intro b n y h h2
    cases n with
    | zero => simp at h2; subst h2; exact h.1
    | succ n => exact ih h.2 (by simpa using h2)
def GoodT (T : Tab) : Prop := GoodL 0 T.l ∧ (lastId 0 T.l).toNat ≤ T.la.toNat ∧ T.l.length ≤ 4
theorem kept_right {y : Ses} {b : UInt64} (h : RightS y b) : keptOf y = y.kp := by
  unfold keptOf; split
  · rename_i q; exact (h.2.1 q).symm
  · rfl
theorem step_pro {rs s1 s2 s3 s4 t : List UInt8} {w w1 w2 w3 w4 : Bool} {m1 m2 m3 m4 : UInt64} {y0 : Ses} (R1 : ∀ (c : UInt64) t, rs = vb c.toNat ++ t → w1 = w ∧ m1 = c ∧ s1 = t) (R2 : ∀ (c : UInt64) t, s1 = vb c.toNat ++ t → w2 = w1 ∧ m2 = c ∧ s2 = t) (R3 : ∀ (c : UInt64) t, s2 = vb c.toNat ++ t → w3 = w2 ∧ m3 = c ∧ s3 = t) (R4 : ∀ (c : UInt64) t, s3 = vb c.toNat ++ t → w4 = w3 ∧ m4 = c ∧ s4 = t)
    (h : rs = encS y0 ++ t) (hk : (keptOf y0).length < 18446744073709551616) : w4 = w ∧ m1 = y0.id ∧ m2 = y0.tt ∧ m3 = y0.lf ∧ m4 = y0.sq ∧ rsT s4 = keptOf y0 ∧ rsOK s4 = true ∧ s4.drop (rsK s4) = t := by
  obtain ⟨a1, a2, a3⟩ := R1 y0.id (vb y0.tt.toNat ++ (vb y0.lf.toNat ++ (vb y0.sq.toNat ++ (sb (keptOf y0) ++ t)))) (by rw [h]; simp [encS])
  obtain ⟨b1, b2, b3⟩ := R2 _ _ a3
  obtain ⟨c1, c2, c3⟩ := R3 _ _ b3
  obtain ⟨d1, d2, d3⟩ := R4 _ _ c3
  obtain ⟨f1, f2, f3⟩ := rs_of hk d3
  exact ⟨by rw [d1, c1, b1, a1], a2, b2, c2, d2, f1, f2, f3⟩
theorem drop_encS {l : List Ses} {n : Nat} {y : Ses} (h : l[n]? = some y) : (l.drop n).flatMap encS = encS y ++ (l.drop (n + 1)).flatMap encS := by
  obtain ⟨hn, rfl⟩ := List.getElem?_eq_some_iff.1 h
  rw [List.drop_eq_getElem_cons hn, List.flatMap_cons]
theorem first_pro {s s1 s2 : List UInt8} {w1 w2 : Bool} {m1 m2 : UInt64} (R1 : ∀ (c : UInt64) t, s = vb c.toNat ++ t → w1 = true ∧ m1 = c ∧ s1 = t) (R2 : ∀ (c : UInt64) t, s1 = vb c.toNat ++ t → w2 = w1 ∧ m2 = c ∧ s2 = t) {T0 : Tab} (g : GoodT T0) (e : encT T0 = s) : w2 = true ∧ m1 = T0.la ∧ m2.toNat = T0.l.length ∧ s2 = T0.l.flatMap encS := by
  have hl := g.2.2
  have e64 : (UInt64.ofNat T0.l.length).toNat = T0.l.length := n64 (by omega)
  obtain ⟨a1, a2, a3⟩ := R1 T0.la (vb T0.l.length ++ T0.l.flatMap encS) (by rw [← e]; simp [encT])
  obtain ⟨b1, b2, b3⟩ := R2 (UInt64.ofNat T0.l.length) _ (by rw [e64]; exact a3)
  exact ⟨by rw [b1, a1], a2, by rw [b2, e64], b3⟩
set_option maxRecDepth 8000 in
theorem ReadT_ran (W : Mem h h [] []) {s : List UInt8} (hl : s.length ≤ 299000) : Cll tab0 18 [.string (bs s)] h (fun v h2 => (∃ p V S T, v = .tuple #[.pointer (some ⟨p, 0, none⟩), .bool true] ∧ KSes.Grow V (Tab.l T) S ∧ GoodT T ∧ encT T = s ∧ (∀ T0, GoodT T0 → encT T0 = s → T = T0) ∧ (∀ y ∈ T.l, y.kp.length ≤ 299000) ∧ Mem h h2 (S :: [(p, ⟨[V, .int .u64 ((T.la.toNat : Nat) : Int)], 0, false⟩)] :: []) []) ∨ (v = .tuple #[.pointer none, .bool false] ∧ (∀ T0, GoodT T0 → encT T0 ≠ s) ∧ Mem h h2 [] [])) := by
  refine Cll.code rfl rfl ?_
  refine WC.env [(0, _)] rfl ?_
  refine G (J (C rfl rfl (C rfl rfl (F [(0, _)] rfl ?_))))
  refine G (J (C rfl rfl ?_))
  refine WS.new W rfl ?_
  intro p1 h2 M3
  refine WS.new M3 rfl ?_
  intro p4 h5 M6
  refine WS.st1 (M6.focus 1 rfl) [_] [_] rfl rfl rfl rfl rfl (D rfl) (D rfl) rfl rfl ?_
  intro h7 M8
  replace M8 : Mem _ _ ([(p1, _)] :: [(p4, _)] :: []) _ := M8
  refine WS.st1 (M8.focus 1 rfl) [_] [_] rfl rfl rfl rfl rfl (D rfl) (D rfl) rfl rfl ?_
  intro h9 M10
  replace M10 : Mem _ _ ([(p4, _)] :: [(p1, _)] :: []) _ := M10
  refine F [(0, _), (4, _), (5, _)] rfl ?_
  refine G (J (C rfl rfl (C rfl rfl (F [(0, _), (4, _), (5, _), (6, _)] rfl ?_))))
  refine G (J (C rfl rfl ?_))
  refine WS.call rfl rfl rfl (number_ran (s := s) (w := true) ((M10.focus 0 rfl).focus 1 rfl) (by omega)) ?_
  rintro _ h11 ⟨m18, s18, w18, rfl, M12, L18, R18⟩
  replace M12 : Mem _ _ ([(p1, _)] :: [(p4, _)] :: []) _ := M12
  refine WS.opV (.agg #[(.slice none 0 0), (.int .u64 (((m18).toNat : Nat) : Int))]) rfl rfl rfl ?_
  refine WS.box M12 [_, _] rfl rfl rfl rfl ?_
  intro p13 h14 M15
  refine C rfl rfl (F [(0, _), (4, _), (5, _), (6, _), (7, _)] rfl ?_)
  refine G (J (C rfl rfl ?_))
  refine WS.call rfl rfl rfl (number_ran (s := s18) (w := w18) ((M15.focus 2 rfl).focus 2 rfl) (by omega)) ?_
  rintro _ h16 ⟨m22, s22, w22, rfl, M17, L22, R22⟩
  replace M17 : Mem _ _ ([(p1, _)] :: [(p4, _)] :: [(p13, _)] :: []) _ := M17
  refine C rfl rfl (C rfl rfl (F [(0, _), (4, _), (5, _), (6, _), (7, _), (8, _), (9, _)] rfl ?_))
  refine G (G (J (C rfl rfl (F [(0, _), (4, _), (5, _), (6, _), (7, _), (8, _), (9, _), (10, _)] rfl ?_))))
  refine WC.block ?_
  obtain ⟨L18, eL20, M19⟩ := Mem.name4 (((((M17.bare.focus 1 rfl).focus 1 rfl).focus 2 rfl)).nils)
  refine WC.loop (σ := Value × Seg × List Ses × List UInt8 × Bool × UInt64 × Nat) (fun ((V_, S_, l, rs, w_, bh, n)) => [(0, (.string (bs s))), (4, (.pointer (some ⟨p1, 0, none⟩))), (5, (.pointer (some ⟨p4, 0, none⟩))), (6, (.func (.func 34) #[] #[(.pointer (some ⟨p1, 0, none⟩)), (.pointer (some ⟨p4, 0, none⟩))])), (7, (.pointer (some ⟨p13, 0, none⟩))), (8, (.int .u64 (((m22).toNat : Nat) : Int))), (9, (.int .u64 (((bh).toNat : Nat) : Int))), (10, (.int .u64 ((n : Nat) : Int)))]) (fun ((V_, S_, l, rs, w_, bh, n)) hh => Mem h hh (S_ :: [(p13, ⟨[V_, (.int .u64 (((m18).toNat : Nat) : Int))], 0, false⟩)] :: [(p1, ⟨[(.string (bs rs))], 0, false⟩)] :: [(p4, ⟨[(.bool w_)], 0, false⟩)] :: L18) [] ∧ KSes.Grow V_ l S_ ∧ n < 18446744073709551616 ∧ n = l.length ∧ n ≤ 4 ∧ rs.length ≤ s.length ∧ GoodL 0 l ∧ bh = lastId 0 l ∧ (∀ y ∈ l, y.kp.length ≤ 299000) ∧ (∀ T0, GoodT T0 → encT T0 = s → w_ = true ∧ m18 = T0.la ∧ m22.toNat = T0.l.length ∧ n ≤ T0.l.length ∧ l = T0.l.take n ∧ rs = (T0.l.drop n).flatMap encS)) (fun ((V_, S_, l, rs, w_, bh, n)) => 4 - n) (_, _, [], s22, w22, 0, 0) rfl ⟨(by exact M19), ?_⟩ ?_
  · exact ⟨.nil, by omega, rfl, by omega, by omega, trivial, rfl, fun y hy => by simp at hy, fun T0 g e => by obtain ⟨a, b, c, d⟩ := first_pro R18 R22 g e; exact ⟨a, b, c, Nat.zero_le _, rfl, d⟩⟩
  ·rintro ⟨V_, S_, l, rs, w_, bh, n⟩ h21 ⟨M22, ⟨hO, hn64, hnl, hn4, hrl, hG, hbh, hkp, hP⟩⟩
   replace eL20 := eL20.symm; subst eL20
   refine WC.env [(0, _), (4, _), (5, _), (6, _), (7, _), (8, _), (9, _), (10, _)] rfl ?_
   have hm22 := m22.toNat_lt
   refine G (G (J (C rfl rfl (C rfl rfl ?_))))
   refine WS.lssN (a := n) (b := (m22).toNat) rfl rfl rfl (fun e25 => ?_) (fun e25 => ?_)
   ·
    refine C rfl rfl (C rfl rfl ?_)
    refine WS.lssN (a := n) (b := 4) rfl rfl rfl (fun e28 => ?_) (fun e28 => ?_)
    ·
     refine C rfl rfl (F [(0, _), (4, _), (5, _), (6, _), (7, _), (8, _), (9, _), (10, _), (29, _)] rfl ?_)
     refine WC.condT rfl (WC.skip (G (WC.block (G (J (C rfl rfl ?_))))))
     refine WS.call rfl rfl rfl (number_ran (s := rs) (w := w_) ((M22.focus 3 rfl).focus 3 rfl) (by omega)) ?_
     rintro _ h23 ⟨m33, s33, w33, rfl, M24, L33, R33⟩
     replace M24 : Mem _ _ ([(p1, _)] :: [(p4, _)] :: S_ :: [(p13, _)] :: []) _ := M24
     refine C rfl rfl ?_
     refine WS.call rfl rfl rfl (number_ran (s := s33) (w := w33) ((M24.focus 1 rfl).focus 1 rfl) (by omega)) ?_
     rintro _ h25 ⟨m35, s35, w35, rfl, M26, L35, R35⟩
     replace M26 : Mem _ _ ([(p1, _)] :: [(p4, _)] :: S_ :: [(p13, _)] :: []) _ := M26
     refine C rfl rfl ?_
     refine WS.call rfl rfl rfl (number_ran (s := s35) (w := w35) ((M26.focus 1 rfl).focus 1 rfl) (by omega)) ?_
     rintro _ h27 ⟨m37, s37, w37, rfl, M28, L37, R37⟩
     replace M28 : Mem _ _ ([(p1, _)] :: [(p4, _)] :: S_ :: [(p13, _)] :: []) _ := M28
     refine C rfl rfl ?_
     refine WS.call rfl rfl rfl (number_ran (s := s37) (w := w37) ((M28.focus 1 rfl).focus 1 rfl) (by omega)) ?_
     rintro _ h29 ⟨m39, s39, w39, rfl, M30, L39, R39⟩
     replace M30 : Mem _ _ ([(p1, _)] :: [(p4, _)] :: S_ :: [(p13, _)] :: []) _ := M30
     refine WS.opV (.agg #[(.int .u64 (((m33).toNat : Nat) : Int)), (.int .u64 (((m35).toNat : Nat) : Int)), (.int .u64 (((m37).toNat : Nat) : Int)), (.int .u64 (((m39).toNat : Nat) : Int)), (.string (bs ([])))]) rfl rfl rfl ?_
     refine WS.new M30 rfl ?_
     intro p31 h32 M33
     refine WS.st1 (M33.focus 0 rfl) [_, _, _, _, _] [_, _, _, _, _] rfl rfl rfl rfl rfl (D rfl) (D rfl) rfl rfl ?_
     intro h34 M35
     replace M35 : Mem _ _ ([(p31, _)] :: [(p1, _)] :: [(p4, _)] :: S_ :: [(p13, _)] :: []) _ := M35
     refine F [(0, _), (4, _), (5, _), (6, _), (7, _), (8, _), (9, _), (10, _), (11, _)] rfl ?_
     refine G (J (C rfl (op_ld (M35.at 1 rfl) rfl rfl) ?_))
     refine WS.call rfl rfl rfl (num_ReadS_ran M35.here (l := s39) (by first | omega | (simp only [List.length_drop, List.length_take, List.length_append, List.length_cons, List.length_nil, List.length_singleton]; omega) | (simp only [List.length_drop, List.length_take, List.length_append, List.length_cons, List.length_nil, List.length_singleton] at *; omega))) ?_
     rintro _ h36 ⟨rfl, N37⟩
     have M38 := M35.trans N37
     refine C rfl rfl (C rfl rfl (C rfl rfl (C rfl rfl (C rfl rfl (C rfl rfl (C rfl rfl (F [(0, _), (4, _), (5, _), (6, _), (7, _), (8, _), (9, _), (10, _), (11, _), (12, _), (13, _), (14, _)] rfl ?_)))))))
     refine G (WC.draw M38 [] rfl ?_)
     intro rb40 h41 M42
     refine C rfl rfl (C rfl (op_ld (M42.at 1 rfl) rfl rfl) (C rfl rfl (C rfl (op_slS0 (l := s39) (rsK s39) rfl rfl (by exact rsK_le s39)) (C rfl rfl ?_))))
     refine WS.st1 (M42.focus 0 rfl) [_] [_, _, _, _, _] rfl rfl rfl rfl rfl (D rfl) (D rfl) rfl rfl ?_
     intro h43 M44
     replace M44 : Mem _ _ ([(p31, _)] :: [(p1, _)] :: [(p4, _)] :: S_ :: [(p13, _)] :: []) _ := M44
     refine WS.chk rfl (op_ld (M44.at 1 rfl) rfl rfl) rfl (sameV_refl rfl) ?_
     refine WS.st1 (M44.focus 1 rfl) [_] [_] rfl rfl rfl rfl rfl (D rfl) (D rfl) rfl rfl ?_
     intro h45 M46
     replace M46 : Mem _ _ ([(p1, _)] :: [(p31, _)] :: [(p4, _)] :: S_ :: [(p13, _)] :: []) _ := M46
     refine F [(0, _), (4, _), (5, _), (6, _), (7, _), (8, _), (9, _), (10, _), (11, _), (14, _)] rfl ?_
     refine G (G (J ?_))
     have hstep : ∀ T0, GoodT T0 → encT T0 = s → n < T0.l.length ∧ rsOK s39 = true ∧ RightS (⟨m33, m35, m37, m39, rsT s39⟩ : Ses) bh ∧ w39 = true ∧ True ∧ True ∧ (w39 = true ∧ m18 = T0.la ∧ m22.toNat = T0.l.length ∧ n + 1 ≤ T0.l.length ∧ (l ++ [(⟨m33, m35, m37, m39, rsT s39⟩ : Ses)]) = T0.l.take (n + 1) ∧ s39.drop (rsK s39) = (T0.l.drop (n + 1)).flatMap encS) := by
       intro T0 g e
       obtain ⟨x1, x2, x3, x4, x5, x6⟩ := hP T0 g e
       have hn : n < T0.l.length := by omega
       obtain ⟨y0, hy0⟩ : ∃ y0, T0.l[n]? = some y0 := ⟨_, List.getElem?_eq_getElem hn⟩
       have hr := goodL_get g.1 hy0
       rw [← x5, ← hbh] at hr
       have hkr := kept_right hr
       rw [drop_encS hy0] at x6
       have hkl : (keptOf y0).length < 18446744073709551616 := by
         have := congrArg List.length x6
         simp only [List.length_append, encS, sb] at this
         omega
       obtain ⟨a1, a2, a3, a4, a5, a6, a7, a8⟩ := step_pro R33 R35 R37 R39 x6 hkl
       have ey : (⟨m33, m35, m37, m39, rsT s39⟩ : Ses) = y0 := by rw [a2, a3, a4, a5, a6, hkr]
       exact ⟨hn, a7, by rw [ey]; exact hr, by rw [a1, x1], trivial, trivial, by rw [a1, x1], x2, x3, by omega, by rw [ey, x5, List.take_add_one, hy0]; rfl, a8⟩
     refine C rfl rfl ?_
     cases hb1 : (rsOK s39)
     ·
      refine WS.opV (.bool true) rfl rfl rfl (C rfl rfl (U rfl (U rfl (WS.offC rfl (U rfl (C rfl rfl (F [(0, _), (4, _), (5, _), (6, _), (7, _), (8, _), (10, _), (11, _), (59, _)] rfl ?_)))))))
      refine WC.condT rfl (G (J (C rfl rfl (C rfl rfl (F [(2, _), (3, _)] rfl ?_)))))
      refine WC.ret (⟨[_, _], (res_tmp rfl (res_tmp rfl res_nil)), ?_⟩)
      exact .inr ⟨rfl, fun T0 g e => by
        obtain ⟨x1, x2, x3, _⟩ := hstep T0 g e
        first
        | exact absurd x2 (by rw [show rsOK s39 = false by assumption]; decide)
        | exact absurd (hR57.2 x3) (by rw [show g57 = false by assumption]; decide), M46.bare.bare.take 0⟩
     ·
      refine WS.opV (.bool false) rfl rfl rfl (C rfl rfl (C rfl (op_lds [_, _, _, _, _] (M46.bare.at 1 rfl) rfl (D rfl) rfl) (C rfl rfl ?_)))
      refine WS.call rfl rfl rfl (right_ran M46.bare.here (y := (⟨m33, m35, m37, m39, (rsT s39)⟩ : Ses)) (b := bh) (by have := rsT_le s39; show (rsT s39).length ≤ _; omega)) ?_
      rintro _ h47 ⟨g57, rfl, hR57, N48⟩
      have M49 := M46.bare.trans N48
      cases hb2 : g57
      ·
       refine WS.opV (.bool true) rfl rfl rfl (C rfl rfl (F [(0, _), (4, _), (5, _), (6, _), (7, _), (8, _), (10, _), (11, _), (59, _)] rfl ?_))
       refine WC.condT rfl (G (J (C rfl rfl (C rfl rfl (F [(2, _), (3, _)] rfl ?_)))))
       refine WC.ret (⟨[_, _], (res_tmp rfl (res_tmp rfl res_nil)), ?_⟩)
       exact .inr ⟨rfl, fun T0 g e => by
         obtain ⟨x1, x2, x3, _⟩ := hstep T0 g e
         first
         | exact absurd x2 (by rw [show rsOK s39 = false by assumption]; decide)
         | exact absurd (hR57.2 x3) (by rw [show g57 = false by assumption]; decide), M49.bare.take 0⟩
      ·
       refine WS.opV (.bool false) rfl rfl rfl (C rfl rfl (F [(0, _), (4, _), (5, _), (6, _), (7, _), (8, _), (10, _), (11, _), (59, _)] rfl ?_))
       refine WC.condF rfl (WC.skip (G (WC.draw M49 [6] rfl ?_)))
       intro rb50 h51 M52
       refine C rfl rfl (C rfl rfl (C rfl rfl (C rfl rfl (C rfl (op_ld (M52.at 4 rfl) rfl rfl) (C rfl (op_lds [_, _, _, _, _] (M52.at 1 rfl) rfl (D rfl) rfl) ?_)))))
       refine WS.bslA M52 [_, _, _, _, _] 0 rfl rfl rfl rfl rfl ?_
       intro h54 M55
       refine WS.appG (l := l) (m := [(⟨m33, m35, m37, m39, rsT s39⟩ : Ses)]) hO (M55.focus 4 rfl) (Row.Src.one (K := KSes) (m := [(⟨m33, m35, m37, m39, rsT s39⟩ : Ses)]) (M55.at 0 rfl)) (by simp) rfl (by simp only [List.length_cons, List.length_nil]; omega) (by simp only [List.length_cons, List.length_nil]; omega) rfl rfl rfl ?_
       intro V56 S57 h58 O59 M60
       replace M60 : Mem _ _ (S57 :: [((rb50 + 6), _)] :: [(p1, _)] :: [(p31, _)] :: [(p4, _)] :: [(p13, _)] :: []) _ := M60
       refine C rfl rfl (C rfl rfl ?_)
       refine WS.st1 (M60.focus 5 rfl) [_] [_, _] rfl rfl rfl (Row.Grow.one O59).1 rfl (D rfl) (D rfl) (by simp only [List.all_cons, List.all_nil, Bool.and_true]; exact (Row.Grow.one O59).2) rfl ?_
       intro h61 M62
       replace M62 : Mem _ _ ([(p13, _)] :: S57 :: [((rb50 + 6), _)] :: [(p1, _)] :: [(p31, _)] :: [(p4, _)] :: []) _ := M62
       refine F [(0, _), (4, _), (5, _), (6, _), (7, _), (8, _), (10, _), (11, _)] rfl ?_
       refine J (C rfl rfl (C rfl (op_ld (M62.bare.at 4 rfl) rfl rfl) (C rfl rfl (F [(0, _), (4, _), (5, _), (6, _), (7, _), (8, _), (9, _), (10, _)] rfl ?_))))
       refine J (C rfl rfl (WS.opV (.int .u64 (((n + 1) : Nat) : Int)) rfl rfl (add_u64 (a := n) (b := 1) (by have := hn64; omega)) (C rfl rfl (F [(0, _), (4, _), (5, _), (6, _), (7, _), (8, _), (9, _), (10, _)] rfl ?_))))
       refine ⟨(V56, S57, (l ++ [(⟨m33, m35, m37, m39, rsT s39⟩ : Ses)]), _, _, m33, n + 1), rfl, ⟨(((((M62.bare.bare.focus 5 rfl).focus 4 rfl).focus 2 rfl).focus 3 rfl).take 4), ?_⟩, ?_⟩
       · exact ⟨O59, by omega, by simp [hnl], by omega, by rw [List.length_drop]; omega, goodL_app hG (by rw [← hbh]; exact hR57.1 (by assumption)), by rw [lastId_app], (fun y hy => by rcases List.mem_append.1 hy with q | q; exact hkp y q; (rw [List.mem_singleton] at q; subst q; have := rsT_le s39; show (rsT s39).length ≤ _; omega)), fun T0 g e => by obtain ⟨x1, x2, x3, x4, x5, x6, x7⟩ := hstep T0 g e; exact x7⟩
       · simp only []; omega
    ·
     refine C rfl rfl (F [(0, _), (4, _), (5, _), (6, _), (7, _), (8, _), (9, _), (10, _), (29, _)] rfl ?_)
     refine WC.condF rfl (WC.exit ?_)
     refine G (G (J (C rfl (op_ld (M22.at 3 rfl) rfl rfl) ?_)))
     cases hb3 : w_
     ·
      refine WS.opV (.bool true) rfl rfl rfl (C rfl rfl (U rfl (U rfl (U rfl (U rfl (U rfl (U rfl (C rfl rfl (C rfl rfl ?_)))))))))
      refine U rfl (WS.offC rfl (U rfl (U rfl (C rfl rfl (F [(7, _), (87, _)] rfl ?_)))))
      refine WC.condT rfl (G (J (C rfl rfl (C rfl rfl (F [(2, _), (3, _)] rfl ?_)))))
      refine WC.ret (⟨[_, _], (res_tmp rfl (res_tmp rfl res_nil)), ?_⟩)
      have hfin : ∀ T0, GoodT T0 → encT T0 = s → w_ = true ∧ bh.toNat ≤ m18.toNat ∧ (⟨l, m18⟩ : Tab) = T0 := by
        intro T0 g e
        obtain ⟨x1, x2, x3, x4, x5, x6⟩ := hP T0 g e
        have hl4 := g.2.2
        have hll : l = T0.l := by rw [x5, List.take_of_length_le (by omega)]
        have ht : (⟨l, m18⟩ : Tab) = T0 := by rw [hll, x2]
        exact ⟨x1, by rw [hbh, hll, x2]; exact g.2.1, ht⟩
      exact .inr ⟨rfl, fun T0 g e => by
        obtain ⟨x1, x2, x3⟩ := hfin T0 g e
        first
        | exact absurd x1 (by rw [show w_ = false by assumption]; decide)
        | (exfalso; omega)
        | (rw [← x3] at e; exact absurd e (by assumption)), M22.bare.take 0⟩
     ·
      refine WS.opV (.bool false) rfl rfl rfl (C rfl rfl (C rfl rfl (C rfl rfl (C rfl rfl (C rfl rfl (C rfl (op_ld (M22.at 1 rfl) rfl rfl) ?_))))))
      refine WS.gtrN (a := (bh).toNat) (b := (m18).toNat) rfl rfl rfl (fun e80 => ?_) (fun e80 => ?_)
      ·
       refine C rfl rfl (C rfl rfl (U rfl (WS.offC rfl (U rfl (U rfl (C rfl rfl (F [(7, _), (87, _)] rfl ?_)))))))
       refine WC.condT rfl (G (J (C rfl rfl (C rfl rfl (F [(2, _), (3, _)] rfl ?_)))))
       refine WC.ret (⟨[_, _], (res_tmp rfl (res_tmp rfl res_nil)), ?_⟩)
       have hfin : ∀ T0, GoodT T0 → encT T0 = s → w_ = true ∧ bh.toNat ≤ m18.toNat ∧ (⟨l, m18⟩ : Tab) = T0 := by
         intro T0 g e
         obtain ⟨x1, x2, x3, x4, x5, x6⟩ := hP T0 g e
         have hl4 := g.2.2
         have hll : l = T0.l := by rw [x5, List.take_of_length_le (by omega)]
         have ht : (⟨l, m18⟩ : Tab) = T0 := by rw [hll, x2]
         exact ⟨x1, by rw [hbh, hll, x2]; exact g.2.1, ht⟩
       exact .inr ⟨rfl, fun T0 g e => by
         obtain ⟨x1, x2, x3⟩ := hfin T0 g e
         first
         | exact absurd x1 (by rw [show w_ = false by assumption]; decide)
         | (exfalso; omega)
         | (rw [← x3] at e; exact absurd e (by assumption)), M22.bare.take 0⟩
      ·
       refine C rfl rfl (C rfl rfl (C rfl rfl ?_))
       refine WS.call rfl rfl rfl (Write_ran (T := (⟨l, m18⟩ : Tab)) hO ((M22.focus 1 rfl).focus 1 rfl) (by show l.length ≤ 1000; omega) (by exact hkp)) ?_
       rintro _ h63 ⟨rfl, M64⟩
       replace M64 : Mem _ _ (S_ :: [(p13, _)] :: [(p1, _)] :: [(p4, _)] :: []) _ := M64
       refine C rfl rfl ?_
       refine WS.sneq (l := (encT (⟨l, m18⟩ : Tab))) (m := s) rfl rfl rfl (fun e86 => ?_) (fun e86 => ?_)
       ·
        refine C rfl rfl (F [(7, _), (87, _)] rfl ?_)
        refine WC.condT rfl (G (J (C rfl rfl (C rfl rfl (F [(2, _), (3, _)] rfl ?_)))))
        refine WC.ret (⟨[_, _], (res_tmp rfl (res_tmp rfl res_nil)), ?_⟩)
        have hfin : ∀ T0, GoodT T0 → encT T0 = s → w_ = true ∧ bh.toNat ≤ m18.toNat ∧ (⟨l, m18⟩ : Tab) = T0 := by
          intro T0 g e
          obtain ⟨x1, x2, x3, x4, x5, x6⟩ := hP T0 g e
          have hl4 := g.2.2
          have hll : l = T0.l := by rw [x5, List.take_of_length_le (by omega)]
          have ht : (⟨l, m18⟩ : Tab) = T0 := by rw [hll, x2]
          exact ⟨x1, by rw [hbh, hll, x2]; exact g.2.1, ht⟩
        exact .inr ⟨rfl, fun T0 g e => by
          obtain ⟨x1, x2, x3⟩ := hfin T0 g e
          first
          | exact absurd x1 (by rw [show w_ = false by assumption]; decide)
          | (exfalso; omega)
          | (rw [← x3] at e; exact absurd e (by assumption)), M64.bare.take 0⟩
       ·
        refine C rfl rfl (F [(7, _), (87, _)] rfl ?_)
        refine WC.condF rfl (WC.skip (G (J (C rfl rfl (C rfl rfl (C rfl rfl (F [(2, _), (3, _)] rfl ?_)))))))
        refine WC.ret (⟨[_, _], (res_tmp rfl (res_tmp rfl res_nil)), ?_⟩)
        have hfin : ∀ T0, GoodT T0 → encT T0 = s → w_ = true ∧ bh.toNat ≤ m18.toNat ∧ (⟨l, m18⟩ : Tab) = T0 := by
          intro T0 g e
          obtain ⟨x1, x2, x3, x4, x5, x6⟩ := hP T0 g e
          have hl4 := g.2.2
          have hll : l = T0.l := by rw [x5, List.take_of_length_le (by omega)]
          have ht : (⟨l, m18⟩ : Tab) = T0 := by rw [hll, x2]
          exact ⟨x1, by rw [hbh, hll, x2]; exact g.2.1, ht⟩
        exact .inl ⟨_, _, _, ⟨l, m18⟩, rfl, hO, ⟨hG, by rw [← hbh]; show bh.toNat ≤ m18.toNat; omega, by show l.length ≤ 4; omega⟩, by assumption, (fun T0 g e => (hfin T0 g e).2.2), hkp, (((M64.bare.focus 1 rfl).focus 1 rfl).take 2)⟩
   ·
    refine C rfl rfl (U rfl (U rfl (C rfl rfl (F [(0, _), (4, _), (5, _), (6, _), (7, _), (8, _), (9, _), (10, _), (29, _)] rfl ?_))))
    refine WC.condF rfl (WC.exit ?_)
    refine G (G (J (C rfl (op_ld (M22.at 3 rfl) rfl rfl) ?_)))
    cases hb3 : w_
    ·
     refine WS.opV (.bool true) rfl rfl rfl (C rfl rfl (U rfl (U rfl (U rfl (U rfl (U rfl (U rfl (C rfl rfl (C rfl rfl ?_)))))))))
     refine U rfl (WS.offC rfl (U rfl (U rfl (C rfl rfl (F [(7, _), (87, _)] rfl ?_)))))
     refine WC.condT rfl (G (J (C rfl rfl (C rfl rfl (F [(2, _), (3, _)] rfl ?_)))))
     refine WC.ret (⟨[_, _], (res_tmp rfl (res_tmp rfl res_nil)), ?_⟩)
     have hfin : ∀ T0, GoodT T0 → encT T0 = s → w_ = true ∧ bh.toNat ≤ m18.toNat ∧ (⟨l, m18⟩ : Tab) = T0 := by
       intro T0 g e
       obtain ⟨x1, x2, x3, x4, x5, x6⟩ := hP T0 g e
       have hl4 := g.2.2
       have hll : l = T0.l := by rw [x5, List.take_of_length_le (by omega)]
       have ht : (⟨l, m18⟩ : Tab) = T0 := by rw [hll, x2]
       exact ⟨x1, by rw [hbh, hll, x2]; exact g.2.1, ht⟩
     exact .inr ⟨rfl, fun T0 g e => by
       obtain ⟨x1, x2, x3⟩ := hfin T0 g e
       first
       | exact absurd x1 (by rw [show w_ = false by assumption]; decide)
       | (exfalso; omega)
       | (rw [← x3] at e; exact absurd e (by assumption)), M22.bare.take 0⟩
    ·
     refine WS.opV (.bool false) rfl rfl rfl (C rfl rfl (C rfl rfl (C rfl rfl (C rfl rfl (C rfl rfl (C rfl (op_ld (M22.at 1 rfl) rfl rfl) ?_))))))
     refine WS.gtrN (a := (bh).toNat) (b := (m18).toNat) rfl rfl rfl (fun e80 => ?_) (fun e80 => ?_)
     ·
      refine C rfl rfl (C rfl rfl (U rfl (WS.offC rfl (U rfl (U rfl (C rfl rfl (F [(7, _), (87, _)] rfl ?_)))))))
      refine WC.condT rfl (G (J (C rfl rfl (C rfl rfl (F [(2, _), (3, _)] rfl ?_)))))
      refine WC.ret (⟨[_, _], (res_tmp rfl (res_tmp rfl res_nil)), ?_⟩)
      have hfin : ∀ T0, GoodT T0 → encT T0 = s → w_ = true ∧ bh.toNat ≤ m18.toNat ∧ (⟨l, m18⟩ : Tab) = T0 := by
        intro T0 g e
        obtain ⟨x1, x2, x3, x4, x5, x6⟩ := hP T0 g e
        have hl4 := g.2.2
        have hll : l = T0.l := by rw [x5, List.take_of_length_le (by omega)]
        have ht : (⟨l, m18⟩ : Tab) = T0 := by rw [hll, x2]
        exact ⟨x1, by rw [hbh, hll, x2]; exact g.2.1, ht⟩
      exact .inr ⟨rfl, fun T0 g e => by
        obtain ⟨x1, x2, x3⟩ := hfin T0 g e
        first
        | exact absurd x1 (by rw [show w_ = false by assumption]; decide)
        | (exfalso; omega)
        | (rw [← x3] at e; exact absurd e (by assumption)), M22.bare.take 0⟩
     ·
      refine C rfl rfl (C rfl rfl (C rfl rfl ?_))
      refine WS.call rfl rfl rfl (Write_ran (T := (⟨l, m18⟩ : Tab)) hO ((M22.focus 1 rfl).focus 1 rfl) (by show l.length ≤ 1000; omega) (by exact hkp)) ?_
      rintro _ h65 ⟨rfl, M66⟩
      replace M66 : Mem _ _ (S_ :: [(p13, _)] :: [(p1, _)] :: [(p4, _)] :: []) _ := M66
      refine C rfl rfl ?_
      refine WS.sneq (l := (encT (⟨l, m18⟩ : Tab))) (m := s) rfl rfl rfl (fun e86 => ?_) (fun e86 => ?_)
      ·
       refine C rfl rfl (F [(7, _), (87, _)] rfl ?_)
       refine WC.condT rfl (G (J (C rfl rfl (C rfl rfl (F [(2, _), (3, _)] rfl ?_)))))
       refine WC.ret (⟨[_, _], (res_tmp rfl (res_tmp rfl res_nil)), ?_⟩)
       have hfin : ∀ T0, GoodT T0 → encT T0 = s → w_ = true ∧ bh.toNat ≤ m18.toNat ∧ (⟨l, m18⟩ : Tab) = T0 := by
         intro T0 g e
         obtain ⟨x1, x2, x3, x4, x5, x6⟩ := hP T0 g e
         have hl4 := g.2.2
         have hll : l = T0.l := by rw [x5, List.take_of_length_le (by omega)]
         have ht : (⟨l, m18⟩ : Tab) = T0 := by rw [hll, x2]
         exact ⟨x1, by rw [hbh, hll, x2]; exact g.2.1, ht⟩
       exact .inr ⟨rfl, fun T0 g e => by
         obtain ⟨x1, x2, x3⟩ := hfin T0 g e
         first
         | exact absurd x1 (by rw [show w_ = false by assumption]; decide)
         | (exfalso; omega)
         | (rw [← x3] at e; exact absurd e (by assumption)), M66.bare.take 0⟩
      ·
       refine C rfl rfl (F [(7, _), (87, _)] rfl ?_)
       refine WC.condF rfl (WC.skip (G (J (C rfl rfl (C rfl rfl (C rfl rfl (F [(2, _), (3, _)] rfl ?_)))))))
       refine WC.ret (⟨[_, _], (res_tmp rfl (res_tmp rfl res_nil)), ?_⟩)
       have hfin : ∀ T0, GoodT T0 → encT T0 = s → w_ = true ∧ bh.toNat ≤ m18.toNat ∧ (⟨l, m18⟩ : Tab) = T0 := by
         intro T0 g e
         obtain ⟨x1, x2, x3, x4, x5, x6⟩ := hP T0 g e
         have hl4 := g.2.2
         have hll : l = T0.l := by rw [x5, List.take_of_length_le (by omega)]
         have ht : (⟨l, m18⟩ : Tab) = T0 := by rw [hll, x2]
         exact ⟨x1, by rw [hbh, hll, x2]; exact g.2.1, ht⟩
       exact .inl ⟨_, _, _, ⟨l, m18⟩, rfl, hO, ⟨hG, by rw [← hbh]; show bh.toNat ≤ m18.toNat; omega, by show l.length ≤ 4; omega⟩, by assumption, (fun T0 g e => (hfin T0 g e).2.2), hkp, (((M66.bare.focus 1 rfl).focus 1 rfl).take 2)⟩
end Go.Proofs.Ytomaijljeacpjaa.Wt
namespace Go.Proofs.Ytomaijljeacpjaa.Wt
open Go Go.Proofs.Ytomaijljeacpjaa.Am Go.Proofs.Ytomaijljeacpjaa.IrAll
set_option linter.unusedVariables false
set_option linter.unusedSimpArgs false
structure RSes where
  id : UInt64
  tt : UInt64
  lf : UInt64
  sq : UInt64
  rc : UInt8
  rn : UInt64
  rv : List UInt8
  rr : List Rrow
  rrp : Option Addr × Nat
def RSes.cells (x : RSes) : List Value := [(.int .u64 (((x.id).toNat : Nat) : Int)), (.int .u64 (((x.tt).toNat : Nat) : Int)), (.int .u64 (((x.lf).toNat : Nat) : Int)), (.int .u64 (((x.sq).toNat : Nat) : Int)), (.int .u8 (((x.rc).toNat : Nat) : Int)), (.int .u64 (((x.rn).toNat : Nat) : Int)), (.string (bs x.rv)), (.slice x.rrp.1 x.rr.length x.rrp.2)]
def KRSes : Row RSes := ⟨RSes.cells, 8, fun _ => rfl, by decide, fun _ => rfl⟩
variable {h base : H} {L : List Seg} {R : List Nat}
def RSes.res (y : RSes) : Res := ⟨y.rc, y.rn, y.rv, y.rr⟩
def RSes.sv (y : RSes) : Value := .slice y.rrp.1 y.rr.length y.rrp.2
structure RTab where
  l : List RSes
  la : UInt64
theorem take_snocA {α : Type} {l : List α} {i : Nat} {y : α} (h : l[i]? = some y) : l.take (i + 1) = l.take i ++ [y] := by rw [List.take_add_one, h]; rfl
def encRS (y : RSes) : List UInt8 := vb y.id.toNat ++ (vb y.tt.toNat ++ (vb y.lf.toNat ++ vb y.sq.toNat)) ++ sb (encR y.res)
def encRT (T : RTab) : List UInt8 := vb T.la.toNat ++ vb T.l.length ++ T.l.flatMap encRS
set_option maxRecDepth 8000 in
theorem refWrite18_ran (W : Mem h h [] []) {V : Value} {T : RTab} (A : KRSes.Sl h V T.l) (hQ : ∀ y ∈ T.l, KRrow.Sl h y.sv y.rr) (hl : T.l.length ≤ 1000) (hk : ∀ y ∈ T.l, (encR y.res).length ≤ 299000 ∧ FitRes y.res) : Cll tab0 24 [.agg #[V, .int .u64 ((T.la.toNat : Nat) : Int)]] h (fun v h2 => v = .string (bs (encRT T)) ∧ Mem h h2 [] []) := by
  obtain ⟨Pv, nv, rfl⟩ := A.shape
  have hla := T.la.toNat_lt
  have w1 := vb_len (n := T.la.toNat) (by omega)
  have w2 := vb_len (n := T.l.length) (by omega)
  refine Cll.code rfl rfl ?_
  refine WC.env [(0, _)] rfl ?_
  refine WC.seq (WC.run (WS.box W [_, _] rfl rfl rfl rfl ?_))
  intro p1 h2 M3
  refine WS.op rfl rfl (WS.nil [(1, _)] rfl ?_)
  refine WC.seq (WC.run (WS.op rfl rfl (WS.op rfl (op_ld (M3.at 0 rfl) rfl rfl) (WS.op rfl rfl (WS.op rfl (op_ld (M3.at 0 rfl) rfl rfl) (WS.op rfl (op_lenVS A rfl) (WS.opV (.int .u64 (((T.l).length : Nat) : Int)) rfl rfl (cv_u64 (n := (T.l).length) (by omega)) ?_)))))))
  refine WS.bsl M3 [_, _] rfl rfl rfl rfl ?_
  intro p4 h5 M6
  refine WS.call rfl rfl rfl (ref_V_ran M6.here (Row.Sl.own (K := KNat) (l := [(T.la).toNat, (T.l).length]) (M6.at 0 rfl)) (by intro n hn; simp only [List.mem_cons, List.mem_nil_iff, or_false] at hn; omega) (by simp) (r := ((vb ((T.la).toNat)) ++ (vb ((T.l).length)))) (by simp [List.flatMap])) ?_
  rintro _ h7 ⟨rfl, N8⟩
  have M9 := M6.trans N8
  refine WS.op rfl rfl (WS.nil [(1, _), (3, _)] rfl ?_)
  refine WC.seq (WC.seq (WC.run (WS.op rfl rfl (WS.nil [(1, _), (3, _), (4, _)] rfl ?_))))
  refine WC.block ?_
  obtain ⟨L10, eL12, M11⟩ := Mem.name M9.bare
  refine WC.loop (σ := List UInt8 × Nat) (fun ((out, i)) => [(1, (.pointer (some ⟨p1, 0, none⟩))), (3, (.string (bs out))), (4, (.int .i64 ((i : Nat) : Int)))]) (fun ((out, i)) hh => Mem h hh (L10) [] ∧ out = (vb T.la.toNat ++ vb T.l.length) ++ (T.l.take i).flatMap encRS ∧ i ≤ T.l.length ∧ out.length ≤ 20 + 300000 * i) (fun ((out, i)) => T.l.length - i) (((vb ((T.la).toNat)) ++ (vb ((T.l).length))), 0) rfl ⟨M11, ?_⟩ ?_
  · exact ⟨by simp, by omega, by simp only [List.length_append]; omega⟩
  ·rintro ⟨out, i⟩ h13 ⟨M14, ⟨hE, hi1, hol⟩⟩
   replace eL12 := eL12.symm; subst eL12
   refine WC.env [(1, _), (3, _), (4, _)] rfl ?_
   refine WC.seq (WC.seq (WC.run (WS.op rfl rfl (WS.op rfl rfl (WS.op rfl (op_ld (M14.at 1 rfl) rfl rfl) (WS.op rfl (op_lenVS A rfl) ?_))))))
   refine WS.lssN (a := i) (b := (T.l).length) rfl rfl rfl (fun e18 => ?_) (fun e18 => ?_)
   ·
    refine WS.nil [(1, _), (3, _), (4, _), (18, _)] rfl ?_
    refine WC.condT rfl (WC.skip (WC.seq (WC.block (WC.seq (WC.run (WS.op rfl rfl (WS.op rfl (op_ld (M14.at 1 rfl) rfl rfl) (WS.op rfl rfl ?_))))))))
    obtain ⟨y24, hy24⟩ : ∃ y, (T.l)[i]? = some y := ⟨_, List.getElem?_eq_getElem (show i < (T.l).length by first | omega | (simp only [List.length_drop, List.length_take, List.length_append, List.length_cons, List.length_nil, List.length_singleton]; omega) | (simp only [List.length_drop, List.length_take, List.length_append, List.length_cons, List.length_nil, List.length_singleton] at *; omega))⟩
    refine WS.iaVS A i hy24 rfl rfl rfl rfl ?_
    intro b24_ o24_ ha24
    refine WS.op rfl (op_ldAt rfl (ha24.mono M14.sub) rfl) ?_
    refine WS.new M14 rfl ?_
    intro p15 h16 M17
    refine WS.st1 (M17.focus 0 rfl) [_, _, _, _, _, _, _, _] [_, _, _, _, _, _, _, _] rfl rfl rfl rfl rfl (Nat.le_of_ble_eq_true rfl) (Nat.le_of_ble_eq_true rfl) rfl rfl ?_
    intro h18 M19
    replace M19 : Mem _ _ ([(p15, _)] :: [(p4, _)] :: [(p1, _)] :: []) _ := M19
    refine WS.nil [(1, _), (3, _), (4, _), (5, _)] rfl ?_
    refine WC.draw M19 [9, 15] rfl ?_
    intro rb20 h21 M22
    have t0 := hk _ (List.mem_of_getElem? hy24)
    have tk : (encR ⟨y24.rc, y24.rn, y24.rv, y24.rr⟩).length ≤ 299000 := t0.1
    have t1 := sb_len (t := encR ⟨y24.rc, y24.rn, y24.rv, y24.rr⟩) (by omega)
    have t2 := vb_len y24.id.toNat_lt
    have t3 := vb_len y24.tt.toNat_lt
    have t4 := vb_len y24.lf.toNat_lt
    have t5 := vb_len y24.sq.toNat_lt
    have t6 := y24.id.toNat_lt
    have t7 := y24.tt.toNat_lt
    have t8 := y24.lf.toNat_lt
    have t9 := y24.sq.toNat_lt
    refine WS.op rfl rfl (WS.op rfl rfl (WS.op rfl (op_ld (M22.at 0 rfl) rfl rfl) (WS.op rfl rfl (WS.op rfl (op_ld (M22.at 0 rfl) rfl rfl) (WS.op rfl rfl (WS.op rfl (op_ld (M22.at 0 rfl) rfl rfl) (WS.op rfl rfl (WS.op rfl (op_ld (M22.at 0 rfl) rfl rfl) (WS.op rfl rfl ?_)))))))))
    refine WS.op rfl (op_lds [_, _, _, _] (M22.at 0 rfl) rfl (Nat.le_of_ble_eq_true rfl) rfl) ?_
    refine WS.bslA M22 [_, _, _, _] 0 rfl rfl rfl rfl rfl ?_
    intro h24 M25
    refine WS.call rfl rfl rfl (ref_V_ran M25.here (Row.Sl.own (K := KNat) (l := [(y24.id).toNat, (y24.tt).toNat, (y24.lf).toNat, (y24.sq).toNat]) (M25.at 0 rfl)) (by intro n hn; simp only [List.mem_cons, List.mem_nil_iff, or_false] at hn; omega) (by simp) (r := ((vb ((y24.id).toNat)) ++ (vb ((y24.tt).toNat)) ++ (vb ((y24.lf).toNat)) ++ (vb ((y24.sq).toNat)))) (by simp [List.flatMap])) ?_
    rintro _ h26 ⟨rfl, N27⟩
    have M28 := M25.trans N27
    refine WS.chk rfl (op_lds [_, _, _, _] (M28.at 1 rfl) rfl (Nat.le_of_ble_eq_true rfl) rfl) rfl (same_agg rfl) (WS.op rfl (op_sadd (l := out) (m := ((vb ((y24.id).toNat)) ++ (vb ((y24.tt).toNat)) ++ (vb ((y24.lf).toNat)) ++ (vb ((y24.sq).toNat)))) rfl rfl (by first | omega | (simp only [List.length_append, List.length_cons, List.length_nil]; omega))) ?_)
    refine WS.call rfl rfl rfl (refWriteR_ran M28.here (r := (⟨y24.rc, y24.rn, y24.rv, y24.rr⟩ : Res)) ((hQ _ (List.mem_of_getElem? hy24)).mono M28.sub) (by exact t0.2)) ?_
    rintro _ h29 ⟨rfl, N30⟩
    have M31 := M28.trans N30
    refine WS.bslA M31 [_] 0 rfl rfl rfl rfl rfl ?_
    intro h33 M34
    refine WS.call rfl rfl rfl (ref_S_ran M34.here (Row.Sl.own (K := KStr) (l := [(encR (⟨y24.rc, y24.rn, y24.rv, y24.rr⟩ : Res))]) (M34.at 0 rfl)) (by simp only [List.map_cons, List.map_nil, List.sum_cons, List.sum_nil, List.length_cons, List.length_nil]; omega) (r := (sb (encR (⟨y24.rc, y24.rn, y24.rv, y24.rr⟩ : Res)))) (by simp [List.flatMap])) ?_
    rintro _ h35 ⟨rfl, N36⟩
    have M37 := M34.trans N36
    refine WS.op rfl (op_sadd (l := (out ++ ((vb ((y24.id).toNat)) ++ (vb ((y24.tt).toNat)) ++ (vb ((y24.lf).toNat)) ++ (vb ((y24.sq).toNat))))) (m := (sb (encR (⟨y24.rc, y24.rn, y24.rv, y24.rr⟩ : Res)))) rfl rfl (by first | omega | (simp only [List.length_append, List.length_cons, List.length_nil]; omega))) (WS.op rfl rfl (WS.nil [(1, _), (3, _), (4, _)] rfl ?_))
    refine WC.run (WS.op rfl rfl (WS.opV (.int .i64 (((i + 1) : Nat) : Int)) rfl rfl (add_i64 (a := i) (b := 1) (by omega)) (WS.op rfl rfl (WS.nil [(1, _), (3, _), (4, _)] rfl ?_))))
    refine ⟨(((out ++ ((vb ((y24.id).toNat)) ++ (vb ((y24.tt).toNat)) ++ (vb ((y24.lf).toNat)) ++ (vb ((y24.sq).toNat)))) ++ (sb (encR (⟨y24.rc, y24.rn, y24.rv, y24.rr⟩ : Res)))), i + 1), rfl, ⟨(((M37.bare.bare.focus 4 rfl).focus 4 rfl).take 2), ?_⟩, ?_⟩
    · exact ⟨by rw [take_snocA hy24, List.flatMap_append, hE]; simp [encRS, RSes.res], by omega, by simp only [List.length_append, List.length_cons, List.length_nil]; omega⟩
    · simp only []; omega
   ·
    refine WS.nil [(1, _), (3, _), (4, _), (18, _)] rfl ?_
    refine WC.condF rfl (WC.exit ?_)
    refine WC.seq (WC.run (WS.op rfl rfl (WS.op rfl rfl (WS.nil [(2, _)] rfl ?_))))
    refine WC.ret (⟨[_], (res_tmp rfl res_nil), ?_⟩)
    rw [List.take_of_length_le (by omega)] at hE
    exact ⟨by rw [hE]; rfl, M14.bare.take 0⟩
end Go.Proofs.Ytomaijljeacpjaa.Wt
namespace Go.Proofs.Ytomaijljeacpjaa.Wt
open Go Go.Proofs.Ytomaijljeacpjaa.Am Go.Proofs.Ytomaijljeacpjaa.IrAll
set_option linter.unusedVariables false
set_option linter.unusedSimpArgs false
def normS (y : Ses) : Ses := { y with kp := keptOf y }
def norm (T : Tab) : Tab := ⟨T.l.map normS, T.la⟩
theorem encR_inj {a b : Res} (ha : FitRes a) (hb : FitRes b) (h : encR a = encR b) : a = b := (encR_pf a b [] [] ha hb (by rw [h])).1
def Ok1 (y : Ses) : Prop := 1 ≤ y.lf.toNat ∧ y.lf.toNat ≤ y.tt.toNat ∧ y.kp.length ≤ 12000 ∧ (y.sq.toNat ≠ 0 → ∃ r, FitRes r ∧ encR r = y.kp)
def ids (l : List Ses) : List Nat := l.map fun y => y.id.toNat
def Inv (k : Nat) (T : Tab) : Prop := T.l.length ≤ 4 ∧ T.la.toNat ≤ k ∧ (ids T.l).Pairwise (· < ·) ∧ (∀ y ∈ T.l, Ok1 y) ∧ ∀ n ∈ ids T.l, 1 ≤ n ∧ n ≤ T.la.toNat
end Go.Proofs.Ytomaijljeacpjaa.Wt
namespace Go.Proofs.Ytomaijljeacpjaa.Wt
open Go Go.Proofs.Ytomaijljeacpjaa.Am Go.Proofs.Ytomaijljeacpjaa.IrAll
set_option linter.unusedVariables false
set_option linter.unusedSimpArgs false
variable {h base : H} {L : List Seg} {R : List Nat}
theorem awake18_ran (W : Mem h h [] []) : Cll tab0 10 [] h (fun v h2 => v = .bool true ∧ Mem h h2 [] []) := ⟨_, h, awake_run h, rfl, W⟩
def one (tu : UInt64) (n : Nat) : Tab := ⟨if n < tu.toNat then [⟨1, tu, UInt64.ofNat (tu.toNat - n), 0, []⟩] else [], 1⟩
end Go.Proofs.Ytomaijljeacpjaa.Wt
namespace Go.Proofs.Ytomaijljeacpjaa.Wt
open Go Go.Proofs.Ytomaijljeacpjaa.Am Go.Proofs.Ytomaijljeacpjaa.IrAll
set_option linter.unusedVariables false
set_option linter.unusedSimpArgs false
variable {h : H}
def toS (z : RSes) : Ses := ⟨z.id, z.tt, z.lf, z.sq, encR z.res⟩
def TS (W : RTab) : Tab := ⟨W.l.map toS, W.la⟩
def Q1 (h : H) (z : RSes) : Prop := FitRes z.res ∧ (encR z.res).length ≤ 12000 ∧ (z.sq.toNat = 0 → z.res = zeroR) ∧ KRrow.Sl h z.sv z.rr
def QW (h : H) (W : RTab) : Prop := ∀ z ∈ W.l, Q1 h z
def Rel (h : H) (k : Nat) (T : Tab) (W : RTab) : Prop := Inv k T ∧ norm T = TS W ∧ QW h W
end Go.Proofs.Ytomaijljeacpjaa.Wt
namespace Go.Proofs.Ytomaijljeacpjaa.Wt
open Go Go.Proofs.Ytomaijljeacpjaa.Am Go.Proofs.Ytomaijljeacpjaa.IrAll
open Nat renaming le_of_ble_eq_true → C
open Go.Proofs.Ytomaijljeacpjaa.Am.WS renaming op → D
open Go.Proofs.Ytomaijljeacpjaa.Am.WS renaming off → F
open List renaming length_drop → G
open List renaming length_cons → J
open List renaming length_nil → U
open List renaming length_singleton → X
open List renaming length_append → Y
open Go.Proofs.Ytomaijljeacpjaa.Am.WS renaming nil → AQ
open List renaming length_take → AX
open Go.Proofs.Ytomaijljeacpjaa.Am.WC renaming seq → AZ
open Go.Proofs.Ytomaijljeacpjaa.Am.WC renaming run → BQ
open Go.Proofs.Ytomaijljeacpjaa.Am.WS renaming opV → BX
set_option linter.unusedVariables false
set_option linter.unusedSimpArgs false
variable {h base : H} {L : List Seg} {R : List Nat}
def vbU (c : UInt64) : List UInt8 := vb c.toNat
theorem flatU_split : ∀ {ns c : List UInt64} {x t : List UInt8}, ns.length ≤ c.length → ns.flatMap vbU ++ x = c.flatMap vbU ++ t → ns = c.take ns.length ∧ x = (c.drop ns.length).flatMap vbU ++ t := by
  intro ns
  induction ns with
  | nil => intro c x t _ h; exact ⟨rfl, h⟩
  | cons a ns ih =>
    intro c x t hl h
    cases c with
    | nil => simp at hl
    | cons b c =>
      simp only [List.flatMap_cons, List.append_assoc] at h
      obtain ⟨rfl, h2⟩ := n64c h
      obtain ⟨i1, i2⟩ := ih (by simpa using hl) h2
      exact ⟨by simp only [J, List.take_succ_cons]; rw [← i1], i2⟩
theorem getV_flat {s : List UInt8} {c : List UInt64} {i : Nat} {t : List UInt8} {n : UInt64} (h : s = (c.drop i).flatMap vbU ++ t) (hn : c[i]? = some n) : s = vb n.toNat ++ ((c.drop (i + 1)).flatMap vbU ++ t) := by
  obtain ⟨hi, rfl⟩ := List.getElem?_eq_some_iff.1 hn
  rw [h, List.drop_eq_getElem_cons hi, List.flatMap_cons, List.append_assoc]; rfl
theorem rv_snd {s : List UInt8} (h : rvOK s = true) : s = vbU (UInt64.ofNat (rvN s)) ++ s.drop (rvK s) := by
  have e1 := (getV_some (show getV s = some (rvN s, rvK s) by rw [getV_eq, h]; rfl)).1
  unfold vbU
  rw [n64 (rvN_lt s)]; exact e1
set_option maxRecDepth 8000 in
theorem take_ran (W : Mem h h [] []) {s : List UInt8} {at0 n : Nat} (hl : s.length ≤ 1000000) (ha : at0 ≤ s.length) (hn : n ≤ 100) : Cll tab0 43 [.string (bs s), .int .i64 (at0 : Int), .int .i64 (n : Int)] h (fun v h2 => (v = .tuple #[.slice none 0 0, .int .i64 (-1)] ∧ (∀ (c : List UInt64) t, c.length = n → s.drop at0 ≠ c.flatMap vbU ++ t) ∧ Mem h h2 [] []) ∨ (∃ V S ns at1, KU64.Own V ns S ∧ v = .tuple #[V, .int .i64 ((at1 : Nat) : Int)] ∧ ns.length = n ∧ at1 ≤ s.length ∧ s.drop at0 = ns.flatMap vbU ++ s.drop at1 ∧ Mem h h2 [S] [])) := by
  refine Cll.code rfl rfl ?_
  refine WC.env [(0, _), (1, _), (2, _)] rfl ?_
  refine AZ (BQ (D rfl rfl (D rfl rfl (AQ [(0, _), (1, _), (2, _)] rfl ?_))))
  refine AZ (BQ (D rfl rfl (AQ [(0, _), (1, _), (2, _), (8, _)] rfl ?_)))
  refine AZ (AZ (BQ (D rfl rfl (AQ [(0, _), (1, _), (2, _), (8, _), (9, _)] rfl ?_))))
  refine WC.block ?_
  obtain ⟨L1, eL3, M2⟩ := Mem.name1 ((W.bare).nils)
  refine WC.loop (σ := Value × Seg × List UInt64 × Nat × Nat) (fun ((V_, S_, ns, at_, i)) => [(0, (.string (bs s))), (1, (.int .i64 ((at_ : Nat) : Int))), (2, (.int .i64 ((n : Nat) : Int))), (8, V_), (9, (.int .i64 ((i : Nat) : Int)))]) (fun ((V_, S_, ns, at_, i)) hh => Mem h hh (S_ :: L1) [] ∧ KU64.Own V_ ns S_ ∧ ns.length = i ∧ i ≤ n ∧ at_ ≤ s.length ∧ s.drop at0 = ns.flatMap vbU ++ s.drop at_) (fun ((V_, S_, ns, at_, i)) => n - i) (_, _, [], at0, 0) rfl ⟨M2, ?_⟩ ?_
  · exact ⟨.nil, rfl, by omega, ha, rfl⟩
  ·rintro ⟨V_, S_, ns, at_, i⟩ h4 ⟨M5, ⟨hO, hnl, hi, hat, hE⟩⟩
   replace eL3 := eL3.symm; subst eL3
   refine WC.env [(0, _), (1, _), (2, _), (8, _), (9, _)] rfl ?_
   obtain ⟨P_, rfl⟩ := hO.shape
   refine AZ (AZ (BQ (D rfl rfl (D rfl rfl ?_))))
   refine WS.lssN (a := i) (b := n) rfl rfl rfl (fun e15 => ?_) (fun e15 => ?_)
   ·
    refine AQ [(0, _), (1, _), (2, _), (8, _), (9, _), (15, _)] rfl ?_
    refine WC.condT rfl (WC.skip (AZ (WC.block (AZ (BQ (D rfl rfl (D rfl rfl (D rfl (op_slS0 (l := s) at_ rfl rfl (by omega)) ?_))))))))
    refine WS.call rfl rfl rfl (ref_ReadV_ran M5.here (l := ((s).drop at_)) (by first | omega | (simp only [G, AX, Y, J, U, X]; omega) | (simp only [G, AX, Y, J, U, X] at *; omega))) ?_
    rintro _ h6 ⟨rfl, N7⟩
    have M8 := M5.trans N7
    refine D rfl rfl (BX (.int .u64 (((UInt64.ofNat (rvN ((s).drop at_))).toNat : Nat) : Int)) rfl rfl (u64_ofNat (n := (rvN ((s).drop at_))) (by have := rvN_lt ((s).drop at_); omega)) (D rfl rfl (D rfl rfl (D rfl rfl (D rfl rfl (D rfl rfl (AQ [(0, _), (1, _), (2, _), (8, _), (9, _), (10, _), (11, _), (12, _)] rfl ?_)))))))
    refine AZ (AZ (BQ (D rfl rfl ?_)))
    cases hb1 : (rvOK ((s).drop at_))
    ·
     refine BX (.bool true) rfl rfl rfl (AQ [(0, _), (1, _), (2, _), (8, _), (9, _), (10, _), (11, _), (27, _)] rfl ?_)
     refine WC.condT rfl (AZ (BQ (D rfl rfl (D rfl rfl (AQ [(6, _), (7, _)] rfl ?_)))))
     refine WC.ret (⟨[_, _], (res_tmp rfl (res_tmp rfl res_nil)), ?_⟩)
     have hno : ∀ (c : List UInt64) t, c.length = n → s.drop at0 ≠ c.flatMap vbU ++ t := by
       intro c t hc e
       have e2 := (flatU_split (by omega) (hE.symm.trans e)).2
       obtain ⟨y, hy⟩ : ∃ y, c[ns.length]? = some y := ⟨_, List.getElem?_eq_getElem (show ns.length < c.length by omega)⟩
       have := (rv_of (getV_flat e2 hy)).2.1
       rw [show rvOK (s.drop at_) = false by assumption] at this
       cases this
     exact .inl ⟨rfl, hno, M8.bare.take 0⟩
    ·
     refine BX (.bool false) rfl rfl rfl (AQ [(0, _), (1, _), (2, _), (8, _), (9, _), (10, _), (11, _), (27, _)] rfl ?_)
     refine WC.condF rfl (WC.skip (AZ (BQ (D rfl rfl (D rfl rfl ?_)))))
     refine WS.bsl M8 [_] rfl rfl rfl rfl ?_
     intro p10 h11 M12
     refine WS.app (l := ns) (m := [UInt64.ofNat (rvN (s.drop at_))]) (hO) (M12.focus 1 rfl) (Row.Src.one (K := KU64) (m := [UInt64.ofNat (rvN (s.drop at_))]) (M12.at 0 rfl)) rfl (by simp only [J, U]; omega) (by simp only [J, U]; omega) rfl rfl rfl ?_
     intro V13 S14 h15 O16 M17
     obtain ⟨P18, rfl⟩ := Row.Own.shape O16
     refine D rfl rfl (AQ [(0, _), (1, _), (2, _), (8, _), (9, _), (11, _)] rfl ?_)
     refine BQ (D rfl rfl (D rfl rfl (BX (.int .i64 (((at_ + (rvK ((s).drop at_))) : Nat) : Int)) rfl rfl (add_i64 (a := at_) (b := (rvK ((s).drop at_))) (by have := rvK_le ((s).drop at_); have := rvK_le (s.drop at_); omega)) (D rfl rfl (AQ [(0, _), (1, _), (2, _), (8, _), (9, _)] rfl ?_)))))
     refine BQ (D rfl rfl (BX (.int .i64 (((i + 1) : Nat) : Int)) rfl rfl (add_i64 (a := i) (b := 1) (by omega)) (D rfl rfl (AQ [(0, _), (1, _), (2, _), (8, _), (9, _)] rfl ?_))))
     refine ⟨((.slice P18 ((ns ++ [UInt64.ofNat (rvN (s.drop at_))])).length (2 * ((ns ++ [UInt64.ofNat (rvN (s.drop at_))])).length)), S14, (ns ++ [UInt64.ofNat (rvN (s.drop at_))]), (at_ + (rvK ((s).drop at_))), i + 1), rfl, ⟨((M17.bare.focus 0 rfl).take 1), ?_⟩, ?_⟩
     · exact ⟨O16, by simp [hnl], by omega, by have := (rvK_le (s.drop at_)).1; rw [G] at this; omega, by (have e2 := rv_snd (s := s.drop at_) (by assumption)); rw [hE, List.flatMap_append, List.append_assoc]; congr 1; rw [List.drop_drop] at e2; simpa using e2⟩
     · simp only []; omega
   ·
    refine AQ [(0, _), (1, _), (2, _), (8, _), (9, _), (15, _)] rfl ?_
    refine WC.condF rfl (WC.exit ?_)
    refine AZ (BQ (D rfl rfl (D rfl rfl (D rfl rfl (D rfl rfl (AQ [(6, _), (7, _)] rfl ?_))))))
    refine WC.ret (⟨[_, _], (res_tmp rfl (res_tmp rfl res_nil)), ?_⟩)
    exact .inr ⟨_, _, ns, at_, hO, rfl, by omega, hat, hE, ((M5.bare.focus 0 rfl).take 1)⟩
def HQ (S : Seg) (l : List RSes) : Prop := ∀ z ∈ l, ∀ hh : H, (∀ p ∈ S, hh.get p.1 = some p.2) → KRrow.Sl hh z.sv z.rr
def OkRS (z : RSes) : Prop := FitRes z.res ∧ (encR z.res).length ≤ 299000
theorem right_toS {z : RSes} {b : UInt64} (h1 : FitRes z.res) (h2 : z.sq.toNat = 0 → z.res = zeroR) (h3 : b.toNat < z.id.toNat) (h4 : 1 ≤ z.lf.toNat) (h5 : z.lf.toNat ≤ z.tt.toNat) : RightS (toS z) b :=
  ⟨⟨z.res, h1, rfl⟩, fun q => by show encR z.res = _; rw [h2 q], h3, h4, h5⟩
theorem lastId_get : ∀ {l : List RSes} {b : UInt64} {y : RSes}, l[l.length - 1]? = some y → lastId b (l.map toS) = y.id := by
  intro l
  induction l with
  | nil => intro b y h; simp at h
  | cons x l ih =>
    intro b y h
    cases l with
    | nil => simp at h; subst h; rfl
    | cons z l => exact ih (b := x.id) (by simpa using h)
theorem id_pos : ∀ {l : List Ses} {b : UInt64}, GoodL b l → b.toNat ≤ (lastId b l).toNat := by
  intro l
  induction l with
  | nil => intro b _; exact Nat.le_refl _
  | cons x l ih => intro b h; have := ih h.2; have := h.1.2.2.1; unfold lastId; omega
theorem encS_flat (y : Ses) (t : List UInt8) : encS y ++ t = [y.id, y.tt, y.lf, y.sq].flatMap vbU ++ (sb (keptOf y) ++ t) := by
  simp [encS, vbU, List.flatMap_cons]
theorem four {l : List UInt64} {a b c d : UInt64} (h : l.length = 4) (h0 : l[0]? = some a) (h1 : l[1]? = some b) (h2 : l[2]? = some c) (h3 : l[3]? = some d) : l = [a, b, c, d] := by
  match l, h with
  | [x, y, z, w], _ => simp at h0 h1 h2 h3; subst h0 h1 h2 h3; rfl
theorem flat_inj {ns c : List UInt64} {x t : List UInt8} (hl : ns.length = c.length) (h : ns.flatMap vbU ++ x = c.flatMap vbU ++ t) : ns = c ∧ x = t := by
  obtain ⟨h1, h2⟩ := flatU_split (by omega) h
  rw [List.take_of_length_le (by omega)] at h1
  rw [List.drop_eq_nil_of_le (by omega)] at h2
  exact ⟨h1, h2⟩
theorem rs_snd {s : List UInt8} (h : rsOK s = true) : s = sb (rsT s) ++ s.drop (rsK s) := (getS_some (show getS s = some (rsT s, rsK s) by rw [getS_eq, h]; rfl)).1
theorem two_1 {l : List UInt64} {b : UInt64} (h : l.length = 2) (h1 : l[1]? = some b) : ∃ a, l = [a, b] := by
  match l, h with
  | [x, y], _ => simp at h1; subst h1; exact ⟨x, rfl⟩
theorem enc_two {T : Tab} (g : GoodT T) : encT T = [T.la, UInt64.ofNat T.l.length].flatMap vbU ++ T.l.flatMap encS := by
  have := g.2.2
  simp [encT, vbU, n64 (show T.l.length < 18446744073709551616 by omega)]
theorem first2 {s x : List UInt8} {a b : UInt64} (he : s = [a, b].flatMap vbU ++ x) {T : Tab} (g : GoodT T) (e : encT T = s) : a = T.la ∧ b.toNat = T.l.length ∧ x = T.l.flatMap encS := by
  have h4 := g.2.2
  rw [enc_two g, he] at e
  obtain ⟨h1, h2⟩ := flat_inj (by rfl) e
  simp only [List.cons.injEq, and_true] at h1
  exact ⟨h1.1.symm, by rw [← h1.2]; exact n64 (by omega), h2.symm⟩
theorem id_le : ∀ {l : List Ses} {b : UInt64} {n : Nat} {y : Ses}, GoodL b l → l[n]? = some y → y.id.toNat ≤ (lastId b l).toNat := by
  intro l
  induction l with
  | nil => intro b n y _ h; simp at h
  | cons x l ih =>
    intro b n y h h2
    cases n with
    | zero => simp at h2; subst h2; exact id_pos h.2
    | succ n => exact ih h.2 (by simpa using h2)
theorem kept_len {s x t : List UInt8} {y : Ses} (h : x ++ (sb (keptOf y) ++ t) = s) (hl : s.length ≤ 4000) : (keptOf y).length < 18446744073709551616 := by
  have := congrArg List.length h
  simp only [Y, sb] at this
  omega
theorem step_ref {s : List UInt8} {at_ at1 n : Nat} {a b c d la : UInt64} {r : Res} {ok : Bool} {l : List RSes} {T : Tab} (hl : s.length ≤ 4000) (he : s.drop at_ = [a, b, c, d].flatMap vbU ++ s.drop at1) (hC : RdR (rsT (s.drop at1)) r ok) (hF : FitRes r) (g : GoodT T) (hla : la = T.la) (x3 : l.map toS = T.l.take n) (x4 : s.drop at_ = (T.l.drop n).flatMap encS) (hn : n < T.l.length) :
    ok = true ∧ 1 ≤ c.toNat ∧ c.toNat ≤ b.toNat ∧ 1 ≤ a.toNat ∧ a.toNat ≤ la.toNat ∧ (lastId 0 (l.map toS)).toNat < a.toNat ∧ (d.toNat = 0 → r = zeroR) ∧ l.map toS ++ [(⟨a, b, c, d, encR r⟩ : Ses)] = T.l.take (n + 1) ∧ s.drop (at1 + rsK (s.drop at1)) = (T.l.drop (n + 1)).flatMap encS := by
  obtain ⟨y0, hy0⟩ : ∃ y, T.l[n]? = some y := ⟨_, List.getElem?_eq_getElem hn⟩
  have hr := goodL_get g.1 hy0
  have hkr := kept_right hr
  rw [drop_encS hy0, encS_flat] at x4
  have hkl : (keptOf y0).length < 18446744073709551616 := kept_len x4.symm (by rw [G]; omega)
  rw [he] at x4
  obtain ⟨e1, e2⟩ := flat_inj (by rfl) x4
  simp only [List.cons.injEq, and_true] at e1
  obtain ⟨rfl, rfl, rfl, rfl⟩ := e1
  obtain ⟨f1, f2, f3⟩ := rs_of hkl e2
  rw [f1, hkr] at hC
  obtain ⟨⟨r0, k1, k2⟩, k3, k4, k5, k6⟩ := hr
  rw [← k2] at hC
  obtain ⟨q1, q2⟩ := rd_self encR_pf k1 (hC.rd hF)
  subst q2
  have hid := id_le g.1 hy0
  have hla2 := g.2.1
  refine ⟨q1, k5, k6, by omega, by rw [hla]; omega, by rw [x3]; exact k4, fun q => encR_inj k1 fitR0 (by rw [k2]; exact k3 q), ?_, ?_⟩
  · rw [x3, k2, List.take_add_one, hy0]; rfl
  · rw [← f3, List.drop_drop]
theorem hq_app {S1 S2 : Seg} {l : List RSes} {z : RSes} (h : HQ S2 l) (hz : ∀ hh : H, (∀ p ∈ S1 ++ S2, hh.get p.1 = some p.2) → KRrow.Sl hh z.sv z.rr) : HQ (S1 ++ S2) (l ++ [z]) := by
  intro y hy hh q
  rcases List.mem_append.1 hy with w | w
  · exact h y w hh (fun p hp => q p (List.mem_append_right _ hp))
  · rw [List.mem_singleton] at w; subst w; exact hz hh q
theorem eq_step {s x : List UInt8} {at_ at1 : Nat} {l : List RSes} {z : RSes} (h : s = x ++ l.flatMap encRS ++ s.drop at_) (he : s.drop at_ = [z.id, z.tt, z.lf, z.sq].flatMap vbU ++ s.drop at1) (hr : rsOK (s.drop at1) = true) (hz : encR z.res = rsT (s.drop at1)) : s = x ++ (l ++ [z]).flatMap encRS ++ s.drop (at1 + rsK (s.drop at1)) := by
  have e2 := rs_snd hr
  rw [List.drop_drop] at e2
  conv => lhs; rw [h, he, e2]
  simp [encRS, vbU, hz]
set_option maxRecDepth 8000 in
theorem refReadT_ran (W : Mem h h [] []) {s : List UInt8} (hl : s.length ≤ 4000) : Cll tab0 25 [.string (bs s)] h (fun v h2 => ∃ V S SR w ok, KRSes.Own V (RTab.l w) S ∧ HQ SR w.l ∧ (∀ z ∈ w.l, OkRS z) ∧ w.l.length ≤ 4 ∧ v = .tuple #[.agg #[V, .int .u64 ((w.la.toNat : Nat) : Int)], .bool ok] ∧ (ok = true → GoodT (TS w) ∧ encRT w = s) ∧ (ok = false → ∀ T0, GoodT T0 → encT T0 ≠ s) ∧ Mem h h2 [S, SR] []) := by
  refine Cll.code rfl rfl ?_
  refine WC.env [(0, _)] rfl ?_
  refine AZ (BQ (WS.new W rfl ?_))
  intro p1 h2 M3
  refine D rfl rfl (AQ [(0, _), (2, _)] rfl ?_)
  refine AZ (BQ (D rfl rfl ?_))
  refine WS.call rfl rfl rfl (take_ran M3.here (s := s) (at0 := 0) (n := 2) (by omega) (by omega) (by omega)) ?_
  rintro _ h4 (⟨rfl, hN17, N5⟩ | ⟨V7, S8, ns17, at17, O9, rfl, hl17, ha17, he17, N5⟩)
  ·
   have M6 := M3.trans N5
   refine D rfl rfl (D rfl rfl (D rfl rfl (D rfl rfl (D rfl rfl (AQ [(0, _), (2, _), (4, _), (5, _)] rfl ?_)))))
   refine AZ (AZ (BQ (D rfl rfl (BX (.bool true) rfl rfl rfl (D rfl rfl (F rfl (F rfl (F rfl (F rfl (D rfl rfl (AQ [(0, _), (2, _), (4, _), (5, _), (27, _)] rfl ?_)))))))))))
   refine WC.condT rfl (AZ (BQ (BX (.agg #[(.slice none 0 0), (.int .u64 (0 : Int))]) rfl rfl rfl ?_)))
   refine WS.st1 (M6.focus 0 rfl) [_, _] [_, _] rfl rfl rfl rfl rfl (C rfl) (C rfl) rfl rfl ?_
   intro h11 M12
   replace M12 : Mem _ _ ([(p1, _)] :: []) _ := M12
   refine D rfl rfl (AQ [(2, _), (3, _)] rfl ?_)
   refine WC.ret (⟨[_, _], (res_cellN [_, _] rfl (M12.at 0 rfl) (C rfl) rfl (res_tmp rfl res_nil)), ?_⟩)
   have hno : ∀ T0, GoodT T0 → encT T0 ≠ s := by
     intro T0 g e
     exact hN17 _ _ rfl (by rw [List.drop_zero, ← e]; exact enc_two g)
   exact ⟨.slice none 0 0, [], [], ⟨[], 0⟩, false, .nil, fun z hz => by simp at hz, fun z hz => by simp at hz, by simp, rfl, fun q => (nomatch q), fun _ => hno, ((M12.bare.take 0).nils).nils⟩
  ·
   obtain ⟨P10, rfl⟩ := O9.shape
   have M6 := M3.trans N5
   replace M6 : Mem _ _ (S8 :: [(p1, _)] :: []) _ := M6
   refine D rfl rfl (D rfl rfl (D rfl rfl (D rfl rfl (D rfl rfl (AQ [(0, _), (2, _), (4, _), (5, _)] rfl ?_)))))
   refine AZ (AZ (BQ (D rfl rfl ?_)))
   refine WS.lssN (a := at17) (b := 0) rfl rfl rfl (fun e21 => ?_) (fun e21 => ?_)
   ·
    exact absurd e21 (by omega)
   ·
    refine D rfl rfl (D rfl rfl ?_)
    obtain ⟨y24, hy24⟩ : ∃ y, (ns17)[1]? = some y := ⟨_, List.getElem?_eq_getElem (show 1 < (ns17).length by first | omega | (simp only [G, AX, Y, J, U, X]; omega) | (simp only [G, AX, Y, J, U, X] at *; omega))⟩
    refine WS.iaVS (Row.Own.sl O9 (Mem.owni M6 0 rfl)) 1 hy24 rfl rfl rfl rfl ?_
    intro b24_ o24_ ha24
    refine D rfl (op_ldH rfl (At.ld0 ha24 rfl)) ?_
    obtain ⟨a17, hns⟩ := two_1 hl17 hy24
    rw [hns, List.drop_zero] at he17
    refine WS.gtrN (a := (y24).toNat) (b := 4) rfl rfl rfl (fun e26 => ?_) (fun e26 => ?_)
    ·
     refine D rfl rfl (AQ [(0, _), (2, _), (4, _), (5, _), (27, _)] rfl ?_)
     refine WC.condT rfl (AZ (BQ (BX (.agg #[(.slice none 0 0), (.int .u64 (0 : Int))]) rfl rfl rfl ?_)))
     refine WS.st1 (M6.focus 1 rfl) [_, _] [_, _] rfl rfl rfl rfl rfl (C rfl) (C rfl) rfl rfl ?_
     intro h13 M14
     replace M14 : Mem _ _ ([(p1, _)] :: S8 :: []) _ := M14
     refine D rfl rfl (AQ [(2, _), (3, _)] rfl ?_)
     refine WC.ret (⟨[_, _], (res_cellN [_, _] rfl (M14.at 0 rfl) (C rfl) rfl (res_tmp rfl res_nil)), ?_⟩)
     have hno : ∀ T0, GoodT T0 → encT T0 ≠ s := by
       intro T0 g e
       obtain ⟨q1, q2, q3⟩ := first2 he17 g e
       have := g.2.2
       omega
     exact ⟨.slice none 0 0, [], [], ⟨[], 0⟩, false, .nil, fun z hz => by simp at hz, fun z hz => by simp at hz, by simp, rfl, fun q => (nomatch q), fun _ => hno, ((M14.bare.take 0).nils).nils⟩
    ·
     refine D rfl rfl (AQ [(0, _), (2, _), (4, _), (5, _), (27, _)] rfl ?_)
     refine WC.condF rfl (WC.skip (AZ (BQ (D rfl rfl ?_))))
     obtain ⟨y30, hy30⟩ : ∃ y, (ns17)[0]? = some y := ⟨_, List.getElem?_eq_getElem (show 0 < (ns17).length by first | omega | (simp only [G, AX, Y, J, U, X]; omega) | (simp only [G, AX, Y, J, U, X] at *; omega))⟩
     refine WS.iaVS (Row.Own.sl O9 (Mem.owni M6 0 rfl)) 0 hy30 rfl rfl rfl rfl ?_
     intro b30_ o30_ ha30
     refine D rfl (op_ldH rfl (At.ld0 ha30 rfl)) (BX (.agg #[(.slice none 0 0), (.int .u64 (((y30).toNat : Nat) : Int))]) rfl rfl rfl ?_)
     refine WS.new M6 rfl ?_
     intro p15 h16 M17
     refine WS.st1 (M17.focus 0 rfl) [_, _] [_, _] rfl rfl rfl rfl rfl (C rfl) (C rfl) rfl rfl ?_
     intro h18 M19
     replace M19 : Mem _ _ ([(p15, _)] :: S8 :: [(p1, _)] :: []) _ := M19
     refine AQ [(0, _), (2, _), (4, _), (5, _), (6, _)] rfl ?_
     refine AZ (BQ (D rfl rfl ?_))
     obtain ⟨y34, hy34⟩ : ∃ y, (ns17)[1]? = some y := ⟨_, List.getElem?_eq_getElem (show 1 < (ns17).length by first | omega | (simp only [G, AX, Y, J, U, X]; omega) | (simp only [G, AX, Y, J, U, X] at *; omega))⟩
     refine WS.iaVS (Row.Own.sl O9 (Mem.owni M19 1 rfl)) 1 hy34 rfl rfl rfl rfl ?_
     intro b34_ o34_ ha34
     refine D rfl (op_ldH rfl (At.ld0 ha34 rfl)) ?_
     have hyy : y34 = y24 := Option.some.inj (hy34.symm.trans hy24)
     subst hyy
     rw [hns] at hy30
     have hya : a17 = y30 := by simpa using hy30
     subst hya
     refine BX (.int .i64 (((y34).toNat : Nat) : Int)) rfl rfl (cv_i64 (n := (y34).toNat) (by have := UInt64.toNat_lt (y34); omega)) (D rfl rfl (AQ [(0, _), (2, _), (5, _), (6, _), (7, _)] rfl ?_))
     refine AZ (AZ (BQ (D rfl rfl (AQ [(0, _), (2, _), (5, _), (6, _), (7, _), (8, _)] rfl ?_))))
     refine WC.block ?_
     obtain ⟨L20, eL22, M21⟩ := Mem.name3 ((((M19.bare.focus 0 rfl)).nils).nils)
     refine WC.loop (σ := Value × Seg × Seg × List RSes × Nat × Nat) (fun ((V_, S_, SR_, l, at_, n)) => [(0, (.string (bs s))), (2, (.pointer (some ⟨p1, 0, none⟩))), (5, (.int .i64 ((at_ : Nat) : Int))), (6, (.pointer (some ⟨p15, 0, none⟩))), (7, (.int .i64 (((y34).toNat : Nat) : Int))), (8, (.int .i64 ((n : Nat) : Int)))]) (fun ((V_, S_, SR_, l, at_, n)) hh => Mem h hh (S_ :: SR_ :: [(p15, ⟨[V_, (.int .u64 (((a17).toNat : Nat) : Int))], 0, false⟩)] :: L20) [] ∧ KRSes.Own V_ l S_ ∧ l.length = n ∧ n ≤ y34.toNat ∧ at_ ≤ s.length ∧ HQ SR_ l ∧ (∀ z ∈ l, OkRS z) ∧ s = (vb a17.toNat ++ vb y34.toNat) ++ l.flatMap encRS ++ s.drop at_ ∧ GoodL 0 (l.map toS) ∧ (lastId 0 (l.map toS)).toNat ≤ a17.toNat ∧ (∀ T0, GoodT T0 → encT T0 = s → a17 = T0.la ∧ y34.toNat = T0.l.length ∧ l.map toS = T0.l.take n ∧ s.drop at_ = (T0.l.drop n).flatMap encS)) (fun ((V_, S_, SR_, l, at_, n)) => y34.toNat - n) (_, _, [], [], at17, 0) rfl ⟨(by exact M21), ?_⟩ ?_
     · exact ⟨.nil, rfl, by omega, by omega, fun z hz => by simp at hz, fun z hz => by simp at hz, by rw [List.flatMap_nil, List.append_nil]; exact he17.trans (by simp [vbU]), trivial, Nat.zero_le _, fun T0 g e => by obtain ⟨q1, q2, q3⟩ := first2 he17 g e; exact ⟨q1, q2, rfl, q3⟩⟩
     ·rintro ⟨V_, S_, SR_, l, at_, n⟩ h23 ⟨M24, ⟨hO, hnl, hn, hat, hHQ, hOk, hEq, hG, hLa, hP⟩⟩
      replace eL22 := eL22.symm; subst eL22
      refine WC.env [(0, _), (2, _), (5, _), (6, _), (7, _), (8, _)] rfl ?_
      obtain ⟨P_, rfl⟩ := hO.shape
      refine AZ (AZ (BQ (D rfl rfl (D rfl rfl ?_))))
      refine WS.lssN (a := n) (b := (y34).toNat) rfl rfl rfl (fun e39 => ?_) (fun e39 => ?_)
      ·
       refine AQ [(0, _), (2, _), (5, _), (6, _), (7, _), (8, _), (39, _)] rfl ?_
       refine WC.condT rfl (WC.skip (AZ (WC.block (AZ (BQ (D rfl rfl (D rfl rfl ?_)))))))
       refine WS.call rfl rfl rfl (take_ran M24.here (s := s) (at0 := at_) (n := 4) (by omega) (by omega) (by omega)) ?_
       rintro _ h25 (⟨rfl, hN45, N26⟩ | ⟨V28, S29, ns45, at45, O30, rfl, hl45, ha45, he45, N26⟩)
       ·
        have M27 := M24.trans N26
        refine D rfl rfl (D rfl rfl (D rfl rfl (D rfl rfl (D rfl rfl (AQ [(0, _), (2, _), (4, _), (5, _), (6, _), (7, _), (8, _)] rfl ?_)))))
        refine AZ (AZ (BQ (D rfl rfl (BX (.bool true) rfl rfl rfl (AQ [(0, _), (2, _), (4, _), (5, _), (6, _), (7, _), (8, _), (49, _)] rfl ?_)))))
        refine WC.condT rfl (AZ (BQ (BX (.agg #[(.slice none 0 0), (.int .u64 (0 : Int))]) rfl rfl rfl ?_)))
        refine WS.st1 (M27.focus 4 rfl) [_, _] [_, _] rfl rfl rfl rfl rfl (C rfl) (C rfl) rfl rfl ?_
        intro h32 M33
        replace M33 : Mem _ _ ([(p1, _)] :: S_ :: SR_ :: [(p15, _)] :: S8 :: []) _ := M33
        refine D rfl rfl (AQ [(2, _), (3, _)] rfl ?_)
        refine WC.ret (⟨[_, _], (res_cellN [_, _] rfl (M33.at 0 rfl) (C rfl) rfl (res_tmp rfl res_nil)), ?_⟩)
        have hno : ∀ T0, GoodT T0 → encT T0 ≠ s := by
          intro T0 g e
          obtain ⟨x1, x2, x3, x4⟩ := hP T0 g e
          obtain ⟨y0, hy0⟩ : ∃ y0, T0.l[n]? = some y0 := ⟨_, List.getElem?_eq_getElem (show n < T0.l.length by omega)⟩
          rw [drop_encS hy0, encS_flat] at x4
          exact hN45 _ _ rfl x4
        exact ⟨.slice none 0 0, [], [], ⟨[], 0⟩, false, .nil, fun z hz => by simp at hz, fun z hz => by simp at hz, by simp, rfl, fun q => (nomatch q), fun _ => hno, ((M33.bare.take 0).nils).nils⟩
       ·
        obtain ⟨P31, rfl⟩ := O30.shape
        have M27 := M24.trans N26
        replace M27 : Mem _ _ (S29 :: S_ :: SR_ :: [(p15, _)] :: S8 :: [(p1, _)] :: []) _ := M27
        refine D rfl rfl (D rfl rfl (D rfl rfl (D rfl rfl (D rfl rfl (AQ [(0, _), (2, _), (4, _), (5, _), (6, _), (7, _), (8, _)] rfl ?_)))))
        refine AZ (AZ (BQ (D rfl rfl ?_)))
        refine WS.lssN (a := at45) (b := 0) rfl rfl rfl (fun e49 => ?_) (fun e49 => ?_)
        ·
         exact absurd e49 (by omega)
        ·
         refine AQ [(0, _), (2, _), (4, _), (5, _), (6, _), (7, _), (8, _), (49, _)] rfl ?_
         refine WC.condF rfl (WC.skip (AZ (BQ (D rfl rfl (D rfl rfl (D rfl (op_slS0 (l := s) at45 rfl rfl (by omega)) ?_))))))
         refine WS.call rfl rfl rfl (ref_ReadS_ran M27.here (l := ((s).drop at45)) (by first | omega | (simp only [G, AX, Y, J, U, X]; omega) | (simp only [G, AX, Y, J, U, X] at *; omega))) ?_
         rintro _ h34 ⟨rfl, N35⟩
         have M36 := M27.trans N35
         refine D rfl rfl (D rfl rfl (D rfl rfl (D rfl rfl (D rfl rfl (D rfl rfl (D rfl rfl (AQ [(0, _), (2, _), (4, _), (5, _), (6, _), (7, _), (8, _), (9, _), (10, _), (11, _)] rfl ?_)))))))
         refine AZ (AZ (BQ (D rfl rfl ?_)))
         cases hb1 : (rsOK ((s).drop at45))
         ·
          refine BX (.bool true) rfl rfl rfl (AQ [(0, _), (2, _), (4, _), (5, _), (6, _), (7, _), (8, _), (9, _), (10, _), (60, _)] rfl ?_)
          refine WC.condT rfl (AZ (BQ (BX (.agg #[(.slice none 0 0), (.int .u64 (0 : Int))]) rfl rfl rfl ?_)))
          refine WS.st1 (M36.focus 5 rfl) [_, _] [_, _] rfl rfl rfl rfl rfl (C rfl) (C rfl) rfl rfl ?_
          intro h38 M39
          replace M39 : Mem _ _ ([(p1, _)] :: S29 :: S_ :: SR_ :: [(p15, _)] :: S8 :: []) _ := M39
          refine D rfl rfl (AQ [(2, _), (3, _)] rfl ?_)
          refine WC.ret (⟨[_, _], (res_cellN [_, _] rfl (M39.at 0 rfl) (C rfl) rfl (res_tmp rfl res_nil)), ?_⟩)
          have hno : ∀ T0, GoodT T0 → encT T0 ≠ s := by
            intro T0 g e
            obtain ⟨x1, x2, x3, x4⟩ := hP T0 g e
            obtain ⟨y0, hy0⟩ : ∃ y0, T0.l[n]? = some y0 := ⟨_, List.getElem?_eq_getElem (show n < T0.l.length by omega)⟩
            rw [drop_encS hy0, encS_flat] at x4
            have hkl := kept_len x4.symm (by rw [G]; omega)
            rw [he45] at x4
            have h2 := (rs_of hkl (flat_inj (by rw [hl45]; rfl) x4).2).2.1
            rw [show rsOK (s.drop at45) = false by assumption] at h2
            cases h2
          exact ⟨.slice none 0 0, [], [], ⟨[], 0⟩, false, .nil, fun z hz => by simp at hz, fun z hz => by simp at hz, by simp, rfl, fun q => (nomatch q), fun _ => hno, ((M39.bare.take 0).nils).nils⟩
         ·
          refine BX (.bool false) rfl rfl rfl (AQ [(0, _), (2, _), (4, _), (5, _), (6, _), (7, _), (8, _), (9, _), (10, _), (60, _)] rfl ?_)
          refine WC.condF rfl (WC.skip (AZ (BQ (D rfl rfl (D rfl rfl (BX (.int .i64 (((at45 + (rsK ((s).drop at45))) : Nat) : Int)) rfl rfl (add_i64 (a := at45) (b := (rsK ((s).drop at45))) (by have := rsK_le ((s).drop at45); have := rsK_le (s.drop at45); rw [G] at this; omega)) (D rfl rfl (AQ [(0, _), (2, _), (4, _), (5, _), (6, _), (7, _), (8, _), (9, _)] rfl ?_))))))))
          refine AZ (BQ (D rfl rfl ?_))
          refine WS.call rfl rfl rfl (refReadR_ran M36.here (s := (rsT ((s).drop at45))) (by have := rsT_le (s.drop at45); rw [G] at this; omega)) ?_
          rintro _ h40 ⟨r67, V43, S44, ok67, O45, rfl, hF67, hC67, N41⟩
          obtain ⟨P46, rfl⟩ := O45.shape
          have M42 := M36.trans N41
          have M48 := (M42.focus 3 rfl).focus 1 rfl |>.join
          replace M48 : Mem _ _ ((S44 ++ SR_) :: S29 :: S_ :: [(p15, _)] :: S8 :: [(p1, _)] :: []) _ := M48
          have O47 : ∀ hh : H, (∀ p ∈ (S44 ++ SR_), hh.get p.1 = some p.2) → KRrow.Sl hh (.slice P46 r67.rs.length (2 * r67.rs.length)) r67.rs := fun hh q => Row.Own.sl O45 (fun p hp => q p (List.mem_append_left _ hp))
          refine D rfl rfl (D rfl rfl (D rfl rfl ?_))
          refine WS.new M48 rfl ?_
          intro p49 h50 M51
          refine WS.st1 (M51.focus 0 rfl) [_, _, _, _] [_, _, _, _] rfl rfl rfl rfl rfl (C rfl) (C rfl) rfl rfl ?_
          intro h52 M53
          replace M53 : Mem _ _ ([(p49, _)] :: (S44 ++ SR_) :: S29 :: S_ :: [(p15, _)] :: S8 :: [(p1, _)] :: []) _ := M53
          refine D rfl rfl (AQ [(0, _), (2, _), (4, _), (5, _), (6, _), (7, _), (8, _), (12, _), (13, _)] rfl ?_)
          refine AZ (WC.draw M53 [14] rfl ?_)
          intro rb54 h55 M56
          refine D rfl rfl ?_
          obtain ⟨y71, hy71⟩ : ∃ y, (ns45)[0]? = some y := ⟨_, List.getElem?_eq_getElem (show 0 < (ns45).length by first | omega | (simp only [G, AX, Y, J, U, X]; omega) | (simp only [G, AX, Y, J, U, X] at *; omega))⟩
          refine WS.iaVS (Row.Own.sl O30 (Mem.owni M56 2 rfl)) 0 hy71 rfl rfl rfl rfl ?_
          intro b71_ o71_ ha71
          refine D rfl (op_ldH rfl (At.ld0 ha71 rfl)) (D rfl rfl ?_)
          obtain ⟨y74, hy74⟩ : ∃ y, (ns45)[1]? = some y := ⟨_, List.getElem?_eq_getElem (show 1 < (ns45).length by first | omega | (simp only [G, AX, Y, J, U, X]; omega) | (simp only [G, AX, Y, J, U, X] at *; omega))⟩
          refine WS.iaVS (Row.Own.sl O30 (Mem.owni M56 2 rfl)) 1 hy74 rfl rfl rfl rfl ?_
          intro b74_ o74_ ha74
          refine D rfl (op_ldH rfl (At.ld0 ha74 rfl)) (D rfl rfl ?_)
          obtain ⟨y77, hy77⟩ : ∃ y, (ns45)[2]? = some y := ⟨_, List.getElem?_eq_getElem (show 2 < (ns45).length by first | omega | (simp only [G, AX, Y, J, U, X]; omega) | (simp only [G, AX, Y, J, U, X] at *; omega))⟩
          refine WS.iaVS (Row.Own.sl O30 (Mem.owni M56 2 rfl)) 2 hy77 rfl rfl rfl rfl ?_
          intro b77_ o77_ ha77
          refine D rfl (op_ldH rfl (At.ld0 ha77 rfl)) (D rfl rfl ?_)
          obtain ⟨y80, hy80⟩ : ∃ y, (ns45)[3]? = some y := ⟨_, List.getElem?_eq_getElem (show 3 < (ns45).length by first | omega | (simp only [G, AX, Y, J, U, X]; omega) | (simp only [G, AX, Y, J, U, X] at *; omega))⟩
          refine WS.iaVS (Row.Own.sl O30 (Mem.owni M56 2 rfl)) 3 hy80 rfl rfl rfl rfl ?_
          intro b80_ o80_ ha80
          refine D rfl (op_ldH rfl (At.ld0 ha80 rfl)) (D rfl (op_lds [_, _, _, _] (M56.at 0 rfl) rfl (C rfl) rfl) (BX (.agg #[(.int .u64 (((y71).toNat : Nat) : Int)), (.int .u64 (((y74).toNat : Nat) : Int)), (.int .u64 (((y77).toNat : Nat) : Int)), (.int .u64 (((y80).toNat : Nat) : Int)), (.int .u8 (((r67.cd).toNat : Nat) : Int)), (.int .u64 (((r67.n).toNat : Nat) : Int)), (.string (bs r67.va)), (.slice P46 r67.rs.length (2 * r67.rs.length))]) rfl rfl rfl ?_))
          refine WS.newA M56 0 rfl rfl ?_
          intro h58 M59
          refine WS.st1 (M59.focus 0 rfl) [_, _, _, _, _, _, _, _] [_, _, _, _, _, _, _, _] rfl rfl rfl rfl rfl (C rfl) (C rfl) rfl rfl ?_
          intro h60 M61
          replace M61 : Mem _ _ ([((rb54 + 14), _)] :: [(p49, _)] :: (S44 ++ SR_) :: S29 :: S_ :: [(p15, _)] :: S8 :: [(p1, _)] :: []) _ := M61
          refine AQ [(0, _), (2, _), (5, _), (6, _), (7, _), (8, _), (12, _), (13, _), (14, _)] rfl ?_
          refine AZ (AZ (WC.draw M61.bare [] rfl ?_))
          intro rb62 h63 M64
          have hns45 : ns45 = [y71, y74, y77, y80] := four hl45 hy71 hy74 hy77 hy80
          rw [hns45] at he45
          have hstep : ∀ T0, GoodT T0 → encT T0 = s → _ := fun T0 g e => step_ref (n := n) (l := l) (la := a17) hl he45 hC67 hF67 g (hP T0 g e).1 (hP T0 g e).2.2.1 (hP T0 g e).2.2.2 (by have := (hP T0 g e).2.1; omega)
          refine D rfl rfl ?_
          cases hb2 : ok67
          ·
           refine BX (.bool true) rfl rfl rfl (D rfl rfl (F rfl (F rfl (F rfl (D rfl rfl (D rfl rfl (F rfl (F rfl (F rfl ?_)))))))))
           refine F rfl (F rfl (D rfl rfl (D rfl rfl (F rfl (F rfl (F rfl (D rfl rfl (D rfl rfl (F rfl ?_)))))))))
           refine F rfl (F rfl (F rfl (F rfl (D rfl rfl (D rfl rfl (F rfl (F rfl (F rfl (F rfl ?_)))))))))
           refine F rfl (F rfl (F rfl (F rfl (F rfl (F rfl (F rfl (F rfl (F rfl (F rfl ?_)))))))))
           refine D rfl rfl (D rfl rfl (F rfl (F rfl (F rfl (F rfl (F rfl (F rfl (WS.offC rfl (F rfl ?_)))))))))
           refine F rfl (D rfl rfl (AQ [(0, _), (2, _), (5, _), (6, _), (7, _), (8, _), (14, _), (136, _)] rfl ?_))
           refine WC.condT rfl (AZ (BQ (BX (.agg #[(.slice none 0 0), (.int .u64 (0 : Int))]) rfl rfl rfl ?_)))
           refine WS.st1 (M64.bare.focus 7 rfl) [_, _] [_, _] rfl rfl rfl rfl rfl (C rfl) (C rfl) rfl rfl ?_
           intro h65 M66
           replace M66 : Mem _ _ ([(p1, _)] :: [((rb54 + 14), _)] :: [(p49, _)] :: (S44 ++ SR_) :: S29 :: S_ :: [(p15, _)] :: S8 :: []) _ := M66
           refine D rfl rfl (AQ [(2, _), (3, _)] rfl ?_)
           refine WC.ret (⟨[_, _], (res_cellN [_, _] rfl (M66.at 0 rfl) (C rfl) rfl (res_tmp rfl res_nil)), ?_⟩)
           have hno : ∀ T0, GoodT T0 → encT T0 ≠ s := by
             intro T0 g e
             obtain ⟨q1, q2, q3, q4, q5, q6, q7, q8, q9⟩ := hstep T0 g e
             first
             | omega
             | exact absurd q1 (by rw [show ok67 = false by assumption]; decide)
             | (rw [lastId_get (y := y120) (by rw [hnl]; exact hy120)] at q6; omega)
             | exact absurd (decide_eq_true (show r67 = (⟨0, 0, ([]), []⟩ : Res) from q7 (by assumption))) (by rw [show decide (r67 = (⟨0, 0, ([]), []⟩ : Res)) = false by assumption]; decide)
           exact ⟨.slice none 0 0, [], [], ⟨[], 0⟩, false, .nil, fun z hz => by simp at hz, fun z hz => by simp at hz, by simp, rfl, fun q => (nomatch q), fun _ => hno, ((M66.bare.take 0).nils).nils⟩
          ·
           refine BX (.bool false) rfl rfl rfl (D rfl rfl (D rfl rfl (D rfl (op_ld (M64.at 0 rfl) rfl rfl) ?_)))
           refine WS.lssN (a := (y77).toNat) (b := 1) rfl rfl rfl (fun e89 => ?_) (fun e89 => ?_)
           ·
            refine D rfl rfl (D rfl rfl (F rfl (F rfl (F rfl (F rfl (F rfl (D rfl rfl (D rfl rfl (F rfl ?_)))))))))
            refine F rfl (F rfl (D rfl rfl (D rfl rfl (F rfl (F rfl (F rfl (F rfl (F rfl (D rfl rfl ?_)))))))))
            refine D rfl rfl (F rfl (F rfl (F rfl (F rfl (F rfl (F rfl (F rfl (F rfl (F rfl ?_)))))))))
            refine F rfl (F rfl (F rfl (F rfl (F rfl (D rfl rfl (D rfl rfl (F rfl (F rfl (F rfl ?_)))))))))
            refine F rfl (F rfl (F rfl (WS.offC rfl (F rfl (F rfl (D rfl rfl (AQ [(0, _), (2, _), (5, _), (6, _), (7, _), (8, _), (14, _), (136, _)] rfl ?_)))))))
            refine WC.condT rfl (AZ (BQ (BX (.agg #[(.slice none 0 0), (.int .u64 (0 : Int))]) rfl rfl rfl ?_)))
            refine WS.st1 (M64.bare.focus 7 rfl) [_, _] [_, _] rfl rfl rfl rfl rfl (C rfl) (C rfl) rfl rfl ?_
            intro h67 M68
            replace M68 : Mem _ _ ([(p1, _)] :: [((rb54 + 14), _)] :: [(p49, _)] :: (S44 ++ SR_) :: S29 :: S_ :: [(p15, _)] :: S8 :: []) _ := M68
            refine D rfl rfl (AQ [(2, _), (3, _)] rfl ?_)
            refine WC.ret (⟨[_, _], (res_cellN [_, _] rfl (M68.at 0 rfl) (C rfl) rfl (res_tmp rfl res_nil)), ?_⟩)
            have hno : ∀ T0, GoodT T0 → encT T0 ≠ s := by
              intro T0 g e
              obtain ⟨q1, q2, q3, q4, q5, q6, q7, q8, q9⟩ := hstep T0 g e
              first
              | omega
              | exact absurd q1 (by rw [show ok67 = false by assumption]; decide)
              | (rw [lastId_get (y := y120) (by rw [hnl]; exact hy120)] at q6; omega)
              | exact absurd (decide_eq_true (show r67 = (⟨0, 0, ([]), []⟩ : Res) from q7 (by assumption))) (by rw [show decide (r67 = (⟨0, 0, ([]), []⟩ : Res)) = false by assumption]; decide)
            exact ⟨.slice none 0 0, [], [], ⟨[], 0⟩, false, .nil, fun z hz => by simp at hz, fun z hz => by simp at hz, by simp, rfl, fun q => (nomatch q), fun _ => hno, ((M68.bare.take 0).nils).nils⟩
           ·
            refine D rfl rfl (D rfl rfl (D rfl rfl (D rfl (op_ld (M64.at 0 rfl) rfl rfl) (D rfl rfl (D rfl (op_ld (M64.at 0 rfl) rfl rfl) ?_)))))
            refine WS.gtrN (a := (y77).toNat) (b := (y74).toNat) rfl rfl rfl (fun e96 => ?_) (fun e96 => ?_)
            ·
             refine D rfl rfl (D rfl rfl (F rfl (F rfl (F rfl (D rfl rfl (D rfl rfl (F rfl (F rfl (F rfl ?_)))))))))
             refine F rfl (F rfl (D rfl rfl (D rfl rfl (F rfl (F rfl (F rfl (F rfl (F rfl (F rfl ?_)))))))))
             refine F rfl (F rfl (F rfl (F rfl (F rfl (F rfl (F rfl (F rfl (D rfl rfl (D rfl rfl ?_)))))))))
             refine F rfl (F rfl (F rfl (F rfl (F rfl (F rfl (WS.offC rfl (F rfl (F rfl (D rfl rfl ?_)))))))))
             refine AQ [(0, _), (2, _), (5, _), (6, _), (7, _), (8, _), (14, _), (136, _)] rfl ?_
             refine WC.condT rfl (AZ (BQ (BX (.agg #[(.slice none 0 0), (.int .u64 (0 : Int))]) rfl rfl rfl ?_)))
             refine WS.st1 (M64.bare.focus 7 rfl) [_, _] [_, _] rfl rfl rfl rfl rfl (C rfl) (C rfl) rfl rfl ?_
             intro h69 M70
             replace M70 : Mem _ _ ([(p1, _)] :: [((rb54 + 14), _)] :: [(p49, _)] :: (S44 ++ SR_) :: S29 :: S_ :: [(p15, _)] :: S8 :: []) _ := M70
             refine D rfl rfl (AQ [(2, _), (3, _)] rfl ?_)
             refine WC.ret (⟨[_, _], (res_cellN [_, _] rfl (M70.at 0 rfl) (C rfl) rfl (res_tmp rfl res_nil)), ?_⟩)
             have hno : ∀ T0, GoodT T0 → encT T0 ≠ s := by
               intro T0 g e
               obtain ⟨q1, q2, q3, q4, q5, q6, q7, q8, q9⟩ := hstep T0 g e
               first
               | omega
               | exact absurd q1 (by rw [show ok67 = false by assumption]; decide)
               | (rw [lastId_get (y := y120) (by rw [hnl]; exact hy120)] at q6; omega)
               | exact absurd (decide_eq_true (show r67 = (⟨0, 0, ([]), []⟩ : Res) from q7 (by assumption))) (by rw [show decide (r67 = (⟨0, 0, ([]), []⟩ : Res)) = false by assumption]; decide)
             exact ⟨.slice none 0 0, [], [], ⟨[], 0⟩, false, .nil, fun z hz => by simp at hz, fun z hz => by simp at hz, by simp, rfl, fun q => (nomatch q), fun _ => hno, ((M70.bare.take 0).nils).nils⟩
            ·
             refine D rfl rfl (D rfl rfl (D rfl rfl (D rfl (op_ld (M64.at 0 rfl) rfl rfl) ?_)))
             refine WS.lssN (a := (y71).toNat) (b := 1) rfl rfl rfl (fun e101 => ?_) (fun e101 => ?_)
             ·
              refine D rfl rfl (D rfl rfl (F rfl (F rfl (F rfl (F rfl (F rfl (D rfl rfl (D rfl rfl (F rfl ?_)))))))))
              refine F rfl (F rfl (F rfl (F rfl (F rfl (F rfl (F rfl (F rfl (F rfl (F rfl ?_)))))))))
              refine F rfl (F rfl (F rfl (D rfl rfl (D rfl rfl (F rfl (F rfl (F rfl (F rfl (F rfl ?_)))))))))
              refine F rfl (WS.offC rfl (F rfl (F rfl (D rfl rfl (AQ [(0, _), (2, _), (5, _), (6, _), (7, _), (8, _), (14, _), (136, _)] rfl ?_)))))
              refine WC.condT rfl (AZ (BQ (BX (.agg #[(.slice none 0 0), (.int .u64 (0 : Int))]) rfl rfl rfl ?_)))
              refine WS.st1 (M64.bare.focus 7 rfl) [_, _] [_, _] rfl rfl rfl rfl rfl (C rfl) (C rfl) rfl rfl ?_
              intro h71 M72
              replace M72 : Mem _ _ ([(p1, _)] :: [((rb54 + 14), _)] :: [(p49, _)] :: (S44 ++ SR_) :: S29 :: S_ :: [(p15, _)] :: S8 :: []) _ := M72
              refine D rfl rfl (AQ [(2, _), (3, _)] rfl ?_)
              refine WC.ret (⟨[_, _], (res_cellN [_, _] rfl (M72.at 0 rfl) (C rfl) rfl (res_tmp rfl res_nil)), ?_⟩)
              have hno : ∀ T0, GoodT T0 → encT T0 ≠ s := by
                intro T0 g e
                obtain ⟨q1, q2, q3, q4, q5, q6, q7, q8, q9⟩ := hstep T0 g e
                first
                | omega
                | exact absurd q1 (by rw [show ok67 = false by assumption]; decide)
                | (rw [lastId_get (y := y120) (by rw [hnl]; exact hy120)] at q6; omega)
                | exact absurd (decide_eq_true (show r67 = (⟨0, 0, ([]), []⟩ : Res) from q7 (by assumption))) (by rw [show decide (r67 = (⟨0, 0, ([]), []⟩ : Res)) = false by assumption]; decide)
              exact ⟨.slice none 0 0, [], [], ⟨[], 0⟩, false, .nil, fun z hz => by simp at hz, fun z hz => by simp at hz, by simp, rfl, fun q => (nomatch q), fun _ => hno, ((M72.bare.take 0).nils).nils⟩
             ·
              refine D rfl rfl (D rfl rfl (D rfl rfl (D rfl (op_ld (M64.at 0 rfl) rfl rfl) (D rfl rfl (D rfl (op_ld (M64.at 5 rfl) rfl rfl) ?_)))))
              refine WS.gtrN (a := (y71).toNat) (b := (a17).toNat) rfl rfl rfl (fun e108 => ?_) (fun e108 => ?_)
              ·
               refine D rfl rfl (D rfl rfl (F rfl (F rfl (F rfl (F rfl (F rfl (F rfl (F rfl (F rfl ?_)))))))))
               refine F rfl (F rfl (F rfl (F rfl (F rfl (F rfl (D rfl rfl (D rfl rfl (F rfl (F rfl ?_)))))))))
               refine F rfl (F rfl (F rfl (F rfl (WS.offC rfl (F rfl (F rfl (D rfl rfl (AQ [(0, _), (2, _), (5, _), (6, _), (7, _), (8, _), (14, _), (136, _)] rfl ?_))))))))
               refine WC.condT rfl (AZ (BQ (BX (.agg #[(.slice none 0 0), (.int .u64 (0 : Int))]) rfl rfl rfl ?_)))
               refine WS.st1 (M64.bare.focus 7 rfl) [_, _] [_, _] rfl rfl rfl rfl rfl (C rfl) (C rfl) rfl rfl ?_
               intro h73 M74
               replace M74 : Mem _ _ ([(p1, _)] :: [((rb54 + 14), _)] :: [(p49, _)] :: (S44 ++ SR_) :: S29 :: S_ :: [(p15, _)] :: S8 :: []) _ := M74
               refine D rfl rfl (AQ [(2, _), (3, _)] rfl ?_)
               refine WC.ret (⟨[_, _], (res_cellN [_, _] rfl (M74.at 0 rfl) (C rfl) rfl (res_tmp rfl res_nil)), ?_⟩)
               have hno : ∀ T0, GoodT T0 → encT T0 ≠ s := by
                 intro T0 g e
                 obtain ⟨q1, q2, q3, q4, q5, q6, q7, q8, q9⟩ := hstep T0 g e
                 first
                 | omega
                 | exact absurd q1 (by rw [show ok67 = false by assumption]; decide)
                 | (rw [lastId_get (y := y120) (by rw [hnl]; exact hy120)] at q6; omega)
                 | exact absurd (decide_eq_true (show r67 = (⟨0, 0, ([]), []⟩ : Res) from q7 (by assumption))) (by rw [show decide (r67 = (⟨0, 0, ([]), []⟩ : Res)) = false by assumption]; decide)
               exact ⟨.slice none 0 0, [], [], ⟨[], 0⟩, false, .nil, fun z hz => by simp at hz, fun z hz => by simp at hz, by simp, rfl, fun q => (nomatch q), fun _ => hno, ((M74.bare.take 0).nils).nils⟩
              ·
               refine D rfl rfl (D rfl rfl (D rfl rfl ?_))
               refine WS.gtrN (a := n) (b := 0) rfl rfl rfl (fun e112 => ?_) (fun e112 => ?_)
               ·
                refine D rfl rfl (D rfl rfl (D rfl (op_ld (M64.at 0 rfl) rfl rfl) (D rfl rfl (D rfl (op_ld (M64.at 5 rfl) rfl rfl) (D rfl rfl (BX (.int .i64 (((n - 1) : Nat) : Int)) rfl rfl (sub_i64 (a := n) (b := 1) (by omega)) ?_))))))
                obtain ⟨y120, hy120⟩ : ∃ y, (l)[(n - 1)]? = some y := ⟨_, List.getElem?_eq_getElem (show (n - 1) < (l).length by first | omega | (simp only [G, AX, Y, J, U, X]; omega) | (simp only [G, AX, Y, J, U, X] at *; omega))⟩
                refine WS.iaVS (Row.Own.sl hO (Mem.owni M64 4 rfl)) (n - 1) hy120 rfl rfl rfl rfl ?_
                intro b120_ o120_ ha120
                refine D rfl rfl (D rfl (op_ldH rfl (At.ld0 ha120 rfl)) ?_)
                refine WS.leqN (a := (y71).toNat) (b := (y120.id).toNat) rfl rfl rfl (fun e123 => ?_) (fun e123 => ?_)
                ·
                 refine D rfl rfl (D rfl rfl (D rfl rfl (F rfl (F rfl (F rfl (F rfl (F rfl (F rfl (WS.offC rfl ?_)))))))))
                 refine F rfl (F rfl (D rfl rfl (AQ [(0, _), (2, _), (5, _), (6, _), (7, _), (8, _), (14, _), (136, _)] rfl ?_)))
                 refine WC.condT rfl (AZ (BQ (BX (.agg #[(.slice none 0 0), (.int .u64 (0 : Int))]) rfl rfl rfl ?_)))
                 refine WS.st1 (M64.bare.focus 7 rfl) [_, _] [_, _] rfl rfl rfl rfl rfl (C rfl) (C rfl) rfl rfl ?_
                 intro h75 M76
                 replace M76 : Mem _ _ ([(p1, _)] :: [((rb54 + 14), _)] :: [(p49, _)] :: (S44 ++ SR_) :: S29 :: S_ :: [(p15, _)] :: S8 :: []) _ := M76
                 refine D rfl rfl (AQ [(2, _), (3, _)] rfl ?_)
                 refine WC.ret (⟨[_, _], (res_cellN [_, _] rfl (M76.at 0 rfl) (C rfl) rfl (res_tmp rfl res_nil)), ?_⟩)
                 have hno : ∀ T0, GoodT T0 → encT T0 ≠ s := by
                   intro T0 g e
                   obtain ⟨q1, q2, q3, q4, q5, q6, q7, q8, q9⟩ := hstep T0 g e
                   first
                   | omega
                   | exact absurd q1 (by rw [show ok67 = false by assumption]; decide)
                   | (rw [lastId_get (y := y120) (by rw [hnl]; exact hy120)] at q6; omega)
                   | exact absurd (decide_eq_true (show r67 = (⟨0, 0, ([]), []⟩ : Res) from q7 (by assumption))) (by rw [show decide (r67 = (⟨0, 0, ([]), []⟩ : Res)) = false by assumption]; decide)
                 exact ⟨.slice none 0 0, [], [], ⟨[], 0⟩, false, .nil, fun z hz => by simp at hz, fun z hz => by simp at hz, by simp, rfl, fun q => (nomatch q), fun _ => hno, ((M76.bare.take 0).nils).nils⟩
                ·
                 refine D rfl rfl (D rfl rfl (D rfl rfl (D rfl rfl (D rfl (op_ld (M64.at 0 rfl) rfl rfl) ?_))))
                 refine WS.eqlN (a := (y80).toNat) (b := 0) rfl rfl rfl (fun e129 => ?_) (fun e129 => ?_)
                 ·
                  refine D rfl rfl (D rfl (op_lds [_, _, _, _] (M64.at 1 rfl) rfl (C rfl) rfl) (BX (.agg #[(.int .u8 (0 : Int)), (.int .u64 (0 : Int)), (.string (bs ([]))), (.slice none 0 0)]) rfl rfl rfl ?_))
                  refine WS.call rfl rfl rfl (SameR_ran M64.here (a := r67) (b := (⟨0, 0, ([]), []⟩ : Res)) (O47 _ (Mem.owni M64 2 rfl)) Row.Sl.nil (by have := hF67.2.1; omega)) ?_
                  rintro _ h77 ⟨rfl, N78⟩
                  have M79 := M64.trans N78
                  cases hb3 : (decide (r67 = (⟨0, 0, ([]), []⟩ : Res)))
                  ·
                   refine BX (.bool true) rfl rfl rfl (D rfl rfl (D rfl rfl (AQ [(0, _), (2, _), (5, _), (6, _), (7, _), (8, _), (14, _), (136, _)] rfl ?_)))
                   refine WC.condT rfl (AZ (BQ (BX (.agg #[(.slice none 0 0), (.int .u64 (0 : Int))]) rfl rfl rfl ?_)))
                   refine WS.st1 (M79.bare.focus 7 rfl) [_, _] [_, _] rfl rfl rfl rfl rfl (C rfl) (C rfl) rfl rfl ?_
                   intro h80 M81
                   replace M81 : Mem _ _ ([(p1, _)] :: [((rb54 + 14), _)] :: [(p49, _)] :: (S44 ++ SR_) :: S29 :: S_ :: [(p15, _)] :: S8 :: []) _ := M81
                   refine D rfl rfl (AQ [(2, _), (3, _)] rfl ?_)
                   refine WC.ret (⟨[_, _], (res_cellN [_, _] rfl (M81.at 0 rfl) (C rfl) rfl (res_tmp rfl res_nil)), ?_⟩)
                   have hno : ∀ T0, GoodT T0 → encT T0 ≠ s := by
                     intro T0 g e
                     obtain ⟨q1, q2, q3, q4, q5, q6, q7, q8, q9⟩ := hstep T0 g e
                     first
                     | omega
                     | exact absurd q1 (by rw [show ok67 = false by assumption]; decide)
                     | (rw [lastId_get (y := y120) (by rw [hnl]; exact hy120)] at q6; omega)
                     | exact absurd (decide_eq_true (show r67 = (⟨0, 0, ([]), []⟩ : Res) from q7 (by assumption))) (by rw [show decide (r67 = (⟨0, 0, ([]), []⟩ : Res)) = false by assumption]; decide)
                   exact ⟨.slice none 0 0, [], [], ⟨[], 0⟩, false, .nil, fun z hz => by simp at hz, fun z hz => by simp at hz, by simp, rfl, fun q => (nomatch q), fun _ => hno, ((M81.bare.take 0).nils).nils⟩
                  ·
                   refine BX (.bool false) rfl rfl rfl (D rfl rfl (D rfl rfl (AQ [(0, _), (2, _), (5, _), (6, _), (7, _), (8, _), (14, _), (136, _)] rfl ?_)))
                   refine WC.condF rfl (WC.skip (BQ (D rfl rfl ?_)))
                   have hen : encR r67 = rsT (s.drop at45) := hC67.1 (by assumption)
                   have hgt : (lastId 0 (l.map toS)).toNat < y71.toNat := by
                     first
                     | (rw [lastId_get (y := y120) (by rw [hnl]; exact hy120)]; omega)
                     | (have hl0 : l = [] := List.eq_nil_of_length_eq_zero (by omega)
                        rw [hl0]; show 0 < y71.toNat; omega)
                   refine D rfl (op_ld (M79.bare.at 5 rfl) rfl rfl) (D rfl (op_lds [_, _, _, _, _, _, _, _] (M79.bare.at 0 rfl) rfl (C rfl) rfl) ?_)
                   refine WS.bsl M79.bare [_, _, _, _, _, _, _, _] rfl rfl rfl rfl ?_
                   intro p82 h83 M84
                   refine WS.app (l := l) (m := [(⟨y71, y74, y77, y80, r67.cd, r67.n, r67.va, r67.rs, (P46, (2 * r67.rs.length))⟩ : RSes)]) (hO) (M84.focus 5 rfl) (Row.Src.one (K := KRSes) (m := [(⟨y71, y74, y77, y80, r67.cd, r67.n, r67.va, r67.rs, (P46, (2 * r67.rs.length))⟩ : RSes)]) (M84.at 0 rfl)) rfl (by simp only [J, U]; omega) (by simp only [J, U]; omega) rfl rfl rfl ?_
                   intro V85 S86 h87 O88 M89
                   obtain ⟨P90, rfl⟩ := Row.Own.shape O88
                   refine D rfl rfl ?_
                   refine WS.st1 (M89.focus 6 rfl) [_] [_, _] rfl rfl rfl rfl rfl (C rfl) (C rfl) rfl rfl ?_
                   intro h91 M92
                   replace M92 : Mem _ _ ([(p15, _)] :: S86 :: [(p82, _)] :: [((rb54 + 14), _)] :: [(p49, _)] :: (S44 ++ SR_) :: S29 :: S8 :: [(p1, _)] :: []) _ := M92
                   refine AQ [(0, _), (2, _), (5, _), (6, _), (7, _), (8, _)] rfl ?_
                   refine BQ (D rfl rfl (BX (.int .i64 (((n + 1) : Nat) : Int)) rfl rfl (add_i64 (a := n) (b := 1) (by omega)) (D rfl rfl (AQ [(0, _), (2, _), (5, _), (6, _), (7, _), (8, _)] rfl ?_))))
                   refine ⟨((.slice P90 ((l ++ [(⟨y71, y74, y77, y80, r67.cd, r67.n, r67.va, r67.rs, (P46, (2 * r67.rs.length))⟩ : RSes)])).length (2 * ((l ++ [(⟨y71, y74, y77, y80, r67.cd, r67.n, r67.va, r67.rs, (P46, (2 * r67.rs.length))⟩ : RSes)])).length)), S86, (S44 ++ SR_), (l ++ [(⟨y71, y74, y77, y80, r67.cd, r67.n, r67.va, r67.rs, (P46, (2 * r67.rs.length))⟩ : RSes)]), (at45 + (rsK ((s).drop at45))), n + 1), rfl, ⟨((((((M92.bare.focus 8 rfl).focus 8 rfl).focus 2 rfl).focus 7 rfl).focus 4 rfl).take 5), ?_⟩, ?_⟩
                   · exact ⟨O88, by simp [hnl], by omega, by have := rsK_le (s.drop at45); rw [G] at this; omega, hq_app hHQ O47, (fun y hy => by rcases List.mem_append.1 hy with w | w; exact hOk y w; (rw [List.mem_singleton] at w; subst w; exact ⟨hF67, by show (encR r67).length ≤ _; rw [hen]; have := rsT_le (s.drop at45); rw [G] at this; omega⟩)), eq_step (z := (⟨y71, y74, y77, y80, r67.cd, r67.n, r67.va, r67.rs, (P46, (2 * r67.rs.length))⟩ : RSes)) hEq he45 (by assumption) hen, by rw [List.map_append]; exact goodL_app hG (right_toS (z := (⟨y71, y74, y77, y80, r67.cd, r67.n, r67.va, r67.rs, (P46, (2 * r67.rs.length))⟩ : RSes)) hF67 (by first | exact fun q => absurd q (show ¬ y80.toNat = 0 by assumption) | exact fun _ => of_decide_eq_true (show decide (r67 = (⟨0, 0, ([]), []⟩ : Res)) = true by assumption)) (hgt) (by show 1 ≤ y77.toNat; omega) (by show y77.toNat ≤ y74.toNat; omega)), by rw [List.map_append, List.map_cons, List.map_nil, lastId_app]; show y71.toNat ≤ a17.toNat; omega, fun T0 g e => by obtain ⟨q1, q2, q3, q4, q5, q6, q7, q8, q9⟩ := hstep T0 g e; exact ⟨(hP T0 g e).1, (hP T0 g e).2.1, by rw [List.map_append]; exact q8, q9⟩⟩
                   · simp only []; omega
                 ·
                  refine D rfl rfl (F rfl (F rfl (WS.offC rfl (F rfl (D rfl rfl (D rfl rfl (AQ [(0, _), (2, _), (5, _), (6, _), (7, _), (8, _), (14, _), (136, _)] rfl ?_)))))))
                  refine WC.condF rfl (WC.skip (BQ (D rfl rfl ?_)))
                  have hen : encR r67 = rsT (s.drop at45) := hC67.1 (by assumption)
                  have hgt : (lastId 0 (l.map toS)).toNat < y71.toNat := by
                    first
                    | (rw [lastId_get (y := y120) (by rw [hnl]; exact hy120)]; omega)
                    | (have hl0 : l = [] := List.eq_nil_of_length_eq_zero (by omega)
                       rw [hl0]; show 0 < y71.toNat; omega)
                  refine D rfl (op_ld (M64.bare.at 5 rfl) rfl rfl) (D rfl (op_lds [_, _, _, _, _, _, _, _] (M64.bare.at 0 rfl) rfl (C rfl) rfl) ?_)
                  refine WS.bsl M64.bare [_, _, _, _, _, _, _, _] rfl rfl rfl rfl ?_
                  intro p93 h94 M95
                  refine WS.app (l := l) (m := [(⟨y71, y74, y77, y80, r67.cd, r67.n, r67.va, r67.rs, (P46, (2 * r67.rs.length))⟩ : RSes)]) (hO) (M95.focus 5 rfl) (Row.Src.one (K := KRSes) (m := [(⟨y71, y74, y77, y80, r67.cd, r67.n, r67.va, r67.rs, (P46, (2 * r67.rs.length))⟩ : RSes)]) (M95.at 0 rfl)) rfl (by simp only [J, U]; omega) (by simp only [J, U]; omega) rfl rfl rfl ?_
                  intro V96 S97 h98 O99 M100
                  obtain ⟨P101, rfl⟩ := Row.Own.shape O99
                  refine D rfl rfl ?_
                  refine WS.st1 (M100.focus 6 rfl) [_] [_, _] rfl rfl rfl rfl rfl (C rfl) (C rfl) rfl rfl ?_
                  intro h102 M103
                  replace M103 : Mem _ _ ([(p15, _)] :: S97 :: [(p93, _)] :: [((rb54 + 14), _)] :: [(p49, _)] :: (S44 ++ SR_) :: S29 :: S8 :: [(p1, _)] :: []) _ := M103
                  refine AQ [(0, _), (2, _), (5, _), (6, _), (7, _), (8, _)] rfl ?_
                  refine BQ (D rfl rfl (BX (.int .i64 (((n + 1) : Nat) : Int)) rfl rfl (add_i64 (a := n) (b := 1) (by omega)) (D rfl rfl (AQ [(0, _), (2, _), (5, _), (6, _), (7, _), (8, _)] rfl ?_))))
                  refine ⟨((.slice P101 ((l ++ [(⟨y71, y74, y77, y80, r67.cd, r67.n, r67.va, r67.rs, (P46, (2 * r67.rs.length))⟩ : RSes)])).length (2 * ((l ++ [(⟨y71, y74, y77, y80, r67.cd, r67.n, r67.va, r67.rs, (P46, (2 * r67.rs.length))⟩ : RSes)])).length)), S97, (S44 ++ SR_), (l ++ [(⟨y71, y74, y77, y80, r67.cd, r67.n, r67.va, r67.rs, (P46, (2 * r67.rs.length))⟩ : RSes)]), (at45 + (rsK ((s).drop at45))), n + 1), rfl, ⟨((((((M103.bare.focus 8 rfl).focus 8 rfl).focus 2 rfl).focus 7 rfl).focus 4 rfl).take 5), ?_⟩, ?_⟩
                  · exact ⟨O99, by simp [hnl], by omega, by have := rsK_le (s.drop at45); rw [G] at this; omega, hq_app hHQ O47, (fun y hy => by rcases List.mem_append.1 hy with w | w; exact hOk y w; (rw [List.mem_singleton] at w; subst w; exact ⟨hF67, by show (encR r67).length ≤ _; rw [hen]; have := rsT_le (s.drop at45); rw [G] at this; omega⟩)), eq_step (z := (⟨y71, y74, y77, y80, r67.cd, r67.n, r67.va, r67.rs, (P46, (2 * r67.rs.length))⟩ : RSes)) hEq he45 (by assumption) hen, by rw [List.map_append]; exact goodL_app hG (right_toS (z := (⟨y71, y74, y77, y80, r67.cd, r67.n, r67.va, r67.rs, (P46, (2 * r67.rs.length))⟩ : RSes)) hF67 (by first | exact fun q => absurd q (show ¬ y80.toNat = 0 by assumption) | exact fun _ => of_decide_eq_true (show decide (r67 = (⟨0, 0, ([]), []⟩ : Res)) = true by assumption)) (hgt) (by show 1 ≤ y77.toNat; omega) (by show y77.toNat ≤ y74.toNat; omega)), by rw [List.map_append, List.map_cons, List.map_nil, lastId_app]; show y71.toNat ≤ a17.toNat; omega, fun T0 g e => by obtain ⟨q1, q2, q3, q4, q5, q6, q7, q8, q9⟩ := hstep T0 g e; exact ⟨(hP T0 g e).1, (hP T0 g e).2.1, by rw [List.map_append]; exact q8, q9⟩⟩
                  · simp only []; omega
               ·
                refine D rfl rfl (F rfl (F rfl (F rfl (F rfl (F rfl (F rfl (F rfl (F rfl (F rfl ?_)))))))))
                refine F rfl (D rfl rfl (D rfl rfl (D rfl rfl (D rfl rfl (D rfl (op_ld (M64.at 0 rfl) rfl rfl) ?_)))))
                refine WS.eqlN (a := (y80).toNat) (b := 0) rfl rfl rfl (fun e129 => ?_) (fun e129 => ?_)
                ·
                 refine D rfl rfl (D rfl (op_lds [_, _, _, _] (M64.at 1 rfl) rfl (C rfl) rfl) (BX (.agg #[(.int .u8 (0 : Int)), (.int .u64 (0 : Int)), (.string (bs ([]))), (.slice none 0 0)]) rfl rfl rfl ?_))
                 refine WS.call rfl rfl rfl (SameR_ran M64.here (a := r67) (b := (⟨0, 0, ([]), []⟩ : Res)) (O47 _ (Mem.owni M64 2 rfl)) Row.Sl.nil (by have := hF67.2.1; omega)) ?_
                 rintro _ h104 ⟨rfl, N105⟩
                 have M106 := M64.trans N105
                 cases hb3 : (decide (r67 = (⟨0, 0, ([]), []⟩ : Res)))
                 ·
                  refine BX (.bool true) rfl rfl rfl (D rfl rfl (D rfl rfl (AQ [(0, _), (2, _), (5, _), (6, _), (7, _), (8, _), (14, _), (136, _)] rfl ?_)))
                  refine WC.condT rfl (AZ (BQ (BX (.agg #[(.slice none 0 0), (.int .u64 (0 : Int))]) rfl rfl rfl ?_)))
                  refine WS.st1 (M106.bare.focus 7 rfl) [_, _] [_, _] rfl rfl rfl rfl rfl (C rfl) (C rfl) rfl rfl ?_
                  intro h107 M108
                  replace M108 : Mem _ _ ([(p1, _)] :: [((rb54 + 14), _)] :: [(p49, _)] :: (S44 ++ SR_) :: S29 :: S_ :: [(p15, _)] :: S8 :: []) _ := M108
                  refine D rfl rfl (AQ [(2, _), (3, _)] rfl ?_)
                  refine WC.ret (⟨[_, _], (res_cellN [_, _] rfl (M108.at 0 rfl) (C rfl) rfl (res_tmp rfl res_nil)), ?_⟩)
                  have hno : ∀ T0, GoodT T0 → encT T0 ≠ s := by
                    intro T0 g e
                    obtain ⟨q1, q2, q3, q4, q5, q6, q7, q8, q9⟩ := hstep T0 g e
                    first
                    | omega
                    | exact absurd q1 (by rw [show ok67 = false by assumption]; decide)
                    | (rw [lastId_get (y := y120) (by rw [hnl]; exact hy120)] at q6; omega)
                    | exact absurd (decide_eq_true (show r67 = (⟨0, 0, ([]), []⟩ : Res) from q7 (by assumption))) (by rw [show decide (r67 = (⟨0, 0, ([]), []⟩ : Res)) = false by assumption]; decide)
                  exact ⟨.slice none 0 0, [], [], ⟨[], 0⟩, false, .nil, fun z hz => by simp at hz, fun z hz => by simp at hz, by simp, rfl, fun q => (nomatch q), fun _ => hno, ((M108.bare.take 0).nils).nils⟩
                 ·
                  refine BX (.bool false) rfl rfl rfl (D rfl rfl (D rfl rfl (AQ [(0, _), (2, _), (5, _), (6, _), (7, _), (8, _), (14, _), (136, _)] rfl ?_)))
                  refine WC.condF rfl (WC.skip (BQ (D rfl rfl ?_)))
                  have hen : encR r67 = rsT (s.drop at45) := hC67.1 (by assumption)
                  have hgt : (lastId 0 (l.map toS)).toNat < y71.toNat := by
                    first
                    | (rw [lastId_get (y := y120) (by rw [hnl]; exact hy120)]; omega)
                    | (have hl0 : l = [] := List.eq_nil_of_length_eq_zero (by omega)
                       rw [hl0]; show 0 < y71.toNat; omega)
                  refine D rfl (op_ld (M106.bare.at 5 rfl) rfl rfl) (D rfl (op_lds [_, _, _, _, _, _, _, _] (M106.bare.at 0 rfl) rfl (C rfl) rfl) ?_)
                  refine WS.bsl M106.bare [_, _, _, _, _, _, _, _] rfl rfl rfl rfl ?_
                  intro p109 h110 M111
                  refine WS.app (l := l) (m := [(⟨y71, y74, y77, y80, r67.cd, r67.n, r67.va, r67.rs, (P46, (2 * r67.rs.length))⟩ : RSes)]) (hO) (M111.focus 5 rfl) (Row.Src.one (K := KRSes) (m := [(⟨y71, y74, y77, y80, r67.cd, r67.n, r67.va, r67.rs, (P46, (2 * r67.rs.length))⟩ : RSes)]) (M111.at 0 rfl)) rfl (by simp only [J, U]; omega) (by simp only [J, U]; omega) rfl rfl rfl ?_
                  intro V112 S113 h114 O115 M116
                  obtain ⟨P117, rfl⟩ := Row.Own.shape O115
                  refine D rfl rfl ?_
                  refine WS.st1 (M116.focus 6 rfl) [_] [_, _] rfl rfl rfl rfl rfl (C rfl) (C rfl) rfl rfl ?_
                  intro h118 M119
                  replace M119 : Mem _ _ ([(p15, _)] :: S113 :: [(p109, _)] :: [((rb54 + 14), _)] :: [(p49, _)] :: (S44 ++ SR_) :: S29 :: S8 :: [(p1, _)] :: []) _ := M119
                  refine AQ [(0, _), (2, _), (5, _), (6, _), (7, _), (8, _)] rfl ?_
                  refine BQ (D rfl rfl (BX (.int .i64 (((n + 1) : Nat) : Int)) rfl rfl (add_i64 (a := n) (b := 1) (by omega)) (D rfl rfl (AQ [(0, _), (2, _), (5, _), (6, _), (7, _), (8, _)] rfl ?_))))
                  refine ⟨((.slice P117 ((l ++ [(⟨y71, y74, y77, y80, r67.cd, r67.n, r67.va, r67.rs, (P46, (2 * r67.rs.length))⟩ : RSes)])).length (2 * ((l ++ [(⟨y71, y74, y77, y80, r67.cd, r67.n, r67.va, r67.rs, (P46, (2 * r67.rs.length))⟩ : RSes)])).length)), S113, (S44 ++ SR_), (l ++ [(⟨y71, y74, y77, y80, r67.cd, r67.n, r67.va, r67.rs, (P46, (2 * r67.rs.length))⟩ : RSes)]), (at45 + (rsK ((s).drop at45))), n + 1), rfl, ⟨((((((M119.bare.focus 8 rfl).focus 8 rfl).focus 2 rfl).focus 7 rfl).focus 4 rfl).take 5), ?_⟩, ?_⟩
                  · exact ⟨O115, by simp [hnl], by omega, by have := rsK_le (s.drop at45); rw [G] at this; omega, hq_app hHQ O47, (fun y hy => by rcases List.mem_append.1 hy with w | w; exact hOk y w; (rw [List.mem_singleton] at w; subst w; exact ⟨hF67, by show (encR r67).length ≤ _; rw [hen]; have := rsT_le (s.drop at45); rw [G] at this; omega⟩)), eq_step (z := (⟨y71, y74, y77, y80, r67.cd, r67.n, r67.va, r67.rs, (P46, (2 * r67.rs.length))⟩ : RSes)) hEq he45 (by assumption) hen, by rw [List.map_append]; exact goodL_app hG (right_toS (z := (⟨y71, y74, y77, y80, r67.cd, r67.n, r67.va, r67.rs, (P46, (2 * r67.rs.length))⟩ : RSes)) hF67 (by first | exact fun q => absurd q (show ¬ y80.toNat = 0 by assumption) | exact fun _ => of_decide_eq_true (show decide (r67 = (⟨0, 0, ([]), []⟩ : Res)) = true by assumption)) (hgt) (by show 1 ≤ y77.toNat; omega) (by show y77.toNat ≤ y74.toNat; omega)), by rw [List.map_append, List.map_cons, List.map_nil, lastId_app]; show y71.toNat ≤ a17.toNat; omega, fun T0 g e => by obtain ⟨q1, q2, q3, q4, q5, q6, q7, q8, q9⟩ := hstep T0 g e; exact ⟨(hP T0 g e).1, (hP T0 g e).2.1, by rw [List.map_append]; exact q8, q9⟩⟩
                  · simp only []; omega
                ·
                 refine D rfl rfl (F rfl (F rfl (WS.offC rfl (F rfl (D rfl rfl (D rfl rfl (AQ [(0, _), (2, _), (5, _), (6, _), (7, _), (8, _), (14, _), (136, _)] rfl ?_)))))))
                 refine WC.condF rfl (WC.skip (BQ (D rfl rfl ?_)))
                 have hen : encR r67 = rsT (s.drop at45) := hC67.1 (by assumption)
                 have hgt : (lastId 0 (l.map toS)).toNat < y71.toNat := by
                   first
                   | (rw [lastId_get (y := y120) (by rw [hnl]; exact hy120)]; omega)
                   | (have hl0 : l = [] := List.eq_nil_of_length_eq_zero (by omega)
                      rw [hl0]; show 0 < y71.toNat; omega)
                 refine D rfl (op_ld (M64.bare.at 5 rfl) rfl rfl) (D rfl (op_lds [_, _, _, _, _, _, _, _] (M64.bare.at 0 rfl) rfl (C rfl) rfl) ?_)
                 refine WS.bsl M64.bare [_, _, _, _, _, _, _, _] rfl rfl rfl rfl ?_
                 intro p120 h121 M122
                 refine WS.app (l := l) (m := [(⟨y71, y74, y77, y80, r67.cd, r67.n, r67.va, r67.rs, (P46, (2 * r67.rs.length))⟩ : RSes)]) (hO) (M122.focus 5 rfl) (Row.Src.one (K := KRSes) (m := [(⟨y71, y74, y77, y80, r67.cd, r67.n, r67.va, r67.rs, (P46, (2 * r67.rs.length))⟩ : RSes)]) (M122.at 0 rfl)) rfl (by simp only [J, U]; omega) (by simp only [J, U]; omega) rfl rfl rfl ?_
                 intro V123 S124 h125 O126 M127
                 obtain ⟨P128, rfl⟩ := Row.Own.shape O126
                 refine D rfl rfl ?_
                 refine WS.st1 (M127.focus 6 rfl) [_] [_, _] rfl rfl rfl rfl rfl (C rfl) (C rfl) rfl rfl ?_
                 intro h129 M130
                 replace M130 : Mem _ _ ([(p15, _)] :: S124 :: [(p120, _)] :: [((rb54 + 14), _)] :: [(p49, _)] :: (S44 ++ SR_) :: S29 :: S8 :: [(p1, _)] :: []) _ := M130
                 refine AQ [(0, _), (2, _), (5, _), (6, _), (7, _), (8, _)] rfl ?_
                 refine BQ (D rfl rfl (BX (.int .i64 (((n + 1) : Nat) : Int)) rfl rfl (add_i64 (a := n) (b := 1) (by omega)) (D rfl rfl (AQ [(0, _), (2, _), (5, _), (6, _), (7, _), (8, _)] rfl ?_))))
                 refine ⟨((.slice P128 ((l ++ [(⟨y71, y74, y77, y80, r67.cd, r67.n, r67.va, r67.rs, (P46, (2 * r67.rs.length))⟩ : RSes)])).length (2 * ((l ++ [(⟨y71, y74, y77, y80, r67.cd, r67.n, r67.va, r67.rs, (P46, (2 * r67.rs.length))⟩ : RSes)])).length)), S124, (S44 ++ SR_), (l ++ [(⟨y71, y74, y77, y80, r67.cd, r67.n, r67.va, r67.rs, (P46, (2 * r67.rs.length))⟩ : RSes)]), (at45 + (rsK ((s).drop at45))), n + 1), rfl, ⟨((((((M130.bare.focus 8 rfl).focus 8 rfl).focus 2 rfl).focus 7 rfl).focus 4 rfl).take 5), ?_⟩, ?_⟩
                 · exact ⟨O126, by simp [hnl], by omega, by have := rsK_le (s.drop at45); rw [G] at this; omega, hq_app hHQ O47, (fun y hy => by rcases List.mem_append.1 hy with w | w; exact hOk y w; (rw [List.mem_singleton] at w; subst w; exact ⟨hF67, by show (encR r67).length ≤ _; rw [hen]; have := rsT_le (s.drop at45); rw [G] at this; omega⟩)), eq_step (z := (⟨y71, y74, y77, y80, r67.cd, r67.n, r67.va, r67.rs, (P46, (2 * r67.rs.length))⟩ : RSes)) hEq he45 (by assumption) hen, by rw [List.map_append]; exact goodL_app hG (right_toS (z := (⟨y71, y74, y77, y80, r67.cd, r67.n, r67.va, r67.rs, (P46, (2 * r67.rs.length))⟩ : RSes)) hF67 (by first | exact fun q => absurd q (show ¬ y80.toNat = 0 by assumption) | exact fun _ => of_decide_eq_true (show decide (r67 = (⟨0, 0, ([]), []⟩ : Res)) = true by assumption)) (hgt) (by show 1 ≤ y77.toNat; omega) (by show y77.toNat ≤ y74.toNat; omega)), by rw [List.map_append, List.map_cons, List.map_nil, lastId_app]; show y71.toNat ≤ a17.toNat; omega, fun T0 g e => by obtain ⟨q1, q2, q3, q4, q5, q6, q7, q8, q9⟩ := hstep T0 g e; exact ⟨(hP T0 g e).1, (hP T0 g e).2.1, by rw [List.map_append]; exact q8, q9⟩⟩
                 · simp only []; omega
      ·
       refine AQ [(0, _), (2, _), (5, _), (6, _), (7, _), (8, _), (39, _)] rfl ?_
       refine WC.condF rfl (WC.exit ?_)
       refine AZ (BQ (D rfl (op_lds [_, _] (M24.at 2 rfl) rfl (C rfl) rfl) (D rfl rfl (D rfl rfl (D rfl (op_lenS (l := s) rfl) ?_)))))
       refine WS.eqlN (a := at_) (b := (s).length) rfl rfl rfl (fun e148 => ?_) (fun e148 => ?_)
       ·
        refine WS.st1 (M24.focus 4 rfl) [_, _] [_, _] rfl rfl rfl rfl rfl (C rfl) (C rfl) rfl rfl ?_
        intro h131 M132
        replace M132 : Mem _ _ ([(p1, _)] :: S_ :: SR_ :: [(p15, _)] :: S8 :: []) _ := M132
        refine D rfl rfl (AQ [(2, _), (3, _)] rfl ?_)
        refine WC.ret (⟨[_, _], (res_cellN [_, _] rfl (M132.at 0 rfl) (C rfl) rfl (res_tmp rfl res_nil)), ?_⟩)
        have hgd : GoodT (TS ⟨l, a17⟩) := ⟨hG, hLa, by show (l.map toS).length ≤ 4; rw [List.length_map]; omega⟩
        have hsE : encRT ⟨l, a17⟩ = s := by
          rw [List.drop_of_length_le (by omega), List.append_nil] at hEq
          rw [hEq]; unfold encRT; rw [show (RTab.mk l a17).l.length = y34.toNat from by show l.length = _; omega]
        exact ⟨_, _, _, ⟨l, a17⟩, true, hO, hHQ, hOk, by show l.length ≤ 4; omega, rfl, fun _ => ⟨hgd, hsE⟩, fun q => (nomatch q), (((M132.bare.focus 2 rfl).focus 2 rfl).take 2)⟩
       ·
        refine WS.st1 (M24.focus 4 rfl) [_, _] [_, _] rfl rfl rfl rfl rfl (C rfl) (C rfl) rfl rfl ?_
        intro h133 M134
        replace M134 : Mem _ _ ([(p1, _)] :: S_ :: SR_ :: [(p15, _)] :: S8 :: []) _ := M134
        refine D rfl rfl (AQ [(2, _), (3, _)] rfl ?_)
        refine WC.ret (⟨[_, _], (res_cellN [_, _] rfl (M134.at 0 rfl) (C rfl) rfl (res_tmp rfl res_nil)), ?_⟩)
        have hno : ∀ T0, GoodT T0 → encT T0 ≠ s := by
          intro T0 g e
          obtain ⟨x1, x2, x3, x4⟩ := hP T0 g e
          rw [List.drop_of_length_le (show T0.l.length ≤ n by omega)] at x4
          have := congrArg List.length x4
          rw [G] at this
          simp at this
          omega
        exact ⟨_, _, _, ⟨l, a17⟩, false, hO, hHQ, hOk, by show l.length ≤ 4; omega, rfl, fun q => (nomatch q), fun _ => hno, (((M134.bare.focus 2 rfl).focus 2 rfl).take 2)⟩
end Go.Proofs.Ytomaijljeacpjaa.Wt
namespace Go.Proofs.Ytomaijljeacpjaa.Wt
open Go Go.Proofs.Ytomaijljeacpjaa.Am Go.Proofs.Ytomaijljeacpjaa.IrAll
open Go.Proofs.Ytomaijljeacpjaa.Am.WS renaming op → C
open Nat renaming le_of_ble_eq_true → D
open Go.Proofs.Ytomaijljeacpjaa.Am.WS renaming off → F
set_option linter.unusedVariables false
set_option linter.unusedSimpArgs false
variable {h base : H} {L : List Seg} {R : List Nat}
theorem goodL_mem : ∀ {l : List Ses} {b : UInt64}, GoodL b l → ∀ y ∈ l, keptOf y = y.kp := by
  intro l
  induction l with
  | nil => intro b _ y hy; simp at hy
  | cons x l ih =>
    intro b h y hy
    rcases List.mem_cons.1 hy with q | q
    · subst q; exact kept_right h.1
    · exact ih h.2 y q
theorem encT_good {w : RTab} (g : GoodT (TS w)) : encT (TS w) = encRT w := by
  unfold encT encRT
  have hk := goodL_mem g.1
  unfold TS at hk ⊢
  simp only [List.length_map, List.flatMap_map] at hk ⊢
  congr 1
  have : ∀ (l : List RSes), (∀ z ∈ l, keptOf (toS z) = encR z.res) → l.flatMap (fun a => encS (toS a)) = l.flatMap encRS := by
    intro l
    induction l with
    | nil => intro _; rfl
    | cons z l ih =>
      intro hz
      rw [List.flatMap_cons, List.flatMap_cons, ih (fun w hw => hz w (List.mem_cons_of_mem _ hw))]
      congr 1
      unfold encS encRS
      rw [hz z (List.mem_cons_self ..)]; rfl
  exact this w.l fun z hz => hk (toS z) (List.mem_map.2 ⟨z, hz, rfl⟩)
set_option maxRecDepth 8000 in
theorem law_SessReads (W : Mem h h [] []) {s : List UInt8} {u0 : Value} (l0 : layStr h s [u0]) (k0 : s.length < 9223372036854775808) : Cll tab0 7 [u0] h (fun v _ => v = .bool true) := by
  cases l0
  refine Cll.code rfl rfl ?_
  refine WC.env [(0, _)] rfl ?_
  refine WC.seq (WC.run (C rfl rfl (WS.nil [(0, _)] rfl ?_)))
  refine WC.seq (WC.seq (WC.run (C rfl rfl (C rfl (op_lenS (l := s) rfl) ?_))))
  refine WS.gtrN (a := (s).length) (b := 4000) rfl rfl rfl (fun e9 => ?_) (fun e9 => ?_)
  ·
   refine WS.nil [(0, _), (9, _)] rfl ?_
   refine WC.condT rfl (WC.run (C rfl rfl (C rfl (op_slS1 (l := s) 4000 rfl rfl (by first | omega | (simp only [List.length_drop, List.length_take, List.length_append, List.length_cons, List.length_nil, List.length_singleton]; omega) | (simp only [List.length_drop, List.length_take, List.length_append, List.length_cons, List.length_nil, List.length_singleton] at *; omega))) (C rfl rfl (WS.nil [(0, _)] rfl ?_)))))
   refine WC.seq (WC.run (C rfl rfl ?_))
   refine WS.call rfl rfl rfl (ReadT_ran W.here (s := ((s).take 4000)) (by first | omega | (rw [List.length_take]; omega))) ?_
   rintro _ h1 (⟨p4, V5, S6, T14, rfl, O7, hG14, hE14, hU14, hK14, N2⟩ | ⟨rfl, hN14, N2⟩)
   ·
    have M3 := W.trans N2
    replace M3 : Mem _ _ (S6 :: [(p4, _)] :: []) _ := M3
    refine C rfl rfl (C rfl rfl (C rfl rfl (C rfl rfl (C rfl rfl (WS.nil [(0, _), (3, _), (4, _)] rfl ?_)))))
    refine WC.seq (WC.run (C rfl rfl ?_))
    refine WS.call rfl rfl rfl (refReadT_ran M3.here (s := ((s).take 4000)) (by first | omega | (rw [List.length_take]; omega))) ?_
    rintro _ h8 ⟨V11, S12, SR19, w19, ok19, O13, hHQ, hOk, hl4, rfl, hok1, hok2, N9⟩
    obtain ⟨P14, rfl⟩ := O13.shape
    have M10 := M3.trans N9
    replace M10 : Mem _ _ (S12 :: SR19 :: S6 :: [(p4, _)] :: []) _ := M10
    refine C rfl rfl (C rfl rfl (C rfl rfl ?_))
    refine WS.new M10 rfl ?_
    intro p15 h16 M17
    refine WS.st1 (M17.focus 0 rfl) [_, _] [_, _] rfl rfl rfl rfl rfl (D rfl) (D rfl) rfl rfl ?_
    intro h18 M19
    replace M19 : Mem _ _ ([(p15, _)] :: S12 :: SR19 :: S6 :: [(p4, _)] :: []) _ := M19
    refine C rfl rfl (WS.nil [(0, _), (3, _), (4, _), (5, _), (6, _)] rfl ?_)
    refine WC.seq (WC.seq (WC.run (C rfl rfl (C rfl rfl ?_))))
    cases hb1 : ok19
    ·
     refine WS.opV (.bool true) rfl rfl rfl (C rfl rfl (F rfl (F rfl (F rfl (F rfl (C rfl rfl (WS.nil [(0, _), (3, _), (4, _), (5, _), (30, _)] rfl ?_)))))))
     refine WC.condT rfl (WC.seq (WC.run (C rfl rfl (WS.nil [(2, _)] rfl ?_))))
     refine WC.ret (⟨[_], (res_tmp rfl res_nil), ?_⟩)
     exfalso
     first
     | exact hok2 (by assumption) _ hG14 hE14
     | exact hN14 _ (hok1 (by assumption)).1 (by rw [encT_good (hok1 (by assumption)).1]; exact (hok1 (by assumption)).2)
    ·
     refine WS.opV (.bool false) rfl rfl rfl (C rfl rfl (C rfl rfl (C rfl rfl (WS.opV (.bool true) rfl rfl rfl (WS.opV (.bool false) rfl rfl rfl (C rfl rfl (WS.nil [(0, _), (3, _), (4, _), (5, _), (30, _)] rfl ?_)))))))
     refine WC.condF rfl (WC.skip (WC.seq (WC.run (C rfl rfl (WS.opV (.bool false) rfl rfl rfl (C rfl rfl (C rfl rfl ?_)))))))
     refine WS.call rfl rfl rfl (Write_ran (T := T14) O7 ((M19.focus 4 rfl).focus 4 rfl) (by have := hG14.2.2; omega) (by exact hK14)) ?_
     rintro _ h20 ⟨rfl, M21⟩
     replace M21 : Mem _ _ (S6 :: [(p4, _)] :: [(p15, _)] :: S12 :: SR19 :: []) _ := M21
     refine C rfl rfl ?_
     refine WS.seql (l := (encT T14)) (m := ((s).take 4000)) rfl rfl rfl (fun e37 => ?_) (fun e37 => ?_)
     ·
      refine C rfl rfl (C rfl (op_lds [_, _] (M21.at 2 rfl) rfl (D rfl) rfl) ?_)
      refine WS.call rfl rfl rfl (refWrite18_ran M21.here (T := w19) (Row.Own.sl O13 (Mem.owni M21 3 rfl)) (fun z hz => hHQ z hz _ (Mem.owni M21 4 rfl)) (by omega) (fun z hz => ⟨(hOk z hz).2, (hOk z hz).1⟩)) ?_
      rintro _ h22 ⟨rfl, N23⟩
      have M24 := M21.trans N23
      refine C rfl rfl ?_
      refine WS.seql (l := (encRT w19)) (m := ((s).take 4000)) rfl rfl rfl (fun e42 => ?_) (fun e42 => ?_)
      ·
       refine C rfl rfl (C rfl rfl (C rfl rfl ?_))
       refine WS.call rfl rfl rfl (awake18_ran M24.here ) ?_
       rintro _ h25 ⟨rfl, N26⟩
       have M27 := M24.trans N26
       refine C rfl rfl (C rfl rfl (WS.nil [(2, _)] rfl ?_))
       refine WC.ret (⟨[_], (res_tmp rfl res_nil), ?_⟩)
       rfl
      ·
       exact absurd (hok1 (by assumption)).2 e42
     ·
      exact absurd hE14 e37
   ·
    have M3 := W.trans N2
    refine C rfl rfl (C rfl rfl (C rfl rfl (C rfl rfl (C rfl rfl (WS.nil [(0, _), (3, _), (4, _)] rfl ?_)))))
    refine WC.seq (WC.run (C rfl rfl ?_))
    refine WS.call rfl rfl rfl (refReadT_ran M3.here (s := ((s).take 4000)) (by first | omega | (rw [List.length_take]; omega))) ?_
    rintro _ h28 ⟨V31, S32, SR19, w19, ok19, O33, hHQ, hOk, hl4, rfl, hok1, hok2, N29⟩
    obtain ⟨P34, rfl⟩ := O33.shape
    have M30 := M3.trans N29
    replace M30 : Mem _ _ (S32 :: SR19 :: []) _ := M30
    refine C rfl rfl (C rfl rfl (C rfl rfl ?_))
    refine WS.new M30 rfl ?_
    intro p35 h36 M37
    refine WS.st1 (M37.focus 0 rfl) [_, _] [_, _] rfl rfl rfl rfl rfl (D rfl) (D rfl) rfl rfl ?_
    intro h38 M39
    replace M39 : Mem _ _ ([(p35, _)] :: S32 :: SR19 :: []) _ := M39
    refine C rfl rfl (WS.nil [(0, _), (3, _), (4, _), (5, _), (6, _)] rfl ?_)
    refine WC.seq (WC.seq (WC.run (C rfl rfl (C rfl rfl ?_))))
    cases hb1 : ok19
    ·
     refine WS.opV (.bool false) rfl rfl rfl (C rfl rfl (C rfl rfl (C rfl rfl (WS.opV (.bool false) rfl rfl rfl (WS.opV (.bool false) rfl rfl rfl (C rfl rfl (WS.nil [(0, _), (3, _), (4, _), (5, _), (30, _)] rfl ?_)))))))
     refine WC.condF rfl (WC.skip (WC.seq (WC.run (C rfl rfl (WS.opV (.bool true) rfl rfl rfl (C rfl rfl (F rfl (WS.offC rfl (F rfl (F rfl (F rfl (F rfl (WS.offC rfl ?_)))))))))))))
     refine F rfl (F rfl (F rfl (C rfl rfl (C rfl rfl ?_))))
     refine WS.call rfl rfl rfl (awake18_ran M39.here ) ?_
     rintro _ h40 ⟨rfl, N41⟩
     have M42 := M39.trans N41
     refine C rfl rfl (C rfl rfl (WS.nil [(2, _)] rfl ?_))
     refine WC.ret (⟨[_], (res_tmp rfl res_nil), ?_⟩)
     rfl
    ·
     refine WS.opV (.bool true) rfl rfl rfl (C rfl rfl (F rfl (F rfl (F rfl (F rfl (C rfl rfl (WS.nil [(0, _), (3, _), (4, _), (5, _), (30, _)] rfl ?_)))))))
     refine WC.condT rfl (WC.seq (WC.run (C rfl rfl (WS.nil [(2, _)] rfl ?_))))
     refine WC.ret (⟨[_], (res_tmp rfl res_nil), ?_⟩)
     exfalso
     first
     | exact hok2 (by assumption) _ hG14 hE14
     | exact hN14 _ (hok1 (by assumption)).1 (by rw [encT_good (hok1 (by assumption)).1]; exact (hok1 (by assumption)).2)
  ·
   refine WS.nil [(0, _), (9, _)] rfl ?_
   refine WC.condF rfl (WC.skip (WC.seq (WC.run (C rfl rfl ?_))))
   refine WS.call rfl rfl rfl (ReadT_ran W.here (s := s) (by first | omega | (rw [List.length_take]; omega))) ?_
   rintro _ h43 (⟨p46, V47, S48, T14, rfl, O49, hG14, hE14, hU14, hK14, N44⟩ | ⟨rfl, hN14, N44⟩)
   ·
    have M45 := W.trans N44
    replace M45 : Mem _ _ (S48 :: [(p46, _)] :: []) _ := M45
    refine C rfl rfl (C rfl rfl (C rfl rfl (C rfl rfl (C rfl rfl (WS.nil [(0, _), (3, _), (4, _)] rfl ?_)))))
    refine WC.seq (WC.run (C rfl rfl ?_))
    refine WS.call rfl rfl rfl (refReadT_ran M45.here (s := s) (by first | omega | (rw [List.length_take]; omega))) ?_
    rintro _ h50 ⟨V53, S54, SR19, w19, ok19, O55, hHQ, hOk, hl4, rfl, hok1, hok2, N51⟩
    obtain ⟨P56, rfl⟩ := O55.shape
    have M52 := M45.trans N51
    replace M52 : Mem _ _ (S54 :: SR19 :: S48 :: [(p46, _)] :: []) _ := M52
    refine C rfl rfl (C rfl rfl (C rfl rfl ?_))
    refine WS.new M52 rfl ?_
    intro p57 h58 M59
    refine WS.st1 (M59.focus 0 rfl) [_, _] [_, _] rfl rfl rfl rfl rfl (D rfl) (D rfl) rfl rfl ?_
    intro h60 M61
    replace M61 : Mem _ _ ([(p57, _)] :: S54 :: SR19 :: S48 :: [(p46, _)] :: []) _ := M61
    refine C rfl rfl (WS.nil [(0, _), (3, _), (4, _), (5, _), (6, _)] rfl ?_)
    refine WC.seq (WC.seq (WC.run (C rfl rfl (C rfl rfl ?_))))
    cases hb1 : ok19
    ·
     refine WS.opV (.bool true) rfl rfl rfl (C rfl rfl (F rfl (F rfl (F rfl (F rfl (C rfl rfl (WS.nil [(0, _), (3, _), (4, _), (5, _), (30, _)] rfl ?_)))))))
     refine WC.condT rfl (WC.seq (WC.run (C rfl rfl (WS.nil [(2, _)] rfl ?_))))
     refine WC.ret (⟨[_], (res_tmp rfl res_nil), ?_⟩)
     exfalso
     first
     | exact hok2 (by assumption) _ hG14 hE14
     | exact hN14 _ (hok1 (by assumption)).1 (by rw [encT_good (hok1 (by assumption)).1]; exact (hok1 (by assumption)).2)
    ·
     refine WS.opV (.bool false) rfl rfl rfl (C rfl rfl (C rfl rfl (C rfl rfl (WS.opV (.bool true) rfl rfl rfl (WS.opV (.bool false) rfl rfl rfl (C rfl rfl (WS.nil [(0, _), (3, _), (4, _), (5, _), (30, _)] rfl ?_)))))))
     refine WC.condF rfl (WC.skip (WC.seq (WC.run (C rfl rfl (WS.opV (.bool false) rfl rfl rfl (C rfl rfl (C rfl rfl ?_)))))))
     refine WS.call rfl rfl rfl (Write_ran (T := T14) O49 ((M61.focus 4 rfl).focus 4 rfl) (by have := hG14.2.2; omega) (by exact hK14)) ?_
     rintro _ h62 ⟨rfl, M63⟩
     replace M63 : Mem _ _ (S48 :: [(p46, _)] :: [(p57, _)] :: S54 :: SR19 :: []) _ := M63
     refine C rfl rfl ?_
     refine WS.seql (l := (encT T14)) (m := s) rfl rfl rfl (fun e37 => ?_) (fun e37 => ?_)
     ·
      refine C rfl rfl (C rfl (op_lds [_, _] (M63.at 2 rfl) rfl (D rfl) rfl) ?_)
      refine WS.call rfl rfl rfl (refWrite18_ran M63.here (T := w19) (Row.Own.sl O55 (Mem.owni M63 3 rfl)) (fun z hz => hHQ z hz _ (Mem.owni M63 4 rfl)) (by omega) (fun z hz => ⟨(hOk z hz).2, (hOk z hz).1⟩)) ?_
      rintro _ h64 ⟨rfl, N65⟩
      have M66 := M63.trans N65
      refine C rfl rfl ?_
      refine WS.seql (l := (encRT w19)) (m := s) rfl rfl rfl (fun e42 => ?_) (fun e42 => ?_)
      ·
       refine C rfl rfl (C rfl rfl (C rfl rfl ?_))
       refine WS.call rfl rfl rfl (awake18_ran M66.here ) ?_
       rintro _ h67 ⟨rfl, N68⟩
       have M69 := M66.trans N68
       refine C rfl rfl (C rfl rfl (WS.nil [(2, _)] rfl ?_))
       refine WC.ret (⟨[_], (res_tmp rfl res_nil), ?_⟩)
       rfl
      ·
       exact absurd (hok1 (by assumption)).2 e42
     ·
      exact absurd hE14 e37
   ·
    have M45 := W.trans N44
    refine C rfl rfl (C rfl rfl (C rfl rfl (C rfl rfl (C rfl rfl (WS.nil [(0, _), (3, _), (4, _)] rfl ?_)))))
    refine WC.seq (WC.run (C rfl rfl ?_))
    refine WS.call rfl rfl rfl (refReadT_ran M45.here (s := s) (by first | omega | (rw [List.length_take]; omega))) ?_
    rintro _ h70 ⟨V73, S74, SR19, w19, ok19, O75, hHQ, hOk, hl4, rfl, hok1, hok2, N71⟩
    obtain ⟨P76, rfl⟩ := O75.shape
    have M72 := M45.trans N71
    replace M72 : Mem _ _ (S74 :: SR19 :: []) _ := M72
    refine C rfl rfl (C rfl rfl (C rfl rfl ?_))
    refine WS.new M72 rfl ?_
    intro p77 h78 M79
    refine WS.st1 (M79.focus 0 rfl) [_, _] [_, _] rfl rfl rfl rfl rfl (D rfl) (D rfl) rfl rfl ?_
    intro h80 M81
    replace M81 : Mem _ _ ([(p77, _)] :: S74 :: SR19 :: []) _ := M81
    refine C rfl rfl (WS.nil [(0, _), (3, _), (4, _), (5, _), (6, _)] rfl ?_)
    refine WC.seq (WC.seq (WC.run (C rfl rfl (C rfl rfl ?_))))
    cases hb1 : ok19
    ·
     refine WS.opV (.bool false) rfl rfl rfl (C rfl rfl (C rfl rfl (C rfl rfl (WS.opV (.bool false) rfl rfl rfl (WS.opV (.bool false) rfl rfl rfl (C rfl rfl (WS.nil [(0, _), (3, _), (4, _), (5, _), (30, _)] rfl ?_)))))))
     refine WC.condF rfl (WC.skip (WC.seq (WC.run (C rfl rfl (WS.opV (.bool true) rfl rfl rfl (C rfl rfl (F rfl (WS.offC rfl (F rfl (F rfl (F rfl (F rfl (WS.offC rfl ?_)))))))))))))
     refine F rfl (F rfl (F rfl (C rfl rfl (C rfl rfl ?_))))
     refine WS.call rfl rfl rfl (awake18_ran M81.here ) ?_
     rintro _ h82 ⟨rfl, N83⟩
     have M84 := M81.trans N83
     refine C rfl rfl (C rfl rfl (WS.nil [(2, _)] rfl ?_))
     refine WC.ret (⟨[_], (res_tmp rfl res_nil), ?_⟩)
     rfl
    ·
     refine WS.opV (.bool true) rfl rfl rfl (C rfl rfl (F rfl (F rfl (F rfl (F rfl (C rfl rfl (WS.nil [(0, _), (3, _), (4, _), (5, _), (30, _)] rfl ?_)))))))
     refine WC.condT rfl (WC.seq (WC.run (C rfl rfl (WS.nil [(2, _)] rfl ?_))))
     refine WC.ret (⟨[_], (res_tmp rfl res_nil), ?_⟩)
     exfalso
     first
     | exact hok2 (by assumption) _ hG14 hE14
     | exact hN14 _ (hok1 (by assumption)).1 (by rw [encT_good (hok1 (by assumption)).1]; exact (hok1 (by assumption)).2)
end Go.Proofs.Ytomaijljeacpjaa.Wt
