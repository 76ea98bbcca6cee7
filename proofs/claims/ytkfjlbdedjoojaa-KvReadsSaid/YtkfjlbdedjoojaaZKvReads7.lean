/- The law 'KvReads' returns true for all arguments: what its proof stands on, part 7. -/
import Derived.Test.YtkfjlbdedjoojaaZKvReads6
import Derived.OpenShut
namespace Go.Proofs.Ytkfjlbdedjoojaa.Am
open Go
set_option linter.unusedVariables false
set_option linter.unusedSimpArgs false
abbrev BL := List (Option Blk × Option Am.Loc)
def CompR (r : Rho) (k : Nat) (bl : BL) : Prop := ∀ i p, bl[i]? = some p → r (k + i) = p.2
def CompH (h : H) (k : Nat) (bl : BL) : Prop := ∀ i p, bl[i]? = some p → ∀ B, p.1 = some B → h.get (k + i) = some B
def BlkOK (W : World) (r : Rho) (p : Option Blk × Option Am.Loc) : Prop := ∀ B, p.1 = some B → ∃ L c e fz, p.2 = some L ∧ W.heap[L.b]? = some (.cells c e fz) ∧ L.es = B.es ∧ B.cells.length ≤ L.lim ∧ L.o + L.lim ≤ c.size ∧ B.ro = true ∧
  ∀ (i : Nat) (v : Value), B.cells[i]? = some v → v.oneCell' = true ∧ ∃ v', c[L.o + i]? = some v' ∧ VR r v v'
theorem CompR.left {r : Rho} {k : Nat} {a b : BL} (h : CompR r k (a ++ b)) : CompR r k a := fun i p hp => h i p (by rw [List.getElem?_append_left (List.getElem?_eq_some_iff.1 hp).1]; exact hp)
theorem CompR.right {r : Rho} {k : Nat} {a b : BL} (h : CompR r k (a ++ b)) : CompR r (k + a.length) b := fun i p hp => by
  have := h (a.length + i) p (by rw [List.getElem?_append_right (by omega), Nat.add_sub_cancel_left]; exact hp)
  rw [← this]; congr 1; omega
theorem CompH.left {r : H} {k : Nat} {a b : BL} (h : CompH r k (a ++ b)) : CompH r k a := fun i p hp => h i p (by rw [List.getElem?_append_left (List.getElem?_eq_some_iff.1 hp).1]; exact hp)
abbrev Lay (α : Type) := H → α → List Value → Prop
def Given (W : World) (k n : Nat) {α : Type} (L : Lay α) (ok : α → Prop) (cs : List Value) : Prop :=
  ∃ (a : α) (bl : BL) (acs : List Value), acs.length = n ∧ acs.all (·.oneCell') = true ∧ (∀ r, CompR r k bl → (∀ p ∈ bl, BlkOK W r p) ∧ VL r acs cs) ∧ (∀ h, CompH h k bl → L h a acs) ∧ ok a
def OpensL (P : Program) (t : TypeId) {α : Type} (L : Lay α) (n : Nat) (ok : α → Prop) : Prop :=
  P.cellsOf t = n ∧ ∀ {Hh : Type} (enc : TypeId × Value → Hh) (W : World) (held : Bool) (fuel : Nat) (cs : List Value) (x : DataW Hh × List MemPlace), DataW.trod enc P W 0 (fun _ => true) held fuel t cs = some x → ∀ k, Given W k n L ok cs
section
variable {P : Program} {t e : TypeId}
theorem given_plain {W : World} {k : Nat} {α : Type} {L : Lay α} {ok : α → Prop} {v : Value} (a : α) (hp : plain1 v = true) (hL : ∀ h, L h a [v]) (ho : ok a) : Given W k 1 L ok [v] :=
  ⟨a, [], [v], rfl, by simp [oneCell_of_plain1 hp], fun r _ => ⟨fun p hp => by simp at hp, VL.cons (VR.of_plain1 hp) (VL.nil r)⟩, fun h _ => hL h, ho⟩
def layStr : Lay (List UInt8) := fun _ a cs => cs = [.string (bs a)]
theorem OpensL.string (ht : P.underlying t = some .string) (hc : P.cellsOf t = 1) : OpensL P t layStr 1 (fun a => a.length < 9223372036854775808) := by
  refine ⟨hc, fun enc W held fuel cs x h k => ?_⟩
  obtain ⟨s, rfl, _, hs⟩ := DataW.trod_string ht h
  obtain ⟨l, rfl⟩ := bs_of s
  rw [bs_size] at hs
  exact given_plain l rfl (fun _ => rfl) (Nat.lt_succ_of_le hs)
end
theorem rel_bl {W : World} {bl : BL} (hb : ∀ p ∈ bl, BlkOK W (rhoL (bl.map Prod.snd)) p) : Rel W.heap.size (rhoL (bl.map Prod.snd)) (args (bl.map Prod.fst)) W := by
  have pick : ∀ k B, (args (bl.map Prod.fst)).get k = some B → ∃ p, bl[k]? = some p ∧ p.1 = some B := fun k B e => by
    rw [args_get, List.getElem?_map] at e
    cases ho : bl[k]? with
    | none => rw [ho] at e; cases e
    | some p => rw [ho] at e; exact ⟨p, rfl, by simpa using e⟩
  have loc : ∀ k p, bl[k]? = some p → rhoL (bl.map Prod.snd) k = p.2 := fun k p e => by simp [rhoL, List.getElem?_map, e]
  refine ⟨fun k B e => ?_, fun n m Bn Bm L M e1 e2 hne hro => ?_, fun n hn => ?_, Nat.le_refl _, fun n B L e hro hL => ?_, fun n B L c el fz q1 q2 => ?_⟩
  · obtain ⟨p, h1, h2⟩ := pick k B e
    obtain ⟨L, c, el, fz, g1, g2, g3, g4, g5, g6, g7⟩ := hb p (List.mem_of_getElem? h1) B h2
    exact ⟨L, c, el, fz, by rw [loc k p h1, g1], g2, g3, g4, g5, fun q => by (rw [g6] at q; cases q), g7⟩
  · obtain ⟨p, h1, h2⟩ := pick n Bn e1
    obtain ⟨_, _, _, _, _, _, _, _, _, g6, _⟩ := hb p (List.mem_of_getElem? h1) Bn h2
    rw [g6] at hro; cases hro
  · rw [args_next, List.length_map] at hn
    simp [rhoL, List.getElem?_eq_none (show bl.length ≤ n by omega)]
  · obtain ⟨p, h1, h2⟩ := pick n B e
    obtain ⟨L', c, el, fz, g1, g2, _⟩ := hb p (List.mem_of_getElem? h1) B h2
    rw [loc n p h1, g1] at hL; cases hL
    exact (Array.getElem?_eq_some_iff.1 g2).1
  · obtain ⟨p, h1, h2⟩ := pick n B q1
    obtain ⟨_, _, _, _, _, _, _, _, _, g6, _⟩ := hb p (List.mem_of_getElem? h1) B h2
    rw [g6] at q2; cases q2
theorem compR_rho (bl : BL) : CompR (rhoL (bl.map Prod.snd)) 0 bl := fun i p hp => by simp [rhoL, List.getElem?_map, hp]
theorem compH_args (bl : BL) : CompH (args (bl.map Prod.fst)) 0 bl := fun i p hp B hB => by
  rw [args_get, List.getElem?_map, Nat.zero_add, hp]; simp [hB]
theorem wf_args (bl : BL) : Mem (args (bl.map Prod.fst)) (args (bl.map Prod.fst)) [] [] := Mem.start fun n B e => by
  rw [args_get] at e; rw [args_next]
  rcases Nat.lt_or_ge n (bl.map Prod.fst).length with q | q
  · exact q
  · rw [List.getElem?_eq_none q] at e; cases e
def GivenA (W : World) (k : Nat) (us us' : List Value) (bl : BL) : Prop := ∀ r, CompR r k bl → (∀ p ∈ bl, BlkOK W r p) ∧ VL r us us'
theorem GivenA.nil {W : World} {k : Nat} : GivenA W k [] [] [] := fun r _ => ⟨fun p hp => by simp at hp, VL.nil r⟩
theorem GivenA.cons {W : World} {k : Nat} {u u' : Value} {us us' : List Value} {bl bl2 : BL} (h1 : ∀ r, CompR r k bl → (∀ p ∈ bl, BlkOK W r p) ∧ VR r u u') (h2 : GivenA W (k + bl.length) us us' bl2) : GivenA W k (u :: us) (u' :: us') (bl ++ bl2) := fun r hr =>
  ⟨fun p hp => (List.mem_append.1 hp).elim ((h1 r hr.left).1 p) ((h2 r hr.right).1 p), VL.cons (h1 r hr.left).2 (h2 r hr.right).2⟩
theorem given_one {W : World} {k : Nat} {bl : BL} {u v : Value} (h : ∀ r, CompR r k bl → (∀ p ∈ bl, BlkOK W r p) ∧ VL r [u] [v]) : ∀ r, CompR r k bl → (∀ p ∈ bl, BlkOK W r p) ∧ VR r u v := fun r hr =>
  ⟨(h r hr).1, (h r hr).2.2 0 u v rfl rfl⟩
theorem one_of {l : List Value} (h : l.length = 1) : ∃ u, l = [u] := by
  match l, h with
  | [u], _ => exact ⟨u, rfl⟩
theorem law_calls {P : Program} {tab : Nat → Option FD} (hD : DrawOK P) (hT : TabOK P tab) {f : Nat} {W : World} {bl : BL} {us us' : List Value} (hb : ∀ r, CompR r 0 bl → (∀ p ∈ bl, BlkOK W r p) ∧ VL r us us')
    (hw : Cll tab f us (args (bl.map Prod.fst)) (fun v _ => v = .bool true)) : Calls P f us'.toArray W fun e W' => e = .returned (.bool true) ∧ Go.RowKit.Below W.heap.size W W' := by
  obtain ⟨v, h2, ⟨n, hr⟩, rfl⟩ := hw
  obtain ⟨b1, b2⟩ := hb _ (compR_rho bl)
  have R := rel_bl b1
  refine (run_table hD hT n f W.heap.size _ _ W us us' _ _ hr b2 R).2.mono fun e W' he => ?_
  obtain ⟨r2, v', rfl, hv, _, F, _⟩ := he
  cases hv
  exact ⟨rfl, F.below R⟩
end Go.Proofs.Ytkfjlbdedjoojaa.Am
namespace Go.Proofs.Ytkfjlbdedjoojaa.Wt
open Go Go.Proofs.Ytkfjlbdedjoojaa.Am Go.Proofs.Ytkfjlbdedjoojaa.IrAll
set_option linter.unusedVariables false
set_option linter.unusedSimpArgs false
variable {h base h2 : H} {L : List Seg} {R : List Nat}
theorem opens_9 : OpensL Try.prog 9 layStr 1 (fun a => a.length < 9223372036854775808) := OpensL.string Try.underlying9 (by kernel_rfl)
end Go.Proofs.Ytkfjlbdedjoojaa.Wt
namespace Go.Proofs.Ytkfjlbdedjoojaa.Wt
open Go Go.Proofs.Ytkfjlbdedjoojaa.Am Go.Proofs.Ytkfjlbdedjoojaa.IrAll
set_option linter.unusedVariables false
set_option linter.unusedSimpArgs false
variable {h base h2 : H} {L : List Seg} {R : List Nat}
theorem awake16_ran (W : Mem h h [] []) : Cll tab0 10 [] h (fun v h2 => v = .bool true ∧ Mem h h2 [] []) := ⟨_, h, awake_run h, rfl, W⟩
end Go.Proofs.Ytkfjlbdedjoojaa.Wt
namespace Go.Proofs.Ytkfjlbdedjoojaa.Wt
open Go Go.Proofs.Ytkfjlbdedjoojaa.Am Go.Proofs.Ytkfjlbdedjoojaa.IrAll
open Go.Proofs.Ytkfjlbdedjoojaa.Am.WS renaming op → C
open List renaming length_singleton → D
open List renaming length_append → G
set_option linter.unusedVariables false
set_option linter.unusedSimpArgs false
variable {h base h2 : H} {L : List Seg} {R : List Nat}
theorem szF_snoc {F : List It} {i : Nat} {y : It} (hy : F[i]? = some y) : szF (F.take (i + 1)) = szF (F.take i) + (y.ky.length + y.va.length) := by
  rw [List.take_add_one, hy, szF_app]; simp [szF, szI]
theorem rSize_ran (W : Mem h h [] []) {V : Value} {F : List It} (A : KIt.Sl h V F) (hl : F.length ≤ 900000) (hz : szF F ≤ 4294967296) : Cll tab0 23 [V] h (fun v h2 => v = .int .i64 ((szF F : Nat) : Int) ∧ Mem h h2 [] []) := by
  obtain ⟨Pl, nl, rfl⟩ := A.shape
  refine Cll.code rfl rfl ?_
  refine WC.env [(0, _)] rfl ?_
  refine WC.seq (WC.run (C rfl rfl (WS.nil [(0, _)] rfl ?_)))
  refine WC.seq (WC.run (C rfl rfl (WS.nil [(0, _), (3, _)] rfl ?_)))
  refine WC.seq (WC.seq (WC.run (C rfl rfl (WS.nil [(0, _), (3, _), (4, _)] rfl ?_))))
  refine WC.block ?_
  obtain ⟨L1, eL3, M2⟩ := Mem.name W.bare
  refine WC.loop (σ := Nat × Nat) (fun ((n, i)) => [(0, (.slice Pl F.length nl)), (3, (.int .i64 ((n : Nat) : Int))), (4, (.int .i64 ((i : Nat) : Int)))]) (fun ((n, i)) hh => Mem h hh (L1) [] ∧ n = szF (F.take i) ∧ i ≤ F.length) (fun ((n, i)) => F.length - i) (0, 0) rfl ⟨M2, ?_⟩ ?_
  · exact ⟨rfl, by omega⟩
  ·rintro ⟨n, i⟩ h4 ⟨M5, ⟨hn, hi⟩⟩
   replace eL3 := eL3.symm; subst eL3
   refine WC.env [(0, _), (3, _), (4, _)] rfl ?_
   refine WC.seq (WC.seq (WC.run (C rfl rfl (C rfl rfl (C rfl (op_lenVS A rfl) ?_)))))
   refine WS.lssN (a := i) (b := (F).length) rfl rfl rfl (fun e8 => ?_) (fun e8 => ?_)
   ·
    refine WS.nil [(0, _), (3, _), (4, _), (8, _)] rfl ?_
    refine WC.condT rfl (WC.skip (WC.seq (WC.block (WC.draw M5 [] rfl ?_))))
    intro rb6 h7 M8
    refine C rfl rfl (C rfl rfl (C rfl rfl ?_))
    obtain ⟨y14, hy14⟩ : ∃ y, (F)[i]? = some y := ⟨_, List.getElem?_eq_getElem (show i < (F).length by first | omega | (simp only [List.length_drop, List.length_take, G, List.length_cons, List.length_nil, D]; omega) | (simp only [List.length_drop, List.length_take, G, List.length_cons, List.length_nil, D] at *; omega))⟩
    refine WS.iaVS A i hy14 rfl rfl rfl rfl ?_
    intro b14_ o14_ ha14
    have hsn := szF_snoc hy14
    have hst := sz_take (F := F) (i + 1)
    refine C rfl rfl (C rfl (op_ldH rfl (At.ld0 (ha14.mono M8.sub) rfl)) (C rfl (op_lenS (l := y14.ky) rfl) (WS.opV (.int .i64 (((n + (y14.ky).length) : Nat) : Int)) rfl rfl (add_i64 (a := n) (b := (y14.ky).length) (by omega)) (C rfl rfl (C rfl rfl ?_)))))
    refine WS.iaVS A i hy14 rfl rfl rfl rfl ?_
    intro b21_ o21_ ha21
    refine C rfl rfl (C rfl (op_ldH rfl (At.ld (k := 1) (ha21.mono M8.sub) rfl)) (C rfl (op_lenS (l := y14.va) rfl) (WS.opV (.int .i64 ((((n + (y14.ky).length) + (y14.va).length) : Nat) : Int)) rfl rfl (add_i64 (a := (n + (y14.ky).length)) (b := (y14.va).length) (by omega)) (C rfl rfl (WS.nil [(0, _), (3, _), (4, _)] rfl ?_)))))
    refine WC.run (C rfl rfl (WS.opV (.int .i64 (((i + 1) : Nat) : Int)) rfl rfl (add_i64 (a := i) (b := 1) (by omega)) (C rfl rfl (WS.nil [(0, _), (3, _), (4, _)] rfl ?_))))
    refine ⟨(((n + (y14.ky).length) + (y14.va).length), i + 1), rfl, ⟨(M8.bare.bare.take 0), ?_⟩, ?_⟩
    · exact ⟨by omega, by omega⟩
    · simp only []; omega
   ·
    refine WS.nil [(0, _), (3, _), (4, _), (8, _)] rfl ?_
    refine WC.condF rfl (WC.exit ?_)
    refine WC.seq (WC.run (C rfl rfl (C rfl rfl (WS.nil [(2, _)] rfl ?_))))
    refine WC.ret (⟨[_], (res_tmp rfl res_nil), ?_⟩)
    have e : n = szF F := by rw [hn, List.take_of_length_le (by omega)]
    subst e
    exact ⟨rfl, M5.bare.take 0⟩
set_option maxRecDepth 8000 in
theorem rWrite_ran (W : Mem h h [] []) {V : Value} {s : KS} (A : KIt.Sl h V s.F) (hok : KOk s) (hl : s.F.length ≤ 800000) (hv : s.v < 18446744073709551616) : Cll tab0 24 [.agg #[V, .int .i64 (s.K : Int), .int .i64 (s.M : Int), .int .u64 (s.v : Int)]] h (fun u h2 => u = .string (bs (wrK s)) ∧ Mem h h2 [] []) := by
  obtain ⟨Pl, nl, rfl⟩ := A.shape
  have hm2 : szF s.F ≤ 2147483647 := Nat.le_trans hok.sz hok.M
  have hK : s.K ≤ 2147483647 := hok.K
  have hMx : s.M ≤ 2147483647 := hok.M
  refine Cll.code rfl rfl ?_
  refine WC.env [(0, _)] rfl ?_
  refine WC.seq (WC.run (WS.box W [_, _, _, _] rfl rfl rfl rfl ?_))
  intro p1 h2 M3
  refine C rfl rfl (WS.nil [(1, _)] rfl ?_)
  refine WC.seq (WC.run (C rfl rfl (C rfl (op_ld (M3.at 0 rfl) rfl rfl) (WS.opV (.int .u64 ((s.K : Nat) : Int)) rfl rfl (cv_u64 (n := s.K) (by omega)) (C rfl rfl (C rfl (op_ld (M3.at 0 rfl) rfl rfl) (WS.opV (.int .u64 ((s.M : Nat) : Int)) rfl rfl (cv_u64 (n := s.M) (by omega)) (C rfl rfl (C rfl (op_ld (M3.at 0 rfl) rfl rfl) (C rfl rfl (C rfl (op_ld (M3.at 0 rfl) rfl rfl) ?_)))))))))))
  refine C rfl (op_lenVS A rfl) (WS.opV (.int .u64 (((s.F).length : Nat) : Int)) rfl rfl (cv_u64 (n := (s.F).length) (by omega)) ?_)
  refine WS.bsl M3 [_, _, _, _] rfl rfl rfl rfl ?_
  intro p4 h5 M6
  refine WS.call rfl rfl rfl (ref_V_ran M6.here (Row.Sl.own (K := KNat) (l := [s.K, s.M, s.v, (s.F).length]) (M6.at 0 rfl)) (by intro n hn; simp only [List.mem_cons, List.mem_nil_iff, or_false] at hn; omega) (by simp) (r := ((vb s.K) ++ (vb s.M) ++ (vb s.v) ++ (vb ((s.F).length)))) (by simp [List.flatMap])) ?_
  rintro _ h7 ⟨rfl, N8⟩
  have M9 := M6.trans N8
  refine C rfl rfl (WS.nil [(1, _), (3, _)] rfl ?_)
  refine WC.seq (WC.seq (WC.run (C rfl rfl (WS.nil [(1, _), (3, _), (4, _)] rfl ?_))))
  refine WC.block ?_
  obtain ⟨L10, eL12, M11⟩ := Mem.name M9.bare
  refine WC.loop (σ := List UInt8 × Nat) (fun ((out, i)) => [(1, (.pointer (some ⟨p1, 0, none⟩))), (3, (.string (bs out))), (4, (.int .i64 ((i : Nat) : Int)))]) (fun ((out, i)) hh => Mem h hh (L10) [] ∧ out = (vb s.K ++ vb s.M ++ vb s.v ++ vb s.F.length) ++ (s.F.take i).flatMap rowW ∧ i ≤ s.F.length) (fun ((out, i)) => s.F.length - i) (((vb s.K) ++ (vb s.M) ++ (vb s.v) ++ (vb ((s.F).length))), 0) rfl ⟨M11, ?_⟩ ?_
  · exact ⟨by simp, by omega⟩
  ·rintro ⟨out, i⟩ h13 ⟨M14, ⟨hE, hi⟩⟩
   replace eL12 := eL12.symm; subst eL12
   refine WC.env [(1, _), (3, _), (4, _)] rfl ?_
   refine WC.seq (WC.seq (WC.run (C rfl rfl (C rfl rfl (C rfl (op_ld (M14.at 1 rfl) rfl rfl) (C rfl (op_lenVS A rfl) ?_))))))
   refine WS.lssN (a := i) (b := (s.F).length) rfl rfl rfl (fun e23 => ?_) (fun e23 => ?_)
   ·
    refine WS.nil [(1, _), (3, _), (4, _), (23, _)] rfl ?_
    refine WC.condT rfl (WC.skip (WC.seq (WC.block (WC.draw M14 [13, 28] rfl ?_))))
    intro rb15 h16 M17
    refine C rfl rfl (C rfl rfl (C rfl (op_ld (M17.at 1 rfl) rfl rfl) (C rfl rfl ?_)))
    obtain ⟨y30, hy30⟩ : ∃ y, (s.F)[i]? = some y := ⟨_, List.getElem?_eq_getElem (show i < (s.F).length by first | omega | (simp only [List.length_drop, List.length_take, G, List.length_cons, List.length_nil, D]; omega) | (simp only [List.length_drop, List.length_take, G, List.length_cons, List.length_nil, D] at *; omega))⟩
    refine WS.iaVS A i hy30 rfl rfl rfl rfl ?_
    intro b30_ o30_ ha30
    have hfl := flatMap_take_le s.F i rowW
    have hrl := rows_len hm2
    have hhl := head_len (a := s.K) (b := s.M) (c := s.v) (d := s.F.length) (by omega) (by omega) (by omega) (by omega)
    have hyl := szI_le (List.mem_of_getElem? hy30)
    simp only [szI] at hyl
    have hyv := UInt64.toNat_lt y30.vn
    have hyz := UInt64.toNat_lt y30.ls
    have hb1 := sb_len (t := y30.ky) (by omega)
    have hb2 := sb_len (t := y30.va) (by omega)
    have hb3 := vb_len hyv
    have hb4 := vb_len hyz
    have hol := congrArg List.length hE
    rw [G] at hol
    refine C rfl rfl (C rfl (op_ldH rfl (At.ld0 (ha30.mono M17.sub) rfl)) (C rfl rfl (C rfl (op_ld (M17.at 1 rfl) rfl rfl) (C rfl rfl ?_))))
    refine WS.iaVS A i hy30 rfl rfl rfl rfl ?_
    intro b36_ o36_ ha36
    refine C rfl rfl (C rfl (op_ldH rfl (At.ld (k := 1) (ha36.mono M17.sub) rfl)) (C rfl rfl (C rfl (op_ld (M17.at 1 rfl) rfl rfl) (C rfl rfl ?_))))
    refine WS.iaVS A i hy30 rfl rfl rfl rfl ?_
    intro b45_ o45_ ha45
    refine C rfl rfl (C rfl (op_ldH rfl (At.ld (k := 2) (ha45.mono M17.sub) rfl)) (C rfl rfl (C rfl (op_ld (M17.at 1 rfl) rfl rfl) (C rfl rfl ?_))))
    refine WS.iaVS A i hy30 rfl rfl rfl rfl ?_
    intro b51_ o51_ ha51
    refine C rfl rfl (C rfl (op_ldH rfl (At.ld (k := 3) (ha51.mono M17.sub) rfl)) ?_)
    refine WS.bslA M17 [_, _] 0 rfl rfl rfl rfl rfl ?_
    intro h19 M20
    refine WS.call rfl rfl rfl (ref_S_ran M20.here (Row.Sl.own (K := KStr) (l := [y30.ky, y30.va]) (M20.at 0 rfl)) (by simp only [List.map_cons, List.map_nil, List.sum_cons, List.sum_nil, List.length_cons, List.length_nil]; omega) (r := ((sb y30.ky) ++ (sb y30.va))) (by simp [List.flatMap])) ?_
    rintro _ h21 ⟨rfl, N22⟩
    have M23 := M20.trans N22
    refine WS.chk rfl (op_ld (M23.at 2 rfl) rfl rfl) rfl (same_sl _ _ _) (WS.chk rfl (op_ldH rfl (At.ld (k := 2) (ha45.mono M23.sub) rfl)) rfl (sameV_refl rfl) (WS.chk rfl (op_ld (M23.at 2 rfl) rfl rfl) rfl (same_sl _ _ _) (WS.chk rfl (op_ldH rfl (At.ld (k := 3) (ha51.mono M23.sub) rfl)) rfl (sameV_refl rfl) (C rfl (op_sadd (l := out) (m := ((sb y30.ky) ++ (sb y30.va))) rfl rfl (by first | omega | (simp only [List.length_drop, List.length_take, G, List.length_cons, List.length_nil, D]; omega) | (simp only [List.length_drop, List.length_take, G, List.length_cons, List.length_nil, D] at *; omega))) ?_))))
    refine WS.bslA M23 [_, _] 0 rfl rfl rfl rfl rfl ?_
    intro h25 M26
    refine WS.call rfl rfl rfl (ref_V_ran M26.here (Row.Sl.own (K := KNat) (l := [(y30.vn).toNat, (y30.ls).toNat]) (M26.at 0 rfl)) (by intro n hn; simp only [List.mem_cons, List.mem_nil_iff, or_false] at hn; omega) (by simp) (r := ((vb ((y30.vn).toNat)) ++ (vb ((y30.ls).toNat)))) (by simp [List.flatMap])) ?_
    rintro _ h27 ⟨rfl, N28⟩
    have M29 := M26.trans N28
    refine C rfl (op_sadd (l := (out ++ ((sb y30.ky) ++ (sb y30.va)))) (m := ((vb ((y30.vn).toNat)) ++ (vb ((y30.ls).toNat)))) rfl rfl (by first | omega | (simp only [List.length_drop, List.length_take, G, List.length_cons, List.length_nil, D]; omega) | (simp only [List.length_drop, List.length_take, G, List.length_cons, List.length_nil, D] at *; omega))) (C rfl rfl (WS.nil [(1, _), (3, _), (4, _)] rfl ?_))
    refine WC.run (C rfl rfl (WS.opV (.int .i64 (((i + 1) : Nat) : Int)) rfl rfl (add_i64 (a := i) (b := 1) (by omega)) (C rfl rfl (WS.nil [(1, _), (3, _), (4, _)] rfl ?_))))
    refine ⟨(((out ++ ((sb y30.ky) ++ (sb y30.va))) ++ ((vb ((y30.vn).toNat)) ++ (vb ((y30.ls).toNat)))), i + 1), rfl, ⟨(((M29.bare.bare.focus 3 rfl).focus 3 rfl).take 2), ?_⟩, ?_⟩
    · exact ⟨by rw [hE, flatMap_take_succ rowW hy30]; simp [rowW], by omega⟩
    · simp only []; omega
   ·
    refine WS.nil [(1, _), (3, _), (4, _), (23, _)] rfl ?_
    refine WC.condF rfl (WC.exit ?_)
    refine WC.seq (WC.run (C rfl rfl (C rfl rfl (WS.nil [(2, _)] rfl ?_))))
    refine WC.ret (⟨[_], (res_tmp rfl res_nil), ?_⟩)
    have e : wrK s = out := by rw [hE, List.take_of_length_le (by omega)]; rfl
    rw [e]
    exact ⟨rfl, M14.bare.take 0⟩
end Go.Proofs.Ytkfjlbdedjoojaa.Wt
namespace Go.Proofs.Ytkfjlbdedjoojaa.Wt
open Go Go.Proofs.Ytkfjlbdedjoojaa.Am Go.Proofs.Ytkfjlbdedjoojaa.IrAll
set_option linter.unusedVariables false
set_option linter.unusedSimpArgs false
variable {h base h2 : H} {L : List Seg} {R : List Nat}
def vbU (c : UInt64) : List UInt8 := vb c.toNat
theorem n64v {c : UInt64} {a : UInt64} {x t : List UInt8} (h : vbU a ++ x = vbU c ++ t) : a = c ∧ x = t := by
  obtain ⟨e1, _, e3⟩ := rv_of (s := vbU a ++ x) a.toNat_lt rfl
  obtain ⟨f1, _, f3⟩ := rv_of c.toNat_lt h
  exact ⟨UInt64.toNat_inj.1 (e1.symm.trans f1), e3.symm.trans f3⟩
theorem flatU_split : ∀ {ns c : List UInt64} {x t : List UInt8}, ns.length ≤ c.length → ns.flatMap vbU ++ x = c.flatMap vbU ++ t → ns = c.take ns.length ∧ x = (c.drop ns.length).flatMap vbU ++ t := by
  intro ns
  induction ns with
  | nil => intro c x t _ h; exact ⟨rfl, h⟩
  | cons a ns ih =>
    intro c x t hl h
    cases c with
    | nil => simp at hl
    | cons b c =>
      simp only [List.flatMap_cons, List.append_assoc] at h
      obtain ⟨rfl, h2⟩ := n64v h
      obtain ⟨i1, i2⟩ := ih (by simpa using hl) h2
      exact ⟨by simp only [List.length_cons, List.take_succ_cons]; rw [← i1], i2⟩
theorem rv_snd {s : List UInt8} (h : rvOK s = true) : s = vbU (UInt64.ofNat (rvN s)) ++ s.drop (rvK s) := by
  have e1 := (numG_some (show numG s = some (rvN s, rvK s) by rw [numG_eq, h]; rfl)).1
  unfold vbU
  rw [u64_back (rvN_lt s)]; exact e1
theorem rs_snd {s : List UInt8} (h : rsOK s = true) : s = sb (rsT s) ++ s.drop (rsK s) := (getS_some (show getS s = some (rsT s, rsK s) by rw [getS_eq, h]; rfl)).1
theorem head_step {s : List UInt8} {ns : List UInt64} {a : Nat} (h : s = ns.flatMap vbU ++ s.drop a) (hk : rvOK (s.drop a) = true) : s = (ns ++ [UInt64.ofNat (rvN (s.drop a))]).flatMap vbU ++ s.drop (a + rvK (s.drop a)) := by
  have e2 := rv_snd hk
  rw [List.drop_drop] at e2
  conv => lhs; rw [h, e2]
  simp
def headU (T : KS) : List UInt64 := [UInt64.ofNat T.K, UInt64.ofNat T.M, UInt64.ofNat T.v, UInt64.ofNat T.F.length]
theorem wr_head {T : KS} (g : KGood T) : wrK T = (headU T).flatMap vbU ++ T.F.flatMap rowW := by
  have h1 := g.ok.K; have h2 := g.ok.M; have h3 := g.v; have h4 := g.ok.len
  simp [wrK, headU, vbU, -UInt64.toNat_ofNat', u64_back (show T.K < 18446744073709551616 by omega), u64_back (show T.M < 18446744073709551616 by omega), u64_back h3, u64_back (show T.F.length < 18446744073709551616 by omega)]
theorem head_no {s : List UInt8} {ns : List UInt64} {a : Nat} (hn : ns.length < 4) (h : s = ns.flatMap vbU ++ s.drop a) (hk : rvOK (s.drop a) = false) (T : KS) (g : KGood T) : wrK T ≠ s := by
  intro e
  rw [wr_head g] at e
  obtain ⟨_, e2⟩ := flatU_split (c := headU T) (by show _ ≤ 4; omega) (h.symm.trans e.symm)
  have e3 : (headU T).drop ns.length = (headU T)[ns.length]'(by show _ < 4; omega) :: (headU T).drop (ns.length + 1) := List.drop_eq_getElem_cons _
  rw [e3, List.flatMap_cons, List.append_assoc] at e2
  have := (rv_of (UInt64.toNat_lt _) e2).2.1
  rw [hk] at this; cases this
theorem head_pro {s x : List UInt8} {ns : List UInt64} (hn : ns.length = 4) (h : s = ns.flatMap vbU ++ x) {T : KS} (g : KGood T) (e : wrK T = s) : ns = headU T ∧ x = T.F.flatMap rowW := by
  rw [wr_head g] at e
  obtain ⟨e1, e2⟩ := flatU_split (c := headU T) (by show _ ≤ 4; omega) (h.symm.trans e.symm)
  rw [hn] at e1 e2
  exact ⟨e1, e2⟩
theorem headU_get {T : KS} (g : KGood T) {ns : List UInt64} (q : ns = headU T) : (∀ y, ns[0]? = some y → y.toNat = T.K) ∧ (∀ y, ns[1]? = some y → y.toNat = T.M) ∧ (∀ y, ns[2]? = some y → y.toNat = T.v) ∧ (∀ y, ns[3]? = some y → y.toNat = T.F.length) := by
  have h1 := g.ok.K; have h2 := g.ok.M; have h3 := g.v; have h4 := g.ok.len
  subst q
  refine ⟨fun y hy => ?_, fun y hy => ?_, fun y hy => ?_, fun y hy => ?_⟩
  · cases hy; exact u64_back (by omega)
  · cases hy; exact u64_back (by omega)
  · cases hy; exact u64_back (by omega)
  · cases hy; exact u64_back (by omega)
theorem four {l : List UInt64} {a b c d : UInt64} (h : l.length = 4) (h0 : l[0]? = some a) (h1 : l[1]? = some b) (h2 : l[2]? = some c) (h3 : l[3]? = some d) : l = [a, b, c, d] := by
  match l, h with
  | [x, y, z, w], _ => simp at h0 h1 h2 h3; subst h0 h1 h2 h3; rfl
theorem rows_big {F : List It} : F.length + szF F ≤ (F.flatMap rowW).length := by
  induction F with
  | nil => simp [szF]
  | cons x F ih =>
    have := vb_length x.vn.toNat
    rw [szF_cons, List.flatMap_cons, List.length_append, List.length_cons]
    have e : (rowW x).length = ((sb x.ky).length + (sb x.va).length) + ((vb x.vn.toNat).length + (vb x.ls.toNat).length) := by simp [rowW]; omega
    have e1 : (sb x.ky).length = (vb x.ky.length).length + x.ky.length := by simp [sb]
    have e2 : (sb x.va).length = (vb x.va.length).length + x.va.length := by simp [sb]
    simp only [szI]
    omega
theorem row_pro {s : List UInt8} {a i : Nat} {T : KS} (g : KGood T) (hi : i < T.F.length) (h : s.drop a = (T.F.drop i).flatMap rowW) : ∃ y, T.F[i]? = some y ∧ rsOK (s.drop a) = true ∧ rsT (s.drop a) = y.ky ∧ rsOK (s.drop (a + rsK (s.drop a))) = true ∧ rsT (s.drop (a + rsK (s.drop a))) = y.va ∧ rvOK (s.drop (a + rsK (s.drop a) + rsK (s.drop (a + rsK (s.drop a))))) = true ∧ rvN (s.drop (a + rsK (s.drop a) + rsK (s.drop (a + rsK (s.drop a))))) = y.vn.toNat ∧
    rvOK (s.drop (a + rsK (s.drop a) + rsK (s.drop (a + rsK (s.drop a))) + rvK (s.drop (a + rsK (s.drop a) + rsK (s.drop (a + rsK (s.drop a))))))) = true ∧ rvN (s.drop (a + rsK (s.drop a) + rsK (s.drop (a + rsK (s.drop a))) + rvK (s.drop (a + rsK (s.drop a) + rsK (s.drop (a + rsK (s.drop a))))))) = y.ls.toNat ∧
    s.drop (a + rsK (s.drop a) + rsK (s.drop (a + rsK (s.drop a))) + rvK (s.drop (a + rsK (s.drop a) + rsK (s.drop (a + rsK (s.drop a))))) + rvK (s.drop (a + rsK (s.drop a) + rsK (s.drop (a + rsK (s.drop a))) + rvK (s.drop (a + rsK (s.drop a) + rsK (s.drop (a + rsK (s.drop a)))))))) = (T.F.drop (i + 1)).flatMap rowW := by
  obtain ⟨y, hy⟩ : ∃ y, T.F[i]? = some y := ⟨_, List.getElem?_eq_getElem hi⟩
  have hm := List.mem_of_getElem? hy
  have hz := szI_le hm
  have hz2 := g.ok.sz; have hz3 := g.ok.M
  simp only [szI] at hz
  rw [drop_at hy, List.flatMap_cons] at h
  obtain ⟨a1, a2, a3⟩ := rs_of (s := s.drop a) (k := y.ky) (t := sb y.va ++ (vb y.vn.toNat ++ (vb y.ls.toNat ++ (T.F.drop (i + 1)).flatMap rowW))) (by omega) (by rw [h]; simp [rowW])
  rw [List.drop_drop] at a3
  obtain ⟨b1, b2, b3⟩ := rs_of (by omega) a3
  rw [List.drop_drop] at b3
  obtain ⟨c1, c2, c3⟩ := rv_of y.vn.toNat_lt b3
  rw [List.drop_drop] at c3
  obtain ⟨d1, d2, d3⟩ := rv_of y.ls.toNat_lt c3
  rw [List.drop_drop] at d3
  exact ⟨y, hy, a2, a1, b2, b1, c2, c1, d2, d1, d3⟩
theorem eq_row {s x : List UInt8} {a : Nat} {F : List It} (h : s = x ++ F.flatMap rowW ++ s.drop a) (h1 : rsOK (s.drop a) = true) (h2 : rsOK (s.drop (a + rsK (s.drop a))) = true) (h3 : rvOK (s.drop (a + rsK (s.drop a) + rsK (s.drop (a + rsK (s.drop a))))) = true) (h4 : rvOK (s.drop (a + rsK (s.drop a) + rsK (s.drop (a + rsK (s.drop a))) + rvK (s.drop (a + rsK (s.drop a) + rsK (s.drop (a + rsK (s.drop a))))))) = true) :
    s = x ++ (F ++ [(⟨rsT (s.drop a), rsT (s.drop (a + rsK (s.drop a))), UInt64.ofNat (rvN (s.drop (a + rsK (s.drop a) + rsK (s.drop (a + rsK (s.drop a)))))), UInt64.ofNat (rvN (s.drop (a + rsK (s.drop a) + rsK (s.drop (a + rsK (s.drop a))) + rvK (s.drop (a + rsK (s.drop a) + rsK (s.drop (a + rsK (s.drop a))))))))⟩ : It)]).flatMap rowW ++ s.drop (a + rsK (s.drop a) + rsK (s.drop (a + rsK (s.drop a))) + rvK (s.drop (a + rsK (s.drop a) + rsK (s.drop (a + rsK (s.drop a))))) + rvK (s.drop (a + rsK (s.drop a) + rsK (s.drop (a + rsK (s.drop a))) + rvK (s.drop (a + rsK (s.drop a) + rsK (s.drop (a + rsK (s.drop a)))))))) := by
  have e1 := rs_snd h1
  rw [List.drop_drop] at e1
  have e2 := rs_snd h2
  rw [List.drop_drop] at e2
  have e3 := rv_snd h3
  rw [List.drop_drop] at e3
  have e4 := rv_snd h4
  rw [List.drop_drop] at e4
  generalize a + rsK (s.drop a) = a1 at *
  generalize a1 + rsK (s.drop a1) = a2 at *
  generalize a2 + rvK (s.drop a2) = a3 at *
  generalize a3 + rvK (s.drop a3) = a4 at *
  conv => lhs; rw [h, e1, e2, e3, e4]
  simp [rowW, vbU]
end Go.Proofs.Ytkfjlbdedjoojaa.Wt
namespace Go.Proofs.Ytkfjlbdedjoojaa.Wt
open Go Go.Proofs.Ytkfjlbdedjoojaa.Am Go.Proofs.Ytkfjlbdedjoojaa.IrAll
open Nat renaming le_of_ble_eq_true → C
open Go.Proofs.Ytkfjlbdedjoojaa.Am.WS renaming op → D
open Go.Proofs.Ytkfjlbdedjoojaa.Am.WS renaming off → G
open List renaming length_drop → J
open List renaming length_nil → U
open List renaming length_singleton → X
open List renaming length_cons → Y
open List renaming length_append → AQ
open Go.Proofs.Ytkfjlbdedjoojaa.Am.WS renaming nil → AX
open Go.Proofs.Ytkfjlbdedjoojaa.Am.WC renaming seq → AZ
open List renaming length_take → BQ
open Go.Proofs.Ytkfjlbdedjoojaa.Am.WC renaming run → BX
open Go.Proofs.Ytkfjlbdedjoojaa.Am.WS renaming opV → BZ
set_option linter.unusedVariables false
set_option linter.unusedSimpArgs false
variable {h base h2 : H} {L : List Seg} {R : List Nat}
theorem head_four {s x : List UInt8} {ns : List UInt64} {a b c d : UInt64} (h : s = ns.flatMap vbU ++ x) (q : ns = [a, b, c, d]) : s = (vb a.toNat ++ vb b.toNat ++ vb c.toNat ++ vb d.toNat) ++ x := by
  subst q; rw [h]; simp [vbU]
theorem last_all {F : List It} {y : It} {k : List UInt8} (hs : SrtI F) (hy : F[F.length - 1]? = some y) (hk : kL y.ky k) : ∀ x ∈ F, kL x.ky k := by
  intro x hx
  obtain ⟨j, hj, rfl⟩ := List.getElem_of_mem hx
  by_cases c : j = F.length - 1
  · subst c
    rw [List.getElem?_eq_getElem hj] at hy
    rw [Option.some.inj hy]; exact hk
  · exact kL_tr (srt_get hs (i := j) (j := F.length - 1) (by omega) (List.getElem?_eq_getElem hj) hy) hk
set_option maxRecDepth 8000 in
set_option maxHeartbeats 4000000 in
theorem rRead_ran (W : Mem h h [] []) {s : List UInt8} (hl : s.length ≤ 700000) : Cll tab0 26 [.string (bs s)] h (fun u h2 => (∃ P c T S, u = .tuple #[.agg #[.slice P (KS.F T).length c, .int .i64 (T.K : Int), .int .i64 (T.M : Int), .int .u64 (T.v : Int)], .bool true] ∧ KIt.Own (.slice P T.F.length c) T.F S ∧ KGood T ∧ wrK T = s ∧ Mem h h2 [S] []) ∨ (u = .tuple #[.agg #[.slice none 0 0, .int .i64 0, .int .i64 0, .int .u64 0], .bool false] ∧ (∀ T0, KGood T0 → wrK T0 ≠ s) ∧ Mem h h2 [] [])) := by
  refine Cll.code rfl rfl ?_
  refine WC.env [(0, _)] rfl ?_
  refine AZ (BX (WS.new W rfl ?_))
  intro p1 h2 M3
  refine D rfl rfl (AX [(0, _), (2, _)] rfl ?_)
  refine AZ (BX (D rfl rfl (AX [(0, _), (2, _), (4, _)] rfl ?_)))
  refine AZ (BX (D rfl rfl (AX [(0, _), (2, _), (4, _), (5, _)] rfl ?_)))
  refine AZ (AZ (BX (D rfl rfl (AX [(0, _), (2, _), (4, _), (5, _), (6, _)] rfl ?_))))
  refine WC.block ?_
  obtain ⟨L4, eL6, M5⟩ := Mem.name1 ((M3.bare).nils)
  refine WC.loop (σ := Option Addr × Seg × List UInt64 × Nat × Nat) (fun ((P_, S_, ns, at_, i)) => [(0, (.string (bs s))), (2, (.pointer (some ⟨p1, 0, none⟩))), (4, (.int .i64 ((at_ : Nat) : Int))), (5, (.slice P_ ns.length (2 * ns.length))), (6, (.int .i64 ((i : Nat) : Int)))]) (fun ((P_, S_, ns, at_, i)) hh => Mem h hh (S_ :: L4) [] ∧ KU64.Own (.slice P_ ns.length (2 * ns.length)) ns S_ ∧ ns.length = i ∧ i ≤ 4 ∧ at_ ≤ s.length ∧ s = ns.flatMap vbU ++ s.drop at_) (fun ((P_, S_, ns, at_, i)) => 4 - i) (none, _, [], 0, 0) rfl ⟨M5, ?_⟩ ?_
  · exact ⟨.nil, rfl, by omega, by omega, rfl⟩
  ·rintro ⟨P_, S_, ns, at_, i⟩ h7 ⟨M8, ⟨hO, hnl, hi, hat, hE⟩⟩
   replace eL6 := eL6.symm; subst eL6
   refine WC.env [(0, _), (2, _), (4, _), (5, _), (6, _)] rfl ?_
   refine AZ (AZ (BX (D rfl rfl ?_)))
   refine WS.lssN (a := i) (b := 4) rfl rfl rfl (fun e23 => ?_) (fun e23 => ?_)
   ·
    refine AX [(0, _), (2, _), (4, _), (5, _), (6, _), (23, _)] rfl ?_
    refine WC.condT rfl (WC.skip (AZ (WC.block (AZ (BX (D rfl rfl (D rfl rfl (D rfl (op_slS0 (l := s) at_ rfl rfl (by omega)) ?_))))))))
    refine WS.call rfl rfl rfl (ref_ReadV_ran M8.here (l := ((s).drop at_)) (by first | omega | (simp only [J, BQ, AQ, Y, U, X]; omega) | (simp only [J, BQ, AQ, Y, U, X] at *; omega))) ?_
    rintro _ h9 ⟨rfl, N10⟩
    have M11 := M8.trans N10
    refine D rfl rfl (BZ (.int .u64 (((UInt64.ofNat (rvN ((s).drop at_))).toNat : Nat) : Int)) rfl rfl (u64_ofNat (n := (rvN ((s).drop at_))) (by have := rvN_lt ((s).drop at_); omega)) (D rfl rfl (D rfl rfl (D rfl rfl (D rfl rfl (D rfl rfl (AX [(0, _), (2, _), (4, _), (5, _), (6, _), (7, _), (8, _), (9, _)] rfl ?_)))))))
    refine AZ (AZ (BX (D rfl rfl ?_)))
    cases hb1 : (rvOK ((s).drop at_))
    ·
     refine BZ (.bool true) rfl rfl rfl (AX [(0, _), (2, _), (4, _), (5, _), (6, _), (7, _), (8, _), (35, _)] rfl ?_)
     refine WC.condT rfl (AZ (BX (BZ (.agg #[(.slice none 0 0), (.int .i64 (0 : Int)), (.int .i64 (0 : Int)), (.int .u64 (0 : Int))]) rfl rfl rfl ?_)))
     refine WS.st1 (M11.focus 1 rfl) [_, _, _, _] [_, _, _, _] rfl rfl rfl rfl rfl (C rfl) (C rfl) rfl rfl ?_
     intro h13 M14
     replace M14 : Mem _ _ ([(p1, _)] :: S_ :: []) _ := M14
     refine D rfl rfl (AX [(2, _), (3, _)] rfl ?_)
     refine WC.ret (⟨[_, _], (res_cellN [_, _, _, _] rfl (M14.at 0 rfl) (C rfl) rfl (res_tmp rfl res_nil)), ?_⟩)
     have hno : ∀ T0, KGood T0 → wrK T0 ≠ s := head_no (by omega) hE (by assumption)
     exact .inr ⟨rfl, hno, M14.bare.take 0⟩
    ·
     refine BZ (.bool false) rfl rfl rfl (AX [(0, _), (2, _), (4, _), (5, _), (6, _), (7, _), (8, _), (35, _)] rfl ?_)
     refine WC.condF rfl (WC.skip (AZ (BX (D rfl rfl (D rfl rfl ?_)))))
     refine WS.bsl M11 [_] rfl rfl rfl rfl ?_
     intro p15 h16 M17
     refine WS.app (l := ns) (m := [UInt64.ofNat (rvN (s.drop at_))]) (hO) (M17.focus 1 rfl) (Row.Src.one (K := KU64) (m := [UInt64.ofNat (rvN (s.drop at_))]) (M17.at 0 rfl)) rfl (by simp only [Y, U]; omega) (by simp only [Y, U]; omega) rfl rfl rfl ?_
     intro V18 S19 h20 O21 M22
     obtain ⟨P23, rfl⟩ := Row.Own.shape O21
     refine D rfl rfl (AX [(0, _), (2, _), (4, _), (5, _), (6, _), (8, _)] rfl ?_)
     refine BX (D rfl rfl (D rfl rfl (BZ (.int .i64 (((at_ + (rvK ((s).drop at_))) : Nat) : Int)) rfl rfl (add_i64 (a := at_) (b := (rvK ((s).drop at_))) (by have := rvK_le ((s).drop at_); have := (rvK_le (s.drop at_)).1; rw [J] at this; omega)) (D rfl rfl (AX [(0, _), (2, _), (4, _), (5, _), (6, _)] rfl ?_)))))
     refine BX (D rfl rfl (BZ (.int .i64 (((i + 1) : Nat) : Int)) rfl rfl (add_i64 (a := i) (b := 1) (by omega)) (D rfl rfl (AX [(0, _), (2, _), (4, _), (5, _), (6, _)] rfl ?_))))
     refine ⟨(P23, S19, (ns ++ [UInt64.ofNat (rvN (s.drop at_))]), _, i + 1), rfl, ⟨(((M22.bare.focus 2 rfl).focus 1 rfl).take 2), ?_⟩, ?_⟩
     · exact ⟨O21, by simp [hnl], by omega, by have := (rvK_le (s.drop at_)).1; rw [J] at this; omega, head_step hE (by assumption)⟩
     · simp only []; omega
   ·
    refine AX [(0, _), (2, _), (4, _), (5, _), (6, _), (23, _)] rfl ?_
    refine WC.condF rfl (WC.exit ?_)
    refine AZ (AZ (BX ?_))
    have hn4 : ns.length = 4 := by omega
    refine D rfl rfl ?_
    obtain ⟨y45, hy45⟩ : ∃ y, (ns)[0]? = some y := ⟨_, List.getElem?_eq_getElem (show 0 < (ns).length by first | omega | (simp only [J, BQ, AQ, Y, U, X]; omega) | (simp only [J, BQ, AQ, Y, U, X] at *; omega))⟩
    refine WS.iaVS (Row.Own.sl hO (Mem.owni M8 0 rfl)) 0 hy45 rfl rfl rfl rfl ?_
    intro b45_ o45_ ha45
    refine D rfl (op_ldH rfl (At.ld0 ha45 rfl)) ?_
    refine WS.gtrN (a := (y45).toNat) (b := 2147483647) rfl rfl rfl (fun e47 => ?_) (fun e47 => ?_)
    ·
     refine D rfl rfl (G rfl (G rfl (G rfl (G rfl (D rfl rfl (D rfl rfl (G rfl (G rfl (G rfl ?_)))))))))
     refine G rfl (G rfl (G rfl (G rfl (D rfl rfl (AX [(0, _), (2, _), (4, _), (5, _), (62, _)] rfl ?_)))))
     refine WC.condT rfl (AZ (BX (BZ (.agg #[(.slice none 0 0), (.int .i64 (0 : Int)), (.int .i64 (0 : Int)), (.int .u64 (0 : Int))]) rfl rfl rfl ?_)))
     refine WS.st1 (M8.focus 1 rfl) [_, _, _, _] [_, _, _, _] rfl rfl rfl rfl rfl (C rfl) (C rfl) rfl rfl ?_
     intro h24 M25
     replace M25 : Mem _ _ ([(p1, _)] :: S_ :: []) _ := M25
     refine D rfl rfl (AX [(2, _), (3, _)] rfl ?_)
     refine WC.ret (⟨[_, _], (res_cellN [_, _, _, _] rfl (M25.at 0 rfl) (C rfl) rfl (res_tmp rfl res_nil)), ?_⟩)
     have hno : ∀ T0, KGood T0 → wrK T0 ≠ s := fun T0 g e => by
       obtain ⟨q1, q2⟩ := head_pro hn4 hE g e
       have q3 := headU_get g q1
       have z1 := g.ok.K; have z2 := g.ok.M
       have z3 := rows_big (F := T0.F)
       have z4 := congrArg List.length q2
       rw [J] at z4
       first
       | (have := q3.1 _ hy45; omega)
       | (have := q3.2.1 _ hy50; omega)
       | (have := q3.2.2.2 _ hy56; omega)
     exact .inr ⟨rfl, hno, M25.bare.take 0⟩
    ·
     refine D rfl rfl (D rfl rfl ?_)
     obtain ⟨y50, hy50⟩ : ∃ y, (ns)[1]? = some y := ⟨_, List.getElem?_eq_getElem (show 1 < (ns).length by first | omega | (simp only [J, BQ, AQ, Y, U, X]; omega) | (simp only [J, BQ, AQ, Y, U, X] at *; omega))⟩
     refine WS.iaVS (Row.Own.sl hO (Mem.owni M8 0 rfl)) 1 hy50 rfl rfl rfl rfl ?_
     intro b50_ o50_ ha50
     refine D rfl (op_ldH rfl (At.ld0 ha50 rfl)) ?_
     refine WS.gtrN (a := (y50).toNat) (b := 2147483647) rfl rfl rfl (fun e52 => ?_) (fun e52 => ?_)
     ·
      refine D rfl rfl (D rfl rfl (G rfl (G rfl (G rfl (G rfl (G rfl (G rfl (G rfl (D rfl rfl ?_)))))))))
      refine AX [(0, _), (2, _), (4, _), (5, _), (62, _)] rfl ?_
      refine WC.condT rfl (AZ (BX (BZ (.agg #[(.slice none 0 0), (.int .i64 (0 : Int)), (.int .i64 (0 : Int)), (.int .u64 (0 : Int))]) rfl rfl rfl ?_)))
      refine WS.st1 (M8.focus 1 rfl) [_, _, _, _] [_, _, _, _] rfl rfl rfl rfl rfl (C rfl) (C rfl) rfl rfl ?_
      intro h26 M27
      replace M27 : Mem _ _ ([(p1, _)] :: S_ :: []) _ := M27
      refine D rfl rfl (AX [(2, _), (3, _)] rfl ?_)
      refine WC.ret (⟨[_, _], (res_cellN [_, _, _, _] rfl (M27.at 0 rfl) (C rfl) rfl (res_tmp rfl res_nil)), ?_⟩)
      have hno : ∀ T0, KGood T0 → wrK T0 ≠ s := fun T0 g e => by
        obtain ⟨q1, q2⟩ := head_pro hn4 hE g e
        have q3 := headU_get g q1
        have z1 := g.ok.K; have z2 := g.ok.M
        have z3 := rows_big (F := T0.F)
        have z4 := congrArg List.length q2
        rw [J] at z4
        first
        | (have := q3.1 _ hy45; omega)
        | (have := q3.2.1 _ hy50; omega)
        | (have := q3.2.2.2 _ hy56; omega)
      exact .inr ⟨rfl, hno, M27.bare.take 0⟩
     ·
      refine D rfl rfl (D rfl rfl (D rfl rfl ?_))
      obtain ⟨y56, hy56⟩ : ∃ y, (ns)[3]? = some y := ⟨_, List.getElem?_eq_getElem (show 3 < (ns).length by first | omega | (simp only [J, BQ, AQ, Y, U, X]; omega) | (simp only [J, BQ, AQ, Y, U, X] at *; omega))⟩
      refine WS.iaVS (Row.Own.sl hO (Mem.owni M8 0 rfl)) 3 hy56 rfl rfl rfl rfl ?_
      intro b56_ o56_ ha56
      refine D rfl (op_ldH rfl (At.ld0 ha56 rfl)) (D rfl rfl (D rfl (op_lenS (l := s) rfl) (BZ (.int .u64 (((s).length : Nat) : Int)) rfl rfl (cv_u64 (n := (s).length) (by omega)) ?_)))
      refine WS.gtrN (a := (y56).toNat) (b := (s).length) rfl rfl rfl (fun e61 => ?_) (fun e61 => ?_)
      ·
       refine D rfl rfl (AX [(0, _), (2, _), (4, _), (5, _), (62, _)] rfl ?_)
       refine WC.condT rfl (AZ (BX (BZ (.agg #[(.slice none 0 0), (.int .i64 (0 : Int)), (.int .i64 (0 : Int)), (.int .u64 (0 : Int))]) rfl rfl rfl ?_)))
       refine WS.st1 (M8.focus 1 rfl) [_, _, _, _] [_, _, _, _] rfl rfl rfl rfl rfl (C rfl) (C rfl) rfl rfl ?_
       intro h28 M29
       replace M29 : Mem _ _ ([(p1, _)] :: S_ :: []) _ := M29
       refine D rfl rfl (AX [(2, _), (3, _)] rfl ?_)
       refine WC.ret (⟨[_, _], (res_cellN [_, _, _, _] rfl (M29.at 0 rfl) (C rfl) rfl (res_tmp rfl res_nil)), ?_⟩)
       have hno : ∀ T0, KGood T0 → wrK T0 ≠ s := fun T0 g e => by
         obtain ⟨q1, q2⟩ := head_pro hn4 hE g e
         have q3 := headU_get g q1
         have z1 := g.ok.K; have z2 := g.ok.M
         have z3 := rows_big (F := T0.F)
         have z4 := congrArg List.length q2
         rw [J] at z4
         first
         | (have := q3.1 _ hy45; omega)
         | (have := q3.2.1 _ hy50; omega)
         | (have := q3.2.2.2 _ hy56; omega)
       exact .inr ⟨rfl, hno, M29.bare.take 0⟩
      ·
       refine D rfl rfl (AX [(0, _), (2, _), (4, _), (5, _), (62, _)] rfl ?_)
       refine WC.condF rfl (WC.skip (AZ (WC.draw M8 [12] rfl ?_)))
       intro rb30 h31 M32
       refine D rfl rfl ?_
       refine WS.iaVS (Row.Own.sl hO (Mem.owni M32 0 rfl)) 0 hy45 rfl rfl rfl rfl ?_
       intro b65_ o65_ ha65
       refine D rfl (op_ldH rfl (At.ld0 ha65 rfl)) (BZ (.int .i64 (((y45).toNat : Nat) : Int)) rfl rfl (cv_i64 (n := (y45).toNat) (by have := UInt64.toNat_lt (y45); omega)) (D rfl rfl ?_))
       refine WS.iaVS (Row.Own.sl hO (Mem.owni M32 0 rfl)) 1 hy50 rfl rfl rfl rfl ?_
       intro b69_ o69_ ha69
       refine D rfl (op_ldH rfl (At.ld0 ha69 rfl)) (BZ (.int .i64 (((y50).toNat : Nat) : Int)) rfl rfl (cv_i64 (n := (y50).toNat) (by have := UInt64.toNat_lt (y50); omega)) (D rfl rfl ?_))
       obtain ⟨y73, hy73⟩ : ∃ y, (ns)[2]? = some y := ⟨_, List.getElem?_eq_getElem (show 2 < (ns).length by first | omega | (simp only [J, BQ, AQ, Y, U, X]; omega) | (simp only [J, BQ, AQ, Y, U, X] at *; omega))⟩
       refine WS.iaVS (Row.Own.sl hO (Mem.owni M32 0 rfl)) 2 hy73 rfl rfl rfl rfl ?_
       intro b73_ o73_ ha73
       refine D rfl (op_ldH rfl (At.ld0 ha73 rfl)) (BZ (.agg #[(.slice none 0 0), (.int .i64 (((y45).toNat : Nat) : Int)), (.int .i64 (((y50).toNat : Nat) : Int)), (.int .u64 (((y73).toNat : Nat) : Int))]) rfl rfl rfl ?_)
       refine WS.newA M32 0 rfl rfl ?_
       intro h34 M35
       refine WS.st1 (M35.focus 0 rfl) [_, _, _, _] [_, _, _, _] rfl rfl rfl rfl rfl (C rfl) (C rfl) rfl rfl ?_
       intro h36 M37
       replace M37 : Mem _ _ ([((rb30 + 12), _)] :: S_ :: [(p1, _)] :: []) _ := M37
       refine AX [(0, _), (2, _), (4, _), (5, _), (10, _)] rfl ?_
       refine AZ (AZ (BX (D rfl rfl (AX [(0, _), (2, _), (4, _), (5, _), (10, _), (11, _)] rfl ?_))))
       refine WC.block ?_
       have hfour := four hn4 hy45 hy50 hy73 hy56
       obtain ⟨L38, eL40, M39⟩ := Mem.name2 (((M37.bare.bare.focus 0 rfl)).nils)
       refine WC.loop (σ := Option Addr × Seg × List It × Nat × Nat) (fun ((P2, S2, F, at2, i2)) => [(0, (.string (bs s))), (2, (.pointer (some ⟨p1, 0, none⟩))), (4, (.int .i64 ((at2 : Nat) : Int))), (5, (.slice P_ ns.length (2 * ns.length))), (10, (.pointer (some ⟨(rb30 + 12), 0, none⟩))), (11, (.int .i64 ((i2 : Nat) : Int)))]) (fun ((P2, S2, F, at2, i2)) hh => Mem h hh (S2 :: [((rb30 + 12), ⟨[(.slice P2 F.length (2 * F.length)), (.int .i64 ((y45.toNat : Nat) : Int)), (.int .i64 ((y50.toNat : Nat) : Int)), (.int .u64 (((y73).toNat : Nat) : Int))], 0, false⟩)] :: L38) [] ∧ KIt.Own (.slice P2 F.length (2 * F.length)) F S2 ∧ F.length = i2 ∧ i2 ≤ y56.toNat ∧ at2 ≤ s.length ∧ s = (vb y45.toNat ++ vb y50.toNat ++ vb y73.toNat ++ vb y56.toNat) ++ F.flatMap rowW ++ s.drop at2 ∧ SrtI F ∧ (∀ y ∈ F, 1 ≤ y.vn.toNat ∧ y.vn.toNat ≤ y73.toNat) ∧ (∀ T0, KGood T0 → wrK T0 = s → (y45.toNat = T0.K ∧ y50.toNat = T0.M ∧ y73.toNat = T0.v ∧ y56.toNat = T0.F.length) ∧ F = T0.F.take i2 ∧ s.drop at2 = (T0.F.drop i2).flatMap rowW)) (fun ((P2, S2, F, at2, i2)) => y56.toNat - i2) (none, _, [], at_, 0) rfl ⟨(by exact M39), ?_⟩ ?_
       · exact ⟨.nil, rfl, by omega, by omega, by rw [List.flatMap_nil, List.append_nil]; exact head_four hE hfour, List.Pairwise.nil, fun y hy => absurd hy (by simp), fun T0 g e => by obtain ⟨q1, q2⟩ := head_pro hn4 hE g e; have q3 := headU_get g q1; exact ⟨⟨q3.1 _ hy45, q3.2.1 _ hy50, q3.2.2.1 _ hy73, q3.2.2.2 _ hy56⟩, rfl, q2⟩⟩
       ·rintro ⟨P2, S2, F, at2, i2⟩ h41 ⟨M42, ⟨hO2, hnl2, hi2, hat2, hE2, hsr, hvn, hP⟩⟩
        replace eL40 := eL40.symm; subst eL40
        refine WC.env [(0, _), (2, _), (4, _), (5, _), (10, _), (11, _)] rfl ?_
        refine AZ (AZ (BX (D rfl rfl (D rfl rfl ?_))))
        refine WS.iaVS (Row.Own.sl hO (Mem.owni M42 2 rfl)) 3 hy56 rfl rfl rfl rfl ?_
        intro b78_ o78_ ha78
        refine D rfl (op_ldH rfl (At.ld0 ha78 rfl)) (BZ (.int .i64 (((y56).toNat : Nat) : Int)) rfl rfl (cv_i64 (n := (y56).toNat) (by have := UInt64.toNat_lt (y56); omega)) ?_)
        refine WS.lssN (a := i2) (b := (y56).toNat) rfl rfl rfl (fun e81 => ?_) (fun e81 => ?_)
        ·
         refine AX [(0, _), (2, _), (4, _), (5, _), (10, _), (11, _), (81, _)] rfl ?_
         refine WC.condT rfl (WC.skip (AZ (WC.block (AZ (BX (BZ (.agg #[(.string (bs ([]))), (.string (bs ([]))), (.int .u64 (0 : Int)), (.int .u64 (0 : Int))]) rfl rfl rfl ?_))))))
         refine WS.new M42 rfl ?_
         intro p43 h44 M45
         refine WS.st1 (M45.focus 0 rfl) [_, _, _, _] [_, _, _, _] rfl rfl rfl rfl rfl (C rfl) (C rfl) rfl rfl ?_
         intro h46 M47
         replace M47 : Mem _ _ ([(p43, _)] :: S2 :: [((rb30 + 12), _)] :: S_ :: [(p1, _)] :: []) _ := M47
         refine AX [(0, _), (2, _), (4, _), (5, _), (10, _), (11, _), (12, _)] rfl ?_
         refine AZ (BX (D rfl rfl (D rfl rfl (D rfl (op_slS0 (l := s) at2 rfl rfl (by omega)) ?_))))
         refine WS.call rfl rfl rfl (ref_ReadS_ran M47.here (l := ((s).drop at2)) (by first | omega | (simp only [J, BQ, AQ, Y, U, X]; omega) | (simp only [J, BQ, AQ, Y, U, X] at *; omega))) ?_
         rintro _ h48 ⟨rfl, N49⟩
         have M50 := M47.trans N49
         refine D rfl rfl (D rfl rfl (D rfl rfl (D rfl rfl (D rfl rfl (D rfl rfl (D rfl rfl (AX [(0, _), (2, _), (4, _), (5, _), (10, _), (11, _), (12, _), (13, _), (14, _), (15, _)] rfl ?_)))))))
         refine AZ (AZ (BX (D rfl rfl ?_)))
         cases hb2 : (rsOK ((s).drop at2))
         ·
          refine BZ (.bool true) rfl rfl rfl (AX [(0, _), (2, _), (4, _), (5, _), (10, _), (11, _), (12, _), (13, _), (14, _), (94, _)] rfl ?_)
          refine WC.condT rfl (AZ (BX (BZ (.agg #[(.slice none 0 0), (.int .i64 (0 : Int)), (.int .i64 (0 : Int)), (.int .u64 (0 : Int))]) rfl rfl rfl ?_)))
          refine WS.st1 (M50.focus 4 rfl) [_, _, _, _] [_, _, _, _] rfl rfl rfl rfl rfl (C rfl) (C rfl) rfl rfl ?_
          intro h52 M53
          replace M53 : Mem _ _ ([(p1, _)] :: [(p43, _)] :: S2 :: [((rb30 + 12), _)] :: S_ :: []) _ := M53
          refine D rfl rfl (AX [(2, _), (3, _)] rfl ?_)
          refine WC.ret (⟨[_, _], (res_cellN [_, _, _, _] rfl (M53.at 0 rfl) (C rfl) rfl (res_tmp rfl res_nil)), ?_⟩)
          have hno : ∀ T0, KGood T0 → wrK T0 ≠ s := fun T0 g e => by
            obtain ⟨q1, q2, q3⟩ := hP T0 g e
            obtain ⟨y, r1, r2, r3, r4, r5, r6, r7, r8, r9, r10⟩ := row_pro g (by omega) q3
            have z1 := g.vn y (List.mem_of_getElem? r1)
            first
            | exact absurd (show true = false from r2.symm.trans (by assumption)) (by decide)
            | exact absurd (show true = false from r4.symm.trans (by assumption)) (by decide)
            | exact absurd (show true = false from r6.symm.trans (by assumption)) (by decide)
            | exact absurd (show true = false from r8.symm.trans (by assumption)) (by decide)
            | omega
            | (rw [q2, List.getElem?_take] at hy159; split at hy159; (exact e163 (by rw [r3]; exact srt_get g.ok.srt (by omega) hy159 r1)); cases hy159)
          exact .inr ⟨rfl, hno, M53.bare.take 0⟩
         ·
          refine BZ (.bool false) rfl rfl rfl (AX [(0, _), (2, _), (4, _), (5, _), (10, _), (11, _), (12, _), (13, _), (14, _), (94, _)] rfl ?_)
          refine WC.condF rfl (WC.skip (AZ (BX ?_)))
          have hk1 := rsK_le (s.drop at2)
          rw [J] at hk1
          refine D rfl rfl (D rfl rfl (BZ (.int .i64 (((at2 + (rsK ((s).drop at2))) : Nat) : Int)) rfl rfl (add_i64 (a := at2) (b := (rsK ((s).drop at2))) (by have := rsK_le ((s).drop at2); omega)) (D rfl rfl (AX [(0, _), (2, _), (4, _), (5, _), (10, _), (11, _), (12, _), (13, _)] rfl ?_))))
          refine AZ (BX (D rfl rfl (D rfl rfl (D rfl (op_slS0 (l := s) (at2 + (rsK ((s).drop at2))) rfl rfl (by omega)) ?_))))
          refine WS.call rfl rfl rfl (ref_ReadS_ran M50.here (l := ((s).drop (at2 + (rsK ((s).drop at2))))) (by first | omega | (simp only [J, BQ, AQ, Y, U, X]; omega) | (simp only [J, BQ, AQ, Y, U, X] at *; omega))) ?_
          rintro _ h54 ⟨rfl, N55⟩
          have M56 := M50.trans N55
          refine D rfl rfl (D rfl rfl (D rfl rfl (D rfl rfl (D rfl rfl (D rfl rfl (D rfl rfl (AX [(0, _), (2, _), (4, _), (5, _), (10, _), (11, _), (12, _), (13, _), (15, _), (16, _), (17, _)] rfl ?_)))))))
          refine AZ (AZ (BX (D rfl rfl ?_)))
          cases hb3 : (rsOK ((s).drop (at2 + (rsK ((s).drop at2)))))
          ·
           refine BZ (.bool true) rfl rfl rfl (AX [(0, _), (2, _), (4, _), (5, _), (10, _), (11, _), (12, _), (13, _), (16, _), (17, _), (108, _)] rfl ?_)
           refine WC.condT rfl (AZ (BX (BZ (.agg #[(.slice none 0 0), (.int .i64 (0 : Int)), (.int .i64 (0 : Int)), (.int .u64 (0 : Int))]) rfl rfl rfl ?_)))
           refine WS.st1 (M56.focus 4 rfl) [_, _, _, _] [_, _, _, _] rfl rfl rfl rfl rfl (C rfl) (C rfl) rfl rfl ?_
           intro h58 M59
           replace M59 : Mem _ _ ([(p1, _)] :: [(p43, _)] :: S2 :: [((rb30 + 12), _)] :: S_ :: []) _ := M59
           refine D rfl rfl (AX [(2, _), (3, _)] rfl ?_)
           refine WC.ret (⟨[_, _], (res_cellN [_, _, _, _] rfl (M59.at 0 rfl) (C rfl) rfl (res_tmp rfl res_nil)), ?_⟩)
           have hno : ∀ T0, KGood T0 → wrK T0 ≠ s := fun T0 g e => by
             obtain ⟨q1, q2, q3⟩ := hP T0 g e
             obtain ⟨y, r1, r2, r3, r4, r5, r6, r7, r8, r9, r10⟩ := row_pro g (by omega) q3
             have z1 := g.vn y (List.mem_of_getElem? r1)
             first
             | exact absurd (show true = false from r2.symm.trans (by assumption)) (by decide)
             | exact absurd (show true = false from r4.symm.trans (by assumption)) (by decide)
             | exact absurd (show true = false from r6.symm.trans (by assumption)) (by decide)
             | exact absurd (show true = false from r8.symm.trans (by assumption)) (by decide)
             | omega
             | (rw [q2, List.getElem?_take] at hy159; split at hy159; (exact e163 (by rw [r3]; exact srt_get g.ok.srt (by omega) hy159 r1)); cases hy159)
           exact .inr ⟨rfl, hno, M59.bare.take 0⟩
          ·
           refine BZ (.bool false) rfl rfl rfl (AX [(0, _), (2, _), (4, _), (5, _), (10, _), (11, _), (12, _), (13, _), (16, _), (17, _), (108, _)] rfl ?_)
           refine WC.condF rfl (WC.skip (AZ (BX ?_)))
           have hk2 := rsK_le (s.drop (at2 + rsK (s.drop at2)))
           rw [J] at hk2
           refine D rfl rfl (D rfl rfl (BZ (.int .i64 ((((at2 + (rsK ((s).drop at2))) + (rsK ((s).drop (at2 + (rsK ((s).drop at2)))))) : Nat) : Int)) rfl rfl (add_i64 (a := (at2 + (rsK ((s).drop at2)))) (b := (rsK ((s).drop (at2 + (rsK ((s).drop at2)))))) (by have := rsK_le ((s).drop (at2 + (rsK ((s).drop at2)))); omega)) (D rfl rfl (AX [(0, _), (2, _), (4, _), (5, _), (10, _), (11, _), (12, _), (13, _), (16, _)] rfl ?_))))
           refine AZ (BX (D rfl rfl (D rfl rfl (D rfl (op_slS0 (l := s) ((at2 + (rsK ((s).drop at2))) + (rsK ((s).drop (at2 + (rsK ((s).drop at2)))))) rfl rfl (by omega)) ?_))))
           refine WS.call rfl rfl rfl (ref_ReadV_ran M56.here (l := ((s).drop ((at2 + (rsK ((s).drop at2))) + (rsK ((s).drop (at2 + (rsK ((s).drop at2)))))))) (by first | omega | (simp only [J, BQ, AQ, Y, U, X]; omega) | (simp only [J, BQ, AQ, Y, U, X] at *; omega))) ?_
           rintro _ h60 ⟨rfl, N61⟩
           have M62 := M56.trans N61
           refine D rfl rfl (BZ (.int .u64 (((UInt64.ofNat (rvN ((s).drop ((at2 + (rsK ((s).drop at2))) + (rsK ((s).drop (at2 + (rsK ((s).drop at2))))))))).toNat : Nat) : Int)) rfl rfl (u64_ofNat (n := (rvN ((s).drop ((at2 + (rsK ((s).drop at2))) + (rsK ((s).drop (at2 + (rsK ((s).drop at2))))))))) (by have := rvN_lt ((s).drop ((at2 + (rsK ((s).drop at2))) + (rsK ((s).drop (at2 + (rsK ((s).drop at2))))))); omega)) (D rfl rfl (D rfl rfl (D rfl rfl (D rfl rfl (D rfl rfl (AX [(0, _), (2, _), (4, _), (5, _), (10, _), (11, _), (12, _), (13, _), (15, _), (16, _), (18, _), (19, _)] rfl ?_)))))))
           refine AZ (AZ (BX (D rfl rfl ?_)))
           cases hb4 : (rvOK ((s).drop ((at2 + (rsK ((s).drop at2))) + (rsK ((s).drop (at2 + (rsK ((s).drop at2))))))))
           ·
            refine BZ (.bool true) rfl rfl rfl (AX [(0, _), (2, _), (4, _), (5, _), (10, _), (11, _), (12, _), (13, _), (16, _), (18, _), (19, _), (122, _)] rfl ?_)
            refine WC.condT rfl (AZ (BX (BZ (.agg #[(.slice none 0 0), (.int .i64 (0 : Int)), (.int .i64 (0 : Int)), (.int .u64 (0 : Int))]) rfl rfl rfl ?_)))
            refine WS.st1 (M62.focus 4 rfl) [_, _, _, _] [_, _, _, _] rfl rfl rfl rfl rfl (C rfl) (C rfl) rfl rfl ?_
            intro h64 M65
            replace M65 : Mem _ _ ([(p1, _)] :: [(p43, _)] :: S2 :: [((rb30 + 12), _)] :: S_ :: []) _ := M65
            refine D rfl rfl (AX [(2, _), (3, _)] rfl ?_)
            refine WC.ret (⟨[_, _], (res_cellN [_, _, _, _] rfl (M65.at 0 rfl) (C rfl) rfl (res_tmp rfl res_nil)), ?_⟩)
            have hno : ∀ T0, KGood T0 → wrK T0 ≠ s := fun T0 g e => by
              obtain ⟨q1, q2, q3⟩ := hP T0 g e
              obtain ⟨y, r1, r2, r3, r4, r5, r6, r7, r8, r9, r10⟩ := row_pro g (by omega) q3
              have z1 := g.vn y (List.mem_of_getElem? r1)
              first
              | exact absurd (show true = false from r2.symm.trans (by assumption)) (by decide)
              | exact absurd (show true = false from r4.symm.trans (by assumption)) (by decide)
              | exact absurd (show true = false from r6.symm.trans (by assumption)) (by decide)
              | exact absurd (show true = false from r8.symm.trans (by assumption)) (by decide)
              | omega
              | (rw [q2, List.getElem?_take] at hy159; split at hy159; (exact e163 (by rw [r3]; exact srt_get g.ok.srt (by omega) hy159 r1)); cases hy159)
            exact .inr ⟨rfl, hno, M65.bare.take 0⟩
           ·
            refine BZ (.bool false) rfl rfl rfl (AX [(0, _), (2, _), (4, _), (5, _), (10, _), (11, _), (12, _), (13, _), (16, _), (18, _), (19, _), (122, _)] rfl ?_)
            refine WC.condF rfl (WC.skip (AZ (BX ?_)))
            have hk3 := (rvK_le (s.drop (at2 + rsK (s.drop at2) + rsK (s.drop (at2 + rsK (s.drop at2)))))).1
            rw [J] at hk3
            refine D rfl rfl (D rfl rfl (BZ (.int .i64 (((((at2 + (rsK ((s).drop at2))) + (rsK ((s).drop (at2 + (rsK ((s).drop at2)))))) + (rvK ((s).drop ((at2 + (rsK ((s).drop at2))) + (rsK ((s).drop (at2 + (rsK ((s).drop at2))))))))) : Nat) : Int)) rfl rfl (add_i64 (a := ((at2 + (rsK ((s).drop at2))) + (rsK ((s).drop (at2 + (rsK ((s).drop at2))))))) (b := (rvK ((s).drop ((at2 + (rsK ((s).drop at2))) + (rsK ((s).drop (at2 + (rsK ((s).drop at2))))))))) (by have := rvK_le ((s).drop ((at2 + (rsK ((s).drop at2))) + (rsK ((s).drop (at2 + (rsK ((s).drop at2))))))); omega)) (D rfl rfl (AX [(0, _), (2, _), (4, _), (5, _), (10, _), (11, _), (12, _), (13, _), (16, _), (18, _)] rfl ?_))))
            refine AZ (BX (D rfl rfl (D rfl rfl (D rfl (op_slS0 (l := s) (((at2 + (rsK ((s).drop at2))) + (rsK ((s).drop (at2 + (rsK ((s).drop at2)))))) + (rvK ((s).drop ((at2 + (rsK ((s).drop at2))) + (rsK ((s).drop (at2 + (rsK ((s).drop at2))))))))) rfl rfl (by omega)) ?_))))
            refine WS.call rfl rfl rfl (ref_ReadV_ran M62.here (l := ((s).drop (((at2 + (rsK ((s).drop at2))) + (rsK ((s).drop (at2 + (rsK ((s).drop at2)))))) + (rvK ((s).drop ((at2 + (rsK ((s).drop at2))) + (rsK ((s).drop (at2 + (rsK ((s).drop at2))))))))))) (by first | omega | (simp only [J, BQ, AQ, Y, U, X]; omega) | (simp only [J, BQ, AQ, Y, U, X] at *; omega))) ?_
            rintro _ h66 ⟨rfl, N67⟩
            have M68 := M62.trans N67
            refine D rfl rfl (BZ (.int .u64 (((UInt64.ofNat (rvN ((s).drop (((at2 + (rsK ((s).drop at2))) + (rsK ((s).drop (at2 + (rsK ((s).drop at2)))))) + (rvK ((s).drop ((at2 + (rsK ((s).drop at2))) + (rsK ((s).drop (at2 + (rsK ((s).drop at2)))))))))))).toNat : Nat) : Int)) rfl rfl (u64_ofNat (n := (rvN ((s).drop (((at2 + (rsK ((s).drop at2))) + (rsK ((s).drop (at2 + (rsK ((s).drop at2)))))) + (rvK ((s).drop ((at2 + (rsK ((s).drop at2))) + (rsK ((s).drop (at2 + (rsK ((s).drop at2)))))))))))) (by have := rvN_lt ((s).drop (((at2 + (rsK ((s).drop at2))) + (rsK ((s).drop (at2 + (rsK ((s).drop at2)))))) + (rvK ((s).drop ((at2 + (rsK ((s).drop at2))) + (rsK ((s).drop (at2 + (rsK ((s).drop at2)))))))))); omega)) (D rfl rfl (D rfl rfl (D rfl rfl (D rfl rfl (D rfl rfl (AX [(0, _), (2, _), (4, _), (5, _), (10, _), (11, _), (12, _), (13, _), (15, _), (16, _), (18, _), (20, _), (21, _)] rfl ?_)))))))
            refine AZ (AZ (BX (D rfl rfl ?_)))
            cases hb5 : (rvOK ((s).drop (((at2 + (rsK ((s).drop at2))) + (rsK ((s).drop (at2 + (rsK ((s).drop at2)))))) + (rvK ((s).drop ((at2 + (rsK ((s).drop at2))) + (rsK ((s).drop (at2 + (rsK ((s).drop at2)))))))))))
            ·
             refine BZ (.bool true) rfl rfl rfl (D rfl rfl (G rfl (G rfl (D rfl rfl (D rfl rfl (G rfl (G rfl (G rfl (G rfl ?_)))))))))
             refine D rfl rfl (D rfl rfl (G rfl (G rfl (G rfl (G rfl (G rfl (G rfl (G rfl (G rfl ?_)))))))))
             refine G rfl (G rfl (G rfl (G rfl (G rfl (G rfl (G rfl (G rfl (G rfl (D rfl rfl ?_)))))))))
             refine AX [(0, _), (2, _), (4, _), (5, _), (10, _), (11, _), (12, _), (13, _), (16, _), (18, _), (20, _), (21, _), (165, _)] rfl ?_
             refine WC.condT rfl (AZ (BX (BZ (.agg #[(.slice none 0 0), (.int .i64 (0 : Int)), (.int .i64 (0 : Int)), (.int .u64 (0 : Int))]) rfl rfl rfl ?_)))
             refine WS.st1 (M68.focus 4 rfl) [_, _, _, _] [_, _, _, _] rfl rfl rfl rfl rfl (C rfl) (C rfl) rfl rfl ?_
             intro h70 M71
             replace M71 : Mem _ _ ([(p1, _)] :: [(p43, _)] :: S2 :: [((rb30 + 12), _)] :: S_ :: []) _ := M71
             refine D rfl rfl (AX [(2, _), (3, _)] rfl ?_)
             refine WC.ret (⟨[_, _], (res_cellN [_, _, _, _] rfl (M71.at 0 rfl) (C rfl) rfl (res_tmp rfl res_nil)), ?_⟩)
             have hno : ∀ T0, KGood T0 → wrK T0 ≠ s := fun T0 g e => by
               obtain ⟨q1, q2, q3⟩ := hP T0 g e
               obtain ⟨y, r1, r2, r3, r4, r5, r6, r7, r8, r9, r10⟩ := row_pro g (by omega) q3
               have z1 := g.vn y (List.mem_of_getElem? r1)
               first
               | exact absurd (show true = false from r2.symm.trans (by assumption)) (by decide)
               | exact absurd (show true = false from r4.symm.trans (by assumption)) (by decide)
               | exact absurd (show true = false from r6.symm.trans (by assumption)) (by decide)
               | exact absurd (show true = false from r8.symm.trans (by assumption)) (by decide)
               | omega
               | (rw [q2, List.getElem?_take] at hy159; split at hy159; (exact e163 (by rw [r3]; exact srt_get g.ok.srt (by omega) hy159 r1)); cases hy159)
             exact .inr ⟨rfl, hno, M71.bare.take 0⟩
            ·
             refine BZ (.bool false) rfl rfl rfl (D rfl rfl ?_)
             have hu18 := u64_back (rvN_lt (s.drop (at2 + rsK (s.drop at2) + rsK (s.drop (at2 + rsK (s.drop at2))))))
             refine D rfl rfl ?_
             refine WS.lssN (a := (UInt64.ofNat (rvN ((s).drop ((at2 + (rsK ((s).drop at2))) + (rsK ((s).drop (at2 + (rsK ((s).drop at2))))))))).toNat) (b := 1) rfl rfl rfl (fun e139 => ?_) (fun e139 => ?_)
             ·
              refine D rfl rfl (D rfl rfl (G rfl (G rfl (G rfl (G rfl (D rfl rfl (D rfl rfl (G rfl (G rfl ?_)))))))))
              refine G rfl (G rfl (G rfl (G rfl (G rfl (G rfl (G rfl (G rfl (G rfl (G rfl ?_)))))))))
              refine G rfl (G rfl (G rfl (G rfl (G rfl (D rfl rfl (AX [(0, _), (2, _), (4, _), (5, _), (10, _), (11, _), (12, _), (13, _), (16, _), (18, _), (20, _), (21, _), (165, _)] rfl ?_))))))
              refine WC.condT rfl (AZ (BX (BZ (.agg #[(.slice none 0 0), (.int .i64 (0 : Int)), (.int .i64 (0 : Int)), (.int .u64 (0 : Int))]) rfl rfl rfl ?_)))
              refine WS.st1 (M68.focus 4 rfl) [_, _, _, _] [_, _, _, _] rfl rfl rfl rfl rfl (C rfl) (C rfl) rfl rfl ?_
              intro h72 M73
              replace M73 : Mem _ _ ([(p1, _)] :: [(p43, _)] :: S2 :: [((rb30 + 12), _)] :: S_ :: []) _ := M73
              refine D rfl rfl (AX [(2, _), (3, _)] rfl ?_)
              refine WC.ret (⟨[_, _], (res_cellN [_, _, _, _] rfl (M73.at 0 rfl) (C rfl) rfl (res_tmp rfl res_nil)), ?_⟩)
              have hno : ∀ T0, KGood T0 → wrK T0 ≠ s := fun T0 g e => by
                obtain ⟨q1, q2, q3⟩ := hP T0 g e
                obtain ⟨y, r1, r2, r3, r4, r5, r6, r7, r8, r9, r10⟩ := row_pro g (by omega) q3
                have z1 := g.vn y (List.mem_of_getElem? r1)
                first
                | exact absurd (show true = false from r2.symm.trans (by assumption)) (by decide)
                | exact absurd (show true = false from r4.symm.trans (by assumption)) (by decide)
                | exact absurd (show true = false from r6.symm.trans (by assumption)) (by decide)
                | exact absurd (show true = false from r8.symm.trans (by assumption)) (by decide)
                | omega
                | (rw [q2, List.getElem?_take] at hy159; split at hy159; (exact e163 (by rw [r3]; exact srt_get g.ok.srt (by omega) hy159 r1)); cases hy159)
              exact .inr ⟨rfl, hno, M73.bare.take 0⟩
             ·
              refine D rfl rfl (D rfl rfl (D rfl rfl (D rfl rfl (D rfl (op_ld (M68.at 2 rfl) rfl rfl) ?_))))
              refine WS.gtrN (a := (UInt64.ofNat (rvN ((s).drop ((at2 + (rsK ((s).drop at2))) + (rsK ((s).drop (at2 + (rsK ((s).drop at2))))))))).toNat) (b := (y73).toNat) rfl rfl rfl (fun e145 => ?_) (fun e145 => ?_)
              ·
               refine D rfl rfl (D rfl rfl (G rfl (G rfl (G rfl (G rfl (G rfl (G rfl (G rfl (G rfl ?_)))))))))
               refine G rfl (G rfl (G rfl (G rfl (G rfl (G rfl (G rfl (G rfl (G rfl (D rfl rfl ?_)))))))))
               refine AX [(0, _), (2, _), (4, _), (5, _), (10, _), (11, _), (12, _), (13, _), (16, _), (18, _), (20, _), (21, _), (165, _)] rfl ?_
               refine WC.condT rfl (AZ (BX (BZ (.agg #[(.slice none 0 0), (.int .i64 (0 : Int)), (.int .i64 (0 : Int)), (.int .u64 (0 : Int))]) rfl rfl rfl ?_)))
               refine WS.st1 (M68.focus 4 rfl) [_, _, _, _] [_, _, _, _] rfl rfl rfl rfl rfl (C rfl) (C rfl) rfl rfl ?_
               intro h74 M75
               replace M75 : Mem _ _ ([(p1, _)] :: [(p43, _)] :: S2 :: [((rb30 + 12), _)] :: S_ :: []) _ := M75
               refine D rfl rfl (AX [(2, _), (3, _)] rfl ?_)
               refine WC.ret (⟨[_, _], (res_cellN [_, _, _, _] rfl (M75.at 0 rfl) (C rfl) rfl (res_tmp rfl res_nil)), ?_⟩)
               have hno : ∀ T0, KGood T0 → wrK T0 ≠ s := fun T0 g e => by
                 obtain ⟨q1, q2, q3⟩ := hP T0 g e
                 obtain ⟨y, r1, r2, r3, r4, r5, r6, r7, r8, r9, r10⟩ := row_pro g (by omega) q3
                 have z1 := g.vn y (List.mem_of_getElem? r1)
                 first
                 | exact absurd (show true = false from r2.symm.trans (by assumption)) (by decide)
                 | exact absurd (show true = false from r4.symm.trans (by assumption)) (by decide)
                 | exact absurd (show true = false from r6.symm.trans (by assumption)) (by decide)
                 | exact absurd (show true = false from r8.symm.trans (by assumption)) (by decide)
                 | omega
                 | (rw [q2, List.getElem?_take] at hy159; split at hy159; (exact e163 (by rw [r3]; exact srt_get g.ok.srt (by omega) hy159 r1)); cases hy159)
               exact .inr ⟨rfl, hno, M75.bare.take 0⟩
              ·
               refine D rfl rfl (D rfl rfl (D rfl rfl (D rfl (op_ld (M68.at 2 rfl) rfl rfl) (D rfl (op_lenVO hO2 rfl) ?_))))
               refine WS.gtrN (a := (F).length) (b := 0) rfl rfl rfl (fun e151 => ?_) (fun e151 => ?_)
               ·
                refine D rfl rfl (D rfl rfl (D rfl (op_ld (M68.at 2 rfl) rfl rfl) (D rfl rfl (D rfl (op_ld (M68.at 2 rfl) rfl rfl) (D rfl (op_lenVO hO2 rfl) (BZ (.int .i64 ((((F).length - 1) : Nat) : Int)) rfl rfl (sub_i64 (a := (F).length) (b := 1) (by omega)) ?_))))))
                obtain ⟨y159, hy159⟩ : ∃ y, (F)[((F).length - 1)]? = some y := ⟨_, List.getElem?_eq_getElem (show ((F).length - 1) < (F).length by first | omega | (simp only [J, BQ, AQ, Y, U, X]; omega) | (simp only [J, BQ, AQ, Y, U, X] at *; omega))⟩
                refine WS.iaVS (Row.Own.sl hO2 (Mem.owni M68 1 rfl)) ((F).length - 1) hy159 rfl rfl rfl rfl ?_
                intro b159_ o159_ ha159
                refine D rfl rfl (D rfl (op_ldH rfl (At.ld0 ha159 rfl)) (D rfl rfl ?_))
                refine WS.sgeq (l := y159.ky) (m := (rsT ((s).drop at2))) rfl rfl rfl (fun e163 => ?_) (fun e163 => ?_)
                ·
                 refine D rfl rfl (D rfl rfl (AX [(0, _), (2, _), (4, _), (5, _), (10, _), (11, _), (12, _), (13, _), (16, _), (18, _), (20, _), (21, _), (165, _)] rfl ?_))
                 refine WC.condT rfl (AZ (BX (BZ (.agg #[(.slice none 0 0), (.int .i64 (0 : Int)), (.int .i64 (0 : Int)), (.int .u64 (0 : Int))]) rfl rfl rfl ?_)))
                 refine WS.st1 (M68.focus 4 rfl) [_, _, _, _] [_, _, _, _] rfl rfl rfl rfl rfl (C rfl) (C rfl) rfl rfl ?_
                 intro h76 M77
                 replace M77 : Mem _ _ ([(p1, _)] :: [(p43, _)] :: S2 :: [((rb30 + 12), _)] :: S_ :: []) _ := M77
                 refine D rfl rfl (AX [(2, _), (3, _)] rfl ?_)
                 refine WC.ret (⟨[_, _], (res_cellN [_, _, _, _] rfl (M77.at 0 rfl) (C rfl) rfl (res_tmp rfl res_nil)), ?_⟩)
                 have hno : ∀ T0, KGood T0 → wrK T0 ≠ s := fun T0 g e => by
                   obtain ⟨q1, q2, q3⟩ := hP T0 g e
                   obtain ⟨y, r1, r2, r3, r4, r5, r6, r7, r8, r9, r10⟩ := row_pro g (by omega) q3
                   have z1 := g.vn y (List.mem_of_getElem? r1)
                   first
                   | exact absurd (show true = false from r2.symm.trans (by assumption)) (by decide)
                   | exact absurd (show true = false from r4.symm.trans (by assumption)) (by decide)
                   | exact absurd (show true = false from r6.symm.trans (by assumption)) (by decide)
                   | exact absurd (show true = false from r8.symm.trans (by assumption)) (by decide)
                   | omega
                   | (rw [q2, List.getElem?_take] at hy159; split at hy159; (exact e163 (by rw [r3]; exact srt_get g.ok.srt (by omega) hy159 r1)); cases hy159)
                 exact .inr ⟨rfl, hno, M77.bare.take 0⟩
                ·
                 refine D rfl rfl (D rfl rfl (AX [(0, _), (2, _), (4, _), (5, _), (10, _), (11, _), (12, _), (13, _), (16, _), (18, _), (20, _), (21, _), (165, _)] rfl ?_))
                 refine WC.condF rfl (WC.skip (AZ (BX ?_)))
                 have hk4 := (rvK_le (s.drop (at2 + rsK (s.drop at2) + rsK (s.drop (at2 + rsK (s.drop at2))) + rvK (s.drop (at2 + rsK (s.drop at2) + rsK (s.drop (at2 + rsK (s.drop at2)))))))).1
                 rw [J] at hk4
                 refine D rfl rfl (D rfl rfl (BZ (.int .i64 ((((((at2 + (rsK ((s).drop at2))) + (rsK ((s).drop (at2 + (rsK ((s).drop at2)))))) + (rvK ((s).drop ((at2 + (rsK ((s).drop at2))) + (rsK ((s).drop (at2 + (rsK ((s).drop at2))))))))) + (rvK ((s).drop (((at2 + (rsK ((s).drop at2))) + (rsK ((s).drop (at2 + (rsK ((s).drop at2)))))) + (rvK ((s).drop ((at2 + (rsK ((s).drop at2))) + (rsK ((s).drop (at2 + (rsK ((s).drop at2)))))))))))) : Nat) : Int)) rfl rfl (add_i64 (a := (((at2 + (rsK ((s).drop at2))) + (rsK ((s).drop (at2 + (rsK ((s).drop at2)))))) + (rvK ((s).drop ((at2 + (rsK ((s).drop at2))) + (rsK ((s).drop (at2 + (rsK ((s).drop at2)))))))))) (b := (rvK ((s).drop (((at2 + (rsK ((s).drop at2))) + (rsK ((s).drop (at2 + (rsK ((s).drop at2)))))) + (rvK ((s).drop ((at2 + (rsK ((s).drop at2))) + (rsK ((s).drop (at2 + (rsK ((s).drop at2)))))))))))) (by have := rvK_le ((s).drop (((at2 + (rsK ((s).drop at2))) + (rsK ((s).drop (at2 + (rsK ((s).drop at2)))))) + (rvK ((s).drop ((at2 + (rsK ((s).drop at2))) + (rsK ((s).drop (at2 + (rsK ((s).drop at2)))))))))); omega)) (D rfl rfl (AX [(0, _), (2, _), (4, _), (5, _), (10, _), (11, _), (12, _), (13, _), (16, _), (18, _), (20, _)] rfl ?_))))
                 refine AZ (BX ?_)
                 have hlast : ∀ x ∈ F, kL x.ky (rsT (s.drop at2)) := by
                   first
                   | (intro x hx; exfalso; have := List.length_pos_of_mem hx; omega)
                   | exact last_all hsr hy159 e163
                 refine D rfl rfl (D rfl rfl ?_)
                 refine WS.st1 (M68.focus 0 rfl) [_] [_, _, _, _] rfl rfl rfl rfl rfl (C rfl) (C rfl) rfl rfl ?_
                 intro h78 M79
                 replace M79 : Mem _ _ ([(p43, _)] :: S2 :: [((rb30 + 12), _)] :: S_ :: [(p1, _)] :: []) _ := M79
                 refine AX [(0, _), (2, _), (4, _), (5, _), (10, _), (11, _), (12, _), (16, _), (18, _), (20, _)] rfl ?_
                 refine AZ (BX (D rfl rfl (D rfl rfl ?_)))
                 refine WS.st1 (M79.focus 0 rfl) [_] [_, _, _, _] rfl rfl rfl rfl rfl (C rfl) (C rfl) rfl rfl ?_
                 intro h80 M81
                 replace M81 : Mem _ _ ([(p43, _)] :: S2 :: [((rb30 + 12), _)] :: S_ :: [(p1, _)] :: []) _ := M81
                 refine AX [(0, _), (2, _), (4, _), (5, _), (10, _), (11, _), (12, _), (18, _), (20, _)] rfl ?_
                 refine AZ (BX (D rfl rfl (D rfl rfl ?_)))
                 refine WS.st1 (M81.focus 0 rfl) [_] [_, _, _, _] rfl rfl rfl rfl rfl (C rfl) (C rfl) rfl rfl ?_
                 intro h82 M83
                 replace M83 : Mem _ _ ([(p43, _)] :: S2 :: [((rb30 + 12), _)] :: S_ :: [(p1, _)] :: []) _ := M83
                 refine AX [(0, _), (2, _), (4, _), (5, _), (10, _), (11, _), (12, _), (20, _)] rfl ?_
                 refine AZ (BX (D rfl rfl (D rfl rfl ?_)))
                 refine WS.st1 (M83.focus 0 rfl) [_] [_, _, _, _] rfl rfl rfl rfl rfl (C rfl) (C rfl) rfl rfl ?_
                 intro h84 M85
                 replace M85 : Mem _ _ ([(p43, _)] :: S2 :: [((rb30 + 12), _)] :: S_ :: [(p1, _)] :: []) _ := M85
                 refine AX [(0, _), (2, _), (4, _), (5, _), (10, _), (11, _), (12, _)] rfl ?_
                 refine BX (D rfl rfl (D rfl (op_ld (M85.at 2 rfl) rfl rfl) (D rfl (op_lds [_, _, _, _] (M85.at 0 rfl) rfl (C rfl) rfl) ?_)))
                 refine WS.bsl M85 [_, _, _, _] rfl rfl rfl rfl ?_
                 intro p86 h87 M88
                 refine WS.app (l := F) (m := [(⟨(rsT ((s).drop at2)), (rsT ((s).drop (at2 + (rsK ((s).drop at2))))), (UInt64.ofNat (rvN ((s).drop ((at2 + (rsK ((s).drop at2))) + (rsK ((s).drop (at2 + (rsK ((s).drop at2))))))))), (UInt64.ofNat (rvN ((s).drop (((at2 + (rsK ((s).drop at2))) + (rsK ((s).drop (at2 + (rsK ((s).drop at2)))))) + (rvK ((s).drop ((at2 + (rsK ((s).drop at2))) + (rsK ((s).drop (at2 + (rsK ((s).drop at2))))))))))))⟩ : It)]) (hO2) (M88.focus 2 rfl) (Row.Src.one (K := KIt) (m := [(⟨(rsT ((s).drop at2)), (rsT ((s).drop (at2 + (rsK ((s).drop at2))))), (UInt64.ofNat (rvN ((s).drop ((at2 + (rsK ((s).drop at2))) + (rsK ((s).drop (at2 + (rsK ((s).drop at2))))))))), (UInt64.ofNat (rvN ((s).drop (((at2 + (rsK ((s).drop at2))) + (rsK ((s).drop (at2 + (rsK ((s).drop at2)))))) + (rvK ((s).drop ((at2 + (rsK ((s).drop at2))) + (rsK ((s).drop (at2 + (rsK ((s).drop at2))))))))))))⟩ : It)]) (M88.at 0 rfl)) rfl (by simp only [Y, U]; omega) (by simp only [Y, U]; omega) rfl rfl rfl ?_
                 intro V89 S90 h91 O92 M93
                 obtain ⟨P94, rfl⟩ := Row.Own.shape O92
                 refine D rfl rfl ?_
                 refine WS.st1 (M93.focus 3 rfl) [_] [_, _, _, _] rfl rfl rfl rfl rfl (C rfl) (C rfl) rfl rfl ?_
                 intro h95 M96
                 replace M96 : Mem _ _ ([((rb30 + 12), _)] :: S90 :: [(p86, _)] :: [(p43, _)] :: S_ :: [(p1, _)] :: []) _ := M96
                 refine AX [(0, _), (2, _), (4, _), (5, _), (10, _), (11, _)] rfl ?_
                 refine BX (D rfl rfl (BZ (.int .i64 (((i2 + 1) : Nat) : Int)) rfl rfl (add_i64 (a := i2) (b := 1) (by omega)) (D rfl rfl (AX [(0, _), (2, _), (4, _), (5, _), (10, _), (11, _)] rfl ?_))))
                 refine ⟨(P94, S90, (F ++ [(⟨(rsT ((s).drop at2)), (rsT ((s).drop (at2 + (rsK ((s).drop at2))))), (UInt64.ofNat (rvN ((s).drop ((at2 + (rsK ((s).drop at2))) + (rsK ((s).drop (at2 + (rsK ((s).drop at2))))))))), (UInt64.ofNat (rvN ((s).drop (((at2 + (rsK ((s).drop at2))) + (rsK ((s).drop (at2 + (rsK ((s).drop at2)))))) + (rvK ((s).drop ((at2 + (rsK ((s).drop at2))) + (rsK ((s).drop (at2 + (rsK ((s).drop at2))))))))))))⟩ : It)]), _, i2 + 1), rfl, ⟨(((((M96.bare.focus 5 rfl).focus 5 rfl).focus 2 rfl).focus 3 rfl).take 4), ?_⟩, ?_⟩
                 · exact ⟨O92, by simp [hnl2], by omega, by omega, eq_row hE2 (by assumption) (by assumption) (by assumption) (by assumption), srt_app.2 ⟨hsr, List.pairwise_singleton _ _, fun x hx z hz => by rw [List.mem_singleton] at hz; subst hz; exact hlast x hx⟩, fun y hy => by rcases List.mem_append.1 hy with w | w; exact hvn y w; (rw [List.mem_singleton] at w; subst w; exact ⟨by show 1 ≤ (UInt64.ofNat _).toNat; omega, by show (UInt64.ofNat _).toNat ≤ _; omega⟩), fun T0 g e => by obtain ⟨q1, q2, q3⟩ := hP T0 g e; obtain ⟨y, r1, r2, r3, r4, r5, r6, r7, r8, r9, r10⟩ := row_pro g (by omega) q3; exact ⟨q1, by rw [List.take_add_one, r1, ← q2, r3, r5, r7, r9]; simp, r10⟩⟩
                 · simp only []; omega
               ·
                refine D rfl rfl (G rfl (G rfl (G rfl (G rfl (G rfl (G rfl (G rfl (G rfl (G rfl ?_)))))))))
                refine G rfl (G rfl (D rfl rfl (D rfl rfl (AX [(0, _), (2, _), (4, _), (5, _), (10, _), (11, _), (12, _), (13, _), (16, _), (18, _), (20, _), (21, _), (165, _)] rfl ?_))))
                refine WC.condF rfl (WC.skip (AZ (BX ?_)))
                have hk4 := (rvK_le (s.drop (at2 + rsK (s.drop at2) + rsK (s.drop (at2 + rsK (s.drop at2))) + rvK (s.drop (at2 + rsK (s.drop at2) + rsK (s.drop (at2 + rsK (s.drop at2)))))))).1
                rw [J] at hk4
                refine D rfl rfl (D rfl rfl (BZ (.int .i64 ((((((at2 + (rsK ((s).drop at2))) + (rsK ((s).drop (at2 + (rsK ((s).drop at2)))))) + (rvK ((s).drop ((at2 + (rsK ((s).drop at2))) + (rsK ((s).drop (at2 + (rsK ((s).drop at2))))))))) + (rvK ((s).drop (((at2 + (rsK ((s).drop at2))) + (rsK ((s).drop (at2 + (rsK ((s).drop at2)))))) + (rvK ((s).drop ((at2 + (rsK ((s).drop at2))) + (rsK ((s).drop (at2 + (rsK ((s).drop at2)))))))))))) : Nat) : Int)) rfl rfl (add_i64 (a := (((at2 + (rsK ((s).drop at2))) + (rsK ((s).drop (at2 + (rsK ((s).drop at2)))))) + (rvK ((s).drop ((at2 + (rsK ((s).drop at2))) + (rsK ((s).drop (at2 + (rsK ((s).drop at2)))))))))) (b := (rvK ((s).drop (((at2 + (rsK ((s).drop at2))) + (rsK ((s).drop (at2 + (rsK ((s).drop at2)))))) + (rvK ((s).drop ((at2 + (rsK ((s).drop at2))) + (rsK ((s).drop (at2 + (rsK ((s).drop at2)))))))))))) (by have := rvK_le ((s).drop (((at2 + (rsK ((s).drop at2))) + (rsK ((s).drop (at2 + (rsK ((s).drop at2)))))) + (rvK ((s).drop ((at2 + (rsK ((s).drop at2))) + (rsK ((s).drop (at2 + (rsK ((s).drop at2)))))))))); omega)) (D rfl rfl (AX [(0, _), (2, _), (4, _), (5, _), (10, _), (11, _), (12, _), (13, _), (16, _), (18, _), (20, _)] rfl ?_))))
                refine AZ (BX ?_)
                have hlast : ∀ x ∈ F, kL x.ky (rsT (s.drop at2)) := by
                  first
                  | (intro x hx; exfalso; have := List.length_pos_of_mem hx; omega)
                  | exact last_all hsr hy159 e163
                refine D rfl rfl (D rfl rfl ?_)
                refine WS.st1 (M68.focus 0 rfl) [_] [_, _, _, _] rfl rfl rfl rfl rfl (C rfl) (C rfl) rfl rfl ?_
                intro h97 M98
                replace M98 : Mem _ _ ([(p43, _)] :: S2 :: [((rb30 + 12), _)] :: S_ :: [(p1, _)] :: []) _ := M98
                refine AX [(0, _), (2, _), (4, _), (5, _), (10, _), (11, _), (12, _), (16, _), (18, _), (20, _)] rfl ?_
                refine AZ (BX (D rfl rfl (D rfl rfl ?_)))
                refine WS.st1 (M98.focus 0 rfl) [_] [_, _, _, _] rfl rfl rfl rfl rfl (C rfl) (C rfl) rfl rfl ?_
                intro h99 M100
                replace M100 : Mem _ _ ([(p43, _)] :: S2 :: [((rb30 + 12), _)] :: S_ :: [(p1, _)] :: []) _ := M100
                refine AX [(0, _), (2, _), (4, _), (5, _), (10, _), (11, _), (12, _), (18, _), (20, _)] rfl ?_
                refine AZ (BX (D rfl rfl (D rfl rfl ?_)))
                refine WS.st1 (M100.focus 0 rfl) [_] [_, _, _, _] rfl rfl rfl rfl rfl (C rfl) (C rfl) rfl rfl ?_
                intro h101 M102
                replace M102 : Mem _ _ ([(p43, _)] :: S2 :: [((rb30 + 12), _)] :: S_ :: [(p1, _)] :: []) _ := M102
                refine AX [(0, _), (2, _), (4, _), (5, _), (10, _), (11, _), (12, _), (20, _)] rfl ?_
                refine AZ (BX (D rfl rfl (D rfl rfl ?_)))
                refine WS.st1 (M102.focus 0 rfl) [_] [_, _, _, _] rfl rfl rfl rfl rfl (C rfl) (C rfl) rfl rfl ?_
                intro h103 M104
                replace M104 : Mem _ _ ([(p43, _)] :: S2 :: [((rb30 + 12), _)] :: S_ :: [(p1, _)] :: []) _ := M104
                refine AX [(0, _), (2, _), (4, _), (5, _), (10, _), (11, _), (12, _)] rfl ?_
                refine BX (D rfl rfl (D rfl (op_ld (M104.at 2 rfl) rfl rfl) (D rfl (op_lds [_, _, _, _] (M104.at 0 rfl) rfl (C rfl) rfl) ?_)))
                refine WS.bsl M104 [_, _, _, _] rfl rfl rfl rfl ?_
                intro p105 h106 M107
                refine WS.app (l := F) (m := [(⟨(rsT ((s).drop at2)), (rsT ((s).drop (at2 + (rsK ((s).drop at2))))), (UInt64.ofNat (rvN ((s).drop ((at2 + (rsK ((s).drop at2))) + (rsK ((s).drop (at2 + (rsK ((s).drop at2))))))))), (UInt64.ofNat (rvN ((s).drop (((at2 + (rsK ((s).drop at2))) + (rsK ((s).drop (at2 + (rsK ((s).drop at2)))))) + (rvK ((s).drop ((at2 + (rsK ((s).drop at2))) + (rsK ((s).drop (at2 + (rsK ((s).drop at2))))))))))))⟩ : It)]) (hO2) (M107.focus 2 rfl) (Row.Src.one (K := KIt) (m := [(⟨(rsT ((s).drop at2)), (rsT ((s).drop (at2 + (rsK ((s).drop at2))))), (UInt64.ofNat (rvN ((s).drop ((at2 + (rsK ((s).drop at2))) + (rsK ((s).drop (at2 + (rsK ((s).drop at2))))))))), (UInt64.ofNat (rvN ((s).drop (((at2 + (rsK ((s).drop at2))) + (rsK ((s).drop (at2 + (rsK ((s).drop at2)))))) + (rvK ((s).drop ((at2 + (rsK ((s).drop at2))) + (rsK ((s).drop (at2 + (rsK ((s).drop at2))))))))))))⟩ : It)]) (M107.at 0 rfl)) rfl (by simp only [Y, U]; omega) (by simp only [Y, U]; omega) rfl rfl rfl ?_
                intro V108 S109 h110 O111 M112
                obtain ⟨P113, rfl⟩ := Row.Own.shape O111
                refine D rfl rfl ?_
                refine WS.st1 (M112.focus 3 rfl) [_] [_, _, _, _] rfl rfl rfl rfl rfl (C rfl) (C rfl) rfl rfl ?_
                intro h114 M115
                replace M115 : Mem _ _ ([((rb30 + 12), _)] :: S109 :: [(p105, _)] :: [(p43, _)] :: S_ :: [(p1, _)] :: []) _ := M115
                refine AX [(0, _), (2, _), (4, _), (5, _), (10, _), (11, _)] rfl ?_
                refine BX (D rfl rfl (BZ (.int .i64 (((i2 + 1) : Nat) : Int)) rfl rfl (add_i64 (a := i2) (b := 1) (by omega)) (D rfl rfl (AX [(0, _), (2, _), (4, _), (5, _), (10, _), (11, _)] rfl ?_))))
                refine ⟨(P113, S109, (F ++ [(⟨(rsT ((s).drop at2)), (rsT ((s).drop (at2 + (rsK ((s).drop at2))))), (UInt64.ofNat (rvN ((s).drop ((at2 + (rsK ((s).drop at2))) + (rsK ((s).drop (at2 + (rsK ((s).drop at2))))))))), (UInt64.ofNat (rvN ((s).drop (((at2 + (rsK ((s).drop at2))) + (rsK ((s).drop (at2 + (rsK ((s).drop at2)))))) + (rvK ((s).drop ((at2 + (rsK ((s).drop at2))) + (rsK ((s).drop (at2 + (rsK ((s).drop at2))))))))))))⟩ : It)]), _, i2 + 1), rfl, ⟨(((((M115.bare.focus 5 rfl).focus 5 rfl).focus 2 rfl).focus 3 rfl).take 4), ?_⟩, ?_⟩
                · exact ⟨O111, by simp [hnl2], by omega, by omega, eq_row hE2 (by assumption) (by assumption) (by assumption) (by assumption), srt_app.2 ⟨hsr, List.pairwise_singleton _ _, fun x hx z hz => by rw [List.mem_singleton] at hz; subst hz; exact hlast x hx⟩, fun y hy => by rcases List.mem_append.1 hy with w | w; exact hvn y w; (rw [List.mem_singleton] at w; subst w; exact ⟨by show 1 ≤ (UInt64.ofNat _).toNat; omega, by show (UInt64.ofNat _).toNat ≤ _; omega⟩), fun T0 g e => by obtain ⟨q1, q2, q3⟩ := hP T0 g e; obtain ⟨y, r1, r2, r3, r4, r5, r6, r7, r8, r9, r10⟩ := row_pro g (by omega) q3; exact ⟨q1, by rw [List.take_add_one, r1, ← q2, r3, r5, r7, r9]; simp, r10⟩⟩
                · simp only []; omega
        ·
         refine AX [(0, _), (2, _), (4, _), (5, _), (10, _), (11, _), (81, _)] rfl ?_
         refine WC.condF rfl (WC.exit ?_)
         refine AZ (AZ (WC.draw M42 [] rfl ?_))
         intro rb116 h117 M118
         have hbig := rows_big (F := F)
         have hsl := congrArg List.length hE2
         rw [AQ, AQ] at hsl
         refine D rfl rfl (D rfl rfl (D rfl (op_lenS (l := s) rfl) ?_))
         refine WS.neqN (a := at2) (b := (s).length) rfl rfl rfl (fun e187 => ?_) (fun e187 => ?_)
         ·
          refine D rfl rfl (G rfl (G rfl (G rfl (G rfl (G rfl (G rfl (D rfl rfl (D rfl rfl (G rfl ?_)))))))))
          refine G rfl (G rfl (G rfl (WS.offC rfl (WS.chkOff rfl (G rfl (D rfl rfl (AX [(2, _), (10, _), (203, _)] rfl ?_)))))))
          refine WC.condT rfl (AZ (BX (BZ (.agg #[(.slice none 0 0), (.int .i64 (0 : Int)), (.int .i64 (0 : Int)), (.int .u64 (0 : Int))]) rfl rfl rfl ?_)))
          refine WS.st1 (M118.bare.focus 3 rfl) [_, _, _, _] [_, _, _, _] rfl rfl rfl rfl rfl (C rfl) (C rfl) rfl rfl ?_
          intro h119 M120
          replace M120 : Mem _ _ ([(p1, _)] :: S2 :: [((rb30 + 12), _)] :: S_ :: []) _ := M120
          refine D rfl rfl (AX [(2, _), (3, _)] rfl ?_)
          refine WC.ret (⟨[_, _], (res_cellN [_, _, _, _] rfl (M120.at 0 rfl) (C rfl) rfl (res_tmp rfl res_nil)), ?_⟩)
          have hno : ∀ T0, KGood T0 → wrK T0 ≠ s := fun T0 g e => by
            obtain ⟨q1, q2, q3⟩ := hP T0 g e
            have eF : F = T0.F := by rw [q2, List.take_of_length_le (by omega)]
            rw [List.drop_of_length_le (show T0.F.length ≤ i2 by omega)] at q3
            have z4 := congrArg List.length q3
            rw [J] at z4
            have z1 := g.ok.len; have z2 := g.ok.sz
            rw [← eF] at z1 z2
            simp only [List.flatMap_nil, U] at z4
            omega
          exact .inr ⟨rfl, hno, M120.bare.take 0⟩
         ·
          refine D rfl rfl (D rfl rfl (D rfl (op_ld (M118.at 1 rfl) rfl rfl) (D rfl (op_lenVO hO2 rfl) (D rfl rfl (D rfl (op_ld (M118.at 1 rfl) rfl rfl) ?_)))))
          refine WS.gtrN (a := (F).length) (b := y45.toNat) rfl rfl rfl (fun e194 => ?_) (fun e194 => ?_)
          ·
           refine D rfl rfl (D rfl rfl (G rfl (G rfl (G rfl (G rfl (WS.offC rfl (WS.chkOff rfl (G rfl (D rfl rfl ?_)))))))))
           refine AX [(2, _), (10, _), (203, _)] rfl ?_
           refine WC.condT rfl (AZ (BX (BZ (.agg #[(.slice none 0 0), (.int .i64 (0 : Int)), (.int .i64 (0 : Int)), (.int .u64 (0 : Int))]) rfl rfl rfl ?_)))
           refine WS.st1 (M118.bare.focus 3 rfl) [_, _, _, _] [_, _, _, _] rfl rfl rfl rfl rfl (C rfl) (C rfl) rfl rfl ?_
           intro h121 M122
           replace M122 : Mem _ _ ([(p1, _)] :: S2 :: [((rb30 + 12), _)] :: S_ :: []) _ := M122
           refine D rfl rfl (AX [(2, _), (3, _)] rfl ?_)
           refine WC.ret (⟨[_, _], (res_cellN [_, _, _, _] rfl (M122.at 0 rfl) (C rfl) rfl (res_tmp rfl res_nil)), ?_⟩)
           have hno : ∀ T0, KGood T0 → wrK T0 ≠ s := fun T0 g e => by
             obtain ⟨q1, q2, q3⟩ := hP T0 g e
             have eF : F = T0.F := by rw [q2, List.take_of_length_le (by omega)]
             rw [List.drop_of_length_le (show T0.F.length ≤ i2 by omega)] at q3
             have z4 := congrArg List.length q3
             rw [J] at z4
             have z1 := g.ok.len; have z2 := g.ok.sz
             rw [← eF] at z1 z2
             simp only [List.flatMap_nil, U] at z4
             omega
           exact .inr ⟨rfl, hno, M122.bare.take 0⟩
          ·
           refine D rfl rfl (D rfl rfl (D rfl rfl (D rfl (op_ld (M118.at 1 rfl) rfl rfl) (D rfl rfl (D rfl (op_ld (M118.at 1 rfl) rfl rfl) ?_)))))
           refine WS.call rfl rfl rfl (rSize_ran M118.here (Row.Own.sl hO2 (Mem.owni M118 0 rfl)) (by omega) (by omega)) ?_
           rintro _ h123 ⟨rfl, N124⟩
           have M125 := M118.trans N124
           refine WS.chk rfl (op_ld (M125.at 1 rfl) rfl rfl) rfl (sameV_refl rfl) ?_
           refine WS.gtrN (a := (szF F)) (b := y50.toNat) rfl rfl rfl (fun e202 => ?_) (fun e202 => ?_)
           ·
            refine D rfl rfl (AX [(2, _), (10, _), (203, _)] rfl ?_)
            refine WC.condT rfl (AZ (BX (BZ (.agg #[(.slice none 0 0), (.int .i64 (0 : Int)), (.int .i64 (0 : Int)), (.int .u64 (0 : Int))]) rfl rfl rfl ?_)))
            refine WS.st1 (M125.bare.focus 3 rfl) [_, _, _, _] [_, _, _, _] rfl rfl rfl rfl rfl (C rfl) (C rfl) rfl rfl ?_
            intro h126 M127
            replace M127 : Mem _ _ ([(p1, _)] :: S2 :: [((rb30 + 12), _)] :: S_ :: []) _ := M127
            refine D rfl rfl (AX [(2, _), (3, _)] rfl ?_)
            refine WC.ret (⟨[_, _], (res_cellN [_, _, _, _] rfl (M127.at 0 rfl) (C rfl) rfl (res_tmp rfl res_nil)), ?_⟩)
            have hno : ∀ T0, KGood T0 → wrK T0 ≠ s := fun T0 g e => by
              obtain ⟨q1, q2, q3⟩ := hP T0 g e
              have eF : F = T0.F := by rw [q2, List.take_of_length_le (by omega)]
              rw [List.drop_of_length_le (show T0.F.length ≤ i2 by omega)] at q3
              have z4 := congrArg List.length q3
              rw [J] at z4
              have z1 := g.ok.len; have z2 := g.ok.sz
              rw [← eF] at z1 z2
              simp only [List.flatMap_nil, U] at z4
              omega
            exact .inr ⟨rfl, hno, M127.bare.take 0⟩
           ·
            refine D rfl rfl (AX [(2, _), (10, _), (203, _)] rfl ?_)
            refine WC.condF rfl (WC.skip (AZ (BX (D rfl (op_lds [_, _, _, _] (M125.bare.at 1 rfl) rfl (C rfl) rfl) ?_))))
            refine WS.st1 (M125.bare.focus 3 rfl) [_, _, _, _] [_, _, _, _] rfl rfl rfl rfl rfl (C rfl) (C rfl) rfl rfl ?_
            intro h128 M129
            replace M129 : Mem _ _ ([(p1, _)] :: S2 :: [((rb30 + 12), _)] :: S_ :: []) _ := M129
            refine D rfl rfl (AX [(2, _), (3, _)] rfl ?_)
            refine WC.ret (⟨[_, _], (res_cellN [_, _, _, _] rfl (M129.at 0 rfl) (C rfl) rfl (res_tmp rfl res_nil)), ?_⟩)
            have hg : KGood (⟨F, y45.toNat, y50.toNat, y73.toNat⟩ : KS) := ⟨⟨hsr, by show F.length ≤ y45.toNat; omega, by show szF F ≤ y50.toNat; omega, by show y45.toNat ≤ _; omega, by show y50.toNat ≤ _; omega⟩, hvn, y73.toNat_lt⟩
            exact .inl ⟨_, _, ⟨F, y45.toNat, y50.toNat, y73.toNat⟩, S2, rfl, hO2, hg, by rw [List.drop_of_length_le (by omega), List.append_nil] at hE2; rw [hE2]; unfold wrK; rw [show F.length = y56.toNat by omega], ((M129.bare.focus 1 rfl).take 1)⟩
end Go.Proofs.Ytkfjlbdedjoojaa.Wt
namespace Go.Proofs.Ytkfjlbdedjoojaa.Wt
open Go Go.Proofs.Ytkfjlbdedjoojaa.Am Go.Proofs.Ytkfjlbdedjoojaa.IrAll
open Go.Proofs.Ytkfjlbdedjoojaa.Am.WS renaming op → C
open Go.Proofs.Ytkfjlbdedjoojaa.Am.WS renaming off → D
open Nat renaming le_of_ble_eq_true → G
open List renaming length_take → J
set_option linter.unusedVariables false
set_option linter.unusedSimpArgs false
variable {h base h2 : H} {L : List Seg} {R : List Nat}
set_option maxRecDepth 8000 in
theorem law_KvReads (W : Mem h h [] []) {s : List UInt8} {u0 : Value} (l0 : layStr h s [u0]) (k0 : s.length < 9223372036854775808) : Cll tab0 5 [u0] h (fun v _ => v = .bool true) := by
  cases l0
  refine Cll.code rfl rfl ?_
  refine WC.env [(0, _)] rfl ?_
  refine WC.seq (WC.run (C rfl rfl (WS.nil [(0, _)] rfl ?_)))
  refine WC.seq (WC.seq (WC.run (C rfl rfl (C rfl (op_lenS (l := s) rfl) ?_))))
  refine WS.gtrN (a := (s).length) (b := 6000) rfl rfl rfl (fun e9 => ?_) (fun e9 => ?_)
  ·
   refine WS.nil [(0, _), (9, _)] rfl ?_
   refine WC.condT rfl (WC.run (C rfl rfl (C rfl (op_slS1 (l := s) 6000 rfl rfl (by first | omega | (simp only [List.length_drop, J, List.length_append, List.length_cons, List.length_nil, List.length_singleton]; omega) | (simp only [List.length_drop, J, List.length_append, List.length_cons, List.length_nil, List.length_singleton] at *; omega))) (C rfl rfl (WS.nil [(0, _)] rfl ?_)))))
   refine WC.seq (WC.run (C rfl rfl ?_))
   refine WS.call rfl rfl rfl (kRead_st (s := ((s).take 6000)) W.bare (by first | omega | (rw [J]; omega))) ?_
   rintro _ h1 (⟨x5, T1, S3, rfl, hg1, hw1, hu1, G4, M2⟩ | ⟨rfl, hno1, M6⟩)
   ·
    replace M2 : Mem _ _ (S3 :: []) _ := M2
    have hn1 : T1.F.length ≤ 800000 := by have q := rows_big (F := T1.F); have z := congrArg List.length hw1; unfold wrK at z; rw [List.length_append] at z; have y : (((s).take 6000)).length ≤ 6000 := (by first | omega | (rw [J]; omega)); omega
    refine C rfl rfl (C rfl rfl (C rfl rfl (C rfl rfl (C rfl rfl (WS.nil [(0, _), (3, _), (4, _)] rfl ?_)))))
    refine WC.seq (WC.run (C rfl rfl ?_))
    refine WS.call rfl rfl rfl (rRead_ran (s := ((s).take 6000)) M2.here (by first | omega | (rw [J]; omega))) ?_
    rintro _ h7 (⟨P11, c12, T2, S13, rfl, O14, hg2, hw2, N8⟩ | ⟨rfl, hno2, N8⟩)
    ·
     have e2 := hu1 _ hg2 hw2
     subst e2
     have M9 := M2.trans N8
     replace M9 : Mem _ _ (S13 :: S3 :: []) _ := M9
     refine C rfl rfl (C rfl rfl (C rfl rfl ?_))
     refine WS.new M9 rfl ?_
     intro p15 h16 M17
     refine WS.st1 (M17.focus 0 rfl) [_, _, _, _] [_, _, _, _] rfl rfl rfl rfl rfl (G rfl) (G rfl) rfl rfl ?_
     intro h18 M19
     replace M19 : Mem _ _ ([(p15, _)] :: S13 :: S3 :: []) _ := M19
     refine C rfl rfl (WS.nil [(0, _), (3, _), (4, _), (5, _), (6, _)] rfl ?_)
     refine WC.seq (WC.seq (WC.run (C rfl rfl (C rfl rfl (WS.opV (.bool false) rfl rfl rfl (C rfl rfl (C rfl rfl (C rfl rfl (WS.opV (.bool true) rfl rfl rfl (WS.opV (.bool false) rfl rfl rfl (C rfl rfl (WS.nil [(0, _), (3, _), (4, _), (5, _), (30, _)] rfl ?_))))))))))))
     refine WC.condF rfl (WC.skip (WC.seq (WC.draw M19 [] rfl ?_)))
     intro rb20 h21 M22
     refine C rfl rfl (WS.opV (.bool false) rfl rfl rfl (C rfl rfl (C rfl rfl (C rfl rfl ?_))))
     refine WS.call rfl rfl rfl (kWrite_st  G4 (M22.bare.focus 2 rfl) hg1.ok hn1 (Nat.lt_of_lt_of_le hg1.v (by decide))) ?_
     rintro _ h23 ⟨rfl, S25, G26, M24⟩
     replace M24 : Mem _ _ (S25 :: [(p15, _)] :: S13 :: []) _ := M24
     refine WS.seql (l := (wrK T1)) (m := ((s).take 6000)) rfl rfl rfl (fun e37 => ?_) (fun e37 => ?_)
     ·
      refine C rfl rfl (C rfl (op_lds [_, _, _, _] (M24.at 1 rfl) rfl (G rfl) rfl) (C rfl rfl ?_))
      refine WS.call rfl rfl rfl (rWrite_ran M24.here (s := T1) (Row.Own.sl O14 (Mem.owni M24 2 rfl)) hg1.ok hn1 hg1.v) ?_
      rintro _ h27 ⟨rfl, N28⟩
      have M29 := M24.trans N28
      refine WS.seql (l := (wrK T1)) (m := ((s).take 6000)) rfl rfl rfl (fun e42 => ?_) (fun e42 => ?_)
      ·
       refine C rfl rfl (C rfl rfl (C rfl rfl (C rfl rfl (C rfl (op_ld (M29.at 1 rfl) rfl rfl) (C rfl (op_lenVO O14 rfl) ?_)))))
       refine WS.call rfl rfl rfl (kKeys_st  G26 (M29.bare.focus 0 rfl) ) ?_
       rintro _ h30 ⟨rfl, S32, G33, M31⟩
       replace M31 : Mem _ _ (S32 :: [(p15, _)] :: S13 :: []) _ := M31
       refine WS.chk rfl (op_ld (M31.at 1 rfl) rfl rfl) rfl (same_sl _ _ _) ?_
       refine WS.eqlN (a := T1.F.length) (b := (T1.F).length) rfl rfl rfl (fun e50 => ?_) (fun e50 => ?_)
       ·
        refine C rfl rfl (C rfl rfl (C rfl rfl (C rfl rfl (C rfl (op_ld (M31.at 1 rfl) rfl rfl) ?_))))
        refine WS.call rfl rfl rfl (kBytes_st  G33 (M31.bare.focus 0 rfl) ) ?_
        rintro _ h34 ⟨rfl, S36, G37, M35⟩
        replace M35 : Mem _ _ (S36 :: [(p15, _)] :: S13 :: []) _ := M35
        refine WS.chk rfl (op_ld (M35.at 1 rfl) rfl rfl) rfl (same_sl _ _ _) ?_
        refine WS.call rfl rfl rfl (rSize_ran M35.here (Row.Own.sl O14 (Mem.owni M35 2 rfl)) (Nat.le_trans hn1 (by omega)) (Nat.le_trans hg1.ok.sz (Nat.le_trans hg1.ok.M (by omega)))) ?_
        rintro _ h38 ⟨rfl, N39⟩
        have M40 := M35.trans N39
        refine WS.eqlN (a := (szF T1.F)) (b := (szF T1.F)) rfl rfl rfl (fun e58 => ?_) (fun e58 => ?_)
        ·
         refine C rfl rfl (C rfl rfl (C rfl rfl ?_))
         refine WS.call rfl rfl rfl (awake16_ran M40.here ) ?_
         rintro _ h41 ⟨rfl, N42⟩
         have M43 := M40.trans N42
         refine C rfl rfl (C rfl rfl (WS.nil [(2, _)] rfl ?_))
         refine WC.ret (⟨[_], (res_tmp rfl res_nil), ?_⟩)
         rfl
        ·
         exact absurd rfl e58
       ·
        exact absurd rfl e50
      ·
       exact absurd hw1 e42
     ·
      exact absurd hw1 e37
    ·
     exact absurd hw1 (hno2 _ hg1)
   ·
    refine C rfl rfl (C rfl rfl (C rfl rfl (C rfl rfl (C rfl rfl (WS.nil [(0, _), (3, _), (4, _)] rfl ?_)))))
    refine WC.seq (WC.run (C rfl rfl ?_))
    refine WS.call rfl rfl rfl (rRead_ran (s := ((s).take 6000)) M6.here (by first | omega | (rw [J]; omega))) ?_
    rintro _ h44 (⟨P48, c49, T2, S50, rfl, O51, hg2, hw2, N45⟩ | ⟨rfl, hno2, N45⟩)
    ·
     exact absurd hw2 (hno1 _ hg2)
    ·
     have M47 := M6.trans N45
     refine C rfl rfl (C rfl rfl (C rfl rfl ?_))
     refine WS.new M47 rfl ?_
     intro p52 h53 M54
     refine WS.st1 (M54.focus 0 rfl) [_, _, _, _] [_, _, _, _] rfl rfl rfl rfl rfl (G rfl) (G rfl) rfl rfl ?_
     intro h55 M56
     replace M56 : Mem _ _ ([(p52, _)] :: []) _ := M56
     refine C rfl rfl (WS.nil [(0, _), (3, _), (4, _), (5, _), (6, _)] rfl ?_)
     refine WC.seq (WC.seq (WC.run (C rfl rfl (C rfl rfl (WS.opV (.bool false) rfl rfl rfl (C rfl rfl (C rfl rfl (C rfl rfl (WS.opV (.bool false) rfl rfl rfl (WS.opV (.bool false) rfl rfl rfl (C rfl rfl (WS.nil [(0, _), (3, _), (4, _), (5, _), (30, _)] rfl ?_))))))))))))
     refine WC.condF rfl (WC.skip (WC.seq (WC.draw M56 [] rfl ?_)))
     intro rb57 h58 M59
     refine C rfl rfl (WS.opV (.bool true) rfl rfl rfl (C rfl rfl (D rfl (D rfl (WS.offC rfl (D rfl (D rfl (D rfl (D rfl ?_)))))))))
     refine WS.offC rfl (D rfl (D rfl (D rfl (D rfl (D rfl (D rfl (D rfl (WS.offC rfl (WS.chkOff rfl ?_)))))))))
     refine D rfl (D rfl (D rfl (D rfl (D rfl (D rfl (WS.offC rfl (WS.chkOff rfl (WS.offC rfl (D rfl ?_)))))))))
     refine D rfl (C rfl rfl (C rfl rfl ?_))
     refine WS.call rfl rfl rfl (awake16_ran M59.here ) ?_
     rintro _ h60 ⟨rfl, N61⟩
     have M62 := M59.trans N61
     refine C rfl rfl (C rfl rfl (WS.nil [(2, _)] rfl ?_))
     refine WC.ret (⟨[_], (res_tmp rfl res_nil), ?_⟩)
     rfl
  ·
   refine WS.nil [(0, _), (9, _)] rfl ?_
   refine WC.condF rfl (WC.skip (WC.seq (WC.run (C rfl rfl ?_))))
   refine WS.call rfl rfl rfl (kRead_st (s := s) W.bare (by first | omega | (rw [J]; omega))) ?_
   rintro _ h63 (⟨x67, T1, S65, rfl, hg1, hw1, hu1, G66, M64⟩ | ⟨rfl, hno1, M68⟩)
   ·
    replace M64 : Mem _ _ (S65 :: []) _ := M64
    have hn1 : T1.F.length ≤ 800000 := by have q := rows_big (F := T1.F); have z := congrArg List.length hw1; unfold wrK at z; rw [List.length_append] at z; have y : (s).length ≤ 6000 := (by first | omega | (rw [J]; omega)); omega
    refine C rfl rfl (C rfl rfl (C rfl rfl (C rfl rfl (C rfl rfl (WS.nil [(0, _), (3, _), (4, _)] rfl ?_)))))
    refine WC.seq (WC.run (C rfl rfl ?_))
    refine WS.call rfl rfl rfl (rRead_ran (s := s) M64.here (by first | omega | (rw [J]; omega))) ?_
    rintro _ h69 (⟨P73, c74, T2, S75, rfl, O76, hg2, hw2, N70⟩ | ⟨rfl, hno2, N70⟩)
    ·
     have e2 := hu1 _ hg2 hw2
     subst e2
     have M71 := M64.trans N70
     replace M71 : Mem _ _ (S75 :: S65 :: []) _ := M71
     refine C rfl rfl (C rfl rfl (C rfl rfl ?_))
     refine WS.new M71 rfl ?_
     intro p77 h78 M79
     refine WS.st1 (M79.focus 0 rfl) [_, _, _, _] [_, _, _, _] rfl rfl rfl rfl rfl (G rfl) (G rfl) rfl rfl ?_
     intro h80 M81
     replace M81 : Mem _ _ ([(p77, _)] :: S75 :: S65 :: []) _ := M81
     refine C rfl rfl (WS.nil [(0, _), (3, _), (4, _), (5, _), (6, _)] rfl ?_)
     refine WC.seq (WC.seq (WC.run (C rfl rfl (C rfl rfl (WS.opV (.bool false) rfl rfl rfl (C rfl rfl (C rfl rfl (C rfl rfl (WS.opV (.bool true) rfl rfl rfl (WS.opV (.bool false) rfl rfl rfl (C rfl rfl (WS.nil [(0, _), (3, _), (4, _), (5, _), (30, _)] rfl ?_))))))))))))
     refine WC.condF rfl (WC.skip (WC.seq (WC.draw M81 [] rfl ?_)))
     intro rb82 h83 M84
     refine C rfl rfl (WS.opV (.bool false) rfl rfl rfl (C rfl rfl (C rfl rfl (C rfl rfl ?_))))
     refine WS.call rfl rfl rfl (kWrite_st  G66 (M84.bare.focus 2 rfl) hg1.ok hn1 (Nat.lt_of_lt_of_le hg1.v (by decide))) ?_
     rintro _ h85 ⟨rfl, S87, G88, M86⟩
     replace M86 : Mem _ _ (S87 :: [(p77, _)] :: S75 :: []) _ := M86
     refine WS.seql (l := (wrK T1)) (m := s) rfl rfl rfl (fun e37 => ?_) (fun e37 => ?_)
     ·
      refine C rfl rfl (C rfl (op_lds [_, _, _, _] (M86.at 1 rfl) rfl (G rfl) rfl) (C rfl rfl ?_))
      refine WS.call rfl rfl rfl (rWrite_ran M86.here (s := T1) (Row.Own.sl O76 (Mem.owni M86 2 rfl)) hg1.ok hn1 hg1.v) ?_
      rintro _ h89 ⟨rfl, N90⟩
      have M91 := M86.trans N90
      refine WS.seql (l := (wrK T1)) (m := s) rfl rfl rfl (fun e42 => ?_) (fun e42 => ?_)
      ·
       refine C rfl rfl (C rfl rfl (C rfl rfl (C rfl rfl (C rfl (op_ld (M91.at 1 rfl) rfl rfl) (C rfl (op_lenVO O76 rfl) ?_)))))
       refine WS.call rfl rfl rfl (kKeys_st  G88 (M91.bare.focus 0 rfl) ) ?_
       rintro _ h92 ⟨rfl, S94, G95, M93⟩
       replace M93 : Mem _ _ (S94 :: [(p77, _)] :: S75 :: []) _ := M93
       refine WS.chk rfl (op_ld (M93.at 1 rfl) rfl rfl) rfl (same_sl _ _ _) ?_
       refine WS.eqlN (a := T1.F.length) (b := (T1.F).length) rfl rfl rfl (fun e50 => ?_) (fun e50 => ?_)
       ·
        refine C rfl rfl (C rfl rfl (C rfl rfl (C rfl rfl (C rfl (op_ld (M93.at 1 rfl) rfl rfl) ?_))))
        refine WS.call rfl rfl rfl (kBytes_st  G95 (M93.bare.focus 0 rfl) ) ?_
        rintro _ h96 ⟨rfl, S98, G99, M97⟩
        replace M97 : Mem _ _ (S98 :: [(p77, _)] :: S75 :: []) _ := M97
        refine WS.chk rfl (op_ld (M97.at 1 rfl) rfl rfl) rfl (same_sl _ _ _) ?_
        refine WS.call rfl rfl rfl (rSize_ran M97.here (Row.Own.sl O76 (Mem.owni M97 2 rfl)) (Nat.le_trans hn1 (by omega)) (Nat.le_trans hg1.ok.sz (Nat.le_trans hg1.ok.M (by omega)))) ?_
        rintro _ h100 ⟨rfl, N101⟩
        have M102 := M97.trans N101
        refine WS.eqlN (a := (szF T1.F)) (b := (szF T1.F)) rfl rfl rfl (fun e58 => ?_) (fun e58 => ?_)
        ·
         refine C rfl rfl (C rfl rfl (C rfl rfl ?_))
         refine WS.call rfl rfl rfl (awake16_ran M102.here ) ?_
         rintro _ h103 ⟨rfl, N104⟩
         have M105 := M102.trans N104
         refine C rfl rfl (C rfl rfl (WS.nil [(2, _)] rfl ?_))
         refine WC.ret (⟨[_], (res_tmp rfl res_nil), ?_⟩)
         rfl
        ·
         exact absurd rfl e58
       ·
        exact absurd rfl e50
      ·
       exact absurd hw1 e42
     ·
      exact absurd hw1 e37
    ·
     exact absurd hw1 (hno2 _ hg1)
   ·
    refine C rfl rfl (C rfl rfl (C rfl rfl (C rfl rfl (C rfl rfl (WS.nil [(0, _), (3, _), (4, _)] rfl ?_)))))
    refine WC.seq (WC.run (C rfl rfl ?_))
    refine WS.call rfl rfl rfl (rRead_ran (s := s) M68.here (by first | omega | (rw [J]; omega))) ?_
    rintro _ h106 (⟨P110, c111, T2, S112, rfl, O113, hg2, hw2, N107⟩ | ⟨rfl, hno2, N107⟩)
    ·
     exact absurd hw2 (hno1 _ hg2)
    ·
     have M109 := M68.trans N107
     refine C rfl rfl (C rfl rfl (C rfl rfl ?_))
     refine WS.new M109 rfl ?_
     intro p114 h115 M116
     refine WS.st1 (M116.focus 0 rfl) [_, _, _, _] [_, _, _, _] rfl rfl rfl rfl rfl (G rfl) (G rfl) rfl rfl ?_
     intro h117 M118
     replace M118 : Mem _ _ ([(p114, _)] :: []) _ := M118
     refine C rfl rfl (WS.nil [(0, _), (3, _), (4, _), (5, _), (6, _)] rfl ?_)
     refine WC.seq (WC.seq (WC.run (C rfl rfl (C rfl rfl (WS.opV (.bool false) rfl rfl rfl (C rfl rfl (C rfl rfl (C rfl rfl (WS.opV (.bool false) rfl rfl rfl (WS.opV (.bool false) rfl rfl rfl (C rfl rfl (WS.nil [(0, _), (3, _), (4, _), (5, _), (30, _)] rfl ?_))))))))))))
     refine WC.condF rfl (WC.skip (WC.seq (WC.draw M118 [] rfl ?_)))
     intro rb119 h120 M121
     refine C rfl rfl (WS.opV (.bool true) rfl rfl rfl (C rfl rfl (D rfl (D rfl (WS.offC rfl (D rfl (D rfl (D rfl (D rfl ?_)))))))))
     refine WS.offC rfl (D rfl (D rfl (D rfl (D rfl (D rfl (D rfl (D rfl (WS.offC rfl (WS.chkOff rfl ?_)))))))))
     refine D rfl (D rfl (D rfl (D rfl (D rfl (D rfl (WS.offC rfl (WS.chkOff rfl (WS.offC rfl (D rfl ?_)))))))))
     refine D rfl (C rfl rfl (C rfl rfl ?_))
     refine WS.call rfl rfl rfl (awake16_ran M121.here ) ?_
     rintro _ h122 ⟨rfl, N123⟩
     have M124 := M121.trans N123
     refine C rfl rfl (C rfl rfl (WS.nil [(2, _)] rfl ?_))
     refine WC.ret (⟨[_], (res_tmp rfl res_nil), ?_⟩)
     rfl
end Go.Proofs.Ytkfjlbdedjoojaa.Wt
