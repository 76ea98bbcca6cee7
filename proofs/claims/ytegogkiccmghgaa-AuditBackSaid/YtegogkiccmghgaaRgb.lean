/- The functions of chapter 19 that write and read rings, and the reference's. -/
import Derived.Test.YtegogkiccmghgaaRg
namespace Go.Proofs.Ytegogkiccmghgaa.Wt
open Go Go.Proofs.Ytegogkiccmghgaa.Am Go.Proofs.Ytegogkiccmghgaa.IrAll
set_option linter.unusedVariables false
set_option linter.unusedSimpArgs false
variable {h base : H} {L : List Seg} {R : List Nat}
def Held {α : Type} (K : Row α) (V : Value) (l : List α) (S : Seg) : Prop := ∀ h : H, (∀ p ∈ S, h.get p.1 = some p.2) → K.Sl h V l
theorem held_own {α : Type} {K : Row α} {V : Value} {l m : List α} {S : Seg} (O : K.Own V l S) (e : m = l) : Held K V m S := by subst e; exact fun h M => O.sl M
theorem held_drop {α : Type} {K : Row α} {p c : Nat} {l m : List α} {n : Nat} (hn : K.n = n) (e : m = l.drop 1) (hne : l ≠ []) : Held K (.slice (some ⟨p, 0 + 1 * n, none⟩) (l.length - 1) c) m [(p, ⟨K.flat l, n, false⟩)] := by
  intro h M
  subst e
  have hb := M _ (List.mem_singleton.2 rfl)
  subst hn
  rw [← List.length_drop]
  refine .row _ _ _ _ ⟨_, hb, ?_, ?_⟩
  · cases l with
    | nil => exact absurd rfl hne
    | cons x l => rw [List.drop_one, List.tail_cons, Row.flat_cons, List.length_append, K.len]; omega
  · cases l with
    | nil => exact absurd rfl hne
    | cons x l => rw [List.drop_one, List.tail_cons, Row.flat_cons, show 0 + 1 * K.n = (K.cells x).length by rw [K.len]; omega, List.drop_left, List.take_length]
theorem op_slV1 {e : Env} {x y : Operand} {p n c es : Nat} {k : IntKind} {B : Blk} (hx : ev e x = some (.slice (some ⟨p, 0, none⟩) n (2 * n))) (hy : ev e y = some (.int k 1)) (h1 : 1 ≤ n) (hb : h.get p = some B) (he : B.es = es) : opE (.slV es x (some y) none none) e h none = some (.slice (some ⟨p, 0 + 1 * es, none⟩) (n - 1) (2 * (n - 1)), h) := by
  have hy2 : bnd e (some y) = some (some 1) := by simp [bnd, hy]
  have hno : bnd e none = some none := rfl
  simp only [opE, hx, hy2, hno]
  simp only [Option.getD_none, Option.getD_some]
  rw [if_pos ⟨by omega, by omega, by omega, by simp⟩, if_neg (by simp), hb]
  simp only [he, if_true]
  congr 3
  omega
inductive Own0 {α : Type} (K : Row α) : Value → List α → Seg → Prop
  | own {V l S} (O : K.Own V l S) : Own0 K V l S
  | emp (b e : Nat) : Own0 K (.slice (some ⟨b, 0, none⟩) 0 1) [] [(b, ⟨[], e, false⟩)]
theorem WS.app0 {α : Type} {K : Row α} {e : Env} {l m : List α} {V y : Value} {tab : Nat → Option FD} {rb : Nat} {d : Option Nat} {g : Option (Nat × Bool)} {ss : List Step} {q : Env → H → Prop} {S : Seg} {x z : Operand} {bytes es : Nat} (O : Own0 K V l S) (M : Mem base h (S :: L) R) (A : K.Src h y m) (hes : es = K.n) (hb : (l.length + m.length) * bytes ≤ 140737488355328) (hn : l.length + m.length ≤ 1099511627776) (hg : gd e g = some true) (hx : ev e x = some V) (hy : ev e z = some y)
    (k : ∀ V' S' h1, Own0 K V' (l ++ m) S' → (l ++ m ≠ [] → K.Own V' (l ++ m) S') → Mem base h1 (S' :: L) R → WS tab rb ss (put e d V') h1 q) : WS tab rb (.op d g (.app es bytes x z) :: ss) e h q := by
  cases O with
  | own O => exact WS.app O M A hes hb hn hg hx hy (fun V' S' h1 O M => k V' S' h1 (.own O) (fun _ => O) M)
  | emp b ee =>
    subst hes
    obtain ⟨a1, a2⟩ := A
    have hall := plain1_one (K.flat_plain m)
    have hg2 : h.get b = some ⟨[], ee, false⟩ := M.own0 _ (List.mem_singleton.2 rfl)
    by_cases c : m = []
    · subst c
      refine .op hg (op_app hx hy (r := (.slice (some ⟨b, 0, none⟩) 0 1, h)) ?_) (k _ _ _ (.emp b ee) (fun q => absurd rfl q) M)
      simp only [List.length_nil] at a1 a2
      simp only [appE, a1, a2]
      rfl
    · have hm : m.length ≠ 0 := fun e => c (List.eq_nil_of_length_eq_zero e)
      have O2 := Row.Own.row (K := K) h.next m c
      refine .op hg (op_app hx hy (r := (.slice (some ⟨h.next, 0, none⟩) m.length (2 * m.length), h.alloc ⟨K.flat m, K.n, false⟩)) ?_) (k _ _ _ (.own O2) (fun _ => O2) ((M.alloc _).focus 1 rfl).drop)
      simp only [appE, a1, a2]
      simp only [List.length_nil, Nat.zero_add] at hb hn
      simp only [Nat.zero_add, Nat.zero_mul]
      rw [if_neg (by omega), if_pos ⟨hb, hn, hall⟩, lds_at hg2 (by simp)]
      rfl
/-! ### Rows that are written -/
def Rw.tok (x : Rw) : List UInt8 := [x.t0, x.t1, x.t2, x.t3, x.t4, x.t5, x.t6, x.t7]
def rowb (x : Rw) : List UInt8 := ([x.op, x.cd] ++ x.tok) ++ vb x.sq.toNat
def wr (t : Nat) (l : List Rw) : List UInt8 := vb t ++ l.flatMap rowb
theorem rowb_len (x : Rw) : (rowb x).length ≤ 20 := by have := vb_len x.sq.toNat_lt; simp [rowb, Rw.tok]; omega
theorem rows_len : ∀ (l : List Rw), (l.flatMap rowb).length ≤ 20 * l.length := by
  intro l
  induction l with
  | nil => simp
  | cons x l ih => have := rowb_len x; rw [List.flatMap_cons, List.length_append, List.length_cons]; omega
theorem wr_len {t : Nat} {l : List Rw} (ht : t < 18446744073709551616) (hl : l.length ≤ 8) : (wr t l).length ≤ 170 := by
  have := vb_len ht; have := rows_len l; unfold wr; rw [List.length_append]; omega
theorem wr_pos (t : Nat) (l : List Rw) : 0 < (wr t l).length := by
  unfold wr; rw [List.length_append]; have := List.length_pos_iff.2 (vb_ne t); omega
set_option maxRecDepth 4000 in
theorem ring_Write_ran (W : Mem h h [] []) {p t : Nat} {cs : List Value} {l : List Rw} (hp : h.get p = some ⟨cs, 0, false⟩) (G : Ring cs l t) : Cll tab0 16 [.pointer (some ⟨p, 0, none⟩)] h (fun v h2 => v = .string (bs (wr t l)) ∧ Mem h h2 [] []) := by
  have hl8 := G.le
  have ht := G.lt
  have hv := vb_len ht
  obtain ⟨rs, a, m, hl, ha, hm, _, rfl, rfl⟩ := id G
  have hp2 := hp
  refine Cll.code rfl rfl ?_
  refine WC.env [(0, _)] rfl ?_
  refine WC.seq ?_
  refine WC.run ?_
  refine WS.op rfl rfl (WS.nil [(0, _)] rfl ?_)
  refine WC.seq ?_
  refine WC.seq ?_
  refine WC.run ?_
  refine WS.op rfl rfl (WS.opV (.bool false) rfl rfl rfl (WS.nil [(0, _), (7, _)] rfl ?_))
  refine WC.condF rfl ?_
  refine WC.skip ?_
  refine WC.seq ?_
  refine WC.run ?_
  refine WS.op rfl rfl (WS.op rfl rfl (WS.op rfl rfl (WS.op rfl (op_ld (W.sub _ _ hp) rfl (rg90 hl)) ?_)))
  refine WS.bsl W [_] rfl rfl rfl rfl ?_
  intro p1 h2 M3
  refine WS.call rfl rfl rfl (num_V_ran M3.here (Row.Sl.own (K := KNat) (l := [t]) (M3.at 0 rfl)) (by intro n hn; simp only [List.mem_cons, List.mem_nil_iff, or_false] at hn; first | omega | (have := y19.sq.toNat_lt; omega)) (by simp) (r := (vb t)) (by simp [List.flatMap])) ?_
  rintro _ h4 ⟨rfl, N5⟩
  have M6 := M3.trans N5
  refine WS.op rfl rfl (WS.nil [(0, _), (3, _)] rfl ?_)
  refine WC.seq ?_
  refine WC.seq ?_
  refine WC.run ?_
  refine WS.op rfl rfl ?_
  refine WS.call rfl rfl rfl (ring_Rows_ran M6.here (M6.sub _ _ hp) G) ?_
  rintro _ h7 ⟨V10, S11, O12, rfl, N8⟩
  obtain ⟨P13, rfl⟩ := O12.shape
  have M9 := M6.trans N8
  replace M9 : Mem _ _ (S11 :: [(p1, _)] :: []) _ := M9
  refine WS.op rfl (op_lenVO O12 rfl) (WS.op rfl rfl (WS.nil [(3, _), (15, _), (16, _), (17, _)] rfl ?_))
  refine WC.block ?_
  obtain ⟨L14, eL16, M15⟩ := Mem.name M9.bare
  refine WC.loop (σ := List UInt8 × Nat) (fun ((out, i)) => [(3, (.string (bs out))), (15, (.slice P13 (view rs a m).length (2 * (view rs a m).length))), (16, (.int .i64 (((view rs a m).length : Nat) : Int))), (17, (.int .i64 ((i : Nat) : Int)))]) (fun ((out, i)) hh => Mem h hh (L14) [] ∧ out = vb t ++ ((view rs a m).take i).flatMap rowb ∧ i ≤ (view rs a m).length ∧ out.length ≤ 10 + 20 * i) (fun ((out, i)) => (view rs a m).length - i) (vb t, 0) rfl ⟨M15, ?_⟩ ?_
  · exact ⟨by simp, by omega, by omega⟩
  · rintro ⟨out, i⟩ h17 ⟨M18, ⟨hO, hi1, hol⟩⟩
    subst eL16
    refine WC.env [(3, _), (15, _), (16, _), (17, _)] rfl ?_
    refine WC.seq ?_
    refine WC.run ?_
    refine WS.lssN (a := i) (b := (view rs a m).length) rfl rfl rfl (fun e18 => ?_) (fun e18 => ?_)
    · skip
      refine WS.nil [(3, _), (15, _), (16, _), (17, _), (18, _)] rfl ?_
      refine WC.seq ?_
      refine WC.condT rfl ?_
      refine WC.skip ?_
      refine WC.seq ?_
      refine WC.block ?_
      refine WC.seq ?_
      refine WC.run ?_
      obtain ⟨y19, hy19⟩ : ∃ y, (view rs a m)[i]? = some y := ⟨_, List.getElem?_eq_getElem (show i < (view rs a m).length by first | omega | (simp only [List.length_drop, List.length_take, List.length_append, List.length_cons, List.length_nil, List.length_singleton]; omega) | (simp only [List.length_drop, List.length_take, List.length_append, List.length_cons, List.length_nil, List.length_singleton] at *; omega))⟩
      have hfs := flatMap_take_succ rowb hy19
      have hvl := vb_len y19.sq.toNat_lt
      refine WS.iaVS (Row.Own.sl O12 (Mem.owni M18 0 rfl)) i hy19 rfl rfl rfl rfl ?_
      intro b19_ o19_ ha19
      refine WS.op rfl (op_ldAt rfl ha19 rfl) ?_
      refine WS.new M18 rfl ?_
      intro p19 h20 M21
      refine WS.st1 (M21.focus 0 rfl) [_, _, _, _, _, _, _, _, _, _, _] [_, _, _, _, _, _, _, _, _, _, _] rfl rfl rfl rfl rfl (Nat.le_of_ble_eq_true rfl) (Nat.le_of_ble_eq_true rfl) rfl rfl ?_
      intro h22 M23
      replace M23 : Mem _ _ ([(p19, _)] :: S11 :: [(p1, _)] :: []) _ := M23
      refine WS.nil [(3, _), (5, _), (15, _), (16, _), (17, _)] rfl ?_
      refine WC.draw M23 [13, 5] rfl ?_
      intro rb24 h25 M26
      refine WS.op rfl rfl (WS.op rfl rfl (WS.op rfl (op_ld (M26.at 0 rfl) rfl rfl) (WS.op rfl rfl (WS.op rfl (op_ld (M26.at 0 rfl) rfl rfl) (WS.op rfl rfl (WS.opV (.slice (some ⟨p19, 2, none⟩) 8 17) rfl rfl rfl (WS.op rfl (op_cvB (l := [y19.t0, y19.t1, y19.t2, y19.t3, y19.t4, y19.t5, y19.t6, y19.t7]) (M26.at 0 rfl) rfl rfl (Nat.le_of_ble_eq_true rfl) rfl) (WS.op rfl rfl (WS.op rfl (op_ld (M26.at 0 rfl) rfl rfl) ?_)))))))))
      refine WS.bslA M26 [_] 0 rfl rfl rfl rfl rfl ?_
      intro h28 M29
      refine WS.call rfl rfl rfl (num_V_ran M29.here (Row.Sl.own (K := KNat) (l := [(y19.sq).toNat]) (M29.at 0 rfl)) (by intro n hn; simp only [List.mem_cons, List.mem_nil_iff, or_false] at hn; first | omega | (have := y19.sq.toNat_lt; omega)) (by simp) (r := (vb ((y19.sq).toNat))) (by simp [List.flatMap])) ?_
      rintro _ h30 ⟨rfl, N31⟩
      have M32 := M29.trans N31
      refine WS.chk rfl (op_ld (M32.at 1 rfl) rfl rfl) rfl (sameV_refl rfl) (WS.chk rfl (op_ld (M32.at 1 rfl) rfl rfl) rfl (sameV_refl rfl) (WS.chk rfl (op_cvB (l := [y19.t0, y19.t1, y19.t2, y19.t3, y19.t4, y19.t5, y19.t6, y19.t7]) (M32.at 1 rfl) rfl rfl (Nat.le_of_ble_eq_true rfl) rfl) rfl (sameV_refl rfl) ?_))
      refine WS.bslA M32 [_, _] 0 rfl rfl rfl rfl rfl ?_
      intro h34 M35
      refine WS.opR rfl rfl (op_cvB (l := [y19.op, y19.cd]) (M35.at 0 rfl) rfl rfl (Nat.le_of_ble_eq_true rfl) rfl) (WS.op rfl (op_sadd (l := [y19.op, y19.cd]) (m := [y19.t0, y19.t1, y19.t2, y19.t3, y19.t4, y19.t5, y19.t6, y19.t7]) rfl rfl (by simp only [List.length_append, List.length_cons, List.length_nil]; omega)) (WS.op rfl (op_sadd (l := ([y19.op, y19.cd] ++ [y19.t0, y19.t1, y19.t2, y19.t3, y19.t4, y19.t5, y19.t6, y19.t7])) (m := (vb ((y19.sq).toNat))) rfl rfl (by simp only [List.length_append, List.length_cons, List.length_nil]; omega)) (WS.op rfl (op_sadd (l := out) (m := (([y19.op, y19.cd] ++ [y19.t0, y19.t1, y19.t2, y19.t3, y19.t4, y19.t5, y19.t6, y19.t7]) ++ (vb ((y19.sq).toNat)))) rfl rfl (by simp only [List.length_append, List.length_cons, List.length_nil]; omega)) (WS.op rfl rfl (WS.nil [(3, _), (15, _), (16, _), (17, _)] rfl ?_)))))
      refine WC.run ?_
      refine WS.opV (.int .i64 (((i + 1) : Nat) : Int)) rfl rfl (add_i64 (a := i) (b := 1) (by omega)) (WS.op rfl rfl (WS.nil [(3, _), (15, _), (16, _), (17, _)] rfl ?_))
      refine ⟨((out ++ (([y19.op, y19.cd] ++ [y19.t0, y19.t1, y19.t2, y19.t3, y19.t4, y19.t5, y19.t6, y19.t7]) ++ (vb ((y19.sq).toNat)))), i + 1), rfl, ⟨(((M35.bare.bare.focus 4 rfl).focus 4 rfl).take 2), ?_⟩, ?_⟩
      · exact ⟨by rw [hO, hfs, List.append_assoc]; rfl, by omega, by simp only [List.length_append, List.length_cons, List.length_nil]; omega⟩
      · simp only []; omega
    · skip
      refine WS.nil [(3, _), (15, _), (16, _), (17, _), (18, _)] rfl ?_
      refine WC.seq ?_
      refine WC.condF rfl ?_
      refine WC.exit ?_
      refine WC.seq ?_
      refine WC.run ?_
      refine WS.op rfl rfl (WS.op rfl rfl (WS.nil [(2, _)] rfl ?_))
      refine WC.ret ?_
      refine ⟨[_], (res_tmp rfl res_nil), ?_⟩
      rw [List.take_of_length_le (by omega)] at hO
      exact ⟨by rw [hO]; rfl, M18.bare.take 0⟩
theorem given_ran (W : Mem h h [] []) {x : Rw} : Cll tab0 12 [.agg (Rw.cells x).toArray] h (fun v h2 => v = .agg (Rw.cells x).toArray ∧ Mem h h2 [] []) := by
  refine Cll.code rfl rfl ?_
  refine WC.env [(0, _)] rfl ?_
  refine WC.seq ?_
  refine WC.run ?_
  refine WS.box W [_, _, _, _, _, _, _, _, _, _, _] rfl rfl rfl rfl ?_
  intro p1 h2 M3
  refine WS.new M3 rfl ?_
  intro p4 h5 M6
  refine WS.nil [(1, _), (2, _)] rfl ?_
  refine WC.seq ?_
  refine WC.run ?_
  refine WS.op rfl rfl (WS.op rfl (op_ld (M6.at 1 rfl) rfl rfl) (WS.op rfl rfl (WS.op rfl (op_ld (M6.at 1 rfl) rfl rfl) (WS.op rfl rfl (WS.op rfl (op_lds [_, _, _, _, _, _, _, _] (M6.at 1 rfl) rfl (Nat.le_of_ble_eq_true rfl) rfl) (WS.op rfl rfl (WS.op rfl (op_ld (M6.at 1 rfl) rfl rfl) (WS.opV (.agg #[(.int .u8 (((x.op).toNat : Nat) : Int)), (.int .u8 (((x.cd).toNat : Nat) : Int)), (.int .u8 (((x.t0).toNat : Nat) : Int)), (.int .u8 (((x.t1).toNat : Nat) : Int)), (.int .u8 (((x.t2).toNat : Nat) : Int)), (.int .u8 (((x.t3).toNat : Nat) : Int)), (.int .u8 (((x.t4).toNat : Nat) : Int)), (.int .u8 (((x.t5).toNat : Nat) : Int)), (.int .u8 (((x.t6).toNat : Nat) : Int)), (.int .u8 (((x.t7).toNat : Nat) : Int)), (.int .u64 (((x.sq).toNat : Nat) : Int))]) rfl rfl rfl ?_))))))))
  refine WS.st1 (M6.focus 0 rfl) [_, _, _, _, _, _, _, _, _, _, _] [_, _, _, _, _, _, _, _, _, _, _] rfl rfl rfl rfl rfl (Nat.le_of_ble_eq_true rfl) (Nat.le_of_ble_eq_true rfl) rfl rfl ?_
  intro h7 M8
  replace M8 : Mem _ _ ([(p4, _)] :: [(p1, _)] :: []) _ := M8
  refine WS.nil [(2, _)] rfl ?_
  refine WC.ret ?_
  refine ⟨[_], (res_cellN [_, _, _, _, _, _, _, _, _, _, _] rfl (M8.at 0 rfl) (Nat.le_of_ble_eq_true rfl) rfl res_nil), ?_⟩
  exact ⟨rfl, M8.bare.take 0⟩
theorem eq_take_step {α : Type} {l m : List α} {i : Nat} {x y : α} (h : l.take i = m.take i) (hx : l[i]? = some x) (hy : m[i]? = some y) (e : x = y) : l.take (i + 1) = m.take (i + 1) := by
  rw [List.take_add_one, List.take_add_one, h, hx, hy, e]
theorem ne_of_get {α : Type} {l m : List α} {i : Nat} {x y : α} (hx : l[i]? = some x) (hy : m[i]? = some y) (e : x ≠ y) : l ≠ m := by
  intro q; subst q; rw [hx] at hy; cases hy; exact e rfl
theorem same_ran (W : Mem h h [] []) {V V2 : Value} {l m : List Rw} (A : KRw.Sl h V l) (B : KRw.Sl h V2 m) (hl : l.length ≤ 1000000) : Cll tab0 14 [V, V2] h (fun v h2 => v = .bool (decide (l = m)) ∧ Mem h h2 [] []) := by
  refine Cll.code rfl rfl ?_
  refine WC.env [(0, _), (1, _)] rfl ?_
  refine WC.seq ?_
  refine WC.run ?_
  refine WS.op rfl rfl (WS.nil [(0, _), (1, _)] rfl ?_)
  refine WC.seq ?_
  refine WC.seq ?_
  refine WC.run ?_
  refine WS.op rfl rfl (WS.op rfl (op_lenVS A rfl) (WS.op rfl rfl (WS.op rfl (op_lenVS B rfl) ?_)))
  refine WS.neqN (a := (l).length) (b := (m).length) rfl rfl rfl (fun e10 => ?_) (fun e10 => ?_)
  · skip
    refine WS.nil [(0, _), (1, _), (10, _)] rfl ?_
    refine WC.condT rfl ?_
    refine WC.seq ?_
    refine WC.run ?_
    refine WS.op rfl rfl (WS.nil [(4, _)] rfl ?_)
    refine WC.ret ?_
    refine ⟨[_], (res_tmp rfl res_nil), ?_⟩
    exact ⟨by rw [decide_eq_false (fun q => e10 (by rw [q]))]; rfl, W.bare.take 0⟩
  · skip
    refine WS.nil [(0, _), (1, _), (10, _)] rfl ?_
    refine WC.condF rfl ?_
    refine WC.skip ?_
    refine WC.seq ?_
    refine WC.seq ?_
    refine WC.run ?_
    refine WS.op rfl rfl (WS.nil [(0, _), (1, _), (5, _)] rfl ?_)
    refine WC.block ?_
    obtain ⟨L1, eL3, M2⟩ := Mem.name W.bare
    refine WC.loop (σ := Nat) (fun (i) => [(0, V), (1, V2), (5, (.int .i64 ((i : Nat) : Int)))]) (fun (i) hh => Mem h hh (L1) [] ∧ l.take i = m.take i ∧ i ≤ l.length) (fun (i) => l.length - i) (0) rfl ⟨M2, ?_⟩ ?_
    · exact ⟨rfl, by omega⟩
    · rintro i h4 ⟨M5, ⟨hO, hi1⟩⟩
      subst eL3
      refine WC.env [(0, _), (1, _), (5, _)] rfl ?_
      refine WC.seq ?_
      refine WC.seq ?_
      refine WC.run ?_
      refine WS.op rfl rfl (WS.op rfl rfl (WS.op rfl (op_lenVS A rfl) ?_))
      refine WS.lssN (a := i) (b := (l).length) rfl rfl rfl (fun e14 => ?_) (fun e14 => ?_)
      · skip
        refine WS.nil [(0, _), (1, _), (5, _), (14, _)] rfl ?_
        refine WC.condT rfl ?_
        refine WC.skip ?_
        refine WC.seq ?_
        refine WC.block ?_
        refine WC.seq ?_
        refine WC.draw M5 [] rfl ?_
        intro rb6 h7 M8
        refine WS.op rfl rfl (WS.op rfl rfl ?_)
        obtain ⟨y19, hy19⟩ : ∃ y, (l)[i]? = some y := ⟨_, List.getElem?_eq_getElem (show i < (l).length by first | omega | (simp only [List.length_drop, List.length_take, List.length_append, List.length_cons, List.length_nil, List.length_singleton]; omega) | (simp only [List.length_drop, List.length_take, List.length_append, List.length_cons, List.length_nil, List.length_singleton] at *; omega))⟩
        refine WS.iaVS A i hy19 rfl rfl rfl rfl ?_
        intro b19_ o19_ ha19
        refine WS.op rfl (op_ldAt rfl (ha19.mono M8.sub) rfl) (WS.op rfl rfl (WS.op rfl rfl ?_))
        obtain ⟨y24, hy24⟩ : ∃ y, (m)[i]? = some y := ⟨_, List.getElem?_eq_getElem (show i < (m).length by first | omega | (simp only [List.length_drop, List.length_take, List.length_append, List.length_cons, List.length_nil, List.length_singleton]; omega) | (simp only [List.length_drop, List.length_take, List.length_append, List.length_cons, List.length_nil, List.length_singleton] at *; omega))⟩
        refine WS.iaVS B i hy24 rfl rfl rfl rfl ?_
        intro b24_ o24_ ha24
        refine WS.op rfl (op_ldAt rfl (ha24.mono M8.sub) rfl) ?_
        refine WS.call rfl rfl rfl (given_ran M8.here (x := y19)) ?_
        rintro _ h9 ⟨rfl, N10⟩
        have M11 := M8.trans N10
        refine WS.chk rfl (op_ldAt rfl (ha24.mono M11.sub) rfl) rfl (same_agg rfl) ?_
        refine WS.eqqDn (p := y19 = y24) rfl rfl rfl (Rw_eqV _ _) (fun e26 => ?_) (fun e26 => ?_)
        · skip
          refine WS.nil [(0, _), (1, _), (5, _), (26, _)] rfl ?_
          refine WC.condT rfl ?_
          refine WC.seq ?_
          refine WC.run ?_
          refine WS.op rfl rfl (WS.nil [(4, _)] rfl ?_)
          refine WC.ret ?_
          refine ⟨[_], (res_tmp rfl res_nil), ?_⟩
          exact ⟨by rw [decide_eq_false (ne_of_get hy19 hy24 e26)]; rfl, M11.bare.bare.take 0⟩
        · skip
          refine WS.nil [(0, _), (1, _), (5, _), (26, _)] rfl ?_
          refine WC.condF rfl ?_
          refine WC.skip ?_
          refine WC.run ?_
          refine WS.op rfl rfl (WS.opV (.int .i64 (((i + 1) : Nat) : Int)) rfl rfl (add_i64 (a := i) (b := 1) (by omega)) (WS.op rfl rfl (WS.nil [(0, _), (1, _), (5, _)] rfl ?_)))
          refine ⟨i + 1, rfl, ⟨(M11.bare.bare.take 0), ?_⟩, ?_⟩
          · exact ⟨eq_take_step hO hy19 hy24 (by assumption), by omega⟩
          · simp only []; omega
      · skip
        refine WS.nil [(0, _), (1, _), (5, _), (14, _)] rfl ?_
        refine WC.condF rfl ?_
        refine WC.exit ?_
        refine WC.seq ?_
        refine WC.run ?_
        refine WS.op rfl rfl (WS.nil [(4, _)] rfl ?_)
        refine WC.ret ?_
        refine ⟨[_], (res_tmp rfl res_nil), ?_⟩
        rw [List.take_of_length_le (by omega), List.take_of_length_le (by omega)] at hO
        exact ⟨by rw [decide_eq_true hO]; rfl, M5.bare.take 0⟩
theorem ref19_Add_ran (W : Mem h h [] []) {V : Value} {l : List Rw} {t : Nat} {x : Rw} (A : KRw.Sl h V l) (hl : l.length ≤ 8) (ht : t < 18446744073709551616) : Cll tab0 11 [.agg #[V, .int .u64 (t : Int)], .agg (Rw.cells x).toArray] h (fun v h2 => ∃ V2 S, Held KRw V2 (addv l x) S ∧ v = .agg #[V2, .int .u64 ((addt t : Nat) : Int)] ∧ Mem h h2 [S] []) := by
  obtain ⟨P, c, rfl⟩ := A.shape
  refine Cll.code rfl rfl ?_
  refine WC.env [(0, _), (1, _)] rfl ?_
  refine WC.seq ?_
  refine WC.run ?_
  refine WS.box W [_, _] rfl rfl rfl rfl ?_
  intro p1 h2 M3
  refine WS.box M3 [_, _, _, _, _, _, _, _, _, _, _] rfl rfl rfl rfl ?_
  intro p4 h5 M6
  refine WS.new M6 rfl ?_
  intro p7 h8 M9
  refine WS.nil [(2, _), (3, _), (4, _)] rfl ?_
  refine WC.seq ?_
  refine WC.draw M9 [0, 5] rfl ?_
  intro rb10 h11 M12
  refine WS.op rfl rfl (WS.op rfl (op_ld (M12.at 2 rfl) rfl rfl) (WS.op rfl (op_lds [_, _, _, _, _, _, _, _, _, _, _] (M12.at 1 rfl) rfl (Nat.le_of_ble_eq_true rfl) rfl) ?_))
  refine WS.bslA M12 [] 0 rfl rfl rfl rfl rfl ?_
  intro h14 M15
  refine WS.app0 (K := KRw) (bytes := 24) (l := []) (m := l) (Own0.emp _ _) (M15.focus 0 rfl) (Row.Src.sl (A.mono M15.sub)) rfl (by simp only [List.length_nil]; omega) (by simp only [List.length_nil]; omega) rfl rfl rfl ?_
  intro V16 S17 h18 O19 _ M20
  replace M20 : Mem _ _ (S17 :: [(p7, _)] :: [(p4, _)] :: [(p1, _)] :: []) _ := M20
  rw [List.nil_append] at O19
  refine WS.chk rfl (op_lds [_, _, _, _, _, _, _, _, _, _, _] (M20.at 2 rfl) rfl (Nat.le_of_ble_eq_true rfl) rfl) rfl (same_agg rfl) ?_
  refine WS.bslA M20 [_, _, _, _, _, _, _, _, _, _, _] 0 rfl rfl rfl rfl rfl ?_
  intro h22 M23
  refine WS.app0 (K := KRw) (bytes := 24) (l := l) (m := [x]) O19 (M23.focus 1 rfl) (Row.Src.one (K := KRw) (m := [x]) (M23.at 0 rfl)) rfl (by simp only [List.length_cons, List.length_nil]; omega) (by simp only [List.length_cons, List.length_nil]; omega) rfl rfl rfl ?_
  intro V24 S25 h26 _ O27 M28
  replace O27 := O27 (by simp)
  obtain ⟨p29, rfl, rfl⟩ := own_block O27 (by simp)
  replace M28 : Mem _ _ ([(p29, _)] :: [((rb10 + 5), _)] :: [(p7, _)] :: [(p4, _)] :: [(p1, _)] :: []) _ := M28
  refine WS.op rfl rfl (WS.nil [(2, _), (4, _), (5, _)] rfl ?_)
  refine WC.seq ?_
  refine WC.seq ?_
  refine WC.run ?_
  refine WS.op rfl rfl (WS.op rfl rfl ?_)
  refine WS.gtrN (a := (l ++ [x]).length) (b := 8) rfl rfl rfl (fun e15 => ?_) (fun e15 => ?_)
  · skip
    simp only [List.length_append, List.length_cons, List.length_nil] at e15
    refine WS.nil [(2, _), (4, _), (5, _), (15, _)] rfl ?_
    refine WC.condT rfl ?_
    refine WC.run ?_
    refine WS.op rfl rfl (WS.op rfl (op_slV1 (c := 0) rfl rfl (by simp) (M28.bare.at 0 rfl) rfl) (WS.op rfl rfl (WS.nil [(2, _), (4, _), (5, _)] rfl ?_)))
    refine WC.seq ?_
    refine WC.run ?_
    refine WS.op rfl rfl (WS.op rfl rfl ?_)
    refine WS.st1 (M28.bare.focus 4 rfl) [_] [_, _] rfl rfl rfl rfl rfl (Nat.le_of_ble_eq_true rfl) (Nat.le_of_ble_eq_true rfl) rfl rfl ?_
    intro h30 M31
    replace M31 : Mem _ _ ([(p1, _)] :: [(p29, _)] :: [((rb10 + 5), _)] :: [(p7, _)] :: [(p4, _)] :: []) _ := M31
    refine WS.nil [(2, _), (4, _)] rfl ?_
    refine WC.seq ?_
    refine WC.seq ?_
    refine WC.run ?_
    refine WS.op rfl rfl (WS.op rfl (op_ld (M31.at 0 rfl) rfl rfl) ?_)
    refine WS.neqN (a := t) (b := 18446744073709551615) rfl rfl rfl (fun e22 => ?_) (fun e22 => ?_)
    · skip
      refine WS.nil [(2, _), (4, _), (22, _)] rfl ?_
      refine WC.condT rfl ?_
      refine WC.run ?_
      refine WS.op rfl rfl (WS.op rfl (op_ld (M31.at 0 rfl) rfl rfl) (WS.opV (.int .u64 (((t + 1) : Nat) : Int)) rfl rfl (add_u64 (a := t) (b := 1) (by have := ht; omega)) (WS.op rfl rfl ?_)))
      refine WS.st1 (M31.focus 0 rfl) [_] [_, _] rfl rfl rfl rfl rfl (Nat.le_of_ble_eq_true rfl) (Nat.le_of_ble_eq_true rfl) rfl rfl ?_
      intro h32 M33
      replace M33 : Mem _ _ ([(p1, _)] :: [(p29, _)] :: [((rb10 + 5), _)] :: [(p7, _)] :: [(p4, _)] :: []) _ := M33
      refine WS.nil [(2, _), (4, _)] rfl ?_
      refine WC.seq ?_
      refine WC.run ?_
      refine WS.op rfl (op_lds [_, _] (M33.at 0 rfl) rfl (Nat.le_of_ble_eq_true rfl) rfl) ?_
      refine WS.st1 (M33.focus 3 rfl) [_, _] [_, _] rfl rfl rfl rfl rfl (Nat.le_of_ble_eq_true rfl) (Nat.le_of_ble_eq_true rfl) rfl rfl ?_
      intro h34 M35
      replace M35 : Mem _ _ ([(p7, _)] :: [(p1, _)] :: [(p29, _)] :: [((rb10 + 5), _)] :: [(p4, _)] :: []) _ := M35
      refine WS.nil [(4, _)] rfl ?_
      refine WC.ret ?_
      refine ⟨[_], (res_cellN [_, _] rfl (M35.at 0 rfl) (Nat.le_of_ble_eq_true rfl) rfl res_nil), ?_⟩
      exact ⟨_, _, held_drop rfl (by unfold addv; rw [if_neg (by omega), List.drop_append_of_le_length (by omega)]) (by simp), by unfold addt; first | (rw [if_pos (by omega)]; rfl) | (rw [if_neg (by omega)]; rfl), ((M35.bare.focus 2 rfl).take 1)⟩
    · skip
      refine WS.nil [(2, _), (4, _), (22, _)] rfl ?_
      refine WC.condF rfl ?_
      refine WC.skip ?_
      refine WC.seq ?_
      refine WC.run ?_
      refine WS.op rfl (op_lds [_, _] (M31.at 0 rfl) rfl (Nat.le_of_ble_eq_true rfl) rfl) ?_
      refine WS.st1 (M31.focus 3 rfl) [_, _] [_, _] rfl rfl rfl rfl rfl (Nat.le_of_ble_eq_true rfl) (Nat.le_of_ble_eq_true rfl) rfl rfl ?_
      intro h36 M37
      replace M37 : Mem _ _ ([(p7, _)] :: [(p1, _)] :: [(p29, _)] :: [((rb10 + 5), _)] :: [(p4, _)] :: []) _ := M37
      refine WS.nil [(4, _)] rfl ?_
      refine WC.ret ?_
      refine ⟨[_], (res_cellN [_, _] rfl (M37.at 0 rfl) (Nat.le_of_ble_eq_true rfl) rfl res_nil), ?_⟩
      exact ⟨_, _, held_drop rfl (by unfold addv; rw [if_neg (by omega), List.drop_append_of_le_length (by omega)]) (by simp), by unfold addt; first | (rw [if_pos (by omega)]; rfl) | (rw [if_neg (by omega)]; rfl), ((M37.bare.focus 2 rfl).take 1)⟩
  · skip
    simp only [List.length_append, List.length_cons, List.length_nil] at e15
    refine WS.nil [(2, _), (4, _), (5, _), (15, _)] rfl ?_
    refine WC.condF rfl ?_
    refine WC.skip ?_
    refine WC.seq ?_
    refine WC.run ?_
    refine WS.op rfl rfl (WS.op rfl rfl ?_)
    refine WS.st1 (M28.bare.focus 4 rfl) [_] [_, _] rfl rfl rfl rfl rfl (Nat.le_of_ble_eq_true rfl) (Nat.le_of_ble_eq_true rfl) rfl rfl ?_
    intro h38 M39
    replace M39 : Mem _ _ ([(p1, _)] :: [(p29, _)] :: [((rb10 + 5), _)] :: [(p7, _)] :: [(p4, _)] :: []) _ := M39
    refine WS.nil [(2, _), (4, _)] rfl ?_
    refine WC.seq ?_
    refine WC.seq ?_
    refine WC.run ?_
    refine WS.op rfl rfl (WS.op rfl (op_ld (M39.at 0 rfl) rfl rfl) ?_)
    refine WS.neqN (a := t) (b := 18446744073709551615) rfl rfl rfl (fun e22 => ?_) (fun e22 => ?_)
    · skip
      refine WS.nil [(2, _), (4, _), (22, _)] rfl ?_
      refine WC.condT rfl ?_
      refine WC.run ?_
      refine WS.op rfl rfl (WS.op rfl (op_ld (M39.at 0 rfl) rfl rfl) (WS.opV (.int .u64 (((t + 1) : Nat) : Int)) rfl rfl (add_u64 (a := t) (b := 1) (by have := ht; omega)) (WS.op rfl rfl ?_)))
      refine WS.st1 (M39.focus 0 rfl) [_] [_, _] rfl rfl rfl rfl rfl (Nat.le_of_ble_eq_true rfl) (Nat.le_of_ble_eq_true rfl) rfl rfl ?_
      intro h40 M41
      replace M41 : Mem _ _ ([(p1, _)] :: [(p29, _)] :: [((rb10 + 5), _)] :: [(p7, _)] :: [(p4, _)] :: []) _ := M41
      refine WS.nil [(2, _), (4, _)] rfl ?_
      refine WC.seq ?_
      refine WC.run ?_
      refine WS.op rfl (op_lds [_, _] (M41.at 0 rfl) rfl (Nat.le_of_ble_eq_true rfl) rfl) ?_
      refine WS.st1 (M41.focus 3 rfl) [_, _] [_, _] rfl rfl rfl rfl rfl (Nat.le_of_ble_eq_true rfl) (Nat.le_of_ble_eq_true rfl) rfl rfl ?_
      intro h42 M43
      replace M43 : Mem _ _ ([(p7, _)] :: [(p1, _)] :: [(p29, _)] :: [((rb10 + 5), _)] :: [(p4, _)] :: []) _ := M43
      refine WS.nil [(4, _)] rfl ?_
      refine WC.ret ?_
      refine ⟨[_], (res_cellN [_, _] rfl (M43.at 0 rfl) (Nat.le_of_ble_eq_true rfl) rfl res_nil), ?_⟩
      exact ⟨_, _, held_own O27 (by unfold addv; rw [if_pos (by omega)]), by unfold addt; first | (rw [if_pos (by omega)]; rfl) | (rw [if_neg (by omega)]; rfl), ((M43.bare.focus 2 rfl).take 1)⟩
    · skip
      refine WS.nil [(2, _), (4, _), (22, _)] rfl ?_
      refine WC.condF rfl ?_
      refine WC.skip ?_
      refine WC.seq ?_
      refine WC.run ?_
      refine WS.op rfl (op_lds [_, _] (M39.at 0 rfl) rfl (Nat.le_of_ble_eq_true rfl) rfl) ?_
      refine WS.st1 (M39.focus 3 rfl) [_, _] [_, _] rfl rfl rfl rfl rfl (Nat.le_of_ble_eq_true rfl) (Nat.le_of_ble_eq_true rfl) rfl rfl ?_
      intro h44 M45
      replace M45 : Mem _ _ ([(p7, _)] :: [(p1, _)] :: [(p29, _)] :: [((rb10 + 5), _)] :: [(p4, _)] :: []) _ := M45
      refine WS.nil [(4, _)] rfl ?_
      refine WC.ret ?_
      refine ⟨[_], (res_cellN [_, _] rfl (M45.at 0 rfl) (Nat.le_of_ble_eq_true rfl) rfl res_nil), ?_⟩
      exact ⟨_, _, held_own O27 (by unfold addv; rw [if_pos (by omega)]), by unfold addt; first | (rw [if_pos (by omega)]; rfl) | (rw [if_neg (by omega)]; rfl), ((M45.bare.focus 2 rfl).take 1)⟩
set_option maxRecDepth 4000 in
theorem ref19_Write_ran (W : Mem h h [] []) {V : Value} {l : List Rw} {t : Nat} (A : KRw.Sl h V l) (hl : l.length ≤ 8) (ht : t < 18446744073709551616) : Cll tab0 17 [.agg #[V, .int .u64 (t : Int)]] h (fun v h2 => v = .string (bs (wr t l)) ∧ Mem h h2 [] []) := by
  obtain ⟨P, c, rfl⟩ := A.shape
  have hv := vb_len ht
  refine Cll.code rfl rfl ?_
  refine WC.env [(0, _)] rfl ?_
  refine WC.seq ?_
  refine WC.run ?_
  refine WS.box W [_, _] rfl rfl rfl rfl ?_
  intro p1 h2 M3
  refine WS.op rfl rfl (WS.nil [(1, _)] rfl ?_)
  refine WC.seq ?_
  refine WC.run ?_
  refine WS.op rfl rfl (WS.op rfl (op_ld (M3.at 0 rfl) rfl rfl) ?_)
  refine WS.call rfl rfl rfl (ref_One_ran M3.here (n := t) (by omega)) ?_
  rintro _ h4 ⟨rfl, N5⟩
  have M6 := M3.trans N5
  refine WS.op rfl rfl (WS.nil [(1, _), (3, _)] rfl ?_)
  refine WC.seq ?_
  refine WC.seq ?_
  refine WC.run ?_
  refine WS.op rfl rfl (WS.nil [(1, _), (3, _), (4, _)] rfl ?_)
  refine WC.block ?_
  obtain ⟨L8, eL10, M9⟩ := Mem.name M6.bare
  refine WC.loop (σ := List UInt8 × Nat) (fun ((out, i)) => [(1, (.pointer (some ⟨p1, 0, none⟩))), (3, (.string (bs out))), (4, (.int .i64 ((i : Nat) : Int)))]) (fun ((out, i)) hh => Mem h hh (L8) [] ∧ out = vb t ++ (l.take i).flatMap rowb ∧ i ≤ l.length ∧ out.length ≤ 10 + 20 * i) (fun ((out, i)) => l.length - i) (vb t, 0) rfl ⟨M9, ?_⟩ ?_
  · exact ⟨by simp, by omega, by omega⟩
  · rintro ⟨out, i⟩ h11 ⟨M12, ⟨hO, hi1, hol⟩⟩
    subst eL10
    refine WC.env [(1, _), (3, _), (4, _)] rfl ?_
    refine WC.seq ?_
    refine WC.seq ?_
    refine WC.run ?_
    refine WS.op rfl rfl (WS.op rfl rfl (WS.op rfl (op_ld (M12.at 0 rfl) rfl rfl) (WS.op rfl (op_lenVS A rfl) ?_)))
    refine WS.lssN (a := i) (b := (l).length) rfl rfl rfl (fun e14 => ?_) (fun e14 => ?_)
    · skip
      refine WS.nil [(1, _), (3, _), (4, _), (14, _)] rfl ?_
      refine WC.condT rfl ?_
      refine WC.skip ?_
      refine WC.seq ?_
      refine WC.block ?_
      refine WC.seq ?_
      refine WC.run ?_
      refine WS.op rfl rfl (WS.op rfl (op_ld (M12.at 0 rfl) rfl rfl) (WS.op rfl rfl ?_))
      obtain ⟨y20, hy20⟩ : ∃ y, (l)[i]? = some y := ⟨_, List.getElem?_eq_getElem (show i < (l).length by first | omega | (simp only [List.length_drop, List.length_take, List.length_append, List.length_cons, List.length_nil, List.length_singleton]; omega) | (simp only [List.length_drop, List.length_take, List.length_append, List.length_cons, List.length_nil, List.length_singleton] at *; omega))⟩
      refine WS.iaVS A i hy20 rfl rfl rfl rfl ?_
      intro b20_ o20_ ha20
      refine WS.op rfl (op_ldAt rfl (ha20.mono M12.sub) rfl) ?_
      refine WS.new M12 rfl ?_
      intro p13 h14 M15
      refine WS.st1 (M15.focus 0 rfl) [_, _, _, _, _, _, _, _, _, _, _] [_, _, _, _, _, _, _, _, _, _, _] rfl rfl rfl rfl rfl (Nat.le_of_ble_eq_true rfl) (Nat.le_of_ble_eq_true rfl) rfl rfl ?_
      intro h16 M17
      replace M17 : Mem _ _ ([(p13, _)] :: [(p1, _)] :: []) _ := M17
      refine WS.nil [(1, _), (3, _), (4, _), (5, _)] rfl ?_
      refine WC.seq ?_
      refine WC.run ?_
      refine WS.op rfl rfl (WS.op rfl rfl (WS.op rfl (op_ld (M17.at 0 rfl) rfl rfl) (WS.op rfl rfl (WS.op rfl (op_ld (M17.at 0 rfl) rfl rfl) ?_))))
      refine WS.bsl M17 [_, _] rfl rfl rfl rfl ?_
      intro p18 h19 M20
      refine WS.op rfl (op_cvB (l := [y20.op, y20.cd]) (M20.at 0 rfl) rfl rfl (Nat.le_of_ble_eq_true rfl) rfl) (WS.op rfl (op_sadd (l := out) (m := [y20.op, y20.cd]) rfl rfl (by simp only [List.length_append, List.length_cons, List.length_nil]; omega)) (WS.op rfl rfl (WS.nil [(1, _), (3, _), (4, _), (5, _)] rfl ?_)))
      refine WC.seq ?_
      refine WC.seq ?_
      refine WC.run ?_
      refine WS.op rfl rfl (WS.nil [(1, _), (3, _), (4, _), (5, _), (6, _)] rfl ?_)
      refine WC.block ?_
      refine WC.unroll [(1, _), (3, _), (4, _), (5, _), (6, _)] rfl ?_
      refine WC.seq ?_
      refine WC.seq ?_
      refine WC.run ?_
      refine WS.op rfl rfl (WS.opV (.bool true) rfl rfl rfl (WS.nil [(1, _), (3, _), (4, _), (5, _), (6, _), (31, _)] rfl ?_))
      refine WC.condT rfl ?_
      refine WC.skip ?_
      refine WC.seq ?_
      refine WC.block ?_
      refine WC.run ?_
      refine WS.op rfl rfl (WS.op rfl rfl (WS.op rfl rfl (WS.op rfl rfl (WS.op rfl (op_ld (M20.at 1 rfl) rfl rfl) ?_))))
      refine WS.bsl M20 [_] rfl rfl rfl rfl ?_
      intro p21 h22 M23
      refine WS.op rfl (op_cvB (l := [y20.t0]) (M23.at 0 rfl) rfl rfl (Nat.le_of_ble_eq_true rfl) rfl) (WS.op rfl (op_sadd (l := (out ++ [y20.op, y20.cd])) (m := [y20.t0]) rfl rfl (by simp only [List.length_append, List.length_cons, List.length_nil]; omega)) (WS.op rfl rfl (WS.nil [(1, _), (3, _), (4, _), (5, _), (6, _)] rfl ?_)))
      refine WC.run ?_
      refine WS.op rfl rfl (WS.opV (.int .i64 1) rfl rfl rfl (WS.op rfl rfl (WS.nil [(1, _), (3, _), (4, _), (5, _), (6, _)] rfl ?_)))
      refine WC.unroll [(1, _), (3, _), (4, _), (5, _), (6, _)] rfl ?_
      refine WC.seq ?_
      refine WC.seq ?_
      refine WC.run ?_
      refine WS.op rfl rfl (WS.opV (.bool true) rfl rfl rfl (WS.nil [(1, _), (3, _), (4, _), (5, _), (6, _), (31, _)] rfl ?_))
      refine WC.condT rfl ?_
      refine WC.skip ?_
      refine WC.seq ?_
      refine WC.block ?_
      refine WC.run ?_
      refine WS.op rfl rfl (WS.op rfl rfl (WS.op rfl rfl (WS.op rfl rfl (WS.op rfl (op_ld (M23.at 2 rfl) rfl rfl) ?_))))
      refine WS.bsl M23 [_] rfl rfl rfl rfl ?_
      intro p24 h25 M26
      refine WS.op rfl (op_cvB (l := [y20.t1]) (M26.at 0 rfl) rfl rfl (Nat.le_of_ble_eq_true rfl) rfl) (WS.op rfl (op_sadd (l := ((out ++ [y20.op, y20.cd]) ++ [y20.t0])) (m := [y20.t1]) rfl rfl (by simp only [List.length_append, List.length_cons, List.length_nil]; omega)) (WS.op rfl rfl (WS.nil [(1, _), (3, _), (4, _), (5, _), (6, _)] rfl ?_)))
      refine WC.run ?_
      refine WS.op rfl rfl (WS.opV (.int .i64 2) rfl rfl rfl (WS.op rfl rfl (WS.nil [(1, _), (3, _), (4, _), (5, _), (6, _)] rfl ?_)))
      refine WC.unroll [(1, _), (3, _), (4, _), (5, _), (6, _)] rfl ?_
      refine WC.seq ?_
      refine WC.seq ?_
      refine WC.run ?_
      refine WS.op rfl rfl (WS.opV (.bool true) rfl rfl rfl (WS.nil [(1, _), (3, _), (4, _), (5, _), (6, _), (31, _)] rfl ?_))
      refine WC.condT rfl ?_
      refine WC.skip ?_
      refine WC.seq ?_
      refine WC.block ?_
      refine WC.run ?_
      refine WS.op rfl rfl (WS.op rfl rfl (WS.op rfl rfl (WS.op rfl rfl (WS.op rfl (op_ld (M26.at 3 rfl) rfl rfl) ?_))))
      refine WS.bsl M26 [_] rfl rfl rfl rfl ?_
      intro p27 h28 M29
      refine WS.op rfl (op_cvB (l := [y20.t2]) (M29.at 0 rfl) rfl rfl (Nat.le_of_ble_eq_true rfl) rfl) (WS.op rfl (op_sadd (l := (((out ++ [y20.op, y20.cd]) ++ [y20.t0]) ++ [y20.t1])) (m := [y20.t2]) rfl rfl (by simp only [List.length_append, List.length_cons, List.length_nil]; omega)) (WS.op rfl rfl (WS.nil [(1, _), (3, _), (4, _), (5, _), (6, _)] rfl ?_)))
      refine WC.run ?_
      refine WS.op rfl rfl (WS.opV (.int .i64 3) rfl rfl rfl (WS.op rfl rfl (WS.nil [(1, _), (3, _), (4, _), (5, _), (6, _)] rfl ?_)))
      refine WC.unroll [(1, _), (3, _), (4, _), (5, _), (6, _)] rfl ?_
      refine WC.seq ?_
      refine WC.seq ?_
      refine WC.run ?_
      refine WS.op rfl rfl (WS.opV (.bool true) rfl rfl rfl (WS.nil [(1, _), (3, _), (4, _), (5, _), (6, _), (31, _)] rfl ?_))
      refine WC.condT rfl ?_
      refine WC.skip ?_
      refine WC.seq ?_
      refine WC.block ?_
      refine WC.run ?_
      refine WS.op rfl rfl (WS.op rfl rfl (WS.op rfl rfl (WS.op rfl rfl (WS.op rfl (op_ld (M29.at 4 rfl) rfl rfl) ?_))))
      refine WS.bsl M29 [_] rfl rfl rfl rfl ?_
      intro p30 h31 M32
      refine WS.op rfl (op_cvB (l := [y20.t3]) (M32.at 0 rfl) rfl rfl (Nat.le_of_ble_eq_true rfl) rfl) (WS.op rfl (op_sadd (l := ((((out ++ [y20.op, y20.cd]) ++ [y20.t0]) ++ [y20.t1]) ++ [y20.t2])) (m := [y20.t3]) rfl rfl (by simp only [List.length_append, List.length_cons, List.length_nil]; omega)) (WS.op rfl rfl (WS.nil [(1, _), (3, _), (4, _), (5, _), (6, _)] rfl ?_)))
      refine WC.run ?_
      refine WS.op rfl rfl (WS.opV (.int .i64 4) rfl rfl rfl (WS.op rfl rfl (WS.nil [(1, _), (3, _), (4, _), (5, _), (6, _)] rfl ?_)))
      refine WC.unroll [(1, _), (3, _), (4, _), (5, _), (6, _)] rfl ?_
      refine WC.seq ?_
      refine WC.seq ?_
      refine WC.run ?_
      refine WS.op rfl rfl (WS.opV (.bool true) rfl rfl rfl (WS.nil [(1, _), (3, _), (4, _), (5, _), (6, _), (31, _)] rfl ?_))
      refine WC.condT rfl ?_
      refine WC.skip ?_
      refine WC.seq ?_
      refine WC.block ?_
      refine WC.run ?_
      refine WS.op rfl rfl (WS.op rfl rfl (WS.op rfl rfl (WS.op rfl rfl (WS.op rfl (op_ld (M32.at 5 rfl) rfl rfl) ?_))))
      refine WS.bsl M32 [_] rfl rfl rfl rfl ?_
      intro p33 h34 M35
      refine WS.op rfl (op_cvB (l := [y20.t4]) (M35.at 0 rfl) rfl rfl (Nat.le_of_ble_eq_true rfl) rfl) (WS.op rfl (op_sadd (l := (((((out ++ [y20.op, y20.cd]) ++ [y20.t0]) ++ [y20.t1]) ++ [y20.t2]) ++ [y20.t3])) (m := [y20.t4]) rfl rfl (by simp only [List.length_append, List.length_cons, List.length_nil]; omega)) (WS.op rfl rfl (WS.nil [(1, _), (3, _), (4, _), (5, _), (6, _)] rfl ?_)))
      refine WC.run ?_
      refine WS.op rfl rfl (WS.opV (.int .i64 5) rfl rfl rfl (WS.op rfl rfl (WS.nil [(1, _), (3, _), (4, _), (5, _), (6, _)] rfl ?_)))
      refine WC.unroll [(1, _), (3, _), (4, _), (5, _), (6, _)] rfl ?_
      refine WC.seq ?_
      refine WC.seq ?_
      refine WC.run ?_
      refine WS.op rfl rfl (WS.opV (.bool true) rfl rfl rfl (WS.nil [(1, _), (3, _), (4, _), (5, _), (6, _), (31, _)] rfl ?_))
      refine WC.condT rfl ?_
      refine WC.skip ?_
      refine WC.seq ?_
      refine WC.block ?_
      refine WC.run ?_
      refine WS.op rfl rfl (WS.op rfl rfl (WS.op rfl rfl (WS.op rfl rfl (WS.op rfl (op_ld (M35.at 6 rfl) rfl rfl) ?_))))
      refine WS.bsl M35 [_] rfl rfl rfl rfl ?_
      intro p36 h37 M38
      refine WS.op rfl (op_cvB (l := [y20.t5]) (M38.at 0 rfl) rfl rfl (Nat.le_of_ble_eq_true rfl) rfl) (WS.op rfl (op_sadd (l := ((((((out ++ [y20.op, y20.cd]) ++ [y20.t0]) ++ [y20.t1]) ++ [y20.t2]) ++ [y20.t3]) ++ [y20.t4])) (m := [y20.t5]) rfl rfl (by simp only [List.length_append, List.length_cons, List.length_nil]; omega)) (WS.op rfl rfl (WS.nil [(1, _), (3, _), (4, _), (5, _), (6, _)] rfl ?_)))
      refine WC.run ?_
      refine WS.op rfl rfl (WS.opV (.int .i64 6) rfl rfl rfl (WS.op rfl rfl (WS.nil [(1, _), (3, _), (4, _), (5, _), (6, _)] rfl ?_)))
      refine WC.unroll [(1, _), (3, _), (4, _), (5, _), (6, _)] rfl ?_
      refine WC.seq ?_
      refine WC.seq ?_
      refine WC.run ?_
      refine WS.op rfl rfl (WS.opV (.bool true) rfl rfl rfl (WS.nil [(1, _), (3, _), (4, _), (5, _), (6, _), (31, _)] rfl ?_))
      refine WC.condT rfl ?_
      refine WC.skip ?_
      refine WC.seq ?_
      refine WC.block ?_
      refine WC.run ?_
      refine WS.op rfl rfl (WS.op rfl rfl (WS.op rfl rfl (WS.op rfl rfl (WS.op rfl (op_ld (M38.at 7 rfl) rfl rfl) ?_))))
      refine WS.bsl M38 [_] rfl rfl rfl rfl ?_
      intro p39 h40 M41
      refine WS.op rfl (op_cvB (l := [y20.t6]) (M41.at 0 rfl) rfl rfl (Nat.le_of_ble_eq_true rfl) rfl) (WS.op rfl (op_sadd (l := (((((((out ++ [y20.op, y20.cd]) ++ [y20.t0]) ++ [y20.t1]) ++ [y20.t2]) ++ [y20.t3]) ++ [y20.t4]) ++ [y20.t5])) (m := [y20.t6]) rfl rfl (by simp only [List.length_append, List.length_cons, List.length_nil]; omega)) (WS.op rfl rfl (WS.nil [(1, _), (3, _), (4, _), (5, _), (6, _)] rfl ?_)))
      refine WC.run ?_
      refine WS.op rfl rfl (WS.opV (.int .i64 7) rfl rfl rfl (WS.op rfl rfl (WS.nil [(1, _), (3, _), (4, _), (5, _), (6, _)] rfl ?_)))
      refine WC.unroll [(1, _), (3, _), (4, _), (5, _), (6, _)] rfl ?_
      refine WC.seq ?_
      refine WC.seq ?_
      refine WC.run ?_
      refine WS.op rfl rfl (WS.opV (.bool true) rfl rfl rfl (WS.nil [(1, _), (3, _), (4, _), (5, _), (6, _), (31, _)] rfl ?_))
      refine WC.condT rfl ?_
      refine WC.skip ?_
      refine WC.seq ?_
      refine WC.block ?_
      refine WC.run ?_
      refine WS.op rfl rfl (WS.op rfl rfl (WS.op rfl rfl (WS.op rfl rfl (WS.op rfl (op_ld (M41.at 8 rfl) rfl rfl) ?_))))
      refine WS.bsl M41 [_] rfl rfl rfl rfl ?_
      intro p42 h43 M44
      refine WS.op rfl (op_cvB (l := [y20.t7]) (M44.at 0 rfl) rfl rfl (Nat.le_of_ble_eq_true rfl) rfl) (WS.op rfl (op_sadd (l := ((((((((out ++ [y20.op, y20.cd]) ++ [y20.t0]) ++ [y20.t1]) ++ [y20.t2]) ++ [y20.t3]) ++ [y20.t4]) ++ [y20.t5]) ++ [y20.t6])) (m := [y20.t7]) rfl rfl (by simp only [List.length_append, List.length_cons, List.length_nil]; omega)) (WS.op rfl rfl (WS.nil [(1, _), (3, _), (4, _), (5, _), (6, _)] rfl ?_)))
      refine WC.run ?_
      refine WS.op rfl rfl (WS.opV (.int .i64 8) rfl rfl rfl (WS.op rfl rfl (WS.nil [(1, _), (3, _), (4, _), (5, _), (6, _)] rfl ?_)))
      refine WC.unroll [(1, _), (3, _), (4, _), (5, _), (6, _)] rfl ?_
      refine WC.seq ?_
      refine WC.seq ?_
      refine WC.run ?_
      refine WS.op rfl rfl (WS.opV (.bool false) rfl rfl rfl (WS.nil [(1, _), (3, _), (4, _), (5, _), (6, _), (31, _)] rfl ?_))
      refine WC.condF rfl ?_
      refine WC.exit ?_
      refine WC.run ?_
      refine WS.op rfl rfl (WS.op rfl rfl (WS.op rfl (op_ld (M44.at 9 rfl) rfl rfl) ?_))
      have hvl := vb_len y20.sq.toNat_lt
      have h64 := y20.sq.toNat_lt
      have hfs := flatMap_take_succ rowb hy20
      refine WS.call rfl rfl rfl (ref_One_ran M44.here (n := ((y20.sq).toNat)) (by omega)) ?_
      rintro _ h45 ⟨rfl, N46⟩
      have M47 := M44.trans N46
      refine WS.op rfl (op_sadd (l := (((((((((out ++ [y20.op, y20.cd]) ++ [y20.t0]) ++ [y20.t1]) ++ [y20.t2]) ++ [y20.t3]) ++ [y20.t4]) ++ [y20.t5]) ++ [y20.t6]) ++ [y20.t7])) (m := (vb ((y20.sq).toNat))) rfl rfl (by simp only [List.length_append, List.length_cons, List.length_nil]; omega)) (WS.op rfl rfl (WS.nil [(1, _), (3, _), (4, _)] rfl ?_))
      refine WC.run ?_
      refine WS.op rfl rfl (WS.opV (.int .i64 (((i + 1) : Nat) : Int)) rfl rfl (add_i64 (a := i) (b := 1) (by omega)) (WS.op rfl rfl (WS.nil [(1, _), (3, _), (4, _)] rfl ?_)))
      refine ⟨(((((((((((out ++ [y20.op, y20.cd]) ++ [y20.t0]) ++ [y20.t1]) ++ [y20.t2]) ++ [y20.t3]) ++ [y20.t4]) ++ [y20.t5]) ++ [y20.t6]) ++ [y20.t7]) ++ (vb ((y20.sq).toNat))), i + 1), rfl, ⟨((M47.bare.focus 10 rfl).take 1), ?_⟩, ?_⟩
      · exact ⟨by rw [hO, hfs]; simp [rowb, Rw.tok], by omega, by simp only [List.length_append, List.length_cons, List.length_nil]; omega⟩
      · simp only []; omega
    · skip
      refine WS.nil [(1, _), (3, _), (4, _), (14, _)] rfl ?_
      refine WC.condF rfl ?_
      refine WC.exit ?_
      refine WC.seq ?_
      refine WC.run ?_
      refine WS.op rfl rfl (WS.op rfl rfl (WS.nil [(2, _)] rfl ?_))
      refine WC.ret ?_
      refine ⟨[_], (res_tmp rfl res_nil), ?_⟩
      rw [List.take_of_length_le (by omega)] at hO
      exact ⟨by rw [hO]; rfl, M12.bare.take 0⟩
end Go.Proofs.Ytegogkiccmghgaa.Wt
