/- Messages: which may be, their bytes; the functions that write and read them, and hold them against one another. -/
import Derived.Test.YtebgfahbhieoiaaEnt
namespace Go.Proofs.Ytebgfahbhieoiaa.Wt
open Go Go.Proofs.Ytebgfahbhieoiaa.Am Go.Proofs.Ytebgfahbhieoiaa.IrAll
set_option linter.unusedVariables false
set_option linter.unusedSimpArgs false
structure Msg where
  kd : UInt8
  fr : UInt8
  to : UInt8
  tm : UInt64
  ix : UInt64
  lt : UInt64
  cm : UInt64
  rd : UInt64
  ok : Bool
  mb : UInt8
  se : UInt8
  es : List Ent
  body : List UInt8
  deriving DecidableEq
def Msg.cells (m : Msg) (V : Value) : List Value := [.int .u8 ((m.kd.toNat : Nat) : Int), .int .u8 ((m.fr.toNat : Nat) : Int), .int .u8 ((m.to.toNat : Nat) : Int), .int .u64 ((m.tm.toNat : Nat) : Int), .int .u64 ((m.ix.toNat : Nat) : Int), .int .u64 ((m.lt.toNat : Nat) : Int), .int .u64 ((m.cm.toNat : Nat) : Int), .int .u64 ((m.rd.toNat : Nat) : Int), .bool m.ok, .int .u8 ((m.mb.toNat : Nat) : Int), .int .u8 ((m.se.toNat : Nat) : Int), V, .string (bs m.body)]
def Msg.val (m : Msg) (V : Value) : Value := .agg (m.cells V).toArray
def AllR (es : List Ent) : Prop := ∀ e ∈ es, RightE e
/-- Texts are no longer than this. -/
def Small (es : List Ent) : Prop := ∀ e ∈ es, e.body.length ≤ 268435456
def RightM (m : Msg) : Prop := (1 ≤ m.kd.toNat ∧ m.kd.toNat ≤ 7) ∧ (1 ≤ m.fr.toNat ∧ m.fr.toNat ≤ 5) ∧ (1 ≤ m.to.toNat ∧ m.to.toNat ≤ 5) ∧ m.mb.toNat ≤ 31 ∧ m.se.toNat < 5 ∧ m.es.length ≤ 8 ∧ AllR m.es
noncomputable instance (m : Msg) : Decidable (RightM m) := Classical.propDecidable _
noncomputable def rightMB (m : Msg) : Bool := decide (RightM m)
theorem rightM_t {m : Msg} (h : RightM m) : packE [.bool true] = .bool (rightMB m) := by unfold rightMB; exact vbt h
theorem rightM_f {m : Msg} (h : ¬ RightM m) : packE [.bool false] = .bool (rightMB m) := by unfold rightMB; exact vbf h
theorem rightMB_iff {m : Msg} : rightMB m = true ↔ RightM m := by unfold rightMB; exact decide_eq_true_iff
def okB (m : Msg) : UInt8 := if m.ok then 1 else 0
def headM (m : Msg) : List UInt8 := [m.kd, m.fr, m.to] ++ (vb m.tm.toNat ++ (vb m.ix.toNat ++ (vb m.lt.toNat ++ (vb m.cm.toNat ++ vb m.rd.toNat)))) ++ [okB m, m.mb, m.se, UInt8.ofNat m.es.length]
def encM (m : Msg) : List UInt8 := (headM m ++ m.es.flatMap fun e => sb (encE e)) ++ sb m.body
noncomputable def writeM (m : Msg) : List UInt8 := if rightMB m then encM m else []
theorem writeM_t {m : Msg} (h : rightMB m = true) : writeM m = encM m := by unfold writeM; rw [if_pos h]
theorem writeM_f {m : Msg} (h : rightMB m = false) : writeM m = [] := by unfold writeM; rw [if_neg (by rw [h]; decide)]
theorem node_ran {h : H} (W : Mem h h [] []) {c : UInt8} : Cll tab0 24 [.int .u8 ((c.toNat : Nat) : Int)] h (fun v h2 => v = .bool (decide (1 ≤ c.toNat ∧ c.toNat ≤ 5)) ∧ Mem h h2 [] []) := by
  refine Cll.code rfl rfl ?_
  refine WC.env [(0, _)] rfl ?_
  refine WC.seq ?_
  refine WC.run ?_
  refine WS.op rfl rfl (WS.nil [(0, _)] rfl ?_)
  refine WC.seq ?_
  refine WC.run ?_
  refine WS.op rfl rfl ?_
  refine WS.geqN (a := (c).toNat) (b := 1) rfl rfl rfl (fun e4 => ?_) (fun e4 => ?_)
  · skip
    refine WS.op rfl rfl (WS.op rfl rfl ?_)
    refine WS.leqN (a := (c).toNat) (b := 5) rfl rfl rfl (fun e7 => ?_) (fun e7 => ?_)
    · skip
      refine WS.op rfl rfl (WS.op rfl rfl (WS.nil [(2, _)] rfl ?_))
      refine WC.ret ?_
      refine ⟨[_], (res_tmp rfl res_nil), ?_⟩
      exact ⟨vbt (by omega), W.bare.take 0⟩
    · skip
      refine WS.op rfl rfl (WS.op rfl rfl (WS.nil [(2, _)] rfl ?_))
      refine WC.ret ?_
      refine ⟨[_], (res_tmp rfl res_nil), ?_⟩
      exact ⟨vbf (by omega), W.bare.take 0⟩
  · skip
    refine WS.op rfl rfl (WS.off rfl (WS.off rfl (WS.op rfl rfl (WS.op rfl rfl (WS.nil [(2, _)] rfl ?_)))))
    refine WC.ret ?_
    refine ⟨[_], (res_tmp rfl res_nil), ?_⟩
    exact ⟨vbf (by omega), W.bare.take 0⟩
theorem right1_ran {h : H} (W : Mem h h [] []) {e : Ent} (hb : e.body.length ≤ 268435456) : Cll tab0 26 [e.val] h (fun v h2 => v = .bool (!(rightB e)) ∧ Mem h h2 [] []) := by
  refine Cll.code rfl rfl ?_
  refine WC.env [(0, _)] rfl ?_
  refine WC.seq ?_
  refine WC.run ?_
  refine WS.box W [_, _, _, _, _, _, _, _, _, _, _, _, _] rfl rfl rfl rfl ?_
  intro p1 h2 M3
  refine WS.op rfl rfl (WS.nil [(1, _)] rfl ?_)
  refine WC.seq ?_
  refine WC.run ?_
  refine WS.op rfl (op_lds [_, _, _, _, _, _, _, _, _, _, _, _, _] (M3.at 0 rfl) rfl (Nat.le_of_ble_eq_true rfl) rfl) ?_
  refine WS.call rfl rfl rfl (ent_Right_ran M3.here (e := e) (by first | omega | (simp only [List.length_drop, List.length_take, List.length_append, List.length_cons, List.length_nil, List.length_singleton]; omega) | (simp only [List.length_drop, List.length_take, List.length_append, List.length_cons, List.length_nil, List.length_singleton] at *; omega))) ?_
  rintro _ h4 ⟨rfl, N5⟩
  have M6 := M3.trans N5
  cases hb1 : (rightB e)
  · skip
    refine WS.opV (.bool true) rfl rfl rfl (WS.op rfl rfl (WS.nil [(2, _)] rfl ?_))
    refine WC.ret ?_
    refine ⟨[_], (res_tmp rfl res_nil), ?_⟩
    exact ⟨rfl, M6.bare.take 0⟩
  · skip
    refine WS.opV (.bool false) rfl rfl rfl (WS.op rfl rfl (WS.nil [(2, _)] rfl ?_))
    refine WC.ret ?_
    refine ⟨[_], (res_tmp rfl res_nil), ?_⟩
    exact ⟨rfl, M6.bare.take 0⟩
theorem AllR_snoc {es : List Ent} {i : Nat} {y : Ent} (h : AllR (es.take i)) (hy : es[i]? = some y) (hr : RightE y) : AllR (es.take (i + 1)) := by
  intro e he
  rw [List.take_add_one, hy] at he
  simp only [Option.toList_some, List.mem_append, List.mem_singleton] at he
  rcases he with he | he
  · exact h e he
  · subst he; exact hr
theorem index_ran {h : H} (W : Mem h h [] []) {V : Value} {es : List Ent} (A : KEnt.Sl h V es) (hs : Small es) (hl : es.length < 9223372036854775808) : Cll tab0 40 [V, .func (.func 26) #[] #[]] h (fun v h2 => (∃ z, v = .int .i64 z ∧ (0 ≤ z ↔ ¬ AllR es)) ∧ Mem h h2 [] []) := by
  refine Cll.code rfl rfl ?_
  refine WC.env [(0, _), (1, _)] rfl ?_
  refine WC.seq ?_
  refine WC.run ?_
  refine WS.op rfl rfl (WS.nil [(0, _), (1, _)] rfl ?_)
  refine WC.seq ?_
  refine WC.seq ?_
  refine WC.run ?_
  refine WS.op rfl rfl (WS.op rfl (op_lenVS A rfl) (WS.op rfl rfl (WS.nil [(0, _), (1, _), (7, _), (8, _)] rfl ?_)))
  refine WC.block ?_
  obtain ⟨L1, eL3, M2⟩ := Mem.name W.bare
  refine WC.loop (σ := Nat) (fun (i) => [(0, V), (1, (.func (.func 26) #[] #[])), (7, (.int .i64 (((es).length : Nat) : Int))), (8, (.int .i64 ((i : Nat) : Int)))]) (fun (i) hh => Mem h hh (L1) [] ∧ AllR (es.take i) ∧ i ≤ es.length) (fun (i) => es.length - i) (0) rfl ⟨M2, ?_⟩ ?_
  · exact ⟨by rw [List.take_zero]; intro e he; simp at he, by omega⟩
  · rintro i h4 ⟨M5, ⟨hO, hi1⟩⟩
    subst eL3
    refine WC.env [(0, _), (1, _), (7, _), (8, _)] rfl ?_
    refine WC.seq ?_
    refine WC.run ?_
    refine WS.lssN (a := i) (b := (es).length) rfl rfl rfl (fun e9 => ?_) (fun e9 => ?_)
    · skip
      refine WS.nil [(0, _), (1, _), (7, _), (8, _), (9, _)] rfl ?_
      refine WC.seq ?_
      refine WC.condT rfl ?_
      refine WC.skip ?_
      refine WC.seq ?_
      refine WC.block ?_
      refine WC.seq ?_
      refine WC.run ?_
      refine WS.op rfl rfl (WS.op rfl rfl (WS.nil [(0, _), (1, _), (5, _), (7, _), (8, _)] rfl ?_))
      refine WC.seq ?_
      refine WC.run ?_
      refine WS.op rfl rfl (WS.op rfl rfl (WS.op rfl rfl ?_))
      obtain ⟨y14, hy14⟩ : ∃ y, (es)[i]? = some y := ⟨_, List.getElem?_eq_getElem (show i < (es).length by first | omega | (simp only [List.length_drop, List.length_take, List.length_append, List.length_cons, List.length_nil, List.length_singleton]; omega) | (simp only [List.length_drop, List.length_take, List.length_append, List.length_cons, List.length_nil, List.length_singleton] at *; omega))⟩
      refine WS.iaVS A i hy14 rfl rfl rfl rfl ?_
      intro b14_ o14_ ha14
      refine WS.op rfl (op_ldAt rfl (ha14.mono M5.sub) rfl) ?_
      refine WS.call rfl rfl rfl (right1_ran M5.here (e := y14) (hs _ (List.mem_of_getElem? hy14))) ?_
      rintro _ h6 ⟨rfl, N7⟩
      have M8 := M5.trans N7
      refine WS.nil [(0, _), (1, _), (5, _), (7, _), (8, _), (16, _)] rfl ?_
      cases hb1 : (!(rightB y14))
      · skip
        refine WC.condF rfl ?_
        refine WC.skip ?_
        refine WC.run ?_
        refine WS.opV (.int .i64 (((i + 1) : Nat) : Int)) rfl rfl (add_i64 (a := i) (b := 1) (by omega)) (WS.op rfl rfl (WS.nil [(0, _), (1, _), (7, _), (8, _)] rfl ?_))
        refine ⟨i + 1, rfl, ⟨(M8.bare.take 0), ?_⟩, ?_⟩
        · exact ⟨AllR_snoc hO hy14 (rightB_iff.1 (by simpa using hb1)), by omega⟩
        · simp only [] at *; omega
      · skip
        refine WC.condT rfl ?_
        refine WC.seq ?_
        refine WC.run ?_
        refine WS.op rfl rfl (WS.op rfl rfl (WS.nil [(4, _)] rfl ?_))
        refine WC.ret ?_
        refine ⟨[_], (res_tmp rfl res_nil), ?_⟩
        refine ⟨⟨_, rfl, ?_⟩, M8.bare.take 0⟩
        have : ¬ RightE y14 := fun q => by rw [rightB_iff.2 q] at hb1; cases hb1
        exact ⟨fun _ q => this (q _ (List.mem_of_getElem? hy14)), fun _ => by omega⟩
    · skip
      refine WS.nil [(0, _), (1, _), (7, _), (8, _), (9, _)] rfl ?_
      refine WC.seq ?_
      refine WC.condF rfl ?_
      refine WC.exit ?_
      refine WC.seq ?_
      refine WC.run ?_
      refine WS.op rfl rfl (WS.nil [(4, _)] rfl ?_)
      refine WC.ret ?_
      refine ⟨[_], (res_tmp rfl res_nil), ?_⟩
      refine ⟨⟨_, rfl, ?_⟩, M5.bare.take 0⟩
      rw [List.take_of_length_le (by omega)] at hO
      exact ⟨fun q => by omega, fun q => absurd hO q⟩
noncomputable instance (es : List Ent) : Decidable (AllR es) := Classical.propDecidable _
noncomputable def allRB (es : List Ent) : Bool := decide (AllR es)
theorem contains_ran {h : H} (W : Mem h h [] []) {V : Value} {es : List Ent} (A : KEnt.Sl h V es) (hs : Small es) (hl : es.length < 9223372036854775808) : Cll tab0 25 [V, .func (.func 26) #[] #[]] h (fun v h2 => v = .bool (!(allRB es)) ∧ Mem h h2 [] []) := by
  refine Cll.code rfl rfl ?_
  refine WC.env [(0, _), (1, _)] rfl ?_
  refine WC.seq ?_
  refine WC.run ?_
  refine WS.op rfl rfl (WS.nil [(0, _), (1, _)] rfl ?_)
  refine WC.seq ?_
  refine WC.run ?_
  refine WS.op rfl rfl (WS.op rfl rfl ?_)
  refine WS.call rfl rfl rfl (index_ran W.here (A.mono W.sub) hs (by omega)) ?_
  rintro _ h1 ⟨⟨z7, rfl, hz7⟩, N2⟩
  have M3 := W.trans N2
  refine WS.geq (a := z7) (b := (0 : Int)) rfl rfl rfl (fun e8 => ?_) (fun e8 => ?_)
  · skip
    refine WS.op rfl rfl (WS.nil [(4, _)] rfl ?_)
    refine WC.ret ?_
    refine ⟨[_], (res_tmp rfl res_nil), ?_⟩
    refine ⟨?_, M3.bare.take 0⟩
    have hq : allRB es = false := decide_eq_false (hz7.1 (by omega))
    rw [hq]; rfl
  · skip
    refine WS.op rfl rfl (WS.nil [(4, _)] rfl ?_)
    refine WC.ret ?_
    refine ⟨[_], (res_tmp rfl res_nil), ?_⟩
    refine ⟨?_, M3.bare.take 0⟩
    have hq : allRB es = true := decide_eq_true (by by_cases q : AllR es; exact q; have := hz7.2 q; omega)
    rw [hq]; rfl
theorem RightM_ents {m : Msg} (h1 : 1 ≤ m.kd.toNat ∧ m.kd.toNat ≤ 7) (h2 : 1 ≤ m.fr.toNat ∧ m.fr.toNat ≤ 5) (h3 : 1 ≤ m.to.toNat ∧ m.to.toNat ≤ 5) (h4 : m.mb.toNat ≤ 31) (h5 : m.se.toNat < 5) (h6 : m.es.length ≤ 8) : rightMB m = allRB m.es := by
  unfold rightMB allRB
  rw [decide_eq_decide]
  exact ⟨fun r => r.2.2.2.2.2.2, fun r => ⟨h1, h2, h3, h4, h5, h6, r⟩⟩
theorem take_snoc_all {α : Type} {l : List α} {i : Nat} {y : α} {p : α → Prop} (h : ∀ x ∈ l.take i, p x) (hy : l[i]? = some y) (hp : p y) : ∀ x ∈ l.take (i + 1), p x := by
  intro e he
  rw [List.take_add_one, hy] at he
  simp only [Option.toList_some, List.mem_append, List.mem_singleton] at he
  rcases he with he | he
  · exact h e he
  · subst he; exact hp
def HeadOK (m : Msg) : Prop := (1 ≤ m.kd.toNat ∧ m.kd.toNat ≤ 7) ∧ (1 ≤ m.fr.toNat ∧ m.fr.toNat ≤ 5) ∧ (1 ≤ m.to.toNat ∧ m.to.toNat ≤ 5) ∧ m.mb.toNat ≤ 31 ∧ m.se.toNat < 5 ∧ m.es.length ≤ 8
theorem HeadOK_eq {m : Msg} (h : HeadOK m) : rightMB m = allRB m.es := by obtain ⟨a, b, c, d, e, f⟩ := h; exact RightM_ents a b c d e f
theorem HeadOK_not {m : Msg} (h : ¬ HeadOK m) : rightMB m = false := decide_eq_false fun r => h ⟨r.1, r.2.1, r.2.2.1, r.2.2.2.1, r.2.2.2.2.1, r.2.2.2.2.2.1⟩
set_option maxRecDepth 4000 in
theorem msg_Right_ran {h : H} (W : Mem h h [] []) {m : Msg} {V : Value} (A : KEnt.Sl h V m.es) (hs : Small m.es ∧ m.es.length < 9223372036854775808 ∧ m.body.length ≤ 268435456) : Cll tab0 10 [m.val V] h (fun v h2 => v = .bool (rightMB m) ∧ Mem h h2 [] []) := by
  obtain ⟨hs, hl, _⟩ := hs
  obtain ⟨P, c, rfl⟩ := A.shape
  refine Cll.code rfl rfl ?_
  refine WC.env [(0, _)] rfl ?_
  refine WC.seq ?_
  refine WC.run ?_
  refine WS.box W [_, _, _, _, _, _, _, _, _, _, _, _, _] rfl rfl rfl rfl ?_
  intro p1 h2 M3
  refine WS.op rfl rfl (WS.nil [(1, _)] rfl ?_)
  refine WC.seq ?_
  refine WC.seq ?_
  obtain ⟨L4, eL6, M5⟩ := Mem.name M3.bare
  refine WC.joinB (base := h) (fun b => [(1, (.pointer (some ⟨p1, 0, none⟩))), (38, .bool b)]) L4 (¬ HeadOK m) (HeadOK m) ?_ ?_ ?_
  · subst eL6
    refine WS.op rfl rfl (WS.op rfl (op_ld (M5.at 0 rfl) rfl rfl) ?_)
    refine WS.lssN (a := (m.kd).toNat) (b := 1) rfl rfl rfl (fun e5 => ?_) (fun e5 => ?_)
    · skip
      refine WS.op rfl rfl (WS.off rfl (WS.off rfl (WS.off rfl (WS.op rfl rfl (WS.op rfl rfl (WS.off rfl (WS.off rfl (WS.offC rfl (WS.off rfl ?_)))))))))
      refine WS.op rfl rfl (WS.op rfl rfl (WS.off rfl (WS.off rfl (WS.offC rfl (WS.off rfl (WS.op rfl rfl (WS.op rfl rfl (WS.off rfl (WS.off rfl ?_)))))))))
      refine WS.off rfl (WS.op rfl rfl (WS.op rfl rfl (WS.off rfl (WS.off rfl (WS.off rfl (WS.op rfl rfl (WS.op rfl rfl (WS.off rfl (WS.off rfl ?_)))))))))
      refine WS.off rfl (WS.off rfl (WS.op rfl rfl ?_))
      refine WS.nil' ⟨true, rfl, ((M5.bare.focus 0 rfl).take 1), fun _ => ?_, fun hh => ?_⟩
      · (first | have hf := of_decide_eq_true hb1 | have hf := of_decide_eq_false hb1 | skip); (first | have ht := of_decide_eq_true hb2 | have ht := of_decide_eq_false hb2 | skip); unfold HeadOK; omega
      · cases hh
    · skip
      refine WS.op rfl rfl (WS.op rfl rfl (WS.op rfl (op_ld (M5.at 0 rfl) rfl rfl) ?_))
      refine WS.gtrN (a := (m.kd).toNat) (b := 7) rfl rfl rfl (fun e9 => ?_) (fun e9 => ?_)
      · skip
        refine WS.op rfl rfl (WS.op rfl rfl (WS.off rfl (WS.off rfl (WS.offC rfl (WS.off rfl (WS.op rfl rfl (WS.op rfl rfl (WS.off rfl (WS.off rfl ?_)))))))))
        refine WS.offC rfl (WS.off rfl (WS.op rfl rfl (WS.op rfl rfl (WS.off rfl (WS.off rfl (WS.off rfl (WS.op rfl rfl (WS.op rfl rfl (WS.off rfl ?_)))))))))
        refine WS.off rfl (WS.off rfl (WS.op rfl rfl (WS.op rfl rfl (WS.off rfl (WS.off rfl (WS.off rfl (WS.off rfl (WS.op rfl rfl ?_))))))))
        refine WS.nil' ⟨true, rfl, ((M5.bare.focus 0 rfl).take 1), fun _ => ?_, fun hh => ?_⟩
        · (first | have hf := of_decide_eq_true hb1 | have hf := of_decide_eq_false hb1 | skip); (first | have ht := of_decide_eq_true hb2 | have ht := of_decide_eq_false hb2 | skip); unfold HeadOK; omega
        · cases hh
      · skip
        refine WS.op rfl rfl (WS.op rfl rfl (WS.op rfl rfl (WS.op rfl (op_ld (M5.at 0 rfl) rfl rfl) ?_)))
        refine WS.call rfl rfl rfl (node_ran M5.here (c := (m.fr))) ?_
        rintro _ h7 ⟨rfl, N8⟩
        have M9 := M5.trans N8
        cases hb1 : (decide (1 ≤ (m.fr).toNat ∧ (m.fr).toNat ≤ 5))
        · skip
          refine WS.opV (.bool true) rfl rfl rfl (WS.op rfl rfl (WS.op rfl rfl (WS.off rfl (WS.off rfl (WS.offC rfl (WS.off rfl (WS.op rfl rfl (WS.op rfl rfl (WS.off rfl ?_)))))))))
          refine WS.off rfl (WS.off rfl (WS.op rfl rfl (WS.op rfl rfl (WS.off rfl (WS.off rfl (WS.off rfl (WS.op rfl rfl (WS.op rfl rfl (WS.off rfl ?_)))))))))
          refine WS.off rfl (WS.off rfl (WS.off rfl (WS.op rfl rfl ?_)))
          refine WS.nil' ⟨true, rfl, ((M9.bare.focus 0 rfl).take 1), fun _ => ?_, fun hh => ?_⟩
          · (first | have hf := of_decide_eq_true hb1 | have hf := of_decide_eq_false hb1 | skip); (first | have ht := of_decide_eq_true hb2 | have ht := of_decide_eq_false hb2 | skip); unfold HeadOK; omega
          · cases hh
        · skip
          refine WS.opV (.bool false) rfl rfl rfl (WS.op rfl rfl (WS.op rfl rfl (WS.op rfl rfl (WS.op rfl (op_ld (M9.at 0 rfl) rfl rfl) ?_))))
          refine WS.call rfl rfl rfl (node_ran M9.here (c := (m.to))) ?_
          rintro _ h10 ⟨rfl, N11⟩
          have M12 := M9.trans N11
          cases hb2 : (decide (1 ≤ (m.to).toNat ∧ (m.to).toNat ≤ 5))
          · skip
            refine WS.opV (.bool true) rfl rfl rfl (WS.op rfl rfl (WS.op rfl rfl (WS.off rfl (WS.off rfl (WS.off rfl (WS.op rfl rfl (WS.op rfl rfl (WS.off rfl (WS.off rfl ?_)))))))))
            refine WS.off rfl (WS.op rfl rfl (WS.op rfl rfl (WS.off rfl (WS.off rfl (WS.off rfl (WS.off rfl (WS.op rfl rfl ?_)))))))
            refine WS.nil' ⟨true, rfl, ((M12.bare.focus 0 rfl).take 1), fun _ => ?_, fun hh => ?_⟩
            · (first | have hf := of_decide_eq_true hb1 | have hf := of_decide_eq_false hb1 | skip); (first | have ht := of_decide_eq_true hb2 | have ht := of_decide_eq_false hb2 | skip); unfold HeadOK; omega
            · cases hh
          · skip
            refine WS.opV (.bool false) rfl rfl rfl (WS.op rfl rfl (WS.op rfl rfl (WS.op rfl rfl (WS.op rfl (op_ld (M12.at 0 rfl) rfl rfl) ?_))))
            refine WS.gtrN (a := (m.mb).toNat) (b := 31) rfl rfl rfl (fun e26 => ?_) (fun e26 => ?_)
            · skip
              refine WS.op rfl rfl (WS.op rfl rfl (WS.off rfl (WS.off rfl (WS.off rfl (WS.op rfl rfl (WS.op rfl rfl (WS.off rfl (WS.off rfl (WS.off rfl ?_)))))))))
              refine WS.off rfl (WS.op rfl rfl ?_)
              refine WS.nil' ⟨true, rfl, ((M12.bare.focus 0 rfl).take 1), fun _ => ?_, fun hh => ?_⟩
              · (first | have hf := of_decide_eq_true hb1 | have hf := of_decide_eq_false hb1 | skip); (first | have ht := of_decide_eq_true hb2 | have ht := of_decide_eq_false hb2 | skip); unfold HeadOK; omega
              · cases hh
            · skip
              refine WS.op rfl rfl (WS.op rfl rfl (WS.op rfl rfl (WS.op rfl (op_ld (M12.at 0 rfl) rfl rfl) ?_)))
              refine WS.geqN (a := (m.se).toNat) (b := 5) rfl rfl rfl (fun e31 => ?_) (fun e31 => ?_)
              · skip
                refine WS.op rfl rfl (WS.op rfl rfl (WS.off rfl (WS.off rfl (WS.off rfl (WS.off rfl (WS.op rfl rfl ?_))))))
                refine WS.nil' ⟨true, rfl, ((M12.bare.focus 0 rfl).take 1), fun _ => ?_, fun hh => ?_⟩
                · (first | have hf := of_decide_eq_true hb1 | have hf := of_decide_eq_false hb1 | skip); (first | have ht := of_decide_eq_true hb2 | have ht := of_decide_eq_false hb2 | skip); unfold HeadOK; omega
                · cases hh
              · skip
                refine WS.op rfl rfl (WS.op rfl rfl (WS.op rfl rfl (WS.op rfl (op_ld (M12.at 0 rfl) rfl rfl) (WS.op rfl (op_lenVS A rfl) ?_))))
                refine WS.gtrN (a := (m.es).length) (b := 8) rfl rfl rfl (fun e37 => ?_) (fun e37 => ?_)
                · skip
                  refine WS.op rfl rfl ?_
                  refine WS.nil' ⟨true, rfl, ((M12.bare.focus 0 rfl).take 1), fun _ => ?_, fun hh => ?_⟩
                  · (first | have hf := of_decide_eq_true hb1 | have hf := of_decide_eq_false hb1 | skip); (first | have ht := of_decide_eq_true hb2 | have ht := of_decide_eq_false hb2 | skip); unfold HeadOK; omega
                  · cases hh
                · skip
                  refine WS.op rfl rfl ?_
                  refine WS.nil' ⟨false, rfl, ((M12.bare.focus 0 rfl).take 1), fun hh => ?_, fun _ => ?_⟩
                  · cases hh
                  · (first | have hf := of_decide_eq_true hb1 | have hf := of_decide_eq_false hb1 | skip); (first | have ht := of_decide_eq_true hb2 | have ht := of_decide_eq_false hb2 | skip); unfold HeadOK; omega
  · intro h13 M14 hp38
    subst eL6
    refine WC.condT rfl ?_
    refine WC.seq ?_
    refine WC.run ?_
    refine WS.op rfl rfl (WS.nil [(2, _)] rfl ?_)
    refine WC.ret ?_
    refine ⟨[_], (res_tmp rfl res_nil), ?_⟩
    exact ⟨by rw [HeadOK_not hp38]; rfl, M14.bare.take 0⟩
  · intro h15 M16 hp38
    subst eL6
    refine WC.condF rfl ?_
    refine WC.skip ?_
    refine WC.seq ?_
    refine WC.run ?_
    refine WS.op rfl rfl (WS.op rfl (op_ld (M16.at 0 rfl) rfl rfl) ?_)
    refine WS.call rfl rfl rfl (contains_ran M16.here (A.mono M16.sub) hs (by omega)) ?_
    rintro _ h17 ⟨rfl, N18⟩
    have M19 := M16.trans N18
    cases hb3 : (!(allRB m.es))
    · skip
      refine WS.opV (.bool true) rfl rfl rfl (WS.op rfl rfl (WS.nil [(2, _)] rfl ?_))
      refine WC.ret ?_
      refine ⟨[_], (res_tmp rfl res_nil), ?_⟩
      exact ⟨by rw [HeadOK_eq hp38]; cases hq : allRB m.es <;> simp_all [packE], M19.bare.take 0⟩
    · skip
      refine WS.opV (.bool false) rfl rfl rfl (WS.op rfl rfl (WS.nil [(2, _)] rfl ?_))
      refine WC.ret ?_
      refine ⟨[_], (res_tmp rfl res_nil), ?_⟩
      exact ⟨by rw [HeadOK_eq hp38]; cases hq : allRB m.es <;> simp_all [packE], M19.bare.take 0⟩
theorem small_get {es : List Ent} {i : Nat} {y : Ent} (hs : Small es) (hy : es[i]? = some y) : y.body.length ≤ 268435456 := hs _ (List.mem_of_getElem? hy)
theorem flat_len {es : List Ent} (hs : Small es) : (es.flatMap fun e => sb (writeE e)).length ≤ es.length * 268435600 := by
  induction es with
  | nil => simp
  | cons e es ih =>
    have h1 := ih fun x hx => hs x (by simp [hx])
    have h2 := hs e (by simp)
    have h3 := writeE_len (e := e) (by omega)
    have h4 := sb_len (t := writeE e) (by omega)
    simp only [List.flatMap_cons, List.length_append, List.length_cons]; omega
theorem flat_enc {es : List Ent} (h : AllR es) : (es.flatMap fun e => sb (writeE e)) = es.flatMap fun e => sb (encE e) := by
  induction es with
  | nil => rfl
  | cons e es ih =>
    rw [List.flatMap_cons, List.flatMap_cons, ih fun x hx => h x (by simp [hx]), write_t (rightB_iff.2 (h e (by simp)))]
theorem flat_part {α : Type} {l : List α} {i : Nat} {y : α} (f : α → List UInt8) (h : l[i]? = some y) : ((l.take i).flatMap f).length + (f y).length ≤ (l.flatMap f).length := flatMap_part f h
theorem vb64 (x : UInt64) : (vb x.toNat).length ≤ 10 := vb_len x.toNat_lt
theorem encM_of {m : Msg} (hr : rightMB m = true) {o : UInt8} (ho : okB m = o) : writeM m = ((([m.kd, m.fr, m.to] ++ (vb m.tm.toNat ++ vb m.ix.toNat ++ vb m.lt.toNat ++ vb m.cm.toNat ++ vb m.rd.toNat)) ++ [o, m.mb, m.se, UInt8.ofNat m.es.length]) ++ m.es.flatMap fun e => sb (writeE e)) ++ sb m.body := by
  have h2 := rightMB_iff.1 hr
  rw [writeM_t hr, flat_enc h2.2.2.2.2.2.2, ← ho]
  simp [encM, headM]
set_option maxRecDepth 4000 in
theorem msg_Write_ran {h : H} (W : Mem h h [] []) {m : Msg} {V : Value} (A : KEnt.Sl h V m.es) (hs0 : Small m.es ∧ m.es.length < 9223372036854775808 ∧ m.body.length ≤ 268435456) : Cll tab0 9 [m.val V] h (fun v h2 => v = .string (bs (writeM m)) ∧ Mem h h2 [] []) := by
  obtain ⟨hs, hl, hb⟩ := hs0
  obtain ⟨P, c, rfl⟩ := A.shape
  have v1 := vb64 m.tm
  have v2 := vb64 m.ix
  have v3 := vb64 m.lt
  have v4 := vb64 m.cm
  have v5 := vb64 m.rd
  have v6 := sb_len (t := m.body) (by omega)
  refine Cll.code rfl rfl ?_
  refine WC.env [(0, _)] rfl ?_
  refine WC.seq ?_
  refine WC.run ?_
  refine WS.box W [_, _, _, _, _, _, _, _, _, _, _, _, _] rfl rfl rfl rfl ?_
  intro p1 h2 M3
  refine WS.op rfl rfl (WS.nil [(1, _)] rfl ?_)
  refine WC.seq ?_
  refine WC.seq ?_
  refine WC.run ?_
  have hes : rightMB m = true → m.es.length ≤ 8 := fun q => (rightMB_iff.1 q).2.2.2.2.2.1
  refine WS.op rfl (op_lds [_, _, _, _, _, _, _, _, _, _, _, _, _] (M3.at 0 rfl) rfl (Nat.le_of_ble_eq_true rfl) rfl) ?_
  refine WS.call rfl rfl rfl (msg_Right_ran M3.here (m := m) (A.mono M3.sub) (by exact ⟨hs, hl, hb⟩)) ?_
  rintro _ h4 ⟨rfl, N5⟩
  have M6 := M3.trans N5
  cases hb1 : (rightMB m)
  · skip
    refine WS.opV (.bool true) rfl rfl rfl (WS.nil [(1, _), (9, _)] rfl ?_)
    refine WC.condT rfl ?_
    refine WC.seq ?_
    refine WC.run ?_
    refine WS.op rfl rfl (WS.nil [(2, _)] rfl ?_)
    refine WC.ret ?_
    refine ⟨[_], (res_tmp rfl res_nil), ?_⟩
    exact ⟨by rw [writeM_f hb1]; rfl, M6.bare.take 0⟩
  · skip
    refine WS.opV (.bool false) rfl rfl rfl (WS.nil [(1, _), (9, _)] rfl ?_)
    refine WC.condF rfl ?_
    refine WC.skip ?_
    refine WC.seq ?_
    refine WC.run ?_
    refine WS.op rfl rfl (WS.nil [(1, _), (3, _)] rfl ?_)
    refine WC.seq ?_
    refine WC.seq ?_
    refine WC.run ?_
    refine WS.op rfl rfl (WS.op rfl (op_ld (M6.at 0 rfl) rfl rfl) (WS.nil [(1, _), (3, _), (11, _)] rfl ?_))
    cases hb2 : m.ok
    · skip
      refine WC.condF rfl ?_
      refine WC.skip ?_
      refine WC.seq ?_
      refine WC.draw M6 [18, 6] rfl ?_
      intro rb7 h8 M9
      refine WS.op rfl rfl (WS.op rfl (op_ld (M9.at 0 rfl) rfl rfl) (WS.op rfl rfl (WS.op rfl (op_ld (M9.at 0 rfl) rfl rfl) (WS.op rfl rfl (WS.op rfl (op_ld (M9.at 0 rfl) rfl rfl) (WS.op rfl rfl (WS.op rfl (op_ld (M9.at 0 rfl) rfl rfl) (WS.op rfl rfl (WS.op rfl (op_ld (M9.at 0 rfl) rfl rfl) ?_)))))))))
      refine WS.op rfl rfl (WS.op rfl (op_ld (M9.at 0 rfl) rfl rfl) (WS.op rfl rfl (WS.op rfl (op_ld (M9.at 0 rfl) rfl rfl) (WS.op rfl rfl (WS.op rfl (op_ld (M9.at 0 rfl) rfl rfl) ?_)))))
      refine WS.bslA M9 [_, _, _, _, _] 0 rfl rfl rfl rfl rfl ?_
      intro h11 M12
      refine WS.call rfl rfl rfl (num_V_ran M12.here (Row.Sl.own (K := KNat) (l := [(m.tm).toNat, (m.ix).toNat, (m.lt).toNat, (m.cm).toNat, (m.rd).toNat]) (M12.at 0 rfl)) (by have := m.tm.toNat_lt; have := m.ix.toNat_lt; have := m.lt.toNat_lt; have := m.cm.toNat_lt; have := m.rd.toNat_lt; intro n hn; simp only [List.mem_cons, List.mem_nil_iff, or_false] at hn; omega) (by simp) (r := ((vb ((m.tm).toNat)) ++ (vb ((m.ix).toNat)) ++ (vb ((m.lt).toNat)) ++ (vb ((m.cm).toNat)) ++ (vb ((m.rd).toNat)))) (by simp [List.flatMap])) ?_
      rintro _ h13 ⟨rfl, N14⟩
      have M15 := M12.trans N14
      refine WS.chk rfl (op_ld (M15.at 1 rfl) rfl rfl) rfl (sameV_refl rfl) (WS.chk rfl (op_ld (M15.at 1 rfl) rfl rfl) rfl (sameV_refl rfl) (WS.chk rfl (op_ld (M15.at 1 rfl) rfl rfl) rfl (sameV_refl rfl) ?_))
      refine WS.bslA M15 [_, _, _] 0 rfl rfl rfl rfl rfl ?_
      intro h17 M18
      refine WS.opR rfl rfl (op_cvB (l := [m.kd, m.fr, m.to]) (M18.at 0 rfl) rfl rfl (Nat.le_of_ble_eq_true rfl) rfl) (WS.op rfl (op_sadd (l := [m.kd, m.fr, m.to]) (m := ((vb ((m.tm).toNat)) ++ (vb ((m.ix).toNat)) ++ (vb ((m.lt).toNat)) ++ (vb ((m.cm).toNat)) ++ (vb ((m.rd).toNat)))) rfl rfl (by first | (simp only [List.length_append, List.length_cons, List.length_nil]; omega) | (subst hO; simp only [List.length_append, List.length_cons, List.length_nil]; omega))) (WS.op rfl rfl (WS.nil [(1, _), (3, _), (4, _)] rfl ?_)))
      refine WC.seq ?_
      refine WC.run ?_
      refine WS.op rfl rfl (WS.op rfl rfl (WS.op rfl rfl (WS.op rfl (op_ld (M18.bare.at 2 rfl) rfl rfl) (WS.op rfl rfl (WS.op rfl (op_ld (M18.bare.at 2 rfl) rfl rfl) (WS.op rfl rfl (WS.op rfl (op_ld (M18.bare.at 2 rfl) rfl rfl) (WS.op rfl (op_lenVS A rfl) (WS.opV (.int .u8 (((UInt8.ofNat ((m.es).length)).toNat : Nat) : Int)) rfl rfl (u8_ofNat (n := (m.es).length)) ?_)))))))))
      refine WS.bsl M18.bare [_, _, _, _] rfl rfl rfl rfl ?_
      intro p19 h20 M21
      refine WS.op rfl (op_cvB (l := [0, m.mb, m.se, UInt8.ofNat ((m.es).length)]) (M21.at 0 rfl) rfl rfl (Nat.le_of_ble_eq_true rfl) rfl) (WS.op rfl (op_sadd (l := ([m.kd, m.fr, m.to] ++ ((vb ((m.tm).toNat)) ++ (vb ((m.ix).toNat)) ++ (vb ((m.lt).toNat)) ++ (vb ((m.cm).toNat)) ++ (vb ((m.rd).toNat))))) (m := [0, m.mb, m.se, UInt8.ofNat ((m.es).length)]) rfl rfl (by first | (simp only [List.length_append, List.length_cons, List.length_nil]; omega) | (subst hO; simp only [List.length_append, List.length_cons, List.length_nil]; omega))) (WS.op rfl rfl (WS.nil [(1, _), (4, _)] rfl ?_)))
      refine WC.seq ?_
      refine WC.seq ?_
      refine WC.run ?_
      refine WS.op rfl rfl ?_
      have he8 := hes hb1
      have hfl := flat_len hs
      refine WS.op rfl (op_ld (M21.at 3 rfl) rfl rfl) (WS.op rfl (op_lenVS A rfl) (WS.op rfl rfl (WS.nil [(1, _), (4, _), (47, _), (48, _), (49, _)] rfl ?_)))
      refine WC.block ?_
      obtain ⟨L22, eL24, M23⟩ := Mem.name M21.bare
      refine WC.loop (σ := List UInt8 × Nat) (fun ((out, i)) => [(1, (.pointer (some ⟨p1, 0, none⟩))), (4, (.string (bs out))), (47, (.slice P m.es.length c)), (48, (.int .i64 (((m.es).length : Nat) : Int))), (49, (.int .i64 ((i : Nat) : Int)))]) (fun ((out, i)) hh => Mem h hh (L22) [] ∧ out = (([m.kd, m.fr, m.to] ++ ((vb ((m.tm).toNat)) ++ (vb ((m.ix).toNat)) ++ (vb ((m.lt).toNat)) ++ (vb ((m.cm).toNat)) ++ (vb ((m.rd).toNat)))) ++ [0, m.mb, m.se, UInt8.ofNat ((m.es).length)]) ++ (m.es.take i).flatMap (fun e => sb (writeE e)) ∧ i ≤ m.es.length) (fun ((out, i)) => m.es.length - i) ((([m.kd, m.fr, m.to] ++ ((vb ((m.tm).toNat)) ++ (vb ((m.ix).toNat)) ++ (vb ((m.lt).toNat)) ++ (vb ((m.cm).toNat)) ++ (vb ((m.rd).toNat)))) ++ [0, m.mb, m.se, UInt8.ofNat ((m.es).length)]), 0) rfl ⟨M23, ?_⟩ ?_
      · exact ⟨by simp, by omega⟩
      · rintro ⟨out, i⟩ h25 ⟨M26, ⟨hO, hi1⟩⟩
        subst eL24
        refine WC.env [(1, _), (4, _), (47, _), (48, _), (49, _)] rfl ?_
        refine WC.seq ?_
        refine WC.run ?_
        refine WS.lssN (a := i) (b := (m.es).length) rfl rfl rfl (fun e50 => ?_) (fun e50 => ?_)
        · skip
          refine WS.nil [(1, _), (4, _), (47, _), (48, _), (49, _), (50, _)] rfl ?_
          refine WC.seq ?_
          refine WC.condT rfl ?_
          refine WC.skip ?_
          refine WC.seq ?_
          refine WC.block ?_
          refine WC.seq ?_
          refine WC.run ?_
          obtain ⟨y51, hy51⟩ : ∃ y, (m.es)[i]? = some y := ⟨_, List.getElem?_eq_getElem (show i < (m.es).length by first | omega | (simp only [List.length_drop, List.length_take, List.length_append, List.length_cons, List.length_nil, List.length_singleton]; omega) | (simp only [List.length_drop, List.length_take, List.length_append, List.length_cons, List.length_nil, List.length_singleton] at *; omega))⟩
          refine WS.iaVS A i hy51 rfl rfl rfl rfl ?_
          intro b51_ o51_ ha51
          refine WS.op rfl (op_ldAt rfl (ha51.mono M26.sub) rfl) ?_
          refine WS.new M26 rfl ?_
          intro p27 h28 M29
          refine WS.st1 (M29.focus 0 rfl) [_, _, _, _, _, _, _, _, _, _, _, _, _] [_, _, _, _, _, _, _, _, _, _, _, _, _] rfl rfl rfl rfl rfl (Nat.le_of_ble_eq_true rfl) (Nat.le_of_ble_eq_true rfl) rfl rfl ?_
          intro h30 M31
          replace M31 : Mem _ _ ([(p27, _)] :: [(p19, _)] :: [((rb7 + 6), _)] :: [((rb7 + 18), _)] :: [(p1, _)] :: []) _ := M31
          refine WS.nil [(1, _), (4, _), (6, _), (47, _), (48, _), (49, _)] rfl ?_
          refine WC.run ?_
          refine WS.op rfl rfl ?_
          have hsm := small_get hs hy51
          have hw := writeE_len (e := y51) (by omega)
          have hw2 := sb_len (t := writeE y51) (by omega)
          have hp : _ + (sb (writeE y51)).length ≤ _ := flat_part (fun e => sb (writeE e)) hy51
          have he8 := hes hb1
          have hfl := flat_len hs
          refine WS.op rfl (op_lds [_, _, _, _, _, _, _, _, _, _, _, _, _] (M31.at 0 rfl) rfl (Nat.le_of_ble_eq_true rfl) rfl) ?_
          refine WS.call rfl rfl rfl (ent_Write_ran M31.here (e := y51) (by omega)) ?_
          rintro _ h32 ⟨rfl, N33⟩
          have M34 := M31.trans N33
          refine WS.bsl M34 [_] rfl rfl rfl rfl ?_
          intro p35 h36 M37
          refine WS.call rfl rfl rfl (num_S_ran M37.here (Row.Sl.own (K := KStr) (l := [(writeE y51)]) (M37.at 0 rfl)) (by simp only [List.map_cons, List.map_nil, List.sum_cons, List.sum_nil, List.length_cons, List.length_nil]; omega) (r := (sb (writeE y51))) (by simp [List.flatMap])) ?_
          rintro _ h38 ⟨rfl, N39⟩
          have M40 := M37.trans N39
          refine WS.op rfl (op_sadd (l := out) (m := (sb (writeE y51))) rfl rfl (by first | (simp only [List.length_append, List.length_cons, List.length_nil]; omega) | (subst hO; simp only [List.length_append, List.length_cons, List.length_nil]; omega))) (WS.op rfl rfl (WS.nil [(1, _), (4, _), (47, _), (48, _), (49, _)] rfl ?_))
          refine WC.run ?_
          refine WS.opV (.int .i64 (((i + 1) : Nat) : Int)) rfl rfl (add_i64 (a := i) (b := 1) (by omega)) (WS.op rfl rfl (WS.nil [(1, _), (4, _), (47, _), (48, _), (49, _)] rfl ?_))
          refine ⟨(out ++ sb (writeE y51), i + 1), rfl, ⟨(((((M40.bare.focus 5 rfl).focus 5 rfl).focus 5 rfl).focus 5 rfl).take 4), ?_⟩, ?_⟩
          · exact ⟨by rw [hO, flatMap_take_succ _ hy51, List.append_assoc], by omega⟩
          · simp only [] at *; omega
        · skip
          refine WS.nil [(1, _), (4, _), (47, _), (48, _), (49, _), (50, _)] rfl ?_
          refine WC.seq ?_
          refine WC.condF rfl ?_
          refine WC.exit ?_
          refine WC.seq ?_
          refine WC.run ?_
          refine WS.op rfl rfl ?_
          have hft := flatMap_take_le m.es i (fun e => sb (writeE e))
          refine WS.op rfl rfl (WS.op rfl (op_ld (M26.at 3 rfl) rfl rfl) ?_)
          refine WS.bsl M26 [_] rfl rfl rfl rfl ?_
          intro p41 h42 M43
          refine WS.call rfl rfl rfl (num_S_ran M43.here (Row.Sl.own (K := KStr) (l := [m.body]) (M43.at 0 rfl)) (by simp only [List.map_cons, List.map_nil, List.sum_cons, List.sum_nil, List.length_cons, List.length_nil]; omega) (r := (sb m.body)) (by simp [List.flatMap])) ?_
          rintro _ h44 ⟨rfl, N45⟩
          have M46 := M43.trans N45
          refine WS.op rfl (op_sadd (l := out) (m := (sb m.body)) rfl rfl (by first | (simp only [List.length_append, List.length_cons, List.length_nil]; omega) | (subst hO; simp only [List.length_append, List.length_cons, List.length_nil]; omega))) (WS.op rfl rfl (WS.nil [(2, _)] rfl ?_))
          refine WC.ret ?_
          refine ⟨[_], (res_tmp rfl res_nil), ?_⟩
          exact ⟨by rw [encM_of hb1 (o := 0) (by unfold okB; first | rw [hb2]; rfl | rfl), hO, flatMap_take_all (l := m.es) (i := i) _ (by omega)]; rfl, M46.bare.take 0⟩
    · skip
      refine WC.condT rfl ?_
      refine WC.run ?_
      refine WS.op rfl rfl (WS.nil [(1, _), (3, _)] rfl ?_)
      refine WC.seq ?_
      refine WC.draw M6 [18, 6] rfl ?_
      intro rb47 h48 M49
      refine WS.op rfl rfl (WS.op rfl (op_ld (M49.at 0 rfl) rfl rfl) (WS.op rfl rfl (WS.op rfl (op_ld (M49.at 0 rfl) rfl rfl) (WS.op rfl rfl (WS.op rfl (op_ld (M49.at 0 rfl) rfl rfl) (WS.op rfl rfl (WS.op rfl (op_ld (M49.at 0 rfl) rfl rfl) (WS.op rfl rfl (WS.op rfl (op_ld (M49.at 0 rfl) rfl rfl) ?_)))))))))
      refine WS.op rfl rfl (WS.op rfl (op_ld (M49.at 0 rfl) rfl rfl) (WS.op rfl rfl (WS.op rfl (op_ld (M49.at 0 rfl) rfl rfl) (WS.op rfl rfl (WS.op rfl (op_ld (M49.at 0 rfl) rfl rfl) ?_)))))
      refine WS.bslA M49 [_, _, _, _, _] 0 rfl rfl rfl rfl rfl ?_
      intro h51 M52
      refine WS.call rfl rfl rfl (num_V_ran M52.here (Row.Sl.own (K := KNat) (l := [(m.tm).toNat, (m.ix).toNat, (m.lt).toNat, (m.cm).toNat, (m.rd).toNat]) (M52.at 0 rfl)) (by have := m.tm.toNat_lt; have := m.ix.toNat_lt; have := m.lt.toNat_lt; have := m.cm.toNat_lt; have := m.rd.toNat_lt; intro n hn; simp only [List.mem_cons, List.mem_nil_iff, or_false] at hn; omega) (by simp) (r := ((vb ((m.tm).toNat)) ++ (vb ((m.ix).toNat)) ++ (vb ((m.lt).toNat)) ++ (vb ((m.cm).toNat)) ++ (vb ((m.rd).toNat)))) (by simp [List.flatMap])) ?_
      rintro _ h53 ⟨rfl, N54⟩
      have M55 := M52.trans N54
      refine WS.chk rfl (op_ld (M55.at 1 rfl) rfl rfl) rfl (sameV_refl rfl) (WS.chk rfl (op_ld (M55.at 1 rfl) rfl rfl) rfl (sameV_refl rfl) (WS.chk rfl (op_ld (M55.at 1 rfl) rfl rfl) rfl (sameV_refl rfl) ?_))
      refine WS.bslA M55 [_, _, _] 0 rfl rfl rfl rfl rfl ?_
      intro h57 M58
      refine WS.opR rfl rfl (op_cvB (l := [m.kd, m.fr, m.to]) (M58.at 0 rfl) rfl rfl (Nat.le_of_ble_eq_true rfl) rfl) (WS.op rfl (op_sadd (l := [m.kd, m.fr, m.to]) (m := ((vb ((m.tm).toNat)) ++ (vb ((m.ix).toNat)) ++ (vb ((m.lt).toNat)) ++ (vb ((m.cm).toNat)) ++ (vb ((m.rd).toNat)))) rfl rfl (by first | (simp only [List.length_append, List.length_cons, List.length_nil]; omega) | (subst hO; simp only [List.length_append, List.length_cons, List.length_nil]; omega))) (WS.op rfl rfl (WS.nil [(1, _), (3, _), (4, _)] rfl ?_)))
      refine WC.seq ?_
      refine WC.run ?_
      refine WS.op rfl rfl (WS.op rfl rfl (WS.op rfl rfl (WS.op rfl (op_ld (M58.bare.at 2 rfl) rfl rfl) (WS.op rfl rfl (WS.op rfl (op_ld (M58.bare.at 2 rfl) rfl rfl) (WS.op rfl rfl (WS.op rfl (op_ld (M58.bare.at 2 rfl) rfl rfl) (WS.op rfl (op_lenVS A rfl) (WS.opV (.int .u8 (((UInt8.ofNat ((m.es).length)).toNat : Nat) : Int)) rfl rfl (u8_ofNat (n := (m.es).length)) ?_)))))))))
      refine WS.bsl M58.bare [_, _, _, _] rfl rfl rfl rfl ?_
      intro p59 h60 M61
      refine WS.op rfl (op_cvB (l := [1, m.mb, m.se, UInt8.ofNat ((m.es).length)]) (M61.at 0 rfl) rfl rfl (Nat.le_of_ble_eq_true rfl) rfl) (WS.op rfl (op_sadd (l := ([m.kd, m.fr, m.to] ++ ((vb ((m.tm).toNat)) ++ (vb ((m.ix).toNat)) ++ (vb ((m.lt).toNat)) ++ (vb ((m.cm).toNat)) ++ (vb ((m.rd).toNat))))) (m := [1, m.mb, m.se, UInt8.ofNat ((m.es).length)]) rfl rfl (by first | (simp only [List.length_append, List.length_cons, List.length_nil]; omega) | (subst hO; simp only [List.length_append, List.length_cons, List.length_nil]; omega))) (WS.op rfl rfl (WS.nil [(1, _), (4, _)] rfl ?_)))
      refine WC.seq ?_
      refine WC.seq ?_
      refine WC.run ?_
      refine WS.op rfl rfl ?_
      have he8 := hes hb1
      have hfl := flat_len hs
      refine WS.op rfl (op_ld (M61.at 3 rfl) rfl rfl) (WS.op rfl (op_lenVS A rfl) (WS.op rfl rfl (WS.nil [(1, _), (4, _), (47, _), (48, _), (49, _)] rfl ?_)))
      refine WC.block ?_
      obtain ⟨L62, eL64, M63⟩ := Mem.name M61.bare
      refine WC.loop (σ := List UInt8 × Nat) (fun ((out, i)) => [(1, (.pointer (some ⟨p1, 0, none⟩))), (4, (.string (bs out))), (47, (.slice P m.es.length c)), (48, (.int .i64 (((m.es).length : Nat) : Int))), (49, (.int .i64 ((i : Nat) : Int)))]) (fun ((out, i)) hh => Mem h hh (L62) [] ∧ out = (([m.kd, m.fr, m.to] ++ ((vb ((m.tm).toNat)) ++ (vb ((m.ix).toNat)) ++ (vb ((m.lt).toNat)) ++ (vb ((m.cm).toNat)) ++ (vb ((m.rd).toNat)))) ++ [1, m.mb, m.se, UInt8.ofNat ((m.es).length)]) ++ (m.es.take i).flatMap (fun e => sb (writeE e)) ∧ i ≤ m.es.length) (fun ((out, i)) => m.es.length - i) ((([m.kd, m.fr, m.to] ++ ((vb ((m.tm).toNat)) ++ (vb ((m.ix).toNat)) ++ (vb ((m.lt).toNat)) ++ (vb ((m.cm).toNat)) ++ (vb ((m.rd).toNat)))) ++ [1, m.mb, m.se, UInt8.ofNat ((m.es).length)]), 0) rfl ⟨M63, ?_⟩ ?_
      · exact ⟨by simp, by omega⟩
      · rintro ⟨out, i⟩ h65 ⟨M66, ⟨hO, hi1⟩⟩
        subst eL64
        refine WC.env [(1, _), (4, _), (47, _), (48, _), (49, _)] rfl ?_
        refine WC.seq ?_
        refine WC.run ?_
        refine WS.lssN (a := i) (b := (m.es).length) rfl rfl rfl (fun e50 => ?_) (fun e50 => ?_)
        · skip
          refine WS.nil [(1, _), (4, _), (47, _), (48, _), (49, _), (50, _)] rfl ?_
          refine WC.seq ?_
          refine WC.condT rfl ?_
          refine WC.skip ?_
          refine WC.seq ?_
          refine WC.block ?_
          refine WC.seq ?_
          refine WC.run ?_
          obtain ⟨y51, hy51⟩ : ∃ y, (m.es)[i]? = some y := ⟨_, List.getElem?_eq_getElem (show i < (m.es).length by first | omega | (simp only [List.length_drop, List.length_take, List.length_append, List.length_cons, List.length_nil, List.length_singleton]; omega) | (simp only [List.length_drop, List.length_take, List.length_append, List.length_cons, List.length_nil, List.length_singleton] at *; omega))⟩
          refine WS.iaVS A i hy51 rfl rfl rfl rfl ?_
          intro b51_ o51_ ha51
          refine WS.op rfl (op_ldAt rfl (ha51.mono M66.sub) rfl) ?_
          refine WS.new M66 rfl ?_
          intro p67 h68 M69
          refine WS.st1 (M69.focus 0 rfl) [_, _, _, _, _, _, _, _, _, _, _, _, _] [_, _, _, _, _, _, _, _, _, _, _, _, _] rfl rfl rfl rfl rfl (Nat.le_of_ble_eq_true rfl) (Nat.le_of_ble_eq_true rfl) rfl rfl ?_
          intro h70 M71
          replace M71 : Mem _ _ ([(p67, _)] :: [(p59, _)] :: [((rb47 + 6), _)] :: [((rb47 + 18), _)] :: [(p1, _)] :: []) _ := M71
          refine WS.nil [(1, _), (4, _), (6, _), (47, _), (48, _), (49, _)] rfl ?_
          refine WC.run ?_
          refine WS.op rfl rfl ?_
          have hsm := small_get hs hy51
          have hw := writeE_len (e := y51) (by omega)
          have hw2 := sb_len (t := writeE y51) (by omega)
          have hp : _ + (sb (writeE y51)).length ≤ _ := flat_part (fun e => sb (writeE e)) hy51
          have he8 := hes hb1
          have hfl := flat_len hs
          refine WS.op rfl (op_lds [_, _, _, _, _, _, _, _, _, _, _, _, _] (M71.at 0 rfl) rfl (Nat.le_of_ble_eq_true rfl) rfl) ?_
          refine WS.call rfl rfl rfl (ent_Write_ran M71.here (e := y51) (by omega)) ?_
          rintro _ h72 ⟨rfl, N73⟩
          have M74 := M71.trans N73
          refine WS.bsl M74 [_] rfl rfl rfl rfl ?_
          intro p75 h76 M77
          refine WS.call rfl rfl rfl (num_S_ran M77.here (Row.Sl.own (K := KStr) (l := [(writeE y51)]) (M77.at 0 rfl)) (by simp only [List.map_cons, List.map_nil, List.sum_cons, List.sum_nil, List.length_cons, List.length_nil]; omega) (r := (sb (writeE y51))) (by simp [List.flatMap])) ?_
          rintro _ h78 ⟨rfl, N79⟩
          have M80 := M77.trans N79
          refine WS.op rfl (op_sadd (l := out) (m := (sb (writeE y51))) rfl rfl (by first | (simp only [List.length_append, List.length_cons, List.length_nil]; omega) | (subst hO; simp only [List.length_append, List.length_cons, List.length_nil]; omega))) (WS.op rfl rfl (WS.nil [(1, _), (4, _), (47, _), (48, _), (49, _)] rfl ?_))
          refine WC.run ?_
          refine WS.opV (.int .i64 (((i + 1) : Nat) : Int)) rfl rfl (add_i64 (a := i) (b := 1) (by omega)) (WS.op rfl rfl (WS.nil [(1, _), (4, _), (47, _), (48, _), (49, _)] rfl ?_))
          refine ⟨(out ++ sb (writeE y51), i + 1), rfl, ⟨(((((M80.bare.focus 5 rfl).focus 5 rfl).focus 5 rfl).focus 5 rfl).take 4), ?_⟩, ?_⟩
          · exact ⟨by rw [hO, flatMap_take_succ _ hy51, List.append_assoc], by omega⟩
          · simp only [] at *; omega
        · skip
          refine WS.nil [(1, _), (4, _), (47, _), (48, _), (49, _), (50, _)] rfl ?_
          refine WC.seq ?_
          refine WC.condF rfl ?_
          refine WC.exit ?_
          refine WC.seq ?_
          refine WC.run ?_
          refine WS.op rfl rfl ?_
          have hft := flatMap_take_le m.es i (fun e => sb (writeE e))
          refine WS.op rfl rfl (WS.op rfl (op_ld (M66.at 3 rfl) rfl rfl) ?_)
          refine WS.bsl M66 [_] rfl rfl rfl rfl ?_
          intro p81 h82 M83
          refine WS.call rfl rfl rfl (num_S_ran M83.here (Row.Sl.own (K := KStr) (l := [m.body]) (M83.at 0 rfl)) (by simp only [List.map_cons, List.map_nil, List.sum_cons, List.sum_nil, List.length_cons, List.length_nil]; omega) (r := (sb m.body)) (by simp [List.flatMap])) ?_
          rintro _ h84 ⟨rfl, N85⟩
          have M86 := M83.trans N85
          refine WS.op rfl (op_sadd (l := out) (m := (sb m.body)) rfl rfl (by first | (simp only [List.length_append, List.length_cons, List.length_nil]; omega) | (subst hO; simp only [List.length_append, List.length_cons, List.length_nil]; omega))) (WS.op rfl rfl (WS.nil [(2, _)] rfl ?_))
          refine WC.ret ?_
          refine ⟨[_], (res_tmp rfl res_nil), ?_⟩
          exact ⟨by rw [encM_of hb1 (o := 1) (by unfold okB; first | rw [hb2]; rfl | rfl), hO, flatMap_take_all (l := m.es) (i := i) _ (by omega)]; rfl, M86.bare.take 0⟩
/-! ### The reader -/
def skipS (s : List UInt8) (b : Bool) (n : Nat) (ok : Bool) : List UInt8 × Bool := if b = true ∨ ok = false ∨ s.length < n then (s, true) else (s.drop n, false)
theorem skip_bad {s : List UInt8} {b : Bool} {n : Nat} {ok : Bool} (h : b = true ∨ ok = false ∨ s.length < n) : skipS s b n ok = (s, true) := by unfold skipS; rw [if_pos h]
theorem skip_ok {s : List UInt8} {n : Nat} (h : n ≤ s.length) : skipS s false n true = (s.drop n, false) := by unfold skipS; rw [if_neg (by simp; omega)]
variable {base h : H} {L : List Seg} {R : List Nat}
theorem rd_skip_ran {r : Nat} {s : List UInt8} {b ok : Bool} {n : Nat} (M : Mem base h ([(r, ⟨[.string (bs s), .bool b], 0, false⟩)] :: L) R) (hl : s.length < 4611686018427387904) :
    Cll tab0 41 [.pointer (some ⟨r, 0, none⟩), .int .i64 (n : Int), .bool ok] h (fun v h2 => ∃ s' b', v = .tuple #[] ∧ Mem base h2 ([(r, ⟨[.string (bs s'), .bool b'], 0, false⟩)] :: L) R ∧ skipS s b n ok = (s', b')) := by
  refine Cll.code rfl rfl ?_
  refine WC.env [(0, _), (1, _), (2, _)] rfl ?_
  refine WC.seq ?_
  refine WC.run ?_
  refine WS.op rfl rfl (WS.op rfl rfl (WS.op rfl rfl (WS.op rfl rfl (WS.op rfl (op_ld (M.at 0 rfl) rfl rfl) (WS.op rfl rfl ?_)))))
  cases hb1 : b
  · skip
    refine WS.op rfl rfl ?_
    cases hb2 : ok
    · skip
      refine WS.opV (.bool true) rfl rfl rfl (WS.op rfl rfl (WS.op rfl rfl (WS.off rfl (WS.off rfl (WS.off rfl (WS.off rfl (WS.off rfl (WS.off rfl (WS.off rfl ?_)))))))))
      refine WS.op rfl rfl (WS.op rfl rfl (WS.op rfl rfl ?_))
      refine WS.st1 (M.focus 0 rfl) [_] [_, _] rfl rfl rfl rfl rfl (Nat.le_of_ble_eq_true rfl) (Nat.le_of_ble_eq_true rfl) rfl rfl ?_
      intro h1 M2
      replace M2 : Mem _ _ ([(r, _)] :: L) _ := M2
      refine WS.nil [(0, _), (1, _)] rfl ?_
      refine WC.seq ?_
      refine WC.run ?_
      refine WS.op rfl rfl (WS.op rfl rfl (WS.op rfl rfl (WS.op rfl (op_ld (M2.at 0 rfl) rfl rfl) (WS.opV (.bool false) rfl rfl rfl (WS.nil [(0, _), (1, _), (30, _)] rfl ?_)))))
      refine WC.condF rfl ?_
      refine WC.skip ?_
      refine ⟨[], res_nil, ?_⟩
      exact ⟨_, _, rfl, M2, skip_bad (by first | exact .inl rfl | exact .inr (.inl rfl) | exact .inr (.inr (by omega)))⟩
    · skip
      refine WS.opV (.bool false) rfl rfl rfl (WS.op rfl rfl (WS.op rfl rfl (WS.op rfl rfl (WS.op rfl rfl (WS.op rfl rfl (WS.op rfl rfl (WS.op rfl (op_ld (M.at 0 rfl) rfl rfl) (WS.op rfl (op_lenS (l := s) rfl) ?_))))))))
      refine WS.gtrN (a := n) (b := (s).length) rfl rfl rfl (fun e22 => ?_) (fun e22 => ?_)
      · skip
        refine WS.op rfl rfl (WS.op rfl rfl (WS.op rfl rfl ?_))
        refine WS.st1 (M.focus 0 rfl) [_] [_, _] rfl rfl rfl rfl rfl (Nat.le_of_ble_eq_true rfl) (Nat.le_of_ble_eq_true rfl) rfl rfl ?_
        intro h3 M4
        replace M4 : Mem _ _ ([(r, _)] :: L) _ := M4
        refine WS.nil [(0, _), (1, _)] rfl ?_
        refine WC.seq ?_
        refine WC.run ?_
        refine WS.op rfl rfl (WS.op rfl rfl (WS.op rfl rfl (WS.op rfl (op_ld (M4.at 0 rfl) rfl rfl) (WS.opV (.bool false) rfl rfl rfl (WS.nil [(0, _), (1, _), (30, _)] rfl ?_)))))
        refine WC.condF rfl ?_
        refine WC.skip ?_
        refine ⟨[], res_nil, ?_⟩
        exact ⟨_, _, rfl, M4, skip_bad (by first | exact .inl rfl | exact .inr (.inl rfl) | exact .inr (.inr (by omega)))⟩
      · skip
        refine WS.op rfl rfl (WS.op rfl rfl (WS.op rfl rfl ?_))
        refine WS.st1 (M.focus 0 rfl) [_] [_, _] rfl rfl rfl rfl rfl (Nat.le_of_ble_eq_true rfl) (Nat.le_of_ble_eq_true rfl) rfl rfl ?_
        intro h5 M6
        replace M6 : Mem _ _ ([(r, _)] :: L) _ := M6
        refine WS.nil [(0, _), (1, _)] rfl ?_
        refine WC.seq ?_
        refine WC.run ?_
        refine WS.op rfl rfl (WS.op rfl rfl (WS.op rfl rfl (WS.op rfl (op_ld (M6.at 0 rfl) rfl rfl) (WS.opV (.bool true) rfl rfl rfl (WS.nil [(0, _), (1, _), (30, _)] rfl ?_)))))
        refine WC.condT rfl ?_
        refine WC.run ?_
        refine WS.op rfl rfl (WS.op rfl rfl (WS.op rfl rfl (WS.op rfl rfl (WS.op rfl (op_ld (M6.at 0 rfl) rfl rfl) (WS.op rfl rfl (WS.op rfl (op_slS0 (l := s) n rfl rfl (by first | omega | (simp only [List.length_drop, List.length_take, List.length_append, List.length_cons, List.length_nil, List.length_singleton]; omega) | (simp only [List.length_drop, List.length_take, List.length_append, List.length_cons, List.length_nil, List.length_singleton] at *; omega))) (WS.op rfl rfl (WS.op rfl rfl ?_))))))))
        refine WS.st1 (M6.focus 0 rfl) [_] [_, _] rfl rfl rfl rfl rfl (Nat.le_of_ble_eq_true rfl) (Nat.le_of_ble_eq_true rfl) rfl rfl ?_
        intro h7 M8
        replace M8 : Mem _ _ ([(r, _)] :: L) _ := M8
        refine WS.nil [] rfl ?_
        refine ⟨[], res_nil, ?_⟩
        exact ⟨_, _, rfl, M8, skip_ok (by omega)⟩
  · skip
    refine WS.off rfl (WS.off rfl (WS.op rfl rfl (WS.op rfl rfl (WS.off rfl (WS.off rfl (WS.off rfl (WS.off rfl (WS.off rfl (WS.off rfl ?_)))))))))
    refine WS.off rfl (WS.op rfl rfl (WS.op rfl rfl (WS.op rfl rfl ?_)))
    refine WS.st1 (M.focus 0 rfl) [_] [_, _] rfl rfl rfl rfl rfl (Nat.le_of_ble_eq_true rfl) (Nat.le_of_ble_eq_true rfl) rfl rfl ?_
    intro h9 M10
    replace M10 : Mem _ _ ([(r, _)] :: L) _ := M10
    refine WS.nil [(0, _), (1, _)] rfl ?_
    refine WC.seq ?_
    refine WC.run ?_
    refine WS.op rfl rfl (WS.op rfl rfl (WS.op rfl rfl (WS.op rfl (op_ld (M10.at 0 rfl) rfl rfl) (WS.opV (.bool false) rfl rfl rfl (WS.nil [(0, _), (1, _), (30, _)] rfl ?_)))))
    refine WC.condF rfl ?_
    refine WC.skip ?_
    refine ⟨[], res_nil, ?_⟩
    exact ⟨_, _, rfl, M10, skip_bad (by first | exact .inl rfl | exact .inr (.inl rfl) | exact .inr (.inr (by omega)))⟩
def rbyte (s : List UInt8) (b : Bool) : UInt8 × List UInt8 × Bool := if b = true ∨ s.length < 1 then (0, s, true) else (s.headD 0, s.drop 1, false)
def rnum (s : List UInt8) (b : Bool) : UInt64 × List UInt8 × Bool := (UInt64.ofNat (rvN s), skipS s b (rvK s) (rvOK s))
def rtext (s : List UInt8) (b : Bool) : List UInt8 × List UInt8 × Bool := (rsT s, skipS s b (rsK s) (rsOK s))
theorem skip1_f {s s' : List UInt8} {b : Bool} (q : skipS s b 1 true = (s', false)) : 1 ≤ s.length ∧ b = false ∧ s' = s.drop 1 := by
  unfold skipS at q
  split at q
  · cases q
  · rename_i hc; cases q
    refine ⟨Nat.le_of_not_lt fun q => hc (.inr (.inr q)), by cases b; rfl; exact absurd (.inl rfl) hc, rfl⟩
theorem skip1_t {s s' : List UInt8} {b : Bool} (q : skipS s b 1 true = (s', true)) : s' = s ∧ (b = true ∨ s.length < 1) := by
  unfold skipS at q
  split at q
  · rename_i hc; cases q
    refine ⟨rfl, ?_⟩
    rcases hc with hc | hc | hc
    · exact .inl hc
    · cases hc
    · exact .inr hc
  · cases q
theorem rbyte_f {s s' : List UInt8} {b b' : Bool} {c : UInt8} (h : 1 ≤ s.length ∧ b = false ∧ s' = s.drop 1) (hc : s[0]? = some c) (hb : b' = false) : rbyte s b = (c, s', b') := by
  obtain ⟨h1, h2, h3⟩ := h
  unfold rbyte
  rw [if_neg (by rw [h2]; intro q; rcases q with q | q; cases q; omega), h3, hb]
  cases s with
  | nil => simp at h1
  | cons d s => simp at hc; subst hc; rfl
theorem rd_byte_ran {r : Nat} {s : List UInt8} {b : Bool} (M : Mem base h ([(r, ⟨[.string (bs s), .bool b], 0, false⟩)] :: L) R) (hl : s.length < 4611686018427387904) :
    Cll tab0 28 [.pointer (some ⟨r, 0, none⟩)] h (fun v h2 => ∃ c s' b', v = .int .u8 ((UInt8.toNat c : Nat) : Int) ∧ Mem base h2 ([(r, ⟨[.string (bs s'), .bool b'], 0, false⟩)] :: L) R ∧ rbyte s b = (c, s', b')) := by
  refine Cll.code rfl rfl ?_
  refine WC.env [(0, _)] rfl ?_
  refine WC.seq ?_
  refine WC.run ?_
  refine WS.op rfl rfl (WS.nil [(0, _)] rfl ?_)
  refine WC.seq ?_
  refine WC.run ?_
  refine WS.op rfl rfl (WS.op rfl rfl (WS.op rfl rfl (WS.op rfl (op_ld (M.at 0 rfl) rfl rfl) (WS.op rfl rfl (WS.nil [(0, _), (3, _)] rfl ?_)))))
  refine WC.seq ?_
  refine WC.run ?_
  refine WS.op rfl rfl ?_
  refine WS.call rfl rfl rfl (rd_skip_ran (s := s) (b := b) (n := 1) (ok := true) (M.focus 0 rfl) (by omega)) ?_
  rintro _ h1 ⟨s3, b4, rfl, M2, q5⟩
  replace M2 : Mem _ _ ([(r, _)] :: L) _ := M2
  refine WS.nil [(0, _), (3, _)] rfl ?_
  refine WC.seq ?_
  refine WC.seq ?_
  refine WC.run ?_
  refine WS.op rfl rfl (WS.op rfl rfl (WS.op rfl rfl (WS.op rfl (op_ld (M2.at 0 rfl) rfl rfl) (WS.nil [(3, _), (13, _)] rfl ?_))))
  cases hb1 : b4
  · skip
    refine WC.condF rfl ?_
    refine WC.skip ?_
    refine WC.seq ?_
    refine WC.run ?_
    refine WS.op rfl rfl ?_
    have hs1 := skip1_f (q5.trans (by rw [hb1]))
    obtain ⟨c, hc⟩ : ∃ c, (s)[0]? = some c := ⟨_, List.getElem?_eq_getElem (show 0 < (s).length by exact hs1.1)⟩
    refine WS.op rfl (op_ixS 0 rfl rfl hc) (WS.op rfl rfl (WS.nil [(2, _)] rfl ?_))
    refine WC.ret ?_
    refine ⟨[_], (res_tmp rfl res_nil), ?_⟩
    exact ⟨c, s3, b4, rfl, by rw [hb1] at M2 ⊢; exact M2, rbyte_f hs1 hc hb1⟩
  · skip
    refine WC.condT rfl ?_
    refine WC.seq ?_
    refine WC.run ?_
    refine WS.op rfl rfl (WS.nil [(2, _)] rfl ?_)
    refine WC.ret ?_
    refine ⟨[_], (res_tmp rfl res_nil), ?_⟩
    obtain ⟨ht1, ht2⟩ := skip1_t (q5.trans (by rw [hb1]))
    exact ⟨0, s3, b4, rfl, by rw [hb1] at M2 ⊢; exact M2, by unfold rbyte; rw [if_pos ht2, ht1, hb1]⟩
theorem rd_number_ran {r : Nat} {s : List UInt8} {b : Bool} (M : Mem base h ([(r, ⟨[.string (bs s), .bool b], 0, false⟩)] :: L) R) (hl : s.length < 4611686018427387904) :
    Cll tab0 29 [.pointer (some ⟨r, 0, none⟩)] h (fun v h2 => ∃ c s' b', v = .int .u64 ((UInt64.toNat c : Nat) : Int) ∧ Mem base h2 ([(r, ⟨[.string (bs s'), .bool b'], 0, false⟩)] :: L) R ∧ rnum s b = (c, s', b')) := by
  refine Cll.code rfl rfl ?_
  refine WC.env [(0, _)] rfl ?_
  refine WC.seq ?_
  refine WC.run ?_
  refine WS.op rfl rfl (WS.nil [(0, _)] rfl ?_)
  refine WC.seq ?_
  refine WC.run ?_
  refine WS.op rfl rfl (WS.op rfl rfl (WS.op rfl rfl (WS.op rfl (op_ld (M.at 0 rfl) rfl rfl) ?_)))
  refine WS.call rfl rfl rfl (num_ReadV_ran M.here (l := s) (by first | omega | (simp only [List.length_drop, List.length_take, List.length_append, List.length_cons, List.length_nil, List.length_singleton]; omega) | (simp only [List.length_drop, List.length_take, List.length_append, List.length_cons, List.length_nil, List.length_singleton] at *; omega))) ?_
  rintro _ h1 ⟨rfl, N2⟩
  have M3 := M.trans N2
  refine WS.op rfl rfl (WS.opV (.int .u64 (((UInt64.ofNat (rvN s)).toNat : Nat) : Int)) rfl rfl (u64_ofNat (n := (rvN s)) (by have := rvN_lt s; omega)) (WS.op rfl rfl (WS.op rfl rfl (WS.op rfl rfl (WS.op rfl rfl (WS.op rfl rfl (WS.nil [(0, _), (3, _), (4, _), (5, _)] rfl ?_)))))))
  refine WC.seq ?_
  refine WC.run ?_
  refine WS.op rfl rfl (WS.op rfl rfl (WS.op rfl rfl ?_))
  refine WS.call rfl rfl rfl (rd_skip_ran (s := s) (b := b) (n := (rvK s)) (ok := (rvOK s)) (M3.focus 0 rfl) (by omega)) ?_
  rintro _ h5 ⟨s7, b8, rfl, M6, q9⟩
  replace M6 : Mem _ _ ([(r, _)] :: L) _ := M6
  refine WS.nil [(3, _)] rfl ?_
  refine WC.seq ?_
  refine WC.run ?_
  refine WS.op rfl rfl (WS.op rfl rfl (WS.nil [(2, _)] rfl ?_))
  refine WC.ret ?_
  refine ⟨[_], (res_tmp rfl res_nil), ?_⟩
  exact ⟨_, _, _, rfl, M6, by unfold rnum; rw [q9]⟩
theorem rd_text_ran {r : Nat} {s : List UInt8} {b : Bool} (M : Mem base h ([(r, ⟨[.string (bs s), .bool b], 0, false⟩)] :: L) R) (hl : s.length < 4611686018427387904) :
    Cll tab0 31 [.pointer (some ⟨r, 0, none⟩)] h (fun v h2 => ∃ c s' b', v = .string (bs c) ∧ Mem base h2 ([(r, ⟨[.string (bs s'), .bool b'], 0, false⟩)] :: L) R ∧ rtext s b = (c, s', b')) := by
  refine Cll.code rfl rfl ?_
  refine WC.env [(0, _)] rfl ?_
  refine WC.seq ?_
  refine WC.run ?_
  refine WS.op rfl rfl (WS.nil [(0, _)] rfl ?_)
  refine WC.seq ?_
  refine WC.run ?_
  refine WS.op rfl rfl (WS.op rfl rfl (WS.op rfl rfl (WS.op rfl (op_ld (M.at 0 rfl) rfl rfl) ?_)))
  refine WS.call rfl rfl rfl (num_ReadS_ran M.here (l := s) (by first | omega | (simp only [List.length_drop, List.length_take, List.length_append, List.length_cons, List.length_nil, List.length_singleton]; omega) | (simp only [List.length_drop, List.length_take, List.length_append, List.length_cons, List.length_nil, List.length_singleton] at *; omega))) ?_
  rintro _ h1 ⟨rfl, N2⟩
  have M3 := M.trans N2
  refine WS.op rfl rfl (WS.op rfl rfl (WS.op rfl rfl (WS.op rfl rfl (WS.op rfl rfl (WS.op rfl rfl (WS.op rfl rfl (WS.nil [(0, _), (3, _), (4, _), (5, _)] rfl ?_)))))))
  refine WC.seq ?_
  refine WC.run ?_
  refine WS.op rfl rfl (WS.op rfl rfl (WS.op rfl rfl ?_))
  refine WS.call rfl rfl rfl (rd_skip_ran (s := s) (b := b) (n := (rsK s)) (ok := (rsOK s)) (M3.focus 0 rfl) (by omega)) ?_
  rintro _ h5 ⟨s7, b8, rfl, M6, q9⟩
  replace M6 : Mem _ _ ([(r, _)] :: L) _ := M6
  refine WS.nil [(3, _)] rfl ?_
  refine WC.seq ?_
  refine WC.run ?_
  refine WS.op rfl rfl (WS.op rfl rfl (WS.nil [(2, _)] rfl ?_))
  refine WC.ret ?_
  refine ⟨[_], (res_tmp rfl res_nil), ?_⟩
  exact ⟨_, _, _, rfl, M6, by unfold rtext; rw [q9]⟩
theorem skipS_le {s s' : List UInt8} {b b' ok : Bool} {n : Nat} (h : skipS s b n ok = (s', b')) : s'.length ≤ s.length := by
  unfold skipS at h; split at h <;> (cases h; simp)
theorem Rd.byte_le {s s' : List UInt8} {b b' : Bool} {c : UInt8} (h : rbyte s b = (c, s', b')) : s'.length ≤ s.length := by
  unfold rbyte at h; split at h <;> (cases h; simp)
theorem Rd.num_le {s s' : List UInt8} {b b' : Bool} {c : UInt64} (h : rnum s b = (c, s', b')) : s'.length ≤ s.length := by
  unfold rnum at h; cases hq : skipS s b (rvK s) (rvOK s); rw [hq] at h; cases h; exact skipS_le hq
theorem Rd.text_le {s s' : List UInt8} {b b' : Bool} {c : List UInt8} (h : rtext s b = (c, s', b')) : s'.length ≤ s.length ∧ c.length ≤ s.length := by
  unfold rtext at h; cases hq : skipS s b (rsK s) (rsOK s); rw [hq] at h; cases h; exact ⟨skipS_le hq, rsT_le s⟩
theorem byte_cons (c : UInt8) (s : List UInt8) : rbyte (c :: s) false = (c, s, false) := by unfold rbyte; rw [if_neg (by simp)]; rfl
theorem num_vb (n : UInt64) (s : List UInt8) : rnum (vb n.toNat ++ s) false = (n, s, false) := by
  have g := getV_vb n.toNat_lt s
  obtain ⟨e1, e2, e3⟩ := rv_eq_some g
  unfold rnum
  rw [e1, e2, e3, skip_ok (by simp), List.drop_left]; simp
theorem text_sb {t : List UInt8} (ht : t.length < 18446744073709551616) (s : List UInt8) : rtext (sb t ++ s) false = (t, s, false) := by
  have g := getS_sb ht s
  obtain ⟨e1, e2, e3⟩ := rs_eq_some g
  unfold rtext
  rw [e1, e2, e3, skip_ok (by simp), List.drop_left]
/-! ### Reading messages -/
def zeroM : Msg := ⟨0, 0, 0, 0, 0, 0, 0, 0, false, 0, 0, [], []⟩
theorem byte_bad {s s' : List UInt8} {b b' : Bool} {c : UInt8} (h : rbyte s b = (c, s', b')) (hb : b = true) : b' = true := by
  unfold rbyte at h; rw [if_pos (.inl hb)] at h; cases h; rfl
theorem num_bad {s s' : List UInt8} {b b' : Bool} {c : UInt64} (h : rnum s b = (c, s', b')) (hb : b = true) : b' = true := by
  unfold rnum at h; rw [skip_bad (.inl hb)] at h; cases h; rfl
theorem text_bad {s s' : List UInt8} {b b' : Bool} {c : List UInt8} (h : rtext s b = (c, s', b')) (hb : b = true) : b' = true := by
  unfold rtext at h; rw [skip_bad (.inl hb)] at h; cases h; rfl
theorem byte_empty {s' : List UInt8} {b' : Bool} {c : UInt8} {l : List UInt8} (h : rbyte l false = (c, s', b')) (hl : l = []) : b' = true := by
  subst hl; cases h; rfl
def bodyM (es : List Ent) (t : List UInt8) : List UInt8 := (es.flatMap fun e => sb (encE e)) ++ sb t
theorem head_q {m0 : Msg} {l : List UInt8} (he : encM m0 = l) {c1 c2 c3 c9 c10 c11 c12 : UInt8} {n1 n2 n3 n4 n5 : UInt64} {s1 s2 s3 s4 s5 s6 s7 s8 s9 s10 s11 s12 : List UInt8} {b1 b2 b3 b4 b5 b6 b7 b8 b9 b10 b11 b12 : Bool}
    (q1 : rbyte l false = (c1, s1, b1)) (q2 : rbyte s1 b1 = (c2, s2, b2)) (q3 : rbyte s2 b2 = (c3, s3, b3)) (q4 : rnum s3 b3 = (n1, s4, b4)) (q5 : rnum s4 b4 = (n2, s5, b5)) (q6 : rnum s5 b5 = (n3, s6, b6)) (q7 : rnum s6 b6 = (n4, s7, b7)) (q8 : rnum s7 b7 = (n5, s8, b8)) (q9 : rbyte s8 b8 = (c9, s9, b9)) (q10 : rbyte s9 b9 = (c10, s10, b10)) (q11 : rbyte s10 b10 = (c11, s11, b11)) (q12 : rbyte s11 b11 = (c12, s12, b12)) :
    c1 = m0.kd ∧ c2 = m0.fr ∧ c3 = m0.to ∧ n1 = m0.tm ∧ n2 = m0.ix ∧ n3 = m0.lt ∧ n4 = m0.cm ∧ n5 = m0.rd ∧ c9 = okB m0 ∧ c10 = m0.mb ∧ c11 = m0.se ∧ c12 = UInt8.ofNat m0.es.length ∧ s12 = bodyM m0.es m0.body ∧ b12 = false := by
  subst he
  have e : encM m0 = m0.kd :: m0.fr :: m0.to :: (vb m0.tm.toNat ++ (vb m0.ix.toNat ++ (vb m0.lt.toNat ++ (vb m0.cm.toNat ++ (vb m0.rd.toNat ++ (okB m0 :: m0.mb :: m0.se :: UInt8.ofNat m0.es.length :: bodyM m0.es m0.body)))))) := by simp [encM, headM, bodyM]
  rw [e, byte_cons] at q1; cases q1
  rw [byte_cons] at q2; cases q2
  rw [byte_cons] at q3; cases q3
  rw [num_vb] at q4; cases q4
  rw [num_vb] at q5; cases q5
  rw [num_vb] at q6; cases q6
  rw [num_vb] at q7; cases q7
  rw [num_vb] at q8; cases q8
  rw [byte_cons] at q9; cases q9
  rw [byte_cons] at q10; cases q10
  rw [byte_cons] at q11; cases q11
  rw [byte_cons] at q12; cases q12
  exact ⟨rfl, rfl, rfl, rfl, rfl, rfl, rfl, rfl, rfl, rfl, rfl, rfl, rfl, rfl⟩
theorem head_empty {l : List UInt8} {c1 c2 c3 c9 c10 c11 c12 : UInt8} {n1 n2 n3 n4 n5 : UInt64} {s1 s2 s3 s4 s5 s6 s7 s8 s9 s10 s11 s12 : List UInt8} {b1 b2 b3 b4 b5 b6 b7 b8 b9 b10 b11 b12 : Bool}
    (q1 : rbyte l false = (c1, s1, b1)) (q2 : rbyte s1 b1 = (c2, s2, b2)) (q3 : rbyte s2 b2 = (c3, s3, b3)) (q4 : rnum s3 b3 = (n1, s4, b4)) (q5 : rnum s4 b4 = (n2, s5, b5)) (q6 : rnum s5 b5 = (n3, s6, b6)) (q7 : rnum s6 b6 = (n4, s7, b7)) (q8 : rnum s7 b7 = (n5, s8, b8)) (q9 : rbyte s8 b8 = (c9, s9, b9)) (q10 : rbyte s9 b9 = (c10, s10, b10)) (q11 : rbyte s10 b10 = (c11, s11, b11)) (q12 : rbyte s11 b11 = (c12, s12, b12)) (hl : l = []) : b12 = true :=
  byte_bad q12 (byte_bad q11 (byte_bad q10 (byte_bad q9 (num_bad q8 (num_bad q7 (num_bad q6 (num_bad q5 (num_bad q4 (byte_bad q3 (byte_bad q2 (byte_empty q1 hl)))))))))))
/-- What is left to read behind i entries of the message that these bytes are. -/
def Pro (l : List UInt8) (es : List Ent) (i : Nat) (rs : List UInt8) (rb : Bool) : Prop := ∀ m0, RightM m0 → encM m0 = l → rb = false ∧ es = m0.es.take i ∧ rs = bodyM (m0.es.drop i) m0.body
theorem ents_len {m0 : Msg} {l : List UInt8} (h : encM m0 = l) : ∀ e ∈ m0.es, (encE e).length ≤ l.length := by
  intro e he
  subst h
  obtain ⟨i, hi, rfl⟩ := List.getElem_of_mem he
  have := flatMap_part (fun e => sb (encE e)) (List.getElem?_eq_getElem hi)
  simp only [sb, List.length_append] at this
  simp only [encM, List.length_append, sb]; omega
theorem pro_step {l rs rs' t : List UInt8} {es : List Ent} {i : Nat} {rb rb' : Bool} (hl : l.length < 18446744073709551616) (h : Pro l es i rs rb) (hc : ∀ m0, RightM m0 → encM m0 = l → i < m0.es.length) (q : rtext rs rb = (t, rs', rb')) : (rdB t = false → ∀ m0, RightM m0 → encM m0 ≠ l) ∧ Pro l (es ++ [rdE t]) (i + 1) rs' rb' := by
  have key : ∀ m0, RightM m0 → encM m0 = l → ∃ e, m0.es[i]? = some e ∧ RightE e ∧ t = encE e ∧ rs' = bodyM (m0.es.drop (i + 1)) m0.body ∧ rb' = false := fun m0 hr he => by
    obtain ⟨h1, h2, h3⟩ := h m0 hr he
    have hi := hc m0 hr he
    have he2 := ents_len he _ (List.getElem_mem hi)
    rw [h1, h3, List.drop_eq_getElem_cons hi] at q
    have e2 : bodyM (m0.es[i] :: m0.es.drop (i + 1)) m0.body = sb (encE m0.es[i]) ++ bodyM (m0.es.drop (i + 1)) m0.body := by simp only [bodyM, List.flatMap_cons, List.append_assoc]
    rw [e2, text_sb (by omega)] at q
    cases q
    exact ⟨m0.es[i], List.getElem?_eq_getElem hi, hr.2.2.2.2.2.2 _ (List.getElem_mem hi), rfl, rfl, rfl⟩
  refine ⟨fun hb m0 hr he => ?_, fun m0 hr he => ?_⟩
  · obtain ⟨e, _, k2, k3, _⟩ := key m0 hr he
    exact (rdB_false hb).2 e k2 k3.symm
  · obtain ⟨e, k1, k2, k3, k4, k5⟩ := key m0 hr he
    obtain ⟨h1, h2, h3⟩ := h m0 hr he
    have hel := ents_len he e (List.mem_of_getElem? k1)
    have := (rd_some (s := t) (by rw [k3]; omega) k2 k3.symm).1
    exact ⟨k5, by rw [List.take_add_one, k1, h2, this]; rfl, k4⟩
def ReadQ (h : H) (l : List UInt8) (v : Value) (h2 : H) : Prop := ∃ m V S ok, v = .tuple #[Msg.val m V, .bool ok] ∧ KEnt.Own V m.es S ∧ (ok = true → RightM m ∧ encM m = l) ∧ (ok = false → m = zeroM ∧ ∀ m0, RightM m0 → encM m0 ≠ l) ∧ Mem h h2 [S] []
theorem ok_eq (m0 : Msg) : decide ((okB m0).toNat = 1) = m0.ok := by unfold okB; cases m0.ok <;> rfl
theorem cand_m {P1 : Prop} {l : List UInt8} {m0 : Msg} {c1 c2 c3 c9 c10 c11 : UInt8} {n1 n2 n3 n4 n5 : UInt64} {es : List Ent} {t : List UInt8} (h : c1 = m0.kd ∧ c2 = m0.fr ∧ c3 = m0.to ∧ n1 = m0.tm ∧ n2 = m0.ix ∧ n3 = m0.lt ∧ n4 = m0.cm ∧ n5 = m0.rd ∧ c9 = okB m0 ∧ c10 = m0.mb ∧ c11 = m0.se ∧ P1) (he : es = m0.es) (ht : t = m0.body) :
    (⟨c1, c2, c3, n1, n2, n3, n4, n5, decide (c9.toNat = 1), c10, c11, es, t⟩ : Msg) = m0 := by
  obtain ⟨rfl, rfl, rfl, rfl, rfl, rfl, rfl, rfl, rfl, rfl, rfl, _⟩ := h
  subst he ht
  rw [ok_eq]
theorem cnt_eq {m0 : Msg} {c : UInt8} (hr : RightM m0) (hc : c = UInt8.ofNat m0.es.length) : c.toNat = m0.es.length := by
  have := hr.2.2.2.2.2.1
  rw [hc, toNat_ofNat (by omega)]
theorem small_app {es : List Ent} {e : Ent} (h : ∀ x ∈ es, x.body.length ≤ 268435456) (he : e.body.length ≤ 268435456) : ∀ x ∈ es ++ [e], x.body.length ≤ 268435456 := by
  intro x hx
  rw [List.mem_append, List.mem_singleton] at hx
  rcases hx with hx | hx
  · exact h x hx
  · subst hx; exact he
theorem rdE_small {t : List UInt8} (h : t.length ≤ 268435456) : (rdE t).body.length ≤ 268435456 := by
  cases hb : rdB t with
  | true => obtain ⟨h1, h2⟩ := rdB_true hb; have := enc_body_len h1 h2; omega
  | false => rw [(rdB_false hb).1]; simp [zeroE]
theorem rdB_small {t : List UInt8} (h : t.length ≤ 268435456) : (rdE t).body.length ≤ t.length := by
  cases hb : rdB t with
  | true => obtain ⟨h1, h2⟩ := rdB_true hb; exact enc_body_len h1 h2
  | false => rw [(rdB_false hb).1]; simp [zeroE]
theorem m_yes {M : Msg} {l : List UInt8} (h : writeM M = l) (hl : l ≠ []) : RightM M ∧ encM M = l := by
  unfold writeM at h
  split at h
  · rename_i hr; exact ⟨rightMB_iff.1 hr, h⟩
  · exact absurd h.symm hl
theorem m_no {l rs rs' t : List UInt8} {es : List Ent} {i : Nat} {rb rb' : Bool} {M : Msg} (hl : l.length < 18446744073709551616) (hP : Pro l es i rs rb) (hi : ∀ m0, RightM m0 → encM m0 = l → i = m0.es.length) (q : rtext rs rb = (t, rs', rb')) (hc : ∀ m0, RightM m0 → encM m0 = l → es = m0.es → t = m0.body → M = m0) (hbad : rb' = true ∨ writeM M ≠ l) : ∀ m0, RightM m0 → encM m0 ≠ l := by
  intro m0 hr he
  obtain ⟨h1, h2, h3⟩ := hP m0 hr he
  have h4 := hi m0 hr he
  have hbl : m0.body.length ≤ l.length := by rw [← he]; simp [encM, sb]; omega
  have e3 : rs = sb m0.body ++ [] := by rw [h3, List.drop_of_length_le (by omega)]; simp [bodyM]
  rw [h1, e3, text_sb (by omega)] at q
  cases q
  rcases hbad with hb | hb
  · cases hb
  · have := hc m0 hr he (by rw [h2, List.take_of_length_le (by omega)]) rfl
    subst this
    exact hb (by rw [writeM_t (rightMB_iff.2 hr), he])
set_option maxRecDepth 8000 in
theorem msg_Read_ran {h : H} (W : Mem h h [] []) {l : List UInt8} (hl : l.length ≤ 268435456) : Cll tab0 11 [.string (bs l)] h (ReadQ h l) := by
  refine Cll.code rfl rfl ?_
  refine WC.env [(0, _)] rfl ?_
  refine WC.seq ?_
  refine WC.run ?_
  refine WS.new W rfl ?_
  intro p1 h2 M3
  refine WS.op rfl rfl (WS.nil [(0, _), (2, _)] rfl ?_)
  refine WC.seq ?_
  refine WC.run ?_
  refine WS.op rfl rfl (WS.opV (.agg #[(.string (bs l)), (.bool false)]) rfl rfl rfl ?_)
  refine WS.box M3 [_, _] rfl rfl rfl rfl ?_
  intro p4 h5 M6
  refine WS.op rfl rfl (WS.nil [(0, _), (2, _), (4, _)] rfl ?_)
  refine WC.seq ?_
  refine WC.run ?_
  refine WS.op rfl rfl ?_
  refine WS.call rfl rfl rfl (rd_byte_ran (s := l) (b := false) (M6.focus 0 rfl) (by omega)) ?_
  rintro _ h7 ⟨c9, s10, b11, rfl, M8, q12⟩
  have q12l := Rd.byte_le q12
  replace M8 : Mem _ _ ([(p4, _)] :: [(p1, _)] :: []) _ := M8
  refine WS.op rfl rfl ?_
  refine WS.call rfl rfl rfl (rd_byte_ran (s := s10) (b := b11) (M8.focus 0 rfl) (by omega)) ?_
  rintro _ h13 ⟨c15, s16, b17, rfl, M14, q18⟩
  have q18l := Rd.byte_le q18
  replace M14 : Mem _ _ ([(p4, _)] :: [(p1, _)] :: []) _ := M14
  refine WS.op rfl rfl ?_
  refine WS.call rfl rfl rfl (rd_byte_ran (s := s16) (b := b17) (M14.focus 0 rfl) (by omega)) ?_
  rintro _ h19 ⟨c21, s22, b23, rfl, M20, q24⟩
  have q24l := Rd.byte_le q24
  replace M20 : Mem _ _ ([(p4, _)] :: [(p1, _)] :: []) _ := M20
  refine WS.opV (.agg #[(.int .u8 (((c9).toNat : Nat) : Int)), (.int .u8 (((c15).toNat : Nat) : Int)), (.int .u8 (((c21).toNat : Nat) : Int)), (.int .u64 (0 : Int)), (.int .u64 (0 : Int)), (.int .u64 (0 : Int)), (.int .u64 (0 : Int)), (.int .u64 (0 : Int)), (.bool false), (.int .u8 (0 : Int)), (.int .u8 (0 : Int)), (.slice none 0 0), (.string (bs ([])))]) rfl rfl rfl ?_
  refine WS.new M20 rfl ?_
  intro p25 h26 M27
  refine WS.st1 (M27.focus 0 rfl) [_, _, _, _, _, _, _, _, _, _, _, _, _] [_, _, _, _, _, _, _, _, _, _, _, _, _] rfl rfl rfl rfl rfl (Nat.le_of_ble_eq_true rfl) (Nat.le_of_ble_eq_true rfl) rfl rfl ?_
  intro h28 M29
  replace M29 : Mem _ _ ([(p25, _)] :: [(p4, _)] :: [(p1, _)] :: []) _ := M29
  refine WS.nil [(0, _), (2, _), (4, _), (5, _)] rfl ?_
  refine WC.seq ?_
  refine WC.seq ?_
  refine WC.run ?_
  refine WS.op rfl rfl (WS.op rfl rfl (WS.op rfl rfl (WS.op rfl rfl (WS.op rfl rfl ?_))))
  refine WS.bsl M29 [_, _, _, _, _] rfl rfl rfl rfl ?_
  intro p30 h31 M32
  refine WS.op rfl rfl (WS.op rfl rfl (WS.nil [(0, _), (2, _), (4, _), (5, _), (25, _), (26, _), (27, _)] rfl ?_))
  refine WC.block ?_
  refine WC.unroll [(0, _), (2, _), (4, _), (5, _), (25, _), (26, _), (27, _)] rfl ?_
  refine WC.seq ?_
  refine WC.run ?_
  refine WS.opV (.bool true) rfl rfl rfl (WS.nil [(0, _), (2, _), (4, _), (5, _), (25, _), (26, _), (27, _), (28, _)] rfl ?_)
  refine WC.seq ?_
  refine WC.condT rfl ?_
  refine WC.skip ?_
  refine WC.seq ?_
  refine WC.block ?_
  refine WC.seq ?_
  refine WC.run ?_
  refine WS.op rfl rfl (WS.op rfl (op_ld (M32.at 0 rfl) rfl rfl) (WS.op rfl rfl (WS.nil [(0, _), (2, _), (4, _), (5, _), (7, _), (25, _), (26, _), (27, _)] rfl ?_)))
  refine WC.run ?_
  refine WS.op rfl rfl (WS.op rfl rfl ?_)
  refine WS.call rfl rfl rfl (rd_number_ran (s := s22) (b := b23) (M32.focus 2 rfl) (by omega)) ?_
  rintro _ h33 ⟨c35, s36, b37, rfl, M34, q38⟩
  have q38l := Rd.num_le q38
  replace M34 : Mem _ _ ([(p4, _)] :: [(p30, _)] :: [(p25, _)] :: [(p1, _)] :: []) _ := M34
  refine WS.op rfl rfl ?_
  refine WS.st1 (M34.focus 2 rfl) [_] [_, _, _, _, _, _, _, _, _, _, _, _, _] rfl rfl rfl rfl rfl (Nat.le_of_ble_eq_true rfl) (Nat.le_of_ble_eq_true rfl) rfl rfl ?_
  intro h39 M40
  replace M40 : Mem _ _ ([(p25, _)] :: [(p4, _)] :: [(p30, _)] :: [(p1, _)] :: []) _ := M40
  refine WS.nil [(0, _), (2, _), (4, _), (5, _), (25, _), (26, _), (27, _)] rfl ?_
  refine WC.run ?_
  refine WS.opV (.int .i64 1) rfl rfl rfl (WS.op rfl rfl (WS.nil [(0, _), (2, _), (4, _), (5, _), (25, _), (26, _), (27, _)] rfl ?_))
  refine WC.unroll [(0, _), (2, _), (4, _), (5, _), (25, _), (26, _), (27, _)] rfl ?_
  refine WC.seq ?_
  refine WC.run ?_
  refine WS.opV (.bool true) rfl rfl rfl (WS.nil [(0, _), (2, _), (4, _), (5, _), (25, _), (26, _), (27, _), (28, _)] rfl ?_)
  refine WC.seq ?_
  refine WC.condT rfl ?_
  refine WC.skip ?_
  refine WC.seq ?_
  refine WC.block ?_
  refine WC.seq ?_
  refine WC.run ?_
  refine WS.op rfl rfl (WS.op rfl (op_ld (M40.at 2 rfl) rfl rfl) (WS.op rfl rfl (WS.nil [(0, _), (2, _), (4, _), (5, _), (7, _), (25, _), (26, _), (27, _)] rfl ?_)))
  refine WC.run ?_
  refine WS.op rfl rfl (WS.op rfl rfl ?_)
  refine WS.call rfl rfl rfl (rd_number_ran (s := s36) (b := b37) (M40.focus 1 rfl) (by omega)) ?_
  rintro _ h41 ⟨c43, s44, b45, rfl, M42, q46⟩
  have q46l := Rd.num_le q46
  replace M42 : Mem _ _ ([(p4, _)] :: [(p25, _)] :: [(p30, _)] :: [(p1, _)] :: []) _ := M42
  refine WS.op rfl rfl ?_
  refine WS.st1 (M42.focus 1 rfl) [_] [_, _, _, _, _, _, _, _, _, _, _, _, _] rfl rfl rfl rfl rfl (Nat.le_of_ble_eq_true rfl) (Nat.le_of_ble_eq_true rfl) rfl rfl ?_
  intro h47 M48
  replace M48 : Mem _ _ ([(p25, _)] :: [(p4, _)] :: [(p30, _)] :: [(p1, _)] :: []) _ := M48
  refine WS.nil [(0, _), (2, _), (4, _), (5, _), (25, _), (26, _), (27, _)] rfl ?_
  refine WC.run ?_
  refine WS.opV (.int .i64 2) rfl rfl rfl (WS.op rfl rfl (WS.nil [(0, _), (2, _), (4, _), (5, _), (25, _), (26, _), (27, _)] rfl ?_))
  refine WC.unroll [(0, _), (2, _), (4, _), (5, _), (25, _), (26, _), (27, _)] rfl ?_
  refine WC.seq ?_
  refine WC.run ?_
  refine WS.opV (.bool true) rfl rfl rfl (WS.nil [(0, _), (2, _), (4, _), (5, _), (25, _), (26, _), (27, _), (28, _)] rfl ?_)
  refine WC.seq ?_
  refine WC.condT rfl ?_
  refine WC.skip ?_
  refine WC.seq ?_
  refine WC.block ?_
  refine WC.seq ?_
  refine WC.run ?_
  refine WS.op rfl rfl (WS.op rfl (op_ld (M48.at 2 rfl) rfl rfl) (WS.op rfl rfl (WS.nil [(0, _), (2, _), (4, _), (5, _), (7, _), (25, _), (26, _), (27, _)] rfl ?_)))
  refine WC.run ?_
  refine WS.op rfl rfl (WS.op rfl rfl ?_)
  refine WS.call rfl rfl rfl (rd_number_ran (s := s44) (b := b45) (M48.focus 1 rfl) (by omega)) ?_
  rintro _ h49 ⟨c51, s52, b53, rfl, M50, q54⟩
  have q54l := Rd.num_le q54
  replace M50 : Mem _ _ ([(p4, _)] :: [(p25, _)] :: [(p30, _)] :: [(p1, _)] :: []) _ := M50
  refine WS.op rfl rfl ?_
  refine WS.st1 (M50.focus 1 rfl) [_] [_, _, _, _, _, _, _, _, _, _, _, _, _] rfl rfl rfl rfl rfl (Nat.le_of_ble_eq_true rfl) (Nat.le_of_ble_eq_true rfl) rfl rfl ?_
  intro h55 M56
  replace M56 : Mem _ _ ([(p25, _)] :: [(p4, _)] :: [(p30, _)] :: [(p1, _)] :: []) _ := M56
  refine WS.nil [(0, _), (2, _), (4, _), (5, _), (25, _), (26, _), (27, _)] rfl ?_
  refine WC.run ?_
  refine WS.opV (.int .i64 3) rfl rfl rfl (WS.op rfl rfl (WS.nil [(0, _), (2, _), (4, _), (5, _), (25, _), (26, _), (27, _)] rfl ?_))
  refine WC.unroll [(0, _), (2, _), (4, _), (5, _), (25, _), (26, _), (27, _)] rfl ?_
  refine WC.seq ?_
  refine WC.run ?_
  refine WS.opV (.bool true) rfl rfl rfl (WS.nil [(0, _), (2, _), (4, _), (5, _), (25, _), (26, _), (27, _), (28, _)] rfl ?_)
  refine WC.seq ?_
  refine WC.condT rfl ?_
  refine WC.skip ?_
  refine WC.seq ?_
  refine WC.block ?_
  refine WC.seq ?_
  refine WC.run ?_
  refine WS.op rfl rfl (WS.op rfl (op_ld (M56.at 2 rfl) rfl rfl) (WS.op rfl rfl (WS.nil [(0, _), (2, _), (4, _), (5, _), (7, _), (25, _), (26, _), (27, _)] rfl ?_)))
  refine WC.run ?_
  refine WS.op rfl rfl (WS.op rfl rfl ?_)
  refine WS.call rfl rfl rfl (rd_number_ran (s := s52) (b := b53) (M56.focus 1 rfl) (by omega)) ?_
  rintro _ h57 ⟨c59, s60, b61, rfl, M58, q62⟩
  have q62l := Rd.num_le q62
  replace M58 : Mem _ _ ([(p4, _)] :: [(p25, _)] :: [(p30, _)] :: [(p1, _)] :: []) _ := M58
  refine WS.op rfl rfl ?_
  refine WS.st1 (M58.focus 1 rfl) [_] [_, _, _, _, _, _, _, _, _, _, _, _, _] rfl rfl rfl rfl rfl (Nat.le_of_ble_eq_true rfl) (Nat.le_of_ble_eq_true rfl) rfl rfl ?_
  intro h63 M64
  replace M64 : Mem _ _ ([(p25, _)] :: [(p4, _)] :: [(p30, _)] :: [(p1, _)] :: []) _ := M64
  refine WS.nil [(0, _), (2, _), (4, _), (5, _), (25, _), (26, _), (27, _)] rfl ?_
  refine WC.run ?_
  refine WS.opV (.int .i64 4) rfl rfl rfl (WS.op rfl rfl (WS.nil [(0, _), (2, _), (4, _), (5, _), (25, _), (26, _), (27, _)] rfl ?_))
  refine WC.unroll [(0, _), (2, _), (4, _), (5, _), (25, _), (26, _), (27, _)] rfl ?_
  refine WC.seq ?_
  refine WC.run ?_
  refine WS.opV (.bool true) rfl rfl rfl (WS.nil [(0, _), (2, _), (4, _), (5, _), (25, _), (26, _), (27, _), (28, _)] rfl ?_)
  refine WC.seq ?_
  refine WC.condT rfl ?_
  refine WC.skip ?_
  refine WC.seq ?_
  refine WC.block ?_
  refine WC.seq ?_
  refine WC.run ?_
  refine WS.op rfl rfl (WS.op rfl (op_ld (M64.at 2 rfl) rfl rfl) (WS.op rfl rfl (WS.nil [(0, _), (2, _), (4, _), (5, _), (7, _), (25, _), (26, _), (27, _)] rfl ?_)))
  refine WC.run ?_
  refine WS.op rfl rfl (WS.op rfl rfl ?_)
  refine WS.call rfl rfl rfl (rd_number_ran (s := s60) (b := b61) (M64.focus 1 rfl) (by omega)) ?_
  rintro _ h65 ⟨c67, s68, b69, rfl, M66, q70⟩
  have q70l := Rd.num_le q70
  replace M66 : Mem _ _ ([(p4, _)] :: [(p25, _)] :: [(p30, _)] :: [(p1, _)] :: []) _ := M66
  refine WS.op rfl rfl ?_
  refine WS.st1 (M66.focus 1 rfl) [_] [_, _, _, _, _, _, _, _, _, _, _, _, _] rfl rfl rfl rfl rfl (Nat.le_of_ble_eq_true rfl) (Nat.le_of_ble_eq_true rfl) rfl rfl ?_
  intro h71 M72
  replace M72 : Mem _ _ ([(p25, _)] :: [(p4, _)] :: [(p30, _)] :: [(p1, _)] :: []) _ := M72
  refine WS.nil [(0, _), (2, _), (4, _), (5, _), (25, _), (26, _), (27, _)] rfl ?_
  refine WC.run ?_
  refine WS.opV (.int .i64 5) rfl rfl rfl (WS.op rfl rfl (WS.nil [(0, _), (2, _), (4, _), (5, _), (25, _), (26, _), (27, _)] rfl ?_))
  refine WC.unroll [(0, _), (2, _), (4, _), (5, _), (25, _), (26, _), (27, _)] rfl ?_
  refine WC.seq ?_
  refine WC.run ?_
  refine WS.opV (.bool false) rfl rfl rfl (WS.nil [(0, _), (2, _), (4, _), (5, _), (25, _), (26, _), (27, _), (28, _)] rfl ?_)
  refine WC.seq ?_
  refine WC.condF rfl ?_
  refine WC.exit ?_
  refine WC.seq ?_
  refine WC.run ?_
  refine WS.op rfl rfl ?_
  refine WS.call rfl rfl rfl (rd_byte_ran (s := s68) (b := b69) (M72.focus 1 rfl) (by omega)) ?_
  rintro _ h73 ⟨c75, s76, b77, rfl, M74, q78⟩
  have q78l := Rd.byte_le q78
  replace M74 : Mem _ _ ([(p4, _)] :: [(p25, _)] :: [(p30, _)] :: [(p1, _)] :: []) _ := M74
  refine WS.opV (.bool (decide ((c75).toNat = 1))) rfl rfl (beq_nat ((c75).toNat) 1) (WS.op rfl rfl ?_)
  refine WS.call rfl rfl rfl (rd_byte_ran (s := s76) (b := b77) (M74.focus 0 rfl) (by omega)) ?_
  rintro _ h79 ⟨c81, s82, b83, rfl, M80, q84⟩
  have q84l := Rd.byte_le q84
  replace M80 : Mem _ _ ([(p4, _)] :: [(p25, _)] :: [(p30, _)] :: [(p1, _)] :: []) _ := M80
  refine WS.op rfl rfl ?_
  refine WS.call rfl rfl rfl (rd_byte_ran (s := s82) (b := b83) (M80.focus 0 rfl) (by omega)) ?_
  rintro _ h85 ⟨c87, s88, b89, rfl, M86, q90⟩
  have q90l := Rd.byte_le q90
  replace M86 : Mem _ _ ([(p4, _)] :: [(p25, _)] :: [(p30, _)] :: [(p1, _)] :: []) _ := M86
  refine WS.op rfl rfl ?_
  refine WS.st1 (M86.focus 1 rfl) [_] [_, _, _, _, _, _, _, _, _, _, _, _, _] rfl rfl rfl rfl rfl (Nat.le_of_ble_eq_true rfl) (Nat.le_of_ble_eq_true rfl) rfl rfl ?_
  intro h91 M92
  replace M92 : Mem _ _ ([(p25, _)] :: [(p4, _)] :: [(p30, _)] :: [(p1, _)] :: []) _ := M92
  refine WS.op rfl rfl ?_
  refine WS.st1 (M92.focus 0 rfl) [_] [_, _, _, _, _, _, _, _, _, _, _, _, _] rfl rfl rfl rfl rfl (Nat.le_of_ble_eq_true rfl) (Nat.le_of_ble_eq_true rfl) rfl rfl ?_
  intro h93 M94
  replace M94 : Mem _ _ ([(p25, _)] :: [(p4, _)] :: [(p30, _)] :: [(p1, _)] :: []) _ := M94
  refine WS.op rfl rfl ?_
  refine WS.st1 (M94.focus 0 rfl) [_] [_, _, _, _, _, _, _, _, _, _, _, _, _] rfl rfl rfl rfl rfl (Nat.le_of_ble_eq_true rfl) (Nat.le_of_ble_eq_true rfl) rfl rfl ?_
  intro h95 M96
  replace M96 : Mem _ _ ([(p25, _)] :: [(p4, _)] :: [(p30, _)] :: [(p1, _)] :: []) _ := M96
  refine WS.nil [(0, _), (2, _), (4, _), (5, _)] rfl ?_
  refine WC.seq ?_
  refine WC.seq ?_
  refine WC.run ?_
  refine WS.op rfl rfl ?_
  refine WS.call rfl rfl rfl (rd_byte_ran (s := s88) (b := b89) (M96.focus 1 rfl) (by omega)) ?_
  rintro _ h97 ⟨c99, s100, b101, rfl, M98, q102⟩
  have q102l := Rd.byte_le q102
  replace M98 : Mem _ _ ([(p4, _)] :: [(p25, _)] :: [(p30, _)] :: [(p1, _)] :: []) _ := M98
  refine WS.op rfl rfl (WS.nil [(0, _), (2, _), (4, _), (5, _), (47, _), (48, _)] rfl ?_)
  refine WC.block ?_
  have hH := fun m0 (hr : RightM m0) (he : encM m0 = l) => head_q he q12 q18 q24 q38 q46 q54 q62 q70 q78 q84 q90 q102
  have hE := head_empty q12 q18 q24 q38 q46 q54 q62 q70 q78 q84 q90 q102
  obtain ⟨L103, eL105, M104⟩ := Mem.name3 ((((M98.bare.focus 1 rfl).focus 1 rfl)).nils)
  refine WC.loop (σ := List UInt8 × Bool × Value × Seg × List Ent × Nat) (fun ((rs, rb, V, S, es, i)) => [(0, (.string (bs l))), (2, (.pointer (some ⟨p1, 0, none⟩))), (4, (.pointer (some ⟨p4, 0, none⟩))), (5, (.pointer (some ⟨p25, 0, none⟩))), (47, (.int .u8 (((c99).toNat : Nat) : Int))), (48, (.int .u8 ((i : Nat) : Int)))]) (fun ((rs, rb, V, S, es, i)) hh => Mem h hh (S :: [(p4, ⟨[(.string (bs rs)), (.bool rb)], 0, false⟩)] :: [(p25, ⟨[(.int .u8 (((c9).toNat : Nat) : Int)), (.int .u8 (((c15).toNat : Nat) : Int)), (.int .u8 (((c21).toNat : Nat) : Int)), (.int .u64 (((c35).toNat : Nat) : Int)), (.int .u64 (((c43).toNat : Nat) : Int)), (.int .u64 (((c51).toNat : Nat) : Int)), (.int .u64 (((c59).toNat : Nat) : Int)), (.int .u64 (((c67).toNat : Nat) : Int)), (.bool (decide ((c75).toNat = 1))), (.int .u8 (((c81).toNat : Nat) : Int)), (.int .u8 (((c87).toNat : Nat) : Int)), V, (.string (bs ([])))], 0, false⟩)] :: L103) [] ∧ KEnt.Own V es S ∧ Pro l es i rs rb ∧ i ≤ (c99).toNat ∧ rs.length ≤ l.length ∧ (∀ x ∈ es, x.body.length ≤ 268435456) ∧ (l = [] → rb = true) ∧ es.length = i) (fun ((rs, rb, V, S, es, i)) => (c99).toNat - i) (s100, b101, .slice none 0 0, [], [], 0) rfl ⟨(by exact M104), ?_⟩ ?_
  · exact ⟨.nil, fun m0 hr he => ⟨(hH m0 hr he).2.2.2.2.2.2.2.2.2.2.2.2.2, rfl, (hH m0 hr he).2.2.2.2.2.2.2.2.2.2.2.2.1⟩, by omega, by omega, by intro x hx; simp at hx, hE, rfl⟩
  · rintro ⟨rs, rb, V, S, es, i⟩ h106 ⟨M107, ⟨hO, hP, hi1, hrl, hsm, hem, hel⟩⟩
    subst eL105
    refine WC.env [(0, _), (2, _), (4, _), (5, _), (47, _), (48, _)] rfl ?_
    obtain ⟨PV, rfl⟩ := hO.shape
    have hcb := UInt8.toNat_lt c99
    refine WC.seq ?_
    refine WC.run ?_
    refine WS.lssN (a := i) (b := (c99).toNat) rfl rfl rfl (fun e49 => ?_) (fun e49 => ?_)
    · skip
      refine WS.nil [(0, _), (2, _), (4, _), (5, _), (47, _), (48, _), (49, _)] rfl ?_
      refine WC.seq ?_
      refine WC.condT rfl ?_
      refine WC.skip ?_
      refine WC.seq ?_
      refine WC.block ?_
      refine WC.seq ?_
      refine WC.run ?_
      refine WS.op rfl rfl ?_
      refine WS.call rfl rfl rfl (rd_text_ran (s := rs) (b := rb) (M107.focus 1 rfl) (by omega)) ?_
      rintro _ h108 ⟨c110, s111, b112, rfl, M109, q113⟩
      have q113l := Rd.text_le q113
      replace M109 : Mem _ _ ([(p4, _)] :: S :: [(p25, _)] :: [(p30, _)] :: [(p1, _)] :: []) _ := M109
      have hc_ := fun m0 (hr : RightM m0) (he : encM m0 = l) => by have := cnt_eq hr (hH m0 hr he).2.2.2.2.2.2.2.2.2.2.2.1; exact (show i < m0.es.length by omega)
      obtain ⟨hno, hpr⟩ := pro_step (by omega) hP hc_ q113
      refine WS.call rfl rfl rfl (ent_Read_ran M109.here (l := c110) (by omega)) ?_
      rintro _ h114 ⟨rfl, N115⟩
      have M116 := M109.trans N115
      refine WS.op rfl rfl (WS.op rfl rfl (WS.op rfl rfl ?_))
      refine WS.new M116 rfl ?_
      intro p117 h118 M119
      refine WS.st1 (M119.focus 0 rfl) [_, _, _, _, _, _, _, _, _, _, _, _, _] [_, _, _, _, _, _, _, _, _, _, _, _, _] rfl rfl rfl rfl rfl (Nat.le_of_ble_eq_true rfl) (Nat.le_of_ble_eq_true rfl) rfl rfl ?_
      intro h120 M121
      replace M121 : Mem _ _ ([(p117, _)] :: [(p4, _)] :: S :: [(p25, _)] :: [(p30, _)] :: [(p1, _)] :: []) _ := M121
      refine WS.op rfl rfl (WS.nil [(0, _), (2, _), (4, _), (5, _), (8, _), (9, _), (47, _), (48, _)] rfl ?_)
      refine WC.seq ?_
      refine WC.seq ?_
      refine WC.run ?_
      refine WS.op rfl rfl ?_
      cases hb1 : (rdB c110)
      · skip
        refine WS.opV (.bool true) rfl rfl rfl (WS.nil [(0, _), (2, _), (4, _), (5, _), (8, _), (47, _), (48, _), (57, _)] rfl ?_)
        refine WC.condT rfl ?_
        refine WC.seq ?_
        refine WC.run ?_
        refine WS.opV (.agg #[(.int .u8 (0 : Int)), (.int .u8 (0 : Int)), (.int .u8 (0 : Int)), (.int .u64 (0 : Int)), (.int .u64 (0 : Int)), (.int .u64 (0 : Int)), (.int .u64 (0 : Int)), (.int .u64 (0 : Int)), (.bool false), (.int .u8 (0 : Int)), (.int .u8 (0 : Int)), (.slice none 0 0), (.string (bs ([])))]) rfl rfl rfl ?_
        refine WS.st1 (M121.focus 5 rfl) [_, _, _, _, _, _, _, _, _, _, _, _, _] [_, _, _, _, _, _, _, _, _, _, _, _, _] rfl rfl rfl rfl rfl (Nat.le_of_ble_eq_true rfl) (Nat.le_of_ble_eq_true rfl) rfl rfl ?_
        intro h122 M123
        replace M123 : Mem _ _ ([(p1, _)] :: [(p117, _)] :: [(p4, _)] :: S :: [(p25, _)] :: [(p30, _)] :: []) _ := M123
        refine WS.op rfl rfl (WS.nil [(2, _), (3, _)] rfl ?_)
        refine WC.ret ?_
        refine ⟨[_, _], (res_cellN [_, _, _, _, _, _, _, _, _, _, _, _, _] rfl (M123.at 0 rfl) (Nat.le_of_ble_eq_true rfl) rfl (res_tmp rfl res_nil)), ?_⟩
        exact ⟨zeroM, .slice none 0 0, [], false, rfl, .nil, fun q => (by cases q), fun _ => ⟨rfl, hno hb1⟩, (M123.bare.take 0).nils⟩
      · skip
        refine WS.opV (.bool false) rfl rfl rfl (WS.nil [(0, _), (2, _), (4, _), (5, _), (8, _), (47, _), (48, _), (57, _)] rfl ?_)
        refine WC.condF rfl ?_
        refine WC.skip ?_
        refine WC.run ?_
        refine WS.op rfl rfl (WS.op rfl (op_ld (M121.at 3 rfl) rfl rfl) (WS.op rfl (op_lds [_, _, _, _, _, _, _, _, _, _, _, _, _] (M121.at 0 rfl) rfl (Nat.le_of_ble_eq_true rfl) rfl) ?_))
        refine WS.bsl M121 [_, _, _, _, _, _, _, _, _, _, _, _, _] rfl rfl rfl rfl ?_
        intro p124 h125 M126
        refine WS.app (l := es) (m := [rdE c110]) (hO) (M126.focus 3 rfl) (Row.Src.one (K := KEnt) (m := [rdE c110]) (M126.at 0 rfl)) rfl (by simp only [List.length_cons, List.length_nil]; omega) (by simp only [List.length_cons, List.length_nil]; omega) rfl rfl rfl ?_
        intro V127 S128 h129 O130 M131
        obtain ⟨P132, rfl⟩ := Row.Own.shape O130
        refine WS.op rfl rfl ?_
        refine WS.st1 (M131.focus 4 rfl) [_] [_, _, _, _, _, _, _, _, _, _, _, _, _] rfl rfl rfl rfl rfl (Nat.le_of_ble_eq_true rfl) (Nat.le_of_ble_eq_true rfl) rfl rfl ?_
        intro h133 M134
        replace M134 : Mem _ _ ([(p25, _)] :: S128 :: [(p124, _)] :: [(p117, _)] :: [(p4, _)] :: [(p30, _)] :: [(p1, _)] :: []) _ := M134
        refine WS.nil [(0, _), (2, _), (4, _), (5, _), (47, _), (48, _)] rfl ?_
        refine WC.run ?_
        refine WS.opV (.int .u8 (((i + 1) : Nat) : Int)) rfl rfl (add_u8 (a := i) (b := 1) (by omega)) (WS.op rfl rfl (WS.nil [(0, _), (2, _), (4, _), (5, _), (47, _), (48, _)] rfl ?_))
        refine ⟨(s111, b112, (.slice P132 ((es ++ [rdE c110])).length (2 * ((es ++ [rdE c110])).length)), S128, es ++ [rdE c110], i + 1), rfl, ⟨((((((M134.bare.focus 6 rfl).focus 6 rfl).focus 2 rfl).focus 6 rfl).focus 4 rfl).take 5), ?_⟩, ?_⟩
        · exact ⟨by assumption, hpr, by omega, by omega, small_app hsm (rdE_small (by omega)), fun q => text_bad (by assumption) (hem q), by simp; omega⟩
        · simp only []; omega
    · skip
      refine WS.nil [(0, _), (2, _), (4, _), (5, _), (47, _), (48, _), (49, _)] rfl ?_
      refine WC.seq ?_
      refine WC.condF rfl ?_
      refine WC.exit ?_
      refine WC.seq ?_
      refine WC.run ?_
      refine WS.op rfl rfl ?_
      refine WS.call rfl rfl rfl (rd_text_ran (s := rs) (b := rb) (M107.focus 1 rfl) (by omega)) ?_
      rintro _ h135 ⟨c137, s138, b139, rfl, M136, q140⟩
      have q140l := Rd.text_le q140
      replace M136 : Mem _ _ ([(p4, _)] :: S :: [(p25, _)] :: [(p30, _)] :: [(p1, _)] :: []) _ := M136
      refine WS.op rfl rfl ?_
      refine WS.st1 (M136.focus 2 rfl) [_] [_, _, _, _, _, _, _, _, _, _, _, _, _] rfl rfl rfl rfl rfl (Nat.le_of_ble_eq_true rfl) (Nat.le_of_ble_eq_true rfl) rfl rfl ?_
      intro h141 M142
      replace M142 : Mem _ _ ([(p25, _)] :: [(p4, _)] :: S :: [(p30, _)] :: [(p1, _)] :: []) _ := M142
      refine WS.nil [(0, _), (2, _), (4, _), (5, _)] rfl ?_
      refine WC.seq ?_
      refine WC.seq ?_
      refine WC.run ?_
      refine WS.op rfl rfl (WS.op rfl rfl (WS.op rfl rfl (WS.op rfl (op_ld (M142.at 1 rfl) rfl rfl) (WS.op rfl rfl ?_))))
      cases hb2 : b139
      · skip
        refine WS.op rfl (op_lds [_, _, _, _, _, _, _, _, _, _, _, _, _] (M142.at 0 rfl) rfl (Nat.le_of_ble_eq_true rfl) rfl) ?_
        refine WS.call rfl rfl rfl (msg_Write_ran M142.here (m := (⟨c9, c15, c21, c35, c43, c51, c59, c67, (decide ((c75).toNat = 1)), c81, c87, es, c137⟩ : Msg)) (Row.Own.sl hO (Mem.owni M142 2 rfl)) (by exact ⟨hsm, by dsimp only; omega, by dsimp only; omega⟩)) ?_
        rintro _ h143 ⟨rfl, N144⟩
        have M145 := M142.trans N144
        refine WS.op rfl rfl ?_
        refine WS.sneq (l := (writeM (⟨c9, c15, c21, c35, c43, c51, c59, c67, (decide ((c75).toNat = 1)), c81, c87, es, c137⟩ : Msg))) (m := l) rfl rfl rfl (fun e77 => ?_) (fun e77 => ?_)
        · skip
          refine WS.op rfl rfl (WS.nil [(2, _), (5, _), (78, _)] rfl ?_)
          refine WC.condT rfl ?_
          refine WC.seq ?_
          refine WC.run ?_
          refine WS.opV (.agg #[(.int .u8 (0 : Int)), (.int .u8 (0 : Int)), (.int .u8 (0 : Int)), (.int .u64 (0 : Int)), (.int .u64 (0 : Int)), (.int .u64 (0 : Int)), (.int .u64 (0 : Int)), (.int .u64 (0 : Int)), (.bool false), (.int .u8 (0 : Int)), (.int .u8 (0 : Int)), (.slice none 0 0), (.string (bs ([])))]) rfl rfl rfl ?_
          refine WS.st1 (M145.focus 4 rfl) [_, _, _, _, _, _, _, _, _, _, _, _, _] [_, _, _, _, _, _, _, _, _, _, _, _, _] rfl rfl rfl rfl rfl (Nat.le_of_ble_eq_true rfl) (Nat.le_of_ble_eq_true rfl) rfl rfl ?_
          intro h146 M147
          replace M147 : Mem _ _ ([(p1, _)] :: [(p25, _)] :: [(p4, _)] :: S :: [(p30, _)] :: []) _ := M147
          refine WS.op rfl rfl (WS.nil [(2, _), (3, _)] rfl ?_)
          refine WC.ret ?_
          refine ⟨[_, _], (res_cellN [_, _, _, _, _, _, _, _, _, _, _, _, _] rfl (M147.at 0 rfl) (Nat.le_of_ble_eq_true rfl) rfl (res_tmp rfl res_nil)), ?_⟩
          exact ⟨zeroM, .slice none 0 0, [], false, rfl, .nil, fun q => (by cases q), fun _ => ⟨rfl, m_no (l := l) (es := es) (by omega) hP (fun m0 hr he => by have := cnt_eq hr (hH m0 hr he).2.2.2.2.2.2.2.2.2.2.2.1; omega) q140 (fun m0 hr he es0 t0 => cand_m (l := l) (hH m0 hr he) es0 t0) (by first | exact .inl (by assumption) | exact .inr (by assumption))⟩, (M147.bare.take 0).nils⟩
        · skip
          refine WS.op rfl rfl (WS.nil [(2, _), (5, _), (78, _)] rfl ?_)
          refine WC.condF rfl ?_
          refine WC.skip ?_
          refine WC.seq ?_
          refine WC.run ?_
          refine WS.op rfl (op_lds [_, _, _, _, _, _, _, _, _, _, _, _, _] (M145.at 0 rfl) rfl (Nat.le_of_ble_eq_true rfl) rfl) ?_
          refine WS.st1 (M145.focus 4 rfl) [_, _, _, _, _, _, _, _, _, _, _, _, _] [_, _, _, _, _, _, _, _, _, _, _, _, _] rfl rfl rfl rfl rfl (Nat.le_of_ble_eq_true rfl) (Nat.le_of_ble_eq_true rfl) rfl rfl ?_
          intro h148 M149
          replace M149 : Mem _ _ ([(p1, _)] :: [(p25, _)] :: [(p4, _)] :: S :: [(p30, _)] :: []) _ := M149
          refine WS.op rfl rfl (WS.nil [(2, _), (3, _)] rfl ?_)
          refine WC.ret ?_
          refine ⟨[_, _], (res_cellN [_, _, _, _, _, _, _, _, _, _, _, _, _] rfl (M149.at 0 rfl) (Nat.le_of_ble_eq_true rfl) rfl (res_tmp rfl res_nil)), ?_⟩
          exact ⟨(⟨c9, c15, c21, c35, c43, c51, c59, c67, (decide ((c75).toNat = 1)), c81, c87, es, c137⟩ : Msg), (.slice PV es.length (2 * es.length)), S, true, rfl, hO, fun _ => m_yes (by assumption) (fun q => by have h5 := text_bad q140 (hem q); rw [hb2] at h5; cases h5), fun q => (by cases q), ((M149.bare.focus 3 rfl).take 1)⟩
      · skip
        refine WS.off rfl (WS.offC rfl (WS.off rfl (WS.off rfl (WS.op rfl rfl (WS.nil [(2, _), (5, _), (78, _)] rfl ?_)))))
        refine WC.condT rfl ?_
        refine WC.seq ?_
        refine WC.run ?_
        refine WS.opV (.agg #[(.int .u8 (0 : Int)), (.int .u8 (0 : Int)), (.int .u8 (0 : Int)), (.int .u64 (0 : Int)), (.int .u64 (0 : Int)), (.int .u64 (0 : Int)), (.int .u64 (0 : Int)), (.int .u64 (0 : Int)), (.bool false), (.int .u8 (0 : Int)), (.int .u8 (0 : Int)), (.slice none 0 0), (.string (bs ([])))]) rfl rfl rfl ?_
        refine WS.st1 (M142.focus 4 rfl) [_, _, _, _, _, _, _, _, _, _, _, _, _] [_, _, _, _, _, _, _, _, _, _, _, _, _] rfl rfl rfl rfl rfl (Nat.le_of_ble_eq_true rfl) (Nat.le_of_ble_eq_true rfl) rfl rfl ?_
        intro h150 M151
        replace M151 : Mem _ _ ([(p1, _)] :: [(p25, _)] :: [(p4, _)] :: S :: [(p30, _)] :: []) _ := M151
        refine WS.op rfl rfl (WS.nil [(2, _), (3, _)] rfl ?_)
        refine WC.ret ?_
        refine ⟨[_, _], (res_cellN [_, _, _, _, _, _, _, _, _, _, _, _, _] rfl (M151.at 0 rfl) (Nat.le_of_ble_eq_true rfl) rfl (res_tmp rfl res_nil)), ?_⟩
        exact ⟨zeroM, .slice none 0 0, [], false, rfl, .nil, fun q => (by cases q), fun _ => ⟨rfl, m_no (l := l) (es := es) (by omega) hP (fun m0 hr he => by have := cnt_eq hr (hH m0 hr he).2.2.2.2.2.2.2.2.2.2.2.1; omega) q140 (fun m0 hr he es0 t0 => cand_m (l := l) (hH m0 hr he) es0 t0) (by first | exact .inl (by assumption) | exact .inr (by assumption))⟩, (M151.bare.take 0).nils⟩
/-! ### Holding messages against one another -/
def EqTo {α : Type} (l m : List α) (i : Nat) : Prop := l.take i = m.take i
theorem EqTo_step {α : Type} {l m : List α} {i : Nat} {x y : α} (h : EqTo l m i) (hx : l[i]? = some x) (hy : m[i]? = some y) (e : x = y) : EqTo l m (i + 1) := by
  unfold EqTo; rw [List.take_add_one, List.take_add_one, hx, hy, e, h]
theorem EqTo_all {α : Type} {l m : List α} {i : Nat} (h : EqTo l m i) (hl : l.length ≤ i) (hm : m.length ≤ i) : l = m := by
  unfold EqTo at h; rwa [List.take_of_length_le hl, List.take_of_length_le hm] at h
theorem EqTo_not {α : Type} {l m : List α} {i : Nat} {x y : α} (hx : l[i]? = some x) (hy : m[i]? = some y) (e : x ≠ y) : l ≠ m := fun h => by
  subst h; rw [hx] at hy; cases hy; exact e rfl
theorem len_not {α : Type} {l m : List α} (h : l.length ≠ m.length) : l ≠ m := fun e => h (by rw [e])
omit base L R in
theorem equal_ran (W : Mem h h [] []) {V0 V1 : Value} {l m : List Ent} (A : KEnt.Sl h V0 l) (A1 : KEnt.Sl h V1 m) (hl : l.length < 9223372036854775808) : Cll tab0 32 [V0, V1] h (fun v h2 => v = .bool (decide (l = m)) ∧ Mem h h2 [] []) := by
  refine Cll.code rfl rfl ?_
  refine WC.env [(0, _), (1, _)] rfl ?_
  refine WC.seq ?_
  refine WC.run ?_
  refine WS.op rfl rfl (WS.nil [(0, _), (1, _)] rfl ?_)
  refine WC.seq ?_
  refine WC.seq ?_
  refine WC.run ?_
  refine WS.op rfl rfl (WS.op rfl (op_lenVS A rfl) (WS.op rfl rfl (WS.op rfl (op_lenVS A1 rfl) ?_)))
  refine WS.neqN (a := (l).length) (b := (m).length) rfl rfl rfl (fun e10 => ?_) (fun e10 => ?_)
  · skip
    refine WS.nil [(0, _), (1, _), (10, _)] rfl ?_
    refine WC.condT rfl ?_
    refine WC.seq ?_
    refine WC.run ?_
    refine WS.op rfl rfl (WS.nil [(4, _)] rfl ?_)
    refine WC.ret ?_
    refine ⟨[_], (res_tmp rfl res_nil), ?_⟩
    exact ⟨vbf (len_not e10), W.bare.take 0⟩
  · skip
    refine WS.nil [(0, _), (1, _), (10, _)] rfl ?_
    refine WC.condF rfl ?_
    refine WC.skip ?_
    refine WC.seq ?_
    refine WC.seq ?_
    refine WC.run ?_
    refine WS.op rfl rfl (WS.op rfl (op_lenVS A rfl) (WS.op rfl rfl (WS.nil [(0, _), (1, _), (12, _), (13, _)] rfl ?_)))
    refine WC.block ?_
    obtain ⟨L1, eL3, M2⟩ := Mem.name W.bare
    refine WC.loop (σ := Nat) (fun (i) => [(0, V0), (1, V1), (12, (.int .i64 (((l).length : Nat) : Int))), (13, (.int .i64 ((i : Nat) : Int)))]) (fun (i) hh => Mem h hh (L1) [] ∧ EqTo l m i ∧ i ≤ l.length) (fun (i) => l.length - i) (0) rfl ⟨M2, ?_⟩ ?_
    · exact ⟨rfl, by omega⟩
    · rintro i h4 ⟨M5, ⟨hO, hi1⟩⟩
      subst eL3
      refine WC.env [(0, _), (1, _), (12, _), (13, _)] rfl ?_
      refine WC.seq ?_
      refine WC.run ?_
      refine WS.lssN (a := i) (b := (l).length) rfl rfl rfl (fun e14 => ?_) (fun e14 => ?_)
      · skip
        refine WS.nil [(0, _), (1, _), (12, _), (13, _), (14, _)] rfl ?_
        refine WC.seq ?_
        refine WC.condT rfl ?_
        refine WC.skip ?_
        refine WC.seq ?_
        refine WC.block ?_
        refine WC.seq ?_
        refine WC.run ?_
        refine WS.op rfl rfl (WS.op rfl rfl (WS.nil [(0, _), (1, _), (5, _), (12, _), (13, _)] rfl ?_))
        refine WC.seq ?_
        refine WC.draw M5 [] rfl ?_
        intro rb6 h7 M8
        refine WS.op rfl rfl (WS.op rfl rfl ?_)
        obtain ⟨y18, hy18⟩ : ∃ y, (l)[i]? = some y := ⟨_, List.getElem?_eq_getElem (show i < (l).length by first | omega | (simp only [List.length_drop, List.length_take, List.length_append, List.length_cons, List.length_nil, List.length_singleton]; omega) | (simp only [List.length_drop, List.length_take, List.length_append, List.length_cons, List.length_nil, List.length_singleton] at *; omega))⟩
        refine WS.iaVS A i hy18 rfl rfl rfl rfl ?_
        intro b18_ o18_ ha18
        refine WS.op rfl (op_ldAt rfl (ha18.mono M8.sub) rfl) (WS.op rfl rfl (WS.op rfl rfl ?_))
        obtain ⟨y22, hy22⟩ : ∃ y, (m)[i]? = some y := ⟨_, List.getElem?_eq_getElem (show i < (m).length by first | omega | (simp only [List.length_drop, List.length_take, List.length_append, List.length_cons, List.length_nil, List.length_singleton]; omega) | (simp only [List.length_drop, List.length_take, List.length_append, List.length_cons, List.length_nil, List.length_singleton] at *; omega))⟩
        refine WS.iaVS A1 i hy22 rfl rfl rfl rfl ?_
        intro b22_ o22_ ha22
        refine WS.op rfl (op_ldAt rfl (ha22.mono M8.sub) rfl) ?_
        refine WS.eqqDn (p := y18 = y22) rfl rfl rfl (Ent_eqV _ _) (fun e24 => ?_) (fun e24 => ?_)
        · skip
          refine WS.nil [(0, _), (1, _), (12, _), (13, _), (24, _)] rfl ?_
          refine WC.condT rfl ?_
          refine WC.seq ?_
          refine WC.run ?_
          refine WS.op rfl rfl (WS.nil [(4, _)] rfl ?_)
          refine WC.ret ?_
          refine ⟨[_], (res_tmp rfl res_nil), ?_⟩
          exact ⟨vbf (EqTo_not hy18 hy22 e24), M8.bare.bare.take 0⟩
        · skip
          refine WS.nil [(0, _), (1, _), (12, _), (13, _), (24, _)] rfl ?_
          refine WC.condF rfl ?_
          refine WC.skip ?_
          refine WC.run ?_
          refine WS.opV (.int .i64 (((i + 1) : Nat) : Int)) rfl rfl (add_i64 (a := i) (b := 1) (by omega)) (WS.op rfl rfl (WS.nil [(0, _), (1, _), (12, _), (13, _)] rfl ?_))
          refine ⟨i + 1, rfl, ⟨(M8.bare.bare.take 0), ?_⟩, ?_⟩
          · exact ⟨EqTo_step hO hy18 hy22 e24, by omega⟩
          · simp only [] at *; omega
      · skip
        refine WS.nil [(0, _), (1, _), (12, _), (13, _), (14, _)] rfl ?_
        refine WC.seq ?_
        refine WC.condF rfl ?_
        refine WC.exit ?_
        refine WC.seq ?_
        refine WC.run ?_
        refine WS.op rfl rfl (WS.nil [(4, _)] rfl ?_)
        refine WC.ret ?_
        refine ⟨[_], (res_tmp rfl res_nil), ?_⟩
        exact ⟨vbt (EqTo_all hO (by omega) (by omega)), M5.bare.take 0⟩
def sameM (m n : Msg) : Bool := decide (m = n)
theorem msg_ext {m n : Msg} (h1 : m.es = n.es) (h2 : m.body = n.body) (h3 : m.ok = n.ok) (h4 : m.kd.toNat = n.kd.toNat ∧ m.fr.toNat = n.fr.toNat ∧ m.to.toNat = n.to.toNat ∧ m.mb.toNat = n.mb.toNat ∧ m.se.toNat = n.se.toNat) (h5 : m.tm.toNat = n.tm.toNat ∧ m.ix.toNat = n.ix.toNat ∧ m.lt.toNat = n.lt.toNat ∧ m.cm.toNat = n.cm.toNat ∧ m.rd.toNat = n.rd.toNat) : m = n := by
  obtain ⟨a1, a2, a3, a4, a5⟩ := h4
  obtain ⟨b1, b2, b3, b4, b5⟩ := h5
  obtain ⟨⟩ := m; obtain ⟨⟩ := n
  simp only at *
  rw [h1, h2, h3, u8_inj a1, u8_inj a2, u8_inj a3, u8_inj a4, u8_inj a5, u64_inj b1, u64_inj b2, u64_inj b3, u64_inj b4, u64_inj b5]
omit base L R in
theorem msg_Same_ran (W : Mem h h [] []) {m n : Msg} {V0 V1 : Value} (A : KEnt.Sl h V0 m.es) (A1 : KEnt.Sl h V1 n.es) (hl : m.es.length < 9223372036854775808) : Cll tab0 12 [m.val V0, n.val V1] h (fun v h2 => v = .bool (sameM m n) ∧ Mem h h2 [] []) := by
  obtain ⟨P, c, rfl⟩ := A.shape
  obtain ⟨P1, c1, rfl⟩ := A1.shape
  refine Cll.code rfl rfl ?_
  refine WC.env [(0, _), (1, _)] rfl ?_
  refine WC.seq ?_
  refine WC.run ?_
  refine WS.box W [_, _, _, _, _, _, _, _, _, _, _, _, _] rfl rfl rfl rfl ?_
  intro p1 h2 M3
  refine WS.box M3 [_, _, _, _, _, _, _, _, _, _, _, _, _] rfl rfl rfl rfl ?_
  intro p4 h5 M6
  refine WS.op rfl rfl (WS.nil [(2, _), (3, _)] rfl ?_)
  refine WC.seq ?_
  refine WC.seq ?_
  refine WC.run ?_
  refine WS.op rfl rfl (WS.op rfl (op_ld (M6.at 1 rfl) rfl rfl) (WS.op rfl rfl (WS.op rfl (op_ld (M6.at 0 rfl) rfl rfl) ?_)))
  refine WS.call rfl rfl rfl (equal_ran M6.here (A.mono M6.sub) (A1.mono M6.sub) (by omega)) ?_
  rintro _ h7 ⟨rfl, N8⟩
  have M9 := M6.trans N8
  cases hb1 : (decide (m.es = n.es))
  · skip
    refine WS.opV (.bool true) rfl rfl rfl (WS.op rfl rfl (WS.off rfl (WS.off rfl (WS.off rfl (WS.off rfl (WS.off rfl (WS.op rfl rfl (WS.op rfl rfl (WS.off rfl ?_)))))))))
    refine WS.off rfl (WS.off rfl (WS.off rfl (WS.off rfl (WS.op rfl rfl (WS.nil [(2, _), (3, _), (25, _)] rfl ?_)))))
    refine WC.condT rfl ?_
    refine WC.seq ?_
    refine WC.run ?_
    refine WS.op rfl rfl (WS.nil [(4, _)] rfl ?_)
    refine WC.ret ?_
    refine ⟨[_], (res_tmp rfl res_nil), ?_⟩
    exact ⟨vbf fun q => (by subst q; simp_all), M9.bare.take 0⟩
  · skip
    refine WS.opV (.bool false) rfl rfl rfl (WS.op rfl rfl (WS.op rfl rfl (WS.op rfl (op_ld (M9.at 1 rfl) rfl rfl) (WS.op rfl rfl (WS.op rfl (op_ld (M9.at 0 rfl) rfl rfl) ?_)))))
    refine WS.sneq (l := m.body) (m := n.body) rfl rfl rfl (fun e17 => ?_) (fun e17 => ?_)
    · skip
      refine WS.op rfl rfl (WS.op rfl rfl (WS.off rfl (WS.off rfl (WS.off rfl (WS.off rfl (WS.off rfl (WS.op rfl rfl (WS.nil [(2, _), (3, _), (25, _)] rfl ?_))))))))
      refine WC.condT rfl ?_
      refine WC.seq ?_
      refine WC.run ?_
      refine WS.op rfl rfl (WS.nil [(4, _)] rfl ?_)
      refine WC.ret ?_
      refine ⟨[_], (res_tmp rfl res_nil), ?_⟩
      exact ⟨vbf fun q => (by subst q; simp_all), M9.bare.take 0⟩
    · skip
      refine WS.op rfl rfl (WS.op rfl rfl (WS.op rfl rfl (WS.op rfl (op_ld (M9.at 1 rfl) rfl rfl) (WS.op rfl rfl (WS.op rfl (op_ld (M9.at 0 rfl) rfl rfl) ?_)))))
      cases hb2 : m.ok
      · skip
        cases hb3 : n.ok
        · skip
          refine WS.opV (.bool false) rfl rfl rfl (WS.op rfl rfl (WS.nil [(2, _), (3, _), (25, _)] rfl ?_))
          refine WC.condF rfl ?_
          refine WC.skip ?_
          refine WC.seq ?_
          refine WC.run ?_
          refine WS.op rfl rfl (WS.op rfl (op_ld (M9.at 1 rfl) rfl rfl) (WS.op rfl rfl (WS.op rfl (op_ld (M9.at 1 rfl) rfl rfl) (WS.op rfl rfl (WS.op rfl (op_ld (M9.at 1 rfl) rfl rfl) (WS.op rfl rfl (WS.op rfl (op_ld (M9.at 1 rfl) rfl rfl) (WS.op rfl rfl (WS.op rfl (op_ld (M9.at 1 rfl) rfl rfl) ?_)))))))))
          refine WS.opV (.agg #[(.int .u8 (((m.kd).toNat : Nat) : Int)), (.int .u8 (((m.fr).toNat : Nat) : Int)), (.int .u8 (((m.to).toNat : Nat) : Int)), (.int .u8 (((m.mb).toNat : Nat) : Int)), (.int .u8 (((m.se).toNat : Nat) : Int))]) rfl rfl rfl (WS.op rfl rfl (WS.op rfl (op_ld (M9.at 0 rfl) rfl rfl) (WS.op rfl rfl (WS.op rfl (op_ld (M9.at 0 rfl) rfl rfl) (WS.op rfl rfl (WS.op rfl (op_ld (M9.at 0 rfl) rfl rfl) (WS.op rfl rfl (WS.op rfl (op_ld (M9.at 0 rfl) rfl rfl) (WS.op rfl rfl ?_)))))))))
          refine WS.op rfl (op_ld (M9.at 0 rfl) rfl rfl) (WS.opV (.agg #[(.int .u8 (((n.kd).toNat : Nat) : Int)), (.int .u8 (((n.fr).toNat : Nat) : Int)), (.int .u8 (((n.to).toNat : Nat) : Int)), (.int .u8 (((n.mb).toNat : Nat) : Int)), (.int .u8 (((n.se).toNat : Nat) : Int))]) rfl rfl rfl ?_)
          refine WS.eqqD (p := (m.kd).toNat = (n.kd).toNat ∧ (m.fr).toNat = (n.fr).toNat ∧ (m.to).toNat = (n.to).toNat ∧ (m.mb).toNat = (n.mb).toNat ∧ (m.se).toNat = (n.se).toNat) rfl rfl rfl (by show some _ = _; simp only [int_beq, int_beq0, str_beq, bool_beq, Bool.decide_and, Bool.and_true]) (fun e48 => ?_) (fun e48 => ?_)
          · skip
            refine WS.op rfl rfl (WS.nil [(2, _), (3, _), (5, _)] rfl ?_)
            refine WC.seq ?_
            refine WC.run ?_
            refine WS.op rfl rfl (WS.op rfl rfl (WS.op rfl rfl (WS.op rfl (op_ld (M9.at 1 rfl) rfl rfl) (WS.op rfl rfl (WS.op rfl (op_ld (M9.at 1 rfl) rfl rfl) (WS.op rfl rfl (WS.op rfl (op_ld (M9.at 1 rfl) rfl rfl) (WS.op rfl rfl (WS.op rfl (op_ld (M9.at 1 rfl) rfl rfl) ?_)))))))))
            refine WS.op rfl rfl (WS.op rfl (op_ld (M9.at 1 rfl) rfl rfl) (WS.opV (.agg #[(.int .u64 (((m.tm).toNat : Nat) : Int)), (.int .u64 (((m.ix).toNat : Nat) : Int)), (.int .u64 (((m.lt).toNat : Nat) : Int)), (.int .u64 (((m.cm).toNat : Nat) : Int)), (.int .u64 (((m.rd).toNat : Nat) : Int))]) rfl rfl rfl (WS.op rfl rfl (WS.op rfl (op_ld (M9.at 0 rfl) rfl rfl) (WS.op rfl rfl (WS.op rfl (op_ld (M9.at 0 rfl) rfl rfl) (WS.op rfl rfl (WS.op rfl (op_ld (M9.at 0 rfl) rfl rfl) (WS.op rfl rfl ?_)))))))))
            refine WS.op rfl (op_ld (M9.at 0 rfl) rfl rfl) (WS.op rfl rfl (WS.op rfl (op_ld (M9.at 0 rfl) rfl rfl) (WS.opV (.agg #[(.int .u64 (((n.tm).toNat : Nat) : Int)), (.int .u64 (((n.ix).toNat : Nat) : Int)), (.int .u64 (((n.lt).toNat : Nat) : Int)), (.int .u64 (((n.cm).toNat : Nat) : Int)), (.int .u64 (((n.rd).toNat : Nat) : Int))]) rfl rfl rfl ?_)))
            refine WS.eqqD (p := (m.tm).toNat = (n.tm).toNat ∧ (m.ix).toNat = (n.ix).toNat ∧ (m.lt).toNat = (n.lt).toNat ∧ (m.cm).toNat = (n.cm).toNat ∧ (m.rd).toNat = (n.rd).toNat) rfl rfl rfl (by show some _ = _; simp only [int_beq, int_beq0, str_beq, bool_beq, Bool.decide_and, Bool.and_true]) (fun e73 => ?_) (fun e73 => ?_)
            · skip
              refine WS.op rfl rfl (WS.op rfl rfl (WS.nil [(4, _)] rfl ?_))
              refine WC.ret ?_
              refine ⟨[_], (res_tmp rfl res_nil), ?_⟩
              exact ⟨vbt (msg_ext (of_decide_eq_true hb1) (by assumption) (by simp_all) (by assumption) (by assumption)), M9.bare.take 0⟩
            · skip
              refine WS.op rfl rfl (WS.op rfl rfl (WS.nil [(4, _)] rfl ?_))
              refine WC.ret ?_
              refine ⟨[_], (res_tmp rfl res_nil), ?_⟩
              exact ⟨vbf fun q => (by subst q; simp_all), M9.bare.take 0⟩
          · skip
            refine WS.op rfl rfl (WS.nil [(2, _), (3, _), (5, _)] rfl ?_)
            refine WC.seq ?_
            refine WC.run ?_
            refine WS.op rfl rfl (WS.op rfl rfl (WS.off rfl (WS.off rfl (WS.off rfl (WS.off rfl (WS.off rfl (WS.off rfl (WS.off rfl (WS.off rfl ?_)))))))))
            refine WS.off rfl (WS.off rfl (WS.off rfl (WS.off rfl (WS.off rfl (WS.off rfl (WS.off rfl (WS.off rfl (WS.off rfl (WS.off rfl ?_)))))))))
            refine WS.off rfl (WS.off rfl (WS.off rfl (WS.off rfl (WS.off rfl (WS.op rfl rfl (WS.op rfl rfl (WS.nil [(4, _)] rfl ?_)))))))
            refine WC.ret ?_
            refine ⟨[_], (res_tmp rfl res_nil), ?_⟩
            exact ⟨vbf fun q => (by subst q; simp_all), M9.bare.take 0⟩
        · skip
          refine WS.opV (.bool true) rfl rfl rfl (WS.op rfl rfl (WS.nil [(2, _), (3, _), (25, _)] rfl ?_))
          refine WC.condT rfl ?_
          refine WC.seq ?_
          refine WC.run ?_
          refine WS.op rfl rfl (WS.nil [(4, _)] rfl ?_)
          refine WC.ret ?_
          refine ⟨[_], (res_tmp rfl res_nil), ?_⟩
          exact ⟨vbf fun q => (by subst q; simp_all), M9.bare.take 0⟩
      · skip
        cases hb3 : n.ok
        · skip
          refine WS.opV (.bool true) rfl rfl rfl (WS.op rfl rfl (WS.nil [(2, _), (3, _), (25, _)] rfl ?_))
          refine WC.condT rfl ?_
          refine WC.seq ?_
          refine WC.run ?_
          refine WS.op rfl rfl (WS.nil [(4, _)] rfl ?_)
          refine WC.ret ?_
          refine ⟨[_], (res_tmp rfl res_nil), ?_⟩
          exact ⟨vbf fun q => (by subst q; simp_all), M9.bare.take 0⟩
        · skip
          refine WS.opV (.bool false) rfl rfl rfl (WS.op rfl rfl (WS.nil [(2, _), (3, _), (25, _)] rfl ?_))
          refine WC.condF rfl ?_
          refine WC.skip ?_
          refine WC.seq ?_
          refine WC.run ?_
          refine WS.op rfl rfl (WS.op rfl (op_ld (M9.at 1 rfl) rfl rfl) (WS.op rfl rfl (WS.op rfl (op_ld (M9.at 1 rfl) rfl rfl) (WS.op rfl rfl (WS.op rfl (op_ld (M9.at 1 rfl) rfl rfl) (WS.op rfl rfl (WS.op rfl (op_ld (M9.at 1 rfl) rfl rfl) (WS.op rfl rfl (WS.op rfl (op_ld (M9.at 1 rfl) rfl rfl) ?_)))))))))
          refine WS.opV (.agg #[(.int .u8 (((m.kd).toNat : Nat) : Int)), (.int .u8 (((m.fr).toNat : Nat) : Int)), (.int .u8 (((m.to).toNat : Nat) : Int)), (.int .u8 (((m.mb).toNat : Nat) : Int)), (.int .u8 (((m.se).toNat : Nat) : Int))]) rfl rfl rfl (WS.op rfl rfl (WS.op rfl (op_ld (M9.at 0 rfl) rfl rfl) (WS.op rfl rfl (WS.op rfl (op_ld (M9.at 0 rfl) rfl rfl) (WS.op rfl rfl (WS.op rfl (op_ld (M9.at 0 rfl) rfl rfl) (WS.op rfl rfl (WS.op rfl (op_ld (M9.at 0 rfl) rfl rfl) (WS.op rfl rfl ?_)))))))))
          refine WS.op rfl (op_ld (M9.at 0 rfl) rfl rfl) (WS.opV (.agg #[(.int .u8 (((n.kd).toNat : Nat) : Int)), (.int .u8 (((n.fr).toNat : Nat) : Int)), (.int .u8 (((n.to).toNat : Nat) : Int)), (.int .u8 (((n.mb).toNat : Nat) : Int)), (.int .u8 (((n.se).toNat : Nat) : Int))]) rfl rfl rfl ?_)
          refine WS.eqqD (p := (m.kd).toNat = (n.kd).toNat ∧ (m.fr).toNat = (n.fr).toNat ∧ (m.to).toNat = (n.to).toNat ∧ (m.mb).toNat = (n.mb).toNat ∧ (m.se).toNat = (n.se).toNat) rfl rfl rfl (by show some _ = _; simp only [int_beq, int_beq0, str_beq, bool_beq, Bool.decide_and, Bool.and_true]) (fun e48 => ?_) (fun e48 => ?_)
          · skip
            refine WS.op rfl rfl (WS.nil [(2, _), (3, _), (5, _)] rfl ?_)
            refine WC.seq ?_
            refine WC.run ?_
            refine WS.op rfl rfl (WS.op rfl rfl (WS.op rfl rfl (WS.op rfl (op_ld (M9.at 1 rfl) rfl rfl) (WS.op rfl rfl (WS.op rfl (op_ld (M9.at 1 rfl) rfl rfl) (WS.op rfl rfl (WS.op rfl (op_ld (M9.at 1 rfl) rfl rfl) (WS.op rfl rfl (WS.op rfl (op_ld (M9.at 1 rfl) rfl rfl) ?_)))))))))
            refine WS.op rfl rfl (WS.op rfl (op_ld (M9.at 1 rfl) rfl rfl) (WS.opV (.agg #[(.int .u64 (((m.tm).toNat : Nat) : Int)), (.int .u64 (((m.ix).toNat : Nat) : Int)), (.int .u64 (((m.lt).toNat : Nat) : Int)), (.int .u64 (((m.cm).toNat : Nat) : Int)), (.int .u64 (((m.rd).toNat : Nat) : Int))]) rfl rfl rfl (WS.op rfl rfl (WS.op rfl (op_ld (M9.at 0 rfl) rfl rfl) (WS.op rfl rfl (WS.op rfl (op_ld (M9.at 0 rfl) rfl rfl) (WS.op rfl rfl (WS.op rfl (op_ld (M9.at 0 rfl) rfl rfl) (WS.op rfl rfl ?_)))))))))
            refine WS.op rfl (op_ld (M9.at 0 rfl) rfl rfl) (WS.op rfl rfl (WS.op rfl (op_ld (M9.at 0 rfl) rfl rfl) (WS.opV (.agg #[(.int .u64 (((n.tm).toNat : Nat) : Int)), (.int .u64 (((n.ix).toNat : Nat) : Int)), (.int .u64 (((n.lt).toNat : Nat) : Int)), (.int .u64 (((n.cm).toNat : Nat) : Int)), (.int .u64 (((n.rd).toNat : Nat) : Int))]) rfl rfl rfl ?_)))
            refine WS.eqqD (p := (m.tm).toNat = (n.tm).toNat ∧ (m.ix).toNat = (n.ix).toNat ∧ (m.lt).toNat = (n.lt).toNat ∧ (m.cm).toNat = (n.cm).toNat ∧ (m.rd).toNat = (n.rd).toNat) rfl rfl rfl (by show some _ = _; simp only [int_beq, int_beq0, str_beq, bool_beq, Bool.decide_and, Bool.and_true]) (fun e73 => ?_) (fun e73 => ?_)
            · skip
              refine WS.op rfl rfl (WS.op rfl rfl (WS.nil [(4, _)] rfl ?_))
              refine WC.ret ?_
              refine ⟨[_], (res_tmp rfl res_nil), ?_⟩
              exact ⟨vbt (msg_ext (of_decide_eq_true hb1) (by assumption) (by simp_all) (by assumption) (by assumption)), M9.bare.take 0⟩
            · skip
              refine WS.op rfl rfl (WS.op rfl rfl (WS.nil [(4, _)] rfl ?_))
              refine WC.ret ?_
              refine ⟨[_], (res_tmp rfl res_nil), ?_⟩
              exact ⟨vbf fun q => (by subst q; simp_all), M9.bare.take 0⟩
          · skip
            refine WS.op rfl rfl (WS.nil [(2, _), (3, _), (5, _)] rfl ?_)
            refine WC.seq ?_
            refine WC.run ?_
            refine WS.op rfl rfl (WS.op rfl rfl (WS.off rfl (WS.off rfl (WS.off rfl (WS.off rfl (WS.off rfl (WS.off rfl (WS.off rfl (WS.off rfl ?_)))))))))
            refine WS.off rfl (WS.off rfl (WS.off rfl (WS.off rfl (WS.off rfl (WS.off rfl (WS.off rfl (WS.off rfl (WS.off rfl (WS.off rfl ?_)))))))))
            refine WS.off rfl (WS.off rfl (WS.off rfl (WS.off rfl (WS.off rfl (WS.op rfl rfl (WS.op rfl rfl (WS.nil [(4, _)] rfl ?_)))))))
            refine WC.ret ?_
            refine ⟨[_], (res_tmp rfl res_nil), ?_⟩
            exact ⟨vbf fun q => (by subst q; simp_all), M9.bare.take 0⟩
/-! ### The reference's -/
theorem encM_of2 {m : Msg} (hr : rightMB m = true) {o : UInt8} (ho : okB m = o) : writeM m = (((([m.kd, m.fr, m.to] ++ (vb m.tm.toNat ++ vb m.ix.toNat ++ vb m.lt.toNat ++ vb m.cm.toNat ++ vb m.rd.toNat)) ++ [o]) ++ [m.mb, m.se, UInt8.ofNat m.es.length]) ++ m.es.flatMap fun e => sb (writeE e)) ++ sb m.body := by
  rw [encM_of hr ho]; simp
omit base L R in
set_option maxRecDepth 4000 in
theorem ref5_Right_ran (W : Mem h h [] []) {m : Msg} {V : Value} (A : KEnt.Sl h V m.es) (hs : Small m.es ∧ m.es.length < 9223372036854775808 ∧ m.body.length ≤ 268435456) : Cll tab0 16 [m.val V] h (fun v h2 => v = .bool (rightMB m) ∧ Mem h h2 [] []) := by
  obtain ⟨hs, hl, _⟩ := hs
  obtain ⟨P, c, rfl⟩ := A.shape
  refine Cll.code rfl rfl ?_
  refine WC.env [(0, _)] rfl ?_
  refine WC.seq ?_
  refine WC.run ?_
  refine WS.box W [_, _, _, _, _, _, _, _, _, _, _, _, _] rfl rfl rfl rfl ?_
  intro p1 h2 M3
  refine WS.op rfl rfl (WS.nil [(1, _)] rfl ?_)
  refine WC.seq ?_
  refine WC.seq ?_
  obtain ⟨L4, eL6, M5⟩ := Mem.name M3.bare
  refine WC.joinB (base := h) (fun b => [(1, (.pointer (some ⟨p1, 0, none⟩))), (47, .bool b)]) L4 (¬ HeadOK m) (HeadOK m) ?_ ?_ ?_
  · subst eL6
    refine WS.op rfl rfl (WS.op rfl (op_ld (M5.at 0 rfl) rfl rfl) ?_)
    refine WS.lssN (a := (m.kd).toNat) (b := 1) rfl rfl rfl (fun e6 => ?_) (fun e6 => ?_)
    · skip
      refine WS.op rfl rfl (WS.off rfl (WS.off rfl (WS.off rfl (WS.op rfl rfl (WS.op rfl rfl (WS.off rfl (WS.off rfl (WS.off rfl (WS.op rfl rfl ?_)))))))))
      refine WS.op rfl rfl (WS.off rfl (WS.off rfl (WS.off rfl (WS.op rfl rfl (WS.op rfl rfl (WS.off rfl (WS.off rfl (WS.off rfl (WS.op rfl rfl ?_)))))))))
      refine WS.op rfl rfl (WS.off rfl (WS.off rfl (WS.off rfl (WS.op rfl rfl (WS.op rfl rfl (WS.off rfl (WS.off rfl (WS.off rfl (WS.op rfl rfl ?_)))))))))
      refine WS.op rfl rfl (WS.off rfl (WS.off rfl (WS.off rfl (WS.op rfl rfl (WS.op rfl rfl (WS.off rfl (WS.off rfl (WS.off rfl (WS.off rfl ?_)))))))))
      refine WS.op rfl rfl ?_
      refine WS.nil' ⟨true, rfl, ((M5.bare.focus 0 rfl).take 1), fun _ => ?_, fun hh => ?_⟩
      · unfold HeadOK; omega
      · cases hh
    · skip
      refine WS.op rfl rfl (WS.op rfl rfl (WS.op rfl (op_ld (M5.at 0 rfl) rfl rfl) ?_))
      refine WS.gtrN (a := (m.kd).toNat) (b := 7) rfl rfl rfl (fun e10 => ?_) (fun e10 => ?_)
      · skip
        refine WS.op rfl rfl (WS.op rfl rfl (WS.off rfl (WS.off rfl (WS.off rfl (WS.op rfl rfl (WS.op rfl rfl (WS.off rfl (WS.off rfl (WS.off rfl ?_)))))))))
        refine WS.op rfl rfl (WS.op rfl rfl (WS.off rfl (WS.off rfl (WS.off rfl (WS.op rfl rfl (WS.op rfl rfl (WS.off rfl (WS.off rfl (WS.off rfl ?_)))))))))
        refine WS.op rfl rfl (WS.op rfl rfl (WS.off rfl (WS.off rfl (WS.off rfl (WS.op rfl rfl (WS.op rfl rfl (WS.off rfl (WS.off rfl (WS.off rfl ?_)))))))))
        refine WS.op rfl rfl (WS.op rfl rfl (WS.off rfl (WS.off rfl (WS.off rfl (WS.off rfl (WS.op rfl rfl ?_))))))
        refine WS.nil' ⟨true, rfl, ((M5.bare.focus 0 rfl).take 1), fun _ => ?_, fun hh => ?_⟩
        · unfold HeadOK; omega
        · cases hh
      · skip
        refine WS.op rfl rfl (WS.op rfl rfl (WS.op rfl rfl (WS.op rfl (op_ld (M5.at 0 rfl) rfl rfl) ?_)))
        refine WS.lssN (a := (m.fr).toNat) (b := 1) rfl rfl rfl (fun e15 => ?_) (fun e15 => ?_)
        · skip
          refine WS.op rfl rfl (WS.op rfl rfl (WS.off rfl (WS.off rfl (WS.off rfl (WS.op rfl rfl (WS.op rfl rfl (WS.off rfl (WS.off rfl (WS.off rfl ?_)))))))))
          refine WS.op rfl rfl (WS.op rfl rfl (WS.off rfl (WS.off rfl (WS.off rfl (WS.op rfl rfl (WS.op rfl rfl (WS.off rfl (WS.off rfl (WS.off rfl ?_)))))))))
          refine WS.op rfl rfl (WS.op rfl rfl (WS.off rfl (WS.off rfl (WS.off rfl (WS.op rfl rfl (WS.op rfl rfl (WS.off rfl (WS.off rfl (WS.off rfl ?_)))))))))
          refine WS.off rfl (WS.op rfl rfl ?_)
          refine WS.nil' ⟨true, rfl, ((M5.bare.focus 0 rfl).take 1), fun _ => ?_, fun hh => ?_⟩
          · unfold HeadOK; omega
          · cases hh
        · skip
          refine WS.op rfl rfl (WS.op rfl rfl (WS.op rfl rfl (WS.op rfl (op_ld (M5.at 0 rfl) rfl rfl) ?_)))
          refine WS.gtrN (a := (m.fr).toNat) (b := 5) rfl rfl rfl (fun e20 => ?_) (fun e20 => ?_)
          · skip
            refine WS.op rfl rfl (WS.op rfl rfl (WS.off rfl (WS.off rfl (WS.off rfl (WS.op rfl rfl (WS.op rfl rfl (WS.off rfl (WS.off rfl (WS.off rfl ?_)))))))))
            refine WS.op rfl rfl (WS.op rfl rfl (WS.off rfl (WS.off rfl (WS.off rfl (WS.op rfl rfl (WS.op rfl rfl (WS.off rfl (WS.off rfl (WS.off rfl ?_)))))))))
            refine WS.op rfl rfl (WS.op rfl rfl (WS.off rfl (WS.off rfl (WS.off rfl (WS.off rfl (WS.op rfl rfl ?_))))))
            refine WS.nil' ⟨true, rfl, ((M5.bare.focus 0 rfl).take 1), fun _ => ?_, fun hh => ?_⟩
            · unfold HeadOK; omega
            · cases hh
          · skip
            refine WS.op rfl rfl (WS.op rfl rfl (WS.op rfl rfl (WS.op rfl (op_ld (M5.at 0 rfl) rfl rfl) ?_)))
            refine WS.lssN (a := (m.to).toNat) (b := 1) rfl rfl rfl (fun e25 => ?_) (fun e25 => ?_)
            · skip
              refine WS.op rfl rfl (WS.op rfl rfl (WS.off rfl (WS.off rfl (WS.off rfl (WS.op rfl rfl (WS.op rfl rfl (WS.off rfl (WS.off rfl (WS.off rfl ?_)))))))))
              refine WS.op rfl rfl (WS.op rfl rfl (WS.off rfl (WS.off rfl (WS.off rfl (WS.op rfl rfl (WS.op rfl rfl (WS.off rfl (WS.off rfl (WS.off rfl ?_)))))))))
              refine WS.off rfl (WS.op rfl rfl ?_)
              refine WS.nil' ⟨true, rfl, ((M5.bare.focus 0 rfl).take 1), fun _ => ?_, fun hh => ?_⟩
              · unfold HeadOK; omega
              · cases hh
            · skip
              refine WS.op rfl rfl (WS.op rfl rfl (WS.op rfl rfl (WS.op rfl (op_ld (M5.at 0 rfl) rfl rfl) ?_)))
              refine WS.gtrN (a := (m.to).toNat) (b := 5) rfl rfl rfl (fun e30 => ?_) (fun e30 => ?_)
              · skip
                refine WS.op rfl rfl (WS.op rfl rfl (WS.off rfl (WS.off rfl (WS.off rfl (WS.op rfl rfl (WS.op rfl rfl (WS.off rfl (WS.off rfl (WS.off rfl ?_)))))))))
                refine WS.op rfl rfl (WS.op rfl rfl (WS.off rfl (WS.off rfl (WS.off rfl (WS.off rfl (WS.op rfl rfl ?_))))))
                refine WS.nil' ⟨true, rfl, ((M5.bare.focus 0 rfl).take 1), fun _ => ?_, fun hh => ?_⟩
                · unfold HeadOK; omega
                · cases hh
              · skip
                refine WS.op rfl rfl (WS.op rfl rfl (WS.op rfl rfl (WS.op rfl (op_ld (M5.at 0 rfl) rfl rfl) ?_)))
                refine WS.gtrN (a := (m.mb).toNat) (b := 31) rfl rfl rfl (fun e35 => ?_) (fun e35 => ?_)
                · skip
                  refine WS.op rfl rfl (WS.op rfl rfl (WS.off rfl (WS.off rfl (WS.off rfl (WS.op rfl rfl (WS.op rfl rfl (WS.off rfl (WS.off rfl (WS.off rfl ?_)))))))))
                  refine WS.off rfl (WS.op rfl rfl ?_)
                  refine WS.nil' ⟨true, rfl, ((M5.bare.focus 0 rfl).take 1), fun _ => ?_, fun hh => ?_⟩
                  · unfold HeadOK; omega
                  · cases hh
                · skip
                  refine WS.op rfl rfl (WS.op rfl rfl (WS.op rfl rfl (WS.op rfl (op_ld (M5.at 0 rfl) rfl rfl) ?_)))
                  refine WS.gtrN (a := (m.se).toNat) (b := 4) rfl rfl rfl (fun e40 => ?_) (fun e40 => ?_)
                  · skip
                    refine WS.op rfl rfl (WS.op rfl rfl (WS.off rfl (WS.off rfl (WS.off rfl (WS.off rfl (WS.op rfl rfl ?_))))))
                    refine WS.nil' ⟨true, rfl, ((M5.bare.focus 0 rfl).take 1), fun _ => ?_, fun hh => ?_⟩
                    · unfold HeadOK; omega
                    · cases hh
                  · skip
                    refine WS.op rfl rfl (WS.op rfl rfl (WS.op rfl rfl (WS.op rfl (op_ld (M5.at 0 rfl) rfl rfl) (WS.op rfl (op_lenVS A rfl) ?_))))
                    refine WS.gtrN (a := (m.es).length) (b := 8) rfl rfl rfl (fun e46 => ?_) (fun e46 => ?_)
                    · skip
                      refine WS.op rfl rfl ?_
                      refine WS.nil' ⟨true, rfl, ((M5.bare.focus 0 rfl).take 1), fun _ => ?_, fun hh => ?_⟩
                      · unfold HeadOK; omega
                      · cases hh
                    · skip
                      refine WS.op rfl rfl ?_
                      refine WS.nil' ⟨false, rfl, ((M5.bare.focus 0 rfl).take 1), fun hh => ?_, fun _ => ?_⟩
                      · cases hh
                      · unfold HeadOK; omega
  · intro h7 M8 hp47
    subst eL6
    refine WC.condT rfl ?_
    refine WC.seq ?_
    refine WC.run ?_
    refine WS.op rfl rfl (WS.nil [(2, _)] rfl ?_)
    refine WC.ret ?_
    refine ⟨[_], (res_tmp rfl res_nil), ?_⟩
    exact ⟨by rw [HeadOK_not hp47]; rfl, M8.bare.take 0⟩
  · intro h9 M10 hp47
    subst eL6
    refine WC.condF rfl ?_
    refine WC.skip ?_
    refine WC.seq ?_
    refine WC.seq ?_
    refine WC.run ?_
    refine WS.op rfl rfl (WS.nil [(1, _), (3, _)] rfl ?_)
    refine WC.block ?_
    obtain ⟨L11, eL13, M12⟩ := Mem.name M10.bare
    refine WC.loop (σ := Nat) (fun (i) => [(1, (.pointer (some ⟨p1, 0, none⟩))), (3, (.int .i64 ((i : Nat) : Int)))]) (fun (i) hh => Mem h hh (L11) [] ∧ AllR (m.es.take i) ∧ i ≤ m.es.length) (fun (i) => m.es.length - i) (0) rfl ⟨M12, ?_⟩ ?_
    · exact ⟨by rw [List.take_zero]; intro e he; simp at he, by omega⟩
    · rintro i h14 ⟨M15, ⟨hO, hi1⟩⟩
      subst eL13
      refine WC.env [(1, _), (3, _)] rfl ?_
      refine WC.seq ?_
      refine WC.seq ?_
      refine WC.run ?_
      refine WS.op rfl rfl (WS.op rfl rfl (WS.op rfl (op_ld (M15.at 0 rfl) rfl rfl) (WS.op rfl (op_lenVS A rfl) ?_)))
      refine WS.lssN (a := i) (b := (m.es).length) rfl rfl rfl (fun e52 => ?_) (fun e52 => ?_)
      · skip
        refine WS.nil [(1, _), (3, _), (52, _)] rfl ?_
        refine WC.condT rfl ?_
        refine WC.skip ?_
        refine WC.seq ?_
        refine WC.block ?_
        refine WC.seq ?_
        refine WC.run ?_
        refine WS.op rfl rfl (WS.op rfl (op_ld (M15.at 0 rfl) rfl rfl) (WS.op rfl rfl ?_))
        obtain ⟨y58, hy58⟩ : ∃ y, (m.es)[i]? = some y := ⟨_, List.getElem?_eq_getElem (show i < (m.es).length by first | omega | (simp only [List.length_drop, List.length_take, List.length_append, List.length_cons, List.length_nil, List.length_singleton]; omega) | (simp only [List.length_drop, List.length_take, List.length_append, List.length_cons, List.length_nil, List.length_singleton] at *; omega))⟩
        refine WS.iaVS A i hy58 rfl rfl rfl rfl ?_
        intro b58_ o58_ ha58
        refine WS.op rfl (op_ldAt rfl (ha58.mono M15.sub) rfl) ?_
        have hsm := small_get hs hy58
        refine WS.call rfl rfl rfl (ref4_Right_ran M15.here (e := y58) (by omega)) ?_
        rintro _ h16 ⟨rfl, N17⟩
        have M18 := M15.trans N17
        cases hb1 : (rightB y58)
        · skip
          refine WS.opV (.bool true) rfl rfl rfl (WS.nil [(1, _), (3, _), (61, _)] rfl ?_)
          refine WC.condT rfl ?_
          refine WC.seq ?_
          refine WC.run ?_
          refine WS.op rfl rfl (WS.nil [(2, _)] rfl ?_)
          refine WC.ret ?_
          refine ⟨[_], (res_tmp rfl res_nil), ?_⟩
          exact ⟨rightM_f fun r => (by have := rightB_iff.2 (r.2.2.2.2.2.2 _ (List.mem_of_getElem? hy58)); rw [hb1] at this; cases this), M18.bare.take 0⟩
        · skip
          refine WS.opV (.bool false) rfl rfl rfl (WS.nil [(1, _), (3, _), (61, _)] rfl ?_)
          refine WC.condF rfl ?_
          refine WC.skip ?_
          refine WC.run ?_
          refine WS.op rfl rfl (WS.opV (.int .i64 (((i + 1) : Nat) : Int)) rfl rfl (add_i64 (a := i) (b := 1) (by omega)) (WS.op rfl rfl (WS.nil [(1, _), (3, _)] rfl ?_)))
          refine ⟨i + 1, rfl, ⟨((M18.bare.focus 0 rfl).take 1), ?_⟩, ?_⟩
          · exact ⟨AllR_snoc hO hy58 (rightB_iff.1 hb1), by omega⟩
          · simp only [] at *; omega
      · skip
        refine WS.nil [(1, _), (3, _), (52, _)] rfl ?_
        refine WC.condF rfl ?_
        refine WC.exit ?_
        refine WC.seq ?_
        refine WC.run ?_
        refine WS.op rfl rfl (WS.nil [(2, _)] rfl ?_)
        refine WC.ret ?_
        refine ⟨[_], (res_tmp rfl res_nil), ?_⟩
        rw [List.take_of_length_le (by omega)] at hO
        obtain ⟨q1, q2, q3, q4, q5, q6⟩ := hp47
        exact ⟨rightM_t ⟨q1, q2, q3, q4, q5, q6, hO⟩, M15.bare.take 0⟩
omit base L R in
set_option maxRecDepth 4000 in
theorem ref5_Write_ran (W : Mem h h [] []) {m : Msg} {V : Value} (A : KEnt.Sl h V m.es) (hs0 : Small m.es ∧ m.es.length < 9223372036854775808 ∧ m.body.length ≤ 268435456) : Cll tab0 17 [m.val V] h (fun v h2 => v = .string (bs (writeM m)) ∧ Mem h h2 [] []) := by
  obtain ⟨hs, hl, hb⟩ := hs0
  obtain ⟨P, c, rfl⟩ := A.shape
  have v1 := vb64 m.tm
  have v2 := vb64 m.ix
  have v3 := vb64 m.lt
  have v4 := vb64 m.cm
  have v5 := vb64 m.rd
  have v6 := sb_len (t := m.body) (by omega)
  refine Cll.code rfl rfl ?_
  refine WC.env [(0, _)] rfl ?_
  refine WC.seq ?_
  refine WC.run ?_
  refine WS.box W [_, _, _, _, _, _, _, _, _, _, _, _, _] rfl rfl rfl rfl ?_
  intro p1 h2 M3
  refine WS.op rfl rfl (WS.nil [(1, _)] rfl ?_)
  refine WC.seq ?_
  refine WC.seq ?_
  refine WC.run ?_
  refine WS.op rfl (op_lds [_, _, _, _, _, _, _, _, _, _, _, _, _] (M3.at 0 rfl) rfl (Nat.le_of_ble_eq_true rfl) rfl) ?_
  have hes : rightMB m = true → m.es.length ≤ 8 := fun q => (rightMB_iff.1 q).2.2.2.2.2.1
  refine WS.call rfl rfl rfl (ref5_Right_ran M3.here (m := m) (A.mono M3.sub) (by exact ⟨hs, hl, hb⟩)) ?_
  rintro _ h4 ⟨rfl, N5⟩
  have M6 := M3.trans N5
  cases hb1 : (rightMB m)
  · skip
    refine WS.opV (.bool true) rfl rfl rfl (WS.nil [(1, _), (7, _)] rfl ?_)
    refine WC.condT rfl ?_
    refine WC.seq ?_
    refine WC.run ?_
    refine WS.op rfl rfl (WS.nil [(2, _)] rfl ?_)
    refine WC.ret ?_
    refine ⟨[_], (res_tmp rfl res_nil), ?_⟩
    exact ⟨by rw [writeM_f hb1]; rfl, M6.bare.take 0⟩
  · skip
    refine WS.opV (.bool false) rfl rfl rfl (WS.nil [(1, _), (7, _)] rfl ?_)
    refine WC.condF rfl ?_
    refine WC.skip ?_
    refine WC.seq ?_
    refine WC.draw M6 [18, 6] rfl ?_
    intro rb7 h8 M9
    refine WS.op rfl rfl (WS.op rfl (op_ld (M9.at 0 rfl) rfl rfl) (WS.op rfl rfl (WS.op rfl (op_ld (M9.at 0 rfl) rfl rfl) (WS.op rfl rfl (WS.op rfl (op_ld (M9.at 0 rfl) rfl rfl) (WS.op rfl rfl (WS.op rfl (op_ld (M9.at 0 rfl) rfl rfl) (WS.op rfl rfl (WS.op rfl (op_ld (M9.at 0 rfl) rfl rfl) ?_)))))))))
    refine WS.op rfl rfl (WS.op rfl (op_ld (M9.at 0 rfl) rfl rfl) (WS.op rfl rfl (WS.op rfl (op_ld (M9.at 0 rfl) rfl rfl) (WS.op rfl rfl (WS.op rfl (op_ld (M9.at 0 rfl) rfl rfl) ?_)))))
    refine WS.bslA M9 [_, _, _, _, _] 0 rfl rfl rfl rfl rfl ?_
    intro h11 M12
    refine WS.call rfl rfl rfl (ref_V_ran M12.here (Row.Sl.own (K := KNat) (l := [(m.tm).toNat, (m.ix).toNat, (m.lt).toNat, (m.cm).toNat, (m.rd).toNat]) (M12.at 0 rfl)) (by have := m.tm.toNat_lt; have := m.ix.toNat_lt; have := m.lt.toNat_lt; have := m.cm.toNat_lt; have := m.rd.toNat_lt; intro n hn; simp only [List.mem_cons, List.mem_nil_iff, or_false] at hn; omega) (by simp) (r := ((vb ((m.tm).toNat)) ++ (vb ((m.ix).toNat)) ++ (vb ((m.lt).toNat)) ++ (vb ((m.cm).toNat)) ++ (vb ((m.rd).toNat)))) (by simp [List.flatMap])) ?_
    rintro _ h13 ⟨rfl, N14⟩
    have M15 := M12.trans N14
    refine WS.chk rfl (op_ld (M15.at 1 rfl) rfl rfl) rfl (sameV_refl rfl) (WS.chk rfl (op_ld (M15.at 1 rfl) rfl rfl) rfl (sameV_refl rfl) (WS.chk rfl (op_ld (M15.at 1 rfl) rfl rfl) rfl (sameV_refl rfl) ?_))
    refine WS.bslA M15 [_, _, _] 0 rfl rfl rfl rfl rfl ?_
    intro h17 M18
    refine WS.opR rfl rfl (op_cvB (l := [m.kd, m.fr, m.to]) (M18.at 0 rfl) rfl rfl (Nat.le_of_ble_eq_true rfl) rfl) (WS.op rfl (op_sadd (l := [m.kd, m.fr, m.to]) (m := ((vb ((m.tm).toNat)) ++ (vb ((m.ix).toNat)) ++ (vb ((m.lt).toNat)) ++ (vb ((m.cm).toNat)) ++ (vb ((m.rd).toNat)))) rfl rfl (by first | (simp only [List.length_append, List.length_cons, List.length_nil]; omega) | (subst hO; simp only [List.length_append, List.length_cons, List.length_nil]; omega) | (have hft := flatMap_take_le m.es i (fun e => sb (writeE e)); subst hO; simp only [List.length_append, List.length_cons, List.length_nil]; omega))) (WS.op rfl rfl (WS.nil [(1, _), (3, _)] rfl ?_)))
    refine WC.seq ?_
    refine WC.seq ?_
    refine WC.run ?_
    refine WS.op rfl rfl (WS.op rfl (op_ld (M18.bare.at 2 rfl) rfl rfl) (WS.nil [(1, _), (3, _), (30, _)] rfl ?_))
    cases hb2 : m.ok
    · skip
      refine WC.condF rfl ?_
      refine WC.run ?_
      have he8 := hes hb1
      have hfl := flat_len hs
      refine WS.op rfl rfl (WS.op rfl (op_sadd (l := ([m.kd, m.fr, m.to] ++ ((vb ((m.tm).toNat)) ++ (vb ((m.ix).toNat)) ++ (vb ((m.lt).toNat)) ++ (vb ((m.cm).toNat)) ++ (vb ((m.rd).toNat))))) (m := [0]) rfl rfl (by first | (simp only [List.length_append, List.length_cons, List.length_nil]; omega) | (subst hO; simp only [List.length_append, List.length_cons, List.length_nil]; omega) | (have hft := flatMap_take_le m.es i (fun e => sb (writeE e)); subst hO; simp only [List.length_append, List.length_cons, List.length_nil]; omega))) (WS.op rfl rfl (WS.nil [(1, _), (3, _)] rfl ?_)))
      refine WC.seq ?_
      refine WC.run ?_
      refine WS.op rfl rfl (WS.op rfl rfl (WS.op rfl (op_ld (M18.bare.at 2 rfl) rfl rfl) (WS.op rfl rfl (WS.op rfl (op_ld (M18.bare.at 2 rfl) rfl rfl) (WS.op rfl rfl (WS.op rfl (op_ld (M18.bare.at 2 rfl) rfl rfl) (WS.op rfl (op_lenVS A rfl) (WS.opV (.int .u8 (((UInt8.ofNat ((m.es).length)).toNat : Nat) : Int)) rfl rfl (u8_ofNat (n := (m.es).length)) ?_))))))))
      refine WS.bsl M18.bare [_, _, _] rfl rfl rfl rfl ?_
      intro p19 h20 M21
      refine WS.op rfl (op_cvB (l := [m.mb, m.se, UInt8.ofNat ((m.es).length)]) (M21.at 0 rfl) rfl rfl (Nat.le_of_ble_eq_true rfl) rfl) (WS.op rfl (op_sadd (l := (([m.kd, m.fr, m.to] ++ ((vb ((m.tm).toNat)) ++ (vb ((m.ix).toNat)) ++ (vb ((m.lt).toNat)) ++ (vb ((m.cm).toNat)) ++ (vb ((m.rd).toNat)))) ++ [0])) (m := [m.mb, m.se, UInt8.ofNat ((m.es).length)]) rfl rfl (by first | (simp only [List.length_append, List.length_cons, List.length_nil]; omega) | (subst hO; simp only [List.length_append, List.length_cons, List.length_nil]; omega) | (have hft := flatMap_take_le m.es i (fun e => sb (writeE e)); subst hO; simp only [List.length_append, List.length_cons, List.length_nil]; omega))) (WS.op rfl rfl (WS.nil [(1, _), (3, _)] rfl ?_)))
      refine WC.seq ?_
      refine WC.seq ?_
      refine WC.run ?_
      refine WS.op rfl rfl (WS.nil [(1, _), (3, _), (4, _)] rfl ?_)
      refine WC.block ?_
      obtain ⟨L22, eL24, M23⟩ := Mem.name M21.bare
      refine WC.loop (σ := List UInt8 × Nat) (fun ((out, i)) => [(1, (.pointer (some ⟨p1, 0, none⟩))), (3, (.string (bs out))), (4, (.int .i64 ((i : Nat) : Int)))]) (fun ((out, i)) hh => Mem h hh (L22) [] ∧ out = ((([m.kd, m.fr, m.to] ++ ((vb ((m.tm).toNat)) ++ (vb ((m.ix).toNat)) ++ (vb ((m.lt).toNat)) ++ (vb ((m.cm).toNat)) ++ (vb ((m.rd).toNat)))) ++ [0]) ++ [m.mb, m.se, UInt8.ofNat ((m.es).length)]) ++ (m.es.take i).flatMap (fun e => sb (writeE e)) ∧ i ≤ m.es.length) (fun ((out, i)) => m.es.length - i) (((([m.kd, m.fr, m.to] ++ ((vb ((m.tm).toNat)) ++ (vb ((m.ix).toNat)) ++ (vb ((m.lt).toNat)) ++ (vb ((m.cm).toNat)) ++ (vb ((m.rd).toNat)))) ++ [0]) ++ [m.mb, m.se, UInt8.ofNat ((m.es).length)]), 0) rfl ⟨M23, ?_⟩ ?_
      · exact ⟨by simp, by omega⟩
      · rintro ⟨out, i⟩ h25 ⟨M26, ⟨hO, hi1⟩⟩
        subst eL24
        refine WC.env [(1, _), (3, _), (4, _)] rfl ?_
        refine WC.seq ?_
        refine WC.seq ?_
        refine WC.run ?_
        refine WS.op rfl rfl (WS.op rfl rfl (WS.op rfl (op_ld (M26.at 3 rfl) rfl rfl) (WS.op rfl (op_lenVS A rfl) ?_)))
        refine WS.lssN (a := i) (b := (m.es).length) rfl rfl rfl (fun e51 => ?_) (fun e51 => ?_)
        · skip
          refine WS.nil [(1, _), (3, _), (4, _), (51, _)] rfl ?_
          refine WC.condT rfl ?_
          refine WC.skip ?_
          refine WC.seq ?_
          refine WC.block ?_
          refine WC.run ?_
          refine WS.op rfl rfl (WS.op rfl rfl (WS.op rfl (op_ld (M26.at 3 rfl) rfl rfl) (WS.op rfl rfl ?_)))
          obtain ⟨y58, hy58⟩ : ∃ y, (m.es)[i]? = some y := ⟨_, List.getElem?_eq_getElem (show i < (m.es).length by first | omega | (simp only [List.length_drop, List.length_take, List.length_append, List.length_cons, List.length_nil, List.length_singleton]; omega) | (simp only [List.length_drop, List.length_take, List.length_append, List.length_cons, List.length_nil, List.length_singleton] at *; omega))⟩
          refine WS.iaVS A i hy58 rfl rfl rfl rfl ?_
          intro b58_ o58_ ha58
          refine WS.op rfl (op_ldAt rfl (ha58.mono M26.sub) rfl) ?_
          have hsm := small_get hs hy58
          refine WS.call rfl rfl rfl (ref4_Write_ran M26.here (e := y58) (by omega)) ?_
          rintro _ h27 ⟨rfl, N28⟩
          have M29 := M26.trans N28
          have hsm := small_get hs hy58
          have hw := writeE_len (e := y58) (by omega)
          have hw2 := sb_len (t := writeE y58) (by omega)
          have hp : _ + (sb (writeE y58)).length ≤ _ := flat_part (fun e => sb (writeE e)) hy58
          have he8 := hes hb1
          have hfl := flat_len hs
          refine WS.bsl M29 [_] rfl rfl rfl rfl ?_
          intro p30 h31 M32
          refine WS.call rfl rfl rfl (ref_S_ran M32.here (Row.Sl.own (K := KStr) (l := [(writeE y58)]) (M32.at 0 rfl)) (by simp only [List.map_cons, List.map_nil, List.sum_cons, List.sum_nil, List.length_cons, List.length_nil]; omega) (r := (sb (writeE y58))) (by simp [List.flatMap])) ?_
          rintro _ h33 ⟨rfl, N34⟩
          have M35 := M32.trans N34
          refine WS.op rfl (op_sadd (l := out) (m := (sb (writeE y58))) rfl rfl (by first | (simp only [List.length_append, List.length_cons, List.length_nil]; omega) | (subst hO; simp only [List.length_append, List.length_cons, List.length_nil]; omega) | (have hft := flatMap_take_le m.es i (fun e => sb (writeE e)); subst hO; simp only [List.length_append, List.length_cons, List.length_nil]; omega))) (WS.op rfl rfl (WS.nil [(1, _), (3, _), (4, _)] rfl ?_))
          refine WC.run ?_
          refine WS.op rfl rfl (WS.opV (.int .i64 (((i + 1) : Nat) : Int)) rfl rfl (add_i64 (a := i) (b := 1) (by omega)) (WS.op rfl rfl (WS.nil [(1, _), (3, _), (4, _)] rfl ?_)))
          refine ⟨(out ++ sb (writeE y58), i + 1), rfl, ⟨(((((M35.bare.focus 4 rfl).focus 4 rfl).focus 4 rfl).focus 4 rfl).take 4), ?_⟩, ?_⟩
          · exact ⟨by rw [hO, flatMap_take_succ _ hy58, List.append_assoc], by omega⟩
          · simp only [] at *; omega
        · skip
          refine WS.nil [(1, _), (3, _), (4, _), (51, _)] rfl ?_
          refine WC.condF rfl ?_
          refine WC.exit ?_
          refine WC.seq ?_
          refine WC.run ?_
          refine WS.op rfl rfl (WS.op rfl rfl (WS.op rfl (op_ld (M26.at 3 rfl) rfl rfl) ?_))
          refine WS.bsl M26 [_] rfl rfl rfl rfl ?_
          intro p36 h37 M38
          refine WS.call rfl rfl rfl (ref_S_ran M38.here (Row.Sl.own (K := KStr) (l := [m.body]) (M38.at 0 rfl)) (by simp only [List.map_cons, List.map_nil, List.sum_cons, List.sum_nil, List.length_cons, List.length_nil]; omega) (r := (sb m.body)) (by simp [List.flatMap])) ?_
          rintro _ h39 ⟨rfl, N40⟩
          have M41 := M38.trans N40
          refine WS.op rfl (op_sadd (l := out) (m := (sb m.body)) rfl rfl (by first | (simp only [List.length_append, List.length_cons, List.length_nil]; omega) | (subst hO; simp only [List.length_append, List.length_cons, List.length_nil]; omega) | (have hft := flatMap_take_le m.es i (fun e => sb (writeE e)); subst hO; simp only [List.length_append, List.length_cons, List.length_nil]; omega))) (WS.op rfl rfl (WS.nil [(2, _)] rfl ?_))
          refine WC.ret ?_
          refine ⟨[_], (res_tmp rfl res_nil), ?_⟩
          have hft := flatMap_take_le m.es i (fun e => sb (writeE e))
          exact ⟨by rw [encM_of2 hb1 (o := 0) (by unfold okB; first | rw [hb2]; rfl | rfl), hO, flatMap_take_all (l := m.es) (i := i) _ (by omega)]; rfl, M41.bare.take 0⟩
    · skip
      refine WC.condT rfl ?_
      refine WC.run ?_
      have he8 := hes hb1
      have hfl := flat_len hs
      refine WS.op rfl rfl (WS.op rfl (op_sadd (l := ([m.kd, m.fr, m.to] ++ ((vb ((m.tm).toNat)) ++ (vb ((m.ix).toNat)) ++ (vb ((m.lt).toNat)) ++ (vb ((m.cm).toNat)) ++ (vb ((m.rd).toNat))))) (m := [1]) rfl rfl (by first | (simp only [List.length_append, List.length_cons, List.length_nil]; omega) | (subst hO; simp only [List.length_append, List.length_cons, List.length_nil]; omega) | (have hft := flatMap_take_le m.es i (fun e => sb (writeE e)); subst hO; simp only [List.length_append, List.length_cons, List.length_nil]; omega))) (WS.op rfl rfl (WS.nil [(1, _), (3, _)] rfl ?_)))
      refine WC.seq ?_
      refine WC.run ?_
      refine WS.op rfl rfl (WS.op rfl rfl (WS.op rfl (op_ld (M18.bare.at 2 rfl) rfl rfl) (WS.op rfl rfl (WS.op rfl (op_ld (M18.bare.at 2 rfl) rfl rfl) (WS.op rfl rfl (WS.op rfl (op_ld (M18.bare.at 2 rfl) rfl rfl) (WS.op rfl (op_lenVS A rfl) (WS.opV (.int .u8 (((UInt8.ofNat ((m.es).length)).toNat : Nat) : Int)) rfl rfl (u8_ofNat (n := (m.es).length)) ?_))))))))
      refine WS.bsl M18.bare [_, _, _] rfl rfl rfl rfl ?_
      intro p42 h43 M44
      refine WS.op rfl (op_cvB (l := [m.mb, m.se, UInt8.ofNat ((m.es).length)]) (M44.at 0 rfl) rfl rfl (Nat.le_of_ble_eq_true rfl) rfl) (WS.op rfl (op_sadd (l := (([m.kd, m.fr, m.to] ++ ((vb ((m.tm).toNat)) ++ (vb ((m.ix).toNat)) ++ (vb ((m.lt).toNat)) ++ (vb ((m.cm).toNat)) ++ (vb ((m.rd).toNat)))) ++ [1])) (m := [m.mb, m.se, UInt8.ofNat ((m.es).length)]) rfl rfl (by first | (simp only [List.length_append, List.length_cons, List.length_nil]; omega) | (subst hO; simp only [List.length_append, List.length_cons, List.length_nil]; omega) | (have hft := flatMap_take_le m.es i (fun e => sb (writeE e)); subst hO; simp only [List.length_append, List.length_cons, List.length_nil]; omega))) (WS.op rfl rfl (WS.nil [(1, _), (3, _)] rfl ?_)))
      refine WC.seq ?_
      refine WC.seq ?_
      refine WC.run ?_
      refine WS.op rfl rfl (WS.nil [(1, _), (3, _), (4, _)] rfl ?_)
      refine WC.block ?_
      obtain ⟨L45, eL47, M46⟩ := Mem.name M44.bare
      refine WC.loop (σ := List UInt8 × Nat) (fun ((out, i)) => [(1, (.pointer (some ⟨p1, 0, none⟩))), (3, (.string (bs out))), (4, (.int .i64 ((i : Nat) : Int)))]) (fun ((out, i)) hh => Mem h hh (L45) [] ∧ out = ((([m.kd, m.fr, m.to] ++ ((vb ((m.tm).toNat)) ++ (vb ((m.ix).toNat)) ++ (vb ((m.lt).toNat)) ++ (vb ((m.cm).toNat)) ++ (vb ((m.rd).toNat)))) ++ [1]) ++ [m.mb, m.se, UInt8.ofNat ((m.es).length)]) ++ (m.es.take i).flatMap (fun e => sb (writeE e)) ∧ i ≤ m.es.length) (fun ((out, i)) => m.es.length - i) (((([m.kd, m.fr, m.to] ++ ((vb ((m.tm).toNat)) ++ (vb ((m.ix).toNat)) ++ (vb ((m.lt).toNat)) ++ (vb ((m.cm).toNat)) ++ (vb ((m.rd).toNat)))) ++ [1]) ++ [m.mb, m.se, UInt8.ofNat ((m.es).length)]), 0) rfl ⟨M46, ?_⟩ ?_
      · exact ⟨by simp, by omega⟩
      · rintro ⟨out, i⟩ h48 ⟨M49, ⟨hO, hi1⟩⟩
        subst eL47
        refine WC.env [(1, _), (3, _), (4, _)] rfl ?_
        refine WC.seq ?_
        refine WC.seq ?_
        refine WC.run ?_
        refine WS.op rfl rfl (WS.op rfl rfl (WS.op rfl (op_ld (M49.at 3 rfl) rfl rfl) (WS.op rfl (op_lenVS A rfl) ?_)))
        refine WS.lssN (a := i) (b := (m.es).length) rfl rfl rfl (fun e51 => ?_) (fun e51 => ?_)
        · skip
          refine WS.nil [(1, _), (3, _), (4, _), (51, _)] rfl ?_
          refine WC.condT rfl ?_
          refine WC.skip ?_
          refine WC.seq ?_
          refine WC.block ?_
          refine WC.run ?_
          refine WS.op rfl rfl (WS.op rfl rfl (WS.op rfl (op_ld (M49.at 3 rfl) rfl rfl) (WS.op rfl rfl ?_)))
          obtain ⟨y58, hy58⟩ : ∃ y, (m.es)[i]? = some y := ⟨_, List.getElem?_eq_getElem (show i < (m.es).length by first | omega | (simp only [List.length_drop, List.length_take, List.length_append, List.length_cons, List.length_nil, List.length_singleton]; omega) | (simp only [List.length_drop, List.length_take, List.length_append, List.length_cons, List.length_nil, List.length_singleton] at *; omega))⟩
          refine WS.iaVS A i hy58 rfl rfl rfl rfl ?_
          intro b58_ o58_ ha58
          refine WS.op rfl (op_ldAt rfl (ha58.mono M49.sub) rfl) ?_
          have hsm := small_get hs hy58
          refine WS.call rfl rfl rfl (ref4_Write_ran M49.here (e := y58) (by omega)) ?_
          rintro _ h50 ⟨rfl, N51⟩
          have M52 := M49.trans N51
          have hsm := small_get hs hy58
          have hw := writeE_len (e := y58) (by omega)
          have hw2 := sb_len (t := writeE y58) (by omega)
          have hp : _ + (sb (writeE y58)).length ≤ _ := flat_part (fun e => sb (writeE e)) hy58
          have he8 := hes hb1
          have hfl := flat_len hs
          refine WS.bsl M52 [_] rfl rfl rfl rfl ?_
          intro p53 h54 M55
          refine WS.call rfl rfl rfl (ref_S_ran M55.here (Row.Sl.own (K := KStr) (l := [(writeE y58)]) (M55.at 0 rfl)) (by simp only [List.map_cons, List.map_nil, List.sum_cons, List.sum_nil, List.length_cons, List.length_nil]; omega) (r := (sb (writeE y58))) (by simp [List.flatMap])) ?_
          rintro _ h56 ⟨rfl, N57⟩
          have M58 := M55.trans N57
          refine WS.op rfl (op_sadd (l := out) (m := (sb (writeE y58))) rfl rfl (by first | (simp only [List.length_append, List.length_cons, List.length_nil]; omega) | (subst hO; simp only [List.length_append, List.length_cons, List.length_nil]; omega) | (have hft := flatMap_take_le m.es i (fun e => sb (writeE e)); subst hO; simp only [List.length_append, List.length_cons, List.length_nil]; omega))) (WS.op rfl rfl (WS.nil [(1, _), (3, _), (4, _)] rfl ?_))
          refine WC.run ?_
          refine WS.op rfl rfl (WS.opV (.int .i64 (((i + 1) : Nat) : Int)) rfl rfl (add_i64 (a := i) (b := 1) (by omega)) (WS.op rfl rfl (WS.nil [(1, _), (3, _), (4, _)] rfl ?_)))
          refine ⟨(out ++ sb (writeE y58), i + 1), rfl, ⟨(((((M58.bare.focus 4 rfl).focus 4 rfl).focus 4 rfl).focus 4 rfl).take 4), ?_⟩, ?_⟩
          · exact ⟨by rw [hO, flatMap_take_succ _ hy58, List.append_assoc], by omega⟩
          · simp only [] at *; omega
        · skip
          refine WS.nil [(1, _), (3, _), (4, _), (51, _)] rfl ?_
          refine WC.condF rfl ?_
          refine WC.exit ?_
          refine WC.seq ?_
          refine WC.run ?_
          refine WS.op rfl rfl (WS.op rfl rfl (WS.op rfl (op_ld (M49.at 3 rfl) rfl rfl) ?_))
          refine WS.bsl M49 [_] rfl rfl rfl rfl ?_
          intro p59 h60 M61
          refine WS.call rfl rfl rfl (ref_S_ran M61.here (Row.Sl.own (K := KStr) (l := [m.body]) (M61.at 0 rfl)) (by simp only [List.map_cons, List.map_nil, List.sum_cons, List.sum_nil, List.length_cons, List.length_nil]; omega) (r := (sb m.body)) (by simp [List.flatMap])) ?_
          rintro _ h62 ⟨rfl, N63⟩
          have M64 := M61.trans N63
          refine WS.op rfl (op_sadd (l := out) (m := (sb m.body)) rfl rfl (by first | (simp only [List.length_append, List.length_cons, List.length_nil]; omega) | (subst hO; simp only [List.length_append, List.length_cons, List.length_nil]; omega) | (have hft := flatMap_take_le m.es i (fun e => sb (writeE e)); subst hO; simp only [List.length_append, List.length_cons, List.length_nil]; omega))) (WS.op rfl rfl (WS.nil [(2, _)] rfl ?_))
          refine WC.ret ?_
          refine ⟨[_], (res_tmp rfl res_nil), ?_⟩
          have hft := flatMap_take_le m.es i (fun e => sb (writeE e))
          exact ⟨by rw [encM_of2 hb1 (o := 1) (by unfold okB; first | rw [hb2]; rfl | rfl), hO, flatMap_take_all (l := m.es) (i := i) _ (by omega)]; rfl, M64.bare.take 0⟩
omit base L R in
theorem ref5_Same_ran (W : Mem h h [] []) {m n : Msg} {V0 V1 : Value} (A : KEnt.Sl h V0 m.es) (A1 : KEnt.Sl h V1 n.es) (hl : m.es.length < 9223372036854775808) : Cll tab0 18 [m.val V0, n.val V1] h (fun v h2 => v = .bool (sameM m n) ∧ Mem h h2 [] []) := by
  obtain ⟨P, c, rfl⟩ := A.shape
  obtain ⟨P1, c1, rfl⟩ := A1.shape
  refine Cll.code rfl rfl ?_
  refine WC.env [(0, _), (1, _)] rfl ?_
  refine WC.seq ?_
  refine WC.run ?_
  refine WS.box W [_, _, _, _, _, _, _, _, _, _, _, _, _] rfl rfl rfl rfl ?_
  intro p1 h2 M3
  refine WS.box M3 [_, _, _, _, _, _, _, _, _, _, _, _, _] rfl rfl rfl rfl ?_
  intro p4 h5 M6
  refine WS.op rfl rfl (WS.nil [(2, _), (3, _)] rfl ?_)
  refine WC.seq ?_
  refine WC.seq ?_
  refine WC.run ?_
  refine WS.op rfl rfl (WS.op rfl (op_ld (M6.at 1 rfl) rfl rfl) (WS.op rfl (op_lenVS A rfl) (WS.op rfl rfl (WS.op rfl (op_ld (M6.at 0 rfl) rfl rfl) (WS.op rfl (op_lenVS A1 rfl) ?_)))))
  refine WS.neqN (a := (m.es).length) (b := (n.es).length) rfl rfl rfl (fun e12 => ?_) (fun e12 => ?_)
  · skip
    refine WS.nil [(2, _), (3, _), (12, _)] rfl ?_
    refine WC.condT rfl ?_
    refine WC.seq ?_
    refine WC.run ?_
    refine WS.op rfl rfl (WS.nil [(4, _)] rfl ?_)
    refine WC.ret ?_
    refine ⟨[_], (res_tmp rfl res_nil), ?_⟩
    exact ⟨vbf fun q => e12 (by rw [q]), M6.bare.take 0⟩
  · skip
    refine WS.nil [(2, _), (3, _), (12, _)] rfl ?_
    refine WC.condF rfl ?_
    refine WC.skip ?_
    refine WC.seq ?_
    refine WC.seq ?_
    refine WC.run ?_
    refine WS.op rfl rfl (WS.nil [(2, _), (3, _), (5, _)] rfl ?_)
    refine WC.block ?_
    obtain ⟨L7, eL9, M8⟩ := Mem.name M6.bare
    refine WC.loop (σ := Nat) (fun (i) => [(2, (.pointer (some ⟨p1, 0, none⟩))), (3, (.pointer (some ⟨p4, 0, none⟩))), (5, (.int .i64 ((i : Nat) : Int)))]) (fun (i) hh => Mem h hh (L7) [] ∧ EqTo m.es n.es i ∧ i ≤ m.es.length) (fun (i) => m.es.length - i) (0) rfl ⟨M8, ?_⟩ ?_
    · exact ⟨rfl, by omega⟩
    · rintro i h10 ⟨M11, ⟨hO, hi1⟩⟩
      subst eL9
      refine WC.env [(2, _), (3, _), (5, _)] rfl ?_
      refine WC.seq ?_
      refine WC.seq ?_
      refine WC.run ?_
      refine WS.op rfl rfl (WS.op rfl rfl (WS.op rfl (op_ld (M11.at 1 rfl) rfl rfl) (WS.op rfl (op_lenVS A rfl) ?_)))
      refine WS.lssN (a := i) (b := (m.es).length) rfl rfl rfl (fun e17 => ?_) (fun e17 => ?_)
      · skip
        refine WS.nil [(2, _), (3, _), (5, _), (17, _)] rfl ?_
        refine WC.condT rfl ?_
        refine WC.skip ?_
        refine WC.seq ?_
        refine WC.block ?_
        refine WC.seq ?_
        refine WC.draw M11 [] rfl ?_
        intro rb12 h13 M14
        refine WS.op rfl rfl (WS.op rfl (op_ld (M14.at 1 rfl) rfl rfl) (WS.op rfl rfl ?_))
        obtain ⟨y23, hy23⟩ : ∃ y, (m.es)[i]? = some y := ⟨_, List.getElem?_eq_getElem (show i < (m.es).length by first | omega | (simp only [List.length_drop, List.length_take, List.length_append, List.length_cons, List.length_nil, List.length_singleton]; omega) | (simp only [List.length_drop, List.length_take, List.length_append, List.length_cons, List.length_nil, List.length_singleton] at *; omega))⟩
        refine WS.iaVS A i hy23 rfl rfl rfl rfl ?_
        intro b23_ o23_ ha23
        refine WS.op rfl (op_ldAt rfl (ha23.mono M14.sub) rfl) (WS.op rfl rfl (WS.op rfl (op_ld (M14.at 0 rfl) rfl rfl) (WS.op rfl rfl ?_)))
        obtain ⟨y28, hy28⟩ : ∃ y, (n.es)[i]? = some y := ⟨_, List.getElem?_eq_getElem (show i < (n.es).length by first | omega | (simp only [List.length_drop, List.length_take, List.length_append, List.length_cons, List.length_nil, List.length_singleton]; omega) | (simp only [List.length_drop, List.length_take, List.length_append, List.length_cons, List.length_nil, List.length_singleton] at *; omega))⟩
        refine WS.iaVS A1 i hy28 rfl rfl rfl rfl ?_
        intro b28_ o28_ ha28
        refine WS.op rfl (op_ldAt rfl (ha28.mono M14.sub) rfl) ?_
        refine WS.eqqDn (p := y23 = y28) rfl rfl rfl (Ent_eqV _ _) (fun e30 => ?_) (fun e30 => ?_)
        · skip
          refine WS.nil [(2, _), (3, _), (5, _), (30, _)] rfl ?_
          refine WC.condT rfl ?_
          refine WC.seq ?_
          refine WC.run ?_
          refine WS.op rfl rfl (WS.nil [(4, _)] rfl ?_)
          refine WC.ret ?_
          refine ⟨[_], (res_tmp rfl res_nil), ?_⟩
          exact ⟨vbf fun q => EqTo_not hy23 hy28 e30 (by rw [q]), M14.bare.bare.take 0⟩
        · skip
          refine WS.nil [(2, _), (3, _), (5, _), (30, _)] rfl ?_
          refine WC.condF rfl ?_
          refine WC.skip ?_
          refine WC.run ?_
          refine WS.op rfl rfl (WS.opV (.int .i64 (((i + 1) : Nat) : Int)) rfl rfl (add_i64 (a := i) (b := 1) (by omega)) (WS.op rfl rfl (WS.nil [(2, _), (3, _), (5, _)] rfl ?_)))
          refine ⟨i + 1, rfl, ⟨(((M14.bare.bare.focus 1 rfl).focus 1 rfl).take 2), ?_⟩, ?_⟩
          · exact ⟨EqTo_step hO hy23 hy28 e30, by omega⟩
          · simp only [] at *; omega
      · skip
        refine WS.nil [(2, _), (3, _), (5, _), (17, _)] rfl ?_
        refine WC.condF rfl ?_
        refine WC.exit ?_
        refine WC.seq ?_
        refine WC.run ?_
        refine WS.op rfl rfl (WS.op rfl (op_ld (M11.at 1 rfl) rfl rfl) (WS.op rfl rfl (WS.op rfl (op_ld (M11.at 0 rfl) rfl rfl) ?_)))
        refine WS.eqlN (a := (m.kd).toNat) (b := (n.kd).toNat) rfl rfl rfl (fun e35 => ?_) (fun e35 => ?_)
        · skip
          refine WS.op rfl rfl (WS.op rfl rfl (WS.op rfl (op_ld (M11.at 1 rfl) rfl rfl) (WS.op rfl rfl (WS.op rfl (op_ld (M11.at 0 rfl) rfl rfl) ?_))))
          refine WS.eqlN (a := (m.fr).toNat) (b := (n.fr).toNat) rfl rfl rfl (fun e41 => ?_) (fun e41 => ?_)
          · skip
            refine WS.op rfl rfl (WS.op rfl rfl (WS.op rfl rfl (WS.op rfl (op_ld (M11.at 1 rfl) rfl rfl) (WS.op rfl rfl (WS.op rfl (op_ld (M11.at 0 rfl) rfl rfl) ?_)))))
            refine WS.eqlN (a := (m.to).toNat) (b := (n.to).toNat) rfl rfl rfl (fun e48 => ?_) (fun e48 => ?_)
            · skip
              refine WS.op rfl rfl (WS.op rfl rfl (WS.op rfl rfl (WS.op rfl (op_ld (M11.at 1 rfl) rfl rfl) (WS.op rfl rfl (WS.op rfl (op_ld (M11.at 0 rfl) rfl rfl) ?_)))))
              refine WS.eqlN (a := (m.tm).toNat) (b := (n.tm).toNat) rfl rfl rfl (fun e55 => ?_) (fun e55 => ?_)
              · skip
                refine WS.op rfl rfl (WS.op rfl rfl (WS.op rfl rfl (WS.op rfl (op_ld (M11.at 1 rfl) rfl rfl) (WS.op rfl rfl (WS.op rfl (op_ld (M11.at 0 rfl) rfl rfl) ?_)))))
                refine WS.eqlN (a := (m.ix).toNat) (b := (n.ix).toNat) rfl rfl rfl (fun e62 => ?_) (fun e62 => ?_)
                · skip
                  refine WS.op rfl rfl (WS.op rfl rfl (WS.op rfl rfl (WS.op rfl (op_ld (M11.at 1 rfl) rfl rfl) (WS.op rfl rfl (WS.op rfl (op_ld (M11.at 0 rfl) rfl rfl) ?_)))))
                  refine WS.eqlN (a := (m.lt).toNat) (b := (n.lt).toNat) rfl rfl rfl (fun e69 => ?_) (fun e69 => ?_)
                  · skip
                    refine WS.op rfl rfl (WS.op rfl rfl (WS.op rfl rfl (WS.op rfl (op_ld (M11.at 1 rfl) rfl rfl) (WS.op rfl rfl (WS.op rfl (op_ld (M11.at 0 rfl) rfl rfl) ?_)))))
                    refine WS.eqlN (a := (m.cm).toNat) (b := (n.cm).toNat) rfl rfl rfl (fun e76 => ?_) (fun e76 => ?_)
                    · skip
                      refine WS.op rfl rfl (WS.op rfl rfl (WS.op rfl rfl (WS.op rfl (op_ld (M11.at 1 rfl) rfl rfl) (WS.op rfl rfl (WS.op rfl (op_ld (M11.at 0 rfl) rfl rfl) ?_)))))
                      refine WS.eqlN (a := (m.rd).toNat) (b := (n.rd).toNat) rfl rfl rfl (fun e83 => ?_) (fun e83 => ?_)
                      · skip
                        refine WS.op rfl rfl (WS.op rfl rfl (WS.op rfl rfl (WS.op rfl (op_ld (M11.at 1 rfl) rfl rfl) (WS.op rfl rfl (WS.op rfl (op_ld (M11.at 0 rfl) rfl rfl) ?_)))))
                        cases hb1 : m.ok
                        · skip
                          cases hb2 : n.ok
                          · skip
                            refine WS.opV (.bool true) rfl rfl rfl (WS.op rfl rfl (WS.op rfl rfl (WS.op rfl rfl (WS.op rfl (op_ld (M11.at 1 rfl) rfl rfl) (WS.op rfl rfl (WS.op rfl (op_ld (M11.at 0 rfl) rfl rfl) ?_))))))
                            refine WS.eqlN (a := (m.mb).toNat) (b := (n.mb).toNat) rfl rfl rfl (fun e97 => ?_) (fun e97 => ?_)
                            · skip
                              refine WS.op rfl rfl (WS.op rfl rfl (WS.op rfl rfl (WS.op rfl (op_ld (M11.at 1 rfl) rfl rfl) (WS.op rfl rfl (WS.op rfl (op_ld (M11.at 0 rfl) rfl rfl) ?_)))))
                              refine WS.eqlN (a := (m.se).toNat) (b := (n.se).toNat) rfl rfl rfl (fun e104 => ?_) (fun e104 => ?_)
                              · skip
                                refine WS.op rfl rfl (WS.op rfl rfl (WS.op rfl rfl (WS.op rfl (op_ld (M11.at 1 rfl) rfl rfl) (WS.op rfl rfl (WS.op rfl (op_ld (M11.at 0 rfl) rfl rfl) ?_)))))
                                refine WS.seql (l := m.body) (m := n.body) rfl rfl rfl (fun e111 => ?_) (fun e111 => ?_)
                                · skip
                                  refine WS.op rfl rfl (WS.op rfl rfl (WS.nil [(4, _)] rfl ?_))
                                  refine WC.ret ?_
                                  refine ⟨[_], (res_tmp rfl res_nil), ?_⟩
                                  exact ⟨vbt (msg_ext (EqTo_all hO (by omega) (by omega)) (by assumption) (by simp_all) ⟨by assumption, by assumption, by assumption, by assumption, by assumption⟩ ⟨by assumption, by assumption, by assumption, by assumption, by assumption⟩), M11.bare.take 0⟩
                                · skip
                                  refine WS.op rfl rfl (WS.op rfl rfl (WS.nil [(4, _)] rfl ?_))
                                  refine WC.ret ?_
                                  refine ⟨[_], (res_tmp rfl res_nil), ?_⟩
                                  exact ⟨vbf fun q => (by subst q; simp_all), M11.bare.take 0⟩
                              · skip
                                refine WS.op rfl rfl (WS.op rfl rfl (WS.off rfl (WS.off rfl (WS.off rfl (WS.off rfl (WS.off rfl (WS.op rfl rfl (WS.op rfl rfl (WS.nil [(4, _)] rfl ?_)))))))))
                                refine WC.ret ?_
                                refine ⟨[_], (res_tmp rfl res_nil), ?_⟩
                                exact ⟨vbf fun q => (by subst q; simp_all), M11.bare.take 0⟩
                            · skip
                              refine WS.op rfl rfl (WS.op rfl rfl (WS.off rfl (WS.off rfl (WS.off rfl (WS.off rfl (WS.off rfl (WS.op rfl rfl (WS.op rfl rfl (WS.off rfl ?_)))))))))
                              refine WS.off rfl (WS.off rfl (WS.off rfl (WS.off rfl (WS.op rfl rfl (WS.op rfl rfl (WS.nil [(4, _)] rfl ?_))))))
                              refine WC.ret ?_
                              refine ⟨[_], (res_tmp rfl res_nil), ?_⟩
                              exact ⟨vbf fun q => (by subst q; simp_all), M11.bare.take 0⟩
                          · skip
                            refine WS.opV (.bool false) rfl rfl rfl (WS.op rfl rfl (WS.op rfl rfl (WS.off rfl (WS.off rfl (WS.off rfl (WS.off rfl (WS.off rfl (WS.op rfl rfl (WS.op rfl rfl ?_)))))))))
                            refine WS.off rfl (WS.off rfl (WS.off rfl (WS.off rfl (WS.off rfl (WS.op rfl rfl (WS.op rfl rfl (WS.off rfl (WS.off rfl (WS.off rfl ?_)))))))))
                            refine WS.off rfl (WS.off rfl (WS.op rfl rfl (WS.op rfl rfl (WS.nil [(4, _)] rfl ?_))))
                            refine WC.ret ?_
                            refine ⟨[_], (res_tmp rfl res_nil), ?_⟩
                            exact ⟨vbf fun q => (by subst q; simp_all), M11.bare.take 0⟩
                        · skip
                          cases hb2 : n.ok
                          · skip
                            refine WS.opV (.bool false) rfl rfl rfl (WS.op rfl rfl (WS.op rfl rfl (WS.off rfl (WS.off rfl (WS.off rfl (WS.off rfl (WS.off rfl (WS.op rfl rfl (WS.op rfl rfl ?_)))))))))
                            refine WS.off rfl (WS.off rfl (WS.off rfl (WS.off rfl (WS.off rfl (WS.op rfl rfl (WS.op rfl rfl (WS.off rfl (WS.off rfl (WS.off rfl ?_)))))))))
                            refine WS.off rfl (WS.off rfl (WS.op rfl rfl (WS.op rfl rfl (WS.nil [(4, _)] rfl ?_))))
                            refine WC.ret ?_
                            refine ⟨[_], (res_tmp rfl res_nil), ?_⟩
                            exact ⟨vbf fun q => (by subst q; simp_all), M11.bare.take 0⟩
                          · skip
                            refine WS.opV (.bool true) rfl rfl rfl (WS.op rfl rfl (WS.op rfl rfl (WS.op rfl rfl (WS.op rfl (op_ld (M11.at 1 rfl) rfl rfl) (WS.op rfl rfl (WS.op rfl (op_ld (M11.at 0 rfl) rfl rfl) ?_))))))
                            refine WS.eqlN (a := (m.mb).toNat) (b := (n.mb).toNat) rfl rfl rfl (fun e97 => ?_) (fun e97 => ?_)
                            · skip
                              refine WS.op rfl rfl (WS.op rfl rfl (WS.op rfl rfl (WS.op rfl (op_ld (M11.at 1 rfl) rfl rfl) (WS.op rfl rfl (WS.op rfl (op_ld (M11.at 0 rfl) rfl rfl) ?_)))))
                              refine WS.eqlN (a := (m.se).toNat) (b := (n.se).toNat) rfl rfl rfl (fun e104 => ?_) (fun e104 => ?_)
                              · skip
                                refine WS.op rfl rfl (WS.op rfl rfl (WS.op rfl rfl (WS.op rfl (op_ld (M11.at 1 rfl) rfl rfl) (WS.op rfl rfl (WS.op rfl (op_ld (M11.at 0 rfl) rfl rfl) ?_)))))
                                refine WS.seql (l := m.body) (m := n.body) rfl rfl rfl (fun e111 => ?_) (fun e111 => ?_)
                                · skip
                                  refine WS.op rfl rfl (WS.op rfl rfl (WS.nil [(4, _)] rfl ?_))
                                  refine WC.ret ?_
                                  refine ⟨[_], (res_tmp rfl res_nil), ?_⟩
                                  exact ⟨vbt (msg_ext (EqTo_all hO (by omega) (by omega)) (by assumption) (by simp_all) ⟨by assumption, by assumption, by assumption, by assumption, by assumption⟩ ⟨by assumption, by assumption, by assumption, by assumption, by assumption⟩), M11.bare.take 0⟩
                                · skip
                                  refine WS.op rfl rfl (WS.op rfl rfl (WS.nil [(4, _)] rfl ?_))
                                  refine WC.ret ?_
                                  refine ⟨[_], (res_tmp rfl res_nil), ?_⟩
                                  exact ⟨vbf fun q => (by subst q; simp_all), M11.bare.take 0⟩
                              · skip
                                refine WS.op rfl rfl (WS.op rfl rfl (WS.off rfl (WS.off rfl (WS.off rfl (WS.off rfl (WS.off rfl (WS.op rfl rfl (WS.op rfl rfl (WS.nil [(4, _)] rfl ?_)))))))))
                                refine WC.ret ?_
                                refine ⟨[_], (res_tmp rfl res_nil), ?_⟩
                                exact ⟨vbf fun q => (by subst q; simp_all), M11.bare.take 0⟩
                            · skip
                              refine WS.op rfl rfl (WS.op rfl rfl (WS.off rfl (WS.off rfl (WS.off rfl (WS.off rfl (WS.off rfl (WS.op rfl rfl (WS.op rfl rfl (WS.off rfl ?_)))))))))
                              refine WS.off rfl (WS.off rfl (WS.off rfl (WS.off rfl (WS.op rfl rfl (WS.op rfl rfl (WS.nil [(4, _)] rfl ?_))))))
                              refine WC.ret ?_
                              refine ⟨[_], (res_tmp rfl res_nil), ?_⟩
                              exact ⟨vbf fun q => (by subst q; simp_all), M11.bare.take 0⟩
                      · skip
                        refine WS.op rfl rfl (WS.op rfl rfl (WS.off rfl (WS.off rfl (WS.off rfl (WS.off rfl (WS.off rfl (WS.op rfl rfl (WS.op rfl rfl (WS.off rfl ?_)))))))))
                        refine WS.off rfl (WS.off rfl (WS.off rfl (WS.off rfl (WS.op rfl rfl (WS.op rfl rfl (WS.off rfl (WS.off rfl (WS.off rfl (WS.off rfl ?_)))))))))
                        refine WS.off rfl (WS.op rfl rfl (WS.op rfl rfl (WS.off rfl (WS.off rfl (WS.off rfl (WS.off rfl (WS.off rfl (WS.op rfl rfl (WS.op rfl rfl ?_)))))))))
                        refine WS.nil [(4, _)] rfl ?_
                        refine WC.ret ?_
                        refine ⟨[_], (res_tmp rfl res_nil), ?_⟩
                        exact ⟨vbf fun q => (by subst q; simp_all), M11.bare.take 0⟩
                    · skip
                      refine WS.op rfl rfl (WS.op rfl rfl (WS.off rfl (WS.off rfl (WS.off rfl (WS.off rfl (WS.off rfl (WS.op rfl rfl (WS.op rfl rfl (WS.off rfl ?_)))))))))
                      refine WS.off rfl (WS.off rfl (WS.off rfl (WS.off rfl (WS.op rfl rfl (WS.op rfl rfl (WS.off rfl (WS.off rfl (WS.off rfl (WS.off rfl ?_)))))))))
                      refine WS.off rfl (WS.op rfl rfl (WS.op rfl rfl (WS.off rfl (WS.off rfl (WS.off rfl (WS.off rfl (WS.off rfl (WS.op rfl rfl (WS.op rfl rfl ?_)))))))))
                      refine WS.off rfl (WS.off rfl (WS.off rfl (WS.off rfl (WS.off rfl (WS.op rfl rfl (WS.op rfl rfl (WS.nil [(4, _)] rfl ?_)))))))
                      refine WC.ret ?_
                      refine ⟨[_], (res_tmp rfl res_nil), ?_⟩
                      exact ⟨vbf fun q => (by subst q; simp_all), M11.bare.take 0⟩
                  · skip
                    refine WS.op rfl rfl (WS.op rfl rfl (WS.off rfl (WS.off rfl (WS.off rfl (WS.off rfl (WS.off rfl (WS.op rfl rfl (WS.op rfl rfl (WS.off rfl ?_)))))))))
                    refine WS.off rfl (WS.off rfl (WS.off rfl (WS.off rfl (WS.op rfl rfl (WS.op rfl rfl (WS.off rfl (WS.off rfl (WS.off rfl (WS.off rfl ?_)))))))))
                    refine WS.off rfl (WS.op rfl rfl (WS.op rfl rfl (WS.off rfl (WS.off rfl (WS.off rfl (WS.off rfl (WS.off rfl (WS.op rfl rfl (WS.op rfl rfl ?_)))))))))
                    refine WS.off rfl (WS.off rfl (WS.off rfl (WS.off rfl (WS.off rfl (WS.op rfl rfl (WS.op rfl rfl (WS.off rfl (WS.off rfl (WS.off rfl ?_)))))))))
                    refine WS.off rfl (WS.off rfl (WS.op rfl rfl (WS.op rfl rfl (WS.nil [(4, _)] rfl ?_))))
                    refine WC.ret ?_
                    refine ⟨[_], (res_tmp rfl res_nil), ?_⟩
                    exact ⟨vbf fun q => (by subst q; simp_all), M11.bare.take 0⟩
                · skip
                  refine WS.op rfl rfl (WS.op rfl rfl (WS.off rfl (WS.off rfl (WS.off rfl (WS.off rfl (WS.off rfl (WS.op rfl rfl (WS.op rfl rfl (WS.off rfl ?_)))))))))
                  refine WS.off rfl (WS.off rfl (WS.off rfl (WS.off rfl (WS.op rfl rfl (WS.op rfl rfl (WS.off rfl (WS.off rfl (WS.off rfl (WS.off rfl ?_)))))))))
                  refine WS.off rfl (WS.op rfl rfl (WS.op rfl rfl (WS.off rfl (WS.off rfl (WS.off rfl (WS.off rfl (WS.off rfl (WS.op rfl rfl (WS.op rfl rfl ?_)))))))))
                  refine WS.off rfl (WS.off rfl (WS.off rfl (WS.off rfl (WS.off rfl (WS.op rfl rfl (WS.op rfl rfl (WS.off rfl (WS.off rfl (WS.off rfl ?_)))))))))
                  refine WS.off rfl (WS.off rfl (WS.op rfl rfl (WS.op rfl rfl (WS.off rfl (WS.off rfl (WS.off rfl (WS.off rfl (WS.off rfl (WS.op rfl rfl ?_)))))))))
                  refine WS.op rfl rfl (WS.nil [(4, _)] rfl ?_)
                  refine WC.ret ?_
                  refine ⟨[_], (res_tmp rfl res_nil), ?_⟩
                  exact ⟨vbf fun q => (by subst q; simp_all), M11.bare.take 0⟩
              · skip
                refine WS.op rfl rfl (WS.op rfl rfl (WS.off rfl (WS.off rfl (WS.off rfl (WS.off rfl (WS.off rfl (WS.op rfl rfl (WS.op rfl rfl (WS.off rfl ?_)))))))))
                refine WS.off rfl (WS.off rfl (WS.off rfl (WS.off rfl (WS.op rfl rfl (WS.op rfl rfl (WS.off rfl (WS.off rfl (WS.off rfl (WS.off rfl ?_)))))))))
                refine WS.off rfl (WS.op rfl rfl (WS.op rfl rfl (WS.off rfl (WS.off rfl (WS.off rfl (WS.off rfl (WS.off rfl (WS.op rfl rfl (WS.op rfl rfl ?_)))))))))
                refine WS.off rfl (WS.off rfl (WS.off rfl (WS.off rfl (WS.off rfl (WS.op rfl rfl (WS.op rfl rfl (WS.off rfl (WS.off rfl (WS.off rfl ?_)))))))))
                refine WS.off rfl (WS.off rfl (WS.op rfl rfl (WS.op rfl rfl (WS.off rfl (WS.off rfl (WS.off rfl (WS.off rfl (WS.off rfl (WS.op rfl rfl ?_)))))))))
                refine WS.op rfl rfl (WS.off rfl (WS.off rfl (WS.off rfl (WS.off rfl (WS.off rfl (WS.op rfl rfl (WS.op rfl rfl (WS.nil [(4, _)] rfl ?_))))))))
                refine WC.ret ?_
                refine ⟨[_], (res_tmp rfl res_nil), ?_⟩
                exact ⟨vbf fun q => (by subst q; simp_all), M11.bare.take 0⟩
            · skip
              refine WS.op rfl rfl (WS.op rfl rfl (WS.off rfl (WS.off rfl (WS.off rfl (WS.off rfl (WS.off rfl (WS.op rfl rfl (WS.op rfl rfl (WS.off rfl ?_)))))))))
              refine WS.off rfl (WS.off rfl (WS.off rfl (WS.off rfl (WS.op rfl rfl (WS.op rfl rfl (WS.off rfl (WS.off rfl (WS.off rfl (WS.off rfl ?_)))))))))
              refine WS.off rfl (WS.op rfl rfl (WS.op rfl rfl (WS.off rfl (WS.off rfl (WS.off rfl (WS.off rfl (WS.off rfl (WS.op rfl rfl (WS.op rfl rfl ?_)))))))))
              refine WS.off rfl (WS.off rfl (WS.off rfl (WS.off rfl (WS.off rfl (WS.op rfl rfl (WS.op rfl rfl (WS.off rfl (WS.off rfl (WS.off rfl ?_)))))))))
              refine WS.off rfl (WS.off rfl (WS.op rfl rfl (WS.op rfl rfl (WS.off rfl (WS.off rfl (WS.off rfl (WS.off rfl (WS.off rfl (WS.op rfl rfl ?_)))))))))
              refine WS.op rfl rfl (WS.off rfl (WS.off rfl (WS.off rfl (WS.off rfl (WS.off rfl (WS.op rfl rfl (WS.op rfl rfl (WS.off rfl (WS.off rfl ?_)))))))))
              refine WS.off rfl (WS.off rfl (WS.off rfl (WS.op rfl rfl (WS.op rfl rfl (WS.nil [(4, _)] rfl ?_)))))
              refine WC.ret ?_
              refine ⟨[_], (res_tmp rfl res_nil), ?_⟩
              exact ⟨vbf fun q => (by subst q; simp_all), M11.bare.take 0⟩
          · skip
            refine WS.op rfl rfl (WS.op rfl rfl (WS.off rfl (WS.off rfl (WS.off rfl (WS.off rfl (WS.off rfl (WS.op rfl rfl (WS.op rfl rfl (WS.off rfl ?_)))))))))
            refine WS.off rfl (WS.off rfl (WS.off rfl (WS.off rfl (WS.op rfl rfl (WS.op rfl rfl (WS.off rfl (WS.off rfl (WS.off rfl (WS.off rfl ?_)))))))))
            refine WS.off rfl (WS.op rfl rfl (WS.op rfl rfl (WS.off rfl (WS.off rfl (WS.off rfl (WS.off rfl (WS.off rfl (WS.op rfl rfl (WS.op rfl rfl ?_)))))))))
            refine WS.off rfl (WS.off rfl (WS.off rfl (WS.off rfl (WS.off rfl (WS.op rfl rfl (WS.op rfl rfl (WS.off rfl (WS.off rfl (WS.off rfl ?_)))))))))
            refine WS.off rfl (WS.off rfl (WS.op rfl rfl (WS.op rfl rfl (WS.off rfl (WS.off rfl (WS.off rfl (WS.off rfl (WS.off rfl (WS.op rfl rfl ?_)))))))))
            refine WS.op rfl rfl (WS.off rfl (WS.off rfl (WS.off rfl (WS.off rfl (WS.off rfl (WS.op rfl rfl (WS.op rfl rfl (WS.off rfl (WS.off rfl ?_)))))))))
            refine WS.off rfl (WS.off rfl (WS.off rfl (WS.op rfl rfl (WS.op rfl rfl (WS.off rfl (WS.off rfl (WS.off rfl (WS.off rfl (WS.off rfl ?_)))))))))
            refine WS.op rfl rfl (WS.op rfl rfl (WS.nil [(4, _)] rfl ?_))
            refine WC.ret ?_
            refine ⟨[_], (res_tmp rfl res_nil), ?_⟩
            exact ⟨vbf fun q => (by subst q; simp_all), M11.bare.take 0⟩
        · skip
          refine WS.op rfl rfl (WS.off rfl (WS.off rfl (WS.off rfl (WS.off rfl (WS.off rfl (WS.op rfl rfl (WS.op rfl rfl (WS.off rfl (WS.off rfl ?_)))))))))
          refine WS.off rfl (WS.off rfl (WS.off rfl (WS.op rfl rfl (WS.op rfl rfl (WS.off rfl (WS.off rfl (WS.off rfl (WS.off rfl (WS.off rfl ?_)))))))))
          refine WS.op rfl rfl (WS.op rfl rfl (WS.off rfl (WS.off rfl (WS.off rfl (WS.off rfl (WS.off rfl (WS.op rfl rfl (WS.op rfl rfl (WS.off rfl ?_)))))))))
          refine WS.off rfl (WS.off rfl (WS.off rfl (WS.off rfl (WS.op rfl rfl (WS.op rfl rfl (WS.off rfl (WS.off rfl (WS.off rfl (WS.off rfl ?_)))))))))
          refine WS.off rfl (WS.op rfl rfl (WS.op rfl rfl (WS.off rfl (WS.off rfl (WS.off rfl (WS.off rfl (WS.off rfl (WS.op rfl rfl (WS.op rfl rfl ?_)))))))))
          refine WS.off rfl (WS.off rfl (WS.off rfl (WS.off rfl (WS.off rfl (WS.op rfl rfl (WS.op rfl rfl (WS.off rfl (WS.off rfl (WS.off rfl ?_)))))))))
          refine WS.off rfl (WS.off rfl (WS.op rfl rfl (WS.op rfl rfl (WS.off rfl (WS.off rfl (WS.off rfl (WS.off rfl (WS.off rfl (WS.op rfl rfl ?_)))))))))
          refine WS.op rfl rfl (WS.off rfl (WS.off rfl (WS.off rfl (WS.off rfl (WS.off rfl (WS.op rfl rfl (WS.op rfl rfl (WS.nil [(4, _)] rfl ?_))))))))
          refine WC.ret ?_
          refine ⟨[_], (res_tmp rfl res_nil), ?_⟩
          exact ⟨vbf fun q => (by subst q; simp_all), M11.bare.take 0⟩
def nums (m : Msg) : List Nat := [m.tm.toNat, m.ix.toNat, m.lt.toNat, m.cm.toNat, m.rd.toNat]
def tail1 (m : Msg) : List UInt8 := okB m :: m.mb :: m.se :: UInt8.ofNat m.es.length :: bodyM m.es m.body
theorem encM_eq (m : Msg) : encM m = m.kd :: m.fr :: m.to :: ((nums m).flatMap vb ++ tail1 m) := by simp [encM, headM, nums, tail1, bodyM]
theorem nums_lt (m : Msg) : ∀ n ∈ nums m, n < 18446744073709551616 := by
  have h1 := m.tm.toNat_lt
  have h2 := m.ix.toNat_lt
  have h3 := m.lt.toNat_lt
  have h4 := m.cm.toNat_lt
  have h5 := m.rd.toNat_lt
  intro n hn
  simp only [nums, List.mem_cons, List.mem_nil_iff, or_false] at hn
  omega
def P1 (l : List UInt8) (ns : List Nat) (a : Nat) : Prop := ∀ m0, RightM m0 → encM m0 = l → ns = (nums m0).take ns.length ∧ l.drop a = ((nums m0).drop ns.length).flatMap vb ++ tail1 m0
theorem P1_zero (l : List UInt8) : P1 l [] 3 := fun m0 hr he => ⟨rfl, by rw [← he, encM_eq]; rfl⟩
theorem P1_step {l : List UInt8} {ns : List Nat} {a : Nat} (h : P1 l ns a) (hn : ns.length < 5) : (rvOK (l.drop a) = false → ∀ m0, RightM m0 → encM m0 ≠ l) ∧ P1 l (ns ++ [rvN (l.drop a)]) (a + rvK (l.drop a)) := by
  have key : ∀ m0, RightM m0 → encM m0 = l → ∃ x, (nums m0)[ns.length]? = some x ∧ getV (l.drop a) = some (x, (vb x).length) ∧ (l.drop a).drop (vb x).length = ((nums m0).drop (ns.length + 1)).flatMap vb ++ tail1 m0 := fun m0 hr he => by
    obtain ⟨h1, h2⟩ := h m0 hr he
    have hi : ns.length < (nums m0).length := hn
    have e2 : l.drop a = vb (nums m0)[ns.length] ++ (((nums m0).drop (ns.length + 1)).flatMap vb ++ tail1 m0) := by rw [h2, List.drop_eq_getElem_cons hi, List.flatMap_cons, List.append_assoc]
    refine ⟨(nums m0)[ns.length], List.getElem?_eq_getElem hi, ?_, ?_⟩
    · rw [e2]; exact getV_vb (nums_lt m0 _ (List.getElem_mem hi)) _
    · rw [e2, List.drop_left]
  refine ⟨fun hb m0 hr he => ?_, fun m0 hr he => ?_⟩
  · obtain ⟨x, _, k2, _⟩ := key m0 hr he
    have := (rv_eq_some k2).2.2; rw [hb] at this; cases this
  · obtain ⟨x, k1, k2, k3⟩ := key m0 hr he
    obtain ⟨e1, e2, e3⟩ := rv_eq_some k2
    rw [List.length_append, List.length_singleton]
    refine ⟨by rw [List.take_add_one, k1, e1, ← (h m0 hr he).1]; rfl, ?_⟩
    rw [← List.drop_drop, e2, k3]
theorem split_v {l A : List UInt8} {a : Nat} (h : l = A ++ l.drop a) (hv : rvOK (l.drop a) = true) : l = (A ++ vb (rvN (l.drop a))) ++ l.drop (a + rvK (l.drop a)) := by
  obtain ⟨q1, q2, q3⟩ := getV_some (getV_of hv)
  rw [List.append_assoc, ← List.drop_drop, ← q1]; exact h
theorem split_s {l A : List UInt8} {a : Nat} (h : l = A ++ l.drop a) (hv : rsOK (l.drop a) = true) : l = (A ++ sb (rsT (l.drop a))) ++ l.drop (a + rsK (l.drop a)) := by
  obtain ⟨q1, q2, q3⟩ := getS_some (getS_of hv)
  rw [List.append_assoc, ← List.drop_drop, ← q1]; exact h
theorem mid_q {l : List UInt8} {ns : List Nat} {a : Nat} (h : P1 l ns a) (hn : ns.length = 5) {m0 : Msg} (hr : RightM m0) (he : encM m0 = l) : ns = nums m0 ∧ l.drop a = okB m0 :: m0.mb :: m0.se :: UInt8.ofNat m0.es.length :: bodyM m0.es m0.body := by
  obtain ⟨h1, h2⟩ := h m0 hr he
  have hl : (nums m0).length = 5 := rfl
  refine ⟨?_, ?_⟩
  · rw [h1, hn, List.take_of_length_le (by omega)]
  · rw [h2, hn, List.drop_of_length_le (by omega)]; rfl
theorem okB_le (m : Msg) : (okB m).toNat ≤ 1 := by unfold okB; split <;> decide
theorem mid_no {l : List UInt8} {ns : List Nat} {a : Nat} (h : P1 l ns a) (hn : ns.length = 5) (hbad : l.length < a + 4 ∨ ∃ o, l[a]? = some o ∧ 1 < o.toNat) : ∀ m0, RightM m0 → encM m0 ≠ l := fun m0 hr he => by
  obtain ⟨_, q⟩ := mid_q h hn hr he
  rcases hbad with hb | ⟨o, h1, h2⟩
  · have := congrArg List.length q
    simp at this; omega
  · have h3 : (l.drop a)[0]? = some o := by rw [List.getElem?_drop]; exact h1
    rw [q] at h3; simp at h3
    have := okB_le m0; rw [h3] at this; omega
theorem mid_eq {l : List UInt8} {ns : List Nat} {a : Nat} (h : P1 l ns a) (hn : ns.length = 5) {o b s c : UInt8} (h0 : l[a]? = some o) (h1 : l[a + 1]? = some b) (h2 : l[a + 2]? = some s) (h3 : l[a + 3]? = some c) {m0 : Msg} (hr : RightM m0) (he : encM m0 = l) :
    ns = nums m0 ∧ o = okB m0 ∧ b = m0.mb ∧ s = m0.se ∧ c = UInt8.ofNat m0.es.length ∧ l.drop (a + 4) = bodyM m0.es m0.body := by
  obtain ⟨q0, q⟩ := mid_q h hn hr he
  rw [drop_cons h0, drop_cons h1, drop_cons h2, drop_cons h3] at q
  simp only [List.cons.injEq] at q
  exact ⟨q0, q.1, q.2.1, q.2.2.1, q.2.2.2.1, q.2.2.2.2⟩
theorem split4 {l A : List UInt8} {a : Nat} (h : l = A ++ l.drop a) {o b s c : UInt8} (h0 : l[a]? = some o) (h1 : l[a + 1]? = some b) (h2 : l[a + 2]? = some s) (h3 : l[a + 3]? = some c) : l = (A ++ [o, b, s, c]) ++ l.drop (a + 4) := by
  have e : l.drop a = o :: b :: s :: c :: l.drop (a + 4) := by rw [drop_cons h0, drop_cons h1, drop_cons h2, drop_cons h3]
  rw [e] at h
  rw [List.append_assoc]; exact h
def P2 (l : List UInt8) (es : List Ent) (a : Nat) : Prop := ∀ m0, RightM m0 → encM m0 = l → es = m0.es.take es.length ∧ l.drop a = bodyM (m0.es.drop es.length) m0.body
theorem P2_step {l : List UInt8} {es : List Ent} {a : Nat} (hl : l.length < 18446744073709551616) (h : P2 l es a) (hc : ∀ m0, RightM m0 → encM m0 = l → es.length < m0.es.length) :
    (rsOK (l.drop a) = false → ∀ m0, RightM m0 → encM m0 ≠ l) ∧ (rdB (rsT (l.drop a)) = false → ∀ m0, RightM m0 → encM m0 ≠ l) ∧ P2 l (es ++ [rdE (rsT (l.drop a))]) (a + rsK (l.drop a)) := by
  have key : ∀ m0, RightM m0 → encM m0 = l → ∃ e, m0.es[es.length]? = some e ∧ RightE e ∧ getS (l.drop a) = some (encE e, (sb (encE e)).length) ∧ (l.drop a).drop (sb (encE e)).length = bodyM (m0.es.drop (es.length + 1)) m0.body := fun m0 hr he => by
    obtain ⟨h1, h2⟩ := h m0 hr he
    have hi := hc m0 hr he
    have he2 := ents_len he _ (List.getElem_mem hi)
    have e2 : l.drop a = sb (encE m0.es[es.length]) ++ bodyM (m0.es.drop (es.length + 1)) m0.body := by rw [h2, List.drop_eq_getElem_cons hi]; simp only [bodyM, List.flatMap_cons, List.append_assoc]
    refine ⟨m0.es[es.length], List.getElem?_eq_getElem hi, hr.2.2.2.2.2.2 _ (List.getElem_mem hi), ?_, ?_⟩
    · rw [e2]; exact getS_sb (by omega) _
    · rw [e2, List.drop_left]
  refine ⟨fun hb m0 hr he => ?_, fun hb m0 hr he => ?_, fun m0 hr he => ?_⟩
  · obtain ⟨e, _, _, k2, _⟩ := key m0 hr he
    have := (rs_eq_some k2).2.2; rw [hb] at this; cases this
  · obtain ⟨e, _, k1, k2, _⟩ := key m0 hr he
    rw [(rs_eq_some k2).1] at hb
    exact (rdB_false hb).2 e k1 rfl
  · obtain ⟨e, k0, k1, k2, k3⟩ := key m0 hr he
    have hel := ents_len he e (List.mem_of_getElem? k0)
    obtain ⟨e1, e2, e3⟩ := rs_eq_some k2
    rw [List.length_append, List.length_singleton]
    refine ⟨?_, by rw [← List.drop_drop, e2, k3]⟩
    rw [List.take_add_one, k0, e1, (rd_some (by omega) k1 rfl).1, ← (h m0 hr he).1]; rfl
theorem P2_end {l : List UInt8} {es : List Ent} {a : Nat} (hl : l.length < 18446744073709551616) (h : P2 l es a) {m0 : Msg} (hr : RightM m0) (he : encM m0 = l) (hc : es.length = m0.es.length) : es = m0.es ∧ rsOK (l.drop a) = true ∧ rsT (l.drop a) = m0.body ∧ (l.drop a).length = rsK (l.drop a) := by
  obtain ⟨h1, h2⟩ := h m0 hr he
  have hbl : m0.body.length ≤ l.length := by rw [← he]; simp [encM, sb]; omega
  rw [List.drop_of_length_le (show m0.es.length ≤ es.length by omega)] at h2
  have e2 : l.drop a = sb m0.body ++ [] := by rw [h2]; simp [bodyM]
  have g := getS_sb (t := m0.body) (by omega) []
  rw [← e2] at g
  obtain ⟨g1, g2, g3⟩ := rs_eq_some g
  refine ⟨by rw [h1, List.take_of_length_le (by omega)], g3, g1, ?_⟩
  rw [g2, e2, List.append_nil]
theorem five {ns : List Nat} (h : ns.length = 5) {y0 y1 y2 y3 y4 : Nat} (h0 : ns[0]? = some y0) (h1 : ns[1]? = some y1) (h2 : ns[2]? = some y2) (h3 : ns[3]? = some y3) (h4 : ns[4]? = some y4) : ns = [y0, y1, y2, y3, y4] := by
  match ns, h with
  | [a, b, c, d, e], _ => simp at h0 h1 h2 h3 h4; rw [h0, h1, h2, h3, h4]
theorem ofNat_toNat64 {n : Nat} (h : n < 18446744073709551616) : (UInt64.ofNat n).toNat = n := by rw [UInt64.toNat_ofNat']; omega
theorem cand5 {l : List UInt8} {ns : List Nat} {a y0 y1 y2 y3 y4 : Nat} {es : List Ent} {k0 k1 k2 o b s c : UInt8} {m0 : Msg} (hr : RightM m0) (he : encM m0 = l) (hk0 : l[0]? = some k0) (hk1 : l[1]? = some k1) (hk2 : l[2]? = some k2) (hns : ns = [y0, y1, y2, y3, y4]) (hm : ns = nums m0 ∧ o = okB m0 ∧ b = m0.mb ∧ s = m0.se ∧ c = UInt8.ofNat m0.es.length ∧ l.drop (a + 4) = bodyM m0.es m0.body) {t : List UInt8} (hes : es = m0.es) (ht : t = m0.body) :
    (⟨k0, k1, k2, UInt64.ofNat y0, UInt64.ofNat y1, UInt64.ofNat y2, UInt64.ofNat y3, UInt64.ofNat y4, decide (o.toNat = 1), b, s, es, t⟩ : Msg) = m0 := by
  obtain ⟨e1, e2, e3, e4, e5, _⟩ := hm
  rw [← he, encM_eq] at hk0 hk1 hk2
  simp at hk0 hk1 hk2
  rw [hns] at e1
  simp only [nums, List.cons.injEq, and_true] at e1
  obtain ⟨n0, n1, n2, n3, n4⟩ := e1
  rw [ofNat64 n0, ofNat64 n1, ofNat64 n2, ofNat64 n3, ofNat64 n4, e2, e3, e4, hes, ht, ok_eq, ← hk0, ← hk1, ← hk2]
theorem okB_of {o : UInt8} (h : o.toNat ≤ 1) : (if decide (o.toNat = 1) = true then (1 : UInt8) else 0) = o := by
  by_cases q : o.toNat = 1
  · rw [if_pos (by simpa using q)]; exact (u8_inj q).symm
  · rw [if_neg (by simpa using q)]; exact (u8_inj (by rw [show o.toNat = 0 by omega]; rfl)).symm
theorem some5 {l : List UInt8} {ns : List Nat} {a y0 y1 y2 y3 y4 : Nat} {es : List Ent} {k0 k1 k2 o b s c : UInt8} (hns : ns = [y0, y1, y2, y3, y4]) (hlt : ∀ n ∈ ns, n < 18446744073709551616) (ho : o.toNat ≤ 1) (hc : es.length = c.toNat) {t : List UInt8} (ht : rsOK (l.drop a) = true) (htt : t = rsT (l.drop a)) (hend : a + rsK (l.drop a) = l.length)
    (hE : l = ((([k0, k1, k2] ++ ns.flatMap vb) ++ [o, b, s, c]) ++ es.flatMap fun e => sb (encE e)) ++ l.drop a) :
    encM ⟨k0, k1, k2, UInt64.ofNat y0, UInt64.ofNat y1, UInt64.ofNat y2, UInt64.ofNat y3, UInt64.ofNat y4, decide (o.toNat = 1), b, s, es, t⟩ = l := by
  have hE2 := split_s hE ht
  rw [hend, List.drop_length, List.append_nil, ← htt] at hE2
  rw [encM_eq]
  conv => rhs; rw [hE2]
  have hn : nums ⟨k0, k1, k2, UInt64.ofNat y0, UInt64.ofNat y1, UInt64.ofNat y2, UInt64.ofNat y3, UInt64.ofNat y4, decide (o.toNat = 1), b, s, es, t⟩ = ns := by
    rw [hns] at hlt ⊢
    simp only [nums]
    rw [ofNat_toNat64 (hlt _ (by simp)), ofNat_toNat64 (hlt _ (by simp)), ofNat_toNat64 (hlt _ (by simp)), ofNat_toNat64 (hlt _ (by simp)), ofNat_toNat64 (hlt _ (by simp))]
  have hc2 : UInt8.ofNat es.length = c := by rw [hc]; exact ofNat_toNat c
  rw [hn]
  simp only [tail1, okB, bodyM]
  rw [okB_of ho, hc2]
  simp
theorem drop_cons3 {l : List UInt8} {a b c : UInt8} (h0 : l[0]? = some a) (h1 : l[1]? = some b) (h2 : l[2]? = some c) : a :: b :: c :: l.drop 3 = l := by
  have := drop_cons h0; rw [drop_cons h1, drop_cons h2] at this; simpa using this.symm
theorem lt_app {ns : List Nat} {n : Nat} (h : ∀ x ∈ ns, x < 18446744073709551616) (hn : n < 18446744073709551616) : ∀ x ∈ ns ++ [n], x < 18446744073709551616 := by
  intro x hx
  rw [List.mem_append, List.mem_singleton] at hx
  rcases hx with hx | hx
  · exact h x hx
  · subst hx; exact hn
omit base L R in
set_option maxRecDepth 8000 in
theorem ref5_Read_ran (W : Mem h h [] []) {l : List UInt8} (hl : l.length ≤ 268435456) : Cll tab0 19 [.string (bs l)] h (ReadQ h l) := by
  refine Cll.code rfl rfl ?_
  refine WC.env [(0, _)] rfl ?_
  refine WC.seq ?_
  refine WC.run ?_
  refine WS.new W rfl ?_
  intro p1 h2 M3
  refine WS.op rfl rfl (WS.nil [(0, _), (2, _)] rfl ?_)
  refine WC.seq ?_
  refine WC.seq ?_
  refine WC.run ?_
  refine WS.op rfl rfl (WS.op rfl (op_lenS (l := l) rfl) ?_)
  refine WS.lssN (a := (l).length) (b := 3) rfl rfl rfl (fun e23 => ?_) (fun e23 => ?_)
  · skip
    refine WS.nil [(0, _), (2, _), (23, _)] rfl ?_
    refine WC.condT rfl ?_
    refine WC.seq ?_
    refine WC.run ?_
    refine WS.opV (.agg #[(.int .u8 (0 : Int)), (.int .u8 (0 : Int)), (.int .u8 (0 : Int)), (.int .u64 (0 : Int)), (.int .u64 (0 : Int)), (.int .u64 (0 : Int)), (.int .u64 (0 : Int)), (.int .u64 (0 : Int)), (.bool false), (.int .u8 (0 : Int)), (.int .u8 (0 : Int)), (.slice none 0 0), (.string (bs ([])))]) rfl rfl rfl ?_
    refine WS.st1 (M3.focus 0 rfl) [_, _, _, _, _, _, _, _, _, _, _, _, _] [_, _, _, _, _, _, _, _, _, _, _, _, _] rfl rfl rfl rfl rfl (Nat.le_of_ble_eq_true rfl) (Nat.le_of_ble_eq_true rfl) rfl rfl ?_
    intro h4 M5
    replace M5 : Mem _ _ ([(p1, _)] :: []) _ := M5
    refine WS.op rfl rfl (WS.nil [(2, _), (3, _)] rfl ?_)
    refine WC.ret ?_
    refine ⟨[_, _], (res_cellN [_, _, _, _, _, _, _, _, _, _, _, _, _] rfl (M5.at 0 rfl) (Nat.le_of_ble_eq_true rfl) rfl (res_tmp rfl res_nil)), ?_⟩
    first | exact ⟨zeroM, .slice none 0 0, [], false, rfl, .nil, fun q => (by cases q), fun _ => ⟨rfl, fun m0 hr he => (by have := congrArg List.length he; rw [encM_eq] at this; simp at this; omega)⟩, (M5.bare.take 0).nils⟩
  · skip
    refine WS.nil [(0, _), (2, _), (23, _)] rfl ?_
    refine WC.condF rfl ?_
    refine WC.skip ?_
    refine WC.seq ?_
    refine WC.draw M3 [7] rfl ?_
    intro rb6 h7 M8
    refine WS.op rfl rfl ?_
    obtain ⟨k0, hk0⟩ : ∃ c, (l)[0]? = some c := ⟨_, List.getElem?_eq_getElem (show 0 < (l).length by first | omega | (simp only [List.length_drop, List.length_take, List.length_append, List.length_cons, List.length_nil, List.length_singleton]; omega) | (simp only [List.length_drop, List.length_take, List.length_append, List.length_cons, List.length_nil, List.length_singleton] at *; omega))⟩
    refine WS.op rfl (op_ixS 0 rfl rfl hk0) (WS.op rfl rfl ?_)
    obtain ⟨k1, hk1⟩ : ∃ c, (l)[1]? = some c := ⟨_, List.getElem?_eq_getElem (show 1 < (l).length by first | omega | (simp only [List.length_drop, List.length_take, List.length_append, List.length_cons, List.length_nil, List.length_singleton]; omega) | (simp only [List.length_drop, List.length_take, List.length_append, List.length_cons, List.length_nil, List.length_singleton] at *; omega))⟩
    refine WS.op rfl (op_ixS 1 rfl rfl hk1) (WS.op rfl rfl ?_)
    obtain ⟨k2, hk2⟩ : ∃ c, (l)[2]? = some c := ⟨_, List.getElem?_eq_getElem (show 2 < (l).length by first | omega | (simp only [List.length_drop, List.length_take, List.length_append, List.length_cons, List.length_nil, List.length_singleton]; omega) | (simp only [List.length_drop, List.length_take, List.length_append, List.length_cons, List.length_nil, List.length_singleton] at *; omega))⟩
    refine WS.op rfl (op_ixS 2 rfl rfl hk2) (WS.opV (.agg #[(.int .u8 (((k0).toNat : Nat) : Int)), (.int .u8 (((k1).toNat : Nat) : Int)), (.int .u8 (((k2).toNat : Nat) : Int)), (.int .u64 (0 : Int)), (.int .u64 (0 : Int)), (.int .u64 (0 : Int)), (.int .u64 (0 : Int)), (.int .u64 (0 : Int)), (.bool false), (.int .u8 (0 : Int)), (.int .u8 (0 : Int)), (.slice none 0 0), (.string (bs ([])))]) rfl rfl rfl ?_)
    refine WS.newA M8 0 rfl rfl ?_
    intro h10 M11
    refine WS.st1 (M11.focus 0 rfl) [_, _, _, _, _, _, _, _, _, _, _, _, _] [_, _, _, _, _, _, _, _, _, _, _, _, _] rfl rfl rfl rfl rfl (Nat.le_of_ble_eq_true rfl) (Nat.le_of_ble_eq_true rfl) rfl rfl ?_
    intro h12 M13
    replace M13 : Mem _ _ ([((rb6 + 7), _)] :: [(p1, _)] :: []) _ := M13
    refine WS.nil [(0, _), (2, _), (4, _)] rfl ?_
    refine WC.seq ?_
    refine WC.run ?_
    refine WS.op rfl rfl (WS.nil [(0, _), (2, _), (4, _), (5, _)] rfl ?_)
    refine WC.seq ?_
    refine WC.run ?_
    refine WS.op rfl rfl (WS.nil [(0, _), (2, _), (4, _), (5, _), (6, _)] rfl ?_)
    refine WC.seq ?_
    refine WC.seq ?_
    refine WC.run ?_
    refine WS.op rfl rfl (WS.nil [(0, _), (2, _), (4, _), (5, _), (6, _), (7, _)] rfl ?_)
    refine WC.block ?_
    obtain ⟨L14, eL16, M15⟩ := Mem.name1 ((M13.bare.bare).nils)
    refine WC.loop (σ := Nat × Value × Seg × List Nat × Nat) (fun ((a, V, S, ns, i)) => [(0, (.string (bs l))), (2, (.pointer (some ⟨p1, 0, none⟩))), (4, (.pointer (some ⟨(rb6 + 7), 0, none⟩))), (5, (.int .i64 ((a : Nat) : Int))), (6, V), (7, (.int .i64 ((i : Nat) : Int)))]) (fun ((a, V, S, ns, i)) hh => Mem h hh (S :: L14) [] ∧ KNat.Own V ns S ∧ P1 l ns a ∧ ns.length = i ∧ i ≤ 5 ∧ a ≤ l.length ∧ (∀ n ∈ ns, n < 18446744073709551616) ∧ l = ([k0, k1, k2] ++ ns.flatMap vb) ++ l.drop a) (fun ((a, V, S, ns, i)) => 5 - i) (3, .slice none 0 0, [], [], 0) rfl ⟨M15, ?_⟩ ?_
    · exact ⟨.nil, P1_zero l, rfl, by omega, by omega, by intro n hn; simp at hn, by rw [← drop_cons3 hk0 hk1 hk2]; simp⟩
    · rintro ⟨a, V, S, ns, i⟩ h17 ⟨M18, ⟨hO, hP, hni, hi5, hal, hlt, hE⟩⟩
      subst eL16
      refine WC.env [(0, _), (2, _), (4, _), (5, _), (6, _), (7, _)] rfl ?_
      refine WC.seq ?_
      refine WC.seq ?_
      refine WC.run ?_
      refine WS.op rfl rfl ?_
      refine WS.lssN (a := i) (b := 5) rfl rfl rfl (fun e33 => ?_) (fun e33 => ?_)
      · skip
        refine WS.nil [(0, _), (2, _), (4, _), (5, _), (6, _), (7, _), (33, _)] rfl ?_
        refine WC.condT rfl ?_
        refine WC.skip ?_
        refine WC.seq ?_
        refine WC.block ?_
        refine WC.seq ?_
        refine WC.run ?_
        refine WS.op rfl rfl (WS.op rfl rfl (WS.op rfl (op_slS0 (l := l) a rfl rfl (by first | omega | (simp only [List.length_drop, List.length_take, List.length_append, List.length_cons, List.length_nil, List.length_singleton]; omega) | (simp only [List.length_drop, List.length_take, List.length_append, List.length_cons, List.length_nil, List.length_singleton] at *; omega))) ?_))
        have hst := P1_step hP (by omega)
        have hkl := rvK_le (l.drop a)
        have hnl := rvN_lt (l.drop a)
        rw [List.length_drop] at hkl
        refine WS.call rfl rfl rfl (ref_ReadV_ran M18.here (l := ((l).drop a)) (by first | omega | (simp only [List.length_drop, List.length_take, List.length_append, List.length_cons, List.length_nil, List.length_singleton]; omega) | (simp only [List.length_drop, List.length_take, List.length_append, List.length_cons, List.length_nil, List.length_singleton] at *; omega))) ?_
        rintro _ h19 ⟨rfl, N20⟩
        have M21 := M18.trans N20
        refine WS.op rfl rfl (WS.op rfl rfl (WS.op rfl rfl (WS.op rfl rfl (WS.op rfl rfl (WS.op rfl rfl (WS.op rfl rfl (WS.nil [(0, _), (2, _), (4, _), (5, _), (6, _), (7, _), (8, _), (9, _), (10, _)] rfl ?_)))))))
        refine WC.seq ?_
        refine WC.seq ?_
        refine WC.run ?_
        refine WS.op rfl rfl ?_
        cases hb1 : (rvOK ((l).drop a))
        · skip
          refine WS.opV (.bool true) rfl rfl rfl (WS.nil [(0, _), (2, _), (4, _), (5, _), (6, _), (7, _), (8, _), (9, _), (45, _)] rfl ?_)
          refine WC.condT rfl ?_
          refine WC.seq ?_
          refine WC.run ?_
          refine WS.opV (.agg #[(.int .u8 (0 : Int)), (.int .u8 (0 : Int)), (.int .u8 (0 : Int)), (.int .u64 (0 : Int)), (.int .u64 (0 : Int)), (.int .u64 (0 : Int)), (.int .u64 (0 : Int)), (.int .u64 (0 : Int)), (.bool false), (.int .u8 (0 : Int)), (.int .u8 (0 : Int)), (.slice none 0 0), (.string (bs ([])))]) rfl rfl rfl ?_
          refine WS.st1 (M21.focus 2 rfl) [_, _, _, _, _, _, _, _, _, _, _, _, _] [_, _, _, _, _, _, _, _, _, _, _, _, _] rfl rfl rfl rfl rfl (Nat.le_of_ble_eq_true rfl) (Nat.le_of_ble_eq_true rfl) rfl rfl ?_
          intro h23 M24
          replace M24 : Mem _ _ ([(p1, _)] :: S :: [((rb6 + 7), _)] :: []) _ := M24
          refine WS.op rfl rfl (WS.nil [(2, _), (3, _)] rfl ?_)
          refine WC.ret ?_
          refine ⟨[_, _], (res_cellN [_, _, _, _, _, _, _, _, _, _, _, _, _] rfl (M24.at 0 rfl) (Nat.le_of_ble_eq_true rfl) rfl (res_tmp rfl res_nil)), ?_⟩
          first | exact ⟨zeroM, .slice none 0 0, [], false, rfl, .nil, fun q => (by cases q), fun _ => ⟨rfl, hst.1 hb1⟩, (M24.bare.take 0).nils⟩
        · skip
          refine WS.opV (.bool false) rfl rfl rfl (WS.nil [(0, _), (2, _), (4, _), (5, _), (6, _), (7, _), (8, _), (9, _), (45, _)] rfl ?_)
          refine WC.condF rfl ?_
          refine WC.skip ?_
          refine WC.seq ?_
          refine WC.run ?_
          refine WS.op rfl rfl (WS.op rfl rfl ?_)
          refine WS.bsl M21 [_] rfl rfl rfl rfl ?_
          intro p25 h26 M27
          refine WS.app (l := ns) (m := [rvN (l.drop a)]) (hO) (M27.focus 1 rfl) (Row.Src.one (K := KNat) (m := [rvN (l.drop a)]) (M27.at 0 rfl)) rfl (by simp only [List.length_cons, List.length_nil]; omega) (by simp only [List.length_cons, List.length_nil]; omega) rfl rfl rfl ?_
          intro V28 S29 h30 O31 M32
          obtain ⟨P33, rfl⟩ := Row.Own.shape O31
          refine WS.op rfl rfl (WS.nil [(0, _), (2, _), (4, _), (5, _), (6, _), (7, _), (9, _)] rfl ?_)
          refine WC.run ?_
          refine WS.op rfl rfl (WS.op rfl rfl (WS.opV (.int .i64 (((a + (rvK ((l).drop a))) : Nat) : Int)) rfl rfl (add_i64 (a := a) (b := (rvK ((l).drop a))) (by have := rvK_le ((l).drop a); omega)) (WS.op rfl rfl (WS.nil [(0, _), (2, _), (4, _), (5, _), (6, _), (7, _)] rfl ?_))))
          refine WC.run ?_
          refine WS.op rfl rfl (WS.opV (.int .i64 (((i + 1) : Nat) : Int)) rfl rfl (add_i64 (a := i) (b := 1) (by omega)) (WS.op rfl rfl (WS.nil [(0, _), (2, _), (4, _), (5, _), (6, _), (7, _)] rfl ?_)))
          refine ⟨(a + rvK (l.drop a), (.slice P33 ((ns ++ [rvN (l.drop a)])).length (2 * ((ns ++ [rvN (l.drop a)])).length)), S29, ns ++ [rvN (l.drop a)], i + 1), rfl, ⟨((((M32.bare.focus 3 rfl).focus 3 rfl).focus 2 rfl).take 3), ?_⟩, ?_⟩
          · exact ⟨by assumption, hst.2, by simp; omega, by omega, by omega, lt_app hlt hnl, by have := split_v hE hb1; rw [List.flatMap_append]; simpa using this⟩
          · simp only []; omega
      · skip
        refine WS.nil [(0, _), (2, _), (4, _), (5, _), (6, _), (7, _), (33, _)] rfl ?_
        refine WC.condF rfl ?_
        refine WC.exit ?_
        refine WC.seq ?_
        refine WC.run ?_
        refine WS.op rfl rfl ?_
        obtain ⟨y55, hy55⟩ : ∃ y, (ns)[0]? = some y := ⟨_, List.getElem?_eq_getElem (show 0 < (ns).length by omega)⟩
        have hb55 := hlt _ (List.mem_of_getElem? hy55)
        refine WS.iaVS (Row.Own.sl hO (Mem.owni M18 0 rfl)) 0 hy55 rfl rfl rfl rfl ?_
        intro b55_ o55_ ha55
        refine WS.opV (.int .u64 (((UInt64.ofNat y55).toNat : Nat) : Int)) rfl (op_ldH rfl (At.ld0 ha55 rfl)) (u64_ofNat (n := y55) (by omega)) (WS.op rfl rfl ?_)
        refine WS.st1 (M18.focus 1 rfl) [_] [_, _, _, _, _, _, _, _, _, _, _, _, _] rfl rfl rfl rfl rfl (Nat.le_of_ble_eq_true rfl) (Nat.le_of_ble_eq_true rfl) rfl rfl ?_
        intro h34 M35
        replace M35 : Mem _ _ ([((rb6 + 7), _)] :: S :: [(p1, _)] :: []) _ := M35
        refine WS.nil [(0, _), (2, _), (4, _), (5, _), (6, _)] rfl ?_
        refine WC.seq ?_
        refine WC.run ?_
        refine WS.op rfl rfl ?_
        obtain ⟨y59, hy59⟩ : ∃ y, (ns)[1]? = some y := ⟨_, List.getElem?_eq_getElem (show 1 < (ns).length by omega)⟩
        have hb59 := hlt _ (List.mem_of_getElem? hy59)
        refine WS.iaVS (Row.Own.sl hO (Mem.owni M35 1 rfl)) 1 hy59 rfl rfl rfl rfl ?_
        intro b59_ o59_ ha59
        refine WS.opV (.int .u64 (((UInt64.ofNat y59).toNat : Nat) : Int)) rfl (op_ldH rfl (At.ld0 ha59 rfl)) (u64_ofNat (n := y59) (by omega)) (WS.op rfl rfl ?_)
        refine WS.st1 (M35.focus 0 rfl) [_] [_, _, _, _, _, _, _, _, _, _, _, _, _] rfl rfl rfl rfl rfl (Nat.le_of_ble_eq_true rfl) (Nat.le_of_ble_eq_true rfl) rfl rfl ?_
        intro h36 M37
        replace M37 : Mem _ _ ([((rb6 + 7), _)] :: S :: [(p1, _)] :: []) _ := M37
        refine WS.nil [(0, _), (2, _), (4, _), (5, _), (6, _)] rfl ?_
        refine WC.seq ?_
        refine WC.run ?_
        refine WS.op rfl rfl ?_
        obtain ⟨y63, hy63⟩ : ∃ y, (ns)[2]? = some y := ⟨_, List.getElem?_eq_getElem (show 2 < (ns).length by omega)⟩
        have hb63 := hlt _ (List.mem_of_getElem? hy63)
        refine WS.iaVS (Row.Own.sl hO (Mem.owni M37 1 rfl)) 2 hy63 rfl rfl rfl rfl ?_
        intro b63_ o63_ ha63
        refine WS.opV (.int .u64 (((UInt64.ofNat y63).toNat : Nat) : Int)) rfl (op_ldH rfl (At.ld0 ha63 rfl)) (u64_ofNat (n := y63) (by omega)) (WS.op rfl rfl ?_)
        refine WS.st1 (M37.focus 0 rfl) [_] [_, _, _, _, _, _, _, _, _, _, _, _, _] rfl rfl rfl rfl rfl (Nat.le_of_ble_eq_true rfl) (Nat.le_of_ble_eq_true rfl) rfl rfl ?_
        intro h38 M39
        replace M39 : Mem _ _ ([((rb6 + 7), _)] :: S :: [(p1, _)] :: []) _ := M39
        refine WS.nil [(0, _), (2, _), (4, _), (5, _), (6, _)] rfl ?_
        refine WC.seq ?_
        refine WC.run ?_
        refine WS.op rfl rfl ?_
        obtain ⟨y67, hy67⟩ : ∃ y, (ns)[3]? = some y := ⟨_, List.getElem?_eq_getElem (show 3 < (ns).length by omega)⟩
        have hb67 := hlt _ (List.mem_of_getElem? hy67)
        refine WS.iaVS (Row.Own.sl hO (Mem.owni M39 1 rfl)) 3 hy67 rfl rfl rfl rfl ?_
        intro b67_ o67_ ha67
        refine WS.opV (.int .u64 (((UInt64.ofNat y67).toNat : Nat) : Int)) rfl (op_ldH rfl (At.ld0 ha67 rfl)) (u64_ofNat (n := y67) (by omega)) (WS.op rfl rfl ?_)
        refine WS.st1 (M39.focus 0 rfl) [_] [_, _, _, _, _, _, _, _, _, _, _, _, _] rfl rfl rfl rfl rfl (Nat.le_of_ble_eq_true rfl) (Nat.le_of_ble_eq_true rfl) rfl rfl ?_
        intro h40 M41
        replace M41 : Mem _ _ ([((rb6 + 7), _)] :: S :: [(p1, _)] :: []) _ := M41
        refine WS.nil [(0, _), (2, _), (4, _), (5, _), (6, _)] rfl ?_
        refine WC.seq ?_
        refine WC.run ?_
        refine WS.op rfl rfl ?_
        obtain ⟨y71, hy71⟩ : ∃ y, (ns)[4]? = some y := ⟨_, List.getElem?_eq_getElem (show 4 < (ns).length by omega)⟩
        have hb71 := hlt _ (List.mem_of_getElem? hy71)
        refine WS.iaVS (Row.Own.sl hO (Mem.owni M41 1 rfl)) 4 hy71 rfl rfl rfl rfl ?_
        intro b71_ o71_ ha71
        refine WS.opV (.int .u64 (((UInt64.ofNat y71).toNat : Nat) : Int)) rfl (op_ldH rfl (At.ld0 ha71 rfl)) (u64_ofNat (n := y71) (by omega)) (WS.op rfl rfl ?_)
        refine WS.st1 (M41.focus 0 rfl) [_] [_, _, _, _, _, _, _, _, _, _, _, _, _] rfl rfl rfl rfl rfl (Nat.le_of_ble_eq_true rfl) (Nat.le_of_ble_eq_true rfl) rfl rfl ?_
        intro h42 M43
        replace M43 : Mem _ _ ([((rb6 + 7), _)] :: S :: [(p1, _)] :: []) _ := M43
        refine WS.nil [(0, _), (2, _), (4, _), (5, _)] rfl ?_
        refine WC.seq ?_
        refine WC.seq ?_
        refine WC.run ?_
        refine WS.op rfl rfl (WS.opV (.int .i64 (((a + 4) : Nat) : Int)) rfl rfl (add_i64 (a := a) (b := 4) (by omega)) (WS.op rfl rfl (WS.op rfl (op_lenS (l := l) rfl) ?_)))
        refine WS.gtrN (a := (a + 4)) (b := (l).length) rfl rfl rfl (fun e78 => ?_) (fun e78 => ?_)
        · skip
          refine WS.op rfl rfl (WS.off rfl (WS.off rfl (WS.off rfl (WS.off rfl (WS.op rfl rfl (WS.nil [(0, _), (2, _), (4, _), (5, _), (84, _)] rfl ?_))))))
          refine WC.condT rfl ?_
          refine WC.seq ?_
          refine WC.run ?_
          refine WS.opV (.agg #[(.int .u8 (0 : Int)), (.int .u8 (0 : Int)), (.int .u8 (0 : Int)), (.int .u64 (0 : Int)), (.int .u64 (0 : Int)), (.int .u64 (0 : Int)), (.int .u64 (0 : Int)), (.int .u64 (0 : Int)), (.bool false), (.int .u8 (0 : Int)), (.int .u8 (0 : Int)), (.slice none 0 0), (.string (bs ([])))]) rfl rfl rfl ?_
          refine WS.st1 (M43.focus 2 rfl) [_, _, _, _, _, _, _, _, _, _, _, _, _] [_, _, _, _, _, _, _, _, _, _, _, _, _] rfl rfl rfl rfl rfl (Nat.le_of_ble_eq_true rfl) (Nat.le_of_ble_eq_true rfl) rfl rfl ?_
          intro h44 M45
          replace M45 : Mem _ _ ([(p1, _)] :: [((rb6 + 7), _)] :: S :: []) _ := M45
          refine WS.op rfl rfl (WS.nil [(2, _), (3, _)] rfl ?_)
          refine WC.ret ?_
          refine ⟨[_, _], (res_cellN [_, _, _, _, _, _, _, _, _, _, _, _, _] rfl (M45.at 0 rfl) (Nat.le_of_ble_eq_true rfl) rfl (res_tmp rfl res_nil)), ?_⟩
          first | exact ⟨zeroM, .slice none 0 0, [], false, rfl, .nil, fun q => (by cases q), fun _ => ⟨rfl, hst.1 hb2⟩, (M45.bare.take 0).nils⟩ | exact ⟨zeroM, .slice none 0 0, [], false, rfl, .nil, fun q => (by cases q), fun _ => ⟨rfl, hst.2.1 hb3⟩, (M45.bare.take 0).nils⟩ | exact ⟨zeroM, .slice none 0 0, [], false, rfl, .nil, fun q => (by cases q), fun _ => ⟨rfl, mid_no hP (by omega) (.inl (by omega))⟩, (M45.bare.take 0).nils⟩ | exact ⟨zeroM, .slice none 0 0, [], false, rfl, .nil, fun q => (by cases q), fun _ => ⟨rfl, mid_no hP (by omega) (.inr ⟨_, ho_, by omega⟩)⟩, (M45.bare.take 0).nils⟩ | exact ⟨zeroM, .slice none 0 0, [], false, rfl, .nil, fun q => (by cases q), fun _ => ⟨rfl, fun m0 hr he => (by have h9 := (P2_end (by omega) hP2 hr he (hcnt m0 hr he)).2.1; rw [hb2] at h9; exact absurd h9 Bool.false_ne_true)⟩, (M45.bare.take 0).nils⟩ | exact ⟨zeroM, .slice none 0 0, [], false, rfl, .nil, fun q => (by cases q), fun _ => ⟨rfl, fun m0 hr he => (by have h9 := (P2_end (by omega) hP2 hr he (hcnt m0 hr he)).2.2.2; rw [List.length_drop] at h9; omega)⟩, (M45.bare.take 0).nils⟩ | exact ⟨zeroM, .slice none 0 0, [], false, rfl, .nil, fun q => (by cases q), fun _ => ⟨rfl, fun m0 hr he => (by obtain ⟨h7, h8, h9, h10⟩ := P2_end (by omega) hP2 hr he (hcnt m0 hr he); have h11 := cand5 hr he hk0 hk1 hk2 (five (by omega) hy55 hy59 hy63 hy67 hy71) (hM m0 hr he) h7 h9; have h12 := rightMB_iff.2 hr; rw [← h11, hb4] at h12; exact absurd h12 Bool.false_ne_true)⟩, (M45.bare.take 0).nils⟩
        · skip
          refine WS.op rfl rfl (WS.op rfl rfl (WS.op rfl rfl ?_))
          obtain ⟨o_, ho_⟩ : ∃ c, (l)[a]? = some c := ⟨_, List.getElem?_eq_getElem (show a < (l).length by first | omega | (simp only [List.length_drop, List.length_take, List.length_append, List.length_cons, List.length_nil, List.length_singleton]; omega) | (simp only [List.length_drop, List.length_take, List.length_append, List.length_cons, List.length_nil, List.length_singleton] at *; omega))⟩
          refine WS.op rfl (op_ixS a rfl rfl ho_) ?_
          refine WS.gtrN (a := (o_).toNat) (b := 1) rfl rfl rfl (fun e83 => ?_) (fun e83 => ?_)
          · skip
            refine WS.op rfl rfl (WS.nil [(0, _), (2, _), (4, _), (5, _), (84, _)] rfl ?_)
            refine WC.condT rfl ?_
            refine WC.seq ?_
            refine WC.run ?_
            refine WS.opV (.agg #[(.int .u8 (0 : Int)), (.int .u8 (0 : Int)), (.int .u8 (0 : Int)), (.int .u64 (0 : Int)), (.int .u64 (0 : Int)), (.int .u64 (0 : Int)), (.int .u64 (0 : Int)), (.int .u64 (0 : Int)), (.bool false), (.int .u8 (0 : Int)), (.int .u8 (0 : Int)), (.slice none 0 0), (.string (bs ([])))]) rfl rfl rfl ?_
            refine WS.st1 (M43.focus 2 rfl) [_, _, _, _, _, _, _, _, _, _, _, _, _] [_, _, _, _, _, _, _, _, _, _, _, _, _] rfl rfl rfl rfl rfl (Nat.le_of_ble_eq_true rfl) (Nat.le_of_ble_eq_true rfl) rfl rfl ?_
            intro h46 M47
            replace M47 : Mem _ _ ([(p1, _)] :: [((rb6 + 7), _)] :: S :: []) _ := M47
            refine WS.op rfl rfl (WS.nil [(2, _), (3, _)] rfl ?_)
            refine WC.ret ?_
            refine ⟨[_, _], (res_cellN [_, _, _, _, _, _, _, _, _, _, _, _, _] rfl (M47.at 0 rfl) (Nat.le_of_ble_eq_true rfl) rfl (res_tmp rfl res_nil)), ?_⟩
            first | exact ⟨zeroM, .slice none 0 0, [], false, rfl, .nil, fun q => (by cases q), fun _ => ⟨rfl, hst.1 hb2⟩, (M47.bare.take 0).nils⟩ | exact ⟨zeroM, .slice none 0 0, [], false, rfl, .nil, fun q => (by cases q), fun _ => ⟨rfl, hst.2.1 hb3⟩, (M47.bare.take 0).nils⟩ | exact ⟨zeroM, .slice none 0 0, [], false, rfl, .nil, fun q => (by cases q), fun _ => ⟨rfl, mid_no hP (by omega) (.inl (by omega))⟩, (M47.bare.take 0).nils⟩ | exact ⟨zeroM, .slice none 0 0, [], false, rfl, .nil, fun q => (by cases q), fun _ => ⟨rfl, mid_no hP (by omega) (.inr ⟨_, ho_, by omega⟩)⟩, (M47.bare.take 0).nils⟩ | exact ⟨zeroM, .slice none 0 0, [], false, rfl, .nil, fun q => (by cases q), fun _ => ⟨rfl, fun m0 hr he => (by have h9 := (P2_end (by omega) hP2 hr he (hcnt m0 hr he)).2.1; rw [hb2] at h9; exact absurd h9 Bool.false_ne_true)⟩, (M47.bare.take 0).nils⟩ | exact ⟨zeroM, .slice none 0 0, [], false, rfl, .nil, fun q => (by cases q), fun _ => ⟨rfl, fun m0 hr he => (by have h9 := (P2_end (by omega) hP2 hr he (hcnt m0 hr he)).2.2.2; rw [List.length_drop] at h9; omega)⟩, (M47.bare.take 0).nils⟩ | exact ⟨zeroM, .slice none 0 0, [], false, rfl, .nil, fun q => (by cases q), fun _ => ⟨rfl, fun m0 hr he => (by obtain ⟨h7, h8, h9, h10⟩ := P2_end (by omega) hP2 hr he (hcnt m0 hr he); have h11 := cand5 hr he hk0 hk1 hk2 (five (by omega) hy55 hy59 hy63 hy67 hy71) (hM m0 hr he) h7 h9; have h12 := rightMB_iff.2 hr; rw [← h11, hb4] at h12; exact absurd h12 Bool.false_ne_true)⟩, (M47.bare.take 0).nils⟩
          · skip
            refine WS.op rfl rfl (WS.nil [(0, _), (2, _), (4, _), (5, _), (84, _)] rfl ?_)
            refine WC.condF rfl ?_
            refine WC.skip ?_
            refine WC.seq ?_
            refine WC.run ?_
            refine WS.op rfl rfl (WS.op rfl rfl (WS.op rfl (op_ixS a rfl rfl ho_) (WS.opV (.bool (decide ((o_).toNat = 1))) rfl rfl (beq_nat ((o_).toNat) 1) (WS.op rfl rfl ?_))))
            refine WS.st1 (M43.focus 0 rfl) [_] [_, _, _, _, _, _, _, _, _, _, _, _, _] rfl rfl rfl rfl rfl (Nat.le_of_ble_eq_true rfl) (Nat.le_of_ble_eq_true rfl) rfl rfl ?_
            intro h48 M49
            replace M49 : Mem _ _ ([((rb6 + 7), _)] :: S :: [(p1, _)] :: []) _ := M49
            refine WS.nil [(0, _), (2, _), (4, _), (5, _)] rfl ?_
            refine WC.seq ?_
            refine WC.run ?_
            refine WS.op rfl rfl (WS.op rfl rfl (WS.opV (.int .i64 (((a + 1) : Nat) : Int)) rfl rfl (add_i64 (a := a) (b := 1) (by omega)) ?_))
            obtain ⟨mb_, hmb_⟩ : ∃ c, (l)[(a + 1)]? = some c := ⟨_, List.getElem?_eq_getElem (show (a + 1) < (l).length by first | omega | (simp only [List.length_drop, List.length_take, List.length_append, List.length_cons, List.length_nil, List.length_singleton]; omega) | (simp only [List.length_drop, List.length_take, List.length_append, List.length_cons, List.length_nil, List.length_singleton] at *; omega))⟩
            refine WS.op rfl (op_ixS (a + 1) rfl rfl hmb_) (WS.op rfl rfl ?_)
            refine WS.st1 (M49.focus 0 rfl) [_] [_, _, _, _, _, _, _, _, _, _, _, _, _] rfl rfl rfl rfl rfl (Nat.le_of_ble_eq_true rfl) (Nat.le_of_ble_eq_true rfl) rfl rfl ?_
            intro h50 M51
            replace M51 : Mem _ _ ([((rb6 + 7), _)] :: S :: [(p1, _)] :: []) _ := M51
            refine WS.nil [(0, _), (2, _), (4, _), (5, _)] rfl ?_
            refine WC.seq ?_
            refine WC.run ?_
            refine WS.op rfl rfl (WS.op rfl rfl (WS.opV (.int .i64 (((a + 2) : Nat) : Int)) rfl rfl (add_i64 (a := a) (b := 2) (by omega)) ?_))
            obtain ⟨se_, hse_⟩ : ∃ c, (l)[(a + 2)]? = some c := ⟨_, List.getElem?_eq_getElem (show (a + 2) < (l).length by first | omega | (simp only [List.length_drop, List.length_take, List.length_append, List.length_cons, List.length_nil, List.length_singleton]; omega) | (simp only [List.length_drop, List.length_take, List.length_append, List.length_cons, List.length_nil, List.length_singleton] at *; omega))⟩
            refine WS.op rfl (op_ixS (a + 2) rfl rfl hse_) (WS.op rfl rfl ?_)
            refine WS.st1 (M51.focus 0 rfl) [_] [_, _, _, _, _, _, _, _, _, _, _, _, _] rfl rfl rfl rfl rfl (Nat.le_of_ble_eq_true rfl) (Nat.le_of_ble_eq_true rfl) rfl rfl ?_
            intro h52 M53
            replace M53 : Mem _ _ ([((rb6 + 7), _)] :: S :: [(p1, _)] :: []) _ := M53
            refine WS.nil [(0, _), (2, _), (4, _), (5, _)] rfl ?_
            refine WC.seq ?_
            refine WC.run ?_
            refine WS.op rfl rfl (WS.op rfl rfl (WS.opV (.int .i64 (((a + 3) : Nat) : Int)) rfl rfl (add_i64 (a := a) (b := 3) (by omega)) ?_))
            obtain ⟨cn_, hcn_⟩ : ∃ c, (l)[(a + 3)]? = some c := ⟨_, List.getElem?_eq_getElem (show (a + 3) < (l).length by first | omega | (simp only [List.length_drop, List.length_take, List.length_append, List.length_cons, List.length_nil, List.length_singleton]; omega) | (simp only [List.length_drop, List.length_take, List.length_append, List.length_cons, List.length_nil, List.length_singleton] at *; omega))⟩
            refine WS.op rfl (op_ixS (a + 3) rfl rfl hcn_) (WS.opV (.int .i64 (((cn_).toNat : Nat) : Int)) rfl rfl (cv_i64 (n := (cn_).toNat) (by have := UInt8.toNat_lt (cn_); omega)) (WS.op rfl rfl (WS.nil [(0, _), (2, _), (4, _), (5, _), (11, _)] rfl ?_)))
            refine WC.seq ?_
            refine WC.run ?_
            refine WS.op rfl rfl (WS.opV (.int .i64 (((a + 4) : Nat) : Int)) rfl rfl (add_i64 (a := a) (b := 4) (by omega)) (WS.op rfl rfl (WS.nil [(0, _), (2, _), (4, _), (5, _), (11, _)] rfl ?_)))
            refine WC.seq ?_
            refine WC.seq ?_
            refine WC.run ?_
            refine WS.op rfl rfl (WS.nil [(0, _), (2, _), (4, _), (5, _), (11, _), (12, _)] rfl ?_)
            refine WC.block ?_
            have hM := fun m0 (hr : RightM m0) (he : encM m0 = l) => mid_eq hP (by omega) ho_ hmb_ hse_ hcn_ hr he
            have hE4 := split4 hE ho_ hmb_ hse_ hcn_
            have hcn255 := cn_.toNat_lt
            obtain ⟨L54, eL56, M55⟩ := Mem.name2 (((M53.bare.focus 0 rfl)).nils)
            refine WC.loop (σ := Nat × Value × Seg × List Ent × Nat) (fun ((a, V2, S2, es, i)) => [(0, (.string (bs l))), (2, (.pointer (some ⟨p1, 0, none⟩))), (4, (.pointer (some ⟨(rb6 + 7), 0, none⟩))), (5, (.int .i64 ((a : Nat) : Int))), (11, (.int .i64 (((cn_).toNat : Nat) : Int))), (12, (.int .i64 ((i : Nat) : Int)))]) (fun ((a, V2, S2, es, i)) hh => Mem h hh (S2 :: [((rb6 + 7), ⟨[(.int .u8 (((k0).toNat : Nat) : Int)), (.int .u8 (((k1).toNat : Nat) : Int)), (.int .u8 (((k2).toNat : Nat) : Int)), (.int .u64 (((UInt64.ofNat y55).toNat : Nat) : Int)), (.int .u64 (((UInt64.ofNat y59).toNat : Nat) : Int)), (.int .u64 (((UInt64.ofNat y63).toNat : Nat) : Int)), (.int .u64 (((UInt64.ofNat y67).toNat : Nat) : Int)), (.int .u64 (((UInt64.ofNat y71).toNat : Nat) : Int)), (.bool (decide ((o_).toNat = 1))), (.int .u8 (((mb_).toNat : Nat) : Int)), (.int .u8 (((se_).toNat : Nat) : Int)), V2, (.string (bs ([])))], 0, false⟩)] :: L54) [] ∧ KEnt.Own V2 es S2 ∧ P2 l es a ∧ es.length = i ∧ i ≤ cn_.toNat ∧ a ≤ l.length ∧ (∀ x ∈ es, x.body.length ≤ 268435456) ∧ l = ((([k0, k1, k2] ++ ns.flatMap vb) ++ [o_, mb_, se_, cn_]) ++ es.flatMap fun e => sb (encE e)) ++ l.drop a) (fun ((a, V2, S2, es, i)) => cn_.toNat - i) (a + 4, .slice none 0 0, [], [], 0) rfl ⟨(by exact M55), ?_⟩ ?_
            · exact ⟨.nil, fun m0 hr he => ⟨rfl, (hM m0 hr he).2.2.2.2.2⟩, rfl, by omega, by omega, by intro n hn; simp at hn, by rw [List.flatMap_nil, List.append_nil]; exact hE4⟩
            · rintro ⟨a, V2, S2, es, i⟩ h57 ⟨M58, ⟨hO2, hP2, hni2, hi2, hal2, hsm, hE2⟩⟩
              subst eL56
              refine WC.env [(0, _), (2, _), (4, _), (5, _), (11, _), (12, _)] rfl ?_
              obtain ⟨PV, rfl⟩ := hO2.shape
              refine WC.seq ?_
              refine WC.seq ?_
              refine WC.run ?_
              refine WS.op rfl rfl (WS.op rfl rfl ?_)
              refine WS.lssN (a := i) (b := (cn_).toNat) rfl rfl rfl (fun e110 => ?_) (fun e110 => ?_)
              · skip
                refine WS.nil [(0, _), (2, _), (4, _), (5, _), (11, _), (12, _), (110, _)] rfl ?_
                refine WC.condT rfl ?_
                refine WC.skip ?_
                refine WC.seq ?_
                refine WC.block ?_
                refine WC.seq ?_
                refine WC.run ?_
                refine WS.op rfl rfl (WS.op rfl rfl (WS.op rfl (op_slS0 (l := l) a rfl rfl (by first | omega | (simp only [List.length_drop, List.length_take, List.length_append, List.length_cons, List.length_nil, List.length_singleton]; omega) | (simp only [List.length_drop, List.length_take, List.length_append, List.length_cons, List.length_nil, List.length_singleton] at *; omega))) ?_))
                have hkl := rsK_le (l.drop a)
                have htl := rsT_le (l.drop a)
                rw [List.length_drop] at hkl htl
                have hst := P2_step (by omega) hP2 (fun m0 hr he => by have := cnt_eq hr (hM m0 hr he).2.2.2.2.1; omega)
                refine WS.call rfl rfl rfl (ref_ReadS_ran M58.here (l := ((l).drop a)) (by first | omega | (simp only [List.length_drop, List.length_take, List.length_append, List.length_cons, List.length_nil, List.length_singleton]; omega) | (simp only [List.length_drop, List.length_take, List.length_append, List.length_cons, List.length_nil, List.length_singleton] at *; omega))) ?_
                rintro _ h59 ⟨rfl, N60⟩
                have M61 := M58.trans N60
                refine WS.op rfl rfl (WS.op rfl rfl (WS.op rfl rfl (WS.op rfl rfl (WS.op rfl rfl (WS.op rfl rfl (WS.op rfl rfl (WS.nil [(0, _), (2, _), (4, _), (5, _), (11, _), (12, _), (13, _), (14, _), (15, _)] rfl ?_)))))))
                refine WC.seq ?_
                refine WC.seq ?_
                refine WC.run ?_
                refine WS.op rfl rfl ?_
                cases hb2 : (rsOK ((l).drop a))
                · skip
                  refine WS.opV (.bool true) rfl rfl rfl (WS.nil [(0, _), (2, _), (4, _), (5, _), (11, _), (12, _), (13, _), (14, _), (122, _)] rfl ?_)
                  refine WC.condT rfl ?_
                  refine WC.seq ?_
                  refine WC.run ?_
                  refine WS.opV (.agg #[(.int .u8 (0 : Int)), (.int .u8 (0 : Int)), (.int .u8 (0 : Int)), (.int .u64 (0 : Int)), (.int .u64 (0 : Int)), (.int .u64 (0 : Int)), (.int .u64 (0 : Int)), (.int .u64 (0 : Int)), (.bool false), (.int .u8 (0 : Int)), (.int .u8 (0 : Int)), (.slice none 0 0), (.string (bs ([])))]) rfl rfl rfl ?_
                  refine WS.st1 (M61.focus 3 rfl) [_, _, _, _, _, _, _, _, _, _, _, _, _] [_, _, _, _, _, _, _, _, _, _, _, _, _] rfl rfl rfl rfl rfl (Nat.le_of_ble_eq_true rfl) (Nat.le_of_ble_eq_true rfl) rfl rfl ?_
                  intro h63 M64
                  replace M64 : Mem _ _ ([(p1, _)] :: S2 :: [((rb6 + 7), _)] :: S :: []) _ := M64
                  refine WS.op rfl rfl (WS.nil [(2, _), (3, _)] rfl ?_)
                  refine WC.ret ?_
                  refine ⟨[_, _], (res_cellN [_, _, _, _, _, _, _, _, _, _, _, _, _] rfl (M64.at 0 rfl) (Nat.le_of_ble_eq_true rfl) rfl (res_tmp rfl res_nil)), ?_⟩
                  first | exact ⟨zeroM, .slice none 0 0, [], false, rfl, .nil, fun q => (by cases q), fun _ => ⟨rfl, hst.1 hb2⟩, (M64.bare.take 0).nils⟩ | exact ⟨zeroM, .slice none 0 0, [], false, rfl, .nil, fun q => (by cases q), fun _ => ⟨rfl, hst.2.1 hb3⟩, (M64.bare.take 0).nils⟩ | exact ⟨zeroM, .slice none 0 0, [], false, rfl, .nil, fun q => (by cases q), fun _ => ⟨rfl, mid_no hP (by omega) (.inl (by omega))⟩, (M64.bare.take 0).nils⟩ | exact ⟨zeroM, .slice none 0 0, [], false, rfl, .nil, fun q => (by cases q), fun _ => ⟨rfl, mid_no hP (by omega) (.inr ⟨_, ho_, by omega⟩)⟩, (M64.bare.take 0).nils⟩ | exact ⟨zeroM, .slice none 0 0, [], false, rfl, .nil, fun q => (by cases q), fun _ => ⟨rfl, fun m0 hr he => (by have h9 := (P2_end (by omega) hP2 hr he (hcnt m0 hr he)).2.1; rw [hb2] at h9; exact absurd h9 Bool.false_ne_true)⟩, (M64.bare.take 0).nils⟩ | exact ⟨zeroM, .slice none 0 0, [], false, rfl, .nil, fun q => (by cases q), fun _ => ⟨rfl, fun m0 hr he => (by have h9 := (P2_end (by omega) hP2 hr he (hcnt m0 hr he)).2.2.2; rw [List.length_drop] at h9; omega)⟩, (M64.bare.take 0).nils⟩ | exact ⟨zeroM, .slice none 0 0, [], false, rfl, .nil, fun q => (by cases q), fun _ => ⟨rfl, fun m0 hr he => (by obtain ⟨h7, h8, h9, h10⟩ := P2_end (by omega) hP2 hr he (hcnt m0 hr he); have h11 := cand5 hr he hk0 hk1 hk2 (five (by omega) hy55 hy59 hy63 hy67 hy71) (hM m0 hr he) h7 h9; have h12 := rightMB_iff.2 hr; rw [← h11, hb4] at h12; exact absurd h12 Bool.false_ne_true)⟩, (M64.bare.take 0).nils⟩
                · skip
                  refine WS.opV (.bool false) rfl rfl rfl (WS.nil [(0, _), (2, _), (4, _), (5, _), (11, _), (12, _), (13, _), (14, _), (122, _)] rfl ?_)
                  refine WC.condF rfl ?_
                  refine WC.skip ?_
                  refine WC.seq ?_
                  refine WC.run ?_
                  refine WS.op rfl rfl ?_
                  refine WS.call rfl rfl rfl (ref4_Read_ran M61.here (l := (rsT ((l).drop a))) (by omega)) ?_
                  rintro _ h65 ⟨rfl, N66⟩
                  have M67 := M61.trans N66
                  refine WS.op rfl rfl (WS.op rfl rfl (WS.op rfl rfl ?_))
                  refine WS.new M67 rfl ?_
                  intro p68 h69 M70
                  refine WS.st1 (M70.focus 0 rfl) [_, _, _, _, _, _, _, _, _, _, _, _, _] [_, _, _, _, _, _, _, _, _, _, _, _, _] rfl rfl rfl rfl rfl (Nat.le_of_ble_eq_true rfl) (Nat.le_of_ble_eq_true rfl) rfl rfl ?_
                  intro h71 M72
                  replace M72 : Mem _ _ ([(p68, _)] :: S2 :: [((rb6 + 7), _)] :: S :: [(p1, _)] :: []) _ := M72
                  refine WS.op rfl rfl (WS.nil [(0, _), (2, _), (4, _), (5, _), (11, _), (12, _), (14, _), (16, _), (17, _)] rfl ?_)
                  refine WC.seq ?_
                  refine WC.seq ?_
                  refine WC.run ?_
                  refine WS.op rfl rfl ?_
                  cases hb3 : (rdB (rsT ((l).drop a)))
                  · skip
                    refine WS.opV (.bool true) rfl rfl rfl (WS.nil [(0, _), (2, _), (4, _), (5, _), (11, _), (12, _), (14, _), (16, _), (130, _)] rfl ?_)
                    refine WC.condT rfl ?_
                    refine WC.seq ?_
                    refine WC.run ?_
                    refine WS.opV (.agg #[(.int .u8 (0 : Int)), (.int .u8 (0 : Int)), (.int .u8 (0 : Int)), (.int .u64 (0 : Int)), (.int .u64 (0 : Int)), (.int .u64 (0 : Int)), (.int .u64 (0 : Int)), (.int .u64 (0 : Int)), (.bool false), (.int .u8 (0 : Int)), (.int .u8 (0 : Int)), (.slice none 0 0), (.string (bs ([])))]) rfl rfl rfl ?_
                    refine WS.st1 (M72.focus 4 rfl) [_, _, _, _, _, _, _, _, _, _, _, _, _] [_, _, _, _, _, _, _, _, _, _, _, _, _] rfl rfl rfl rfl rfl (Nat.le_of_ble_eq_true rfl) (Nat.le_of_ble_eq_true rfl) rfl rfl ?_
                    intro h73 M74
                    replace M74 : Mem _ _ ([(p1, _)] :: [(p68, _)] :: S2 :: [((rb6 + 7), _)] :: S :: []) _ := M74
                    refine WS.op rfl rfl (WS.nil [(2, _), (3, _)] rfl ?_)
                    refine WC.ret ?_
                    refine ⟨[_, _], (res_cellN [_, _, _, _, _, _, _, _, _, _, _, _, _] rfl (M74.at 0 rfl) (Nat.le_of_ble_eq_true rfl) rfl (res_tmp rfl res_nil)), ?_⟩
                    first | exact ⟨zeroM, .slice none 0 0, [], false, rfl, .nil, fun q => (by cases q), fun _ => ⟨rfl, hst.1 hb2⟩, (M74.bare.take 0).nils⟩ | exact ⟨zeroM, .slice none 0 0, [], false, rfl, .nil, fun q => (by cases q), fun _ => ⟨rfl, hst.2.1 hb3⟩, (M74.bare.take 0).nils⟩ | exact ⟨zeroM, .slice none 0 0, [], false, rfl, .nil, fun q => (by cases q), fun _ => ⟨rfl, mid_no hP (by omega) (.inl (by omega))⟩, (M74.bare.take 0).nils⟩ | exact ⟨zeroM, .slice none 0 0, [], false, rfl, .nil, fun q => (by cases q), fun _ => ⟨rfl, mid_no hP (by omega) (.inr ⟨_, ho_, by omega⟩)⟩, (M74.bare.take 0).nils⟩ | exact ⟨zeroM, .slice none 0 0, [], false, rfl, .nil, fun q => (by cases q), fun _ => ⟨rfl, fun m0 hr he => (by have h9 := (P2_end (by omega) hP2 hr he (hcnt m0 hr he)).2.1; rw [hb2] at h9; exact absurd h9 Bool.false_ne_true)⟩, (M74.bare.take 0).nils⟩ | exact ⟨zeroM, .slice none 0 0, [], false, rfl, .nil, fun q => (by cases q), fun _ => ⟨rfl, fun m0 hr he => (by have h9 := (P2_end (by omega) hP2 hr he (hcnt m0 hr he)).2.2.2; rw [List.length_drop] at h9; omega)⟩, (M74.bare.take 0).nils⟩ | exact ⟨zeroM, .slice none 0 0, [], false, rfl, .nil, fun q => (by cases q), fun _ => ⟨rfl, fun m0 hr he => (by obtain ⟨h7, h8, h9, h10⟩ := P2_end (by omega) hP2 hr he (hcnt m0 hr he); have h11 := cand5 hr he hk0 hk1 hk2 (five (by omega) hy55 hy59 hy63 hy67 hy71) (hM m0 hr he) h7 h9; have h12 := rightMB_iff.2 hr; rw [← h11, hb4] at h12; exact absurd h12 Bool.false_ne_true)⟩, (M74.bare.take 0).nils⟩
                  · skip
                    refine WS.opV (.bool false) rfl rfl rfl (WS.nil [(0, _), (2, _), (4, _), (5, _), (11, _), (12, _), (14, _), (16, _), (130, _)] rfl ?_)
                    refine WC.condF rfl ?_
                    refine WC.skip ?_
                    refine WC.seq ?_
                    refine WC.run ?_
                    refine WS.op rfl rfl (WS.op rfl (op_ld (M72.at 2 rfl) rfl rfl) (WS.op rfl (op_lds [_, _, _, _, _, _, _, _, _, _, _, _, _] (M72.at 0 rfl) rfl (Nat.le_of_ble_eq_true rfl) rfl) ?_))
                    refine WS.bsl M72 [_, _, _, _, _, _, _, _, _, _, _, _, _] rfl rfl rfl rfl ?_
                    intro p75 h76 M77
                    refine WS.app (l := es) (m := [rdE (rsT (l.drop a))]) (hO2) (M77.focus 2 rfl) (Row.Src.one (K := KEnt) (m := [rdE (rsT (l.drop a))]) (M77.at 0 rfl)) rfl (by simp only [List.length_cons, List.length_nil]; omega) (by simp only [List.length_cons, List.length_nil]; omega) rfl rfl rfl ?_
                    intro V78 S79 h80 O81 M82
                    obtain ⟨P83, rfl⟩ := Row.Own.shape O81
                    refine WS.op rfl rfl ?_
                    refine WS.st1 (M82.focus 3 rfl) [_] [_, _, _, _, _, _, _, _, _, _, _, _, _] rfl rfl rfl rfl rfl (Nat.le_of_ble_eq_true rfl) (Nat.le_of_ble_eq_true rfl) rfl rfl ?_
                    intro h84 M85
                    replace M85 : Mem _ _ ([((rb6 + 7), _)] :: S79 :: [(p75, _)] :: [(p68, _)] :: S :: [(p1, _)] :: []) _ := M85
                    refine WS.nil [(0, _), (2, _), (4, _), (5, _), (11, _), (12, _), (14, _)] rfl ?_
                    refine WC.run ?_
                    refine WS.op rfl rfl (WS.op rfl rfl (WS.opV (.int .i64 (((a + (rsK ((l).drop a))) : Nat) : Int)) rfl rfl (add_i64 (a := a) (b := (rsK ((l).drop a))) (by have := rsK_le ((l).drop a); omega)) (WS.op rfl rfl (WS.nil [(0, _), (2, _), (4, _), (5, _), (11, _), (12, _)] rfl ?_))))
                    refine WC.run ?_
                    refine WS.op rfl rfl (WS.opV (.int .i64 (((i + 1) : Nat) : Int)) rfl rfl (add_i64 (a := i) (b := 1) (by omega)) (WS.op rfl rfl (WS.nil [(0, _), (2, _), (4, _), (5, _), (11, _), (12, _)] rfl ?_)))
                    refine ⟨(a + rsK (l.drop a), (.slice P83 ((es ++ [rdE (rsT (l.drop a))])).length (2 * ((es ++ [rdE (rsT (l.drop a))])).length)), S79, es ++ [rdE (rsT (l.drop a))], i + 1), rfl, ⟨(((((M85.bare.focus 5 rfl).focus 5 rfl).focus 2 rfl).focus 3 rfl).take 4), ?_⟩, ?_⟩
                    · exact ⟨by assumption, hst.2.2, by simp; omega, by omega, by omega, small_app hsm (rdE_small (by omega)), by have := split_s hE2 hb2; rw [List.flatMap_append]; have h4 := (rdB_true hb3).2; simp only [List.flatMap_cons, List.flatMap_nil, List.append_nil]; rw [h4]; simpa using this⟩
                    · simp only []; omega
              · skip
                refine WS.nil [(0, _), (2, _), (4, _), (5, _), (11, _), (12, _), (110, _)] rfl ?_
                refine WC.condF rfl ?_
                refine WC.exit ?_
                refine WC.seq ?_
                refine WC.run ?_
                refine WS.op rfl rfl (WS.op rfl rfl (WS.op rfl (op_slS0 (l := l) a rfl rfl (by first | omega | (simp only [List.length_drop, List.length_take, List.length_append, List.length_cons, List.length_nil, List.length_singleton]; omega) | (simp only [List.length_drop, List.length_take, List.length_append, List.length_cons, List.length_nil, List.length_singleton] at *; omega))) ?_))
                have hkl := rsK_le (l.drop a)
                have htl := rsT_le (l.drop a)
                rw [List.length_drop] at hkl htl
                have hcnt : ∀ m0, RightM m0 → encM m0 = l → es.length = m0.es.length := fun m0 hr he => by have := cnt_eq hr (hM m0 hr he).2.2.2.2.1; omega
                refine WS.call rfl rfl rfl (ref_ReadS_ran M58.here (l := ((l).drop a)) (by first | omega | (simp only [List.length_drop, List.length_take, List.length_append, List.length_cons, List.length_nil, List.length_singleton]; omega) | (simp only [List.length_drop, List.length_take, List.length_append, List.length_cons, List.length_nil, List.length_singleton] at *; omega))) ?_
                rintro _ h86 ⟨rfl, N87⟩
                have M88 := M58.trans N87
                refine WS.op rfl rfl (WS.op rfl rfl (WS.op rfl rfl (WS.op rfl rfl (WS.op rfl rfl (WS.op rfl rfl (WS.op rfl rfl (WS.nil [(0, _), (2, _), (4, _), (5, _), (18, _), (19, _), (20, _)] rfl ?_)))))))
                refine WC.seq ?_
                refine WC.seq ?_
                refine WC.run ?_
                refine WS.op rfl rfl ?_
                cases hb2 : (rsOK ((l).drop a))
                · skip
                  refine WS.opV (.bool true) rfl rfl rfl (WS.op rfl rfl (WS.off rfl (WS.off rfl (WS.off rfl (WS.off rfl (WS.off rfl (WS.off rfl (WS.op rfl rfl (WS.nil [(2, _), (4, _), (18, _), (158, _)] rfl ?_)))))))))
                  refine WC.condT rfl ?_
                  refine WC.seq ?_
                  refine WC.run ?_
                  refine WS.opV (.agg #[(.int .u8 (0 : Int)), (.int .u8 (0 : Int)), (.int .u8 (0 : Int)), (.int .u64 (0 : Int)), (.int .u64 (0 : Int)), (.int .u64 (0 : Int)), (.int .u64 (0 : Int)), (.int .u64 (0 : Int)), (.bool false), (.int .u8 (0 : Int)), (.int .u8 (0 : Int)), (.slice none 0 0), (.string (bs ([])))]) rfl rfl rfl ?_
                  refine WS.st1 (M88.focus 3 rfl) [_, _, _, _, _, _, _, _, _, _, _, _, _] [_, _, _, _, _, _, _, _, _, _, _, _, _] rfl rfl rfl rfl rfl (Nat.le_of_ble_eq_true rfl) (Nat.le_of_ble_eq_true rfl) rfl rfl ?_
                  intro h90 M91
                  replace M91 : Mem _ _ ([(p1, _)] :: S2 :: [((rb6 + 7), _)] :: S :: []) _ := M91
                  refine WS.op rfl rfl (WS.nil [(2, _), (3, _)] rfl ?_)
                  refine WC.ret ?_
                  refine ⟨[_, _], (res_cellN [_, _, _, _, _, _, _, _, _, _, _, _, _] rfl (M91.at 0 rfl) (Nat.le_of_ble_eq_true rfl) rfl (res_tmp rfl res_nil)), ?_⟩
                  first | exact ⟨zeroM, .slice none 0 0, [], false, rfl, .nil, fun q => (by cases q), fun _ => ⟨rfl, hst.1 hb2⟩, (M91.bare.take 0).nils⟩ | exact ⟨zeroM, .slice none 0 0, [], false, rfl, .nil, fun q => (by cases q), fun _ => ⟨rfl, hst.2.1 hb3⟩, (M91.bare.take 0).nils⟩ | exact ⟨zeroM, .slice none 0 0, [], false, rfl, .nil, fun q => (by cases q), fun _ => ⟨rfl, mid_no hP (by omega) (.inl (by omega))⟩, (M91.bare.take 0).nils⟩ | exact ⟨zeroM, .slice none 0 0, [], false, rfl, .nil, fun q => (by cases q), fun _ => ⟨rfl, mid_no hP (by omega) (.inr ⟨_, ho_, by omega⟩)⟩, (M91.bare.take 0).nils⟩ | exact ⟨zeroM, .slice none 0 0, [], false, rfl, .nil, fun q => (by cases q), fun _ => ⟨rfl, fun m0 hr he => (by have h9 := (P2_end (by omega) hP2 hr he (hcnt m0 hr he)).2.1; rw [hb2] at h9; exact absurd h9 Bool.false_ne_true)⟩, (M91.bare.take 0).nils⟩ | exact ⟨zeroM, .slice none 0 0, [], false, rfl, .nil, fun q => (by cases q), fun _ => ⟨rfl, fun m0 hr he => (by have h9 := (P2_end (by omega) hP2 hr he (hcnt m0 hr he)).2.2.2; rw [List.length_drop] at h9; omega)⟩, (M91.bare.take 0).nils⟩ | exact ⟨zeroM, .slice none 0 0, [], false, rfl, .nil, fun q => (by cases q), fun _ => ⟨rfl, fun m0 hr he => (by obtain ⟨h7, h8, h9, h10⟩ := P2_end (by omega) hP2 hr he (hcnt m0 hr he); have h11 := cand5 hr he hk0 hk1 hk2 (five (by omega) hy55 hy59 hy63 hy67 hy71) (hM m0 hr he) h7 h9; have h12 := rightMB_iff.2 hr; rw [← h11, hb4] at h12; exact absurd h12 Bool.false_ne_true)⟩, (M91.bare.take 0).nils⟩
                · skip
                  refine WS.opV (.bool false) rfl rfl rfl (WS.op rfl rfl (WS.op rfl rfl (WS.op rfl rfl (WS.opV (.int .i64 (((a + (rsK ((l).drop a))) : Nat) : Int)) rfl rfl (add_i64 (a := a) (b := (rsK ((l).drop a))) (by have := rsK_le ((l).drop a); omega)) (WS.op rfl rfl (WS.op rfl (op_lenS (l := l) rfl) ?_))))))
                  refine WS.neqN (a := (a + (rsK ((l).drop a)))) (b := (l).length) rfl rfl rfl (fun e157 => ?_) (fun e157 => ?_)
                  · skip
                    refine WS.op rfl rfl (WS.nil [(2, _), (4, _), (18, _), (158, _)] rfl ?_)
                    refine WC.condT rfl ?_
                    refine WC.seq ?_
                    refine WC.run ?_
                    refine WS.opV (.agg #[(.int .u8 (0 : Int)), (.int .u8 (0 : Int)), (.int .u8 (0 : Int)), (.int .u64 (0 : Int)), (.int .u64 (0 : Int)), (.int .u64 (0 : Int)), (.int .u64 (0 : Int)), (.int .u64 (0 : Int)), (.bool false), (.int .u8 (0 : Int)), (.int .u8 (0 : Int)), (.slice none 0 0), (.string (bs ([])))]) rfl rfl rfl ?_
                    refine WS.st1 (M88.focus 3 rfl) [_, _, _, _, _, _, _, _, _, _, _, _, _] [_, _, _, _, _, _, _, _, _, _, _, _, _] rfl rfl rfl rfl rfl (Nat.le_of_ble_eq_true rfl) (Nat.le_of_ble_eq_true rfl) rfl rfl ?_
                    intro h92 M93
                    replace M93 : Mem _ _ ([(p1, _)] :: S2 :: [((rb6 + 7), _)] :: S :: []) _ := M93
                    refine WS.op rfl rfl (WS.nil [(2, _), (3, _)] rfl ?_)
                    refine WC.ret ?_
                    refine ⟨[_, _], (res_cellN [_, _, _, _, _, _, _, _, _, _, _, _, _] rfl (M93.at 0 rfl) (Nat.le_of_ble_eq_true rfl) rfl (res_tmp rfl res_nil)), ?_⟩
                    first | exact ⟨zeroM, .slice none 0 0, [], false, rfl, .nil, fun q => (by cases q), fun _ => ⟨rfl, hst.1 hb2⟩, (M93.bare.take 0).nils⟩ | exact ⟨zeroM, .slice none 0 0, [], false, rfl, .nil, fun q => (by cases q), fun _ => ⟨rfl, hst.2.1 hb3⟩, (M93.bare.take 0).nils⟩ | exact ⟨zeroM, .slice none 0 0, [], false, rfl, .nil, fun q => (by cases q), fun _ => ⟨rfl, mid_no hP (by omega) (.inl (by omega))⟩, (M93.bare.take 0).nils⟩ | exact ⟨zeroM, .slice none 0 0, [], false, rfl, .nil, fun q => (by cases q), fun _ => ⟨rfl, mid_no hP (by omega) (.inr ⟨_, ho_, by omega⟩)⟩, (M93.bare.take 0).nils⟩ | exact ⟨zeroM, .slice none 0 0, [], false, rfl, .nil, fun q => (by cases q), fun _ => ⟨rfl, fun m0 hr he => (by have h9 := (P2_end (by omega) hP2 hr he (hcnt m0 hr he)).2.1; rw [hb2] at h9; exact absurd h9 Bool.false_ne_true)⟩, (M93.bare.take 0).nils⟩ | exact ⟨zeroM, .slice none 0 0, [], false, rfl, .nil, fun q => (by cases q), fun _ => ⟨rfl, fun m0 hr he => (by have h9 := (P2_end (by omega) hP2 hr he (hcnt m0 hr he)).2.2.2; rw [List.length_drop] at h9; omega)⟩, (M93.bare.take 0).nils⟩ | exact ⟨zeroM, .slice none 0 0, [], false, rfl, .nil, fun q => (by cases q), fun _ => ⟨rfl, fun m0 hr he => (by obtain ⟨h7, h8, h9, h10⟩ := P2_end (by omega) hP2 hr he (hcnt m0 hr he); have h11 := cand5 hr he hk0 hk1 hk2 (five (by omega) hy55 hy59 hy63 hy67 hy71) (hM m0 hr he) h7 h9; have h12 := rightMB_iff.2 hr; rw [← h11, hb4] at h12; exact absurd h12 Bool.false_ne_true)⟩, (M93.bare.take 0).nils⟩
                  · skip
                    refine WS.op rfl rfl (WS.nil [(2, _), (4, _), (18, _), (158, _)] rfl ?_)
                    refine WC.condF rfl ?_
                    refine WC.skip ?_
                    refine WC.seq ?_
                    refine WC.run ?_
                    refine WS.op rfl rfl (WS.op rfl rfl ?_)
                    refine WS.st1 (M88.focus 1 rfl) [_] [_, _, _, _, _, _, _, _, _, _, _, _, _] rfl rfl rfl rfl rfl (Nat.le_of_ble_eq_true rfl) (Nat.le_of_ble_eq_true rfl) rfl rfl ?_
                    intro h94 M95
                    replace M95 : Mem _ _ ([((rb6 + 7), _)] :: S2 :: S :: [(p1, _)] :: []) _ := M95
                    refine WS.nil [(2, _), (4, _)] rfl ?_
                    refine WC.seq ?_
                    refine WC.seq ?_
                    refine WC.run ?_
                    refine WS.op rfl (op_lds [_, _, _, _, _, _, _, _, _, _, _, _, _] (M95.at 0 rfl) rfl (Nat.le_of_ble_eq_true rfl) rfl) ?_
                    refine WS.call rfl rfl rfl (ref5_Right_ran M95.here (m := (⟨k0, k1, k2, (UInt64.ofNat y55), (UInt64.ofNat y59), (UInt64.ofNat y63), (UInt64.ofNat y67), (UInt64.ofNat y71), (decide ((o_).toNat = 1)), mb_, se_, es, (rsT ((l).drop a))⟩ : Msg)) (Row.Own.sl hO2 (Mem.owni M95 1 rfl)) (by exact ⟨hsm, by dsimp only; omega, by dsimp only; omega⟩)) ?_
                    rintro _ h96 ⟨rfl, N97⟩
                    have M98 := M95.trans N97
                    cases hb4 : (rightMB (⟨k0, k1, k2, (UInt64.ofNat y55), (UInt64.ofNat y59), (UInt64.ofNat y63), (UInt64.ofNat y67), (UInt64.ofNat y71), (decide ((o_).toNat = 1)), mb_, se_, es, (rsT ((l).drop a))⟩ : Msg))
                    · skip
                      refine WS.opV (.bool true) rfl rfl rfl (WS.nil [(2, _), (4, _), (164, _)] rfl ?_)
                      refine WC.condT rfl ?_
                      refine WC.seq ?_
                      refine WC.run ?_
                      refine WS.opV (.agg #[(.int .u8 (0 : Int)), (.int .u8 (0 : Int)), (.int .u8 (0 : Int)), (.int .u64 (0 : Int)), (.int .u64 (0 : Int)), (.int .u64 (0 : Int)), (.int .u64 (0 : Int)), (.int .u64 (0 : Int)), (.bool false), (.int .u8 (0 : Int)), (.int .u8 (0 : Int)), (.slice none 0 0), (.string (bs ([])))]) rfl rfl rfl ?_
                      refine WS.st1 (M98.focus 3 rfl) [_, _, _, _, _, _, _, _, _, _, _, _, _] [_, _, _, _, _, _, _, _, _, _, _, _, _] rfl rfl rfl rfl rfl (Nat.le_of_ble_eq_true rfl) (Nat.le_of_ble_eq_true rfl) rfl rfl ?_
                      intro h99 M100
                      replace M100 : Mem _ _ ([(p1, _)] :: [((rb6 + 7), _)] :: S2 :: S :: []) _ := M100
                      refine WS.op rfl rfl (WS.nil [(2, _), (3, _)] rfl ?_)
                      refine WC.ret ?_
                      refine ⟨[_, _], (res_cellN [_, _, _, _, _, _, _, _, _, _, _, _, _] rfl (M100.at 0 rfl) (Nat.le_of_ble_eq_true rfl) rfl (res_tmp rfl res_nil)), ?_⟩
                      first | exact ⟨zeroM, .slice none 0 0, [], false, rfl, .nil, fun q => (by cases q), fun _ => ⟨rfl, hst.1 hb2⟩, (M100.bare.take 0).nils⟩ | exact ⟨zeroM, .slice none 0 0, [], false, rfl, .nil, fun q => (by cases q), fun _ => ⟨rfl, hst.2.1 hb3⟩, (M100.bare.take 0).nils⟩ | exact ⟨zeroM, .slice none 0 0, [], false, rfl, .nil, fun q => (by cases q), fun _ => ⟨rfl, mid_no hP (by omega) (.inl (by omega))⟩, (M100.bare.take 0).nils⟩ | exact ⟨zeroM, .slice none 0 0, [], false, rfl, .nil, fun q => (by cases q), fun _ => ⟨rfl, mid_no hP (by omega) (.inr ⟨_, ho_, by omega⟩)⟩, (M100.bare.take 0).nils⟩ | exact ⟨zeroM, .slice none 0 0, [], false, rfl, .nil, fun q => (by cases q), fun _ => ⟨rfl, fun m0 hr he => (by have h9 := (P2_end (by omega) hP2 hr he (hcnt m0 hr he)).2.1; rw [hb2] at h9; exact absurd h9 Bool.false_ne_true)⟩, (M100.bare.take 0).nils⟩ | exact ⟨zeroM, .slice none 0 0, [], false, rfl, .nil, fun q => (by cases q), fun _ => ⟨rfl, fun m0 hr he => (by have h9 := (P2_end (by omega) hP2 hr he (hcnt m0 hr he)).2.2.2; rw [List.length_drop] at h9; omega)⟩, (M100.bare.take 0).nils⟩ | exact ⟨zeroM, .slice none 0 0, [], false, rfl, .nil, fun q => (by cases q), fun _ => ⟨rfl, fun m0 hr he => (by obtain ⟨h7, h8, h9, h10⟩ := P2_end (by omega) hP2 hr he (hcnt m0 hr he); have h11 := cand5 hr he hk0 hk1 hk2 (five (by omega) hy55 hy59 hy63 hy67 hy71) (hM m0 hr he) h7 h9; have h12 := rightMB_iff.2 hr; rw [← h11, hb4] at h12; exact absurd h12 Bool.false_ne_true)⟩, (M100.bare.take 0).nils⟩
                    · skip
                      refine WS.opV (.bool false) rfl rfl rfl (WS.nil [(2, _), (4, _), (164, _)] rfl ?_)
                      refine WC.condF rfl ?_
                      refine WC.skip ?_
                      refine WC.seq ?_
                      refine WC.run ?_
                      refine WS.op rfl (op_lds [_, _, _, _, _, _, _, _, _, _, _, _, _] (M98.at 0 rfl) rfl (Nat.le_of_ble_eq_true rfl) rfl) ?_
                      refine WS.st1 (M98.focus 3 rfl) [_, _, _, _, _, _, _, _, _, _, _, _, _] [_, _, _, _, _, _, _, _, _, _, _, _, _] rfl rfl rfl rfl rfl (Nat.le_of_ble_eq_true rfl) (Nat.le_of_ble_eq_true rfl) rfl rfl ?_
                      intro h101 M102
                      replace M102 : Mem _ _ ([(p1, _)] :: [((rb6 + 7), _)] :: S2 :: S :: []) _ := M102
                      refine WS.op rfl rfl (WS.nil [(2, _), (3, _)] rfl ?_)
                      refine WC.ret ?_
                      refine ⟨[_, _], (res_cellN [_, _, _, _, _, _, _, _, _, _, _, _, _] rfl (M102.at 0 rfl) (Nat.le_of_ble_eq_true rfl) rfl (res_tmp rfl res_nil)), ?_⟩
                      exact ⟨(⟨k0, k1, k2, (UInt64.ofNat y55), (UInt64.ofNat y59), (UInt64.ofNat y63), (UInt64.ofNat y67), (UInt64.ofNat y71), (decide ((o_).toNat = 1)), mb_, se_, es, (rsT ((l).drop a))⟩ : Msg), (.slice PV es.length (2 * es.length)), S2, true, rfl, hO2, fun _ => ⟨rightMB_iff.1 hb4, some5 (five (by omega) hy55 hy59 hy63 hy67 hy71) hlt (by omega) (by omega) hb2 rfl (by omega) hE2⟩, fun q => (by cases q), ((M102.bare.focus 2 rfl).take 1)⟩
end Go.Proofs.Ytebgfahbhieoiaa.Wt
