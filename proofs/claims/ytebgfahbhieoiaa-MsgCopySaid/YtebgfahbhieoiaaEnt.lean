/- Entries: which may be, their bytes; the functions that write and read them. -/
import Derived.Test.YtebgfahbhieoiaaNm
namespace Go.Proofs.Ytebgfahbhieoiaa.Wt
open Go Go.Proofs.Ytebgfahbhieoiaa.Am Go.Proofs.Ytebgfahbhieoiaa.IrAll
set_option linter.unusedVariables false
set_option linter.unusedSimpArgs false
structure Ent where
  ix : UInt64
  tm : UInt64
  kd : UInt8
  sl : UInt8
  t0 : UInt8
  t1 : UInt8
  t2 : UInt8
  t3 : UInt8
  t4 : UInt8
  t5 : UInt8
  t6 : UInt8
  t7 : UInt8
  body : List UInt8
  deriving DecidableEq
def Ent.cells (x : Ent) : List Value := [(.int .u64 (((x.ix).toNat : Nat) : Int)), (.int .u64 (((x.tm).toNat : Nat) : Int)), (.int .u8 (((x.kd).toNat : Nat) : Int)), (.int .u8 (((x.sl).toNat : Nat) : Int)), (.int .u8 (((x.t0).toNat : Nat) : Int)), (.int .u8 (((x.t1).toNat : Nat) : Int)), (.int .u8 (((x.t2).toNat : Nat) : Int)), (.int .u8 (((x.t3).toNat : Nat) : Int)), (.int .u8 (((x.t4).toNat : Nat) : Int)), (.int .u8 (((x.t5).toNat : Nat) : Int)), (.int .u8 (((x.t6).toNat : Nat) : Int)), (.int .u8 (((x.t7).toNat : Nat) : Int)), (.string (bs x.body))]
def KEnt : Row Ent := ⟨Ent.cells, 13, fun _ => rfl, by decide, fun _ => rfl⟩

theorem u8_inj {a b : UInt8} (h : a.toNat = b.toNat) : a = b := UInt8.toNat_inj.1 h
theorem u64_inj {a b : UInt64} (h : a.toNat = b.toNat) : a = b := UInt64.toNat_inj.1 h
theorem Ent_eqV (x y : Ent) : eqV (.agg [(0, 1), (1, 1), (2, 1), (3, 1), (4, 1), (5, 1), (6, 1), (7, 1), (8, 1), (9, 1), (10, 1), (11, 1), (12, 2)]) (.agg (Ent.cells x).toArray) (.agg (Ent.cells y).toArray) = some (decide (x = y)) := by
  have e : eqV (.agg [(0, 1), (1, 1), (2, 1), (3, 1), (4, 1), (5, 1), (6, 1), (7, 1), (8, 1), (9, 1), (10, 1), (11, 1), (12, 2)]) (.agg (Ent.cells x).toArray) (.agg (Ent.cells y).toArray) = some (((((x.ix.toNat : Nat) : Int) == ((y.ix.toNat : Nat) : Int)) && ((((x.tm.toNat : Nat) : Int) == ((y.tm.toNat : Nat) : Int)) && ((((x.kd.toNat : Nat) : Int) == ((y.kd.toNat : Nat) : Int)) && ((((x.sl.toNat : Nat) : Int) == ((y.sl.toNat : Nat) : Int)) && ((((x.t0.toNat : Nat) : Int) == ((y.t0.toNat : Nat) : Int)) && ((((x.t1.toNat : Nat) : Int) == ((y.t1.toNat : Nat) : Int)) && ((((x.t2.toNat : Nat) : Int) == ((y.t2.toNat : Nat) : Int)) && ((((x.t3.toNat : Nat) : Int) == ((y.t3.toNat : Nat) : Int)) && ((((x.t4.toNat : Nat) : Int) == ((y.t4.toNat : Nat) : Int)) && ((((x.t5.toNat : Nat) : Int) == ((y.t5.toNat : Nat) : Int)) && ((((x.t6.toNat : Nat) : Int) == ((y.t6.toNat : Nat) : Int)) && ((((x.t7.toNat : Nat) : Int) == ((y.t7.toNat : Nat) : Int)) && (((bs x.body).toList == (bs y.body).toList) && true)))))))))))))) := rfl
  rw [e]; congr 1
  rw [Bool.eq_iff_iff]
  simp only [Bool.and_eq_true, beq_iff_eq, bs_toList, decide_eq_true_eq, Bool.and_true, and_true]
  constructor
  · intro h
    obtain ⟨h0, h1, h2, h3, h4, h5, h6, h7, h8, h9, h10, h11, h12⟩ := h
    obtain ⟨⟩ := x; obtain ⟨⟩ := y
    simp only at *
    rw [u64_inj (Int.ofNat.inj h0), u64_inj (Int.ofNat.inj h1), u8_inj (Int.ofNat.inj h2), u8_inj (Int.ofNat.inj h3), u8_inj (Int.ofNat.inj h4), u8_inj (Int.ofNat.inj h5), u8_inj (Int.ofNat.inj h6), u8_inj (Int.ofNat.inj h7), u8_inj (Int.ofNat.inj h8), u8_inj (Int.ofNat.inj h9), u8_inj (Int.ofNat.inj h10), u8_inj (Int.ofNat.inj h11), h12]
  · intro h; subst h; exact ⟨rfl, rfl, rfl, rfl, rfl, rfl, rfl, rfl, rfl, rfl, rfl, rfl, rfl⟩

theorem KEnt_inj (x y : Ent) (h : KEnt.cells x = KEnt.cells y) : x = y := by
  obtain ⟨⟩ := x; obtain ⟨⟩ := y
  simp only [KEnt, Ent.cells, List.cons.injEq, Value.int.injEq, Value.string.injEq, true_and, and_true] at h
  obtain ⟨h1, h2, h3, h4, h5, h6, h7, h8, h9, h10, h11, h12, h13⟩ := h
  have u8i : ∀ {a b : UInt8}, ((a.toNat : Nat) : Int) = ((b.toNat : Nat) : Int) → a = b := fun h => UInt8.toNat_inj.1 (by omega)
  have u64i : ∀ {a b : UInt64}, ((a.toNat : Nat) : Int) = ((b.toNat : Nat) : Int) → a = b := fun h => UInt64.toNat_inj.1 (by omega)
  rw [u64i h1, u64i h2, u8i h3, u8i h4, u8i h5, u8i h6, u8i h7, u8i h8, u8i h9, u8i h10, u8i h11, u8i h12, bs_inj h13]
def Ent.val (e : Ent) : Value := .agg e.cells.toArray
def Ent.tok (e : Ent) : List UInt8 := [e.t0, e.t1, e.t2, e.t3, e.t4, e.t5, e.t6, e.t7]
def Ent.zero : Ent := ⟨0, 0, 0, 0, 0, 0, 0, 0, 0, 0, 0, 0, []⟩
def RightE (e : Ent) : Prop := 1 ≤ e.ix.toNat ∧ 1 ≤ e.tm.toNat ∧ if e.kd.toNat = 3 then e.sl.toNat < 4 else (e.sl.toNat = 0 ∧ (e.t0.toNat = 0 ∧ e.t1.toNat = 0 ∧ e.t2.toNat = 0 ∧ e.t3.toNat = 0 ∧ e.t4.toNat = 0 ∧ e.t5.toNat = 0 ∧ e.t6.toNat = 0 ∧ e.t7.toNat = 0)) ∧
  if e.kd.toNat = 1 ∨ e.kd.toNat = 5 then e.body.length = 0 else if e.kd.toNat = 2 then (e.body.length = 1 ∧ ∃ c, e.body[0]? = some c ∧ 1 ≤ c.toNat ∧ c.toNat ≤ 31) else e.kd.toNat = 4
def encE (e : Ent) : List UInt8 := ([e.kd] ++ (vb e.ix.toNat ++ vb e.tm.toNat)) ++ ((if e.kd.toNat = 3 then [e.sl] ++ e.tok else []) ++ (if e.kd.toNat = 1 ∨ e.kd.toNat = 5 then [] else sb e.body))
noncomputable instance (e : Ent) : Decidable (RightE e) := Classical.propDecidable _
noncomputable def rightB (e : Ent) : Bool := decide (RightE e)
noncomputable def writeE (e : Ent) : List UInt8 := if rightB e then encE e else []
theorem right_t {e : Ent} (h : RightE e) : packE [.bool true] = .bool (rightB e) := by unfold rightB; exact vbt h
theorem right_f {e : Ent} (h : ¬ RightE e) : packE [.bool false] = .bool (rightB e) := by unfold rightB; exact vbf h
theorem rightB_iff {e : Ent} : rightB e = true ↔ RightE e := by unfold rightB; exact decide_eq_true_iff
theorem right_small {e : Ent} (h : e.ix.toNat < 1 ∨ e.tm.toNat < 1) : ¬ RightE e := fun r => by obtain ⟨a, b, _⟩ := r; omega
theorem right_3 {e : Ent} (h1 : 1 ≤ e.ix.toNat) (h2 : 1 ≤ e.tm.toNat) (h : e.kd.toNat = 3) : RightE e ↔ e.sl.toNat < 4 := by
  unfold RightE; rw [if_pos h]; exact ⟨fun r => r.2.2, fun r => ⟨h1, h2, r⟩⟩
def PlainE (e : Ent) : Prop := e.sl.toNat = 0 ∧ (e.t0.toNat = 0 ∧ e.t1.toNat = 0 ∧ e.t2.toNat = 0 ∧ e.t3.toNat = 0 ∧ e.t4.toNat = 0 ∧ e.t5.toNat = 0 ∧ e.t6.toNat = 0 ∧ e.t7.toNat = 0)
theorem right_15 {e : Ent} (h1 : 1 ≤ e.ix.toNat) (h2 : 1 ≤ e.tm.toNat) (h : e.kd.toNat = 1 ∨ e.kd.toNat = 5) : RightE e ↔ PlainE e ∧ e.body.length = 0 := by
  unfold RightE; rw [if_neg (by omega), if_pos h]; exact ⟨fun r => r.2.2, fun r => ⟨h1, h2, r⟩⟩
theorem right_2 {e : Ent} (h1 : 1 ≤ e.ix.toNat) (h2 : 1 ≤ e.tm.toNat) (h : e.kd.toNat = 2) : RightE e ↔ PlainE e ∧ (e.body.length = 1 ∧ ∃ c, e.body[0]? = some c ∧ 1 ≤ c.toNat ∧ c.toNat ≤ 31) := by
  unfold RightE; rw [if_neg (by omega), if_neg (by omega), if_pos h]; exact ⟨fun r => r.2.2, fun r => ⟨h1, h2, r⟩⟩
theorem right_4 {e : Ent} (h1 : 1 ≤ e.ix.toNat) (h2 : 1 ≤ e.tm.toNat) (h : e.kd.toNat ≠ 1 ∧ e.kd.toNat ≠ 5 ∧ e.kd.toNat ≠ 2 ∧ e.kd.toNat ≠ 3) : RightE e ↔ PlainE e ∧ e.kd.toNat = 4 := by
  unfold RightE; rw [if_neg (by omega), if_neg (by omega), if_neg (by omega)]; exact ⟨fun r => r.2.2, fun r => ⟨h1, h2, r⟩⟩
theorem right_np {e : Ent} (h : e.kd.toNat ≠ 3) (hp : ¬ PlainE e) : ¬ RightE e := fun r => by
  unfold RightE at r; rw [if_neg h] at r; exact hp r.2.2.1
theorem one_byte {l : List UInt8} {c : UInt8} (hc : l[0]? = some c) : (∃ d, l[0]? = some d ∧ 1 ≤ d.toNat ∧ d.toNat ≤ 31) ↔ (1 ≤ c.toNat ∧ c.toNat ≤ 31) :=
  ⟨fun ⟨d, h1, h2⟩ => by rw [hc] at h1; cases h1; exact h2, fun h => ⟨c, hc, h⟩⟩
theorem ent_Right_ran {h : H} (W : Mem h h [] []) {e : Ent} (hb : e.body.length ≤ 1099511627776) : Cll tab0 27 [e.val] h (fun v h2 => v = .bool (rightB e) ∧ Mem h h2 [] []) := by
  refine Cll.code rfl rfl ?_
  refine WC.env [(0, _)] rfl ?_
  refine WC.seq ?_
  refine WC.run ?_
  refine WS.box W [_, _, _, _, _, _, _, _, _, _, _, _, _] rfl rfl rfl rfl ?_
  intro p1 h2 M3
  refine WS.op rfl rfl (WS.nil [(1, _)] rfl ?_)
  refine WC.seq ?_
  refine WC.seq ?_
  obtain ⟨L4, eL6, M5⟩ := Mem.name M3.bare
  refine WC.joinB (base := h) (fun b => [(1, (.pointer (some ⟨p1, 0, none⟩))), (10, .bool b)]) L4 (e.ix.toNat < 1 ∨ e.tm.toNat < 1) (1 ≤ e.ix.toNat ∧ 1 ≤ e.tm.toNat) ?_ ?_ ?_
  · subst eL6
    refine WS.op rfl rfl (WS.op rfl (op_ld (M5.at 0 rfl) rfl rfl) ?_)
    refine WS.lssN (a := (e.ix).toNat) (b := 1) rfl rfl rfl (fun e5 => ?_) (fun e5 => ?_)
    · skip
      refine WS.op rfl rfl (WS.off rfl (WS.off rfl (WS.off rfl (WS.op rfl rfl ?_))))
      refine WS.nil' ⟨true, rfl, ((M5.bare.focus 0 rfl).take 1), fun _ => ?_, fun hh => ?_⟩
      · omega
      · cases hh
    · skip
      refine WS.op rfl rfl (WS.op rfl rfl (WS.op rfl (op_ld (M5.at 0 rfl) rfl rfl) ?_))
      refine WS.lssN (a := (e.tm).toNat) (b := 1) rfl rfl rfl (fun e9 => ?_) (fun e9 => ?_)
      · skip
        refine WS.op rfl rfl ?_
        refine WS.nil' ⟨true, rfl, ((M5.bare.focus 0 rfl).take 1), fun _ => ?_, fun hh => ?_⟩
        · omega
        · cases hh
      · skip
        refine WS.op rfl rfl ?_
        refine WS.nil' ⟨false, rfl, ((M5.bare.focus 0 rfl).take 1), fun hh => ?_, fun _ => ?_⟩
        · cases hh
        · omega
  · intro h7 M8 hp10
    subst eL6
    refine WC.condT rfl ?_
    refine WC.seq ?_
    refine WC.run ?_
    refine WS.op rfl rfl (WS.nil [(2, _)] rfl ?_)
    refine WC.ret ?_
    refine ⟨[_], (res_tmp rfl res_nil), ?_⟩
    exact ⟨right_f (by first | exact right_small (by omega) | exact right_np (by omega) (by assumption) | (rw [right_3 (by omega) (by omega) (by omega)]; omega) | (rw [right_15 (by omega) (by omega) (by omega)]; rintro ⟨_, q⟩; omega) | (rw [right_15 (by omega) (by omega) (by omega)]; rintro ⟨q, _⟩; contradiction) | (rw [right_2 (by omega) (by omega) (by omega)]; rintro ⟨_, q, _⟩; omega) | (rw [right_2 (by omega) (by omega) (by omega)]; rintro ⟨q, _⟩; contradiction) | (rw [right_2 (by omega) (by omega) (by omega), one_byte (by assumption)]; rintro ⟨_, _, q⟩; omega) | (rw [right_4 (by omega) (by omega) (by omega)]; rintro ⟨_, q⟩; omega) | (rw [right_4 (by omega) (by omega) (by omega)]; rintro ⟨q, _⟩; contradiction)), M8.bare.take 0⟩
  · intro h9 M10 hp10
    subst eL6
    refine WC.condF rfl ?_
    refine WC.skip ?_
    refine WC.seq ?_
    refine WC.seq ?_
    refine WC.run ?_
    refine WS.op rfl rfl (WS.op rfl (op_ld (M10.at 0 rfl) rfl rfl) ?_)
    refine WS.eqlN (a := (e.kd).toNat) (b := 3) rfl rfl rfl (fun e13 => ?_) (fun e13 => ?_)
    · skip
      refine WS.nil [(1, _), (13, _)] rfl ?_
      refine WC.condT rfl ?_
      refine WC.seq ?_
      refine WC.run ?_
      refine WS.op rfl rfl (WS.op rfl (op_ld (M10.at 0 rfl) rfl rfl) ?_)
      refine WS.lssN (a := (e.sl).toNat) (b := 4) rfl rfl rfl (fun e16 => ?_) (fun e16 => ?_)
      · skip
        refine WS.op rfl rfl (WS.nil [(2, _)] rfl ?_)
        refine WC.ret ?_
        refine ⟨[_], (res_tmp rfl res_nil), ?_⟩
        exact ⟨right_t (by first | (rw [right_3 (by omega) (by omega) (by omega)]; omega) | (rw [right_15 (by omega) (by omega) (by omega)]; exact ⟨by assumption, by omega⟩) | (rw [right_2 (by omega) (by omega) (by omega), one_byte (by assumption)]; exact ⟨by assumption, by omega, by omega⟩) | (rw [right_4 (by omega) (by omega) (by omega)]; exact ⟨by assumption, by omega⟩)), M10.bare.take 0⟩
      · skip
        refine WS.op rfl rfl (WS.nil [(2, _)] rfl ?_)
        refine WC.ret ?_
        refine ⟨[_], (res_tmp rfl res_nil), ?_⟩
        exact ⟨right_f (by first | exact right_small (by omega) | exact right_np (by omega) (by assumption) | (rw [right_3 (by omega) (by omega) (by omega)]; omega) | (rw [right_15 (by omega) (by omega) (by omega)]; rintro ⟨_, q⟩; omega) | (rw [right_15 (by omega) (by omega) (by omega)]; rintro ⟨q, _⟩; contradiction) | (rw [right_2 (by omega) (by omega) (by omega)]; rintro ⟨_, q, _⟩; omega) | (rw [right_2 (by omega) (by omega) (by omega)]; rintro ⟨q, _⟩; contradiction) | (rw [right_2 (by omega) (by omega) (by omega), one_byte (by assumption)]; rintro ⟨_, _, q⟩; omega) | (rw [right_4 (by omega) (by omega) (by omega)]; rintro ⟨_, q⟩; omega) | (rw [right_4 (by omega) (by omega) (by omega)]; rintro ⟨q, _⟩; contradiction)), M10.bare.take 0⟩
    · skip
      refine WS.nil [(1, _), (13, _)] rfl ?_
      refine WC.condF rfl ?_
      refine WC.skip ?_
      refine WC.seq ?_
      refine WC.seq ?_
      obtain ⟨L11, eL13, M12⟩ := Mem.name M10.bare
      refine WC.joinB (base := h) (fun b => [(1, (.pointer (some ⟨p1, 0, none⟩))), (25, .bool b)]) L11 (¬ PlainE e) (PlainE e) ?_ ?_ ?_
      · subst eL13
        refine WS.op rfl rfl (WS.op rfl (op_ld (M12.at 0 rfl) rfl rfl) ?_)
        refine WS.neqN (a := (e.sl).toNat) (b := 0) rfl rfl rfl (fun e19 => ?_) (fun e19 => ?_)
        · skip
          refine WS.op rfl rfl (WS.off rfl (WS.off rfl (WS.off rfl (WS.off rfl (WS.op rfl rfl ?_)))))
          refine WS.nil' ⟨true, rfl, ((M12.bare.focus 0 rfl).take 1), fun _ => ?_, fun hh => ?_⟩
          · unfold PlainE; omega
          · cases hh
        · skip
          refine WS.op rfl rfl (WS.op rfl rfl (WS.op rfl (op_lds [_, _, _, _, _, _, _, _] (M12.at 0 rfl) rfl (Nat.le_of_ble_eq_true rfl) rfl) (WS.opV (.agg #[(.int .u8 (0 : Int)), (.int .u8 (0 : Int)), (.int .u8 (0 : Int)), (.int .u8 (0 : Int)), (.int .u8 (0 : Int)), (.int .u8 (0 : Int)), (.int .u8 (0 : Int)), (.int .u8 (0 : Int))]) rfl rfl rfl ?_)))
          refine WS.eqqDn (p := (e.t0).toNat = 0 ∧ (e.t1).toNat = 0 ∧ (e.t2).toNat = 0 ∧ (e.t3).toNat = 0 ∧ (e.t4).toNat = 0 ∧ (e.t5).toNat = 0 ∧ (e.t6).toNat = 0 ∧ (e.t7).toNat = 0) rfl rfl rfl (by show some _ = _; simp only [int_beq, int_beq0, str_beq, bool_beq, Bool.decide_and, Bool.and_true]) (fun e24 => ?_) (fun e24 => ?_)
          · skip
            refine WS.op rfl rfl ?_
            refine WS.nil' ⟨true, rfl, ((M12.bare.focus 0 rfl).take 1), fun _ => ?_, fun hh => ?_⟩
            · unfold PlainE; omega
            · cases hh
          · skip
            refine WS.op rfl rfl ?_
            refine WS.nil' ⟨false, rfl, ((M12.bare.focus 0 rfl).take 1), fun hh => ?_, fun _ => ?_⟩
            · cases hh
            · unfold PlainE; omega
      · intro h14 M15 hp25
        subst eL13
        refine WC.condT rfl ?_
        refine WC.seq ?_
        refine WC.run ?_
        refine WS.op rfl rfl (WS.nil [(2, _)] rfl ?_)
        refine WC.ret ?_
        refine ⟨[_], (res_tmp rfl res_nil), ?_⟩
        exact ⟨right_f (by first | exact right_small (by omega) | exact right_np (by omega) (by assumption) | (rw [right_3 (by omega) (by omega) (by omega)]; omega) | (rw [right_15 (by omega) (by omega) (by omega)]; rintro ⟨_, q⟩; omega) | (rw [right_15 (by omega) (by omega) (by omega)]; rintro ⟨q, _⟩; contradiction) | (rw [right_2 (by omega) (by omega) (by omega)]; rintro ⟨_, q, _⟩; omega) | (rw [right_2 (by omega) (by omega) (by omega)]; rintro ⟨q, _⟩; contradiction) | (rw [right_2 (by omega) (by omega) (by omega), one_byte (by assumption)]; rintro ⟨_, _, q⟩; omega) | (rw [right_4 (by omega) (by omega) (by omega)]; rintro ⟨_, q⟩; omega) | (rw [right_4 (by omega) (by omega) (by omega)]; rintro ⟨q, _⟩; contradiction)), M15.bare.take 0⟩
      · intro h16 M17 hp25
        subst eL13
        refine WC.condF rfl ?_
        refine WC.skip ?_
        refine WC.seq ?_
        refine WC.seq ?_
        refine WC.run ?_
        refine WS.op rfl rfl (WS.op rfl (op_ld (M17.at 0 rfl) rfl rfl) (WS.nil [(1, _), (27, _)] rfl ?_))
        refine WC.block ?_
        refine WC.seq ?_
        refine WC.seq ?_
        refine WC.run ?_
        refine WS.eqlN (a := (e.kd).toNat) (b := 1) rfl rfl rfl (fun e29 => ?_) (fun e29 => ?_)
        · skip
          refine WS.op rfl rfl (WS.nil [(1, _), (27, _), (28, _)] rfl ?_)
          refine WC.condT rfl ?_
          refine WC.skip ?_
          refine WC.condT rfl ?_
          refine WC.seq ?_
          refine WC.run ?_
          refine WS.op rfl rfl (WS.op rfl (op_ld (M17.at 0 rfl) rfl rfl) ?_)
          refine WS.seql (l := e.body) (m := []) rfl rfl rfl (fun e33 => ?_) (fun e33 => ?_)
          · skip
            have hl := congrArg List.length e33
            simp only [List.length_nil] at hl
            refine WS.op rfl rfl (WS.nil [(2, _)] rfl ?_)
            refine WC.ret ?_
            refine ⟨[_], (res_tmp rfl res_nil), ?_⟩
            exact ⟨right_t (by first | (rw [right_3 (by omega) (by omega) (by omega)]; omega) | (rw [right_15 (by omega) (by omega) (by omega)]; exact ⟨by assumption, by omega⟩) | (rw [right_2 (by omega) (by omega) (by omega), one_byte (by assumption)]; exact ⟨by assumption, by omega, by omega⟩) | (rw [right_4 (by omega) (by omega) (by omega)]; exact ⟨by assumption, by omega⟩)), M17.bare.take 0⟩
          · skip
            have hl : e.body.length ≠ 0 := fun q => e33 (List.eq_nil_of_length_eq_zero q)
            refine WS.op rfl rfl (WS.nil [(2, _)] rfl ?_)
            refine WC.ret ?_
            refine ⟨[_], (res_tmp rfl res_nil), ?_⟩
            exact ⟨right_f (by first | exact right_small (by omega) | exact right_np (by omega) (by assumption) | (rw [right_3 (by omega) (by omega) (by omega)]; omega) | (rw [right_15 (by omega) (by omega) (by omega)]; rintro ⟨_, q⟩; omega) | (rw [right_15 (by omega) (by omega) (by omega)]; rintro ⟨q, _⟩; contradiction) | (rw [right_2 (by omega) (by omega) (by omega)]; rintro ⟨_, q, _⟩; omega) | (rw [right_2 (by omega) (by omega) (by omega)]; rintro ⟨q, _⟩; contradiction) | (rw [right_2 (by omega) (by omega) (by omega), one_byte (by assumption)]; rintro ⟨_, _, q⟩; omega) | (rw [right_4 (by omega) (by omega) (by omega)]; rintro ⟨_, q⟩; omega) | (rw [right_4 (by omega) (by omega) (by omega)]; rintro ⟨q, _⟩; contradiction)), M17.bare.take 0⟩
        · skip
          refine WS.op rfl rfl (WS.nil [(1, _), (27, _), (28, _)] rfl ?_)
          refine WC.condF rfl ?_
          refine WC.run ?_
          refine WS.eqlN (a := (e.kd).toNat) (b := 5) rfl rfl rfl (fun e30 => ?_) (fun e30 => ?_)
          · skip
            refine WS.op rfl rfl (WS.nil [(1, _), (27, _), (28, _)] rfl ?_)
            refine WC.condT rfl ?_
            refine WC.seq ?_
            refine WC.run ?_
            refine WS.op rfl rfl (WS.op rfl (op_ld (M17.at 0 rfl) rfl rfl) ?_)
            refine WS.seql (l := e.body) (m := []) rfl rfl rfl (fun e33 => ?_) (fun e33 => ?_)
            · skip
              have hl := congrArg List.length e33
              simp only [List.length_nil] at hl
              refine WS.op rfl rfl (WS.nil [(2, _)] rfl ?_)
              refine WC.ret ?_
              refine ⟨[_], (res_tmp rfl res_nil), ?_⟩
              exact ⟨right_t (by first | (rw [right_3 (by omega) (by omega) (by omega)]; omega) | (rw [right_15 (by omega) (by omega) (by omega)]; exact ⟨by assumption, by omega⟩) | (rw [right_2 (by omega) (by omega) (by omega), one_byte (by assumption)]; exact ⟨by assumption, by omega, by omega⟩) | (rw [right_4 (by omega) (by omega) (by omega)]; exact ⟨by assumption, by omega⟩)), M17.bare.take 0⟩
            · skip
              have hl : e.body.length ≠ 0 := fun q => e33 (List.eq_nil_of_length_eq_zero q)
              refine WS.op rfl rfl (WS.nil [(2, _)] rfl ?_)
              refine WC.ret ?_
              refine ⟨[_], (res_tmp rfl res_nil), ?_⟩
              exact ⟨right_f (by first | exact right_small (by omega) | exact right_np (by omega) (by assumption) | (rw [right_3 (by omega) (by omega) (by omega)]; omega) | (rw [right_15 (by omega) (by omega) (by omega)]; rintro ⟨_, q⟩; omega) | (rw [right_15 (by omega) (by omega) (by omega)]; rintro ⟨q, _⟩; contradiction) | (rw [right_2 (by omega) (by omega) (by omega)]; rintro ⟨_, q, _⟩; omega) | (rw [right_2 (by omega) (by omega) (by omega)]; rintro ⟨q, _⟩; contradiction) | (rw [right_2 (by omega) (by omega) (by omega), one_byte (by assumption)]; rintro ⟨_, _, q⟩; omega) | (rw [right_4 (by omega) (by omega) (by omega)]; rintro ⟨_, q⟩; omega) | (rw [right_4 (by omega) (by omega) (by omega)]; rintro ⟨q, _⟩; contradiction)), M17.bare.take 0⟩
          · skip
            refine WS.op rfl rfl (WS.nil [(1, _), (27, _), (28, _)] rfl ?_)
            refine WC.condF rfl ?_
            refine WC.seq ?_
            refine WC.run ?_
            refine WS.eqlN (a := (e.kd).toNat) (b := 2) rfl rfl rfl (fun e35 => ?_) (fun e35 => ?_)
            · skip
              refine WS.op rfl rfl (WS.nil [(1, _), (34, _)] rfl ?_)
              refine WC.condT rfl ?_
              refine WC.seq ?_
              refine WC.run ?_
              refine WS.op rfl rfl (WS.op rfl (op_ld (M17.at 0 rfl) rfl rfl) (WS.op rfl (op_lenS (l := e.body) rfl) ?_))
              refine WS.eqlN (a := (e.body).length) (b := 1) rfl rfl rfl (fun e39 => ?_) (fun e39 => ?_)
              · skip
                refine WS.op rfl rfl (WS.op rfl rfl (WS.op rfl (op_ld (M17.at 0 rfl) rfl rfl) ?_))
                obtain ⟨c18, hc19⟩ : ∃ c, (e.body)[0]? = some c := ⟨_, List.getElem?_eq_getElem (show 0 < (e.body).length by first | omega | (simp only [List.length_drop, List.length_take, List.length_append, List.length_cons, List.length_nil, List.length_singleton]; omega) | (simp only [List.length_drop, List.length_take, List.length_append, List.length_cons, List.length_nil, List.length_singleton] at *; omega))⟩
                refine WS.op rfl (op_ixS 0 rfl rfl hc19) ?_
                refine WS.geqN (a := (c18).toNat) (b := 1) rfl rfl rfl (fun e44 => ?_) (fun e44 => ?_)
                · skip
                  refine WS.op rfl rfl (WS.op rfl rfl (WS.op rfl rfl (WS.op rfl (op_ld (M17.at 0 rfl) rfl rfl) (WS.op rfl (op_ixS 0 rfl rfl hc19) ?_))))
                  refine WS.leqN (a := (c18).toNat) (b := 31) rfl rfl rfl (fun e50 => ?_) (fun e50 => ?_)
                  · skip
                    refine WS.op rfl rfl (WS.op rfl rfl (WS.nil [(2, _)] rfl ?_))
                    refine WC.ret ?_
                    refine ⟨[_], (res_tmp rfl res_nil), ?_⟩
                    exact ⟨right_t (by first | (rw [right_3 (by omega) (by omega) (by omega)]; omega) | (rw [right_15 (by omega) (by omega) (by omega)]; exact ⟨by assumption, by omega⟩) | (rw [right_2 (by omega) (by omega) (by omega), one_byte (by assumption)]; exact ⟨by assumption, by omega, by omega⟩) | (rw [right_4 (by omega) (by omega) (by omega)]; exact ⟨by assumption, by omega⟩)), M17.bare.take 0⟩
                  · skip
                    refine WS.op rfl rfl (WS.op rfl rfl (WS.nil [(2, _)] rfl ?_))
                    refine WC.ret ?_
                    refine ⟨[_], (res_tmp rfl res_nil), ?_⟩
                    exact ⟨right_f (by first | exact right_small (by omega) | exact right_np (by omega) (by assumption) | (rw [right_3 (by omega) (by omega) (by omega)]; omega) | (rw [right_15 (by omega) (by omega) (by omega)]; rintro ⟨_, q⟩; omega) | (rw [right_15 (by omega) (by omega) (by omega)]; rintro ⟨q, _⟩; contradiction) | (rw [right_2 (by omega) (by omega) (by omega)]; rintro ⟨_, q, _⟩; omega) | (rw [right_2 (by omega) (by omega) (by omega)]; rintro ⟨q, _⟩; contradiction) | (rw [right_2 (by omega) (by omega) (by omega), one_byte (by assumption)]; rintro ⟨_, _, q⟩; omega) | (rw [right_4 (by omega) (by omega) (by omega)]; rintro ⟨_, q⟩; omega) | (rw [right_4 (by omega) (by omega) (by omega)]; rintro ⟨q, _⟩; contradiction)), M17.bare.take 0⟩
                · skip
                  refine WS.op rfl rfl (WS.op rfl rfl (WS.off rfl (WS.off rfl (WS.off rfl (WS.off rfl (WS.op rfl rfl (WS.op rfl rfl (WS.nil [(2, _)] rfl ?_))))))))
                  refine WC.ret ?_
                  refine ⟨[_], (res_tmp rfl res_nil), ?_⟩
                  exact ⟨right_f (by first | exact right_small (by omega) | exact right_np (by omega) (by assumption) | (rw [right_3 (by omega) (by omega) (by omega)]; omega) | (rw [right_15 (by omega) (by omega) (by omega)]; rintro ⟨_, q⟩; omega) | (rw [right_15 (by omega) (by omega) (by omega)]; rintro ⟨q, _⟩; contradiction) | (rw [right_2 (by omega) (by omega) (by omega)]; rintro ⟨_, q, _⟩; omega) | (rw [right_2 (by omega) (by omega) (by omega)]; rintro ⟨q, _⟩; contradiction) | (rw [right_2 (by omega) (by omega) (by omega), one_byte (by assumption)]; rintro ⟨_, _, q⟩; omega) | (rw [right_4 (by omega) (by omega) (by omega)]; rintro ⟨_, q⟩; omega) | (rw [right_4 (by omega) (by omega) (by omega)]; rintro ⟨q, _⟩; contradiction)), M17.bare.take 0⟩
              · skip
                refine WS.op rfl rfl (WS.off rfl (WS.off rfl (WS.off rfl (WS.off rfl (WS.op rfl rfl (WS.op rfl rfl (WS.off rfl (WS.off rfl (WS.off rfl ?_)))))))))
                refine WS.off rfl (WS.op rfl rfl (WS.op rfl rfl (WS.nil [(2, _)] rfl ?_)))
                refine WC.ret ?_
                refine ⟨[_], (res_tmp rfl res_nil), ?_⟩
                exact ⟨right_f (by first | exact right_small (by omega) | exact right_np (by omega) (by assumption) | (rw [right_3 (by omega) (by omega) (by omega)]; omega) | (rw [right_15 (by omega) (by omega) (by omega)]; rintro ⟨_, q⟩; omega) | (rw [right_15 (by omega) (by omega) (by omega)]; rintro ⟨q, _⟩; contradiction) | (rw [right_2 (by omega) (by omega) (by omega)]; rintro ⟨_, q, _⟩; omega) | (rw [right_2 (by omega) (by omega) (by omega)]; rintro ⟨q, _⟩; contradiction) | (rw [right_2 (by omega) (by omega) (by omega), one_byte (by assumption)]; rintro ⟨_, _, q⟩; omega) | (rw [right_4 (by omega) (by omega) (by omega)]; rintro ⟨_, q⟩; omega) | (rw [right_4 (by omega) (by omega) (by omega)]; rintro ⟨q, _⟩; contradiction)), M17.bare.take 0⟩
            · skip
              refine WS.op rfl rfl (WS.nil [(1, _), (34, _)] rfl ?_)
              refine WC.condF rfl ?_
              refine WC.skip ?_
              refine WC.seq ?_
              refine WC.run ?_
              refine WS.op rfl rfl (WS.op rfl (op_ld (M17.at 0 rfl) rfl rfl) ?_)
              refine WS.eqlN (a := (e.kd).toNat) (b := 4) rfl rfl rfl (fun e54 => ?_) (fun e54 => ?_)
              · skip
                refine WS.op rfl rfl (WS.nil [(2, _)] rfl ?_)
                refine WC.ret ?_
                refine ⟨[_], (res_tmp rfl res_nil), ?_⟩
                exact ⟨right_t (by first | (rw [right_3 (by omega) (by omega) (by omega)]; omega) | (rw [right_15 (by omega) (by omega) (by omega)]; exact ⟨by assumption, by omega⟩) | (rw [right_2 (by omega) (by omega) (by omega), one_byte (by assumption)]; exact ⟨by assumption, by omega, by omega⟩) | (rw [right_4 (by omega) (by omega) (by omega)]; exact ⟨by assumption, by omega⟩)), M17.bare.take 0⟩
              · skip
                refine WS.op rfl rfl (WS.nil [(2, _)] rfl ?_)
                refine WC.ret ?_
                refine ⟨[_], (res_tmp rfl res_nil), ?_⟩
                exact ⟨right_f (by first | exact right_small (by omega) | exact right_np (by omega) (by assumption) | (rw [right_3 (by omega) (by omega) (by omega)]; omega) | (rw [right_15 (by omega) (by omega) (by omega)]; rintro ⟨_, q⟩; omega) | (rw [right_15 (by omega) (by omega) (by omega)]; rintro ⟨q, _⟩; contradiction) | (rw [right_2 (by omega) (by omega) (by omega)]; rintro ⟨_, q, _⟩; omega) | (rw [right_2 (by omega) (by omega) (by omega)]; rintro ⟨q, _⟩; contradiction) | (rw [right_2 (by omega) (by omega) (by omega), one_byte (by assumption)]; rintro ⟨_, _, q⟩; omega) | (rw [right_4 (by omega) (by omega) (by omega)]; rintro ⟨_, q⟩; omega) | (rw [right_4 (by omega) (by omega) (by omega)]; rintro ⟨q, _⟩; contradiction)), M17.bare.take 0⟩
theorem write_t {e : Ent} (h : rightB e = true) : writeE e = encE e := by unfold writeE; rw [if_pos h]
theorem write_f {e : Ent} (h : rightB e = false) : writeE e = [] := by unfold writeE; rw [if_neg (by rw [h]; decide)]
theorem encE_len {e : Ent} (hb : e.body.length ≤ 549755813888) : (encE e).length ≤ e.body.length + 60 := by
  have h1 := vb_len e.ix.toNat_lt
  have h2 := vb_len e.tm.toNat_lt
  have h3 := sb_len (t := e.body) (by omega)
  unfold encE
  simp only [List.length_append, List.length_cons, List.length_nil]
  split <;> split <;> simp [Ent.tok] <;> omega
theorem writeE_len {e : Ent} (hb : e.body.length ≤ 549755813888) : (writeE e).length ≤ e.body.length + 60 := by
  unfold writeE; split
  · exact encE_len hb
  · simp
theorem ent_Write_ran {h : H} (W : Mem h h [] []) {e : Ent} (hb : e.body.length ≤ 549755813888) : Cll tab0 23 [e.val] h (fun v h2 => v = .string (bs (writeE e)) ∧ Mem h h2 [] []) := by
  have hv1 := vb_len e.ix.toNat_lt
  have hv2 := vb_len e.tm.toNat_lt
  have hv3 := sb_len (t := e.body) (by omega)
  refine Cll.code rfl rfl ?_
  refine WC.env [(0, _)] rfl ?_
  refine WC.seq ?_
  refine WC.run ?_
  refine WS.box W [_, _, _, _, _, _, _, _, _, _, _, _, _] rfl rfl rfl rfl ?_
  intro p1 h2 M3
  refine WS.op rfl rfl (WS.nil [(1, _)] rfl ?_)
  refine WC.seq ?_
  refine WC.seq ?_
  refine WC.run ?_
  refine WS.op rfl (op_lds [_, _, _, _, _, _, _, _, _, _, _, _, _] (M3.at 0 rfl) rfl (Nat.le_of_ble_eq_true rfl) rfl) ?_
  refine WS.call rfl rfl rfl (ent_Right_ran M3.here (e := e) (by first | omega | (simp only [List.length_drop, List.length_take, List.length_append, List.length_cons, List.length_nil, List.length_singleton]; omega) | (simp only [List.length_drop, List.length_take, List.length_append, List.length_cons, List.length_nil, List.length_singleton] at *; omega))) ?_
  rintro _ h4 ⟨rfl, N5⟩
  have M6 := M3.trans N5
  cases hb1 : (rightB e)
  · skip
    refine WS.opV (.bool true) rfl rfl rfl (WS.nil [(1, _), (6, _)] rfl ?_)
    refine WC.condT rfl ?_
    refine WC.seq ?_
    refine WC.run ?_
    refine WS.op rfl rfl (WS.nil [(2, _)] rfl ?_)
    refine WC.ret ?_
    refine ⟨[_], (res_tmp rfl res_nil), ?_⟩
    exact ⟨by rw [write_f hb1]; rfl, M6.bare.take 0⟩
  · skip
    refine WS.opV (.bool false) rfl rfl rfl (WS.nil [(1, _), (6, _)] rfl ?_)
    refine WC.condF rfl ?_
    refine WC.skip ?_
    refine WC.seq ?_
    refine WC.draw M6 [8, 2] rfl ?_
    intro rb7 h8 M9
    refine WS.op rfl rfl (WS.op rfl (op_ld (M9.at 0 rfl) rfl rfl) (WS.op rfl rfl (WS.op rfl (op_ld (M9.at 0 rfl) rfl rfl) (WS.op rfl rfl (WS.op rfl (op_ld (M9.at 0 rfl) rfl rfl) ?_)))))
    refine WS.bslA M9 [_, _] 0 rfl rfl rfl rfl rfl ?_
    intro h11 M12
    refine WS.call rfl rfl rfl (num_V_ran M12.here (Row.Sl.own (K := KNat) (l := [(e.ix).toNat, (e.tm).toNat]) (M12.at 0 rfl)) (by have := e.ix.toNat_lt; have := e.tm.toNat_lt; intro n hn; simp only [List.mem_cons, List.mem_nil_iff, or_false] at hn; omega) (by simp) (r := ((vb ((e.ix).toNat)) ++ (vb ((e.tm).toNat)))) (by simp [List.flatMap])) ?_
    rintro _ h13 ⟨rfl, N14⟩
    have M15 := M12.trans N14
    refine WS.chk rfl (op_ld (M15.at 1 rfl) rfl rfl) rfl (sameV_refl rfl) ?_
    refine WS.bslA M15 [_] 0 rfl rfl rfl rfl rfl ?_
    intro h17 M18
    refine WS.opR rfl rfl (op_cvB (l := [e.kd]) (M18.at 0 rfl) rfl rfl (Nat.le_of_ble_eq_true rfl) rfl) (WS.op rfl (op_sadd (l := [e.kd]) (m := ((vb ((e.ix).toNat)) ++ (vb ((e.tm).toNat)))) rfl rfl (by first | omega | (simp only [List.length_drop, List.length_take, List.length_append, List.length_cons, List.length_nil, List.length_singleton]; omega) | (simp only [List.length_drop, List.length_take, List.length_append, List.length_cons, List.length_nil, List.length_singleton] at *; omega))) (WS.op rfl rfl (WS.nil [(1, _), (3, _)] rfl ?_)))
    refine WC.seq ?_
    refine WC.seq ?_
    refine WC.run ?_
    refine WS.op rfl rfl (WS.op rfl (op_ld (M18.bare.at 2 rfl) rfl rfl) ?_)
    refine WS.eqlN (a := (e.kd).toNat) (b := 3) rfl rfl rfl (fun e20 => ?_) (fun e20 => ?_)
    · skip
      refine WS.nil [(1, _), (3, _), (20, _)] rfl ?_
      refine WC.condT rfl ?_
      refine WC.draw M18.bare [3] rfl ?_
      intro rb19 h20 M21
      refine WS.op rfl rfl (WS.op rfl rfl (WS.op rfl (op_ld (M21.at 2 rfl) rfl rfl) (WS.op rfl rfl (WS.opV (.slice (some ⟨p1, 4, none⟩) 8 17) rfl rfl rfl (WS.op rfl (op_cvB (l := [e.t0, e.t1, e.t2, e.t3, e.t4, e.t5, e.t6, e.t7]) (M21.at 2 rfl) rfl rfl (Nat.le_of_ble_eq_true rfl) rfl) ?_)))))
      refine WS.bslA M21 [_] 0 rfl rfl rfl rfl rfl ?_
      intro h23 M24
      refine WS.opR rfl rfl (op_cvB (l := [e.sl]) (M24.at 0 rfl) rfl rfl (Nat.le_of_ble_eq_true rfl) rfl) (WS.op rfl (op_sadd (l := [e.sl]) (m := [e.t0, e.t1, e.t2, e.t3, e.t4, e.t5, e.t6, e.t7]) rfl rfl (by first | omega | (simp only [List.length_drop, List.length_take, List.length_append, List.length_cons, List.length_nil, List.length_singleton]; omega) | (simp only [List.length_drop, List.length_take, List.length_append, List.length_cons, List.length_nil, List.length_singleton] at *; omega))) (WS.op rfl (op_sadd (l := ([e.kd] ++ ((vb ((e.ix).toNat)) ++ (vb ((e.tm).toNat))))) (m := ([e.sl] ++ [e.t0, e.t1, e.t2, e.t3, e.t4, e.t5, e.t6, e.t7])) rfl rfl (by first | omega | (simp only [List.length_drop, List.length_take, List.length_append, List.length_cons, List.length_nil, List.length_singleton]; omega) | (simp only [List.length_drop, List.length_take, List.length_append, List.length_cons, List.length_nil, List.length_singleton] at *; omega))) (WS.op rfl rfl (WS.nil [(1, _), (3, _)] rfl ?_))))
      refine WC.seq ?_
      refine WC.seq ?_
      obtain ⟨L25, eL27, M26⟩ := Mem.name M24.bare.bare
      refine WC.joinB (base := h) (fun b => [(1, (.pointer (some ⟨p1, 0, none⟩))), (3, (.string (bs (([e.kd] ++ ((vb ((e.ix).toNat)) ++ (vb ((e.tm).toNat)))) ++ ([e.sl] ++ [e.t0, e.t1, e.t2, e.t3, e.t4, e.t5, e.t6, e.t7]))))), (38, .bool b)]) L25 (e.kd.toNat = 1 ∨ e.kd.toNat = 5) (¬ (e.kd.toNat = 1 ∨ e.kd.toNat = 5)) ?_ ?_ ?_
      · subst eL27
        refine WS.op rfl rfl (WS.op rfl (op_ld (M26.at 3 rfl) rfl rfl) ?_)
        refine WS.eqlN (a := (e.kd).toNat) (b := 1) rfl rfl rfl (fun e33 => ?_) (fun e33 => ?_)
        · skip
          refine WS.op rfl rfl (WS.off rfl (WS.off rfl (WS.off rfl (WS.op rfl rfl ?_))))
          refine WS.nil' ⟨true, rfl, (((((M26.bare.focus 3 rfl).focus 3 rfl).focus 3 rfl).focus 3 rfl).take 4), fun _ => ?_, fun hh => ?_⟩
          · omega
          · cases hh
        · skip
          refine WS.op rfl rfl (WS.op rfl rfl (WS.op rfl (op_ld (M26.at 3 rfl) rfl rfl) ?_))
          refine WS.eqlN (a := (e.kd).toNat) (b := 5) rfl rfl rfl (fun e37 => ?_) (fun e37 => ?_)
          · skip
            refine WS.op rfl rfl ?_
            refine WS.nil' ⟨true, rfl, (((((M26.bare.focus 3 rfl).focus 3 rfl).focus 3 rfl).focus 3 rfl).take 4), fun _ => ?_, fun hh => ?_⟩
            · omega
            · cases hh
          · skip
            refine WS.op rfl rfl ?_
            refine WS.nil' ⟨false, rfl, (((((M26.bare.focus 3 rfl).focus 3 rfl).focus 3 rfl).focus 3 rfl).take 4), fun hh => ?_, fun _ => ?_⟩
            · cases hh
            · omega
      · intro h28 M29 hp38
        subst eL27
        refine WC.condT rfl ?_
        refine WC.seq ?_
        refine WC.run ?_
        refine WS.op rfl rfl (WS.op rfl rfl (WS.nil [(2, _)] rfl ?_))
        refine WC.ret ?_
        refine ⟨[_], (res_tmp rfl res_nil), ?_⟩
        exact ⟨by rw [show writeE e = (([e.kd] ++ ((vb ((e.ix).toNat)) ++ (vb ((e.tm).toNat)))) ++ ([e.sl] ++ [e.t0, e.t1, e.t2, e.t3, e.t4, e.t5, e.t6, e.t7])) from by (rw [write_t hb1]; unfold encE; first | rw [if_pos (by omega)] | rw [if_neg (by omega)]); (first | rw [if_pos (by omega)] | rw [if_neg (by omega)]); simp [Ent.tok]]; rfl, M29.bare.take 0⟩
      · intro h30 M31 hp38
        subst eL27
        refine WC.condF rfl ?_
        refine WC.skip ?_
        refine WC.seq ?_
        refine WC.run ?_
        refine WS.op rfl rfl (WS.op rfl rfl (WS.op rfl (op_ld (M31.at 3 rfl) rfl rfl) ?_))
        refine WS.bsl M31 [_] rfl rfl rfl rfl ?_
        intro p32 h33 M34
        refine WS.call rfl rfl rfl (num_S_ran M34.here (Row.Sl.own (K := KStr) (l := [e.body]) (M34.at 0 rfl)) (by simp only [List.map_cons, List.map_nil, List.sum_cons, List.sum_nil, List.length_cons, List.length_nil]; omega) (r := (sb e.body)) (by simp [List.flatMap])) ?_
        rintro _ h35 ⟨rfl, N36⟩
        have M37 := M34.trans N36
        refine WS.op rfl (op_sadd (l := (([e.kd] ++ ((vb ((e.ix).toNat)) ++ (vb ((e.tm).toNat)))) ++ ([e.sl] ++ [e.t0, e.t1, e.t2, e.t3, e.t4, e.t5, e.t6, e.t7]))) (m := (sb e.body)) rfl rfl (by first | omega | (simp only [List.length_drop, List.length_take, List.length_append, List.length_cons, List.length_nil, List.length_singleton]; omega) | (simp only [List.length_drop, List.length_take, List.length_append, List.length_cons, List.length_nil, List.length_singleton] at *; omega))) (WS.op rfl rfl (WS.nil [(2, _)] rfl ?_))
        refine WC.ret ?_
        refine ⟨[_], (res_tmp rfl res_nil), ?_⟩
        exact ⟨by rw [show writeE e = ((([e.kd] ++ ((vb ((e.ix).toNat)) ++ (vb ((e.tm).toNat)))) ++ ([e.sl] ++ [e.t0, e.t1, e.t2, e.t3, e.t4, e.t5, e.t6, e.t7])) ++ (sb e.body)) from by (rw [write_t hb1]; unfold encE; first | rw [if_pos (by omega)] | rw [if_neg (by omega)]); (first | rw [if_pos (by omega)] | rw [if_neg (by omega)]); simp [Ent.tok]]; rfl, M37.bare.take 0⟩
    · skip
      refine WS.nil [(1, _), (3, _), (20, _)] rfl ?_
      refine WC.condF rfl ?_
      refine WC.skip ?_
      refine WC.seq ?_
      refine WC.seq ?_
      obtain ⟨L38, eL40, M39⟩ := Mem.name M18.bare.bare
      refine WC.joinB (base := h) (fun b => [(1, (.pointer (some ⟨p1, 0, none⟩))), (3, (.string (bs ([e.kd] ++ ((vb ((e.ix).toNat)) ++ (vb ((e.tm).toNat))))))), (38, .bool b)]) L38 (e.kd.toNat = 1 ∨ e.kd.toNat = 5) (¬ (e.kd.toNat = 1 ∨ e.kd.toNat = 5)) ?_ ?_ ?_
      · subst eL40
        refine WS.op rfl rfl (WS.op rfl (op_ld (M39.at 2 rfl) rfl rfl) ?_)
        refine WS.eqlN (a := (e.kd).toNat) (b := 1) rfl rfl rfl (fun e33 => ?_) (fun e33 => ?_)
        · skip
          refine WS.op rfl rfl (WS.off rfl (WS.off rfl (WS.off rfl (WS.op rfl rfl ?_))))
          refine WS.nil' ⟨true, rfl, ((((M39.bare.focus 2 rfl).focus 2 rfl).focus 2 rfl).take 3), fun _ => ?_, fun hh => ?_⟩
          · omega
          · cases hh
        · skip
          refine WS.op rfl rfl (WS.op rfl rfl (WS.op rfl (op_ld (M39.at 2 rfl) rfl rfl) ?_))
          refine WS.eqlN (a := (e.kd).toNat) (b := 5) rfl rfl rfl (fun e37 => ?_) (fun e37 => ?_)
          · skip
            refine WS.op rfl rfl ?_
            refine WS.nil' ⟨true, rfl, ((((M39.bare.focus 2 rfl).focus 2 rfl).focus 2 rfl).take 3), fun _ => ?_, fun hh => ?_⟩
            · omega
            · cases hh
          · skip
            refine WS.op rfl rfl ?_
            refine WS.nil' ⟨false, rfl, ((((M39.bare.focus 2 rfl).focus 2 rfl).focus 2 rfl).take 3), fun hh => ?_, fun _ => ?_⟩
            · cases hh
            · omega
      · intro h41 M42 hp38
        subst eL40
        refine WC.condT rfl ?_
        refine WC.seq ?_
        refine WC.run ?_
        refine WS.op rfl rfl (WS.op rfl rfl (WS.nil [(2, _)] rfl ?_))
        refine WC.ret ?_
        refine ⟨[_], (res_tmp rfl res_nil), ?_⟩
        exact ⟨by rw [show writeE e = ([e.kd] ++ ((vb ((e.ix).toNat)) ++ (vb ((e.tm).toNat)))) from by (rw [write_t hb1]; unfold encE; first | rw [if_pos (by omega)] | rw [if_neg (by omega)]); (first | rw [if_pos (by omega)] | rw [if_neg (by omega)]); simp [Ent.tok]]; rfl, M42.bare.take 0⟩
      · intro h43 M44 hp38
        subst eL40
        refine WC.condF rfl ?_
        refine WC.skip ?_
        refine WC.seq ?_
        refine WC.run ?_
        refine WS.op rfl rfl (WS.op rfl rfl (WS.op rfl (op_ld (M44.at 2 rfl) rfl rfl) ?_))
        refine WS.bsl M44 [_] rfl rfl rfl rfl ?_
        intro p45 h46 M47
        refine WS.call rfl rfl rfl (num_S_ran M47.here (Row.Sl.own (K := KStr) (l := [e.body]) (M47.at 0 rfl)) (by simp only [List.map_cons, List.map_nil, List.sum_cons, List.sum_nil, List.length_cons, List.length_nil]; omega) (r := (sb e.body)) (by simp [List.flatMap])) ?_
        rintro _ h48 ⟨rfl, N49⟩
        have M50 := M47.trans N49
        refine WS.op rfl (op_sadd (l := ([e.kd] ++ ((vb ((e.ix).toNat)) ++ (vb ((e.tm).toNat))))) (m := (sb e.body)) rfl rfl (by first | omega | (simp only [List.length_drop, List.length_take, List.length_append, List.length_cons, List.length_nil, List.length_singleton]; omega) | (simp only [List.length_drop, List.length_take, List.length_append, List.length_cons, List.length_nil, List.length_singleton] at *; omega))) (WS.op rfl rfl (WS.nil [(2, _)] rfl ?_))
        refine WC.ret ?_
        refine ⟨[_], (res_tmp rfl res_nil), ?_⟩
        exact ⟨by rw [show writeE e = (([e.kd] ++ ((vb ((e.ix).toNat)) ++ (vb ((e.tm).toNat)))) ++ (sb e.body)) from by (rw [write_t hb1]; unfold encE; first | rw [if_pos (by omega)] | rw [if_neg (by omega)]); (first | rw [if_pos (by omega)] | rw [if_neg (by omega)]); simp [Ent.tok]]; rfl, M50.bare.take 0⟩
/-! ### Reading -/
/-- What stands behind the numbers. -/
def tailE (e : Ent) : List UInt8 := (if e.kd.toNat = 3 then [e.sl] ++ e.tok else []) ++ (if e.kd.toNat = 1 ∨ e.kd.toNat = 5 then [] else sb e.body)
theorem encE_eq (e : Ent) : encE e = e.kd :: (vb e.ix.toNat ++ (vb e.tm.toNat ++ tailE e)) := by simp [encE, tailE]
def rest1 (s : List UInt8) : List UInt8 := s.drop (1 + rvK (s.drop 1))
def rest2 (s : List UInt8) : List UInt8 := s.drop (1 + rvK (s.drop 1) + rvK (rest1 s))
theorem enc_parts {e : Ent} {s : List UInt8} (h : encE e = s) : s[0]? = some e.kd ∧ getV (s.drop 1) = some (e.ix.toNat, rvK (s.drop 1)) ∧ getV (rest1 s) = some (e.tm.toNat, rvK (rest1 s)) ∧ rest2 s = tailE e ∧ 3 ≤ s.length := by
  rw [encE_eq] at h
  have h1 : s.drop 1 = vb e.ix.toNat ++ (vb e.tm.toNat ++ tailE e) := by rw [← h]; rfl
  have g1 := getV_vb e.ix.toNat_lt (vb e.tm.toNat ++ tailE e)
  rw [← h1] at g1
  have k1 := (rv_eq_some g1).2.1
  have r1 : rest1 s = vb e.tm.toNat ++ tailE e := by
    unfold rest1; rw [← List.drop_drop, k1, h1, List.drop_left]
  have g2 := getV_vb e.tm.toNat_lt (tailE e)
  rw [← r1] at g2
  have k2 := (rv_eq_some g2).2.1
  refine ⟨by rw [← h]; rfl, by rw [k1]; exact g1, by rw [k2]; exact g2, ?_, ?_⟩
  · unfold rest2
    have e1 : s.drop (1 + rvK (s.drop 1) + rvK (rest1 s)) = (rest1 s).drop (rvK (rest1 s)) := by unfold rest1; rw [List.drop_drop]
    rw [e1, k2, r1, List.drop_left]
  · have a1 := List.length_pos_iff.2 (vb_ne e.ix.toNat)
    have a2 := List.length_pos_iff.2 (vb_ne e.tm.toNat)
    rw [← h]; simp; omega
theorem enc_of {e : Ent} {s : List UInt8} {c : UInt8} (h0 : s[0]? = some c) (hk : e.kd = c) (h1 : getV (s.drop 1) = some (e.ix.toNat, rvK (s.drop 1))) (h2 : getV (rest1 s) = some (e.tm.toNat, rvK (rest1 s))) (h3 : rest2 s = tailE e) : encE e = s := by
  obtain ⟨a1, a2, _⟩ := getV_some h1
  obtain ⟨b1, b2, _⟩ := getV_some h2
  rw [encE_eq, ← h3]
  have e1 : rest2 s = (rest1 s).drop (rvK (rest1 s)) := by unfold rest2 rest1; rw [List.drop_drop]
  have e2 : rest1 s = (s.drop 1).drop (rvK (s.drop 1)) := by unfold rest1; rw [List.drop_drop]
  rw [e1, ← b1, e2, ← a1, hk]
  have := drop_cons h0
  simpa using this.symm
def rdOK (s : List UInt8) : Prop := ∃ e, RightE e ∧ encE e = s
theorem tail_ne {e : Ent} : (e.kd.toNat = 1 ∨ e.kd.toNat = 5) → tailE e = [] := fun h => by unfold tailE; rw [if_neg (by omega), if_pos h]; rfl
theorem tail_3 {e : Ent} : e.kd.toNat = 3 → tailE e = e.sl :: (e.tok ++ sb e.body) := fun h => by unfold tailE; rw [if_pos h, if_neg (by omega)]; simp
theorem tail_24 {e : Ent} : e.kd.toNat ≠ 3 → ¬ (e.kd.toNat = 1 ∨ e.kd.toNat = 5) → tailE e = sb e.body := fun h h2 => by unfold tailE; rw [if_neg h, if_neg h2]; rfl
theorem sb_ne (t : List UInt8) : sb t ≠ [] := by simp [sb, vb_ne]
theorem sb_inj {t u : List UInt8} (h : sb t = sb u) (ht : t.length < 18446744073709551616) (hu : u.length < 18446744073709551616) : t = u := by
  have h1 := getS_sb ht []
  have h2 := getS_sb hu []
  rw [h, h2] at h1
  simp at h1; exact h1.symm
theorem PlainE_zero {e : Ent} (h : PlainE e) : e.sl = 0 ∧ e.t0 = 0 ∧ e.t1 = 0 ∧ e.t2 = 0 ∧ e.t3 = 0 ∧ e.t4 = 0 ∧ e.t5 = 0 ∧ e.t6 = 0 ∧ e.t7 = 0 := by
  have z : ∀ {c : UInt8}, c.toNat = 0 → c = 0 := fun h => UInt8.toNat_inj.1 h
  obtain ⟨h1, h2, h3, h4, h5, h6, h7, h8, h9⟩ := h
  exact ⟨z h1, z h2, z h3, z h4, z h5, z h6, z h7, z h8, z h9⟩
theorem RightE_plain {e : Ent} (h : RightE e) (h3 : e.kd.toNat ≠ 3) : PlainE e := by
  unfold RightE at h; rw [if_neg h3] at h; exact h.2.2.1
theorem RightE_body {e : Ent} (h : RightE e) (h3 : e.kd.toNat = 1 ∨ e.kd.toNat = 5) : e.body = [] := by
  unfold RightE at h; rw [if_neg (by omega), if_pos h3] at h; exact List.eq_nil_of_length_eq_zero h.2.2.2
/-- Right entries with the same bytes are the same. -/
theorem enc_inj2 {e f : Ent} (hz : e.kd.toNat ≠ 3 → PlainE e) (hb : e.kd.toNat = 1 ∨ e.kd.toNat = 5 → e.body = []) (hf : RightE f) (be : e.body.length < 18446744073709551616) (bf : f.body.length < 18446744073709551616) (h : encE e = encE f) : e = f := by
  obtain ⟨p1, p2, p3, p4, _⟩ := enc_parts h
  obtain ⟨q1, q2, q3, q4, _⟩ := enc_parts (e := f) rfl
  rw [q1] at p1; rw [q2] at p2; rw [q3] at p3; rw [q4] at p4
  have hk : f.kd = e.kd := by simpa using p1
  have hix : f.ix = e.ix := UInt64.toNat_inj.1 (by simpa using p2)
  have htm : f.tm = e.tm := UInt64.toNat_inj.1 (by simpa using p3)
  have rest : f.sl = e.sl ∧ f.t0 = e.t0 ∧ f.t1 = e.t1 ∧ f.t2 = e.t2 ∧ f.t3 = e.t3 ∧ f.t4 = e.t4 ∧ f.t5 = e.t5 ∧ f.t6 = e.t6 ∧ f.t7 = e.t7 ∧ f.body = e.body := by
    by_cases c3 : e.kd.toNat = 3
    · rw [tail_3 c3, tail_3 (by rw [hk]; exact c3)] at p4
      simp only [Ent.tok, List.cons_append, List.nil_append, List.cons.injEq] at p4
      obtain ⟨a, b0, b1, b2, b3, b4, b5, b6, b7, c⟩ := p4
      exact ⟨a, b0, b1, b2, b3, b4, b5, b6, b7, sb_inj c bf be⟩
    · obtain ⟨a, b0, b1, b2, b3, b4, b5, b6, b7⟩ := PlainE_zero (hz c3)
      obtain ⟨a', b0', b1', b2', b3', b4', b5', b6', b7'⟩ := PlainE_zero (RightE_plain hf (by rw [hk]; exact c3))
      refine ⟨by rw [a, a'], by rw [b0, b0'], by rw [b1, b1'], by rw [b2, b2'], by rw [b3, b3'], by rw [b4, b4'], by rw [b5, b5'], by rw [b6, b6'], by rw [b7, b7'], ?_⟩
      by_cases c1 : e.kd.toNat = 1 ∨ e.kd.toNat = 5
      · rw [hb c1, RightE_body hf (by rw [hk]; exact c1)]
      · rw [tail_24 c3 c1, tail_24 (by rw [hk]; exact c3) (by rw [hk]; exact c1)] at p4
        exact sb_inj p4 bf be
  obtain ⟨r0, r1, r2, r3, r4, r5, r6, r7, r8, r9⟩ := rest
  obtain ⟨⟩ := e; obtain ⟨⟩ := f
  simp only at *
  subst hk hix htm r0 r1 r2 r3 r4 r5 r6 r7 r8 r9
  rfl
theorem enc_inj {e f : Ent} (he : RightE e) (hf : RightE f) (be : e.body.length < 18446744073709551616) (bf : f.body.length < 18446744073709551616) (h : encE e = encE f) : e = f :=
  enc_inj2 (RightE_plain he) (RightE_body he) hf be bf h
theorem enc_body_len {e : Ent} {s : List UInt8} (he : RightE e) (h : encE e = s) : e.body.length ≤ s.length := by
  rw [encE_eq] at h
  by_cases c1 : e.kd.toNat = 1 ∨ e.kd.toNat = 5
  · rw [RightE_body he c1]; simp
  · have : e.body.length ≤ (tailE e).length := by
      unfold tailE; rw [if_neg c1]; simp [sb]; omega
    rw [← h]; simp; omega
def zeroE : Ent := ⟨0, 0, 0, 0, 0, 0, 0, 0, 0, 0, 0, 0, []⟩
noncomputable instance (s : List UInt8) : Decidable (rdOK s) := Classical.propDecidable _
noncomputable def rdE (s : List UInt8) : Ent := if h : rdOK s then Classical.choose h else zeroE
noncomputable def rdB (s : List UInt8) : Bool := decide (rdOK s)
noncomputable def rdV (s : List UInt8) : Value := .tuple #[(rdE s).val, .bool (rdB s)]
theorem rd_some {e : Ent} {s : List UInt8} (hs : s.length < 18446744073709551616) (he : RightE e) (h : encE e = s) : rdE s = e ∧ rdB s = true := by
  have hr : rdOK s := ⟨e, he, h⟩
  refine ⟨?_, by unfold rdB; exact decide_eq_true hr⟩
  unfold rdE; rw [dif_pos hr]
  obtain ⟨h1, h2⟩ := Classical.choose_spec hr
  have b1 := enc_body_len he h
  have b2 := enc_body_len h1 h2
  exact enc_inj h1 he (by omega) (by omega) (by rw [h2, h])
theorem rd_none {s : List UInt8} (h : ∀ e, RightE e → encE e ≠ s) : rdE s = zeroE ∧ rdB s = false := by
  have hr : ¬ rdOK s := fun ⟨e, he, hs⟩ => h e he hs
  refine ⟨by unfold rdE; rw [dif_neg hr], by unfold rdB; exact decide_eq_false hr⟩
theorem rdV_some {e : Ent} {s : List UInt8} (hs : s.length < 18446744073709551616) (he : RightE e) (h : encE e = s) : rdV s = .tuple #[e.val, .bool true] := by
  obtain ⟨a, b⟩ := rd_some hs he h; unfold rdV; rw [a, b]
theorem rdV_none {s : List UInt8} (h : ∀ e, RightE e → encE e ≠ s) : rdV s = .tuple #[zeroE.val, .bool false] := by
  obtain ⟨a, b⟩ := rd_none h; unfold rdV; rw [a, b]
theorem rdB_true {s : List UInt8} (h : rdB s = true) : RightE (rdE s) ∧ encE (rdE s) = s := by
  unfold rdB at h
  have hr : rdOK s := of_decide_eq_true h
  unfold rdE; rw [dif_pos hr]; exact Classical.choose_spec hr
theorem rdB_false {s : List UInt8} (h : rdB s = false) : rdE s = zeroE ∧ ∀ e, RightE e → encE e ≠ s := by
  unfold rdB at h
  have hr : ¬ rdOK s := of_decide_eq_false h
  exact ⟨by unfold rdE; rw [dif_neg hr], fun e he hs => hr ⟨e, he, hs⟩⟩
theorem cand_no {E : Ent} {s : List UInt8} (hE : ∀ e, RightE e → encE e = s → E = e) (hne : writeE E ≠ s) : ∀ e, RightE e → encE e ≠ s := fun e he hs => hne (by rw [hE e he hs, write_t (rightB_iff.2 he)]; exact hs)
theorem cand_yes {E : Ent} {s : List UInt8} (h0 : s ≠ []) (h : writeE E = s) : RightE E ∧ encE E = s := by
  unfold writeE at h
  split at h
  · rename_i hr; exact ⟨rightB_iff.1 hr, h⟩
  · exact absurd h.symm h0
theorem ofNat64 {x : UInt64} {n : Nat} (h : n = x.toNat) : UInt64.ofNat n = x := by subst h; simp
theorem cand0 {s : List UInt8} {c : UInt8} (h0 : s[0]? = some c) (hc : c.toNat ≠ 3 ∨ (rest2 s).length ≤ 8) (hs : s.length < 18446744073709551616) (e : Ent) (he : RightE e) (h : encE e = s) :
    (⟨UInt64.ofNat (rvN (s.drop 1)), UInt64.ofNat (rvN (rest1 s)), c, 0, 0, 0, 0, 0, 0, 0, 0, 0, rsT (rest2 s)⟩ : Ent) = e := by
  have hbl := enc_body_len he h
  obtain ⟨p1, p2, p3, p4, _⟩ := enc_parts h
  rw [h0] at p1
  have hk : c = e.kd := by simpa using p1
  have n1 := ofNat64 (rv_eq_some p2).1
  have n2 := ofNat64 (rv_eq_some p3).1
  have c3 : e.kd.toNat ≠ 3 := by
    intro q
    rcases hc with hc | hc
    · exact hc (by rw [hk]; exact q)
    · rw [p4, tail_3 q] at hc; simp [Ent.tok] at hc
  obtain ⟨a, b0, b1, b2, b3, b4, b5, b6, b7⟩ := PlainE_zero (RightE_plain he c3)
  have hb : rsT (rest2 s) = e.body := by
    rw [p4]
    by_cases c1 : e.kd.toNat = 1 ∨ e.kd.toNat = 5
    · rw [tail_ne c1, RightE_body he c1]; rfl
    · have := getS_sb (t := e.body) (by omega) []
      rw [List.append_nil] at this
      rw [tail_24 c3 c1]; exact (rs_eq_some this).1
  rw [n1, n2, hb, hk]
  obtain ⟨⟩ := e
  simp only at *
  subst a b0 b1 b2 b3 b4 b5 b6 b7; rfl
theorem cand3 {s : List UInt8} {c b c0 c1 c2 c3 c4 c5 c6 c7 : UInt8} (h0 : s[0]? = some c) (hc : c.toNat = 3) (hb0 : (rest2 s)[0]? = some b) (h8 : ((rest2 s).drop 1).take 8 = [c0, c1, c2, c3, c4, c5, c6, c7]) (hs : s.length < 18446744073709551616) (e : Ent) (he : RightE e) (h : encE e = s) :
    (⟨UInt64.ofNat (rvN (s.drop 1)), UInt64.ofNat (rvN (rest1 s)), c, b, c0, c1, c2, c3, c4, c5, c6, c7, rsT ((rest2 s).drop 9)⟩ : Ent) = e := by
  have hbl := enc_body_len he h
  obtain ⟨p1, p2, p3, p4, _⟩ := enc_parts h
  rw [h0] at p1
  have hk : c = e.kd := by simpa using p1
  have n1 := ofNat64 (rv_eq_some p2).1
  have n2 := ofNat64 (rv_eq_some p3).1
  rw [p4, tail_3 (by rw [← hk]; exact hc)] at hb0 h8
  simp [Ent.tok] at hb0 h8
  obtain ⟨q0, q1, q2, q3, q4, q5, q6, q7⟩ := h8
  have hb : rsT ((rest2 s).drop 9) = e.body := by
    rw [p4, tail_3 (by rw [← hk]; exact hc)]
    have := getS_sb (t := e.body) (by omega) []
    rw [List.append_nil] at this
    exact (rs_eq_some (s := sb e.body) this).1
  rw [n1, n2, hb, hk, ← hb0, ← q0, ← q1, ← q2, ← q3, ← q4, ← q5, ← q6, ← q7]
theorem no_short {s : List UInt8} (h : s.length < 3) : ∀ e, RightE e → encE e ≠ s := fun e he hs => by have := (enc_parts hs).2.2.2.2; omega
set_option maxRecDepth 4000 in
theorem ent_Read_ran {h : H} (W : Mem h h [] []) {l : List UInt8} (hl : l.length ≤ 549755813888) : Cll tab0 30 [.string (bs l)] h (fun v h2 => v = rdV l ∧ Mem h h2 [] []) := by
  have hk1 := rvK_le (l.drop 1)
  have hk2 := rvK_le (l.drop (1 + rvK (l.drop 1)))
  have hr2 : (rest2 l).length = l.length - (1 + rvK (l.drop 1) + rvK (l.drop (1 + rvK (l.drop 1)))) := by unfold rest2 rest1; rw [List.length_drop]
  simp only [List.length_drop] at hk1 hk2
  have ht1 := rsT_le (rest2 l)
  have ht2 := rsT_le ((rest2 l).drop 9)
  rw [List.length_drop] at ht2
  refine Cll.code rfl rfl ?_
  refine WC.env [(0, _)] rfl ?_
  refine WC.seq ?_
  refine WC.run ?_
  refine WS.new W rfl ?_
  intro p1 h2 M3
  refine WS.op rfl rfl (WS.nil [(0, _), (2, _)] rfl ?_)
  refine WC.seq ?_
  refine WC.seq ?_
  refine WC.run ?_
  refine WS.op rfl rfl ?_
  refine WS.seql (l := l) (m := []) rfl rfl rfl (fun e13 => ?_) (fun e13 => ?_)
  · skip
    refine WS.nil [(0, _), (2, _), (13, _)] rfl ?_
    refine WC.condT rfl ?_
    refine WC.seq ?_
    refine WC.run ?_
    refine WS.opV (.agg #[(.int .u64 (0 : Int)), (.int .u64 (0 : Int)), (.int .u8 (0 : Int)), (.int .u8 (0 : Int)), (.int .u8 (0 : Int)), (.int .u8 (0 : Int)), (.int .u8 (0 : Int)), (.int .u8 (0 : Int)), (.int .u8 (0 : Int)), (.int .u8 (0 : Int)), (.int .u8 (0 : Int)), (.int .u8 (0 : Int)), (.string (bs ([])))]) rfl rfl rfl ?_
    refine WS.st1 (M3.focus 0 rfl) [_, _, _, _, _, _, _, _, _, _, _, _, _] [_, _, _, _, _, _, _, _, _, _, _, _, _] rfl rfl rfl rfl rfl (Nat.le_of_ble_eq_true rfl) (Nat.le_of_ble_eq_true rfl) rfl rfl ?_
    intro h4 M5
    replace M5 : Mem _ _ ([(p1, _)] :: []) _ := M5
    refine WS.op rfl rfl (WS.nil [(2, _), (3, _)] rfl ?_)
    refine WC.ret ?_
    refine ⟨[_, _], (res_cellN [_, _, _, _, _, _, _, _, _, _, _, _, _] rfl (M5.at 0 rfl) (Nat.le_of_ble_eq_true rfl) rfl (res_tmp rfl res_nil)), ?_⟩
    exact ⟨by rw [rdV_none (no_short (by rw [e13]; decide))]; rfl, M5.bare.take 0⟩
  · skip
    refine WS.nil [(0, _), (2, _), (13, _)] rfl ?_
    refine WC.condF rfl ?_
    refine WC.skip ?_
    refine WC.seq ?_
    refine WC.run ?_
    refine WS.op rfl rfl ?_
    have hpos : 0 < l.length := List.length_pos_iff.2 (by assumption)
    obtain ⟨c, hc⟩ : ∃ c, (l)[0]? = some c := ⟨_, List.getElem?_eq_getElem (show 0 < (l).length by first | omega | (simp only [List.length_drop, List.length_take, List.length_append, List.length_cons, List.length_nil, List.length_singleton]; omega) | (simp only [List.length_drop, List.length_take, List.length_append, List.length_cons, List.length_nil, List.length_singleton] at *; omega))⟩
    refine WS.op rfl (op_ixS 0 rfl rfl hc) (WS.opV (.agg #[(.int .u64 (0 : Int)), (.int .u64 (0 : Int)), (.int .u8 (((c).toNat : Nat) : Int)), (.int .u8 (0 : Int)), (.int .u8 (0 : Int)), (.int .u8 (0 : Int)), (.int .u8 (0 : Int)), (.int .u8 (0 : Int)), (.int .u8 (0 : Int)), (.int .u8 (0 : Int)), (.int .u8 (0 : Int)), (.int .u8 (0 : Int)), (.string (bs ([])))]) rfl rfl rfl ?_)
    refine WS.new M3 rfl ?_
    intro p6 h7 M8
    refine WS.st1 (M8.focus 0 rfl) [_, _, _, _, _, _, _, _, _, _, _, _, _] [_, _, _, _, _, _, _, _, _, _, _, _, _] rfl rfl rfl rfl rfl (Nat.le_of_ble_eq_true rfl) (Nat.le_of_ble_eq_true rfl) rfl rfl ?_
    intro h9 M10
    replace M10 : Mem _ _ ([(p6, _)] :: [(p1, _)] :: []) _ := M10
    refine WS.nil [(0, _), (2, _), (4, _)] rfl ?_
    refine WC.seq ?_
    refine WC.run ?_
    refine WS.op rfl rfl (WS.op rfl (op_slS0 (l := l) 1 rfl rfl (by first | omega | (simp only [List.length_drop, List.length_take, List.length_append, List.length_cons, List.length_nil, List.length_singleton]; omega) | (simp only [List.length_drop, List.length_take, List.length_append, List.length_cons, List.length_nil, List.length_singleton] at *; omega))) ?_)
    refine WS.call rfl rfl rfl (num_ReadV_ran M10.here (l := ((l).drop 1)) (by first | omega | (simp only [List.length_drop, List.length_take, List.length_append, List.length_cons, List.length_nil, List.length_singleton]; omega) | (simp only [List.length_drop, List.length_take, List.length_append, List.length_cons, List.length_nil, List.length_singleton] at *; omega))) ?_
    rintro _ h11 ⟨rfl, N12⟩
    have M13 := M10.trans N12
    refine WS.op rfl rfl (WS.opV (.int .u64 (((UInt64.ofNat (rvN ((l).drop 1))).toNat : Nat) : Int)) rfl rfl (u64_ofNat (n := (rvN ((l).drop 1))) (by have := rvN_lt ((l).drop 1); omega)) (WS.op rfl rfl (WS.op rfl rfl (WS.op rfl rfl (WS.op rfl rfl (WS.op rfl rfl (WS.nil [(0, _), (2, _), (4, _), (5, _), (6, _)] rfl ?_)))))))
    refine WC.seq ?_
    refine WC.run ?_
    refine WS.op rfl rfl (WS.op rfl rfl (WS.opV (.int .i64 (((1 + (rvK ((l).drop 1))) : Nat) : Int)) rfl rfl (add_i64 (a := 1) (b := (rvK ((l).drop 1))) (by have := rvK_le ((l).drop 1); omega)) (WS.op rfl (op_slS0 (l := l) (1 + (rvK ((l).drop 1))) rfl rfl (by first | omega | (simp only [List.length_drop, List.length_take, List.length_append, List.length_cons, List.length_nil, List.length_singleton]; omega) | (simp only [List.length_drop, List.length_take, List.length_append, List.length_cons, List.length_nil, List.length_singleton] at *; omega))) ?_)))
    refine WS.call rfl rfl rfl (num_ReadV_ran M13.here (l := ((l).drop (1 + (rvK ((l).drop 1))))) (by first | omega | (simp only [List.length_drop, List.length_take, List.length_append, List.length_cons, List.length_nil, List.length_singleton]; omega) | (simp only [List.length_drop, List.length_take, List.length_append, List.length_cons, List.length_nil, List.length_singleton] at *; omega))) ?_
    rintro _ h15 ⟨rfl, N16⟩
    have M17 := M13.trans N16
    refine WS.op rfl rfl (WS.opV (.int .u64 (((UInt64.ofNat (rvN ((l).drop (1 + (rvK ((l).drop 1)))))).toNat : Nat) : Int)) rfl rfl (u64_ofNat (n := (rvN ((l).drop (1 + (rvK ((l).drop 1)))))) (by have := rvN_lt ((l).drop (1 + (rvK ((l).drop 1)))); omega)) (WS.op rfl rfl (WS.op rfl rfl (WS.op rfl rfl (WS.op rfl rfl (WS.op rfl rfl (WS.nil [(0, _), (2, _), (4, _), (5, _), (6, _), (8, _), (9, _)] rfl ?_)))))))
    refine WC.seq ?_
    refine WC.run ?_
    refine WS.op rfl rfl (WS.op rfl rfl (WS.op rfl rfl ?_))
    refine WS.st1 (M17.focus 0 rfl) [_] [_, _, _, _, _, _, _, _, _, _, _, _, _] rfl rfl rfl rfl rfl (Nat.le_of_ble_eq_true rfl) (Nat.le_of_ble_eq_true rfl) rfl rfl ?_
    intro h19 M20
    replace M20 : Mem _ _ ([(p6, _)] :: [(p1, _)] :: []) _ := M20
    refine WS.op rfl rfl ?_
    refine WS.st1 (M20.focus 0 rfl) [_] [_, _, _, _, _, _, _, _, _, _, _, _, _] rfl rfl rfl rfl rfl (Nat.le_of_ble_eq_true rfl) (Nat.le_of_ble_eq_true rfl) rfl rfl ?_
    intro h21 M22
    replace M22 : Mem _ _ ([(p6, _)] :: [(p1, _)] :: []) _ := M22
    refine WS.nil [(0, _), (2, _), (4, _), (6, _), (9, _)] rfl ?_
    refine WC.seq ?_
    refine WC.run ?_
    refine WS.op rfl rfl (WS.op rfl rfl (WS.opV (.int .i64 (((1 + (rvK ((l).drop 1))) : Nat) : Int)) rfl rfl (add_i64 (a := 1) (b := (rvK ((l).drop 1))) (by have := rvK_le ((l).drop 1); omega)) (WS.op rfl rfl (WS.opV (.int .i64 ((((1 + (rvK ((l).drop 1))) + (rvK ((l).drop (1 + (rvK ((l).drop 1)))))) : Nat) : Int)) rfl rfl (add_i64 (a := (1 + (rvK ((l).drop 1)))) (b := (rvK ((l).drop (1 + (rvK ((l).drop 1)))))) (by have := rvK_le ((l).drop (1 + (rvK ((l).drop 1)))); omega)) (WS.op rfl (op_slS0 (l := l) ((1 + (rvK ((l).drop 1))) + (rvK ((l).drop (1 + (rvK ((l).drop 1)))))) rfl rfl (by first | omega | (simp only [List.length_drop, List.length_take, List.length_append, List.length_cons, List.length_nil, List.length_singleton]; omega) | (simp only [List.length_drop, List.length_take, List.length_append, List.length_cons, List.length_nil, List.length_singleton] at *; omega))) (WS.op rfl rfl (WS.nil [(0, _), (2, _), (4, _), (11, _)] rfl ?_)))))))
    refine WC.seq ?_
    refine WC.seq ?_
    obtain ⟨L23, eL25, M24⟩ := Mem.name M22.bare
    refine WC.joinB (base := h) (fun b => [(0, (.string (bs l))), (2, (.pointer (some ⟨p1, 0, none⟩))), (4, (.pointer (some ⟨p6, 0, none⟩))), (11, (.string (bs ((l).drop ((1 + (rvK ((l).drop 1))) + (rvK ((l).drop (1 + (rvK ((l).drop 1)))))))))), (51, .bool b)]) L23 (c.toNat = 3 ∧ 8 < (rest2 l).length) (c.toNat ≠ 3 ∨ (rest2 l).length ≤ 8) ?_ ?_ ?_
    · subst eL25
      refine WS.op rfl rfl (WS.op rfl (op_ld (M24.at 0 rfl) rfl rfl) ?_)
      refine WS.eqlN (a := (c).toNat) (b := 3) rfl rfl rfl (fun e46 => ?_) (fun e46 => ?_)
      · skip
        refine WS.op rfl rfl (WS.op rfl rfl (WS.op rfl (op_lenS (l := ((l).drop ((1 + (rvK ((l).drop 1))) + (rvK ((l).drop (1 + (rvK ((l).drop 1)))))))) rfl) ?_))
        refine WS.gtrN (a := (((l).drop ((1 + (rvK ((l).drop 1))) + (rvK ((l).drop (1 + (rvK ((l).drop 1)))))))).length) (b := 8) rfl rfl rfl (fun e50 => ?_) (fun e50 => ?_)
        · skip
          refine WS.op rfl rfl ?_
          refine WS.nil' ⟨true, rfl, (((M24.bare.focus 1 rfl).focus 1 rfl).take 2), fun _ => ?_, fun hh => ?_⟩
          · exact ⟨by assumption, by assumption⟩
          · cases hh
        · skip
          refine WS.op rfl rfl ?_
          refine WS.nil' ⟨false, rfl, (((M24.bare.focus 1 rfl).focus 1 rfl).take 2), fun hh => ?_, fun _ => ?_⟩
          · cases hh
          · first | (left; assumption) | (right; assumption)
      · skip
        refine WS.op rfl rfl (WS.off rfl (WS.off rfl (WS.off rfl (WS.op rfl rfl ?_))))
        refine WS.nil' ⟨false, rfl, (((M24.bare.focus 1 rfl).focus 1 rfl).take 2), fun hh => ?_, fun _ => ?_⟩
        · cases hh
        · first | (left; assumption) | (right; assumption)
    · intro h26 M27 hp51
      subst eL25
      refine WC.condT rfl ?_
      refine WC.seq ?_
      refine WC.run ?_
      refine WS.op rfl rfl ?_
      have hp8 := hp51.2
      rw [hr2] at hp8
      obtain ⟨b, hb⟩ : ∃ c, (((l).drop ((1 + (rvK ((l).drop 1))) + (rvK ((l).drop (1 + (rvK ((l).drop 1))))))))[0]? = some c := ⟨_, List.getElem?_eq_getElem (show 0 < (((l).drop ((1 + (rvK ((l).drop 1))) + (rvK ((l).drop (1 + (rvK ((l).drop 1)))))))).length by first | omega | (simp only [List.length_drop, List.length_take, List.length_append, List.length_cons, List.length_nil, List.length_singleton]; omega) | (simp only [List.length_drop, List.length_take, List.length_append, List.length_cons, List.length_nil, List.length_singleton] at *; omega))⟩
      refine WS.op rfl (op_ixS 0 rfl rfl hb) (WS.op rfl rfl ?_)
      refine WS.st1 (M27.focus 0 rfl) [_] [_, _, _, _, _, _, _, _, _, _, _, _, _] rfl rfl rfl rfl rfl (Nat.le_of_ble_eq_true rfl) (Nat.le_of_ble_eq_true rfl) rfl rfl ?_
      intro h28 M29
      replace M29 : Mem _ _ ([(p6, _)] :: [(p1, _)] :: []) _ := M29
      refine WS.nil [(0, _), (2, _), (4, _), (11, _)] rfl ?_
      refine WC.draw M29 [] rfl ?_
      intro rb30 h31 M32
      refine WS.op rfl rfl (WS.op rfl rfl (WS.opV (.slice (some ⟨p6, 4, none⟩) 8 17) rfl rfl rfl (WS.op rfl rfl (WS.op rfl (op_slS0 (l := ((l).drop ((1 + (rvK ((l).drop 1))) + (rvK ((l).drop (1 + (rvK ((l).drop 1)))))))) 1 rfl rfl (by first | omega | (simp only [List.length_drop, List.length_take, List.length_append, List.length_cons, List.length_nil, List.length_singleton]; omega) | (simp only [List.length_drop, List.length_take, List.length_append, List.length_cons, List.length_nil, List.length_singleton] at *; omega))) ?_))))
      obtain ⟨c33, c34, c35, c36, c37, c38, c39, c40, h8_41⟩ := take8 (l := ((((l).drop ((1 + (rvK ((l).drop 1))) + (rvK ((l).drop (1 + (rvK ((l).drop 1)))))))).drop 1)) (by first | omega | (simp only [List.length_drop, List.length_take, List.length_append, List.length_cons, List.length_nil, List.length_singleton]; omega) | (simp only [List.length_drop, List.length_take, List.length_append, List.length_cons, List.length_nil, List.length_singleton] at *; omega))
      refine WS.cpyS (l := ((((l).drop ((1 + (rvK ((l).drop 1))) + (rvK ((l).drop (1 + (rvK ((l).drop 1)))))))).drop 1)) (M32.focus 0 rfl) [(.int .u8 (((c33).toNat : Nat) : Int)), (.int .u8 (((c34).toNat : Nat) : Int)), (.int .u8 (((c35).toNat : Nat) : Int)), (.int .u8 (((c36).toNat : Nat) : Int)), (.int .u8 (((c37).toNat : Nat) : Int)), (.int .u8 (((c38).toNat : Nat) : Int)), (.int .u8 (((c39).toNat : Nat) : Int)), (.int .u8 (((c40).toNat : Nat) : Int))] [_, _, _, _, _, _, _, _, _, _, _, _, _] rfl rfl rfl rfl (by rw [h8_41]; rfl) rfl (Nat.le_of_ble_eq_true rfl) (Nat.le_of_ble_eq_true rfl) rfl rfl ?_
      intro h42 M43
      replace M43 : Mem _ _ ([(p6, _)] :: [(p1, _)] :: []) _ := M43
      refine WS.opV (.int .i64 9) rfl rfl rfl (WS.op rfl (op_slS0 (l := ((l).drop ((1 + (rvK ((l).drop 1))) + (rvK ((l).drop (1 + (rvK ((l).drop 1)))))))) 9 rfl rfl (by first | omega | (simp only [List.length_drop, List.length_take, List.length_append, List.length_cons, List.length_nil, List.length_singleton]; omega) | (simp only [List.length_drop, List.length_take, List.length_append, List.length_cons, List.length_nil, List.length_singleton] at *; omega))) (WS.op rfl rfl (WS.nil [(0, _), (2, _), (4, _), (11, _)] rfl ?_)))
      refine WC.seq ?_
      refine WC.run ?_
      refine WS.op rfl rfl ?_
      refine WS.call rfl rfl rfl (num_ReadS_ran M43.bare.here (l := ((((l).drop ((1 + (rvK ((l).drop 1))) + (rvK ((l).drop (1 + (rvK ((l).drop 1)))))))).drop 9)) (by first | omega | (simp only [List.length_drop, List.length_take, List.length_append, List.length_cons, List.length_nil, List.length_singleton]; omega) | (simp only [List.length_drop, List.length_take, List.length_append, List.length_cons, List.length_nil, List.length_singleton] at *; omega))) ?_
      rintro _ h44 ⟨rfl, N45⟩
      have M46 := M43.bare.trans N45
      refine WS.op rfl rfl (WS.op rfl rfl (WS.op rfl rfl (WS.op rfl rfl (WS.op rfl rfl ?_))))
      refine WS.st1 (M46.focus 0 rfl) [_] [_, _, _, _, _, _, _, _, _, _, _, _, _] rfl rfl rfl rfl rfl (Nat.le_of_ble_eq_true rfl) (Nat.le_of_ble_eq_true rfl) rfl rfl ?_
      intro h48 M49
      replace M49 : Mem _ _ ([(p6, _)] :: [(p1, _)] :: []) _ := M49
      refine WS.nil [(0, _), (2, _), (4, _)] rfl ?_
      refine WC.seq ?_
      refine WC.seq ?_
      refine WC.run ?_
      refine WS.op rfl (op_lds [_, _, _, _, _, _, _, _, _, _, _, _, _] (M49.at 0 rfl) rfl (Nat.le_of_ble_eq_true rfl) rfl) ?_
      refine WS.call rfl rfl rfl (ent_Write_ran M49.here (e := (⟨(UInt64.ofNat (rvN ((l).drop 1))), (UInt64.ofNat (rvN ((l).drop (1 + (rvK ((l).drop 1)))))), c, b, c33, c34, c35, c36, c37, c38, c39, c40, (rsT ((((l).drop ((1 + (rvK ((l).drop 1))) + (rvK ((l).drop (1 + (rvK ((l).drop 1)))))))).drop 9))⟩ : Ent)) (by show (rsT _).length ≤ _; first | exact Nat.le_trans ht1 (by omega) | exact Nat.le_trans ht2 (by omega))) ?_
      rintro _ h50 ⟨rfl, N51⟩
      have M52 := M49.trans N51
      refine WS.op rfl rfl ?_
      refine WS.sneq (l := (writeE (⟨(UInt64.ofNat (rvN ((l).drop 1))), (UInt64.ofNat (rvN ((l).drop (1 + (rvK ((l).drop 1)))))), c, b, c33, c34, c35, c36, c37, c38, c39, c40, (rsT ((((l).drop ((1 + (rvK ((l).drop 1))) + (rvK ((l).drop (1 + (rvK ((l).drop 1)))))))).drop 9))⟩ : Ent))) (m := l) rfl rfl rfl (fun e73 => ?_) (fun e73 => ?_)
      · skip
        refine WS.nil [(2, _), (4, _), (73, _)] rfl ?_
        refine WC.condT rfl ?_
        refine WC.seq ?_
        refine WC.run ?_
        refine WS.opV (.agg #[(.int .u64 (0 : Int)), (.int .u64 (0 : Int)), (.int .u8 (0 : Int)), (.int .u8 (0 : Int)), (.int .u8 (0 : Int)), (.int .u8 (0 : Int)), (.int .u8 (0 : Int)), (.int .u8 (0 : Int)), (.int .u8 (0 : Int)), (.int .u8 (0 : Int)), (.int .u8 (0 : Int)), (.int .u8 (0 : Int)), (.string (bs ([])))]) rfl rfl rfl ?_
        refine WS.st1 (M52.focus 1 rfl) [_, _, _, _, _, _, _, _, _, _, _, _, _] [_, _, _, _, _, _, _, _, _, _, _, _, _] rfl rfl rfl rfl rfl (Nat.le_of_ble_eq_true rfl) (Nat.le_of_ble_eq_true rfl) rfl rfl ?_
        intro h53 M54
        replace M54 : Mem _ _ ([(p1, _)] :: [(p6, _)] :: []) _ := M54
        refine WS.op rfl rfl (WS.nil [(2, _), (3, _)] rfl ?_)
        refine WC.ret ?_
        refine ⟨[_, _], (res_cellN [_, _, _, _, _, _, _, _, _, _, _, _, _] rfl (M54.at 0 rfl) (Nat.le_of_ble_eq_true rfl) rfl (res_tmp rfl res_nil)), ?_⟩
        exact ⟨by rw [rdV_none (cand_no (E := (⟨(UInt64.ofNat (rvN ((l).drop 1))), (UInt64.ofNat (rvN ((l).drop (1 + (rvK ((l).drop 1)))))), c, b, c33, c34, c35, c36, c37, c38, c39, c40, (rsT ((((l).drop ((1 + (rvK ((l).drop 1))) + (rvK ((l).drop (1 + (rvK ((l).drop 1)))))))).drop 9))⟩ : Ent)) (cand3 hc hp51.1 hb h8_41 (by omega)) (by assumption))]; rfl, M54.bare.take 0⟩
      · skip
        refine WS.nil [(2, _), (4, _), (73, _)] rfl ?_
        refine WC.condF rfl ?_
        refine WC.skip ?_
        refine WC.seq ?_
        refine WC.run ?_
        refine WS.op rfl (op_lds [_, _, _, _, _, _, _, _, _, _, _, _, _] (M52.at 0 rfl) rfl (Nat.le_of_ble_eq_true rfl) rfl) ?_
        refine WS.st1 (M52.focus 1 rfl) [_, _, _, _, _, _, _, _, _, _, _, _, _] [_, _, _, _, _, _, _, _, _, _, _, _, _] rfl rfl rfl rfl rfl (Nat.le_of_ble_eq_true rfl) (Nat.le_of_ble_eq_true rfl) rfl rfl ?_
        intro h55 M56
        replace M56 : Mem _ _ ([(p1, _)] :: [(p6, _)] :: []) _ := M56
        refine WS.op rfl rfl (WS.nil [(2, _), (3, _)] rfl ?_)
        refine WC.ret ?_
        refine ⟨[_, _], (res_cellN [_, _, _, _, _, _, _, _, _, _, _, _, _] rfl (M56.at 0 rfl) (Nat.le_of_ble_eq_true rfl) rfl (res_tmp rfl res_nil)), ?_⟩
        obtain ⟨hz1, hz2⟩ := cand_yes (E := (⟨(UInt64.ofNat (rvN ((l).drop 1))), (UInt64.ofNat (rvN ((l).drop (1 + (rvK ((l).drop 1)))))), c, b, c33, c34, c35, c36, c37, c38, c39, c40, (rsT ((((l).drop ((1 + (rvK ((l).drop 1))) + (rvK ((l).drop (1 + (rvK ((l).drop 1)))))))).drop 9))⟩ : Ent)) (List.length_pos_iff.1 hpos) (by assumption)
        exact ⟨by rw [rdV_some (by omega) hz1 hz2]; rfl, M56.bare.take 0⟩
    · intro h57 M58 hp51
      subst eL25
      refine WC.condF rfl ?_
      refine WC.skip ?_
      refine WC.seq ?_
      refine WC.run ?_
      refine WS.op rfl rfl ?_
      refine WS.call rfl rfl rfl (num_ReadS_ran M58.here (l := ((l).drop ((1 + (rvK ((l).drop 1))) + (rvK ((l).drop (1 + (rvK ((l).drop 1)))))))) (by first | omega | (simp only [List.length_drop, List.length_take, List.length_append, List.length_cons, List.length_nil, List.length_singleton]; omega) | (simp only [List.length_drop, List.length_take, List.length_append, List.length_cons, List.length_nil, List.length_singleton] at *; omega))) ?_
      rintro _ h59 ⟨rfl, N60⟩
      have M61 := M58.trans N60
      refine WS.op rfl rfl (WS.op rfl rfl (WS.op rfl rfl (WS.op rfl rfl (WS.op rfl rfl ?_))))
      refine WS.st1 (M61.focus 0 rfl) [_] [_, _, _, _, _, _, _, _, _, _, _, _, _] rfl rfl rfl rfl rfl (Nat.le_of_ble_eq_true rfl) (Nat.le_of_ble_eq_true rfl) rfl rfl ?_
      intro h63 M64
      replace M64 : Mem _ _ ([(p6, _)] :: [(p1, _)] :: []) _ := M64
      refine WS.nil [(0, _), (2, _), (4, _)] rfl ?_
      refine WC.seq ?_
      refine WC.seq ?_
      refine WC.run ?_
      refine WS.op rfl (op_lds [_, _, _, _, _, _, _, _, _, _, _, _, _] (M64.at 0 rfl) rfl (Nat.le_of_ble_eq_true rfl) rfl) ?_
      refine WS.call rfl rfl rfl (ent_Write_ran M64.here (e := (⟨(UInt64.ofNat (rvN ((l).drop 1))), (UInt64.ofNat (rvN ((l).drop (1 + (rvK ((l).drop 1)))))), c, 0, 0, 0, 0, 0, 0, 0, 0, 0, (rsT ((l).drop ((1 + (rvK ((l).drop 1))) + (rvK ((l).drop (1 + (rvK ((l).drop 1))))))))⟩ : Ent)) (by show (rsT _).length ≤ _; first | exact Nat.le_trans ht1 (by omega) | exact Nat.le_trans ht2 (by omega))) ?_
      rintro _ h65 ⟨rfl, N66⟩
      have M67 := M64.trans N66
      refine WS.op rfl rfl ?_
      refine WS.sneq (l := (writeE (⟨(UInt64.ofNat (rvN ((l).drop 1))), (UInt64.ofNat (rvN ((l).drop (1 + (rvK ((l).drop 1)))))), c, 0, 0, 0, 0, 0, 0, 0, 0, 0, (rsT ((l).drop ((1 + (rvK ((l).drop 1))) + (rvK ((l).drop (1 + (rvK ((l).drop 1))))))))⟩ : Ent))) (m := l) rfl rfl rfl (fun e73 => ?_) (fun e73 => ?_)
      · skip
        refine WS.nil [(2, _), (4, _), (73, _)] rfl ?_
        refine WC.condT rfl ?_
        refine WC.seq ?_
        refine WC.run ?_
        refine WS.opV (.agg #[(.int .u64 (0 : Int)), (.int .u64 (0 : Int)), (.int .u8 (0 : Int)), (.int .u8 (0 : Int)), (.int .u8 (0 : Int)), (.int .u8 (0 : Int)), (.int .u8 (0 : Int)), (.int .u8 (0 : Int)), (.int .u8 (0 : Int)), (.int .u8 (0 : Int)), (.int .u8 (0 : Int)), (.int .u8 (0 : Int)), (.string (bs ([])))]) rfl rfl rfl ?_
        refine WS.st1 (M67.focus 1 rfl) [_, _, _, _, _, _, _, _, _, _, _, _, _] [_, _, _, _, _, _, _, _, _, _, _, _, _] rfl rfl rfl rfl rfl (Nat.le_of_ble_eq_true rfl) (Nat.le_of_ble_eq_true rfl) rfl rfl ?_
        intro h68 M69
        replace M69 : Mem _ _ ([(p1, _)] :: [(p6, _)] :: []) _ := M69
        refine WS.op rfl rfl (WS.nil [(2, _), (3, _)] rfl ?_)
        refine WC.ret ?_
        refine ⟨[_, _], (res_cellN [_, _, _, _, _, _, _, _, _, _, _, _, _] rfl (M69.at 0 rfl) (Nat.le_of_ble_eq_true rfl) rfl (res_tmp rfl res_nil)), ?_⟩
        exact ⟨by rw [rdV_none (cand_no (E := (⟨(UInt64.ofNat (rvN ((l).drop 1))), (UInt64.ofNat (rvN ((l).drop (1 + (rvK ((l).drop 1)))))), c, 0, 0, 0, 0, 0, 0, 0, 0, 0, (rsT ((l).drop ((1 + (rvK ((l).drop 1))) + (rvK ((l).drop (1 + (rvK ((l).drop 1))))))))⟩ : Ent)) (cand0 hc hp51 (by omega)) (by assumption))]; rfl, M69.bare.take 0⟩
      · skip
        refine WS.nil [(2, _), (4, _), (73, _)] rfl ?_
        refine WC.condF rfl ?_
        refine WC.skip ?_
        refine WC.seq ?_
        refine WC.run ?_
        refine WS.op rfl (op_lds [_, _, _, _, _, _, _, _, _, _, _, _, _] (M67.at 0 rfl) rfl (Nat.le_of_ble_eq_true rfl) rfl) ?_
        refine WS.st1 (M67.focus 1 rfl) [_, _, _, _, _, _, _, _, _, _, _, _, _] [_, _, _, _, _, _, _, _, _, _, _, _, _] rfl rfl rfl rfl rfl (Nat.le_of_ble_eq_true rfl) (Nat.le_of_ble_eq_true rfl) rfl rfl ?_
        intro h70 M71
        replace M71 : Mem _ _ ([(p1, _)] :: [(p6, _)] :: []) _ := M71
        refine WS.op rfl rfl (WS.nil [(2, _), (3, _)] rfl ?_)
        refine WC.ret ?_
        refine ⟨[_, _], (res_cellN [_, _, _, _, _, _, _, _, _, _, _, _, _] rfl (M71.at 0 rfl) (Nat.le_of_ble_eq_true rfl) rfl (res_tmp rfl res_nil)), ?_⟩
        obtain ⟨hz1, hz2⟩ := cand_yes (E := (⟨(UInt64.ofNat (rvN ((l).drop 1))), (UInt64.ofNat (rvN ((l).drop (1 + (rvK ((l).drop 1)))))), c, 0, 0, 0, 0, 0, 0, 0, 0, 0, (rsT ((l).drop ((1 + (rvK ((l).drop 1))) + (rvK ((l).drop (1 + (rvK ((l).drop 1))))))))⟩ : Ent)) (List.length_pos_iff.1 hpos) (by assumption)
        exact ⟨by rw [rdV_some (by omega) hz1 hz2]; rfl, M71.bare.take 0⟩
/-! ### The reference's -/
noncomputable instance (e : Ent) : Decidable (PlainE e) := Classical.propDecidable _
noncomputable def plainB (e : Ent) : Bool := decide (PlainE e)
theorem plain_t {e : Ent} (h : PlainE e) : packE [.bool true] = .bool (plainB e) := by unfold plainB; exact vbt h
theorem plain_f {e : Ent} (h : ¬ PlainE e) : packE [.bool false] = .bool (plainB e) := by unfold plainB; exact vbf h
theorem plainB_t {e : Ent} (h : plainB e = true) : PlainE e := by unfold plainB at h; exact of_decide_eq_true h
theorem plainB_f {e : Ent} (h : plainB e = false) : ¬ PlainE e := by unfold plainB at h; exact of_decide_eq_false h
theorem ref4_plain_ran {h : H} (W : Mem h h [] []) {e : Ent} (hb : e.body.length ≤ 1099511627776) : Cll tab0 44 [e.val] h (fun v h2 => v = .bool (plainB e) ∧ Mem h h2 [] []) := by
  refine Cll.code rfl rfl ?_
  refine WC.env [(0, _)] rfl ?_
  refine WC.seq ?_
  refine WC.run ?_
  refine WS.box W [_, _, _, _, _, _, _, _, _, _, _, _, _] rfl rfl rfl rfl ?_
  intro p1 h2 M3
  refine WS.op rfl rfl (WS.nil [(1, _)] rfl ?_)
  refine WC.seq ?_
  refine WC.seq ?_
  refine WC.run ?_
  refine WS.op rfl rfl (WS.nil [(1, _), (3, _)] rfl ?_)
  refine WC.block ?_
  refine WC.unroll [(1, _), (3, _)] rfl ?_
  refine WC.seq ?_
  refine WC.seq ?_
  refine WC.run ?_
  refine WS.op rfl rfl (WS.opV (.bool true) rfl rfl rfl (WS.nil [(1, _), (3, _), (5, _)] rfl ?_))
  refine WC.condT rfl ?_
  refine WC.skip ?_
  refine WC.seq ?_
  refine WC.block ?_
  refine WC.seq ?_
  refine WC.run ?_
  refine WS.op rfl rfl (WS.op rfl rfl (WS.op rfl rfl (WS.op rfl (op_ld (M3.at 0 rfl) rfl rfl) ?_)))
  refine WS.neqN (a := (e.t0).toNat) (b := 0) rfl rfl rfl (fun e12 => ?_) (fun e12 => ?_)
  · skip
    refine WS.nil [(1, _), (3, _), (12, _)] rfl ?_
    refine WC.condT rfl ?_
    refine WC.seq ?_
    refine WC.run ?_
    refine WS.op rfl rfl (WS.nil [(2, _)] rfl ?_)
    refine WC.ret ?_
    refine ⟨[_], (res_tmp rfl res_nil), ?_⟩
    exact ⟨plain_f (by unfold PlainE; omega), M3.bare.take 0⟩
  · skip
    refine WS.nil [(1, _), (3, _), (12, _)] rfl ?_
    refine WC.condF rfl ?_
    refine WC.skip ?_
    refine WC.run ?_
    refine WS.op rfl rfl (WS.opV (.int .i64 1) rfl rfl rfl (WS.op rfl rfl (WS.nil [(1, _), (3, _)] rfl ?_)))
    refine WC.unroll [(1, _), (3, _)] rfl ?_
    refine WC.seq ?_
    refine WC.seq ?_
    refine WC.run ?_
    refine WS.op rfl rfl (WS.opV (.bool true) rfl rfl rfl (WS.nil [(1, _), (3, _), (5, _)] rfl ?_))
    refine WC.condT rfl ?_
    refine WC.skip ?_
    refine WC.seq ?_
    refine WC.block ?_
    refine WC.seq ?_
    refine WC.run ?_
    refine WS.op rfl rfl (WS.op rfl rfl (WS.op rfl rfl (WS.op rfl (op_ld (M3.at 0 rfl) rfl rfl) ?_)))
    refine WS.neqN (a := (e.t1).toNat) (b := 0) rfl rfl rfl (fun e12 => ?_) (fun e12 => ?_)
    · skip
      refine WS.nil [(1, _), (3, _), (12, _)] rfl ?_
      refine WC.condT rfl ?_
      refine WC.seq ?_
      refine WC.run ?_
      refine WS.op rfl rfl (WS.nil [(2, _)] rfl ?_)
      refine WC.ret ?_
      refine ⟨[_], (res_tmp rfl res_nil), ?_⟩
      exact ⟨plain_f (by unfold PlainE; omega), M3.bare.take 0⟩
    · skip
      refine WS.nil [(1, _), (3, _), (12, _)] rfl ?_
      refine WC.condF rfl ?_
      refine WC.skip ?_
      refine WC.run ?_
      refine WS.op rfl rfl (WS.opV (.int .i64 2) rfl rfl rfl (WS.op rfl rfl (WS.nil [(1, _), (3, _)] rfl ?_)))
      refine WC.unroll [(1, _), (3, _)] rfl ?_
      refine WC.seq ?_
      refine WC.seq ?_
      refine WC.run ?_
      refine WS.op rfl rfl (WS.opV (.bool true) rfl rfl rfl (WS.nil [(1, _), (3, _), (5, _)] rfl ?_))
      refine WC.condT rfl ?_
      refine WC.skip ?_
      refine WC.seq ?_
      refine WC.block ?_
      refine WC.seq ?_
      refine WC.run ?_
      refine WS.op rfl rfl (WS.op rfl rfl (WS.op rfl rfl (WS.op rfl (op_ld (M3.at 0 rfl) rfl rfl) ?_)))
      refine WS.neqN (a := (e.t2).toNat) (b := 0) rfl rfl rfl (fun e12 => ?_) (fun e12 => ?_)
      · skip
        refine WS.nil [(1, _), (3, _), (12, _)] rfl ?_
        refine WC.condT rfl ?_
        refine WC.seq ?_
        refine WC.run ?_
        refine WS.op rfl rfl (WS.nil [(2, _)] rfl ?_)
        refine WC.ret ?_
        refine ⟨[_], (res_tmp rfl res_nil), ?_⟩
        exact ⟨plain_f (by unfold PlainE; omega), M3.bare.take 0⟩
      · skip
        refine WS.nil [(1, _), (3, _), (12, _)] rfl ?_
        refine WC.condF rfl ?_
        refine WC.skip ?_
        refine WC.run ?_
        refine WS.op rfl rfl (WS.opV (.int .i64 3) rfl rfl rfl (WS.op rfl rfl (WS.nil [(1, _), (3, _)] rfl ?_)))
        refine WC.unroll [(1, _), (3, _)] rfl ?_
        refine WC.seq ?_
        refine WC.seq ?_
        refine WC.run ?_
        refine WS.op rfl rfl (WS.opV (.bool true) rfl rfl rfl (WS.nil [(1, _), (3, _), (5, _)] rfl ?_))
        refine WC.condT rfl ?_
        refine WC.skip ?_
        refine WC.seq ?_
        refine WC.block ?_
        refine WC.seq ?_
        refine WC.run ?_
        refine WS.op rfl rfl (WS.op rfl rfl (WS.op rfl rfl (WS.op rfl (op_ld (M3.at 0 rfl) rfl rfl) ?_)))
        refine WS.neqN (a := (e.t3).toNat) (b := 0) rfl rfl rfl (fun e12 => ?_) (fun e12 => ?_)
        · skip
          refine WS.nil [(1, _), (3, _), (12, _)] rfl ?_
          refine WC.condT rfl ?_
          refine WC.seq ?_
          refine WC.run ?_
          refine WS.op rfl rfl (WS.nil [(2, _)] rfl ?_)
          refine WC.ret ?_
          refine ⟨[_], (res_tmp rfl res_nil), ?_⟩
          exact ⟨plain_f (by unfold PlainE; omega), M3.bare.take 0⟩
        · skip
          refine WS.nil [(1, _), (3, _), (12, _)] rfl ?_
          refine WC.condF rfl ?_
          refine WC.skip ?_
          refine WC.run ?_
          refine WS.op rfl rfl (WS.opV (.int .i64 4) rfl rfl rfl (WS.op rfl rfl (WS.nil [(1, _), (3, _)] rfl ?_)))
          refine WC.unroll [(1, _), (3, _)] rfl ?_
          refine WC.seq ?_
          refine WC.seq ?_
          refine WC.run ?_
          refine WS.op rfl rfl (WS.opV (.bool true) rfl rfl rfl (WS.nil [(1, _), (3, _), (5, _)] rfl ?_))
          refine WC.condT rfl ?_
          refine WC.skip ?_
          refine WC.seq ?_
          refine WC.block ?_
          refine WC.seq ?_
          refine WC.run ?_
          refine WS.op rfl rfl (WS.op rfl rfl (WS.op rfl rfl (WS.op rfl (op_ld (M3.at 0 rfl) rfl rfl) ?_)))
          refine WS.neqN (a := (e.t4).toNat) (b := 0) rfl rfl rfl (fun e12 => ?_) (fun e12 => ?_)
          · skip
            refine WS.nil [(1, _), (3, _), (12, _)] rfl ?_
            refine WC.condT rfl ?_
            refine WC.seq ?_
            refine WC.run ?_
            refine WS.op rfl rfl (WS.nil [(2, _)] rfl ?_)
            refine WC.ret ?_
            refine ⟨[_], (res_tmp rfl res_nil), ?_⟩
            exact ⟨plain_f (by unfold PlainE; omega), M3.bare.take 0⟩
          · skip
            refine WS.nil [(1, _), (3, _), (12, _)] rfl ?_
            refine WC.condF rfl ?_
            refine WC.skip ?_
            refine WC.run ?_
            refine WS.op rfl rfl (WS.opV (.int .i64 5) rfl rfl rfl (WS.op rfl rfl (WS.nil [(1, _), (3, _)] rfl ?_)))
            refine WC.unroll [(1, _), (3, _)] rfl ?_
            refine WC.seq ?_
            refine WC.seq ?_
            refine WC.run ?_
            refine WS.op rfl rfl (WS.opV (.bool true) rfl rfl rfl (WS.nil [(1, _), (3, _), (5, _)] rfl ?_))
            refine WC.condT rfl ?_
            refine WC.skip ?_
            refine WC.seq ?_
            refine WC.block ?_
            refine WC.seq ?_
            refine WC.run ?_
            refine WS.op rfl rfl (WS.op rfl rfl (WS.op rfl rfl (WS.op rfl (op_ld (M3.at 0 rfl) rfl rfl) ?_)))
            refine WS.neqN (a := (e.t5).toNat) (b := 0) rfl rfl rfl (fun e12 => ?_) (fun e12 => ?_)
            · skip
              refine WS.nil [(1, _), (3, _), (12, _)] rfl ?_
              refine WC.condT rfl ?_
              refine WC.seq ?_
              refine WC.run ?_
              refine WS.op rfl rfl (WS.nil [(2, _)] rfl ?_)
              refine WC.ret ?_
              refine ⟨[_], (res_tmp rfl res_nil), ?_⟩
              exact ⟨plain_f (by unfold PlainE; omega), M3.bare.take 0⟩
            · skip
              refine WS.nil [(1, _), (3, _), (12, _)] rfl ?_
              refine WC.condF rfl ?_
              refine WC.skip ?_
              refine WC.run ?_
              refine WS.op rfl rfl (WS.opV (.int .i64 6) rfl rfl rfl (WS.op rfl rfl (WS.nil [(1, _), (3, _)] rfl ?_)))
              refine WC.unroll [(1, _), (3, _)] rfl ?_
              refine WC.seq ?_
              refine WC.seq ?_
              refine WC.run ?_
              refine WS.op rfl rfl (WS.opV (.bool true) rfl rfl rfl (WS.nil [(1, _), (3, _), (5, _)] rfl ?_))
              refine WC.condT rfl ?_
              refine WC.skip ?_
              refine WC.seq ?_
              refine WC.block ?_
              refine WC.seq ?_
              refine WC.run ?_
              refine WS.op rfl rfl (WS.op rfl rfl (WS.op rfl rfl (WS.op rfl (op_ld (M3.at 0 rfl) rfl rfl) ?_)))
              refine WS.neqN (a := (e.t6).toNat) (b := 0) rfl rfl rfl (fun e12 => ?_) (fun e12 => ?_)
              · skip
                refine WS.nil [(1, _), (3, _), (12, _)] rfl ?_
                refine WC.condT rfl ?_
                refine WC.seq ?_
                refine WC.run ?_
                refine WS.op rfl rfl (WS.nil [(2, _)] rfl ?_)
                refine WC.ret ?_
                refine ⟨[_], (res_tmp rfl res_nil), ?_⟩
                exact ⟨plain_f (by unfold PlainE; omega), M3.bare.take 0⟩
              · skip
                refine WS.nil [(1, _), (3, _), (12, _)] rfl ?_
                refine WC.condF rfl ?_
                refine WC.skip ?_
                refine WC.run ?_
                refine WS.op rfl rfl (WS.opV (.int .i64 7) rfl rfl rfl (WS.op rfl rfl (WS.nil [(1, _), (3, _)] rfl ?_)))
                refine WC.unroll [(1, _), (3, _)] rfl ?_
                refine WC.seq ?_
                refine WC.seq ?_
                refine WC.run ?_
                refine WS.op rfl rfl (WS.opV (.bool true) rfl rfl rfl (WS.nil [(1, _), (3, _), (5, _)] rfl ?_))
                refine WC.condT rfl ?_
                refine WC.skip ?_
                refine WC.seq ?_
                refine WC.block ?_
                refine WC.seq ?_
                refine WC.run ?_
                refine WS.op rfl rfl (WS.op rfl rfl (WS.op rfl rfl (WS.op rfl (op_ld (M3.at 0 rfl) rfl rfl) ?_)))
                refine WS.neqN (a := (e.t7).toNat) (b := 0) rfl rfl rfl (fun e12 => ?_) (fun e12 => ?_)
                · skip
                  refine WS.nil [(1, _), (3, _), (12, _)] rfl ?_
                  refine WC.condT rfl ?_
                  refine WC.seq ?_
                  refine WC.run ?_
                  refine WS.op rfl rfl (WS.nil [(2, _)] rfl ?_)
                  refine WC.ret ?_
                  refine ⟨[_], (res_tmp rfl res_nil), ?_⟩
                  exact ⟨plain_f (by unfold PlainE; omega), M3.bare.take 0⟩
                · skip
                  refine WS.nil [(1, _), (3, _), (12, _)] rfl ?_
                  refine WC.condF rfl ?_
                  refine WC.skip ?_
                  refine WC.run ?_
                  refine WS.op rfl rfl (WS.opV (.int .i64 8) rfl rfl rfl (WS.op rfl rfl (WS.nil [(1, _), (3, _)] rfl ?_)))
                  refine WC.unroll [(1, _), (3, _)] rfl ?_
                  refine WC.seq ?_
                  refine WC.seq ?_
                  refine WC.run ?_
                  refine WS.op rfl rfl (WS.opV (.bool false) rfl rfl rfl (WS.nil [(1, _), (3, _), (5, _)] rfl ?_))
                  refine WC.condF rfl ?_
                  refine WC.exit ?_
                  refine WC.seq ?_
                  refine WC.run ?_
                  refine WS.op rfl rfl (WS.op rfl (op_ld (M3.at 0 rfl) rfl rfl) ?_)
                  refine WS.eqlN (a := (e.sl).toNat) (b := 0) rfl rfl rfl (fun e15 => ?_) (fun e15 => ?_)
                  · skip
                    refine WS.op rfl rfl (WS.nil [(2, _)] rfl ?_)
                    refine WC.ret ?_
                    refine ⟨[_], (res_tmp rfl res_nil), ?_⟩
                    exact ⟨plain_t (by unfold PlainE; omega), M3.bare.take 0⟩
                  · skip
                    refine WS.op rfl rfl (WS.nil [(2, _)] rfl ?_)
                    refine WC.ret ?_
                    refine ⟨[_], (res_tmp rfl res_nil), ?_⟩
                    exact ⟨plain_f (by unfold PlainE; omega), M3.bare.take 0⟩
theorem ref4_Right_ran {h : H} (W : Mem h h [] []) {e : Ent} (hb : e.body.length ≤ 1099511627776) : Cll tab0 33 [e.val] h (fun v h2 => v = .bool (rightB e) ∧ Mem h h2 [] []) := by
  refine Cll.code rfl rfl ?_
  refine WC.env [(0, _)] rfl ?_
  refine WC.seq ?_
  refine WC.run ?_
  refine WS.box W [_, _, _, _, _, _, _, _, _, _, _, _, _] rfl rfl rfl rfl ?_
  intro p1 h2 M3
  refine WS.op rfl rfl (WS.nil [(1, _)] rfl ?_)
  refine WC.seq ?_
  refine WC.seq ?_
  obtain ⟨L4, eL6, M5⟩ := Mem.name M3.bare
  refine WC.joinB (base := h) (fun b => [(1, (.pointer (some ⟨p1, 0, none⟩))), (10, .bool b)]) L4 (e.ix.toNat < 1 ∨ e.tm.toNat < 1) (1 ≤ e.ix.toNat ∧ 1 ≤ e.tm.toNat) ?_ ?_ ?_
  · subst eL6
    refine WS.op rfl rfl (WS.op rfl (op_ld (M5.at 0 rfl) rfl rfl) ?_)
    refine WS.eqlN (a := (e.ix).toNat) (b := 0) rfl rfl rfl (fun e5 => ?_) (fun e5 => ?_)
    · skip
      refine WS.op rfl rfl (WS.off rfl (WS.off rfl (WS.off rfl (WS.op rfl rfl ?_))))
      refine WS.nil' ⟨true, rfl, ((M5.bare.focus 0 rfl).take 1), fun _ => ?_, fun hh => ?_⟩
      · omega
      · cases hh
    · skip
      refine WS.op rfl rfl (WS.op rfl rfl (WS.op rfl (op_ld (M5.at 0 rfl) rfl rfl) ?_))
      refine WS.eqlN (a := (e.tm).toNat) (b := 0) rfl rfl rfl (fun e9 => ?_) (fun e9 => ?_)
      · skip
        refine WS.op rfl rfl ?_
        refine WS.nil' ⟨true, rfl, ((M5.bare.focus 0 rfl).take 1), fun _ => ?_, fun hh => ?_⟩
        · omega
        · cases hh
      · skip
        refine WS.op rfl rfl ?_
        refine WS.nil' ⟨false, rfl, ((M5.bare.focus 0 rfl).take 1), fun hh => ?_, fun _ => ?_⟩
        · cases hh
        · omega
  · intro h7 M8 hp10
    subst eL6
    refine WC.condT rfl ?_
    refine WC.seq ?_
    refine WC.run ?_
    refine WS.op rfl rfl (WS.nil [(2, _)] rfl ?_)
    refine WC.ret ?_
    refine ⟨[_], (res_tmp rfl res_nil), ?_⟩
    exact ⟨right_f (by first | exact right_small (by omega) | exact right_np (by omega) (by assumption) | (rw [right_3 (by omega) (by omega) (by omega)]; omega) | (rw [right_15 (by omega) (by omega) (by omega)]; rintro ⟨_, q⟩; omega) | (rw [right_15 (by omega) (by omega) (by omega)]; rintro ⟨q, _⟩; contradiction) | (rw [right_2 (by omega) (by omega) (by omega)]; rintro ⟨_, q, _⟩; omega) | (rw [right_2 (by omega) (by omega) (by omega)]; rintro ⟨q, _⟩; contradiction) | (rw [right_2 (by omega) (by omega) (by omega), one_byte (by assumption)]; rintro ⟨_, _, q⟩; omega) | (rw [right_4 (by omega) (by omega) (by omega)]; rintro ⟨_, q⟩; omega) | (rw [right_4 (by omega) (by omega) (by omega)]; rintro ⟨q, _⟩; contradiction)), M8.bare.take 0⟩
  · intro h9 M10 hp10
    subst eL6
    refine WC.condF rfl ?_
    refine WC.skip ?_
    refine WC.seq ?_
    refine WC.seq ?_
    refine WC.run ?_
    refine WS.op rfl rfl (WS.op rfl (op_ld (M10.at 0 rfl) rfl rfl) (WS.nil [(1, _), (12, _)] rfl ?_))
    refine WC.block ?_
    refine WC.seq ?_
    refine WC.seq ?_
    refine WC.run ?_
    refine WS.eqlN (a := (e.kd).toNat) (b := 1) rfl rfl rfl (fun e14 => ?_) (fun e14 => ?_)
    · skip
      refine WS.op rfl rfl (WS.nil [(1, _), (12, _), (13, _)] rfl ?_)
      refine WC.condT rfl ?_
      refine WC.skip ?_
      refine WC.condT rfl ?_
      refine WC.seq ?_
      refine WC.run ?_
      refine WS.op rfl (op_lds [_, _, _, _, _, _, _, _, _, _, _, _, _] (M10.at 0 rfl) rfl (Nat.le_of_ble_eq_true rfl) rfl) ?_
      refine WS.call rfl rfl rfl (ref4_plain_ran M10.here (e := e) (by first | omega | (simp only [List.length_drop, List.length_take, List.length_append, List.length_cons, List.length_nil, List.length_singleton]; omega) | (simp only [List.length_drop, List.length_take, List.length_append, List.length_cons, List.length_nil, List.length_singleton] at *; omega))) ?_
      rintro _ h11 ⟨rfl, N12⟩
      have M13 := M10.trans N12
      refine WS.op rfl rfl ?_
      cases hb1 : (plainB e)
      · skip
        refine WS.off rfl (WS.off rfl (WS.off rfl (WS.off rfl (WS.op rfl rfl (WS.op rfl rfl (WS.nil [(2, _)] rfl ?_))))))
        refine WC.ret ?_
        refine ⟨[_], (res_tmp rfl res_nil), ?_⟩
        first | (have hpl := plainB_t hb1) | (have hpl := plainB_f hb1) | skip
        exact ⟨right_f (by first | exact right_small (by omega) | exact right_np (by omega) (by assumption) | (rw [right_3 (by omega) (by omega) (by omega)]; omega) | (rw [right_15 (by omega) (by omega) (by omega)]; rintro ⟨_, q⟩; omega) | (rw [right_15 (by omega) (by omega) (by omega)]; rintro ⟨q, _⟩; contradiction) | (rw [right_2 (by omega) (by omega) (by omega)]; rintro ⟨_, q, _⟩; omega) | (rw [right_2 (by omega) (by omega) (by omega)]; rintro ⟨q, _⟩; contradiction) | (rw [right_2 (by omega) (by omega) (by omega), one_byte (by assumption)]; rintro ⟨_, _, q⟩; omega) | (rw [right_4 (by omega) (by omega) (by omega)]; rintro ⟨_, q⟩; omega) | (rw [right_4 (by omega) (by omega) (by omega)]; rintro ⟨q, _⟩; contradiction)), M13.bare.take 0⟩
      · skip
        refine WS.op rfl rfl (WS.op rfl (op_ld (M13.at 0 rfl) rfl rfl) (WS.op rfl (op_lenS (l := e.body) rfl) ?_))
        refine WS.eqlN (a := (e.body).length) (b := 0) rfl rfl rfl (fun e22 => ?_) (fun e22 => ?_)
        · skip
          refine WS.op rfl rfl (WS.op rfl rfl (WS.nil [(2, _)] rfl ?_))
          refine WC.ret ?_
          refine ⟨[_], (res_tmp rfl res_nil), ?_⟩
          first | (have hpl := plainB_t hb1) | (have hpl := plainB_f hb1) | skip
          exact ⟨right_t (by first | (rw [right_3 (by omega) (by omega) (by omega)]; omega) | (rw [right_15 (by omega) (by omega) (by omega)]; exact ⟨by assumption, by omega⟩) | (rw [right_2 (by omega) (by omega) (by omega), one_byte (by assumption)]; exact ⟨by assumption, by omega, by omega⟩) | (rw [right_4 (by omega) (by omega) (by omega)]; exact ⟨by assumption, by omega⟩)), M13.bare.take 0⟩
        · skip
          refine WS.op rfl rfl (WS.op rfl rfl (WS.nil [(2, _)] rfl ?_))
          refine WC.ret ?_
          refine ⟨[_], (res_tmp rfl res_nil), ?_⟩
          first | (have hpl := plainB_t hb1) | (have hpl := plainB_f hb1) | skip
          exact ⟨right_f (by first | exact right_small (by omega) | exact right_np (by omega) (by assumption) | (rw [right_3 (by omega) (by omega) (by omega)]; omega) | (rw [right_15 (by omega) (by omega) (by omega)]; rintro ⟨_, q⟩; omega) | (rw [right_15 (by omega) (by omega) (by omega)]; rintro ⟨q, _⟩; contradiction) | (rw [right_2 (by omega) (by omega) (by omega)]; rintro ⟨_, q, _⟩; omega) | (rw [right_2 (by omega) (by omega) (by omega)]; rintro ⟨q, _⟩; contradiction) | (rw [right_2 (by omega) (by omega) (by omega), one_byte (by assumption)]; rintro ⟨_, _, q⟩; omega) | (rw [right_4 (by omega) (by omega) (by omega)]; rintro ⟨_, q⟩; omega) | (rw [right_4 (by omega) (by omega) (by omega)]; rintro ⟨q, _⟩; contradiction)), M13.bare.take 0⟩
    · skip
      refine WS.op rfl rfl (WS.nil [(1, _), (12, _), (13, _)] rfl ?_)
      refine WC.condF rfl ?_
      refine WC.run ?_
      refine WS.eqlN (a := (e.kd).toNat) (b := 5) rfl rfl rfl (fun e15 => ?_) (fun e15 => ?_)
      · skip
        refine WS.op rfl rfl (WS.nil [(1, _), (12, _), (13, _)] rfl ?_)
        refine WC.condT rfl ?_
        refine WC.seq ?_
        refine WC.run ?_
        refine WS.op rfl (op_lds [_, _, _, _, _, _, _, _, _, _, _, _, _] (M10.at 0 rfl) rfl (Nat.le_of_ble_eq_true rfl) rfl) ?_
        refine WS.call rfl rfl rfl (ref4_plain_ran M10.here (e := e) (by first | omega | (simp only [List.length_drop, List.length_take, List.length_append, List.length_cons, List.length_nil, List.length_singleton]; omega) | (simp only [List.length_drop, List.length_take, List.length_append, List.length_cons, List.length_nil, List.length_singleton] at *; omega))) ?_
        rintro _ h14 ⟨rfl, N15⟩
        have M16 := M10.trans N15
        refine WS.op rfl rfl ?_
        cases hb1 : (plainB e)
        · skip
          refine WS.off rfl (WS.off rfl (WS.off rfl (WS.off rfl (WS.op rfl rfl (WS.op rfl rfl (WS.nil [(2, _)] rfl ?_))))))
          refine WC.ret ?_
          refine ⟨[_], (res_tmp rfl res_nil), ?_⟩
          first | (have hpl := plainB_t hb1) | (have hpl := plainB_f hb1) | skip
          exact ⟨right_f (by first | exact right_small (by omega) | exact right_np (by omega) (by assumption) | (rw [right_3 (by omega) (by omega) (by omega)]; omega) | (rw [right_15 (by omega) (by omega) (by omega)]; rintro ⟨_, q⟩; omega) | (rw [right_15 (by omega) (by omega) (by omega)]; rintro ⟨q, _⟩; contradiction) | (rw [right_2 (by omega) (by omega) (by omega)]; rintro ⟨_, q, _⟩; omega) | (rw [right_2 (by omega) (by omega) (by omega)]; rintro ⟨q, _⟩; contradiction) | (rw [right_2 (by omega) (by omega) (by omega), one_byte (by assumption)]; rintro ⟨_, _, q⟩; omega) | (rw [right_4 (by omega) (by omega) (by omega)]; rintro ⟨_, q⟩; omega) | (rw [right_4 (by omega) (by omega) (by omega)]; rintro ⟨q, _⟩; contradiction)), M16.bare.take 0⟩
        · skip
          refine WS.op rfl rfl (WS.op rfl (op_ld (M16.at 0 rfl) rfl rfl) (WS.op rfl (op_lenS (l := e.body) rfl) ?_))
          refine WS.eqlN (a := (e.body).length) (b := 0) rfl rfl rfl (fun e22 => ?_) (fun e22 => ?_)
          · skip
            refine WS.op rfl rfl (WS.op rfl rfl (WS.nil [(2, _)] rfl ?_))
            refine WC.ret ?_
            refine ⟨[_], (res_tmp rfl res_nil), ?_⟩
            first | (have hpl := plainB_t hb1) | (have hpl := plainB_f hb1) | skip
            exact ⟨right_t (by first | (rw [right_3 (by omega) (by omega) (by omega)]; omega) | (rw [right_15 (by omega) (by omega) (by omega)]; exact ⟨by assumption, by omega⟩) | (rw [right_2 (by omega) (by omega) (by omega), one_byte (by assumption)]; exact ⟨by assumption, by omega, by omega⟩) | (rw [right_4 (by omega) (by omega) (by omega)]; exact ⟨by assumption, by omega⟩)), M16.bare.take 0⟩
          · skip
            refine WS.op rfl rfl (WS.op rfl rfl (WS.nil [(2, _)] rfl ?_))
            refine WC.ret ?_
            refine ⟨[_], (res_tmp rfl res_nil), ?_⟩
            first | (have hpl := plainB_t hb1) | (have hpl := plainB_f hb1) | skip
            exact ⟨right_f (by first | exact right_small (by omega) | exact right_np (by omega) (by assumption) | (rw [right_3 (by omega) (by omega) (by omega)]; omega) | (rw [right_15 (by omega) (by omega) (by omega)]; rintro ⟨_, q⟩; omega) | (rw [right_15 (by omega) (by omega) (by omega)]; rintro ⟨q, _⟩; contradiction) | (rw [right_2 (by omega) (by omega) (by omega)]; rintro ⟨_, q, _⟩; omega) | (rw [right_2 (by omega) (by omega) (by omega)]; rintro ⟨q, _⟩; contradiction) | (rw [right_2 (by omega) (by omega) (by omega), one_byte (by assumption)]; rintro ⟨_, _, q⟩; omega) | (rw [right_4 (by omega) (by omega) (by omega)]; rintro ⟨_, q⟩; omega) | (rw [right_4 (by omega) (by omega) (by omega)]; rintro ⟨q, _⟩; contradiction)), M16.bare.take 0⟩
      · skip
        refine WS.op rfl rfl (WS.nil [(1, _), (12, _), (13, _)] rfl ?_)
        refine WC.condF rfl ?_
        refine WC.seq ?_
        refine WC.run ?_
        refine WS.eqlN (a := (e.kd).toNat) (b := 2) rfl rfl rfl (fun e25 => ?_) (fun e25 => ?_)
        · skip
          refine WS.op rfl rfl (WS.nil [(1, _), (12, _), (24, _)] rfl ?_)
          refine WC.condT rfl ?_
          refine WC.seq ?_
          refine WC.run ?_
          refine WS.op rfl (op_lds [_, _, _, _, _, _, _, _, _, _, _, _, _] (M10.at 0 rfl) rfl (Nat.le_of_ble_eq_true rfl) rfl) ?_
          refine WS.call rfl rfl rfl (ref4_plain_ran M10.here (e := e) (by first | omega | (simp only [List.length_drop, List.length_take, List.length_append, List.length_cons, List.length_nil, List.length_singleton]; omega) | (simp only [List.length_drop, List.length_take, List.length_append, List.length_cons, List.length_nil, List.length_singleton] at *; omega))) ?_
          rintro _ h17 ⟨rfl, N18⟩
          have M19 := M10.trans N18
          refine WS.op rfl rfl ?_
          cases hb1 : (plainB e)
          · skip
            refine WS.off rfl (WS.off rfl (WS.off rfl (WS.off rfl (WS.op rfl rfl (WS.op rfl rfl (WS.off rfl (WS.off rfl (WS.off rfl (WS.off rfl ?_)))))))))
            refine WS.op rfl rfl (WS.op rfl rfl (WS.off rfl (WS.off rfl (WS.off rfl (WS.off rfl (WS.op rfl rfl (WS.op rfl rfl (WS.nil [(2, _)] rfl ?_))))))))
            refine WC.ret ?_
            refine ⟨[_], (res_tmp rfl res_nil), ?_⟩
            first | (have hpl := plainB_t hb1) | (have hpl := plainB_f hb1) | skip
            exact ⟨right_f (by first | exact right_small (by omega) | exact right_np (by omega) (by assumption) | (rw [right_3 (by omega) (by omega) (by omega)]; omega) | (rw [right_15 (by omega) (by omega) (by omega)]; rintro ⟨_, q⟩; omega) | (rw [right_15 (by omega) (by omega) (by omega)]; rintro ⟨q, _⟩; contradiction) | (rw [right_2 (by omega) (by omega) (by omega)]; rintro ⟨_, q, _⟩; omega) | (rw [right_2 (by omega) (by omega) (by omega)]; rintro ⟨q, _⟩; contradiction) | (rw [right_2 (by omega) (by omega) (by omega), one_byte (by assumption)]; rintro ⟨_, _, q⟩; omega) | (rw [right_4 (by omega) (by omega) (by omega)]; rintro ⟨_, q⟩; omega) | (rw [right_4 (by omega) (by omega) (by omega)]; rintro ⟨q, _⟩; contradiction)), M19.bare.take 0⟩
          · skip
            refine WS.op rfl rfl (WS.op rfl (op_ld (M19.at 0 rfl) rfl rfl) (WS.op rfl (op_lenS (l := e.body) rfl) ?_))
            refine WS.eqlN (a := (e.body).length) (b := 1) rfl rfl rfl (fun e32 => ?_) (fun e32 => ?_)
            · skip
              refine WS.op rfl rfl (WS.op rfl rfl (WS.op rfl rfl (WS.op rfl (op_ld (M19.at 0 rfl) rfl rfl) ?_)))
              obtain ⟨c20, hc21⟩ : ∃ c, (e.body)[0]? = some c := ⟨_, List.getElem?_eq_getElem (show 0 < (e.body).length by first | omega | (simp only [List.length_drop, List.length_take, List.length_append, List.length_cons, List.length_nil, List.length_singleton]; omega) | (simp only [List.length_drop, List.length_take, List.length_append, List.length_cons, List.length_nil, List.length_singleton] at *; omega))⟩
              refine WS.op rfl (op_ixS 0 rfl rfl hc21) ?_
              refine WS.gtrN (a := (c20).toNat) (b := 0) rfl rfl rfl (fun e38 => ?_) (fun e38 => ?_)
              · skip
                refine WS.op rfl rfl (WS.op rfl rfl (WS.op rfl rfl (WS.op rfl (op_ld (M19.at 0 rfl) rfl rfl) (WS.op rfl (op_ixS 0 rfl rfl hc21) ?_))))
                refine WS.lssN (a := (c20).toNat) (b := 32) rfl rfl rfl (fun e44 => ?_) (fun e44 => ?_)
                · skip
                  refine WS.op rfl rfl (WS.op rfl rfl (WS.nil [(2, _)] rfl ?_))
                  refine WC.ret ?_
                  refine ⟨[_], (res_tmp rfl res_nil), ?_⟩
                  first | (have hpl := plainB_t hb1) | (have hpl := plainB_f hb1) | skip
                  exact ⟨right_t (by first | (rw [right_3 (by omega) (by omega) (by omega)]; omega) | (rw [right_15 (by omega) (by omega) (by omega)]; exact ⟨by assumption, by omega⟩) | (rw [right_2 (by omega) (by omega) (by omega), one_byte (by assumption)]; exact ⟨by assumption, by omega, by omega⟩) | (rw [right_4 (by omega) (by omega) (by omega)]; exact ⟨by assumption, by omega⟩)), M19.bare.take 0⟩
                · skip
                  refine WS.op rfl rfl (WS.op rfl rfl (WS.nil [(2, _)] rfl ?_))
                  refine WC.ret ?_
                  refine ⟨[_], (res_tmp rfl res_nil), ?_⟩
                  first | (have hpl := plainB_t hb1) | (have hpl := plainB_f hb1) | skip
                  exact ⟨right_f (by first | exact right_small (by omega) | exact right_np (by omega) (by assumption) | (rw [right_3 (by omega) (by omega) (by omega)]; omega) | (rw [right_15 (by omega) (by omega) (by omega)]; rintro ⟨_, q⟩; omega) | (rw [right_15 (by omega) (by omega) (by omega)]; rintro ⟨q, _⟩; contradiction) | (rw [right_2 (by omega) (by omega) (by omega)]; rintro ⟨_, q, _⟩; omega) | (rw [right_2 (by omega) (by omega) (by omega)]; rintro ⟨q, _⟩; contradiction) | (rw [right_2 (by omega) (by omega) (by omega), one_byte (by assumption)]; rintro ⟨_, _, q⟩; omega) | (rw [right_4 (by omega) (by omega) (by omega)]; rintro ⟨_, q⟩; omega) | (rw [right_4 (by omega) (by omega) (by omega)]; rintro ⟨q, _⟩; contradiction)), M19.bare.take 0⟩
              · skip
                refine WS.op rfl rfl (WS.op rfl rfl (WS.off rfl (WS.off rfl (WS.off rfl (WS.off rfl (WS.op rfl rfl (WS.op rfl rfl (WS.nil [(2, _)] rfl ?_))))))))
                refine WC.ret ?_
                refine ⟨[_], (res_tmp rfl res_nil), ?_⟩
                first | (have hpl := plainB_t hb1) | (have hpl := plainB_f hb1) | skip
                exact ⟨right_f (by first | exact right_small (by omega) | exact right_np (by omega) (by assumption) | (rw [right_3 (by omega) (by omega) (by omega)]; omega) | (rw [right_15 (by omega) (by omega) (by omega)]; rintro ⟨_, q⟩; omega) | (rw [right_15 (by omega) (by omega) (by omega)]; rintro ⟨q, _⟩; contradiction) | (rw [right_2 (by omega) (by omega) (by omega)]; rintro ⟨_, q, _⟩; omega) | (rw [right_2 (by omega) (by omega) (by omega)]; rintro ⟨q, _⟩; contradiction) | (rw [right_2 (by omega) (by omega) (by omega), one_byte (by assumption)]; rintro ⟨_, _, q⟩; omega) | (rw [right_4 (by omega) (by omega) (by omega)]; rintro ⟨_, q⟩; omega) | (rw [right_4 (by omega) (by omega) (by omega)]; rintro ⟨q, _⟩; contradiction)), M19.bare.take 0⟩
            · skip
              refine WS.op rfl rfl (WS.op rfl rfl (WS.off rfl (WS.off rfl (WS.off rfl (WS.off rfl (WS.op rfl rfl (WS.op rfl rfl (WS.off rfl (WS.off rfl ?_)))))))))
              refine WS.off rfl (WS.off rfl (WS.op rfl rfl (WS.op rfl rfl (WS.nil [(2, _)] rfl ?_))))
              refine WC.ret ?_
              refine ⟨[_], (res_tmp rfl res_nil), ?_⟩
              first | (have hpl := plainB_t hb1) | (have hpl := plainB_f hb1) | skip
              exact ⟨right_f (by first | exact right_small (by omega) | exact right_np (by omega) (by assumption) | (rw [right_3 (by omega) (by omega) (by omega)]; omega) | (rw [right_15 (by omega) (by omega) (by omega)]; rintro ⟨_, q⟩; omega) | (rw [right_15 (by omega) (by omega) (by omega)]; rintro ⟨q, _⟩; contradiction) | (rw [right_2 (by omega) (by omega) (by omega)]; rintro ⟨_, q, _⟩; omega) | (rw [right_2 (by omega) (by omega) (by omega)]; rintro ⟨q, _⟩; contradiction) | (rw [right_2 (by omega) (by omega) (by omega), one_byte (by assumption)]; rintro ⟨_, _, q⟩; omega) | (rw [right_4 (by omega) (by omega) (by omega)]; rintro ⟨_, q⟩; omega) | (rw [right_4 (by omega) (by omega) (by omega)]; rintro ⟨q, _⟩; contradiction)), M19.bare.take 0⟩
        · skip
          refine WS.op rfl rfl (WS.nil [(1, _), (12, _), (24, _)] rfl ?_)
          refine WC.condF rfl ?_
          refine WC.seq ?_
          refine WC.run ?_
          refine WS.eqlN (a := (e.kd).toNat) (b := 3) rfl rfl rfl (fun e47 => ?_) (fun e47 => ?_)
          · skip
            refine WS.op rfl rfl (WS.nil [(1, _), (12, _), (46, _)] rfl ?_)
            refine WC.condT rfl ?_
            refine WC.seq ?_
            refine WC.run ?_
            refine WS.op rfl rfl (WS.op rfl (op_ld (M10.at 0 rfl) rfl rfl) ?_)
            refine WS.leqN (a := (e.sl).toNat) (b := 3) rfl rfl rfl (fun e50 => ?_) (fun e50 => ?_)
            · skip
              refine WS.op rfl rfl (WS.nil [(2, _)] rfl ?_)
              refine WC.ret ?_
              refine ⟨[_], (res_tmp rfl res_nil), ?_⟩
              first | (have hpl := plainB_t hb1) | (have hpl := plainB_f hb1) | skip
              exact ⟨right_t (by first | (rw [right_3 (by omega) (by omega) (by omega)]; omega) | (rw [right_15 (by omega) (by omega) (by omega)]; exact ⟨by assumption, by omega⟩) | (rw [right_2 (by omega) (by omega) (by omega), one_byte (by assumption)]; exact ⟨by assumption, by omega, by omega⟩) | (rw [right_4 (by omega) (by omega) (by omega)]; exact ⟨by assumption, by omega⟩)), M10.bare.take 0⟩
            · skip
              refine WS.op rfl rfl (WS.nil [(2, _)] rfl ?_)
              refine WC.ret ?_
              refine ⟨[_], (res_tmp rfl res_nil), ?_⟩
              first | (have hpl := plainB_t hb1) | (have hpl := plainB_f hb1) | skip
              exact ⟨right_f (by first | exact right_small (by omega) | exact right_np (by omega) (by assumption) | (rw [right_3 (by omega) (by omega) (by omega)]; omega) | (rw [right_15 (by omega) (by omega) (by omega)]; rintro ⟨_, q⟩; omega) | (rw [right_15 (by omega) (by omega) (by omega)]; rintro ⟨q, _⟩; contradiction) | (rw [right_2 (by omega) (by omega) (by omega)]; rintro ⟨_, q, _⟩; omega) | (rw [right_2 (by omega) (by omega) (by omega)]; rintro ⟨q, _⟩; contradiction) | (rw [right_2 (by omega) (by omega) (by omega), one_byte (by assumption)]; rintro ⟨_, _, q⟩; omega) | (rw [right_4 (by omega) (by omega) (by omega)]; rintro ⟨_, q⟩; omega) | (rw [right_4 (by omega) (by omega) (by omega)]; rintro ⟨q, _⟩; contradiction)), M10.bare.take 0⟩
          · skip
            refine WS.op rfl rfl (WS.nil [(1, _), (12, _), (46, _)] rfl ?_)
            refine WC.condF rfl ?_
            refine WC.seq ?_
            refine WC.run ?_
            refine WS.eqlN (a := (e.kd).toNat) (b := 4) rfl rfl rfl (fun e52 => ?_) (fun e52 => ?_)
            · skip
              refine WS.op rfl rfl (WS.nil [(1, _), (51, _)] rfl ?_)
              refine WC.condT rfl ?_
              refine WC.seq ?_
              refine WC.run ?_
              refine WS.op rfl (op_lds [_, _, _, _, _, _, _, _, _, _, _, _, _] (M10.at 0 rfl) rfl (Nat.le_of_ble_eq_true rfl) rfl) ?_
              refine WS.call rfl rfl rfl (ref4_plain_ran M10.here (e := e) (by first | omega | (simp only [List.length_drop, List.length_take, List.length_append, List.length_cons, List.length_nil, List.length_singleton]; omega) | (simp only [List.length_drop, List.length_take, List.length_append, List.length_cons, List.length_nil, List.length_singleton] at *; omega))) ?_
              rintro _ h22 ⟨rfl, N23⟩
              have M24 := M10.trans N23
              refine WS.op rfl rfl (WS.nil [(2, _)] rfl ?_)
              refine WC.ret ?_
              cases hb1 : (plainB e)
              · skip
                refine ⟨[_], (res_tmp rfl res_nil), ?_⟩
                first | (have hpl := plainB_t hb1) | (have hpl := plainB_f hb1) | skip
                exact ⟨right_f (by first | exact right_small (by omega) | exact right_np (by omega) (by assumption) | (rw [right_3 (by omega) (by omega) (by omega)]; omega) | (rw [right_15 (by omega) (by omega) (by omega)]; rintro ⟨_, q⟩; omega) | (rw [right_15 (by omega) (by omega) (by omega)]; rintro ⟨q, _⟩; contradiction) | (rw [right_2 (by omega) (by omega) (by omega)]; rintro ⟨_, q, _⟩; omega) | (rw [right_2 (by omega) (by omega) (by omega)]; rintro ⟨q, _⟩; contradiction) | (rw [right_2 (by omega) (by omega) (by omega), one_byte (by assumption)]; rintro ⟨_, _, q⟩; omega) | (rw [right_4 (by omega) (by omega) (by omega)]; rintro ⟨_, q⟩; omega) | (rw [right_4 (by omega) (by omega) (by omega)]; rintro ⟨q, _⟩; contradiction)), M24.bare.take 0⟩
              · skip
                refine ⟨[_], (res_tmp rfl res_nil), ?_⟩
                first | (have hpl := plainB_t hb1) | (have hpl := plainB_f hb1) | skip
                exact ⟨right_t (by first | (rw [right_3 (by omega) (by omega) (by omega)]; omega) | (rw [right_15 (by omega) (by omega) (by omega)]; exact ⟨by assumption, by omega⟩) | (rw [right_2 (by omega) (by omega) (by omega), one_byte (by assumption)]; exact ⟨by assumption, by omega, by omega⟩) | (rw [right_4 (by omega) (by omega) (by omega)]; exact ⟨by assumption, by omega⟩)), M24.bare.take 0⟩
            · skip
              refine WS.op rfl rfl (WS.nil [(1, _), (51, _)] rfl ?_)
              refine WC.condF rfl ?_
              refine WC.skip ?_
              refine WC.seq ?_
              refine WC.run ?_
              refine WS.op rfl rfl (WS.nil [(2, _)] rfl ?_)
              refine WC.ret ?_
              refine ⟨[_], (res_tmp rfl res_nil), ?_⟩
              first | (have hpl := plainB_t hb1) | (have hpl := plainB_f hb1) | skip
              exact ⟨right_f (by first | exact right_small (by omega) | exact right_np (by omega) (by assumption) | (rw [right_3 (by omega) (by omega) (by omega)]; omega) | (rw [right_15 (by omega) (by omega) (by omega)]; rintro ⟨_, q⟩; omega) | (rw [right_15 (by omega) (by omega) (by omega)]; rintro ⟨q, _⟩; contradiction) | (rw [right_2 (by omega) (by omega) (by omega)]; rintro ⟨_, q, _⟩; omega) | (rw [right_2 (by omega) (by omega) (by omega)]; rintro ⟨q, _⟩; contradiction) | (rw [right_2 (by omega) (by omega) (by omega), one_byte (by assumption)]; rintro ⟨_, _, q⟩; omega) | (rw [right_4 (by omega) (by omega) (by omega)]; rintro ⟨_, q⟩; omega) | (rw [right_4 (by omega) (by omega) (by omega)]; rintro ⟨q, _⟩; contradiction)), M10.bare.take 0⟩
theorem right_kinds {e : Ent} (h : RightE e) : 1 ≤ e.kd.toNat ∧ e.kd.toNat ≤ 5 := by
  unfold RightE at h
  obtain ⟨_, _, h⟩ := h
  split at h
  · omega
  · obtain ⟨_, h⟩ := h; split at h
    · omega
    · split at h <;> omega
theorem ref4_Write_ran {h : H} (W : Mem h h [] []) {e : Ent} (hb : e.body.length ≤ 549755813888) : Cll tab0 36 [e.val] h (fun v h2 => v = .string (bs (writeE e)) ∧ Mem h h2 [] []) := by
  have hv1 := vb_len e.ix.toNat_lt
  have hv2 := vb_len e.tm.toNat_lt
  have hv3 := sb_len (t := e.body) (by omega)
  have h64 := e.ix.toNat_lt
  have h65 := e.tm.toNat_lt
  refine Cll.code rfl rfl ?_
  refine WC.env [(0, _)] rfl ?_
  refine WC.seq ?_
  refine WC.run ?_
  refine WS.box W [_, _, _, _, _, _, _, _, _, _, _, _, _] rfl rfl rfl rfl ?_
  intro p1 h2 M3
  refine WS.op rfl rfl (WS.nil [(1, _)] rfl ?_)
  refine WC.seq ?_
  refine WC.seq ?_
  refine WC.run ?_
  refine WS.op rfl (op_lds [_, _, _, _, _, _, _, _, _, _, _, _, _] (M3.at 0 rfl) rfl (Nat.le_of_ble_eq_true rfl) rfl) ?_
  refine WS.call rfl rfl rfl (ref4_Right_ran M3.here (e := e) (by first | omega | (simp only [List.length_drop, List.length_take, List.length_append, List.length_cons, List.length_nil, List.length_singleton]; omega) | (simp only [List.length_drop, List.length_take, List.length_append, List.length_cons, List.length_nil, List.length_singleton] at *; omega))) ?_
  rintro _ h4 ⟨rfl, N5⟩
  have M6 := M3.trans N5
  cases hb1 : (rightB e)
  · skip
    refine WS.opV (.bool true) rfl rfl rfl (WS.nil [(1, _), (7, _)] rfl ?_)
    refine WC.condT rfl ?_
    refine WC.seq ?_
    refine WC.run ?_
    refine WS.op rfl rfl (WS.nil [(2, _)] rfl ?_)
    refine WC.ret ?_
    refine ⟨[_], (res_tmp rfl res_nil), ?_⟩
    exact ⟨by rw [write_f hb1]; rfl, M6.bare.take 0⟩
  · skip
    refine WS.opV (.bool false) rfl rfl rfl (WS.nil [(1, _), (7, _)] rfl ?_)
    refine WC.condF rfl ?_
    refine WC.skip ?_
    refine WC.seq ?_
    refine WC.draw M6 [2] rfl ?_
    intro rb7 h8 M9
    refine WS.op rfl rfl (WS.op rfl (op_ld (M9.at 0 rfl) rfl rfl) (WS.op rfl rfl (WS.op rfl (op_ld (M9.at 0 rfl) rfl rfl) (WS.op rfl rfl (WS.op rfl (op_ld (M9.at 0 rfl) rfl rfl) ?_)))))
    refine WS.call rfl rfl rfl (ref_One_ran M9.here (n := ((e.ix).toNat)) (by omega)) ?_
    rintro _ h10 ⟨rfl, N11⟩
    have M12 := M9.trans N11
    refine WS.chk rfl (op_ld (M12.at 0 rfl) rfl rfl) rfl (sameV_refl rfl) (WS.chk rfl (op_ld (M12.at 0 rfl) rfl rfl) rfl (sameV_refl rfl) ?_)
    refine WS.call rfl rfl rfl (ref_One_ran M12.here (n := ((e.tm).toNat)) (by omega)) ?_
    rintro _ h14 ⟨rfl, N15⟩
    have M16 := M12.trans N15
    refine WS.chk rfl (op_ld (M16.at 0 rfl) rfl rfl) rfl (sameV_refl rfl) ?_
    refine WS.bslA M16 [_] 0 rfl rfl rfl rfl rfl ?_
    intro h19 M20
    refine WS.opR rfl rfl (op_cvB (l := [e.kd]) (M20.at 0 rfl) rfl rfl (Nat.le_of_ble_eq_true rfl) rfl) (WS.op rfl (op_sadd (l := [e.kd]) (m := (vb ((e.ix).toNat))) rfl rfl (by first | omega | (simp only [List.length_drop, List.length_take, List.length_append, List.length_cons, List.length_nil, List.length_singleton]; omega) | (simp only [List.length_drop, List.length_take, List.length_append, List.length_cons, List.length_nil, List.length_singleton] at *; omega))) (WS.op rfl (op_sadd (l := ([e.kd] ++ (vb ((e.ix).toNat)))) (m := (vb ((e.tm).toNat))) rfl rfl (by first | omega | (simp only [List.length_drop, List.length_take, List.length_append, List.length_cons, List.length_nil, List.length_singleton]; omega) | (simp only [List.length_drop, List.length_take, List.length_append, List.length_cons, List.length_nil, List.length_singleton] at *; omega))) (WS.op rfl rfl (WS.nil [(1, _), (3, _)] rfl ?_))))
    refine WC.seq ?_
    refine WC.seq ?_
    refine WC.run ?_
    refine WS.op rfl rfl (WS.op rfl (op_ld (M20.bare.at 1 rfl) rfl rfl) (WS.nil [(1, _), (3, _), (21, _)] rfl ?_))
    refine WC.block ?_
    refine WC.seq ?_
    refine WC.seq ?_
    refine WC.run ?_
    refine WS.eqlN (a := (e.kd).toNat) (b := 2) rfl rfl rfl (fun e23 => ?_) (fun e23 => ?_)
    · skip
      refine WS.op rfl rfl (WS.nil [(1, _), (3, _), (21, _), (22, _)] rfl ?_)
      refine WC.condT rfl ?_
      refine WC.skip ?_
      refine WC.condT rfl ?_
      refine WC.run ?_
      refine WS.op rfl rfl (WS.op rfl rfl (WS.op rfl (op_ld (M20.bare.at 1 rfl) rfl rfl) ?_))
      refine WS.bsl M20.bare [_] rfl rfl rfl rfl ?_
      intro p21 h22 M23
      refine WS.call rfl rfl rfl (ref_S_ran M23.here (Row.Sl.own (K := KStr) (l := [e.body]) (M23.at 0 rfl)) (by simp only [List.map_cons, List.map_nil, List.sum_cons, List.sum_nil, List.length_cons, List.length_nil]; omega) (r := (sb e.body)) (by simp [List.flatMap])) ?_
      rintro _ h24 ⟨rfl, N25⟩
      have M26 := M23.trans N25
      refine WS.op rfl (op_sadd (l := (([e.kd] ++ (vb ((e.ix).toNat))) ++ (vb ((e.tm).toNat)))) (m := (sb e.body)) rfl rfl (by first | omega | (simp only [List.length_drop, List.length_take, List.length_append, List.length_cons, List.length_nil, List.length_singleton]; omega) | (simp only [List.length_drop, List.length_take, List.length_append, List.length_cons, List.length_nil, List.length_singleton] at *; omega))) (WS.op rfl rfl (WS.nil [(3, _)] rfl ?_))
      refine WC.seq ?_
      refine WC.run ?_
      refine WS.op rfl rfl (WS.op rfl rfl (WS.nil [(2, _)] rfl ?_))
      refine WC.ret ?_
      refine ⟨[_], (res_tmp rfl res_nil), ?_⟩
      have hr5 := right_kinds (rightB_iff.1 hb1)
      exact ⟨by rw [show writeE e = ((([e.kd] ++ (vb ((e.ix).toNat))) ++ (vb ((e.tm).toNat))) ++ (sb e.body)) from by (rw [write_t hb1]; unfold encE; first | rw [if_pos (by omega)] | rw [if_neg (by omega)]); (first | rw [if_pos (by omega)] | rw [if_neg (by omega)]); simp [Ent.tok]]; rfl, M26.bare.take 0⟩
    · skip
      refine WS.op rfl rfl (WS.nil [(1, _), (3, _), (21, _), (22, _)] rfl ?_)
      refine WC.condF rfl ?_
      refine WC.run ?_
      refine WS.eqlN (a := (e.kd).toNat) (b := 4) rfl rfl rfl (fun e24 => ?_) (fun e24 => ?_)
      · skip
        refine WS.op rfl rfl (WS.nil [(1, _), (3, _), (21, _), (22, _)] rfl ?_)
        refine WC.condT rfl ?_
        refine WC.run ?_
        refine WS.op rfl rfl (WS.op rfl rfl (WS.op rfl (op_ld (M20.bare.at 1 rfl) rfl rfl) ?_))
        refine WS.bsl M20.bare [_] rfl rfl rfl rfl ?_
        intro p27 h28 M29
        refine WS.call rfl rfl rfl (ref_S_ran M29.here (Row.Sl.own (K := KStr) (l := [e.body]) (M29.at 0 rfl)) (by simp only [List.map_cons, List.map_nil, List.sum_cons, List.sum_nil, List.length_cons, List.length_nil]; omega) (r := (sb e.body)) (by simp [List.flatMap])) ?_
        rintro _ h30 ⟨rfl, N31⟩
        have M32 := M29.trans N31
        refine WS.op rfl (op_sadd (l := (([e.kd] ++ (vb ((e.ix).toNat))) ++ (vb ((e.tm).toNat)))) (m := (sb e.body)) rfl rfl (by first | omega | (simp only [List.length_drop, List.length_take, List.length_append, List.length_cons, List.length_nil, List.length_singleton]; omega) | (simp only [List.length_drop, List.length_take, List.length_append, List.length_cons, List.length_nil, List.length_singleton] at *; omega))) (WS.op rfl rfl (WS.nil [(3, _)] rfl ?_))
        refine WC.seq ?_
        refine WC.run ?_
        refine WS.op rfl rfl (WS.op rfl rfl (WS.nil [(2, _)] rfl ?_))
        refine WC.ret ?_
        refine ⟨[_], (res_tmp rfl res_nil), ?_⟩
        have hr5 := right_kinds (rightB_iff.1 hb1)
        exact ⟨by rw [show writeE e = ((([e.kd] ++ (vb ((e.ix).toNat))) ++ (vb ((e.tm).toNat))) ++ (sb e.body)) from by (rw [write_t hb1]; unfold encE; first | rw [if_pos (by omega)] | rw [if_neg (by omega)]); (first | rw [if_pos (by omega)] | rw [if_neg (by omega)]); simp [Ent.tok]]; rfl, M32.bare.take 0⟩
      · skip
        refine WS.op rfl rfl (WS.nil [(1, _), (3, _), (21, _), (22, _)] rfl ?_)
        refine WC.condF rfl ?_
        refine WC.seq ?_
        refine WC.run ?_
        refine WS.eqlN (a := (e.kd).toNat) (b := 3) rfl rfl rfl (fun e32 => ?_) (fun e32 => ?_)
        · skip
          refine WS.op rfl rfl (WS.nil [(1, _), (3, _), (31, _)] rfl ?_)
          refine WC.condT rfl ?_
          refine WC.seq ?_
          refine WC.run ?_
          refine WS.op rfl rfl (WS.op rfl rfl (WS.op rfl (op_ld (M20.bare.at 1 rfl) rfl rfl) ?_))
          refine WS.bsl M20.bare [_] rfl rfl rfl rfl ?_
          intro p33 h34 M35
          refine WS.op rfl (op_cvB (l := [e.sl]) (M35.at 0 rfl) rfl rfl (Nat.le_of_ble_eq_true rfl) rfl) (WS.op rfl (op_sadd (l := (([e.kd] ++ (vb ((e.ix).toNat))) ++ (vb ((e.tm).toNat)))) (m := [e.sl]) rfl rfl (by first | omega | (simp only [List.length_drop, List.length_take, List.length_append, List.length_cons, List.length_nil, List.length_singleton]; omega) | (simp only [List.length_drop, List.length_take, List.length_append, List.length_cons, List.length_nil, List.length_singleton] at *; omega))) (WS.op rfl rfl (WS.nil [(1, _), (3, _)] rfl ?_)))
          refine WC.seq ?_
          refine WC.seq ?_
          refine WC.run ?_
          refine WS.op rfl rfl (WS.nil [(1, _), (3, _), (4, _)] rfl ?_)
          refine WC.block ?_
          refine WC.unroll [(1, _), (3, _), (4, _)] rfl ?_
          refine WC.seq ?_
          refine WC.seq ?_
          refine WC.run ?_
          refine WS.op rfl rfl (WS.opV (.bool true) rfl rfl rfl (WS.nil [(1, _), (3, _), (4, _), (40, _)] rfl ?_))
          refine WC.condT rfl ?_
          refine WC.skip ?_
          refine WC.seq ?_
          refine WC.block ?_
          refine WC.run ?_
          refine WS.op rfl rfl (WS.op rfl rfl (WS.op rfl rfl (WS.op rfl rfl (WS.op rfl (op_ld (M35.at 2 rfl) rfl rfl) ?_))))
          refine WS.bsl M35 [_] rfl rfl rfl rfl ?_
          intro p36 h37 M38
          refine WS.op rfl (op_cvB (l := [e.t0]) (M38.at 0 rfl) rfl rfl (Nat.le_of_ble_eq_true rfl) rfl) (WS.op rfl (op_sadd (l := ((([e.kd] ++ (vb ((e.ix).toNat))) ++ (vb ((e.tm).toNat))) ++ [e.sl])) (m := [e.t0]) rfl rfl (by first | omega | (simp only [List.length_drop, List.length_take, List.length_append, List.length_cons, List.length_nil, List.length_singleton]; omega) | (simp only [List.length_drop, List.length_take, List.length_append, List.length_cons, List.length_nil, List.length_singleton] at *; omega))) (WS.op rfl rfl (WS.nil [(1, _), (3, _), (4, _)] rfl ?_)))
          refine WC.run ?_
          refine WS.op rfl rfl (WS.opV (.int .i64 1) rfl rfl rfl (WS.op rfl rfl (WS.nil [(1, _), (3, _), (4, _)] rfl ?_)))
          refine WC.unroll [(1, _), (3, _), (4, _)] rfl ?_
          refine WC.seq ?_
          refine WC.seq ?_
          refine WC.run ?_
          refine WS.op rfl rfl (WS.opV (.bool true) rfl rfl rfl (WS.nil [(1, _), (3, _), (4, _), (40, _)] rfl ?_))
          refine WC.condT rfl ?_
          refine WC.skip ?_
          refine WC.seq ?_
          refine WC.block ?_
          refine WC.run ?_
          refine WS.op rfl rfl (WS.op rfl rfl (WS.op rfl rfl (WS.op rfl rfl (WS.op rfl (op_ld (M38.at 3 rfl) rfl rfl) ?_))))
          refine WS.bsl M38 [_] rfl rfl rfl rfl ?_
          intro p39 h40 M41
          refine WS.op rfl (op_cvB (l := [e.t1]) (M41.at 0 rfl) rfl rfl (Nat.le_of_ble_eq_true rfl) rfl) (WS.op rfl (op_sadd (l := (((([e.kd] ++ (vb ((e.ix).toNat))) ++ (vb ((e.tm).toNat))) ++ [e.sl]) ++ [e.t0])) (m := [e.t1]) rfl rfl (by first | omega | (simp only [List.length_drop, List.length_take, List.length_append, List.length_cons, List.length_nil, List.length_singleton]; omega) | (simp only [List.length_drop, List.length_take, List.length_append, List.length_cons, List.length_nil, List.length_singleton] at *; omega))) (WS.op rfl rfl (WS.nil [(1, _), (3, _), (4, _)] rfl ?_)))
          refine WC.run ?_
          refine WS.op rfl rfl (WS.opV (.int .i64 2) rfl rfl rfl (WS.op rfl rfl (WS.nil [(1, _), (3, _), (4, _)] rfl ?_)))
          refine WC.unroll [(1, _), (3, _), (4, _)] rfl ?_
          refine WC.seq ?_
          refine WC.seq ?_
          refine WC.run ?_
          refine WS.op rfl rfl (WS.opV (.bool true) rfl rfl rfl (WS.nil [(1, _), (3, _), (4, _), (40, _)] rfl ?_))
          refine WC.condT rfl ?_
          refine WC.skip ?_
          refine WC.seq ?_
          refine WC.block ?_
          refine WC.run ?_
          refine WS.op rfl rfl (WS.op rfl rfl (WS.op rfl rfl (WS.op rfl rfl (WS.op rfl (op_ld (M41.at 4 rfl) rfl rfl) ?_))))
          refine WS.bsl M41 [_] rfl rfl rfl rfl ?_
          intro p42 h43 M44
          refine WS.op rfl (op_cvB (l := [e.t2]) (M44.at 0 rfl) rfl rfl (Nat.le_of_ble_eq_true rfl) rfl) (WS.op rfl (op_sadd (l := ((((([e.kd] ++ (vb ((e.ix).toNat))) ++ (vb ((e.tm).toNat))) ++ [e.sl]) ++ [e.t0]) ++ [e.t1])) (m := [e.t2]) rfl rfl (by first | omega | (simp only [List.length_drop, List.length_take, List.length_append, List.length_cons, List.length_nil, List.length_singleton]; omega) | (simp only [List.length_drop, List.length_take, List.length_append, List.length_cons, List.length_nil, List.length_singleton] at *; omega))) (WS.op rfl rfl (WS.nil [(1, _), (3, _), (4, _)] rfl ?_)))
          refine WC.run ?_
          refine WS.op rfl rfl (WS.opV (.int .i64 3) rfl rfl rfl (WS.op rfl rfl (WS.nil [(1, _), (3, _), (4, _)] rfl ?_)))
          refine WC.unroll [(1, _), (3, _), (4, _)] rfl ?_
          refine WC.seq ?_
          refine WC.seq ?_
          refine WC.run ?_
          refine WS.op rfl rfl (WS.opV (.bool true) rfl rfl rfl (WS.nil [(1, _), (3, _), (4, _), (40, _)] rfl ?_))
          refine WC.condT rfl ?_
          refine WC.skip ?_
          refine WC.seq ?_
          refine WC.block ?_
          refine WC.run ?_
          refine WS.op rfl rfl (WS.op rfl rfl (WS.op rfl rfl (WS.op rfl rfl (WS.op rfl (op_ld (M44.at 5 rfl) rfl rfl) ?_))))
          refine WS.bsl M44 [_] rfl rfl rfl rfl ?_
          intro p45 h46 M47
          refine WS.op rfl (op_cvB (l := [e.t3]) (M47.at 0 rfl) rfl rfl (Nat.le_of_ble_eq_true rfl) rfl) (WS.op rfl (op_sadd (l := (((((([e.kd] ++ (vb ((e.ix).toNat))) ++ (vb ((e.tm).toNat))) ++ [e.sl]) ++ [e.t0]) ++ [e.t1]) ++ [e.t2])) (m := [e.t3]) rfl rfl (by first | omega | (simp only [List.length_drop, List.length_take, List.length_append, List.length_cons, List.length_nil, List.length_singleton]; omega) | (simp only [List.length_drop, List.length_take, List.length_append, List.length_cons, List.length_nil, List.length_singleton] at *; omega))) (WS.op rfl rfl (WS.nil [(1, _), (3, _), (4, _)] rfl ?_)))
          refine WC.run ?_
          refine WS.op rfl rfl (WS.opV (.int .i64 4) rfl rfl rfl (WS.op rfl rfl (WS.nil [(1, _), (3, _), (4, _)] rfl ?_)))
          refine WC.unroll [(1, _), (3, _), (4, _)] rfl ?_
          refine WC.seq ?_
          refine WC.seq ?_
          refine WC.run ?_
          refine WS.op rfl rfl (WS.opV (.bool true) rfl rfl rfl (WS.nil [(1, _), (3, _), (4, _), (40, _)] rfl ?_))
          refine WC.condT rfl ?_
          refine WC.skip ?_
          refine WC.seq ?_
          refine WC.block ?_
          refine WC.run ?_
          refine WS.op rfl rfl (WS.op rfl rfl (WS.op rfl rfl (WS.op rfl rfl (WS.op rfl (op_ld (M47.at 6 rfl) rfl rfl) ?_))))
          refine WS.bsl M47 [_] rfl rfl rfl rfl ?_
          intro p48 h49 M50
          refine WS.op rfl (op_cvB (l := [e.t4]) (M50.at 0 rfl) rfl rfl (Nat.le_of_ble_eq_true rfl) rfl) (WS.op rfl (op_sadd (l := ((((((([e.kd] ++ (vb ((e.ix).toNat))) ++ (vb ((e.tm).toNat))) ++ [e.sl]) ++ [e.t0]) ++ [e.t1]) ++ [e.t2]) ++ [e.t3])) (m := [e.t4]) rfl rfl (by first | omega | (simp only [List.length_drop, List.length_take, List.length_append, List.length_cons, List.length_nil, List.length_singleton]; omega) | (simp only [List.length_drop, List.length_take, List.length_append, List.length_cons, List.length_nil, List.length_singleton] at *; omega))) (WS.op rfl rfl (WS.nil [(1, _), (3, _), (4, _)] rfl ?_)))
          refine WC.run ?_
          refine WS.op rfl rfl (WS.opV (.int .i64 5) rfl rfl rfl (WS.op rfl rfl (WS.nil [(1, _), (3, _), (4, _)] rfl ?_)))
          refine WC.unroll [(1, _), (3, _), (4, _)] rfl ?_
          refine WC.seq ?_
          refine WC.seq ?_
          refine WC.run ?_
          refine WS.op rfl rfl (WS.opV (.bool true) rfl rfl rfl (WS.nil [(1, _), (3, _), (4, _), (40, _)] rfl ?_))
          refine WC.condT rfl ?_
          refine WC.skip ?_
          refine WC.seq ?_
          refine WC.block ?_
          refine WC.run ?_
          refine WS.op rfl rfl (WS.op rfl rfl (WS.op rfl rfl (WS.op rfl rfl (WS.op rfl (op_ld (M50.at 7 rfl) rfl rfl) ?_))))
          refine WS.bsl M50 [_] rfl rfl rfl rfl ?_
          intro p51 h52 M53
          refine WS.op rfl (op_cvB (l := [e.t5]) (M53.at 0 rfl) rfl rfl (Nat.le_of_ble_eq_true rfl) rfl) (WS.op rfl (op_sadd (l := (((((((([e.kd] ++ (vb ((e.ix).toNat))) ++ (vb ((e.tm).toNat))) ++ [e.sl]) ++ [e.t0]) ++ [e.t1]) ++ [e.t2]) ++ [e.t3]) ++ [e.t4])) (m := [e.t5]) rfl rfl (by first | omega | (simp only [List.length_drop, List.length_take, List.length_append, List.length_cons, List.length_nil, List.length_singleton]; omega) | (simp only [List.length_drop, List.length_take, List.length_append, List.length_cons, List.length_nil, List.length_singleton] at *; omega))) (WS.op rfl rfl (WS.nil [(1, _), (3, _), (4, _)] rfl ?_)))
          refine WC.run ?_
          refine WS.op rfl rfl (WS.opV (.int .i64 6) rfl rfl rfl (WS.op rfl rfl (WS.nil [(1, _), (3, _), (4, _)] rfl ?_)))
          refine WC.unroll [(1, _), (3, _), (4, _)] rfl ?_
          refine WC.seq ?_
          refine WC.seq ?_
          refine WC.run ?_
          refine WS.op rfl rfl (WS.opV (.bool true) rfl rfl rfl (WS.nil [(1, _), (3, _), (4, _), (40, _)] rfl ?_))
          refine WC.condT rfl ?_
          refine WC.skip ?_
          refine WC.seq ?_
          refine WC.block ?_
          refine WC.run ?_
          refine WS.op rfl rfl (WS.op rfl rfl (WS.op rfl rfl (WS.op rfl rfl (WS.op rfl (op_ld (M53.at 8 rfl) rfl rfl) ?_))))
          refine WS.bsl M53 [_] rfl rfl rfl rfl ?_
          intro p54 h55 M56
          refine WS.op rfl (op_cvB (l := [e.t6]) (M56.at 0 rfl) rfl rfl (Nat.le_of_ble_eq_true rfl) rfl) (WS.op rfl (op_sadd (l := ((((((((([e.kd] ++ (vb ((e.ix).toNat))) ++ (vb ((e.tm).toNat))) ++ [e.sl]) ++ [e.t0]) ++ [e.t1]) ++ [e.t2]) ++ [e.t3]) ++ [e.t4]) ++ [e.t5])) (m := [e.t6]) rfl rfl (by first | omega | (simp only [List.length_drop, List.length_take, List.length_append, List.length_cons, List.length_nil, List.length_singleton]; omega) | (simp only [List.length_drop, List.length_take, List.length_append, List.length_cons, List.length_nil, List.length_singleton] at *; omega))) (WS.op rfl rfl (WS.nil [(1, _), (3, _), (4, _)] rfl ?_)))
          refine WC.run ?_
          refine WS.op rfl rfl (WS.opV (.int .i64 7) rfl rfl rfl (WS.op rfl rfl (WS.nil [(1, _), (3, _), (4, _)] rfl ?_)))
          refine WC.unroll [(1, _), (3, _), (4, _)] rfl ?_
          refine WC.seq ?_
          refine WC.seq ?_
          refine WC.run ?_
          refine WS.op rfl rfl (WS.opV (.bool true) rfl rfl rfl (WS.nil [(1, _), (3, _), (4, _), (40, _)] rfl ?_))
          refine WC.condT rfl ?_
          refine WC.skip ?_
          refine WC.seq ?_
          refine WC.block ?_
          refine WC.run ?_
          refine WS.op rfl rfl (WS.op rfl rfl (WS.op rfl rfl (WS.op rfl rfl (WS.op rfl (op_ld (M56.at 9 rfl) rfl rfl) ?_))))
          refine WS.bsl M56 [_] rfl rfl rfl rfl ?_
          intro p57 h58 M59
          refine WS.op rfl (op_cvB (l := [e.t7]) (M59.at 0 rfl) rfl rfl (Nat.le_of_ble_eq_true rfl) rfl) (WS.op rfl (op_sadd (l := (((((((((([e.kd] ++ (vb ((e.ix).toNat))) ++ (vb ((e.tm).toNat))) ++ [e.sl]) ++ [e.t0]) ++ [e.t1]) ++ [e.t2]) ++ [e.t3]) ++ [e.t4]) ++ [e.t5]) ++ [e.t6])) (m := [e.t7]) rfl rfl (by first | omega | (simp only [List.length_drop, List.length_take, List.length_append, List.length_cons, List.length_nil, List.length_singleton]; omega) | (simp only [List.length_drop, List.length_take, List.length_append, List.length_cons, List.length_nil, List.length_singleton] at *; omega))) (WS.op rfl rfl (WS.nil [(1, _), (3, _), (4, _)] rfl ?_)))
          refine WC.run ?_
          refine WS.op rfl rfl (WS.opV (.int .i64 8) rfl rfl rfl (WS.op rfl rfl (WS.nil [(1, _), (3, _), (4, _)] rfl ?_)))
          refine WC.unroll [(1, _), (3, _), (4, _)] rfl ?_
          refine WC.seq ?_
          refine WC.seq ?_
          refine WC.run ?_
          refine WS.op rfl rfl (WS.opV (.bool false) rfl rfl rfl (WS.nil [(1, _), (3, _), (4, _), (40, _)] rfl ?_))
          refine WC.condF rfl ?_
          refine WC.exit ?_
          refine WC.run ?_
          refine WS.op rfl rfl (WS.op rfl rfl (WS.op rfl (op_ld (M59.at 10 rfl) rfl rfl) ?_))
          refine WS.bsl M59 [_] rfl rfl rfl rfl ?_
          intro p60 h61 M62
          refine WS.call rfl rfl rfl (ref_S_ran M62.here (Row.Sl.own (K := KStr) (l := [e.body]) (M62.at 0 rfl)) (by simp only [List.map_cons, List.map_nil, List.sum_cons, List.sum_nil, List.length_cons, List.length_nil]; omega) (r := (sb e.body)) (by simp [List.flatMap])) ?_
          rintro _ h63 ⟨rfl, N64⟩
          have M65 := M62.trans N64
          refine WS.op rfl (op_sadd (l := ((((((((((([e.kd] ++ (vb ((e.ix).toNat))) ++ (vb ((e.tm).toNat))) ++ [e.sl]) ++ [e.t0]) ++ [e.t1]) ++ [e.t2]) ++ [e.t3]) ++ [e.t4]) ++ [e.t5]) ++ [e.t6]) ++ [e.t7])) (m := (sb e.body)) rfl rfl (by first | omega | (simp only [List.length_drop, List.length_take, List.length_append, List.length_cons, List.length_nil, List.length_singleton]; omega) | (simp only [List.length_drop, List.length_take, List.length_append, List.length_cons, List.length_nil, List.length_singleton] at *; omega))) (WS.op rfl rfl (WS.nil [(3, _)] rfl ?_))
          refine WC.seq ?_
          refine WC.run ?_
          refine WS.op rfl rfl (WS.op rfl rfl (WS.nil [(2, _)] rfl ?_))
          refine WC.ret ?_
          refine ⟨[_], (res_tmp rfl res_nil), ?_⟩
          have hr5 := right_kinds (rightB_iff.1 hb1)
          exact ⟨by rw [show writeE e = (((((((((((([e.kd] ++ (vb ((e.ix).toNat))) ++ (vb ((e.tm).toNat))) ++ [e.sl]) ++ [e.t0]) ++ [e.t1]) ++ [e.t2]) ++ [e.t3]) ++ [e.t4]) ++ [e.t5]) ++ [e.t6]) ++ [e.t7]) ++ (sb e.body)) from by (rw [write_t hb1]; unfold encE; first | rw [if_pos (by omega)] | rw [if_neg (by omega)]); (first | rw [if_pos (by omega)] | rw [if_neg (by omega)]); simp [Ent.tok]]; rfl, M65.bare.take 0⟩
        · skip
          refine WS.op rfl rfl (WS.nil [(1, _), (3, _), (31, _)] rfl ?_)
          refine WC.condF rfl ?_
          refine WC.skip ?_
          refine WC.seq ?_
          refine WC.run ?_
          refine WS.op rfl rfl (WS.op rfl rfl (WS.nil [(2, _)] rfl ?_))
          refine WC.ret ?_
          refine ⟨[_], (res_tmp rfl res_nil), ?_⟩
          have hr5 := right_kinds (rightB_iff.1 hb1)
          exact ⟨by rw [show writeE e = (([e.kd] ++ (vb ((e.ix).toNat))) ++ (vb ((e.tm).toNat))) from by (rw [write_t hb1]; unfold encE; first | rw [if_pos (by omega)] | rw [if_neg (by omega)]); (first | rw [if_pos (by omega)] | rw [if_neg (by omega)]); simp [Ent.tok]]; rfl, M20.bare.bare.take 0⟩
theorem getV_of {s : List UInt8} (h : rvOK s = true) : getV s = some (rvN s, rvK s) := by rw [getV_eq, h]; rfl
theorem getS_of {s : List UInt8} (h : rsOK s = true) : getS s = some (rsT s, rsK s) := by rw [getS_eq, h]; rfl
theorem no_v1 {s : List UInt8} (h : rvOK (s.drop 1) = false) : ∀ e, RightE e → encE e ≠ s := fun e he hs => by
  have := (rv_eq_some (enc_parts hs).2.1).2.2; rw [h] at this; cases this
theorem no_v2 {s : List UInt8} (h : rvOK (rest1 s) = false) : ∀ e, RightE e → encE e ≠ s := fun e he hs => by
  have := (rv_eq_some (enc_parts hs).2.2.1).2.2; rw [h] at this; cases this
theorem no_kind {s : List UInt8} {c : UInt8} (h0 : s[0]? = some c) (h : c.toNat < 1 ∨ 5 < c.toNat) : ∀ e, RightE e → encE e ≠ s := fun e he hs => by
  have h1 := (enc_parts hs).1; rw [h0] at h1; simp at h1; have := right_kinds he; rw [← h1] at this; omega
def at2 (s : List UInt8) : Nat := 1 + rvK (s.drop 1) + rvK (rest1 s)
theorem rest2_eq (s : List UInt8) : rest2 s = s.drop (at2 s) := rfl
theorem rest2_9 (s : List UInt8) : (rest2 s).drop 9 = s.drop (at2 s + 9) := by rw [rest2_eq, List.drop_drop]
theorem no_tail3 {s : List UInt8} {c : UInt8} (h0 : s[0]? = some c) (hc : c.toNat = 3) (h : (rest2 s).length < 9) : ∀ e, RightE e → encE e ≠ s := fun e he hs => by
  obtain ⟨h1, _, _, h2, _⟩ := enc_parts hs
  rw [h0] at h1; simp at h1
  rw [h2, tail_3 (by rw [← h1]; exact hc)] at h; simp [Ent.tok] at h; omega
theorem no_text3 {s : List UInt8} {c : UInt8} (h0 : s[0]? = some c) (hc : c.toNat = 3) (hs2 : s.length < 18446744073709551616) (h : rsOK (s.drop (at2 s + 9)) = false ∨ at2 s + 9 + rsK (s.drop (at2 s + 9)) ≠ s.length) : ∀ e, RightE e → encE e ≠ s := fun e he hs => by
  have hbl := enc_body_len he hs
  obtain ⟨h1, _, _, h2, _⟩ := enc_parts hs
  rw [h0] at h1; simp at h1
  have h3 : rest2 s = e.sl :: (e.tok ++ sb e.body) := by rw [h2, tail_3 (by rw [← h1]; exact hc)]
  have h4 : (rest2 s).drop 9 = sb e.body := by rw [h3]; rfl
  have hl3 := congrArg List.length h3
  rw [rest2_9] at h4
  have g := getS_sb (t := e.body) (by omega) []
  rw [List.append_nil, ← h4] at g
  obtain ⟨_, g2, g3⟩ := rs_eq_some g
  rcases h with h | h
  · rw [h] at g3; cases g3
  · apply h
    rw [rest2_eq, List.length_drop] at hl3
    have hl4 := congrArg List.length h4
    simp [Ent.tok] at hl3
    rw [List.length_drop] at hl4
    rw [g2, List.length_drop]; omega
theorem no_text {s : List UInt8} {c : UInt8} (h0 : s[0]? = some c) (hc : c.toNat = 2 ∨ c.toNat = 4) (hs2 : s.length < 18446744073709551616) (h : rsOK (rest2 s) = false ∨ at2 s + rsK (rest2 s) ≠ s.length) : ∀ e, RightE e → encE e ≠ s := fun e he hs => by
  have hbl := enc_body_len he hs
  obtain ⟨h1, _, _, h2, _⟩ := enc_parts hs
  rw [h0] at h1; simp at h1
  have h3 : rest2 s = sb e.body := by rw [h2, tail_24 (by rw [← h1]; omega) (by rw [← h1]; omega)]
  have g := getS_sb (t := e.body) (by omega) []
  rw [List.append_nil, ← h3] at g
  obtain ⟨_, g2, g3⟩ := rs_eq_some g
  rcases h with h | h
  · rw [h] at g3; cases g3
  · apply h
    have hl3 := congrArg List.length h3
    have := List.length_pos_iff.2 (sb_ne e.body)
    rw [rest2_eq, List.length_drop] at hl3
    rw [g2, rest2_eq, List.length_drop]; omega
theorem no_end {s : List UInt8} {c : UInt8} (h0 : s[0]? = some c) (hc : c.toNat = 1 ∨ c.toNat = 5) (hle : at2 s ≤ s.length) (h : at2 s ≠ s.length) : ∀ e, RightE e → encE e ≠ s := fun e he hs => by
  obtain ⟨h1, _, _, h2, _⟩ := enc_parts hs
  rw [h0] at h1; simp at h1
  have hl3 := congrArg List.length h2
  rw [tail_ne (by rw [← h1]; exact hc), rest2_eq, List.length_drop] at hl3; simp at hl3; omega
/-- Where all was read, and the entry isn't right, there is none. -/
theorem no_right {E : Ent} {s : List UInt8} (hE : encE E = s) (hs : s.length < 18446744073709551616) (hb : E.body.length < 18446744073709551616) (hn : rightB E = false) (hz : E.kd.toNat ≠ 3 → PlainE E) (hk : E.kd.toNat = 1 ∨ E.kd.toNat = 5 → E.body = []) : ∀ e, RightE e → encE e ≠ s := fun e he hs2 => by
  have hbl := enc_body_len he hs2
  have : ¬ RightE E := fun r => by rw [rightB_iff.2 r] at hn; cases hn
  exact this (by rw [enc_inj2 hz hk he hb (by omega) (by rw [hE, hs2])]; exact he)
theorem toNat64 (s : List UInt8) : (UInt64.ofNat (rvN s)).toNat = rvN s := by
  have := rvN_lt s; rw [UInt64.toNat_ofNat']; omega
theorem enc3_of {l : List UInt8} {c b c0 c1 c2 c3 c4 c5 c6 c7 : UInt8} (h0 : l[0]? = some c) (hc : c.toNat = 3) (v1 : rvOK (l.drop 1) = true) (v2 : rvOK (rest1 l) = true) (g : l[at2 l]? = some b) (g0 : l[at2 l + 1 + 0]? = some c0) (g1 : l[at2 l + 1 + 1]? = some c1) (g2 : l[at2 l + 1 + 2]? = some c2) (g3 : l[at2 l + 1 + 3]? = some c3) (g4 : l[at2 l + 1 + 4]? = some c4) (g5 : l[at2 l + 1 + 5]? = some c5) (g6 : l[at2 l + 1 + 6]? = some c6) (g7 : l[at2 l + 1 + 7]? = some c7)
    (hs : rsOK (l.drop (at2 l + 9)) = true) (he : at2 l + 9 + rsK (l.drop (at2 l + 9)) = l.length) : encE ⟨UInt64.ofNat (rvN (l.drop 1)), UInt64.ofNat (rvN (rest1 l)), c, b, c0, c1, c2, c3, c4, c5, c6, c7, rsT (l.drop (at2 l + 9))⟩ = l := by
  refine enc_of h0 rfl (by rw [toNat64]; exact getV_of v1) (by rw [toNat64]; exact getV_of v2) ?_
  rw [tail_3 hc, rest2_eq, drop_cons g, drop_cons g0, drop_cons g1, drop_cons g2, drop_cons g3, drop_cons g4, drop_cons g5, drop_cons g6, drop_cons g7]
  obtain ⟨q1, q2, q3⟩ := getS_some (getS_of hs)
  have q4 : (l.drop (at2 l + 9)).drop (rsK (l.drop (at2 l + 9))) = [] := List.drop_of_length_le (by rw [List.length_drop]; omega)
  rw [q4, List.append_nil] at q1
  simp only [Ent.tok, List.cons_append, List.nil_append]
  rw [← q1]
theorem enc24_of {l : List UInt8} {c : UInt8} (h0 : l[0]? = some c) (hc : c.toNat = 2 ∨ c.toNat = 4) (v1 : rvOK (l.drop 1) = true) (v2 : rvOK (rest1 l) = true) (hs : rsOK (rest2 l) = true) (he : at2 l + rsK (rest2 l) = l.length) : encE ⟨UInt64.ofNat (rvN (l.drop 1)), UInt64.ofNat (rvN (rest1 l)), c, 0, 0, 0, 0, 0, 0, 0, 0, 0, rsT (rest2 l)⟩ = l := by
  refine enc_of h0 rfl (by rw [toNat64]; exact getV_of v1) (by rw [toNat64]; exact getV_of v2) ?_
  rw [tail_24 (by simp only; omega) (by simp only; omega)]
  obtain ⟨q1, q2, q3⟩ := getS_some (getS_of hs)
  have q4 : (rest2 l).drop (rsK (rest2 l)) = [] := List.drop_of_length_le (by rw [rest2_eq, List.length_drop] ; rw [rest2_eq] at he; omega)
  rw [q4, List.append_nil] at q1; exact q1
theorem enc15_of {l : List UInt8} {c : UInt8} (h0 : l[0]? = some c) (hc : c.toNat = 1 ∨ c.toNat = 5) (v1 : rvOK (l.drop 1) = true) (v2 : rvOK (rest1 l) = true) (he : at2 l = l.length) : encE ⟨UInt64.ofNat (rvN (l.drop 1)), UInt64.ofNat (rvN (rest1 l)), c, 0, 0, 0, 0, 0, 0, 0, 0, 0, []⟩ = l := by
  refine enc_of h0 rfl (by rw [toNat64]; exact getV_of v1) (by rw [toNat64]; exact getV_of v2) ?_
  rw [tail_ne hc, rest2_eq, List.drop_of_length_le (by omega)]
theorem plain0 (a b : UInt64) (c : UInt8) (t : List UInt8) : PlainE ⟨a, b, c, 0, 0, 0, 0, 0, 0, 0, 0, 0, t⟩ := ⟨rfl, rfl, rfl, rfl, rfl, rfl, rfl, rfl, rfl⟩
set_option maxRecDepth 4000 in
theorem ref4_Read_ran {h : H} (W : Mem h h [] []) {l : List UInt8} (hl : l.length ≤ 549755813888) : Cll tab0 39 [.string (bs l)] h (fun v h2 => v = rdV l ∧ Mem h h2 [] []) := by
  have hk1 := rvK_le (l.drop 1)
  have hk2 := rvK_le (rest1 l)
  have ha : at2 l = 1 + rvK (l.drop 1) + rvK (rest1 l) := rfl
  have hr1 : (rest1 l).length = l.length - (1 + rvK (l.drop 1)) := by unfold rest1; rw [List.length_drop]
  have hr2 : (rest2 l).length = l.length - at2 l := by rw [rest2_eq, List.length_drop]
  simp only [List.length_drop] at hk1
  have ht1 := rsT_le (rest2 l)
  have ht2 := rsT_le (l.drop (at2 l + 9))
  have ht3 := rsK_le (rest2 l)
  have ht4 := rsK_le (l.drop (at2 l + 9))
  rw [List.length_drop] at ht2 ht4
  refine Cll.code rfl rfl ?_
  refine WC.env [(0, _)] rfl ?_
  refine WC.seq ?_
  refine WC.run ?_
  refine WS.new W rfl ?_
  intro p1 h2 M3
  refine WS.op rfl rfl (WS.nil [(0, _), (2, _)] rfl ?_)
  refine WC.seq ?_
  refine WC.seq ?_
  refine WC.run ?_
  refine WS.op rfl rfl (WS.op rfl (op_lenS (l := l) rfl) ?_)
  refine WS.lssN (a := (l).length) (b := 3) rfl rfl rfl (fun e17 => ?_) (fun e17 => ?_)
  · skip
    refine WS.nil [(0, _), (2, _), (17, _)] rfl ?_
    refine WC.condT rfl ?_
    refine WC.seq ?_
    refine WC.run ?_
    refine WS.opV (.agg #[(.int .u64 (0 : Int)), (.int .u64 (0 : Int)), (.int .u8 (0 : Int)), (.int .u8 (0 : Int)), (.int .u8 (0 : Int)), (.int .u8 (0 : Int)), (.int .u8 (0 : Int)), (.int .u8 (0 : Int)), (.int .u8 (0 : Int)), (.int .u8 (0 : Int)), (.int .u8 (0 : Int)), (.int .u8 (0 : Int)), (.string (bs ([])))]) rfl rfl rfl ?_
    refine WS.st1 (M3.focus 0 rfl) [_, _, _, _, _, _, _, _, _, _, _, _, _] [_, _, _, _, _, _, _, _, _, _, _, _, _] rfl rfl rfl rfl rfl (Nat.le_of_ble_eq_true rfl) (Nat.le_of_ble_eq_true rfl) rfl rfl ?_
    intro h4 M5
    replace M5 : Mem _ _ ([(p1, _)] :: []) _ := M5
    refine WS.op rfl rfl (WS.nil [(2, _), (3, _)] rfl ?_)
    refine WC.ret ?_
    refine ⟨[_, _], (res_cellN [_, _, _, _, _, _, _, _, _, _, _, _, _] rfl (M5.at 0 rfl) (Nat.le_of_ble_eq_true rfl) rfl (res_tmp rfl res_nil)), ?_⟩
    first | (exfalso; omega) | exact ⟨by rw [rdV_none (by first | exact no_short (by omega) | exact no_v1 (by assumption) | exact no_v2 (by assumption))]; rfl, M5.bare.take 0⟩
  · skip
    refine WS.nil [(0, _), (2, _), (17, _)] rfl ?_
    refine WC.condF rfl ?_
    refine WC.skip ?_
    refine WC.seq ?_
    refine WC.run ?_
    refine WS.op rfl rfl ?_
    have hpos : 0 < l.length := by omega
    obtain ⟨c, hc⟩ : ∃ c, (l)[0]? = some c := ⟨_, List.getElem?_eq_getElem (show 0 < (l).length by first | omega | (simp only [List.length_drop, List.length_take, List.length_append, List.length_cons, List.length_nil, List.length_singleton]; omega) | (simp only [List.length_drop, List.length_take, List.length_append, List.length_cons, List.length_nil, List.length_singleton] at *; omega))⟩
    refine WS.op rfl (op_ixS 0 rfl rfl hc) (WS.opV (.agg #[(.int .u64 (0 : Int)), (.int .u64 (0 : Int)), (.int .u8 (((c).toNat : Nat) : Int)), (.int .u8 (0 : Int)), (.int .u8 (0 : Int)), (.int .u8 (0 : Int)), (.int .u8 (0 : Int)), (.int .u8 (0 : Int)), (.int .u8 (0 : Int)), (.int .u8 (0 : Int)), (.int .u8 (0 : Int)), (.int .u8 (0 : Int)), (.string (bs ([])))]) rfl rfl rfl ?_)
    refine WS.new M3 rfl ?_
    intro p6 h7 M8
    refine WS.st1 (M8.focus 0 rfl) [_, _, _, _, _, _, _, _, _, _, _, _, _] [_, _, _, _, _, _, _, _, _, _, _, _, _] rfl rfl rfl rfl rfl (Nat.le_of_ble_eq_true rfl) (Nat.le_of_ble_eq_true rfl) rfl rfl ?_
    intro h9 M10
    replace M10 : Mem _ _ ([(p6, _)] :: [(p1, _)] :: []) _ := M10
    refine WS.nil [(0, _), (2, _), (4, _)] rfl ?_
    refine WC.seq ?_
    refine WC.run ?_
    refine WS.op rfl rfl (WS.op rfl (op_slS0 (l := l) 1 rfl rfl (by first | omega | (simp only [List.length_drop, List.length_take, List.length_append, List.length_cons, List.length_nil, List.length_singleton]; omega) | (simp only [List.length_drop, List.length_take, List.length_append, List.length_cons, List.length_nil, List.length_singleton] at *; omega))) ?_)
    refine WS.call rfl rfl rfl (ref_ReadV_ran M10.here (l := ((l).drop 1)) (by first | omega | (simp only [List.length_drop, List.length_take, List.length_append, List.length_cons, List.length_nil, List.length_singleton]; omega) | (simp only [List.length_drop, List.length_take, List.length_append, List.length_cons, List.length_nil, List.length_singleton] at *; omega))) ?_
    rintro _ h11 ⟨rfl, N12⟩
    have M13 := M10.trans N12
    refine WS.op rfl rfl (WS.opV (.int .u64 (((UInt64.ofNat (rvN ((l).drop 1))).toNat : Nat) : Int)) rfl rfl (u64_ofNat (n := (rvN ((l).drop 1))) (by have := rvN_lt ((l).drop 1); omega)) (WS.op rfl rfl (WS.op rfl rfl (WS.op rfl rfl (WS.op rfl rfl (WS.op rfl rfl (WS.nil [(0, _), (2, _), (4, _), (5, _), (6, _), (7, _)] rfl ?_)))))))
    refine WC.seq ?_
    refine WC.seq ?_
    refine WC.run ?_
    refine WS.op rfl rfl ?_
    cases hb1 : (rvOK ((l).drop 1))
    · skip
      refine WS.opV (.bool true) rfl rfl rfl (WS.nil [(0, _), (2, _), (4, _), (5, _), (6, _), (30, _)] rfl ?_)
      refine WC.condT rfl ?_
      refine WC.seq ?_
      refine WC.run ?_
      refine WS.opV (.agg #[(.int .u64 (0 : Int)), (.int .u64 (0 : Int)), (.int .u8 (0 : Int)), (.int .u8 (0 : Int)), (.int .u8 (0 : Int)), (.int .u8 (0 : Int)), (.int .u8 (0 : Int)), (.int .u8 (0 : Int)), (.int .u8 (0 : Int)), (.int .u8 (0 : Int)), (.int .u8 (0 : Int)), (.int .u8 (0 : Int)), (.string (bs ([])))]) rfl rfl rfl ?_
      refine WS.st1 (M13.focus 1 rfl) [_, _, _, _, _, _, _, _, _, _, _, _, _] [_, _, _, _, _, _, _, _, _, _, _, _, _] rfl rfl rfl rfl rfl (Nat.le_of_ble_eq_true rfl) (Nat.le_of_ble_eq_true rfl) rfl rfl ?_
      intro h15 M16
      replace M16 : Mem _ _ ([(p1, _)] :: [(p6, _)] :: []) _ := M16
      refine WS.op rfl rfl (WS.nil [(2, _), (3, _)] rfl ?_)
      refine WC.ret ?_
      refine ⟨[_, _], (res_cellN [_, _, _, _, _, _, _, _, _, _, _, _, _] rfl (M16.at 0 rfl) (Nat.le_of_ble_eq_true rfl) rfl (res_tmp rfl res_nil)), ?_⟩
      by_cases hc15 : c.toNat = 1 ∨ c.toNat = 5 <;> first | (exfalso; omega) | exact ⟨by rw [rdV_none (by first | exact no_short (by omega) | exact no_v1 (by assumption) | exact no_v2 (by assumption) | exact no_tail3 hc e54 (by omega) | exact no_text3 hc e54 (by omega) (.inl (by assumption)) | exact no_text3 hc e54 (by omega) (.inr (by assumption)) | exact no_text hc (by omega) (by omega) (.inl (by assumption)) | exact no_text hc (by omega) (by omega) (.inr (by assumption)) | exact no_end hc (by omega) (by omega) (by assumption) | exact no_kind hc (by omega))]; rfl, M16.bare.take 0⟩
    · skip
      refine WS.opV (.bool false) rfl rfl rfl (WS.nil [(0, _), (2, _), (4, _), (5, _), (6, _), (30, _)] rfl ?_)
      refine WC.condF rfl ?_
      refine WC.skip ?_
      refine WC.seq ?_
      refine WC.run ?_
      refine WS.op rfl rfl (WS.op rfl rfl (WS.opV (.int .i64 (((1 + (rvK ((l).drop 1))) : Nat) : Int)) rfl rfl (add_i64 (a := 1) (b := (rvK ((l).drop 1))) (by have := rvK_le ((l).drop 1); omega)) (WS.opV (.string (bs (rest1 l))) rfl (op_slS0 (l := l) (1 + (rvK ((l).drop 1))) rfl rfl (by first | omega | (simp only [List.length_drop, List.length_take, List.length_append, List.length_cons, List.length_nil, List.length_singleton]; omega) | (simp only [List.length_drop, List.length_take, List.length_append, List.length_cons, List.length_nil, List.length_singleton] at *; omega))) rfl ?_)))
      refine WS.call rfl rfl rfl (ref_ReadV_ran M13.here (l := (rest1 l)) (by first | omega | (simp only [List.length_drop, List.length_take, List.length_append, List.length_cons, List.length_nil, List.length_singleton]; omega) | (simp only [List.length_drop, List.length_take, List.length_append, List.length_cons, List.length_nil, List.length_singleton] at *; omega))) ?_
      rintro _ h17 ⟨rfl, N18⟩
      have M19 := M13.trans N18
      refine WS.op rfl rfl (WS.opV (.int .u64 (((UInt64.ofNat (rvN (rest1 l))).toNat : Nat) : Int)) rfl rfl (u64_ofNat (n := (rvN (rest1 l))) (by have := rvN_lt (rest1 l); omega)) (WS.op rfl rfl (WS.op rfl rfl (WS.op rfl rfl (WS.op rfl rfl (WS.op rfl rfl (WS.nil [(0, _), (2, _), (4, _), (5, _), (6, _), (7, _), (8, _), (9, _)] rfl ?_)))))))
      refine WC.seq ?_
      refine WC.seq ?_
      refine WC.run ?_
      refine WS.op rfl rfl ?_
      cases hb2 : (rvOK (rest1 l))
      · skip
        refine WS.opV (.bool true) rfl rfl rfl (WS.nil [(0, _), (2, _), (4, _), (5, _), (6, _), (8, _), (9, _), (42, _)] rfl ?_)
        refine WC.condT rfl ?_
        refine WC.seq ?_
        refine WC.run ?_
        refine WS.opV (.agg #[(.int .u64 (0 : Int)), (.int .u64 (0 : Int)), (.int .u8 (0 : Int)), (.int .u8 (0 : Int)), (.int .u8 (0 : Int)), (.int .u8 (0 : Int)), (.int .u8 (0 : Int)), (.int .u8 (0 : Int)), (.int .u8 (0 : Int)), (.int .u8 (0 : Int)), (.int .u8 (0 : Int)), (.int .u8 (0 : Int)), (.string (bs ([])))]) rfl rfl rfl ?_
        refine WS.st1 (M19.focus 1 rfl) [_, _, _, _, _, _, _, _, _, _, _, _, _] [_, _, _, _, _, _, _, _, _, _, _, _, _] rfl rfl rfl rfl rfl (Nat.le_of_ble_eq_true rfl) (Nat.le_of_ble_eq_true rfl) rfl rfl ?_
        intro h21 M22
        replace M22 : Mem _ _ ([(p1, _)] :: [(p6, _)] :: []) _ := M22
        refine WS.op rfl rfl (WS.nil [(2, _), (3, _)] rfl ?_)
        refine WC.ret ?_
        refine ⟨[_, _], (res_cellN [_, _, _, _, _, _, _, _, _, _, _, _, _] rfl (M22.at 0 rfl) (Nat.le_of_ble_eq_true rfl) rfl (res_tmp rfl res_nil)), ?_⟩
        by_cases hc15 : c.toNat = 1 ∨ c.toNat = 5 <;> first | (exfalso; omega) | exact ⟨by rw [rdV_none (by first | exact no_short (by omega) | exact no_v1 (by assumption) | exact no_v2 (by assumption) | exact no_tail3 hc e54 (by omega) | exact no_text3 hc e54 (by omega) (.inl (by assumption)) | exact no_text3 hc e54 (by omega) (.inr (by assumption)) | exact no_text hc (by omega) (by omega) (.inl (by assumption)) | exact no_text hc (by omega) (by omega) (.inr (by assumption)) | exact no_end hc (by omega) (by omega) (by assumption) | exact no_kind hc (by omega))]; rfl, M22.bare.take 0⟩
      · skip
        refine WS.opV (.bool false) rfl rfl rfl (WS.nil [(0, _), (2, _), (4, _), (5, _), (6, _), (8, _), (9, _), (42, _)] rfl ?_)
        refine WC.condF rfl ?_
        refine WC.skip ?_
        refine WC.seq ?_
        refine WC.run ?_
        refine WS.op rfl rfl (WS.op rfl rfl ?_)
        refine WS.st1 (M19.focus 0 rfl) [_] [_, _, _, _, _, _, _, _, _, _, _, _, _] rfl rfl rfl rfl rfl (Nat.le_of_ble_eq_true rfl) (Nat.le_of_ble_eq_true rfl) rfl rfl ?_
        intro h23 M24
        replace M24 : Mem _ _ ([(p6, _)] :: [(p1, _)] :: []) _ := M24
        refine WS.nil [(0, _), (2, _), (4, _), (6, _), (8, _), (9, _)] rfl ?_
        refine WC.seq ?_
        refine WC.run ?_
        refine WS.op rfl rfl (WS.op rfl rfl ?_)
        refine WS.st1 (M24.focus 0 rfl) [_] [_, _, _, _, _, _, _, _, _, _, _, _, _] rfl rfl rfl rfl rfl (Nat.le_of_ble_eq_true rfl) (Nat.le_of_ble_eq_true rfl) rfl rfl ?_
        intro h25 M26
        replace M26 : Mem _ _ ([(p6, _)] :: [(p1, _)] :: []) _ := M26
        refine WS.nil [(0, _), (2, _), (4, _), (6, _), (9, _)] rfl ?_
        refine WC.seq ?_
        refine WC.run ?_
        refine WS.op rfl rfl (WS.opV (.int .i64 (((1 + (rvK ((l).drop 1))) : Nat) : Int)) rfl rfl (add_i64 (a := 1) (b := (rvK ((l).drop 1))) (by have := rvK_le ((l).drop 1); omega)) (WS.op rfl rfl (WS.opV (.int .i64 (((at2 l) : Nat) : Int)) rfl rfl (add_i64 (a := (1 + (rvK ((l).drop 1)))) (b := (rvK (rest1 l))) (by have := rvK_le (rest1 l); omega)) (WS.op rfl rfl (WS.nil [(0, _), (2, _), (4, _), (10, _)] rfl ?_)))))
        refine WC.seq ?_
        refine WC.seq ?_
        refine WC.run ?_
        refine WS.op rfl rfl (WS.op rfl (op_ld (M26.at 0 rfl) rfl rfl) ?_)
        refine WS.eqlN (a := (c).toNat) (b := 3) rfl rfl rfl (fun e54 => ?_) (fun e54 => ?_)
        · skip
          refine WS.nil [(0, _), (2, _), (4, _), (10, _), (54, _)] rfl ?_
          refine WC.condT rfl ?_
          refine WC.seq ?_
          refine WC.seq ?_
          refine WC.run ?_
          refine WS.op rfl rfl (WS.opV (.int .i64 ((((at2 l) + 9) : Nat) : Int)) rfl rfl (add_i64 (a := (at2 l)) (b := 9) (by omega)) (WS.op rfl rfl (WS.op rfl (op_lenS (l := l) rfl) ?_)))
          refine WS.gtrN (a := ((at2 l) + 9)) (b := (l).length) rfl rfl rfl (fun e59 => ?_) (fun e59 => ?_)
          · skip
            refine WS.nil [(0, _), (2, _), (4, _), (10, _), (59, _)] rfl ?_
            refine WC.condT rfl ?_
            refine WC.seq ?_
            refine WC.run ?_
            refine WS.opV (.agg #[(.int .u64 (0 : Int)), (.int .u64 (0 : Int)), (.int .u8 (0 : Int)), (.int .u8 (0 : Int)), (.int .u8 (0 : Int)), (.int .u8 (0 : Int)), (.int .u8 (0 : Int)), (.int .u8 (0 : Int)), (.int .u8 (0 : Int)), (.int .u8 (0 : Int)), (.int .u8 (0 : Int)), (.int .u8 (0 : Int)), (.string (bs ([])))]) rfl rfl rfl ?_
            refine WS.st1 (M26.focus 1 rfl) [_, _, _, _, _, _, _, _, _, _, _, _, _] [_, _, _, _, _, _, _, _, _, _, _, _, _] rfl rfl rfl rfl rfl (Nat.le_of_ble_eq_true rfl) (Nat.le_of_ble_eq_true rfl) rfl rfl ?_
            intro h27 M28
            replace M28 : Mem _ _ ([(p1, _)] :: [(p6, _)] :: []) _ := M28
            refine WS.op rfl rfl (WS.nil [(2, _), (3, _)] rfl ?_)
            refine WC.ret ?_
            refine ⟨[_, _], (res_cellN [_, _, _, _, _, _, _, _, _, _, _, _, _] rfl (M28.at 0 rfl) (Nat.le_of_ble_eq_true rfl) rfl (res_tmp rfl res_nil)), ?_⟩
            by_cases hc15 : c.toNat = 1 ∨ c.toNat = 5 <;> first | (exfalso; omega) | exact ⟨by rw [rdV_none (by first | exact no_short (by omega) | exact no_v1 (by assumption) | exact no_v2 (by assumption) | exact no_tail3 hc e54 (by omega) | exact no_text3 hc e54 (by omega) (.inl (by assumption)) | exact no_text3 hc e54 (by omega) (.inr (by assumption)) | exact no_text hc (by omega) (by omega) (.inl (by assumption)) | exact no_text hc (by omega) (by omega) (.inr (by assumption)) | exact no_end hc (by omega) (by omega) (by assumption) | exact no_kind hc (by omega))]; rfl, M28.bare.take 0⟩
          · skip
            refine WS.nil [(0, _), (2, _), (4, _), (10, _), (59, _)] rfl ?_
            refine WC.condF rfl ?_
            refine WC.skip ?_
            refine WC.seq ?_
            refine WC.run ?_
            refine WS.op rfl rfl (WS.op rfl rfl ?_)
            obtain ⟨b, hb⟩ : ∃ c, (l)[(at2 l)]? = some c := ⟨_, List.getElem?_eq_getElem (show (at2 l) < (l).length by first | omega | (simp only [List.length_drop, List.length_take, List.length_append, List.length_cons, List.length_nil, List.length_singleton]; omega) | (simp only [List.length_drop, List.length_take, List.length_append, List.length_cons, List.length_nil, List.length_singleton] at *; omega))⟩
            refine WS.op rfl (op_ixS (at2 l) rfl rfl hb) (WS.op rfl rfl ?_)
            refine WS.st1 (M26.focus 0 rfl) [_] [_, _, _, _, _, _, _, _, _, _, _, _, _] rfl rfl rfl rfl rfl (Nat.le_of_ble_eq_true rfl) (Nat.le_of_ble_eq_true rfl) rfl rfl ?_
            intro h29 M30
            replace M30 : Mem _ _ ([(p6, _)] :: [(p1, _)] :: []) _ := M30
            refine WS.nil [(0, _), (2, _), (4, _), (10, _)] rfl ?_
            refine WC.seq ?_
            refine WC.seq ?_
            refine WC.run ?_
            refine WS.op rfl rfl (WS.nil [(0, _), (2, _), (4, _), (10, _), (11, _)] rfl ?_)
            refine WC.block ?_
            refine WC.unroll [(0, _), (2, _), (4, _), (10, _), (11, _)] rfl ?_
            refine WC.seq ?_
            refine WC.seq ?_
            refine WC.run ?_
            refine WS.op rfl rfl (WS.opV (.bool true) rfl rfl rfl (WS.nil [(0, _), (2, _), (4, _), (10, _), (11, _), (66, _)] rfl ?_))
            refine WC.condT rfl ?_
            refine WC.skip ?_
            refine WC.seq ?_
            refine WC.block ?_
            refine WC.run ?_
            refine WS.op rfl rfl (WS.op rfl rfl (WS.op rfl rfl (WS.opV (.int .i64 ((((at2 l) + 1) : Nat) : Int)) rfl rfl (add_i64 (a := (at2 l)) (b := 1) (by omega)) (WS.op rfl rfl (WS.opV (.int .i64 (((((at2 l) + 1) + 0) : Nat) : Int)) rfl rfl (add_i64 (a := ((at2 l) + 1)) (b := 0) (by omega)) ?_)))))
            obtain ⟨c31, hc32⟩ : ∃ c, (l)[(((at2 l) + 1) + 0)]? = some c := ⟨_, List.getElem?_eq_getElem (show (((at2 l) + 1) + 0) < (l).length by first | omega | (simp only [List.length_drop, List.length_take, List.length_append, List.length_cons, List.length_nil, List.length_singleton]; omega) | (simp only [List.length_drop, List.length_take, List.length_append, List.length_cons, List.length_nil, List.length_singleton] at *; omega))⟩
            refine WS.op rfl (op_ixS (((at2 l) + 1) + 0) rfl rfl hc32) (WS.op rfl rfl (WS.op rfl rfl ?_))
            refine WS.st1 (M30.focus 0 rfl) [_] [_, _, _, _, _, _, _, _, _, _, _, _, _] rfl rfl rfl rfl rfl (Nat.le_of_ble_eq_true rfl) (Nat.le_of_ble_eq_true rfl) rfl rfl ?_
            intro h33 M34
            replace M34 : Mem _ _ ([(p6, _)] :: [(p1, _)] :: []) _ := M34
            refine WS.nil [(0, _), (2, _), (4, _), (10, _), (11, _)] rfl ?_
            refine WC.run ?_
            refine WS.op rfl rfl (WS.opV (.int .i64 1) rfl rfl rfl (WS.op rfl rfl (WS.nil [(0, _), (2, _), (4, _), (10, _), (11, _)] rfl ?_)))
            refine WC.unroll [(0, _), (2, _), (4, _), (10, _), (11, _)] rfl ?_
            refine WC.seq ?_
            refine WC.seq ?_
            refine WC.run ?_
            refine WS.op rfl rfl (WS.opV (.bool true) rfl rfl rfl (WS.nil [(0, _), (2, _), (4, _), (10, _), (11, _), (66, _)] rfl ?_))
            refine WC.condT rfl ?_
            refine WC.skip ?_
            refine WC.seq ?_
            refine WC.block ?_
            refine WC.run ?_
            refine WS.op rfl rfl (WS.op rfl rfl (WS.op rfl rfl (WS.opV (.int .i64 ((((at2 l) + 1) : Nat) : Int)) rfl rfl (add_i64 (a := (at2 l)) (b := 1) (by omega)) (WS.op rfl rfl (WS.opV (.int .i64 (((((at2 l) + 1) + 1) : Nat) : Int)) rfl rfl (add_i64 (a := ((at2 l) + 1)) (b := 1) (by omega)) ?_)))))
            obtain ⟨c35, hc36⟩ : ∃ c, (l)[(((at2 l) + 1) + 1)]? = some c := ⟨_, List.getElem?_eq_getElem (show (((at2 l) + 1) + 1) < (l).length by first | omega | (simp only [List.length_drop, List.length_take, List.length_append, List.length_cons, List.length_nil, List.length_singleton]; omega) | (simp only [List.length_drop, List.length_take, List.length_append, List.length_cons, List.length_nil, List.length_singleton] at *; omega))⟩
            refine WS.op rfl (op_ixS (((at2 l) + 1) + 1) rfl rfl hc36) (WS.op rfl rfl (WS.op rfl rfl ?_))
            refine WS.st1 (M34.focus 0 rfl) [_] [_, _, _, _, _, _, _, _, _, _, _, _, _] rfl rfl rfl rfl rfl (Nat.le_of_ble_eq_true rfl) (Nat.le_of_ble_eq_true rfl) rfl rfl ?_
            intro h37 M38
            replace M38 : Mem _ _ ([(p6, _)] :: [(p1, _)] :: []) _ := M38
            refine WS.nil [(0, _), (2, _), (4, _), (10, _), (11, _)] rfl ?_
            refine WC.run ?_
            refine WS.op rfl rfl (WS.opV (.int .i64 2) rfl rfl rfl (WS.op rfl rfl (WS.nil [(0, _), (2, _), (4, _), (10, _), (11, _)] rfl ?_)))
            refine WC.unroll [(0, _), (2, _), (4, _), (10, _), (11, _)] rfl ?_
            refine WC.seq ?_
            refine WC.seq ?_
            refine WC.run ?_
            refine WS.op rfl rfl (WS.opV (.bool true) rfl rfl rfl (WS.nil [(0, _), (2, _), (4, _), (10, _), (11, _), (66, _)] rfl ?_))
            refine WC.condT rfl ?_
            refine WC.skip ?_
            refine WC.seq ?_
            refine WC.block ?_
            refine WC.run ?_
            refine WS.op rfl rfl (WS.op rfl rfl (WS.op rfl rfl (WS.opV (.int .i64 ((((at2 l) + 1) : Nat) : Int)) rfl rfl (add_i64 (a := (at2 l)) (b := 1) (by omega)) (WS.op rfl rfl (WS.opV (.int .i64 (((((at2 l) + 1) + 2) : Nat) : Int)) rfl rfl (add_i64 (a := ((at2 l) + 1)) (b := 2) (by omega)) ?_)))))
            obtain ⟨c39, hc40⟩ : ∃ c, (l)[(((at2 l) + 1) + 2)]? = some c := ⟨_, List.getElem?_eq_getElem (show (((at2 l) + 1) + 2) < (l).length by first | omega | (simp only [List.length_drop, List.length_take, List.length_append, List.length_cons, List.length_nil, List.length_singleton]; omega) | (simp only [List.length_drop, List.length_take, List.length_append, List.length_cons, List.length_nil, List.length_singleton] at *; omega))⟩
            refine WS.op rfl (op_ixS (((at2 l) + 1) + 2) rfl rfl hc40) (WS.op rfl rfl (WS.op rfl rfl ?_))
            refine WS.st1 (M38.focus 0 rfl) [_] [_, _, _, _, _, _, _, _, _, _, _, _, _] rfl rfl rfl rfl rfl (Nat.le_of_ble_eq_true rfl) (Nat.le_of_ble_eq_true rfl) rfl rfl ?_
            intro h41 M42
            replace M42 : Mem _ _ ([(p6, _)] :: [(p1, _)] :: []) _ := M42
            refine WS.nil [(0, _), (2, _), (4, _), (10, _), (11, _)] rfl ?_
            refine WC.run ?_
            refine WS.op rfl rfl (WS.opV (.int .i64 3) rfl rfl rfl (WS.op rfl rfl (WS.nil [(0, _), (2, _), (4, _), (10, _), (11, _)] rfl ?_)))
            refine WC.unroll [(0, _), (2, _), (4, _), (10, _), (11, _)] rfl ?_
            refine WC.seq ?_
            refine WC.seq ?_
            refine WC.run ?_
            refine WS.op rfl rfl (WS.opV (.bool true) rfl rfl rfl (WS.nil [(0, _), (2, _), (4, _), (10, _), (11, _), (66, _)] rfl ?_))
            refine WC.condT rfl ?_
            refine WC.skip ?_
            refine WC.seq ?_
            refine WC.block ?_
            refine WC.run ?_
            refine WS.op rfl rfl (WS.op rfl rfl (WS.op rfl rfl (WS.opV (.int .i64 ((((at2 l) + 1) : Nat) : Int)) rfl rfl (add_i64 (a := (at2 l)) (b := 1) (by omega)) (WS.op rfl rfl (WS.opV (.int .i64 (((((at2 l) + 1) + 3) : Nat) : Int)) rfl rfl (add_i64 (a := ((at2 l) + 1)) (b := 3) (by omega)) ?_)))))
            obtain ⟨c43, hc44⟩ : ∃ c, (l)[(((at2 l) + 1) + 3)]? = some c := ⟨_, List.getElem?_eq_getElem (show (((at2 l) + 1) + 3) < (l).length by first | omega | (simp only [List.length_drop, List.length_take, List.length_append, List.length_cons, List.length_nil, List.length_singleton]; omega) | (simp only [List.length_drop, List.length_take, List.length_append, List.length_cons, List.length_nil, List.length_singleton] at *; omega))⟩
            refine WS.op rfl (op_ixS (((at2 l) + 1) + 3) rfl rfl hc44) (WS.op rfl rfl (WS.op rfl rfl ?_))
            refine WS.st1 (M42.focus 0 rfl) [_] [_, _, _, _, _, _, _, _, _, _, _, _, _] rfl rfl rfl rfl rfl (Nat.le_of_ble_eq_true rfl) (Nat.le_of_ble_eq_true rfl) rfl rfl ?_
            intro h45 M46
            replace M46 : Mem _ _ ([(p6, _)] :: [(p1, _)] :: []) _ := M46
            refine WS.nil [(0, _), (2, _), (4, _), (10, _), (11, _)] rfl ?_
            refine WC.run ?_
            refine WS.op rfl rfl (WS.opV (.int .i64 4) rfl rfl rfl (WS.op rfl rfl (WS.nil [(0, _), (2, _), (4, _), (10, _), (11, _)] rfl ?_)))
            refine WC.unroll [(0, _), (2, _), (4, _), (10, _), (11, _)] rfl ?_
            refine WC.seq ?_
            refine WC.seq ?_
            refine WC.run ?_
            refine WS.op rfl rfl (WS.opV (.bool true) rfl rfl rfl (WS.nil [(0, _), (2, _), (4, _), (10, _), (11, _), (66, _)] rfl ?_))
            refine WC.condT rfl ?_
            refine WC.skip ?_
            refine WC.seq ?_
            refine WC.block ?_
            refine WC.run ?_
            refine WS.op rfl rfl (WS.op rfl rfl (WS.op rfl rfl (WS.opV (.int .i64 ((((at2 l) + 1) : Nat) : Int)) rfl rfl (add_i64 (a := (at2 l)) (b := 1) (by omega)) (WS.op rfl rfl (WS.opV (.int .i64 (((((at2 l) + 1) + 4) : Nat) : Int)) rfl rfl (add_i64 (a := ((at2 l) + 1)) (b := 4) (by omega)) ?_)))))
            obtain ⟨c47, hc48⟩ : ∃ c, (l)[(((at2 l) + 1) + 4)]? = some c := ⟨_, List.getElem?_eq_getElem (show (((at2 l) + 1) + 4) < (l).length by first | omega | (simp only [List.length_drop, List.length_take, List.length_append, List.length_cons, List.length_nil, List.length_singleton]; omega) | (simp only [List.length_drop, List.length_take, List.length_append, List.length_cons, List.length_nil, List.length_singleton] at *; omega))⟩
            refine WS.op rfl (op_ixS (((at2 l) + 1) + 4) rfl rfl hc48) (WS.op rfl rfl (WS.op rfl rfl ?_))
            refine WS.st1 (M46.focus 0 rfl) [_] [_, _, _, _, _, _, _, _, _, _, _, _, _] rfl rfl rfl rfl rfl (Nat.le_of_ble_eq_true rfl) (Nat.le_of_ble_eq_true rfl) rfl rfl ?_
            intro h49 M50
            replace M50 : Mem _ _ ([(p6, _)] :: [(p1, _)] :: []) _ := M50
            refine WS.nil [(0, _), (2, _), (4, _), (10, _), (11, _)] rfl ?_
            refine WC.run ?_
            refine WS.op rfl rfl (WS.opV (.int .i64 5) rfl rfl rfl (WS.op rfl rfl (WS.nil [(0, _), (2, _), (4, _), (10, _), (11, _)] rfl ?_)))
            refine WC.unroll [(0, _), (2, _), (4, _), (10, _), (11, _)] rfl ?_
            refine WC.seq ?_
            refine WC.seq ?_
            refine WC.run ?_
            refine WS.op rfl rfl (WS.opV (.bool true) rfl rfl rfl (WS.nil [(0, _), (2, _), (4, _), (10, _), (11, _), (66, _)] rfl ?_))
            refine WC.condT rfl ?_
            refine WC.skip ?_
            refine WC.seq ?_
            refine WC.block ?_
            refine WC.run ?_
            refine WS.op rfl rfl (WS.op rfl rfl (WS.op rfl rfl (WS.opV (.int .i64 ((((at2 l) + 1) : Nat) : Int)) rfl rfl (add_i64 (a := (at2 l)) (b := 1) (by omega)) (WS.op rfl rfl (WS.opV (.int .i64 (((((at2 l) + 1) + 5) : Nat) : Int)) rfl rfl (add_i64 (a := ((at2 l) + 1)) (b := 5) (by omega)) ?_)))))
            obtain ⟨c51, hc52⟩ : ∃ c, (l)[(((at2 l) + 1) + 5)]? = some c := ⟨_, List.getElem?_eq_getElem (show (((at2 l) + 1) + 5) < (l).length by first | omega | (simp only [List.length_drop, List.length_take, List.length_append, List.length_cons, List.length_nil, List.length_singleton]; omega) | (simp only [List.length_drop, List.length_take, List.length_append, List.length_cons, List.length_nil, List.length_singleton] at *; omega))⟩
            refine WS.op rfl (op_ixS (((at2 l) + 1) + 5) rfl rfl hc52) (WS.op rfl rfl (WS.op rfl rfl ?_))
            refine WS.st1 (M50.focus 0 rfl) [_] [_, _, _, _, _, _, _, _, _, _, _, _, _] rfl rfl rfl rfl rfl (Nat.le_of_ble_eq_true rfl) (Nat.le_of_ble_eq_true rfl) rfl rfl ?_
            intro h53 M54
            replace M54 : Mem _ _ ([(p6, _)] :: [(p1, _)] :: []) _ := M54
            refine WS.nil [(0, _), (2, _), (4, _), (10, _), (11, _)] rfl ?_
            refine WC.run ?_
            refine WS.op rfl rfl (WS.opV (.int .i64 6) rfl rfl rfl (WS.op rfl rfl (WS.nil [(0, _), (2, _), (4, _), (10, _), (11, _)] rfl ?_)))
            refine WC.unroll [(0, _), (2, _), (4, _), (10, _), (11, _)] rfl ?_
            refine WC.seq ?_
            refine WC.seq ?_
            refine WC.run ?_
            refine WS.op rfl rfl (WS.opV (.bool true) rfl rfl rfl (WS.nil [(0, _), (2, _), (4, _), (10, _), (11, _), (66, _)] rfl ?_))
            refine WC.condT rfl ?_
            refine WC.skip ?_
            refine WC.seq ?_
            refine WC.block ?_
            refine WC.run ?_
            refine WS.op rfl rfl (WS.op rfl rfl (WS.op rfl rfl (WS.opV (.int .i64 ((((at2 l) + 1) : Nat) : Int)) rfl rfl (add_i64 (a := (at2 l)) (b := 1) (by omega)) (WS.op rfl rfl (WS.opV (.int .i64 (((((at2 l) + 1) + 6) : Nat) : Int)) rfl rfl (add_i64 (a := ((at2 l) + 1)) (b := 6) (by omega)) ?_)))))
            obtain ⟨c55, hc56⟩ : ∃ c, (l)[(((at2 l) + 1) + 6)]? = some c := ⟨_, List.getElem?_eq_getElem (show (((at2 l) + 1) + 6) < (l).length by first | omega | (simp only [List.length_drop, List.length_take, List.length_append, List.length_cons, List.length_nil, List.length_singleton]; omega) | (simp only [List.length_drop, List.length_take, List.length_append, List.length_cons, List.length_nil, List.length_singleton] at *; omega))⟩
            refine WS.op rfl (op_ixS (((at2 l) + 1) + 6) rfl rfl hc56) (WS.op rfl rfl (WS.op rfl rfl ?_))
            refine WS.st1 (M54.focus 0 rfl) [_] [_, _, _, _, _, _, _, _, _, _, _, _, _] rfl rfl rfl rfl rfl (Nat.le_of_ble_eq_true rfl) (Nat.le_of_ble_eq_true rfl) rfl rfl ?_
            intro h57 M58
            replace M58 : Mem _ _ ([(p6, _)] :: [(p1, _)] :: []) _ := M58
            refine WS.nil [(0, _), (2, _), (4, _), (10, _), (11, _)] rfl ?_
            refine WC.run ?_
            refine WS.op rfl rfl (WS.opV (.int .i64 7) rfl rfl rfl (WS.op rfl rfl (WS.nil [(0, _), (2, _), (4, _), (10, _), (11, _)] rfl ?_)))
            refine WC.unroll [(0, _), (2, _), (4, _), (10, _), (11, _)] rfl ?_
            refine WC.seq ?_
            refine WC.seq ?_
            refine WC.run ?_
            refine WS.op rfl rfl (WS.opV (.bool true) rfl rfl rfl (WS.nil [(0, _), (2, _), (4, _), (10, _), (11, _), (66, _)] rfl ?_))
            refine WC.condT rfl ?_
            refine WC.skip ?_
            refine WC.seq ?_
            refine WC.block ?_
            refine WC.run ?_
            refine WS.op rfl rfl (WS.op rfl rfl (WS.op rfl rfl (WS.opV (.int .i64 ((((at2 l) + 1) : Nat) : Int)) rfl rfl (add_i64 (a := (at2 l)) (b := 1) (by omega)) (WS.op rfl rfl (WS.opV (.int .i64 (((((at2 l) + 1) + 7) : Nat) : Int)) rfl rfl (add_i64 (a := ((at2 l) + 1)) (b := 7) (by omega)) ?_)))))
            obtain ⟨c59, hc60⟩ : ∃ c, (l)[(((at2 l) + 1) + 7)]? = some c := ⟨_, List.getElem?_eq_getElem (show (((at2 l) + 1) + 7) < (l).length by first | omega | (simp only [List.length_drop, List.length_take, List.length_append, List.length_cons, List.length_nil, List.length_singleton]; omega) | (simp only [List.length_drop, List.length_take, List.length_append, List.length_cons, List.length_nil, List.length_singleton] at *; omega))⟩
            refine WS.op rfl (op_ixS (((at2 l) + 1) + 7) rfl rfl hc60) (WS.op rfl rfl (WS.op rfl rfl ?_))
            refine WS.st1 (M58.focus 0 rfl) [_] [_, _, _, _, _, _, _, _, _, _, _, _, _] rfl rfl rfl rfl rfl (Nat.le_of_ble_eq_true rfl) (Nat.le_of_ble_eq_true rfl) rfl rfl ?_
            intro h61 M62
            replace M62 : Mem _ _ ([(p6, _)] :: [(p1, _)] :: []) _ := M62
            refine WS.nil [(0, _), (2, _), (4, _), (10, _), (11, _)] rfl ?_
            refine WC.run ?_
            refine WS.op rfl rfl (WS.opV (.int .i64 8) rfl rfl rfl (WS.op rfl rfl (WS.nil [(0, _), (2, _), (4, _), (10, _), (11, _)] rfl ?_)))
            refine WC.unroll [(0, _), (2, _), (4, _), (10, _), (11, _)] rfl ?_
            refine WC.seq ?_
            refine WC.seq ?_
            refine WC.run ?_
            refine WS.op rfl rfl (WS.opV (.bool false) rfl rfl rfl (WS.nil [(0, _), (2, _), (4, _), (10, _), (11, _), (66, _)] rfl ?_))
            refine WC.condF rfl ?_
            refine WC.exit ?_
            refine WC.run ?_
            refine WS.op rfl rfl (WS.opV (.int .i64 ((((at2 l) + 9) : Nat) : Int)) rfl rfl (add_i64 (a := (at2 l)) (b := 9) (by omega)) (WS.op rfl rfl (WS.nil [(0, _), (2, _), (4, _), (10, _)] rfl ?_)))
            refine WC.seq ?_
            refine WC.seq ?_
            refine WC.run ?_
            refine WS.op rfl rfl (WS.op rfl (op_ld (M62.at 0 rfl) rfl rfl) ?_)
            refine WS.geqN (a := (c).toNat) (b := 2) rfl rfl rfl (fun e82 => ?_) (fun e82 => ?_)
            · skip
              refine WS.op rfl rfl (WS.op rfl rfl (WS.op rfl (op_ld (M62.at 0 rfl) rfl rfl) ?_))
              refine WS.leqN (a := (c).toNat) (b := 4) rfl rfl rfl (fun e86 => ?_) (fun e86 => ?_)
              · skip
                refine WS.op rfl rfl (WS.nil [(0, _), (2, _), (4, _), (10, _), (87, _)] rfl ?_)
                refine WC.condT rfl ?_
                refine WC.seq ?_
                refine WC.run ?_
                refine WS.op rfl rfl (WS.op rfl rfl (WS.opV (.string (bs ((l).drop ((at2 l) + 9)))) rfl (op_slS0 (l := l) ((at2 l) + 9) rfl rfl (by first | omega | (simp only [List.length_drop, List.length_take, List.length_append, List.length_cons, List.length_nil, List.length_singleton]; omega) | (simp only [List.length_drop, List.length_take, List.length_append, List.length_cons, List.length_nil, List.length_singleton] at *; omega))) rfl ?_))
                refine WS.call rfl rfl rfl (ref_ReadS_ran M62.here (l := ((l).drop ((at2 l) + 9))) (by first | omega | (simp only [List.length_drop, List.length_take, List.length_append, List.length_cons, List.length_nil, List.length_singleton]; omega) | (simp only [List.length_drop, List.length_take, List.length_append, List.length_cons, List.length_nil, List.length_singleton] at *; omega))) ?_
                rintro _ h63 ⟨rfl, N64⟩
                have M65 := M62.trans N64
                refine WS.op rfl rfl (WS.op rfl rfl (WS.op rfl rfl (WS.op rfl rfl (WS.op rfl rfl (WS.op rfl rfl (WS.op rfl rfl (WS.nil [(0, _), (2, _), (4, _), (10, _), (12, _), (13, _), (14, _)] rfl ?_)))))))
                refine WC.seq ?_
                refine WC.seq ?_
                refine WC.run ?_
                refine WS.op rfl rfl ?_
                cases hb3 : (rsOK ((l).drop ((at2 l) + 9)))
                · skip
                  refine WS.opV (.bool true) rfl rfl rfl (WS.nil [(0, _), (2, _), (4, _), (10, _), (12, _), (13, _), (97, _)] rfl ?_)
                  refine WC.condT rfl ?_
                  refine WC.seq ?_
                  refine WC.run ?_
                  refine WS.opV (.agg #[(.int .u64 (0 : Int)), (.int .u64 (0 : Int)), (.int .u8 (0 : Int)), (.int .u8 (0 : Int)), (.int .u8 (0 : Int)), (.int .u8 (0 : Int)), (.int .u8 (0 : Int)), (.int .u8 (0 : Int)), (.int .u8 (0 : Int)), (.int .u8 (0 : Int)), (.int .u8 (0 : Int)), (.int .u8 (0 : Int)), (.string (bs ([])))]) rfl rfl rfl ?_
                  refine WS.st1 (M65.focus 1 rfl) [_, _, _, _, _, _, _, _, _, _, _, _, _] [_, _, _, _, _, _, _, _, _, _, _, _, _] rfl rfl rfl rfl rfl (Nat.le_of_ble_eq_true rfl) (Nat.le_of_ble_eq_true rfl) rfl rfl ?_
                  intro h67 M68
                  replace M68 : Mem _ _ ([(p1, _)] :: [(p6, _)] :: []) _ := M68
                  refine WS.op rfl rfl (WS.nil [(2, _), (3, _)] rfl ?_)
                  refine WC.ret ?_
                  refine ⟨[_, _], (res_cellN [_, _, _, _, _, _, _, _, _, _, _, _, _] rfl (M68.at 0 rfl) (Nat.le_of_ble_eq_true rfl) rfl (res_tmp rfl res_nil)), ?_⟩
                  by_cases hc15 : c.toNat = 1 ∨ c.toNat = 5 <;> first | (exfalso; omega) | exact ⟨by rw [rdV_none (by first | exact no_short (by omega) | exact no_v1 (by assumption) | exact no_v2 (by assumption) | exact no_tail3 hc e54 (by omega) | exact no_text3 hc e54 (by omega) (.inl (by assumption)) | exact no_text3 hc e54 (by omega) (.inr (by assumption)) | exact no_text hc (by omega) (by omega) (.inl (by assumption)) | exact no_text hc (by omega) (by omega) (.inr (by assumption)) | exact no_end hc (by omega) (by omega) (by assumption) | exact no_kind hc (by omega) | exact no_right (E := (⟨(UInt64.ofNat (rvN ((l).drop 1))), (UInt64.ofNat (rvN (rest1 l))), c, b, c31, c35, c39, c43, c47, c51, c55, c59, ([])⟩ : Ent)) (by first | exact enc3_of hc e54 (by assumption) (by assumption) hb hc32 hc36 hc40 hc44 hc48 hc52 hc56 hc60 (by assumption) (by assumption) | exact enc24_of hc (by omega) (by assumption) (by assumption) (by assumption) (by assumption) | exact enc15_of hc (by omega) (by assumption) (by assumption) (by assumption)) (by omega) (by first | (show (rsT _).length < _; first | exact Nat.lt_of_le_of_lt ht1 (by omega) | exact Nat.lt_of_le_of_lt ht2 (by omega)) | simp) (by assumption) (fun q => by first | exact absurd e54 q | exact plain0 _ _ _ _) (fun q => by first | rfl | (exfalso; simp only at q; omega)))]; rfl, M68.bare.take 0⟩
                · skip
                  refine WS.opV (.bool false) rfl rfl rfl (WS.nil [(0, _), (2, _), (4, _), (10, _), (12, _), (13, _), (97, _)] rfl ?_)
                  refine WC.condF rfl ?_
                  refine WC.skip ?_
                  refine WC.seq ?_
                  refine WC.run ?_
                  refine WS.op rfl rfl (WS.op rfl rfl ?_)
                  refine WS.st1 (M65.focus 0 rfl) [_] [_, _, _, _, _, _, _, _, _, _, _, _, _] rfl rfl rfl rfl rfl (Nat.le_of_ble_eq_true rfl) (Nat.le_of_ble_eq_true rfl) rfl rfl ?_
                  intro h69 M70
                  replace M70 : Mem _ _ ([(p6, _)] :: [(p1, _)] :: []) _ := M70
                  refine WS.nil [(0, _), (2, _), (4, _), (10, _), (13, _)] rfl ?_
                  refine WC.run ?_
                  refine WS.op rfl rfl (WS.op rfl rfl (WS.opV (.int .i64 (((((at2 l) + 9) + (rsK ((l).drop ((at2 l) + 9)))) : Nat) : Int)) rfl rfl (add_i64 (a := ((at2 l) + 9)) (b := (rsK ((l).drop ((at2 l) + 9)))) (by have := rsK_le ((l).drop ((at2 l) + 9)); omega)) (WS.op rfl rfl (WS.nil [(0, _), (2, _), (4, _), (10, _)] rfl ?_))))
                  refine WC.seq ?_
                  refine WC.seq ?_
                  refine WC.run ?_
                  refine WS.op rfl rfl (WS.op rfl rfl (WS.op rfl (op_lenS (l := l) rfl) ?_))
                  refine WS.neqN (a := (((at2 l) + 9) + (rsK ((l).drop ((at2 l) + 9))))) (b := (l).length) rfl rfl rfl (fun e107 => ?_) (fun e107 => ?_)
                  · skip
                    refine WS.op rfl rfl (WS.off rfl (WS.offC rfl (WS.off rfl (WS.op rfl rfl (WS.nil [(2, _), (4, _), (112, _)] rfl ?_)))))
                    refine WC.condT rfl ?_
                    refine WC.seq ?_
                    refine WC.run ?_
                    refine WS.opV (.agg #[(.int .u64 (0 : Int)), (.int .u64 (0 : Int)), (.int .u8 (0 : Int)), (.int .u8 (0 : Int)), (.int .u8 (0 : Int)), (.int .u8 (0 : Int)), (.int .u8 (0 : Int)), (.int .u8 (0 : Int)), (.int .u8 (0 : Int)), (.int .u8 (0 : Int)), (.int .u8 (0 : Int)), (.int .u8 (0 : Int)), (.string (bs ([])))]) rfl rfl rfl ?_
                    refine WS.st1 (M70.focus 1 rfl) [_, _, _, _, _, _, _, _, _, _, _, _, _] [_, _, _, _, _, _, _, _, _, _, _, _, _] rfl rfl rfl rfl rfl (Nat.le_of_ble_eq_true rfl) (Nat.le_of_ble_eq_true rfl) rfl rfl ?_
                    intro h71 M72
                    replace M72 : Mem _ _ ([(p1, _)] :: [(p6, _)] :: []) _ := M72
                    refine WS.op rfl rfl (WS.nil [(2, _), (3, _)] rfl ?_)
                    refine WC.ret ?_
                    refine ⟨[_, _], (res_cellN [_, _, _, _, _, _, _, _, _, _, _, _, _] rfl (M72.at 0 rfl) (Nat.le_of_ble_eq_true rfl) rfl (res_tmp rfl res_nil)), ?_⟩
                    by_cases hc15 : c.toNat = 1 ∨ c.toNat = 5 <;> first | (exfalso; omega) | exact ⟨by rw [rdV_none (by first | exact no_short (by omega) | exact no_v1 (by assumption) | exact no_v2 (by assumption) | exact no_tail3 hc e54 (by omega) | exact no_text3 hc e54 (by omega) (.inl (by assumption)) | exact no_text3 hc e54 (by omega) (.inr (by assumption)) | exact no_text hc (by omega) (by omega) (.inl (by assumption)) | exact no_text hc (by omega) (by omega) (.inr (by assumption)) | exact no_end hc (by omega) (by omega) (by assumption) | exact no_kind hc (by omega) | exact no_right (E := (⟨(UInt64.ofNat (rvN ((l).drop 1))), (UInt64.ofNat (rvN (rest1 l))), c, b, c31, c35, c39, c43, c47, c51, c55, c59, (rsT ((l).drop ((at2 l) + 9)))⟩ : Ent)) (by first | exact enc3_of hc e54 (by assumption) (by assumption) hb hc32 hc36 hc40 hc44 hc48 hc52 hc56 hc60 (by assumption) (by assumption) | exact enc24_of hc (by omega) (by assumption) (by assumption) (by assumption) (by assumption) | exact enc15_of hc (by omega) (by assumption) (by assumption) (by assumption)) (by omega) (by first | (show (rsT _).length < _; first | exact Nat.lt_of_le_of_lt ht1 (by omega) | exact Nat.lt_of_le_of_lt ht2 (by omega)) | simp) (by assumption) (fun q => by first | exact absurd e54 q | exact plain0 _ _ _ _) (fun q => by first | rfl | (exfalso; simp only at q; omega)))]; rfl, M72.bare.take 0⟩
                  · skip
                    refine WS.op rfl rfl (WS.op rfl (op_lds [_, _, _, _, _, _, _, _, _, _, _, _, _] (M70.at 0 rfl) rfl (Nat.le_of_ble_eq_true rfl) rfl) ?_)
                    refine WS.call rfl rfl rfl (ref4_Right_ran M70.here (e := (⟨(UInt64.ofNat (rvN ((l).drop 1))), (UInt64.ofNat (rvN (rest1 l))), c, b, c31, c35, c39, c43, c47, c51, c55, c59, (rsT ((l).drop ((at2 l) + 9)))⟩ : Ent)) (by first | (show (rsT _).length ≤ _; first | exact Nat.le_trans ht1 (by omega) | exact Nat.le_trans ht2 (by omega)) | simp)) ?_
                    rintro _ h73 ⟨rfl, N74⟩
                    have M75 := M70.trans N74
                    cases hb4 : (rightB (⟨(UInt64.ofNat (rvN ((l).drop 1))), (UInt64.ofNat (rvN (rest1 l))), c, b, c31, c35, c39, c43, c47, c51, c55, c59, (rsT ((l).drop ((at2 l) + 9)))⟩ : Ent))
                    · skip
                      refine WS.opV (.bool true) rfl rfl rfl (WS.op rfl rfl (WS.nil [(2, _), (4, _), (112, _)] rfl ?_))
                      refine WC.condT rfl ?_
                      refine WC.seq ?_
                      refine WC.run ?_
                      refine WS.opV (.agg #[(.int .u64 (0 : Int)), (.int .u64 (0 : Int)), (.int .u8 (0 : Int)), (.int .u8 (0 : Int)), (.int .u8 (0 : Int)), (.int .u8 (0 : Int)), (.int .u8 (0 : Int)), (.int .u8 (0 : Int)), (.int .u8 (0 : Int)), (.int .u8 (0 : Int)), (.int .u8 (0 : Int)), (.int .u8 (0 : Int)), (.string (bs ([])))]) rfl rfl rfl ?_
                      refine WS.st1 (M75.focus 1 rfl) [_, _, _, _, _, _, _, _, _, _, _, _, _] [_, _, _, _, _, _, _, _, _, _, _, _, _] rfl rfl rfl rfl rfl (Nat.le_of_ble_eq_true rfl) (Nat.le_of_ble_eq_true rfl) rfl rfl ?_
                      intro h76 M77
                      replace M77 : Mem _ _ ([(p1, _)] :: [(p6, _)] :: []) _ := M77
                      refine WS.op rfl rfl (WS.nil [(2, _), (3, _)] rfl ?_)
                      refine WC.ret ?_
                      refine ⟨[_, _], (res_cellN [_, _, _, _, _, _, _, _, _, _, _, _, _] rfl (M77.at 0 rfl) (Nat.le_of_ble_eq_true rfl) rfl (res_tmp rfl res_nil)), ?_⟩
                      by_cases hc15 : c.toNat = 1 ∨ c.toNat = 5 <;> first | (exfalso; omega) | exact ⟨by rw [rdV_none (by first | exact no_short (by omega) | exact no_v1 (by assumption) | exact no_v2 (by assumption) | exact no_tail3 hc e54 (by omega) | exact no_text3 hc e54 (by omega) (.inl (by assumption)) | exact no_text3 hc e54 (by omega) (.inr (by assumption)) | exact no_text hc (by omega) (by omega) (.inl (by assumption)) | exact no_text hc (by omega) (by omega) (.inr (by assumption)) | exact no_end hc (by omega) (by omega) (by assumption) | exact no_kind hc (by omega) | exact no_right (E := (⟨(UInt64.ofNat (rvN ((l).drop 1))), (UInt64.ofNat (rvN (rest1 l))), c, b, c31, c35, c39, c43, c47, c51, c55, c59, (rsT ((l).drop ((at2 l) + 9)))⟩ : Ent)) (by first | exact enc3_of hc e54 (by assumption) (by assumption) hb hc32 hc36 hc40 hc44 hc48 hc52 hc56 hc60 (by assumption) (by assumption) | exact enc24_of hc (by omega) (by assumption) (by assumption) (by assumption) (by assumption) | exact enc15_of hc (by omega) (by assumption) (by assumption) (by assumption)) (by omega) (by first | (show (rsT _).length < _; first | exact Nat.lt_of_le_of_lt ht1 (by omega) | exact Nat.lt_of_le_of_lt ht2 (by omega)) | simp) (by assumption) (fun q => by first | exact absurd e54 q | exact plain0 _ _ _ _) (fun q => by first | rfl | (exfalso; simp only at q; omega)))]; rfl, M77.bare.take 0⟩
                    · skip
                      refine WS.opV (.bool false) rfl rfl rfl (WS.op rfl rfl (WS.nil [(2, _), (4, _), (112, _)] rfl ?_))
                      refine WC.condF rfl ?_
                      refine WC.skip ?_
                      refine WC.seq ?_
                      refine WC.run ?_
                      refine WS.op rfl (op_lds [_, _, _, _, _, _, _, _, _, _, _, _, _] (M75.at 0 rfl) rfl (Nat.le_of_ble_eq_true rfl) rfl) ?_
                      refine WS.st1 (M75.focus 1 rfl) [_, _, _, _, _, _, _, _, _, _, _, _, _] [_, _, _, _, _, _, _, _, _, _, _, _, _] rfl rfl rfl rfl rfl (Nat.le_of_ble_eq_true rfl) (Nat.le_of_ble_eq_true rfl) rfl rfl ?_
                      intro h78 M79
                      replace M79 : Mem _ _ ([(p1, _)] :: [(p6, _)] :: []) _ := M79
                      refine WS.op rfl rfl (WS.nil [(2, _), (3, _)] rfl ?_)
                      refine WC.ret ?_
                      refine ⟨[_, _], (res_cellN [_, _, _, _, _, _, _, _, _, _, _, _, _] rfl (M79.at 0 rfl) (Nat.le_of_ble_eq_true rfl) rfl (res_tmp rfl res_nil)), ?_⟩
                      by_cases hc15 : c.toNat = 1 ∨ c.toNat = 5 <;> first | (exfalso; omega) | (exfalso; have hr5 := right_kinds (rightB_iff.1 (by assumption)); simp only at hr5; omega) | exact ⟨by rw [rdV_some (e := (⟨(UInt64.ofNat (rvN ((l).drop 1))), (UInt64.ofNat (rvN (rest1 l))), c, b, c31, c35, c39, c43, c47, c51, c55, c59, (rsT ((l).drop ((at2 l) + 9)))⟩ : Ent)) (by omega) (rightB_iff.1 (by assumption)) (by first | exact enc3_of hc e54 (by assumption) (by assumption) hb hc32 hc36 hc40 hc44 hc48 hc52 hc56 hc60 (by assumption) (by assumption) | exact enc24_of hc (by omega) (by assumption) (by assumption) (by assumption) (by assumption) | exact enc15_of hc (by omega) (by assumption) (by assumption) (by assumption))]; rfl, M79.bare.take 0⟩
              · skip
                refine WS.op rfl rfl (WS.nil [(0, _), (2, _), (4, _), (10, _), (87, _)] rfl ?_)
                refine WC.condF rfl ?_
                refine WC.skip ?_
                refine WC.seq ?_
                refine WC.seq ?_
                refine WC.run ?_
                refine WS.op rfl rfl (WS.op rfl rfl (WS.op rfl (op_lenS (l := l) rfl) ?_))
                refine WS.neqN (a := ((at2 l) + 9)) (b := (l).length) rfl rfl rfl (fun e107 => ?_) (fun e107 => ?_)
                · skip
                  refine WS.op rfl rfl (WS.off rfl (WS.offC rfl (WS.off rfl (WS.op rfl rfl (WS.nil [(2, _), (4, _), (112, _)] rfl ?_)))))
                  refine WC.condT rfl ?_
                  refine WC.seq ?_
                  refine WC.run ?_
                  refine WS.opV (.agg #[(.int .u64 (0 : Int)), (.int .u64 (0 : Int)), (.int .u8 (0 : Int)), (.int .u8 (0 : Int)), (.int .u8 (0 : Int)), (.int .u8 (0 : Int)), (.int .u8 (0 : Int)), (.int .u8 (0 : Int)), (.int .u8 (0 : Int)), (.int .u8 (0 : Int)), (.int .u8 (0 : Int)), (.int .u8 (0 : Int)), (.string (bs ([])))]) rfl rfl rfl ?_
                  refine WS.st1 (M62.focus 1 rfl) [_, _, _, _, _, _, _, _, _, _, _, _, _] [_, _, _, _, _, _, _, _, _, _, _, _, _] rfl rfl rfl rfl rfl (Nat.le_of_ble_eq_true rfl) (Nat.le_of_ble_eq_true rfl) rfl rfl ?_
                  intro h80 M81
                  replace M81 : Mem _ _ ([(p1, _)] :: [(p6, _)] :: []) _ := M81
                  refine WS.op rfl rfl (WS.nil [(2, _), (3, _)] rfl ?_)
                  refine WC.ret ?_
                  refine ⟨[_, _], (res_cellN [_, _, _, _, _, _, _, _, _, _, _, _, _] rfl (M81.at 0 rfl) (Nat.le_of_ble_eq_true rfl) rfl (res_tmp rfl res_nil)), ?_⟩
                  by_cases hc15 : c.toNat = 1 ∨ c.toNat = 5 <;> first | (exfalso; omega) | exact ⟨by rw [rdV_none (by first | exact no_short (by omega) | exact no_v1 (by assumption) | exact no_v2 (by assumption) | exact no_tail3 hc e54 (by omega) | exact no_text3 hc e54 (by omega) (.inl (by assumption)) | exact no_text3 hc e54 (by omega) (.inr (by assumption)) | exact no_text hc (by omega) (by omega) (.inl (by assumption)) | exact no_text hc (by omega) (by omega) (.inr (by assumption)) | exact no_end hc (by omega) (by omega) (by assumption) | exact no_kind hc (by omega) | exact no_right (E := (⟨(UInt64.ofNat (rvN ((l).drop 1))), (UInt64.ofNat (rvN (rest1 l))), c, b, c31, c35, c39, c43, c47, c51, c55, c59, ([])⟩ : Ent)) (by first | exact enc3_of hc e54 (by assumption) (by assumption) hb hc32 hc36 hc40 hc44 hc48 hc52 hc56 hc60 (by assumption) (by assumption) | exact enc24_of hc (by omega) (by assumption) (by assumption) (by assumption) (by assumption) | exact enc15_of hc (by omega) (by assumption) (by assumption) (by assumption)) (by omega) (by first | (show (rsT _).length < _; first | exact Nat.lt_of_le_of_lt ht1 (by omega) | exact Nat.lt_of_le_of_lt ht2 (by omega)) | simp) (by assumption) (fun q => by first | exact absurd e54 q | exact plain0 _ _ _ _) (fun q => by first | rfl | (exfalso; simp only at q; omega)))]; rfl, M81.bare.take 0⟩
                · skip
                  refine WS.op rfl rfl (WS.op rfl (op_lds [_, _, _, _, _, _, _, _, _, _, _, _, _] (M62.at 0 rfl) rfl (Nat.le_of_ble_eq_true rfl) rfl) ?_)
                  refine WS.call rfl rfl rfl (ref4_Right_ran M62.here (e := (⟨(UInt64.ofNat (rvN ((l).drop 1))), (UInt64.ofNat (rvN (rest1 l))), c, b, c31, c35, c39, c43, c47, c51, c55, c59, ([])⟩ : Ent)) (by first | (show (rsT _).length ≤ _; first | exact Nat.le_trans ht1 (by omega) | exact Nat.le_trans ht2 (by omega)) | simp)) ?_
                  rintro _ h82 ⟨rfl, N83⟩
                  have M84 := M62.trans N83
                  cases hb5 : (rightB (⟨(UInt64.ofNat (rvN ((l).drop 1))), (UInt64.ofNat (rvN (rest1 l))), c, b, c31, c35, c39, c43, c47, c51, c55, c59, ([])⟩ : Ent))
                  · skip
                    refine WS.opV (.bool true) rfl rfl rfl (WS.op rfl rfl (WS.nil [(2, _), (4, _), (112, _)] rfl ?_))
                    refine WC.condT rfl ?_
                    refine WC.seq ?_
                    refine WC.run ?_
                    refine WS.opV (.agg #[(.int .u64 (0 : Int)), (.int .u64 (0 : Int)), (.int .u8 (0 : Int)), (.int .u8 (0 : Int)), (.int .u8 (0 : Int)), (.int .u8 (0 : Int)), (.int .u8 (0 : Int)), (.int .u8 (0 : Int)), (.int .u8 (0 : Int)), (.int .u8 (0 : Int)), (.int .u8 (0 : Int)), (.int .u8 (0 : Int)), (.string (bs ([])))]) rfl rfl rfl ?_
                    refine WS.st1 (M84.focus 1 rfl) [_, _, _, _, _, _, _, _, _, _, _, _, _] [_, _, _, _, _, _, _, _, _, _, _, _, _] rfl rfl rfl rfl rfl (Nat.le_of_ble_eq_true rfl) (Nat.le_of_ble_eq_true rfl) rfl rfl ?_
                    intro h85 M86
                    replace M86 : Mem _ _ ([(p1, _)] :: [(p6, _)] :: []) _ := M86
                    refine WS.op rfl rfl (WS.nil [(2, _), (3, _)] rfl ?_)
                    refine WC.ret ?_
                    refine ⟨[_, _], (res_cellN [_, _, _, _, _, _, _, _, _, _, _, _, _] rfl (M86.at 0 rfl) (Nat.le_of_ble_eq_true rfl) rfl (res_tmp rfl res_nil)), ?_⟩
                    by_cases hc15 : c.toNat = 1 ∨ c.toNat = 5 <;> first | (exfalso; omega) | exact ⟨by rw [rdV_none (by first | exact no_short (by omega) | exact no_v1 (by assumption) | exact no_v2 (by assumption) | exact no_tail3 hc e54 (by omega) | exact no_text3 hc e54 (by omega) (.inl (by assumption)) | exact no_text3 hc e54 (by omega) (.inr (by assumption)) | exact no_text hc (by omega) (by omega) (.inl (by assumption)) | exact no_text hc (by omega) (by omega) (.inr (by assumption)) | exact no_end hc (by omega) (by omega) (by assumption) | exact no_kind hc (by omega) | exact no_right (E := (⟨(UInt64.ofNat (rvN ((l).drop 1))), (UInt64.ofNat (rvN (rest1 l))), c, b, c31, c35, c39, c43, c47, c51, c55, c59, ([])⟩ : Ent)) (by first | exact enc3_of hc e54 (by assumption) (by assumption) hb hc32 hc36 hc40 hc44 hc48 hc52 hc56 hc60 (by assumption) (by assumption) | exact enc24_of hc (by omega) (by assumption) (by assumption) (by assumption) (by assumption) | exact enc15_of hc (by omega) (by assumption) (by assumption) (by assumption)) (by omega) (by first | (show (rsT _).length < _; first | exact Nat.lt_of_le_of_lt ht1 (by omega) | exact Nat.lt_of_le_of_lt ht2 (by omega)) | simp) (by assumption) (fun q => by first | exact absurd e54 q | exact plain0 _ _ _ _) (fun q => by first | rfl | (exfalso; simp only at q; omega)))]; rfl, M86.bare.take 0⟩
                  · skip
                    refine WS.opV (.bool false) rfl rfl rfl (WS.op rfl rfl (WS.nil [(2, _), (4, _), (112, _)] rfl ?_))
                    refine WC.condF rfl ?_
                    refine WC.skip ?_
                    refine WC.seq ?_
                    refine WC.run ?_
                    refine WS.op rfl (op_lds [_, _, _, _, _, _, _, _, _, _, _, _, _] (M84.at 0 rfl) rfl (Nat.le_of_ble_eq_true rfl) rfl) ?_
                    refine WS.st1 (M84.focus 1 rfl) [_, _, _, _, _, _, _, _, _, _, _, _, _] [_, _, _, _, _, _, _, _, _, _, _, _, _] rfl rfl rfl rfl rfl (Nat.le_of_ble_eq_true rfl) (Nat.le_of_ble_eq_true rfl) rfl rfl ?_
                    intro h87 M88
                    replace M88 : Mem _ _ ([(p1, _)] :: [(p6, _)] :: []) _ := M88
                    refine WS.op rfl rfl (WS.nil [(2, _), (3, _)] rfl ?_)
                    refine WC.ret ?_
                    refine ⟨[_, _], (res_cellN [_, _, _, _, _, _, _, _, _, _, _, _, _] rfl (M88.at 0 rfl) (Nat.le_of_ble_eq_true rfl) rfl (res_tmp rfl res_nil)), ?_⟩
                    by_cases hc15 : c.toNat = 1 ∨ c.toNat = 5 <;> first | (exfalso; omega) | (exfalso; have hr5 := right_kinds (rightB_iff.1 (by assumption)); simp only at hr5; omega) | exact ⟨by rw [rdV_some (e := (⟨(UInt64.ofNat (rvN ((l).drop 1))), (UInt64.ofNat (rvN (rest1 l))), c, b, c31, c35, c39, c43, c47, c51, c55, c59, ([])⟩ : Ent)) (by omega) (rightB_iff.1 (by assumption)) (by first | exact enc3_of hc e54 (by assumption) (by assumption) hb hc32 hc36 hc40 hc44 hc48 hc52 hc56 hc60 (by assumption) (by assumption) | exact enc24_of hc (by omega) (by assumption) (by assumption) (by assumption) (by assumption) | exact enc15_of hc (by omega) (by assumption) (by assumption) (by assumption))]; rfl, M88.bare.take 0⟩
            · skip
              refine WS.op rfl rfl (WS.off rfl (WS.off rfl (WS.off rfl (WS.op rfl rfl (WS.nil [(0, _), (2, _), (4, _), (10, _), (87, _)] rfl ?_)))))
              refine WC.condF rfl ?_
              refine WC.skip ?_
              refine WC.seq ?_
              refine WC.seq ?_
              refine WC.run ?_
              refine WS.op rfl rfl (WS.op rfl rfl (WS.op rfl (op_lenS (l := l) rfl) ?_))
              refine WS.neqN (a := ((at2 l) + 9)) (b := (l).length) rfl rfl rfl (fun e107 => ?_) (fun e107 => ?_)
              · skip
                refine WS.op rfl rfl (WS.off rfl (WS.offC rfl (WS.off rfl (WS.op rfl rfl (WS.nil [(2, _), (4, _), (112, _)] rfl ?_)))))
                refine WC.condT rfl ?_
                refine WC.seq ?_
                refine WC.run ?_
                refine WS.opV (.agg #[(.int .u64 (0 : Int)), (.int .u64 (0 : Int)), (.int .u8 (0 : Int)), (.int .u8 (0 : Int)), (.int .u8 (0 : Int)), (.int .u8 (0 : Int)), (.int .u8 (0 : Int)), (.int .u8 (0 : Int)), (.int .u8 (0 : Int)), (.int .u8 (0 : Int)), (.int .u8 (0 : Int)), (.int .u8 (0 : Int)), (.string (bs ([])))]) rfl rfl rfl ?_
                refine WS.st1 (M62.focus 1 rfl) [_, _, _, _, _, _, _, _, _, _, _, _, _] [_, _, _, _, _, _, _, _, _, _, _, _, _] rfl rfl rfl rfl rfl (Nat.le_of_ble_eq_true rfl) (Nat.le_of_ble_eq_true rfl) rfl rfl ?_
                intro h89 M90
                replace M90 : Mem _ _ ([(p1, _)] :: [(p6, _)] :: []) _ := M90
                refine WS.op rfl rfl (WS.nil [(2, _), (3, _)] rfl ?_)
                refine WC.ret ?_
                refine ⟨[_, _], (res_cellN [_, _, _, _, _, _, _, _, _, _, _, _, _] rfl (M90.at 0 rfl) (Nat.le_of_ble_eq_true rfl) rfl (res_tmp rfl res_nil)), ?_⟩
                by_cases hc15 : c.toNat = 1 ∨ c.toNat = 5 <;> first | (exfalso; omega) | exact ⟨by rw [rdV_none (by first | exact no_short (by omega) | exact no_v1 (by assumption) | exact no_v2 (by assumption) | exact no_tail3 hc e54 (by omega) | exact no_text3 hc e54 (by omega) (.inl (by assumption)) | exact no_text3 hc e54 (by omega) (.inr (by assumption)) | exact no_text hc (by omega) (by omega) (.inl (by assumption)) | exact no_text hc (by omega) (by omega) (.inr (by assumption)) | exact no_end hc (by omega) (by omega) (by assumption) | exact no_kind hc (by omega) | exact no_right (E := (⟨(UInt64.ofNat (rvN ((l).drop 1))), (UInt64.ofNat (rvN (rest1 l))), c, b, c31, c35, c39, c43, c47, c51, c55, c59, ([])⟩ : Ent)) (by first | exact enc3_of hc e54 (by assumption) (by assumption) hb hc32 hc36 hc40 hc44 hc48 hc52 hc56 hc60 (by assumption) (by assumption) | exact enc24_of hc (by omega) (by assumption) (by assumption) (by assumption) (by assumption) | exact enc15_of hc (by omega) (by assumption) (by assumption) (by assumption)) (by omega) (by first | (show (rsT _).length < _; first | exact Nat.lt_of_le_of_lt ht1 (by omega) | exact Nat.lt_of_le_of_lt ht2 (by omega)) | simp) (by assumption) (fun q => by first | exact absurd e54 q | exact plain0 _ _ _ _) (fun q => by first | rfl | (exfalso; simp only at q; omega)))]; rfl, M90.bare.take 0⟩
              · skip
                refine WS.op rfl rfl (WS.op rfl (op_lds [_, _, _, _, _, _, _, _, _, _, _, _, _] (M62.at 0 rfl) rfl (Nat.le_of_ble_eq_true rfl) rfl) ?_)
                refine WS.call rfl rfl rfl (ref4_Right_ran M62.here (e := (⟨(UInt64.ofNat (rvN ((l).drop 1))), (UInt64.ofNat (rvN (rest1 l))), c, b, c31, c35, c39, c43, c47, c51, c55, c59, ([])⟩ : Ent)) (by first | (show (rsT _).length ≤ _; first | exact Nat.le_trans ht1 (by omega) | exact Nat.le_trans ht2 (by omega)) | simp)) ?_
                rintro _ h91 ⟨rfl, N92⟩
                have M93 := M62.trans N92
                cases hb5 : (rightB (⟨(UInt64.ofNat (rvN ((l).drop 1))), (UInt64.ofNat (rvN (rest1 l))), c, b, c31, c35, c39, c43, c47, c51, c55, c59, ([])⟩ : Ent))
                · skip
                  refine WS.opV (.bool true) rfl rfl rfl (WS.op rfl rfl (WS.nil [(2, _), (4, _), (112, _)] rfl ?_))
                  refine WC.condT rfl ?_
                  refine WC.seq ?_
                  refine WC.run ?_
                  refine WS.opV (.agg #[(.int .u64 (0 : Int)), (.int .u64 (0 : Int)), (.int .u8 (0 : Int)), (.int .u8 (0 : Int)), (.int .u8 (0 : Int)), (.int .u8 (0 : Int)), (.int .u8 (0 : Int)), (.int .u8 (0 : Int)), (.int .u8 (0 : Int)), (.int .u8 (0 : Int)), (.int .u8 (0 : Int)), (.int .u8 (0 : Int)), (.string (bs ([])))]) rfl rfl rfl ?_
                  refine WS.st1 (M93.focus 1 rfl) [_, _, _, _, _, _, _, _, _, _, _, _, _] [_, _, _, _, _, _, _, _, _, _, _, _, _] rfl rfl rfl rfl rfl (Nat.le_of_ble_eq_true rfl) (Nat.le_of_ble_eq_true rfl) rfl rfl ?_
                  intro h94 M95
                  replace M95 : Mem _ _ ([(p1, _)] :: [(p6, _)] :: []) _ := M95
                  refine WS.op rfl rfl (WS.nil [(2, _), (3, _)] rfl ?_)
                  refine WC.ret ?_
                  refine ⟨[_, _], (res_cellN [_, _, _, _, _, _, _, _, _, _, _, _, _] rfl (M95.at 0 rfl) (Nat.le_of_ble_eq_true rfl) rfl (res_tmp rfl res_nil)), ?_⟩
                  by_cases hc15 : c.toNat = 1 ∨ c.toNat = 5 <;> first | (exfalso; omega) | exact ⟨by rw [rdV_none (by first | exact no_short (by omega) | exact no_v1 (by assumption) | exact no_v2 (by assumption) | exact no_tail3 hc e54 (by omega) | exact no_text3 hc e54 (by omega) (.inl (by assumption)) | exact no_text3 hc e54 (by omega) (.inr (by assumption)) | exact no_text hc (by omega) (by omega) (.inl (by assumption)) | exact no_text hc (by omega) (by omega) (.inr (by assumption)) | exact no_end hc (by omega) (by omega) (by assumption) | exact no_kind hc (by omega) | exact no_right (E := (⟨(UInt64.ofNat (rvN ((l).drop 1))), (UInt64.ofNat (rvN (rest1 l))), c, b, c31, c35, c39, c43, c47, c51, c55, c59, ([])⟩ : Ent)) (by first | exact enc3_of hc e54 (by assumption) (by assumption) hb hc32 hc36 hc40 hc44 hc48 hc52 hc56 hc60 (by assumption) (by assumption) | exact enc24_of hc (by omega) (by assumption) (by assumption) (by assumption) (by assumption) | exact enc15_of hc (by omega) (by assumption) (by assumption) (by assumption)) (by omega) (by first | (show (rsT _).length < _; first | exact Nat.lt_of_le_of_lt ht1 (by omega) | exact Nat.lt_of_le_of_lt ht2 (by omega)) | simp) (by assumption) (fun q => by first | exact absurd e54 q | exact plain0 _ _ _ _) (fun q => by first | rfl | (exfalso; simp only at q; omega)))]; rfl, M95.bare.take 0⟩
                · skip
                  refine WS.opV (.bool false) rfl rfl rfl (WS.op rfl rfl (WS.nil [(2, _), (4, _), (112, _)] rfl ?_))
                  refine WC.condF rfl ?_
                  refine WC.skip ?_
                  refine WC.seq ?_
                  refine WC.run ?_
                  refine WS.op rfl (op_lds [_, _, _, _, _, _, _, _, _, _, _, _, _] (M93.at 0 rfl) rfl (Nat.le_of_ble_eq_true rfl) rfl) ?_
                  refine WS.st1 (M93.focus 1 rfl) [_, _, _, _, _, _, _, _, _, _, _, _, _] [_, _, _, _, _, _, _, _, _, _, _, _, _] rfl rfl rfl rfl rfl (Nat.le_of_ble_eq_true rfl) (Nat.le_of_ble_eq_true rfl) rfl rfl ?_
                  intro h96 M97
                  replace M97 : Mem _ _ ([(p1, _)] :: [(p6, _)] :: []) _ := M97
                  refine WS.op rfl rfl (WS.nil [(2, _), (3, _)] rfl ?_)
                  refine WC.ret ?_
                  refine ⟨[_, _], (res_cellN [_, _, _, _, _, _, _, _, _, _, _, _, _] rfl (M97.at 0 rfl) (Nat.le_of_ble_eq_true rfl) rfl (res_tmp rfl res_nil)), ?_⟩
                  by_cases hc15 : c.toNat = 1 ∨ c.toNat = 5 <;> first | (exfalso; omega) | (exfalso; have hr5 := right_kinds (rightB_iff.1 (by assumption)); simp only at hr5; omega) | exact ⟨by rw [rdV_some (e := (⟨(UInt64.ofNat (rvN ((l).drop 1))), (UInt64.ofNat (rvN (rest1 l))), c, b, c31, c35, c39, c43, c47, c51, c55, c59, ([])⟩ : Ent)) (by omega) (rightB_iff.1 (by assumption)) (by first | exact enc3_of hc e54 (by assumption) (by assumption) hb hc32 hc36 hc40 hc44 hc48 hc52 hc56 hc60 (by assumption) (by assumption) | exact enc24_of hc (by omega) (by assumption) (by assumption) (by assumption) (by assumption) | exact enc15_of hc (by omega) (by assumption) (by assumption) (by assumption))]; rfl, M97.bare.take 0⟩
        · skip
          refine WS.nil [(0, _), (2, _), (4, _), (10, _), (54, _)] rfl ?_
          refine WC.condF rfl ?_
          refine WC.skip ?_
          refine WC.seq ?_
          refine WC.seq ?_
          refine WC.run ?_
          refine WS.op rfl rfl (WS.op rfl (op_ld (M26.at 0 rfl) rfl rfl) ?_)
          refine WS.geqN (a := (c).toNat) (b := 2) rfl rfl rfl (fun e82 => ?_) (fun e82 => ?_)
          · skip
            refine WS.op rfl rfl (WS.op rfl rfl (WS.op rfl (op_ld (M26.at 0 rfl) rfl rfl) ?_))
            refine WS.leqN (a := (c).toNat) (b := 4) rfl rfl rfl (fun e86 => ?_) (fun e86 => ?_)
            · skip
              refine WS.op rfl rfl (WS.nil [(0, _), (2, _), (4, _), (10, _), (87, _)] rfl ?_)
              refine WC.condT rfl ?_
              refine WC.seq ?_
              refine WC.run ?_
              refine WS.op rfl rfl (WS.op rfl rfl (WS.opV (.string (bs (rest2 l))) rfl (op_slS0 (l := l) (at2 l) rfl rfl (by first | omega | (simp only [List.length_drop, List.length_take, List.length_append, List.length_cons, List.length_nil, List.length_singleton]; omega) | (simp only [List.length_drop, List.length_take, List.length_append, List.length_cons, List.length_nil, List.length_singleton] at *; omega))) rfl ?_))
              refine WS.call rfl rfl rfl (ref_ReadS_ran M26.here (l := (rest2 l)) (by first | omega | (simp only [List.length_drop, List.length_take, List.length_append, List.length_cons, List.length_nil, List.length_singleton]; omega) | (simp only [List.length_drop, List.length_take, List.length_append, List.length_cons, List.length_nil, List.length_singleton] at *; omega))) ?_
              rintro _ h98 ⟨rfl, N99⟩
              have M100 := M26.trans N99
              refine WS.op rfl rfl (WS.op rfl rfl (WS.op rfl rfl (WS.op rfl rfl (WS.op rfl rfl (WS.op rfl rfl (WS.op rfl rfl (WS.nil [(0, _), (2, _), (4, _), (10, _), (12, _), (13, _), (14, _)] rfl ?_)))))))
              refine WC.seq ?_
              refine WC.seq ?_
              refine WC.run ?_
              refine WS.op rfl rfl ?_
              cases hb6 : (rsOK (rest2 l))
              · skip
                refine WS.opV (.bool true) rfl rfl rfl (WS.nil [(0, _), (2, _), (4, _), (10, _), (12, _), (13, _), (97, _)] rfl ?_)
                refine WC.condT rfl ?_
                refine WC.seq ?_
                refine WC.run ?_
                refine WS.opV (.agg #[(.int .u64 (0 : Int)), (.int .u64 (0 : Int)), (.int .u8 (0 : Int)), (.int .u8 (0 : Int)), (.int .u8 (0 : Int)), (.int .u8 (0 : Int)), (.int .u8 (0 : Int)), (.int .u8 (0 : Int)), (.int .u8 (0 : Int)), (.int .u8 (0 : Int)), (.int .u8 (0 : Int)), (.int .u8 (0 : Int)), (.string (bs ([])))]) rfl rfl rfl ?_
                refine WS.st1 (M100.focus 1 rfl) [_, _, _, _, _, _, _, _, _, _, _, _, _] [_, _, _, _, _, _, _, _, _, _, _, _, _] rfl rfl rfl rfl rfl (Nat.le_of_ble_eq_true rfl) (Nat.le_of_ble_eq_true rfl) rfl rfl ?_
                intro h102 M103
                replace M103 : Mem _ _ ([(p1, _)] :: [(p6, _)] :: []) _ := M103
                refine WS.op rfl rfl (WS.nil [(2, _), (3, _)] rfl ?_)
                refine WC.ret ?_
                refine ⟨[_, _], (res_cellN [_, _, _, _, _, _, _, _, _, _, _, _, _] rfl (M103.at 0 rfl) (Nat.le_of_ble_eq_true rfl) rfl (res_tmp rfl res_nil)), ?_⟩
                by_cases hc15 : c.toNat = 1 ∨ c.toNat = 5 <;> first | (exfalso; omega) | exact ⟨by rw [rdV_none (by first | exact no_short (by omega) | exact no_v1 (by assumption) | exact no_v2 (by assumption) | exact no_tail3 hc e54 (by omega) | exact no_text3 hc e54 (by omega) (.inl (by assumption)) | exact no_text3 hc e54 (by omega) (.inr (by assumption)) | exact no_text hc (by omega) (by omega) (.inl (by assumption)) | exact no_text hc (by omega) (by omega) (.inr (by assumption)) | exact no_end hc (by omega) (by omega) (by assumption) | exact no_kind hc (by omega) | exact no_right (E := (⟨(UInt64.ofNat (rvN ((l).drop 1))), (UInt64.ofNat (rvN (rest1 l))), c, 0, 0, 0, 0, 0, 0, 0, 0, 0, ([])⟩ : Ent)) (by first | exact enc24_of hc (by omega) (by assumption) (by assumption) (by assumption) (by assumption) | exact enc15_of hc (by omega) (by assumption) (by assumption) (by assumption)) (by omega) (by first | (show (rsT _).length < _; first | exact Nat.lt_of_le_of_lt ht1 (by omega) | exact Nat.lt_of_le_of_lt ht2 (by omega)) | simp) (by assumption) (fun q => by first | exact absurd e54 q | exact plain0 _ _ _ _) (fun q => by first | rfl | (exfalso; simp only at q; omega)))]; rfl, M103.bare.take 0⟩
              · skip
                refine WS.opV (.bool false) rfl rfl rfl (WS.nil [(0, _), (2, _), (4, _), (10, _), (12, _), (13, _), (97, _)] rfl ?_)
                refine WC.condF rfl ?_
                refine WC.skip ?_
                refine WC.seq ?_
                refine WC.run ?_
                refine WS.op rfl rfl (WS.op rfl rfl ?_)
                refine WS.st1 (M100.focus 0 rfl) [_] [_, _, _, _, _, _, _, _, _, _, _, _, _] rfl rfl rfl rfl rfl (Nat.le_of_ble_eq_true rfl) (Nat.le_of_ble_eq_true rfl) rfl rfl ?_
                intro h104 M105
                replace M105 : Mem _ _ ([(p6, _)] :: [(p1, _)] :: []) _ := M105
                refine WS.nil [(0, _), (2, _), (4, _), (10, _), (13, _)] rfl ?_
                refine WC.run ?_
                refine WS.op rfl rfl (WS.op rfl rfl (WS.opV (.int .i64 ((((at2 l) + (rsK (rest2 l))) : Nat) : Int)) rfl rfl (add_i64 (a := (at2 l)) (b := (rsK (rest2 l))) (by have := rsK_le (rest2 l); omega)) (WS.op rfl rfl (WS.nil [(0, _), (2, _), (4, _), (10, _)] rfl ?_))))
                refine WC.seq ?_
                refine WC.seq ?_
                refine WC.run ?_
                refine WS.op rfl rfl (WS.op rfl rfl (WS.op rfl (op_lenS (l := l) rfl) ?_))
                refine WS.neqN (a := ((at2 l) + (rsK (rest2 l)))) (b := (l).length) rfl rfl rfl (fun e107 => ?_) (fun e107 => ?_)
                · skip
                  refine WS.op rfl rfl (WS.off rfl (WS.offC rfl (WS.off rfl (WS.op rfl rfl (WS.nil [(2, _), (4, _), (112, _)] rfl ?_)))))
                  refine WC.condT rfl ?_
                  refine WC.seq ?_
                  refine WC.run ?_
                  refine WS.opV (.agg #[(.int .u64 (0 : Int)), (.int .u64 (0 : Int)), (.int .u8 (0 : Int)), (.int .u8 (0 : Int)), (.int .u8 (0 : Int)), (.int .u8 (0 : Int)), (.int .u8 (0 : Int)), (.int .u8 (0 : Int)), (.int .u8 (0 : Int)), (.int .u8 (0 : Int)), (.int .u8 (0 : Int)), (.int .u8 (0 : Int)), (.string (bs ([])))]) rfl rfl rfl ?_
                  refine WS.st1 (M105.focus 1 rfl) [_, _, _, _, _, _, _, _, _, _, _, _, _] [_, _, _, _, _, _, _, _, _, _, _, _, _] rfl rfl rfl rfl rfl (Nat.le_of_ble_eq_true rfl) (Nat.le_of_ble_eq_true rfl) rfl rfl ?_
                  intro h106 M107
                  replace M107 : Mem _ _ ([(p1, _)] :: [(p6, _)] :: []) _ := M107
                  refine WS.op rfl rfl (WS.nil [(2, _), (3, _)] rfl ?_)
                  refine WC.ret ?_
                  refine ⟨[_, _], (res_cellN [_, _, _, _, _, _, _, _, _, _, _, _, _] rfl (M107.at 0 rfl) (Nat.le_of_ble_eq_true rfl) rfl (res_tmp rfl res_nil)), ?_⟩
                  by_cases hc15 : c.toNat = 1 ∨ c.toNat = 5 <;> first | (exfalso; omega) | exact ⟨by rw [rdV_none (by first | exact no_short (by omega) | exact no_v1 (by assumption) | exact no_v2 (by assumption) | exact no_tail3 hc e54 (by omega) | exact no_text3 hc e54 (by omega) (.inl (by assumption)) | exact no_text3 hc e54 (by omega) (.inr (by assumption)) | exact no_text hc (by omega) (by omega) (.inl (by assumption)) | exact no_text hc (by omega) (by omega) (.inr (by assumption)) | exact no_end hc (by omega) (by omega) (by assumption) | exact no_kind hc (by omega) | exact no_right (E := (⟨(UInt64.ofNat (rvN ((l).drop 1))), (UInt64.ofNat (rvN (rest1 l))), c, 0, 0, 0, 0, 0, 0, 0, 0, 0, (rsT (rest2 l))⟩ : Ent)) (by first | exact enc24_of hc (by omega) (by assumption) (by assumption) (by assumption) (by assumption) | exact enc15_of hc (by omega) (by assumption) (by assumption) (by assumption)) (by omega) (by first | (show (rsT _).length < _; first | exact Nat.lt_of_le_of_lt ht1 (by omega) | exact Nat.lt_of_le_of_lt ht2 (by omega)) | simp) (by assumption) (fun q => by first | exact absurd e54 q | exact plain0 _ _ _ _) (fun q => by first | rfl | (exfalso; simp only at q; omega)))]; rfl, M107.bare.take 0⟩
                · skip
                  refine WS.op rfl rfl (WS.op rfl (op_lds [_, _, _, _, _, _, _, _, _, _, _, _, _] (M105.at 0 rfl) rfl (Nat.le_of_ble_eq_true rfl) rfl) ?_)
                  refine WS.call rfl rfl rfl (ref4_Right_ran M105.here (e := (⟨(UInt64.ofNat (rvN ((l).drop 1))), (UInt64.ofNat (rvN (rest1 l))), c, 0, 0, 0, 0, 0, 0, 0, 0, 0, (rsT (rest2 l))⟩ : Ent)) (by first | (show (rsT _).length ≤ _; first | exact Nat.le_trans ht1 (by omega) | exact Nat.le_trans ht2 (by omega)) | simp)) ?_
                  rintro _ h108 ⟨rfl, N109⟩
                  have M110 := M105.trans N109
                  cases hb7 : (rightB (⟨(UInt64.ofNat (rvN ((l).drop 1))), (UInt64.ofNat (rvN (rest1 l))), c, 0, 0, 0, 0, 0, 0, 0, 0, 0, (rsT (rest2 l))⟩ : Ent))
                  · skip
                    refine WS.opV (.bool true) rfl rfl rfl (WS.op rfl rfl (WS.nil [(2, _), (4, _), (112, _)] rfl ?_))
                    refine WC.condT rfl ?_
                    refine WC.seq ?_
                    refine WC.run ?_
                    refine WS.opV (.agg #[(.int .u64 (0 : Int)), (.int .u64 (0 : Int)), (.int .u8 (0 : Int)), (.int .u8 (0 : Int)), (.int .u8 (0 : Int)), (.int .u8 (0 : Int)), (.int .u8 (0 : Int)), (.int .u8 (0 : Int)), (.int .u8 (0 : Int)), (.int .u8 (0 : Int)), (.int .u8 (0 : Int)), (.int .u8 (0 : Int)), (.string (bs ([])))]) rfl rfl rfl ?_
                    refine WS.st1 (M110.focus 1 rfl) [_, _, _, _, _, _, _, _, _, _, _, _, _] [_, _, _, _, _, _, _, _, _, _, _, _, _] rfl rfl rfl rfl rfl (Nat.le_of_ble_eq_true rfl) (Nat.le_of_ble_eq_true rfl) rfl rfl ?_
                    intro h111 M112
                    replace M112 : Mem _ _ ([(p1, _)] :: [(p6, _)] :: []) _ := M112
                    refine WS.op rfl rfl (WS.nil [(2, _), (3, _)] rfl ?_)
                    refine WC.ret ?_
                    refine ⟨[_, _], (res_cellN [_, _, _, _, _, _, _, _, _, _, _, _, _] rfl (M112.at 0 rfl) (Nat.le_of_ble_eq_true rfl) rfl (res_tmp rfl res_nil)), ?_⟩
                    by_cases hc15 : c.toNat = 1 ∨ c.toNat = 5 <;> first | (exfalso; omega) | exact ⟨by rw [rdV_none (by first | exact no_short (by omega) | exact no_v1 (by assumption) | exact no_v2 (by assumption) | exact no_tail3 hc e54 (by omega) | exact no_text3 hc e54 (by omega) (.inl (by assumption)) | exact no_text3 hc e54 (by omega) (.inr (by assumption)) | exact no_text hc (by omega) (by omega) (.inl (by assumption)) | exact no_text hc (by omega) (by omega) (.inr (by assumption)) | exact no_end hc (by omega) (by omega) (by assumption) | exact no_kind hc (by omega) | exact no_right (E := (⟨(UInt64.ofNat (rvN ((l).drop 1))), (UInt64.ofNat (rvN (rest1 l))), c, 0, 0, 0, 0, 0, 0, 0, 0, 0, (rsT (rest2 l))⟩ : Ent)) (by first | exact enc24_of hc (by omega) (by assumption) (by assumption) (by assumption) (by assumption) | exact enc15_of hc (by omega) (by assumption) (by assumption) (by assumption)) (by omega) (by first | (show (rsT _).length < _; first | exact Nat.lt_of_le_of_lt ht1 (by omega) | exact Nat.lt_of_le_of_lt ht2 (by omega)) | simp) (by assumption) (fun q => by first | exact absurd e54 q | exact plain0 _ _ _ _) (fun q => by first | rfl | (exfalso; simp only at q; omega)))]; rfl, M112.bare.take 0⟩
                  · skip
                    refine WS.opV (.bool false) rfl rfl rfl (WS.op rfl rfl (WS.nil [(2, _), (4, _), (112, _)] rfl ?_))
                    refine WC.condF rfl ?_
                    refine WC.skip ?_
                    refine WC.seq ?_
                    refine WC.run ?_
                    refine WS.op rfl (op_lds [_, _, _, _, _, _, _, _, _, _, _, _, _] (M110.at 0 rfl) rfl (Nat.le_of_ble_eq_true rfl) rfl) ?_
                    refine WS.st1 (M110.focus 1 rfl) [_, _, _, _, _, _, _, _, _, _, _, _, _] [_, _, _, _, _, _, _, _, _, _, _, _, _] rfl rfl rfl rfl rfl (Nat.le_of_ble_eq_true rfl) (Nat.le_of_ble_eq_true rfl) rfl rfl ?_
                    intro h113 M114
                    replace M114 : Mem _ _ ([(p1, _)] :: [(p6, _)] :: []) _ := M114
                    refine WS.op rfl rfl (WS.nil [(2, _), (3, _)] rfl ?_)
                    refine WC.ret ?_
                    refine ⟨[_, _], (res_cellN [_, _, _, _, _, _, _, _, _, _, _, _, _] rfl (M114.at 0 rfl) (Nat.le_of_ble_eq_true rfl) rfl (res_tmp rfl res_nil)), ?_⟩
                    by_cases hc15 : c.toNat = 1 ∨ c.toNat = 5 <;> first | (exfalso; omega) | (exfalso; have hr5 := right_kinds (rightB_iff.1 (by assumption)); simp only at hr5; omega) | exact ⟨by rw [rdV_some (e := (⟨(UInt64.ofNat (rvN ((l).drop 1))), (UInt64.ofNat (rvN (rest1 l))), c, 0, 0, 0, 0, 0, 0, 0, 0, 0, (rsT (rest2 l))⟩ : Ent)) (by omega) (rightB_iff.1 (by assumption)) (by first | exact enc24_of hc (by omega) (by assumption) (by assumption) (by assumption) (by assumption) | exact enc15_of hc (by omega) (by assumption) (by assumption) (by assumption))]; rfl, M114.bare.take 0⟩
            · skip
              refine WS.op rfl rfl (WS.nil [(0, _), (2, _), (4, _), (10, _), (87, _)] rfl ?_)
              refine WC.condF rfl ?_
              refine WC.skip ?_
              refine WC.seq ?_
              refine WC.seq ?_
              refine WC.run ?_
              refine WS.op rfl rfl (WS.op rfl rfl (WS.op rfl (op_lenS (l := l) rfl) ?_))
              refine WS.neqN (a := (at2 l)) (b := (l).length) rfl rfl rfl (fun e107 => ?_) (fun e107 => ?_)
              · skip
                refine WS.op rfl rfl (WS.off rfl (WS.offC rfl (WS.off rfl (WS.op rfl rfl (WS.nil [(2, _), (4, _), (112, _)] rfl ?_)))))
                refine WC.condT rfl ?_
                refine WC.seq ?_
                refine WC.run ?_
                refine WS.opV (.agg #[(.int .u64 (0 : Int)), (.int .u64 (0 : Int)), (.int .u8 (0 : Int)), (.int .u8 (0 : Int)), (.int .u8 (0 : Int)), (.int .u8 (0 : Int)), (.int .u8 (0 : Int)), (.int .u8 (0 : Int)), (.int .u8 (0 : Int)), (.int .u8 (0 : Int)), (.int .u8 (0 : Int)), (.int .u8 (0 : Int)), (.string (bs ([])))]) rfl rfl rfl ?_
                refine WS.st1 (M26.focus 1 rfl) [_, _, _, _, _, _, _, _, _, _, _, _, _] [_, _, _, _, _, _, _, _, _, _, _, _, _] rfl rfl rfl rfl rfl (Nat.le_of_ble_eq_true rfl) (Nat.le_of_ble_eq_true rfl) rfl rfl ?_
                intro h115 M116
                replace M116 : Mem _ _ ([(p1, _)] :: [(p6, _)] :: []) _ := M116
                refine WS.op rfl rfl (WS.nil [(2, _), (3, _)] rfl ?_)
                refine WC.ret ?_
                refine ⟨[_, _], (res_cellN [_, _, _, _, _, _, _, _, _, _, _, _, _] rfl (M116.at 0 rfl) (Nat.le_of_ble_eq_true rfl) rfl (res_tmp rfl res_nil)), ?_⟩
                by_cases hc15 : c.toNat = 1 ∨ c.toNat = 5 <;> first | (exfalso; omega) | exact ⟨by rw [rdV_none (by first | exact no_short (by omega) | exact no_v1 (by assumption) | exact no_v2 (by assumption) | exact no_tail3 hc e54 (by omega) | exact no_text3 hc e54 (by omega) (.inl (by assumption)) | exact no_text3 hc e54 (by omega) (.inr (by assumption)) | exact no_text hc (by omega) (by omega) (.inl (by assumption)) | exact no_text hc (by omega) (by omega) (.inr (by assumption)) | exact no_end hc (by omega) (by omega) (by assumption) | exact no_kind hc (by omega) | exact no_right (E := (⟨(UInt64.ofNat (rvN ((l).drop 1))), (UInt64.ofNat (rvN (rest1 l))), c, 0, 0, 0, 0, 0, 0, 0, 0, 0, ([])⟩ : Ent)) (by first | exact enc24_of hc (by omega) (by assumption) (by assumption) (by assumption) (by assumption) | exact enc15_of hc (by omega) (by assumption) (by assumption) (by assumption)) (by omega) (by first | (show (rsT _).length < _; first | exact Nat.lt_of_le_of_lt ht1 (by omega) | exact Nat.lt_of_le_of_lt ht2 (by omega)) | simp) (by assumption) (fun q => by first | exact absurd e54 q | exact plain0 _ _ _ _) (fun q => by first | rfl | (exfalso; simp only at q; omega)))]; rfl, M116.bare.take 0⟩
              · skip
                refine WS.op rfl rfl (WS.op rfl (op_lds [_, _, _, _, _, _, _, _, _, _, _, _, _] (M26.at 0 rfl) rfl (Nat.le_of_ble_eq_true rfl) rfl) ?_)
                refine WS.call rfl rfl rfl (ref4_Right_ran M26.here (e := (⟨(UInt64.ofNat (rvN ((l).drop 1))), (UInt64.ofNat (rvN (rest1 l))), c, 0, 0, 0, 0, 0, 0, 0, 0, 0, ([])⟩ : Ent)) (by first | (show (rsT _).length ≤ _; first | exact Nat.le_trans ht1 (by omega) | exact Nat.le_trans ht2 (by omega)) | simp)) ?_
                rintro _ h117 ⟨rfl, N118⟩
                have M119 := M26.trans N118
                cases hb8 : (rightB (⟨(UInt64.ofNat (rvN ((l).drop 1))), (UInt64.ofNat (rvN (rest1 l))), c, 0, 0, 0, 0, 0, 0, 0, 0, 0, ([])⟩ : Ent))
                · skip
                  refine WS.opV (.bool true) rfl rfl rfl (WS.op rfl rfl (WS.nil [(2, _), (4, _), (112, _)] rfl ?_))
                  refine WC.condT rfl ?_
                  refine WC.seq ?_
                  refine WC.run ?_
                  refine WS.opV (.agg #[(.int .u64 (0 : Int)), (.int .u64 (0 : Int)), (.int .u8 (0 : Int)), (.int .u8 (0 : Int)), (.int .u8 (0 : Int)), (.int .u8 (0 : Int)), (.int .u8 (0 : Int)), (.int .u8 (0 : Int)), (.int .u8 (0 : Int)), (.int .u8 (0 : Int)), (.int .u8 (0 : Int)), (.int .u8 (0 : Int)), (.string (bs ([])))]) rfl rfl rfl ?_
                  refine WS.st1 (M119.focus 1 rfl) [_, _, _, _, _, _, _, _, _, _, _, _, _] [_, _, _, _, _, _, _, _, _, _, _, _, _] rfl rfl rfl rfl rfl (Nat.le_of_ble_eq_true rfl) (Nat.le_of_ble_eq_true rfl) rfl rfl ?_
                  intro h120 M121
                  replace M121 : Mem _ _ ([(p1, _)] :: [(p6, _)] :: []) _ := M121
                  refine WS.op rfl rfl (WS.nil [(2, _), (3, _)] rfl ?_)
                  refine WC.ret ?_
                  refine ⟨[_, _], (res_cellN [_, _, _, _, _, _, _, _, _, _, _, _, _] rfl (M121.at 0 rfl) (Nat.le_of_ble_eq_true rfl) rfl (res_tmp rfl res_nil)), ?_⟩
                  by_cases hc15 : c.toNat = 1 ∨ c.toNat = 5 <;> first | (exfalso; omega) | exact ⟨by rw [rdV_none (by first | exact no_short (by omega) | exact no_v1 (by assumption) | exact no_v2 (by assumption) | exact no_tail3 hc e54 (by omega) | exact no_text3 hc e54 (by omega) (.inl (by assumption)) | exact no_text3 hc e54 (by omega) (.inr (by assumption)) | exact no_text hc (by omega) (by omega) (.inl (by assumption)) | exact no_text hc (by omega) (by omega) (.inr (by assumption)) | exact no_end hc (by omega) (by omega) (by assumption) | exact no_kind hc (by omega) | exact no_right (E := (⟨(UInt64.ofNat (rvN ((l).drop 1))), (UInt64.ofNat (rvN (rest1 l))), c, 0, 0, 0, 0, 0, 0, 0, 0, 0, ([])⟩ : Ent)) (by first | exact enc24_of hc (by omega) (by assumption) (by assumption) (by assumption) (by assumption) | exact enc15_of hc (by omega) (by assumption) (by assumption) (by assumption)) (by omega) (by first | (show (rsT _).length < _; first | exact Nat.lt_of_le_of_lt ht1 (by omega) | exact Nat.lt_of_le_of_lt ht2 (by omega)) | simp) (by assumption) (fun q => by first | exact absurd e54 q | exact plain0 _ _ _ _) (fun q => by first | rfl | (exfalso; simp only at q; omega)))]; rfl, M121.bare.take 0⟩
                · skip
                  refine WS.opV (.bool false) rfl rfl rfl (WS.op rfl rfl (WS.nil [(2, _), (4, _), (112, _)] rfl ?_))
                  refine WC.condF rfl ?_
                  refine WC.skip ?_
                  refine WC.seq ?_
                  refine WC.run ?_
                  refine WS.op rfl (op_lds [_, _, _, _, _, _, _, _, _, _, _, _, _] (M119.at 0 rfl) rfl (Nat.le_of_ble_eq_true rfl) rfl) ?_
                  refine WS.st1 (M119.focus 1 rfl) [_, _, _, _, _, _, _, _, _, _, _, _, _] [_, _, _, _, _, _, _, _, _, _, _, _, _] rfl rfl rfl rfl rfl (Nat.le_of_ble_eq_true rfl) (Nat.le_of_ble_eq_true rfl) rfl rfl ?_
                  intro h122 M123
                  replace M123 : Mem _ _ ([(p1, _)] :: [(p6, _)] :: []) _ := M123
                  refine WS.op rfl rfl (WS.nil [(2, _), (3, _)] rfl ?_)
                  refine WC.ret ?_
                  refine ⟨[_, _], (res_cellN [_, _, _, _, _, _, _, _, _, _, _, _, _] rfl (M123.at 0 rfl) (Nat.le_of_ble_eq_true rfl) rfl (res_tmp rfl res_nil)), ?_⟩
                  by_cases hc15 : c.toNat = 1 ∨ c.toNat = 5 <;> first | (exfalso; omega) | (exfalso; have hr5 := right_kinds (rightB_iff.1 (by assumption)); simp only at hr5; omega) | exact ⟨by rw [rdV_some (e := (⟨(UInt64.ofNat (rvN ((l).drop 1))), (UInt64.ofNat (rvN (rest1 l))), c, 0, 0, 0, 0, 0, 0, 0, 0, 0, ([])⟩ : Ent)) (by omega) (rightB_iff.1 (by assumption)) (by first | exact enc24_of hc (by omega) (by assumption) (by assumption) (by assumption) (by assumption) | exact enc15_of hc (by omega) (by assumption) (by assumption) (by assumption))]; rfl, M123.bare.take 0⟩
          · skip
            refine WS.op rfl rfl (WS.off rfl (WS.off rfl (WS.off rfl (WS.op rfl rfl (WS.nil [(0, _), (2, _), (4, _), (10, _), (87, _)] rfl ?_)))))
            refine WC.condF rfl ?_
            refine WC.skip ?_
            refine WC.seq ?_
            refine WC.seq ?_
            refine WC.run ?_
            refine WS.op rfl rfl (WS.op rfl rfl (WS.op rfl (op_lenS (l := l) rfl) ?_))
            refine WS.neqN (a := (at2 l)) (b := (l).length) rfl rfl rfl (fun e107 => ?_) (fun e107 => ?_)
            · skip
              refine WS.op rfl rfl (WS.off rfl (WS.offC rfl (WS.off rfl (WS.op rfl rfl (WS.nil [(2, _), (4, _), (112, _)] rfl ?_)))))
              refine WC.condT rfl ?_
              refine WC.seq ?_
              refine WC.run ?_
              refine WS.opV (.agg #[(.int .u64 (0 : Int)), (.int .u64 (0 : Int)), (.int .u8 (0 : Int)), (.int .u8 (0 : Int)), (.int .u8 (0 : Int)), (.int .u8 (0 : Int)), (.int .u8 (0 : Int)), (.int .u8 (0 : Int)), (.int .u8 (0 : Int)), (.int .u8 (0 : Int)), (.int .u8 (0 : Int)), (.int .u8 (0 : Int)), (.string (bs ([])))]) rfl rfl rfl ?_
              refine WS.st1 (M26.focus 1 rfl) [_, _, _, _, _, _, _, _, _, _, _, _, _] [_, _, _, _, _, _, _, _, _, _, _, _, _] rfl rfl rfl rfl rfl (Nat.le_of_ble_eq_true rfl) (Nat.le_of_ble_eq_true rfl) rfl rfl ?_
              intro h124 M125
              replace M125 : Mem _ _ ([(p1, _)] :: [(p6, _)] :: []) _ := M125
              refine WS.op rfl rfl (WS.nil [(2, _), (3, _)] rfl ?_)
              refine WC.ret ?_
              refine ⟨[_, _], (res_cellN [_, _, _, _, _, _, _, _, _, _, _, _, _] rfl (M125.at 0 rfl) (Nat.le_of_ble_eq_true rfl) rfl (res_tmp rfl res_nil)), ?_⟩
              by_cases hc15 : c.toNat = 1 ∨ c.toNat = 5 <;> first | (exfalso; omega) | exact ⟨by rw [rdV_none (by first | exact no_short (by omega) | exact no_v1 (by assumption) | exact no_v2 (by assumption) | exact no_tail3 hc e54 (by omega) | exact no_text3 hc e54 (by omega) (.inl (by assumption)) | exact no_text3 hc e54 (by omega) (.inr (by assumption)) | exact no_text hc (by omega) (by omega) (.inl (by assumption)) | exact no_text hc (by omega) (by omega) (.inr (by assumption)) | exact no_end hc (by omega) (by omega) (by assumption) | exact no_kind hc (by omega) | exact no_right (E := (⟨(UInt64.ofNat (rvN ((l).drop 1))), (UInt64.ofNat (rvN (rest1 l))), c, 0, 0, 0, 0, 0, 0, 0, 0, 0, ([])⟩ : Ent)) (by first | exact enc24_of hc (by omega) (by assumption) (by assumption) (by assumption) (by assumption) | exact enc15_of hc (by omega) (by assumption) (by assumption) (by assumption)) (by omega) (by first | (show (rsT _).length < _; first | exact Nat.lt_of_le_of_lt ht1 (by omega) | exact Nat.lt_of_le_of_lt ht2 (by omega)) | simp) (by assumption) (fun q => by first | exact absurd e54 q | exact plain0 _ _ _ _) (fun q => by first | rfl | (exfalso; simp only at q; omega)))]; rfl, M125.bare.take 0⟩
            · skip
              refine WS.op rfl rfl (WS.op rfl (op_lds [_, _, _, _, _, _, _, _, _, _, _, _, _] (M26.at 0 rfl) rfl (Nat.le_of_ble_eq_true rfl) rfl) ?_)
              refine WS.call rfl rfl rfl (ref4_Right_ran M26.here (e := (⟨(UInt64.ofNat (rvN ((l).drop 1))), (UInt64.ofNat (rvN (rest1 l))), c, 0, 0, 0, 0, 0, 0, 0, 0, 0, ([])⟩ : Ent)) (by first | (show (rsT _).length ≤ _; first | exact Nat.le_trans ht1 (by omega) | exact Nat.le_trans ht2 (by omega)) | simp)) ?_
              rintro _ h126 ⟨rfl, N127⟩
              have M128 := M26.trans N127
              cases hb8 : (rightB (⟨(UInt64.ofNat (rvN ((l).drop 1))), (UInt64.ofNat (rvN (rest1 l))), c, 0, 0, 0, 0, 0, 0, 0, 0, 0, ([])⟩ : Ent))
              · skip
                refine WS.opV (.bool true) rfl rfl rfl (WS.op rfl rfl (WS.nil [(2, _), (4, _), (112, _)] rfl ?_))
                refine WC.condT rfl ?_
                refine WC.seq ?_
                refine WC.run ?_
                refine WS.opV (.agg #[(.int .u64 (0 : Int)), (.int .u64 (0 : Int)), (.int .u8 (0 : Int)), (.int .u8 (0 : Int)), (.int .u8 (0 : Int)), (.int .u8 (0 : Int)), (.int .u8 (0 : Int)), (.int .u8 (0 : Int)), (.int .u8 (0 : Int)), (.int .u8 (0 : Int)), (.int .u8 (0 : Int)), (.int .u8 (0 : Int)), (.string (bs ([])))]) rfl rfl rfl ?_
                refine WS.st1 (M128.focus 1 rfl) [_, _, _, _, _, _, _, _, _, _, _, _, _] [_, _, _, _, _, _, _, _, _, _, _, _, _] rfl rfl rfl rfl rfl (Nat.le_of_ble_eq_true rfl) (Nat.le_of_ble_eq_true rfl) rfl rfl ?_
                intro h129 M130
                replace M130 : Mem _ _ ([(p1, _)] :: [(p6, _)] :: []) _ := M130
                refine WS.op rfl rfl (WS.nil [(2, _), (3, _)] rfl ?_)
                refine WC.ret ?_
                refine ⟨[_, _], (res_cellN [_, _, _, _, _, _, _, _, _, _, _, _, _] rfl (M130.at 0 rfl) (Nat.le_of_ble_eq_true rfl) rfl (res_tmp rfl res_nil)), ?_⟩
                by_cases hc15 : c.toNat = 1 ∨ c.toNat = 5 <;> first | (exfalso; omega) | exact ⟨by rw [rdV_none (by first | exact no_short (by omega) | exact no_v1 (by assumption) | exact no_v2 (by assumption) | exact no_tail3 hc e54 (by omega) | exact no_text3 hc e54 (by omega) (.inl (by assumption)) | exact no_text3 hc e54 (by omega) (.inr (by assumption)) | exact no_text hc (by omega) (by omega) (.inl (by assumption)) | exact no_text hc (by omega) (by omega) (.inr (by assumption)) | exact no_end hc (by omega) (by omega) (by assumption) | exact no_kind hc (by omega) | exact no_right (E := (⟨(UInt64.ofNat (rvN ((l).drop 1))), (UInt64.ofNat (rvN (rest1 l))), c, 0, 0, 0, 0, 0, 0, 0, 0, 0, ([])⟩ : Ent)) (by first | exact enc24_of hc (by omega) (by assumption) (by assumption) (by assumption) (by assumption) | exact enc15_of hc (by omega) (by assumption) (by assumption) (by assumption)) (by omega) (by first | (show (rsT _).length < _; first | exact Nat.lt_of_le_of_lt ht1 (by omega) | exact Nat.lt_of_le_of_lt ht2 (by omega)) | simp) (by assumption) (fun q => by first | exact absurd e54 q | exact plain0 _ _ _ _) (fun q => by first | rfl | (exfalso; simp only at q; omega)))]; rfl, M130.bare.take 0⟩
              · skip
                refine WS.opV (.bool false) rfl rfl rfl (WS.op rfl rfl (WS.nil [(2, _), (4, _), (112, _)] rfl ?_))
                refine WC.condF rfl ?_
                refine WC.skip ?_
                refine WC.seq ?_
                refine WC.run ?_
                refine WS.op rfl (op_lds [_, _, _, _, _, _, _, _, _, _, _, _, _] (M128.at 0 rfl) rfl (Nat.le_of_ble_eq_true rfl) rfl) ?_
                refine WS.st1 (M128.focus 1 rfl) [_, _, _, _, _, _, _, _, _, _, _, _, _] [_, _, _, _, _, _, _, _, _, _, _, _, _] rfl rfl rfl rfl rfl (Nat.le_of_ble_eq_true rfl) (Nat.le_of_ble_eq_true rfl) rfl rfl ?_
                intro h131 M132
                replace M132 : Mem _ _ ([(p1, _)] :: [(p6, _)] :: []) _ := M132
                refine WS.op rfl rfl (WS.nil [(2, _), (3, _)] rfl ?_)
                refine WC.ret ?_
                refine ⟨[_, _], (res_cellN [_, _, _, _, _, _, _, _, _, _, _, _, _] rfl (M132.at 0 rfl) (Nat.le_of_ble_eq_true rfl) rfl (res_tmp rfl res_nil)), ?_⟩
                by_cases hc15 : c.toNat = 1 ∨ c.toNat = 5 <;> first | (exfalso; omega) | (exfalso; have hr5 := right_kinds (rightB_iff.1 (by assumption)); simp only at hr5; omega) | exact ⟨by rw [rdV_some (e := (⟨(UInt64.ofNat (rvN ((l).drop 1))), (UInt64.ofNat (rvN (rest1 l))), c, 0, 0, 0, 0, 0, 0, 0, 0, 0, ([])⟩ : Ent)) (by omega) (rightB_iff.1 (by assumption)) (by first | exact enc24_of hc (by omega) (by assumption) (by assumption) (by assumption) (by assumption) | exact enc15_of hc (by omega) (by assumption) (by assumption) (by assumption))]; rfl, M132.bare.take 0⟩
end Go.Proofs.Ytebgfahbhieoiaa.Wt
