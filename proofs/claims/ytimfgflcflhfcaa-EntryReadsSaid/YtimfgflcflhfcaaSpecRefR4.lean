/- What the printed function Read of the reference of entry comes to: the same as the program's. -/
import Derived.Test.YtimfgflcflhfcaaSpecRefA4
import Derived.Test.YtimfgflcflhfcaaSpecEntR
import Derived.Test.YtimfgflcflhfcaaPx18
namespace Go.Proofs.Ytimfgflcflhfcaa.P
set_option linter.unusedVariables false
set_option linter.unusedSimpArgs false
open Go.RowKit Go.Proofs.YtimfgflcflhfcaaW.PrintWords Go.Proofs.YtimfgflcflhfcaaW.PrintLast Go.Proofs.YtimfgflcflhfcaaW.PrintMore Go.Proofs.Ytimfgflcflhfcaa.Num
/-- what the reference makes of what stands behind a text's head -/
def tailE (n m kd sl : Nat) (tk : List UInt8) (r : List UInt8) : Option Ent :=
  if 2 ≤ kd ∧ kd ≤ 4 then
    match readS r with
    | none => none
    | some (t, k) => if k = r.length ∧ Ent.rightB ⟨n, m, kd, sl, tk, t⟩ = true then some ⟨n, m, kd, sl, tk, t⟩ else none
  else if r = [] ∧ Ent.rightB ⟨n, m, kd, sl, tk, []⟩ = true then some ⟨n, m, kd, sl, tk, []⟩ else none
/-- the reference's reading -/
def refE (s : List UInt8) : Option Ent :=
  match s with
  | [] => none
  | c :: s1 =>
    match readV s1 with
    | none => none
    | some (n, a) =>
      match readV (s1.drop a) with
      | none => none
      | some (m, b) =>
        if c.toNat = 3 then
          (if 9 ≤ (s1.drop (a + b)).length then tailE n m c.toNat ((s1.drop (a + b)).getD 0 0).toNat (((s1.drop (a + b)).drop 1).take 8) ((s1.drop (a + b)).drop 9) else none)
        else tailE n m c.toNat 0 (List.replicate 8 0) (s1.drop (a + b))
theorem tailE_some {n m kd sl : Nat} {tk r : List UInt8} {e : Ent} (h : tailE n m kd sl tk r = some e) :
    e.ix = n ∧ e.tm = m ∧ e.kd = kd ∧ e.sl = sl ∧ e.tk = tk ∧ e.rightB = true ∧ r = (if kd = 1 ∨ kd = 5 then [] else rowS e.body) ∧ e.body.length ≤ r.length := by
  unfold tailE at h
  by_cases h2 : 2 ≤ kd ∧ kd ≤ 4
  · rw [if_pos h2] at h
    cases hr : readS r with
    | none => rw [hr] at h; cases h
    | some p =>
      obtain ⟨t, k⟩ := p
      rw [hr] at h
      simp only at h
      split at h
      · rename_i hc
        obtain rfl := Option.some.inj h
        have hq := readS_some hr
        refine ⟨rfl, rfl, rfl, rfl, rfl, hc.2, ?_, ?_⟩
        · rw [if_neg (by omega)]
          have := hq.2.1
          rw [hc.1, List.take_length] at this
          exact this
        · show t.length ≤ r.length
          have h1 := hq.1
          have h4 := hq.2.2.2
          omega
      · cases h
  · rw [if_neg h2] at h
    split at h
    · rename_i hc
      obtain rfl := Option.some.inj h
      refine ⟨rfl, rfl, rfl, rfl, rfl, hc.2, ?_, Nat.zero_le _⟩
      have hr := hc.2
      unfold Ent.rightB at hr
      dsimp only at hr
      have h15 : kd = 1 ∨ kd = 5 := by
        by_cases q : kd = 1 ∨ kd = 5
        · exact q
        · rw [if_neg (by omega), if_neg q, if_neg (show ¬ kd = 2 by omega), decide_eq_false (show ¬ kd = 4 by omega)] at hr
          simp at hr
      rw [if_pos h15]; exact hc.1
    · cases h
theorem refE_some {s : List UInt8} {e : Ent} (hs : s.length < 18446744073709551616) (h : refE s = some e) : e.ok ∧ e.rightB = true ∧ e.bytes = s := by
  match s, h with
  | c :: s1, h =>
    unfold refE at h
    dsimp only at h
    cases h1 : readV s1 with
    | none => rw [h1] at h; cases h
    | some p =>
      obtain ⟨n, a⟩ := p
      rw [h1] at h
      dsimp only at h
      cases h2 : readV (s1.drop a) with
      | none => rw [h2] at h; cases h
      | some q =>
        obtain ⟨m, b⟩ := q
        rw [h2] at h
        dsimp only at h
        obtain ⟨a1, _, _, a4, a5⟩ := readV_some h1
        obtain ⟨b1, _, _, b4, b5⟩ := readV_some h2
        have hc := c.toNat_lt
        have hlr : (s1.drop (a + b)).length ≤ s1.length := by rw [List.length_drop]; omega
        rw [List.length_cons] at hs
        have hs1 : s1 = grp n ++ (grp m ++ s1.drop (a + b)) := by
          conv => lhs; rw [← List.take_append_drop a s1, a5, ← List.take_append_drop b (s1.drop a), b5, List.drop_drop]
        generalize hr : s1.drop (a + b) = r at h hs1 hlr
        by_cases h3 : c.toNat = 3
        · rw [if_pos h3] at h
          by_cases h9 : 9 ≤ r.length
          · rw [if_pos h9] at h
            obtain ⟨q1, q2, q3, q4, q5, q6, q7, q8⟩ := tailE_some h
            refine ⟨⟨by omega, by omega, by omega, by rw [q4]; exact UInt8.toNat_lt _, by rw [q5, List.length_take, List.length_drop]; omega, by rw [List.length_drop] at q8; omega⟩, q6, ?_⟩
            unfold Ent.bytes
            rw [q1, q2, q3, q4, q5, by_of, if_pos h3]
            rw [if_neg (show ¬ (c.toNat = 1 ∨ c.toNat = 5) by omega)] at q7 ⊢
            rw [← q7]
            match r, h9 with
            | x :: r1, h9 =>
              have e1 : (x :: r1).getD 0 0 = x := rfl
              have e2 : (x :: r1).drop 1 = r1 := rfl
              have e3 : (x :: r1).drop 9 = r1.drop 8 := rfl
              rw [e1, e2, e3, by_of, hs1, List.cons_append, List.take_append_drop]
          · rw [if_neg h9] at h; cases h
        · rw [if_neg h3] at h
          obtain ⟨q1, q2, q3, q4, q5, q6, q7, q8⟩ := tailE_some h
          refine ⟨⟨by omega, by omega, by omega, by omega, by rw [q5]; rfl, by omega⟩, q6, ?_⟩
          unfold Ent.bytes
          rw [q1, q2, q3, by_of, if_neg h3, List.nil_append, ← q7, hs1]
theorem refE_bytes {e : Ent} (he : e.ok) (hr : e.rightB = true) : refE e.bytes = some e := by
  have hrr := (Ent.rightB_iff e he.2.2.2.2.1).1 hr
  obtain ⟨e1, e2, e3, e4, e5, e6⟩ := he
  obtain ⟨ix, tm, kd, sl, tk, body⟩ := e
  dsimp only at *
  obtain ⟨_, _, hk⟩ := hrr
  dsimp only at hk
  unfold refE Ent.bytes
  dsimp only
  rw [readV_grp _ e1]
  dsimp only
  rw [List.drop_left, readV_grp _ e2]
  dsimp only
  rw [← List.drop_drop, List.drop_left, List.drop_left, by_toNat e3]
  have hs := readS_row body [] e6
  rw [List.append_nil] at hs
  by_cases h3 : kd = 3
  · rw [if_pos h3, if_pos h3, if_neg (show ¬ (kd = 1 ∨ kd = 5) by omega)]
    have hd : (by_ sl :: tk ++ rowS body).drop 9 = rowS body := by
      rw [List.cons_append, List.drop_succ_cons, ← e5, List.drop_left]
    have ht : ((by_ sl :: tk ++ rowS body).drop 1).take 8 = tk := by
      rw [List.cons_append, List.drop_succ_cons, List.drop_zero, ← e5, List.take_left]
    have h0 : (by_ sl :: tk ++ rowS body).getD 0 0 = by_ sl := rfl
    rw [if_pos (by rw [List.length_append, List.length_cons]; omega), hd, ht, h0, by_toNat e4]
    unfold tailE
    rw [if_pos (by omega), hs]
    dsimp only
    rw [if_pos ⟨rfl, hr⟩]
  · rw [if_neg h3] at hk
    obtain ⟨k1, k2, hk⟩ := hk
    rw [if_neg h3, if_neg h3, List.nil_append]
    subst k1 k2
    unfold tailE
    by_cases h1 : kd = 1 ∨ kd = 5
    · rw [if_pos h1] at hk
      subst hk
      rw [if_pos h1, if_neg (by omega), if_pos ⟨rfl, hr⟩]
    · rw [if_neg h1] at hk
      rw [if_neg h1, if_pos (by
        by_cases h2 : kd = 2
        · omega
        · rw [if_neg h2] at hk; omega), hs]
      dsimp only
      rw [if_pos ⟨rfl, hr⟩]
theorem refE_eq (s : List UInt8) (hs : s.length < 18446744073709551616) : refE s = readE s := by
  cases h : readE s with
  | some e =>
    obtain ⟨h1, h2, h3⟩ := readE_some hs h
    rw [← h3]
    exact refE_bytes h1 ((Ent.rightB_iff e h1.2.2.2.2.1).2 h2)
  | none =>
    cases hr : refE s with
    | none => rfl
    | some e =>
      exfalso
      obtain ⟨hok, h1, h2⟩ := refE_some hs hr
      rw [← h2, readE_bytes hok ((Ent.rightB_iff e hok.2.2.2.2.1).1 h1)] at h
      cases h
theorem refRead_j1 (s : List UInt8) (at_ n m kd sl : Nat) (c0 c1 c2 c3 c4 c5 c6 c7 : UInt8) (k : Nat) (hs : s.length ≤ 1000000000) (hat : at_ ≤ s.length) (hk : 2 * s.length + 20 ≤ k) :
    wapentakeref04_Read.j1 (k + 2) (mkB s) (at_ : Int) (n : Int) (m : Int) (kd : Int) (sl : Int) (c0.toNat : Int) (c1.toNat : Int) (c2.toNat : Int) (c3.toNat : Int) (c4.toNat : Int) (c5.toNat : Int) (c6.toNat : Int) (c7.toNat : Int) (⟨#[]⟩ : ByteArray) = some (encE (tailE n m kd sl [c0, c1, c2, c3, c4, c5, c6, c7] (s.drop at_))) := by
  have key : ∀ x87 : Bool, (x87 = true ↔ (2 ≤ kd ∧ kd ≤ 4)) → wapentakeref04_Read.j2 (k + 1) (mkB s) (at_ : Int) x87 (n : Int) (m : Int) (kd : Int) (sl : Int) (c0.toNat : Int) (c1.toNat : Int) (c2.toNat : Int) (c3.toNat : Int) (c4.toNat : Int) (c5.toNat : Int) (c6.toNat : Int) (c7.toNat : Int) (⟨#[]⟩ : ByteArray) =
      some (encE (tailE n m kd sl [c0, c1, c2, c3, c4, c5, c6, c7] (s.drop at_))) := by
    intro x87 hx
    have hl : (s.drop at_).length = s.length - at_ := List.length_drop ..
    simp only [wapentakeref04_Read.j2]
    unfold tailE
    by_cases h : 2 ≤ kd ∧ kd ≤ 4
    · rw [if_pos (hx.2 h), if_pos h, if_pos (by omega), if_pos (by rw [mkB_size]; omega), Int.toNat_natCast, mkB_from, refReadS_spec _ k (by omega) (by omega), Option.bind_some]
      cases hr : readS (s.drop at_) with
      | none => rw [if_neg (show ¬ ((encS none).2.2 = true) by decide)]; rfl
      | some p =>
        obtain ⟨t, j⟩ := p
        have hj := (readS_some hr).1
        have q1 : (encS (some (t, j))).2.1 = (j : Int) := rfl
        have q2 : (encS (some (t, j))).1 = mkB t := rfl
        rw [if_pos (show (encS (some (t, j))).2.2 = true from rfl), q1, q2, wadd at_ j (by omega), mkB_size]
        clear q1 q2
        dsimp only
        by_cases hjl : j = (s.drop at_).length
        · rw [if_pos (by omega), refRight_spec n m kd sl c0 c1 c2 c3 c4 c5 c6 c7 t k (by omega), Option.bind_some]
          by_cases hb : Ent.rightB ⟨n, m, kd, sl, [c0, c1, c2, c3, c4, c5, c6, c7], t⟩ = true
          · rw [if_pos hb, if_pos ⟨hjl, hb⟩]; rfl
          · rw [if_neg hb, if_neg (fun h => hb h.2)]; rfl
        · rw [if_neg (by omega), if_neg (fun h => hjl h.1)]; rfl
    · rw [if_neg (fun h2 => h (hx.1 h2)), if_neg h, mkB_size]
      by_cases he : s.drop at_ = []
      · have := congrArg List.length he
        rw [hl, List.length_nil] at this
        rw [if_pos (by omega)]
        have h1 := refRight_spec n m kd sl c0 c1 c2 c3 c4 c5 c6 c7 [] k (by omega)
        have h1' : wapentakeref04_Right.f k (n : Int) (m : Int) (kd : Int) (sl : Int) (c0.toNat : Int) (c1.toNat : Int) (c2.toNat : Int) (c3.toNat : Int) (c4.toNat : Int) (c5.toNat : Int) (c6.toNat : Int) (c7.toNat : Int) (⟨#[]⟩ : ByteArray) = _ := h1
        rw [h1', Option.bind_some]
        by_cases hb : Ent.rightB ⟨n, m, kd, sl, [c0, c1, c2, c3, c4, c5, c6, c7], []⟩ = true
        · rw [if_pos hb, if_pos ⟨he, hb⟩]; rfl
        · rw [if_neg hb, if_neg (fun h => hb h.2)]; rfl
      · have hne : (s.drop at_).length ≠ 0 := fun h => he (List.eq_nil_of_length_eq_zero h)
        rw [if_neg (by omega), if_neg (fun h => he h.1)]; rfl
  simp only [wapentakeref04_Read.j1]
  by_cases h2 : 2 ≤ kd
  · rw [if_pos (show (kd : Int) ≥ 2 by omega)]; exact key _ (by rw [decide_eq_true_eq]; omega)
  · rw [if_neg (show ¬ (kd : Int) ≥ 2 by omega)]; exact key _ (by simp; omega)
theorem wq (a i : Nat) (h : a + i ≤ 9000000000) : wrap64 (wrap64 ((a : Int) + 1) + (i : Int)) = ((a + (i + 1) : Nat) : Int) := by
  have e : wrap64 ((a : Int) + 1) = ((a + 1 : Nat) : Int) := wadd a 1 (by omega)
  rw [e, wadd (a + 1) i (by omega), Nat.add_assoc, Nat.add_comm 1 i]
theorem refRead_tok (s : List UInt8) (at_ n m kd sl : Nat) (k : Nat) (hs : s.length ≤ 1000000000) (hat : at_ + 9 ≤ s.length) (z : ByteArray) :
    wapentakeref04_Read.l0 (k + 9) (mkB s) (at_ : Int) 0 (n : Int) (m : Int) (kd : Int) (sl : Int) 0 0 0 0 0 0 0 0 z =
      wapentakeref04_Read.j1 k (mkB s) ((at_ + 9 : Nat) : Int) (n : Int) (m : Int) (kd : Int) (sl : Int) ((s.getD (at_ + 1) 0).toNat : Int) ((s.getD (at_ + 2) 0).toNat : Int) ((s.getD (at_ + 3) 0).toNat : Int) ((s.getD (at_ + 4) 0).toNat : Int) ((s.getD (at_ + 5) 0).toNat : Int) ((s.getD (at_ + 6) 0).toNat : Int) ((s.getD (at_ + 7) 0).toNat : Int) ((s.getD (at_ + 8) 0).toNat : Int) z := by
  have hz : ∀ i : Nat, at_ + i < s.length → 0 ≤ ((at_ + i : Nat) : Int) ∧ ((at_ + i : Nat) : Int) < ((mkB s).size : Int) := fun i h => by rw [mkB_size]; omega
  have hb : ∀ i : Nat, at_ + i < s.length → bt (mkB s) ((at_ + i : Nat) : Int) = ((s.getD (at_ + i) 0).toNat : Int) := fun i h => bt_at_ s _ h
  rw [wapentakeref04_Read.l0, if_pos (by decide), show wrap64 (wrap64 ((at_ : Int) + 1) + 0) = ((at_ + 1 : Nat) : Int) from wq at_ 0 (by omega), if_pos (hz 1 (by omega)).1, if_pos (hz 1 (by omega)).2, if_pos (by decide), if_pos rfl, hb 1 (by omega), show wrap64 (0 + 1) = 1 from by unfold wrap64; omega]
  rw [wapentakeref04_Read.l0, if_pos (by decide), show wrap64 (wrap64 ((at_ : Int) + 1) + 1) = ((at_ + 2 : Nat) : Int) from wq at_ 1 (by omega), if_pos (hz 2 (by omega)).1, if_pos (hz 2 (by omega)).2, if_pos (by decide), if_neg (by decide), if_pos rfl, hb 2 (by omega), show wrap64 (1 + 1) = 2 from by unfold wrap64; omega]
  rw [wapentakeref04_Read.l0, if_pos (by decide), show wrap64 (wrap64 ((at_ : Int) + 1) + 2) = ((at_ + 3 : Nat) : Int) from wq at_ 2 (by omega), if_pos (hz 3 (by omega)).1, if_pos (hz 3 (by omega)).2, if_pos (by decide), if_neg (by decide), if_neg (by decide), if_pos rfl, hb 3 (by omega), show wrap64 (2 + 1) = 3 from by unfold wrap64; omega]
  rw [wapentakeref04_Read.l0, if_pos (by decide), show wrap64 (wrap64 ((at_ : Int) + 1) + 3) = ((at_ + 4 : Nat) : Int) from wq at_ 3 (by omega), if_pos (hz 4 (by omega)).1, if_pos (hz 4 (by omega)).2, if_pos (by decide), if_neg (by decide), if_neg (by decide), if_neg (by decide), if_pos rfl, hb 4 (by omega), show wrap64 (3 + 1) = 4 from by unfold wrap64; omega]
  rw [wapentakeref04_Read.l0, if_pos (by decide), show wrap64 (wrap64 ((at_ : Int) + 1) + 4) = ((at_ + 5 : Nat) : Int) from wq at_ 4 (by omega), if_pos (hz 5 (by omega)).1, if_pos (hz 5 (by omega)).2, if_pos (by decide), if_neg (by decide), if_neg (by decide), if_neg (by decide), if_neg (by decide), if_pos rfl, hb 5 (by omega), show wrap64 (4 + 1) = 5 from by unfold wrap64; omega]
  rw [wapentakeref04_Read.l0, if_pos (by decide), show wrap64 (wrap64 ((at_ : Int) + 1) + 5) = ((at_ + 6 : Nat) : Int) from wq at_ 5 (by omega), if_pos (hz 6 (by omega)).1, if_pos (hz 6 (by omega)).2, if_pos (by decide), if_neg (by decide), if_neg (by decide), if_neg (by decide), if_neg (by decide), if_neg (by decide), if_pos rfl, hb 6 (by omega), show wrap64 (5 + 1) = 6 from by unfold wrap64; omega]
  rw [wapentakeref04_Read.l0, if_pos (by decide), show wrap64 (wrap64 ((at_ : Int) + 1) + 6) = ((at_ + 7 : Nat) : Int) from wq at_ 6 (by omega), if_pos (hz 7 (by omega)).1, if_pos (hz 7 (by omega)).2, if_pos (by decide), if_neg (by decide), if_neg (by decide), if_neg (by decide), if_neg (by decide), if_neg (by decide), if_neg (by decide), if_pos rfl, hb 7 (by omega), show wrap64 (6 + 1) = 7 from by unfold wrap64; omega]
  rw [wapentakeref04_Read.l0, if_pos (by decide), show wrap64 (wrap64 ((at_ : Int) + 1) + 7) = ((at_ + 8 : Nat) : Int) from wq at_ 7 (by omega), if_pos (hz 8 (by omega)).1, if_pos (hz 8 (by omega)).2, if_pos (by decide), if_neg (by decide), if_neg (by decide), if_neg (by decide), if_neg (by decide), if_neg (by decide), if_neg (by decide), if_neg (by decide), if_pos rfl, hb 8 (by omega), show wrap64 (7 + 1) = 8 from by unfold wrap64; omega]
  rw [wapentakeref04_Read.l0, if_neg (by decide), show wrap64 ((at_ : Int) + 9) = ((at_ + 9 : Nat) : Int) from wadd at_ 9 (by omega)]
theorem Ent.bytes_long (e : Ent) : 3 ≤ e.bytes.length := by
  unfold Ent.bytes
  have h1 := grp_length e.ix
  have h2 := grp_length e.tm
  simp only [List.length_cons, List.length_append]
  omega
theorem refRead_spec (s : List UInt8) (k : Nat) (hs : s.length ≤ 1000000000) (hk : 2 * s.length + 60 ≤ k) : wapentakeref04_Read.f k (mkB s) = some (encE (readE s)) := by
  rw [← refE_eq s (by omega)]
  unfold wapentakeref04_Read.f
  by_cases h3 : s.length < 3
  · rw [if_pos (by rw [mkB_size]; omega)]
    have : refE s = none := by
      cases hr : refE s with
      | none => rfl
      | some e =>
        obtain ⟨_, _, h⟩ := refE_some (by omega) hr
        have := e.bytes_long
        rw [h] at this
        omega
    rw [this]; rfl
  · rw [if_neg (by rw [mkB_size]; omega)]
    match s, h3 with
    | c :: s1, h3 =>
      have hc := c.toNat_lt
      have hlen : (c :: s1).length = s1.length + 1 := rfl
      have hd1 : (mkB (c :: s1)).extract 1 (mkB (c :: s1)).size = mkB s1 := by rw [mkB_from]; rfl
      rw [if_pos (by rw [mkB_size]; omega), if_pos (by rw [mkB_size]; omega), hd1, refReadV_spec s1 k (by omega) (by omega), Option.bind_some]
      unfold refE
      dsimp only
      cases h1 : readV s1 with
      | none => rw [if_neg (show ¬ ((encV none).2.2 = true) by decide)]; rfl
      | some p =>
        obtain ⟨n, a⟩ := p
        obtain ⟨_, _, _, a4, _⟩ := readV_some h1
        have hd2 : (mkB (c :: s1)).extract (((1 + a : Nat) : Int)).toNat (mkB (c :: s1)).size = mkB (s1.drop a) := by
          rw [mkB_from, Int.toNat_natCast, Nat.add_comm, List.drop_succ_cons]
        have hx2 : (s1.drop a).length = s1.length - a := List.length_drop ..
        dsimp only
        have q1 : (encV (some (n, a))).2.1 = (a : Int) := rfl
        have q2 : (encV (some (n, a))).1 = (n : Int) := rfl
        rw [if_pos (show (encV (some (n, a))).2.2 = true from rfl), q1, q2, wadd1 a (by omega), if_pos (by omega), if_pos (by rw [mkB_size]; omega), hd2, refReadV_spec (s1.drop a) k (by omega) (by omega), Option.bind_some]
        cases h2 : readV (s1.drop a) with
        | none => rw [if_neg (show ¬ ((encV none).2.2 = true) by decide)]; rfl
        | some q =>
          obtain ⟨m, b⟩ := q
          obtain ⟨_, _, _, b4, _⟩ := readV_some h2
          have hx3 : (s1.drop (a + b)).length = s1.length - (a + b) := List.length_drop ..
          have hdr : (c :: s1).drop (1 + a + b) = s1.drop (a + b) := by rw [Nat.add_assoc, Nat.add_comm 1, List.drop_succ_cons]
          dsimp only
          have q3 : (encV (some (m, b))).2.1 = (b : Int) := rfl
          have q4 : (encV (some (m, b))).1 = (m : Int) := rfl
          rw [if_pos (show (encV (some (m, b))).2.2 = true from rfl), q3, q4, bt0]
          clear q3 q4
          have hab : 1 + a + b ≤ 2000000000 := by omega
          clear q1 q2
          by_cases hk3 : c.toNat = 3
          · rw [if_pos (show (c.toNat : Int) = 3 by omega), if_pos hk3, wadd (1 + a) b (by omega), show wrap64 (((1 + a + b : Nat) : Int) + 9) = ((1 + a + b + 9 : Nat) : Int) from wadd (1 + a + b) 9 (by omega), mkB_size]
            by_cases h9 : 9 ≤ (s1.drop (a + b)).length
            · obtain ⟨k, rfl⟩ : ∃ j, k = j + 2 + 9 := ⟨k - 11, by omega⟩
              rw [if_neg (by omega), if_pos (by omega), if_pos (by omega), if_pos h9, bt_at_ (c :: s1) (1 + a + b) (by omega),
                refRead_tok (c :: s1) (1 + a + b) n m c.toNat _ (k + 2) hs (by omega), refRead_j1 (c :: s1) (1 + a + b + 9) n m c.toNat _ _ _ _ _ _ _ _ _ k hs (by omega) (by omega)]
              have g : ∀ i, (c :: s1).getD (1 + a + b + i) 0 = (s1.drop (a + b)).getD i 0 := by
                intro i
                rw [← hdr, List.getD_eq_getElem?_getD, List.getD_eq_getElem?_getD, List.getElem?_drop]
              have g0 := g 0
              rw [Nat.add_zero] at g0
              have hd9 : (c :: s1).drop (1 + a + b + 9) = (s1.drop (a + b)).drop 9 := by rw [← hdr, List.drop_drop]
              rw [g0, g, g, g, g, g, g, g, g, hd9]
              congr 2
              match s1.drop (a + b), h9 with
              | x :: r1, h9 =>
                have e2 : (x :: r1).drop 1 = r1 := rfl
                rw [e2, take8_eq r1 (by simp only [List.length_cons] at h9; omega)]
                rfl
            · rw [if_pos (by omega), if_neg h9]; rfl
          · rw [if_neg (show ¬ (c.toNat : Int) = 3 by omega), if_neg hk3, wadd (1 + a) b (by omega)]
            obtain ⟨k, rfl⟩ : ∃ j, k = j + 2 := ⟨k - 2, by omega⟩
            have h := refRead_j1 (c :: s1) (1 + a + b) n m c.toNat 0 0 0 0 0 0 0 0 0 k hs (by omega) (by omega)
            rw [hdr] at h
            exact h
end Go.Proofs.Ytimfgflcflhfcaa.P
