/- Plain theory of entries: their bytes, that no entry's bytes are the beginning of another one's, and reading them. -/
import Derived.Test.YtimfgflcflhfcaaSpecReadS
namespace Go.Proofs.Ytimfgflcflhfcaa.P
set_option linter.unusedVariables false
set_option linter.unusedSimpArgs false
open Go.RowKit Go.Proofs.YtimfgflcflhfcaaW.PrintWords Go.Proofs.YtimfgflcflhfcaaW.PrintLast Go.Proofs.YtimfgflcflhfcaaW.PrintMore Go.Proofs.Ytimfgflcflhfcaa.Num
theorem rowS_apart {a b s t : List UInt8} (ha : a.length < 18446744073709551616) (hb : b.length < 18446744073709551616) (h : rowS a ++ s = rowS b ++ t) : a = b ∧ s = t := by
  unfold rowS at h
  rw [List.append_assoc, List.append_assoc] at h
  obtain ⟨h1, h2⟩ := grp_apart ha hb h
  exact List.append_inj h2 h1
theorem by_inj {a b : Nat} (ha : a < 256) (hb : b < 256) (h : by_ a = by_ b) : a = b := by
  have := congrArg UInt8.toNat h
  rwa [by_toNat ha, by_toNat hb] at this
theorem by_of (c : UInt8) : by_ c.toNat = c := by simp [by_]
/-- an entry -/
structure Ent where
  ix : Nat
  tm : Nat
  kd : Nat
  sl : Nat
  tk : List UInt8
  body : List UInt8
def Ent.zero : Ent := ⟨0, 0, 0, 0, List.replicate 8 0, []⟩
/-- may it be? -/
def Ent.right (e : Ent) : Prop :=
  1 ≤ e.ix ∧ 1 ≤ e.tm ∧ (if e.kd = 3 then e.sl ≤ 3 else e.sl = 0 ∧ e.tk = List.replicate 8 0 ∧
    (if e.kd = 1 ∨ e.kd = 5 then e.body = [] else if e.kd = 2 then ∃ b : UInt8, e.body = [b] ∧ 1 ≤ b.toNat ∧ b.toNat ≤ 31 else e.kd = 4))
def Ent.ok (e : Ent) : Prop :=
  e.ix < 18446744073709551616 ∧ e.tm < 18446744073709551616 ∧ e.kd < 256 ∧ e.sl < 256 ∧ e.tk.length = 8 ∧ e.body.length < 18446744073709551616
/-- its bytes -/
def Ent.bytes (e : Ent) : List UInt8 :=
  by_ e.kd :: (grp e.ix ++ (grp e.tm ++ ((if e.kd = 3 then by_ e.sl :: e.tk else []) ++ (if e.kd = 1 ∨ e.kd = 5 then [] else rowS e.body))))
theorem Ent.apart {e f : Ent} (he : e.ok) (hf : f.ok) (hr : e.right) (hs : f.right) {s t : List UInt8} (h : e.bytes ++ s = f.bytes ++ t) : e = f ∧ s = t := by
  obtain ⟨e1, e2, e3, e4, e5, e6⟩ := he
  obtain ⟨f1, f2, f3, f4, f5, f6⟩ := hf
  obtain ⟨_, _, hr⟩ := hr
  obtain ⟨_, _, hs⟩ := hs
  unfold Ent.bytes at h
  simp only [List.append_assoc, List.cons_append, List.cons.injEq] at h
  obtain ⟨hk0, h1⟩ := h
  have hk := by_inj e3 f3 hk0
  clear hk0
  obtain ⟨hi, h2⟩ := grp_apart e1 f1 h1
  obtain ⟨ht, h3⟩ := grp_apart e2 f2 h2
  clear h1 h2
  obtain ⟨ix, tm, kd, sl, tk, body⟩ := e
  obtain ⟨ix', tm', kd', sl', tk', body'⟩ := f
  dsimp only at *
  subst hk hi ht
  by_cases q3 : kd = 3
  · rw [if_pos q3, if_pos q3, if_neg (by omega), if_neg (by omega)] at h3
    simp only [List.cons_append, List.cons.injEq] at h3
    obtain ⟨hsl0, h4⟩ := h3
    have hsl := by_inj e4 f4 hsl0
    obtain ⟨htk, h5⟩ := List.append_inj h4 (by omega)
    obtain ⟨hb, h6⟩ := rowS_apart e6 f6 h5
    clear hsl0 h4 h5
    subst hsl htk hb
    exact ⟨rfl, h6⟩
  · rw [if_neg q3] at hr hs
    rw [if_neg q3, if_neg q3, List.nil_append, List.nil_append] at h3
    obtain ⟨a1, a2, hr⟩ := hr
    obtain ⟨b1, b2, hs⟩ := hs
    by_cases q1 : kd = 1 ∨ kd = 5
    · rw [if_pos q1] at hr hs
      rw [if_pos q1, if_pos q1, List.nil_append, List.nil_append] at h3
      subst a1 a2 b1 b2 hr hs
      exact ⟨rfl, h3⟩
    · rw [if_neg q1, if_neg q1] at h3
      obtain ⟨hb, h4⟩ := rowS_apart e6 f6 h3
      clear h3
      subst a1 a2 b1 b2 hb
      exact ⟨rfl, h4⟩
theorem Ent.inj {e f : Ent} (he : e.ok) (hf : f.ok) (hr : e.right) (hs : f.right) (h : e.bytes = f.bytes) : e = f :=
  (Ent.apart he hf hr hs (s := []) (t := []) (by rw [h])).1
/-- what a text says as an entry, whether or not it may be -/
def parseE (s : List UInt8) : Ent :=
  match s with
  | [] => Ent.zero
  | c :: s1 =>
    let p := (readV s1).getD (0, 0)
    let q := (readV (s1.drop p.2)).getD (0, 0)
    let rest := s1.drop (p.2 + q.2)
    if c.toNat = 3 ∧ 8 < rest.length then ⟨p.1, q.1, c.toNat, (rest.getD 0 0).toNat, (rest.drop 1).take 8, ((readS (rest.drop 9)).getD ([], 0)).1⟩
    else ⟨p.1, q.1, c.toNat, 0, List.replicate 8 0, ((readS rest).getD ([], 0)).1⟩
theorem readS_nil : readS [] = none := by
  unfold readS readV; rw [rdv]
theorem parseE_bytes {e : Ent} (he : e.ok) (hr : e.right) : parseE e.bytes = e := by
  obtain ⟨e1, e2, e3, e4, e5, e6⟩ := he
  obtain ⟨_, _, hr⟩ := hr
  obtain ⟨ix, tm, kd, sl, tk, body⟩ := e
  dsimp only at *
  unfold parseE Ent.bytes
  dsimp only
  rw [readV_grp _ e1]
  simp only [Option.getD_some]
  rw [List.drop_left, readV_grp _ e2]
  simp only [Option.getD_some]
  rw [← List.drop_drop, List.drop_left, List.drop_left, by_toNat e3]
  by_cases h3 : kd = 3
  · rw [if_pos h3, if_neg (show ¬ (kd = 1 ∨ kd = 5) by omega)]
    have hd : (by_ sl :: tk ++ rowS body).drop 9 = rowS body := by
      rw [List.cons_append, List.drop_succ_cons, ← e5, List.drop_left]
    have ht : ((by_ sl :: tk ++ rowS body).drop 1).take 8 = tk := by
      rw [List.cons_append, List.drop_succ_cons, List.drop_zero, ← e5, List.take_left]
    have h0 : (by_ sl :: tk ++ rowS body).getD 0 0 = by_ sl := rfl
    have hs := readS_row body [] e6
    rw [List.append_nil] at hs
    rw [if_pos ⟨h3, by rw [List.length_append, List.length_cons]; omega⟩, hd, ht, h0, by_toNat e4, hs]
    rfl
  · rw [if_neg h3] at hr
    obtain ⟨a1, a2, hr⟩ := hr
    rw [if_neg (fun h => h3 h.1), if_neg h3, List.nil_append]
    by_cases h1 : kd = 1 ∨ kd = 5
    · rw [if_pos h1] at hr ⊢
      rw [readS_nil]
      subst a1 a2 hr
      rfl
    · rw [if_neg h1]
      have hs := readS_row body [] e6
      rw [List.append_nil] at hs
      rw [hs]
      subst a1 a2
      rfl
theorem parseE_ok (s : List UInt8) (hs : s.length < 18446744073709551616) : (parseE s).ok := by
  cases s with
  | nil => exact ⟨(by show 0 < 18446744073709551616; omega), (by show 0 < 18446744073709551616; omega), (by show 0 < 256; omega), (by show 0 < 256; omega), rfl, (by show 0 < 18446744073709551616; omega)⟩
  | cons c s1 =>
    have hV : ∀ t : List UInt8, ((readV t).getD (0, 0)).1 < 18446744073709551616 := by
      intro t
      cases h : readV t with
      | none => decide
      | some p => exact (readV_some h).1
    have hS : ∀ t : List UInt8, t.length < 18446744073709551616 → ((readS t).getD ([], 0)).1.length < 18446744073709551616 := by
      intro t ht
      cases h : readS t with
      | none => decide
      | some p => have := readS_some (t := p.1) (k := p.2) h; exact this.2.2.1
    have hc := c.toNat_lt
    simp only [List.length_cons] at hs
    unfold parseE
    dsimp only
    split
    · rename_i h
      refine ⟨hV _, hV _, by omega, UInt8.toNat_lt _, ?_, hS _ (by simp only [List.length_drop]; omega)⟩
      rw [List.length_take, List.length_drop]; omega
    · exact ⟨hV _, hV _, by omega, (by show 0 < 256; omega), (by show (List.replicate 8 (0 : UInt8)).length = 8; rfl), hS _ (by simp only [List.length_drop]; omega)⟩
theorem Ent.bytes_ne (e : Ent) : e.bytes ≠ [] := by unfold Ent.bytes; exact List.cons_ne_nil _ _
end Go.Proofs.Ytimfgflcflhfcaa.P
