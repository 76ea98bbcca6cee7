/- What the printed function Read of package entry comes to. -/
import Derived.Test.YtimfgflcflhfcaaSpecEntW
import Derived.Test.YtimfgflcflhfcaaPx7
namespace Go.Proofs.Ytimfgflcflhfcaa.P
set_option linter.unusedVariables false
set_option linter.unusedSimpArgs false
open Go.RowKit Go.Proofs.YtimfgflcflhfcaaW.PrintWords Go.Proofs.YtimfgflcflhfcaaW.PrintLast Go.Proofs.YtimfgflcflhfcaaW.PrintMore Go.Proofs.Ytimfgflcflhfcaa.Num
/-- the entry of a text, if it is one's -/
def readE (s : List UInt8) : Option Ent := if (parseE s).rightB = true ∧ (parseE s).bytes = s then some (parseE s) else none
theorem readE_some {s : List UInt8} {e : Ent} (hs : s.length < 18446744073709551616) (h : readE s = some e) : e.ok ∧ e.right ∧ e.bytes = s := by
  unfold readE at h
  split at h
  · rename_i hc
    obtain rfl := Option.some.inj h
    have ho := parseE_ok s hs
    exact ⟨ho, (Ent.rightB_iff _ ho.2.2.2.2.1).1 hc.1, hc.2⟩
  · cases h
theorem readE_bytes {e : Ent} (he : e.ok) (hr : e.right) : readE e.bytes = some e := by
  unfold readE
  rw [parseE_bytes he hr, if_pos ⟨(Ent.rightB_iff _ he.2.2.2.2.1).2 hr, rfl⟩]
theorem readE_none {s : List UInt8} (h : ∀ e : Ent, e.ok → e.right → e.bytes ≠ s) (hs : s.length < 18446744073709551616) : readE s = none := by
  cases hr : readE s with
  | none => rfl
  | some e => obtain ⟨h1, h2, h3⟩ := readE_some hs hr; exact absurd h3 (h e h1 h2)
/-- something behind an entry's bytes: none's -/
theorem readE_more {e : Ent} (he : e.ok) (hr : e.right) {t : List UInt8} (ht : t ≠ []) (hl : (e.bytes ++ t).length < 18446744073709551616) : readE (e.bytes ++ t) = none :=
  readE_none (fun f hf hs h => ht (Ent.apart he hf hr hs (s := t) (t := []) (by rw [List.append_nil]; exact h.symm)).2) hl
/-- an entry's bytes that are cut: none's -/
theorem readE_cut {e : Ent} (he : e.ok) (hr : e.right) {k : Nat} (hk : k < e.bytes.length) (hl : e.bytes.length < 18446744073709551616) : readE (e.bytes.take k) = none :=
  readE_none (fun f hf hs h => by
    have h2 : f.bytes ++ e.bytes.drop k = e.bytes ++ [] := by rw [h, List.take_append_drop, List.append_nil]
    have h3 := (Ent.apart hf he hs hr h2).2
    have := congrArg List.length h3
    rw [List.length_drop, List.length_nil] at this
    omega) (by rw [List.length_take]; omega)
/-- an entry, as the printed function tells it -/
def encE : Option Ent → Int × Int × Int × Int × Int × Int × Int × Int × Int × Int × Int × Int × ByteArray × Bool
  | none => (0, 0, 0, 0, 0, 0, 0, 0, 0, 0, 0, 0, (⟨#[]⟩ : ByteArray), false)
  | some e => ((e.ix : Int), (e.tm : Int), (e.kd : Int), (e.sl : Int), ((e.tk.getD 0 0).toNat : Int), ((e.tk.getD 1 0).toNat : Int), ((e.tk.getD 2 0).toNat : Int), ((e.tk.getD 3 0).toNat : Int), ((e.tk.getD 4 0).toNat : Int), ((e.tk.getD 5 0).toNat : Int),
    ((e.tk.getD 6 0).toNat : Int), ((e.tk.getD 7 0).toNat : Int), mkB e.body, true)
theorem encV_get (o : Option (Nat × Nat)) : (encV o).1 = ((o.getD (0, 0)).1 : Int) ∧ (encV o).2.1 = ((o.getD (0, 0)).2 : Int) := by cases o <;> exact ⟨rfl, rfl⟩
theorem encS_get (o : Option (List UInt8 × Nat)) : (encS o).1 = mkB (o.getD ([], 0)).1 := by cases o <;> rfl
theorem readV_lt (t : List UInt8) : ((readV t).getD (0, 0)).1 < 18446744073709551616 ∧ ((readV t).getD (0, 0)).2 ≤ t.length := by
  cases h : readV t with
  | none => exact ⟨by decide, Nat.zero_le _⟩
  | some p => exact ⟨(readV_some h).1, (readV_some h).2.2.2.1⟩
theorem readS_lt (t : List UInt8) : ((readS t).getD ([], 0)).1.length ≤ t.length := by
  cases h : readS t with
  | none => exact Nat.zero_le _
  | some p =>
    obtain ⟨h1, _, _, h4⟩ := readS_some (t := p.1) (k := p.2) h
    show p.1.length ≤ t.length
    omega
/-- the end of Read -/
theorem entRead_j1 (s r : List UInt8) (n m kd sl : Nat) (c0 c1 c2 c3 c4 c5 c6 c7 : UInt8) (k : Nat) (hn : n < 18446744073709551616) (hm : m < 18446744073709551616) (hs : s ≠ []) (hr : r.length ≤ 1000000000) (hk : 3 * r.length + 10 ≤ k) (z : ByteArray) :
    entry_Read.j1 (k + 1) (mkB s) (mkB r) (n : Int) (m : Int) (kd : Int) (sl : Int) (c0.toNat : Int) (c1.toNat : Int) (c2.toNat : Int) (c3.toNat : Int) (c4.toNat : Int) (c5.toNat : Int) (c6.toNat : Int) (c7.toNat : Int) z =
      some (encE (if (Ent.rightB ⟨n, m, kd, sl, [c0, c1, c2, c3, c4, c5, c6, c7], ((readS r).getD ([], 0)).1⟩ = true ∧ Ent.bytes ⟨n, m, kd, sl, [c0, c1, c2, c3, c4, c5, c6, c7], ((readS r).getD ([], 0)).1⟩ = s) then
        some ⟨n, m, kd, sl, [c0, c1, c2, c3, c4, c5, c6, c7], ((readS r).getD ([], 0)).1⟩ else none)) := by
  simp only [entry_Read.j1]
  rw [readS_spec r k (by omega) (by omega), Option.bind_some, encS_get, entWrite_spec n m kd sl c0 c1 c2 c3 c4 c5 c6 c7 _ k hn hm (by have := readS_lt r; omega) (by omega), Option.bind_some, mkB_toList, mkB_toList]
  unfold Ent.out
  by_cases h : Ent.rightB ⟨n, m, kd, sl, [c0, c1, c2, c3, c4, c5, c6, c7], ((readS r).getD ([], 0)).1⟩ = true
  · rw [if_pos h]
    by_cases h2 : Ent.bytes ⟨n, m, kd, sl, [c0, c1, c2, c3, c4, c5, c6, c7], ((readS r).getD ([], 0)).1⟩ = s
    · rw [if_pos h2, if_pos ⟨h, h2⟩]; rfl
    · rw [if_neg h2, if_neg (fun h3 => h2 h3.2)]; rfl
  · rw [if_neg h, if_neg (fun h3 => hs h3.symm), if_neg (fun h3 => h h3.1)]; rfl
theorem bt0 (c : UInt8) (s : List UInt8) : bt (mkB (c :: s)) 0 = (c.toNat : Int) := by rw [bt_mkB _ _ (by simp)]; rfl
theorem bt_at_ (s : List UInt8) (i : Nat) (h : i < s.length) : bt (mkB s) (i : Int) = ((s.getD i 0).toNat : Int) := by
  rw [bt_mkB _ _ (by simpa using h), List.getD_eq_getElem?_getD, List.getElem?_eq_getElem h]; rfl
theorem mkB_from (s : List UInt8) (i : Nat) : (mkB s).extract i (mkB s).size = mkB (s.drop i) := by
  rw [mkB_extract, mkB_size, List.take_of_length_le (by rw [List.length_drop]; omega)]
theorem take8_eq (s : List UInt8) (h : 8 ≤ s.length) : s.take 8 = [s.getD 0 0, s.getD 1 0, s.getD 2 0, s.getD 3 0, s.getD 4 0, s.getD 5 0, s.getD 6 0, s.getD 7 0] := by
  match s, h with
  | a :: b :: c :: d :: e :: f :: g :: i :: r, _ => rfl
theorem wadd (a b : Nat) (h : a + b ≤ 9000000000000000000) : wrap64 ((a : Int) + (b : Int)) = ((a + b : Nat) : Int) := by
  rw [wrap64_id (by omega) (by omega)]; omega
theorem wadd1 (b : Nat) (h : b ≤ 8000000000000000000) : wrap64 (1 + (b : Int)) = ((1 + b : Nat) : Int) := wadd 1 b (by omega)
theorem entRead_spec (s : List UInt8) (k : Nat) (hl : s.length ≤ 1000000000) (hk : 3 * s.length + 20 ≤ k) : entry_Read.f k (mkB s) = some (encE (readE s)) := by
  unfold entry_Read.f
  match s with
  | [] => rw [if_pos (mkB_toList _)]; rfl
  | c :: s1 =>
    have hc := c.toNat_lt
    have hlen : (c :: s1).length = s1.length + 1 := rfl
    obtain ⟨hp1, hp2⟩ := readV_lt s1
    have hd1 : (mkB (c :: s1)).extract 1 (mkB (c :: s1)).size = mkB s1 := by rw [mkB_from]; rfl
    rw [if_neg (by rw [mkB_toList]; exact List.cons_ne_nil _ _), if_pos (by rw [mkB_size]; omega), if_pos (by rw [mkB_size]; omega), hd1, readV_spec s1 k (by omega), Option.bind_some, (encV_get _).1, (encV_get _).2]
    generalize hp : (readV s1).getD (0, 0) = p at hp1 hp2 ⊢
    obtain ⟨n, a⟩ := p
    dsimp only at hp1 hp2 ⊢
    have hd2 : (mkB (c :: s1)).extract (((1 + a : Nat) : Int)).toNat (mkB (c :: s1)).size = mkB (s1.drop a) := by
      rw [mkB_from, Int.toNat_natCast, Nat.add_comm, List.drop_succ_cons]
    have hx2 : (s1.drop a).length = s1.length - a := List.length_drop ..
    obtain ⟨hq1, hq2⟩ := readV_lt (s1.drop a)
    rw [wadd1 a (by omega), if_pos (by omega), if_pos (by rw [mkB_size]; omega), hd2, readV_spec (s1.drop a) k (by omega), Option.bind_some, (encV_get _).1, (encV_get _).2]
    generalize hq : (readV (s1.drop a)).getD (0, 0) = q at hq1 hq2 ⊢
    obtain ⟨m, b⟩ := q
    dsimp only at hq1 hq2 ⊢
    have hd3 : (mkB (c :: s1)).extract (((1 + (a + b) : Nat) : Int)).toNat (mkB (c :: s1)).size = mkB (s1.drop (a + b)) := by
      rw [mkB_from, Int.toNat_natCast, Nat.add_comm, List.drop_succ_cons]
    have hx3 : (s1.drop (a + b)).length = s1.length - (a + b) := List.length_drop ..
    rw [wadd (1 + a) b (by omega), Nat.add_assoc, if_pos (by omega), if_pos (by rw [mkB_size]; omega), hd3, bt0, mkB_size]
    have hpe : parseE (c :: s1) = if c.toNat = 3 ∧ 8 < (s1.drop (a + b)).length then ⟨n, m, c.toNat, ((s1.drop (a + b)).getD 0 0).toNat, ((s1.drop (a + b)).drop 1).take 8, ((readS ((s1.drop (a + b)).drop 9)).getD ([], 0)).1⟩
        else ⟨n, m, c.toNat, 0, List.replicate 8 0, ((readS (s1.drop (a + b))).getD ([], 0)).1⟩ := by
      unfold parseE
      dsimp only
      rw [hp]
      dsimp only
      rw [hq]
    generalize hr : s1.drop (a + b) = r at hx3 hpe ⊢
    clear hd1 hd2 hd3
    obtain ⟨k, rfl⟩ : ∃ m, k = m + 2 := ⟨k - 2, by omega⟩
    have z0 : (0 : Int) = ((0 : UInt8).toNat : Int) := rfl
    have z0n : (0 : Int) = ((0 : Nat) : Int) := rfl
    have plain : ¬ (c.toNat = 3 ∧ 8 < r.length) → entry_Read.j0 (k + 2) (mkB (c :: s1)) (mkB r) false (n : Int) (m : Int) (c.toNat : Int) 0 0 0 0 0 0 0 0 0 (⟨#[]⟩ : ByteArray) = some (encE (readE (c :: s1))) := by
      intro h
      simp only [entry_Read.j0]
      rw [if_neg (by decide)]
      have h1 := entRead_j1 (c :: s1) r n m c.toNat 0 0 0 0 0 0 0 0 0 k hp1 hq1 (List.cons_ne_nil _ _) (by omega) (by omega) (⟨#[]⟩ : ByteArray)
      rw [if_neg h] at hpe
      unfold readE
      rw [hpe]
      exact h1
    by_cases h3 : c.toNat = 3
    · rw [if_pos (by omega)]
      by_cases h8 : 8 < r.length
      · have e : decide ((r.length : Int) > 8) = true := decide_eq_true (by omega)
        rw [e]
        simp only [entry_Read.j0]
        have hr1 : (mkB r).extract 1 (mkB r).size = mkB (r.drop 1) := mkB_from r 1
        have hr9 : (mkB r).extract 9 (mkB r).size = mkB (r.drop 9) := mkB_from r 9
        have hl1 : (r.drop 1).length = r.length - 1 := List.length_drop ..
        have hl9 : (r.drop 9).length = r.length - 9 := List.length_drop ..
        have b0 : bt (mkB r) 0 = _ := bt_at_ r 0 (by omega)
        have d0 : bt (mkB (r.drop 1)) 0 = _ := bt_at_ (r.drop 1) 0 (by omega)
        have d1 : bt (mkB (r.drop 1)) 1 = _ := bt_at_ (r.drop 1) 1 (by omega)
        have d2 : bt (mkB (r.drop 1)) 2 = _ := bt_at_ (r.drop 1) 2 (by omega)
        have d3 : bt (mkB (r.drop 1)) 3 = _ := bt_at_ (r.drop 1) 3 (by omega)
        have d4 : bt (mkB (r.drop 1)) 4 = _ := bt_at_ (r.drop 1) 4 (by omega)
        have d5 : bt (mkB (r.drop 1)) 5 = _ := bt_at_ (r.drop 1) 5 (by omega)
        have d6 : bt (mkB (r.drop 1)) 6 = _ := bt_at_ (r.drop 1) 6 (by omega)
        have d7 : bt (mkB (r.drop 1)) 7 = _ := bt_at_ (r.drop 1) 7 (by omega)
        rw [if_pos (by decide), if_pos (by rw [mkB_size]; omega), if_pos (by rw [mkB_size]; omega), hr1, if_pos (by rw [mkB_size]; omega), if_pos (by rw [mkB_size]; omega), hr9]
        have h1 := entRead_j1 (c :: s1) (r.drop 9) n m c.toNat (r.getD 0 0).toNat ((r.drop 1).getD 0 0) ((r.drop 1).getD 1 0) ((r.drop 1).getD 2 0) ((r.drop 1).getD 3 0) ((r.drop 1).getD 4 0) ((r.drop 1).getD 5 0) ((r.drop 1).getD 6 0) ((r.drop 1).getD 7 0) k hp1 hq1 (List.cons_ne_nil _ _) (by omega) (by omega) (⟨#[]⟩ : ByteArray)
        rw [if_pos ⟨h3, h8⟩, take8_eq _ (by omega)] at hpe
        unfold readE
        rw [hpe]
        rw [← b0, ← d0, ← d1, ← d2, ← d3, ← d4, ← d5, ← d6, ← d7] at h1
        exact h1
      · have e : decide ((r.length : Int) > 8) = false := decide_eq_false (by omega)
        rw [e]
        exact plain (fun h => h8 h.2)
    · rw [if_neg (by omega)]
      exact plain (fun h => h3 h.1)
end Go.Proofs.Ytimfgflcflhfcaa.P
