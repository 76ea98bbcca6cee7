/- EntryBack, the plain law: an entry that may be is read as it was, and cut anywhere, or with anything behind it, its bytes are none's; what is read of any bytes has just these. The bounds are the statement's own. -/
import Derived.Test.YtimfgflcflhfcaaSpecEntA
import Derived.Test.YtimfgflcflhfcaaPx22
import Derived.OpenShut
namespace Go.Proofs.Ytimfgflcflhfcaa.Pure
set_option linter.unusedVariables false
set_option linter.unusedSimpArgs false
open Go.RowKit Go.Proofs.Ytimfgflcflhfcaa.P Go.Proofs.YtimfgflcflhfcaaW.PrintWords Go.Proofs.YtimfgflcflhfcaaW.PrintLast Go.Proofs.Ytimfgflcflhfcaa.Num
theorem wf_u64 {n : Int} (h : (Lit.int .u64 n).wf = true) : ∃ m : Nat, n = m ∧ m < 18446744073709551616 := by
  simp [Lit.wf, IntKind.min, IntKind.max, IntKind.signed, IntKind.bits] at h
  exact ⟨n.toNat, by omega, by omega⟩
theorem wf_u8 {n : Int} (h : (Lit.int .u8 n).wf = true) : ∃ m : Nat, n = m ∧ m < 256 := by
  simp [Lit.wf, IntKind.min, IntKind.max, IntKind.signed, IntKind.bits] at h
  exact ⟨n.toNat, by omega, by omega⟩
theorem wf_u16 {n : Int} (h : (Lit.int .u16 n).wf = true) : ∃ m : Nat, n = m ∧ m < 65536 := by
  simp [Lit.wf, IntKind.min, IntKind.max, IntKind.signed, IntKind.bits] at h
  exact ⟨n.toNat, by omega, by omega⟩
theorem wf_by {n : Int} (h : (Lit.int .u8 n).wf = true) : ∃ c : UInt8, n = (c.toNat : Int) := by
  obtain ⟨m, rfl, hm⟩ := wf_u8 h
  exact ⟨by_ m, by rw [by_toNat hm]⟩
theorem parseE_body (s : List UInt8) : (parseE s).body.length ≤ s.length := by
  cases s with
  | nil => exact Nat.le_refl _
  | cons c s1 =>
    unfold parseE
    dsimp only
    split
    · have := readS_lt ((s1.drop (((readV s1).getD (0, 0)).2 + ((readV (s1.drop ((readV s1).getD (0, 0)).2)).getD (0, 0)).2)).drop 9)
      simp only [List.length_drop] at this
      simp only [List.length_cons]; omega
    · have := readS_lt (s1.drop (((readV s1).getD (0, 0)).2 + ((readV (s1.drop ((readV s1).getD (0, 0)).2)).getD (0, 0)).2))
      simp only [List.length_drop] at this
      simp only [List.length_cons]; omega
theorem readE_body {s : List UInt8} {e : Ent} (h : readE s = some e) : e.body.length ≤ s.length := by
  unfold readE at h
  split at h
  · obtain rfl := Option.some.inj h; exact parseE_body s
  · cases h
theorem eight {l : List UInt8} (h : l.length = 8) : ∃ c0 c1 c2 c3 c4 c5 c6 c7, l = [c0, c1, c2, c3, c4, c5, c6, c7] := by
  match l, h with
  | [a, b, c, d, e, f, g, i], _ => exact ⟨a, b, c, d, e, f, g, i, rfl⟩
theorem back_j2 (s : List UInt8) (hs : s.length ≤ 4000) (k : Nat) (hk : 15000 ≤ k) : wapentakelaw04_EntryBack.j2 (k + 1) (mkB s) = some true := by
  rw [wapentakelaw04_EntryBack.j2, entRead_spec s k (by omega) (by omega), Option.bind_some, awake04 k (by omega)]
  cases h : readE s with
  | none =>
    have hE : encE none = (0, 0, 0, 0, 0, 0, 0, 0, 0, 0, 0, 0, (⟨#[]⟩ : ByteArray), false) := rfl
    rw [hE]
    dsimp only
    rw [if_neg (by decide), if_pos (by decide +kernel)]
    rfl
  | some e =>
    obtain ⟨h1, h2, h3⟩ := readE_some (by omega) h
    have hb := readE_body h
    have hr := (Ent.rightB_iff e h1.2.2.2.2.1).2 h2
    obtain ⟨ix, tm, kd, sl, tk, body⟩ := e
    obtain ⟨e1, e2, e3, e4, e5, e6⟩ := h1
    dsimp only at e1 e2 e3 e4 e5 e6 hb
    obtain ⟨c0, c1, c2, c3, c4, c5, c6, c7, rfl⟩ := eight e5
    have hE : encE (some ⟨ix, tm, kd, sl, [c0, c1, c2, c3, c4, c5, c6, c7], body⟩) = ((ix : Int), (tm : Int), (kd : Int), (sl : Int), (c0.toNat : Int), (c1.toNat : Int), (c2.toNat : Int), (c3.toNat : Int), (c4.toNat : Int), (c5.toNat : Int), (c6.toNat : Int), (c7.toNat : Int), mkB body, true) := rfl
    rw [hE]
    dsimp only
    rw [if_pos rfl, entRight_spec ix tm kd sl c0 c1 c2 c3 c4 c5 c6 c7 body k (by omega), Option.bind_some, if_pos hr, entWrite_spec ix tm kd sl c0 c1 c2 c3 c4 c5 c6 c7 body k e1 e2 (by omega) (by omega), Option.bind_some, mkB_toList, mkB_toList]
    unfold Ent.out
    rw [if_pos hr, if_pos h3]
    rfl
theorem bytes_le (e : Ent) (h : e.ok) : e.bytes.length ≤ 50 + e.body.length := by
  obtain ⟨e1, e2, e3, e4, e5, e6⟩ := h
  have h1 := grp_len_le e1
  have h2 := grp_len_le e2
  have h3 := rowS_length e.body e6
  unfold Ent.bytes
  simp only [List.length_cons, List.length_append]
  split <;> split <;> simp only [List.length_cons, List.length_nil] <;> omega
theorem back_j1 (s : List UInt8) (hs : s.length ≤ 4000) (cut : Nat) (hcut : cut < 65536) (bh : List UInt8) (hbh : bh.length ≤ 100) (ix tm kd sl : Nat) (c0 c1 c2 c3 c4 c5 c6 c7 : UInt8) (b : List UInt8)
    (hix : ix < 18446744073709551616) (htm : tm < 18446744073709551616) (hkd : kd < 256) (hsl : sl < 256) (hb : b.length ≤ 4000) (k : Nat) (hk : 16000 ≤ k) :
    wapentakelaw04_EntryBack.j1 (k + 2) (mkB s) (cut : Int) (mkB bh) (ix : Int) (tm : Int) (kd : Int) (sl : Int) (c0.toNat : Int) (c1.toNat : Int) (c2.toNat : Int) (c3.toNat : Int) (c4.toNat : Int) (c5.toNat : Int) (c6.toNat : Int) (c7.toNat : Int) (mkB b) = some true := by
  have hj2 := back_j2 s hs k (by omega)
  rw [wapentakelaw04_EntryBack.j1, entWrite_spec ix tm kd sl c0 c1 c2 c3 c4 c5 c6 c7 b (k + 1) hix htm (by omega) (by omega), Option.bind_some, entRight_spec ix tm kd sl c0 c1 c2 c3 c4 c5 c6 c7 b (k + 1) (by omega), Option.bind_some, hj2, mkB_toList]
  unfold Ent.out
  have hok : Ent.ok ⟨ix, tm, kd, sl, [c0, c1, c2, c3, c4, c5, c6, c7], b⟩ := ⟨hix, htm, hkd, hsl, rfl, by show b.length < _; omega⟩
  by_cases hr : Ent.rightB ⟨ix, tm, kd, sl, [c0, c1, c2, c3, c4, c5, c6, c7], b⟩ = true
  · have hrr := (Ent.rightB_iff ⟨ix, tm, kd, sl, [c0, c1, c2, c3, c4, c5, c6, c7], b⟩ rfl).1 hr
    have hl : (Ent.bytes ⟨ix, tm, kd, sl, [c0, c1, c2, c3, c4, c5, c6, c7], b⟩).length ≤ 50 + b.length := bytes_le _ hok
    have hne := Ent.bytes_ne ⟨ix, tm, kd, sl, [c0, c1, c2, c3, c4, c5, c6, c7], b⟩
    have hread := readE_bytes hok hrr
    have hcutN : ∀ j, j < (Ent.bytes ⟨ix, tm, kd, sl, [c0, c1, c2, c3, c4, c5, c6, c7], b⟩).length → readE ((Ent.bytes ⟨ix, tm, kd, sl, [c0, c1, c2, c3, c4, c5, c6, c7], b⟩).take j) = none := fun j hj => readE_cut hok hrr hj (by omega)
    have hmore : bh ≠ [] → readE (Ent.bytes ⟨ix, tm, kd, sl, [c0, c1, c2, c3, c4, c5, c6, c7], b⟩ ++ bh) = none := fun hb2 => readE_more hok hrr hb2 (by rw [List.length_append]; omega)
    have hE : encE (some ⟨ix, tm, kd, sl, [c0, c1, c2, c3, c4, c5, c6, c7], b⟩) = ((ix : Int), (tm : Int), (kd : Int), (sl : Int), (c0.toNat : Int), (c1.toNat : Int), (c2.toNat : Int), (c3.toNat : Int), (c4.toNat : Int), (c5.toNat : Int), (c6.toNat : Int), (c7.toNat : Int), mkB b, true) := rfl
    have hN : (encE none).2.2.2.2.2.2.2.2.2.2.2.2.2 = false := rfl
    rw [hr, if_pos rfl]
    generalize Ent.bytes ⟨ix, tm, kd, sl, [c0, c1, c2, c3, c4, c5, c6, c7], b⟩ = t at hl hne hread hcutN hmore ⊢
    have hpos : 0 < t.length := List.length_pos_iff.2 hne
    have hemp : t.isEmpty = false := by cases t with
      | nil => exact absurd rfl hne
      | cons _ _ => rfl
    have hm : Int.tmod (wrap64 (cut : Int)) (t.length : Int) = ((cut % t.length : Nat) : Int) := by
      rw [wrap64_id (by omega) (by omega), Int.tmod_eq_emod_of_nonneg (by omega)]; rfl
    have hlt : cut % t.length < t.length := Nat.mod_lt _ hpos
    rw [hemp, if_neg (by decide), if_neg hne, entRead_spec t (k + 1) (by omega) (by omega), Option.bind_some, hread, hE, mkB_size, if_neg (by omega), hm]
    clear hm
    rw [if_pos (by omega), if_pos (by omega), mkB_extract, Int.toNat_natCast, List.drop_zero, Nat.sub_zero, entRead_spec _ (k + 1) (by rw [List.length_take]; omega) (by rw [List.length_take]; omega), Option.bind_some, hcutN _ hlt, mkB_size, if_pos (by omega), mkB_append,
      entRead_spec (t ++ bh) (k + 1) (by rw [List.length_append]; omega) (by rw [List.length_append]; omega), Option.bind_some, hN, mkB_toList]
    dsimp only
    rw [if_pos rfl, if_neg (by simp), if_neg (by decide)]
    have hfin : (encE (readE (t ++ bh))).2.2.2.2.2.2.2.2.2.2.2.2.2 = bh.isEmpty := by
      cases bh with
      | nil => rw [List.append_nil, hread]; rfl
      | cons x r => rw [hmore (List.cons_ne_nil _ _)]; rfl
    rw [hfin, mkB_toList, if_neg (by simp)]
  · rw [Bool.not_eq_true] at hr
    have e0 : ∀ l : List UInt8, (if (false = true) then l else []) = [] := fun l => if_neg (by decide)
    rw [hr, e0, if_neg (by decide), if_pos rfl]
theorem EntryBack : wapentakelaw04_EntryBack.Pure := by
  intro a a1 a2 a3 h hs h2 hb
  obtain ⟨f0, f1, f2, f3, ⟨t0, t1, t2, t3, t4, t5, t6, t7⟩, f5⟩ := a
  dsimp only at h ⊢
  obtain ⟨h0, h1, h2', h3, ⟨g0, g1, g2, g3, g4, g5, g6, g7⟩, h5⟩ := h
  obtain ⟨ix, rfl, hix⟩ := wf_u64 h0
  obtain ⟨tm, rfl, htm⟩ := wf_u64 h1
  obtain ⟨kd, rfl, hkd⟩ := wf_u8 h2'
  obtain ⟨sl, rfl, hsl⟩ := wf_u8 h3
  obtain ⟨c0, rfl⟩ := wf_by g0
  obtain ⟨c1, rfl⟩ := wf_by g1
  obtain ⟨c2, rfl⟩ := wf_by g2
  obtain ⟨c3, rfl⟩ := wf_by g3
  obtain ⟨c4, rfl⟩ := wf_by g4
  obtain ⟨c5, rfl⟩ := wf_by g5
  obtain ⟨c6, rfl⟩ := wf_by g6
  obtain ⟨c7, rfl⟩ := wf_by g7
  obtain ⟨cut, rfl, hcut⟩ := wf_u16 h2
  obtain ⟨b, rfl⟩ := mkB_eta f5
  obtain ⟨s, rfl⟩ := mkB_eta a1
  obtain ⟨bh, rfl⟩ := mkB_eta a3
  clear h0 h1 h2 h2' h3 g0 g1 g2 g3 g4 g5 g6 g7 h5 hs hb
  refine ⟨20003, ?_⟩
  unfold wapentakelaw04_EntryBack.f
  have key : ∀ x : Bool, (x = true ↔ (4000 < b.length ∨ 100 < bh.length)) → wapentakelaw04_EntryBack.j0 20003 (mkB s) (cut : Int) (mkB bh) x (ix : Int) (tm : Int) (kd : Int) (sl : Int) (c0.toNat : Int) (c1.toNat : Int) (c2.toNat : Int) (c3.toNat : Int) (c4.toNat : Int) (c5.toNat : Int) (c6.toNat : Int) (c7.toNat : Int) (mkB b) = some true := by
    intro x hx
    rw [wapentakelaw04_EntryBack.j0]
    by_cases hg : 4000 < b.length ∨ 100 < bh.length
    · rw [if_pos (hx.2 hg), awake04 20002 (by omega)]; rfl
    · have hj : ∀ t : List UInt8, t.length ≤ 4000 → _ := fun t ht => back_j1 t ht cut hcut bh (by omega) ix tm kd sl c0 c1 c2 c3 c4 c5 c6 c7 b hix htm hkd hsl (by omega) 20000 (by omega)
      rw [if_neg (fun h => hg (hx.1 h)), mkB_size, mkB_extract, List.drop_zero]
      by_cases h4 : (s.length : Int) > 4000
      · rw [if_pos h4, if_pos (by decide), if_pos (by omega)]
        exact hj _ (by rw [List.length_take]; omega)
      · rw [if_neg h4]
        exact hj s (by omega)
  rw [mkB_size]
  by_cases hb4 : (b.length : Int) > 4000
  · rw [if_pos hb4]; exact key _ ⟨fun _ => .inl (by omega), fun _ => rfl⟩
  · rw [if_neg hb4, mkB_size]; exact key _ (by rw [decide_eq_true_eq]; omega)
end Go.Proofs.Ytimfgflcflhfcaa.Pure
