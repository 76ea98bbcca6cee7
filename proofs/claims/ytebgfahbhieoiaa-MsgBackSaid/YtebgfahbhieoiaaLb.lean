/- More of the statements of chapter 05, walked: reading, cutting, copying. -/
import Derived.Test.YtebgfahbhieoiaaLa
namespace Go.Proofs.Ytebgfahbhieoiaa.Wt
open Go Go.Proofs.Ytebgfahbhieoiaa.Am Go.Proofs.Ytebgfahbhieoiaa.IrAll
set_option linter.unusedVariables false
set_option linter.unusedSimpArgs false
variable {h : H}
/-! ### No message's bytes begin another one's -/
theorem vb_cancel {a b : Nat} (ha : a < 18446744073709551616) (hb : b < 18446744073709551616) {x y : List UInt8} (h : vb a ++ x = vb b ++ y) : a = b ∧ x = y := by
  have g1 := getV_vb ha x
  rw [h, getV_vb hb y] at g1
  have e : a = b := by simp at g1; exact g1.1.symm
  subst e
  exact ⟨rfl, List.append_cancel_left h⟩
theorem sb_cancel {a b : List UInt8} (ha : a.length < 18446744073709551616) (hb : b.length < 18446744073709551616) {x y : List UInt8} (h : sb a ++ x = sb b ++ y) : a = b ∧ x = y := by
  have g1 := getS_sb ha x
  rw [h, getS_sb hb y] at g1
  have e : a = b := by simp at g1; exact g1.1.symm
  subst e
  exact ⟨rfl, List.append_cancel_left h⟩
theorem bodyM_pf : ∀ {es fs : List Ent} {t u x y : List UInt8}, AllR es → AllR fs → es.length = fs.length → (bodyM es t).length < 18446744073709551616 → (bodyM fs u).length < 18446744073709551616 → bodyM es t ++ x = bodyM fs u ++ y → es = fs ∧ t = u ∧ x = y := by
  intro es
  induction es with
  | nil =>
    intro fs t u x y _ _ hl h1 h2 h
    have : fs = [] := List.eq_nil_of_length_eq_zero hl.symm
    subst this
    simp only [bodyM, List.flatMap_nil, List.nil_append] at h h1 h2
    obtain ⟨a, b⟩ := sb_cancel (by simp [sb] at h1; omega) (by simp [sb] at h2; omega) h
    exact ⟨rfl, a, b⟩
  | cons e es ih =>
    intro fs t u x y ha hb hl h1 h2 h
    cases fs with
    | nil => simp at hl
    | cons f fs =>
      simp only [bodyM, List.flatMap_cons, List.append_assoc, List.length_append] at h h1 h2
      have se : (encE e).length ≤ (sb (encE e)).length := by simp [sb]
      have sf : (encE f).length ≤ (sb (encE f)).length := by simp [sb]
      obtain ⟨a, b⟩ := sb_cancel (by omega) (by omega) h
      have e1 := enc_body_len (ha e (by simp)) rfl
      have e2 := enc_body_len (hb f (by simp)) rfl
      have := enc_inj (ha e (by simp)) (hb f (by simp)) (by omega) (by omega) a
      obtain ⟨c1, c2, c3⟩ := ih (fs := fs) (t := t) (u := u) (x := x) (y := y) (fun z hz => ha z (by simp [hz])) (fun z hz => hb z (by simp [hz])) (by simpa using hl) (by simp only [bodyM, List.length_append]; omega) (by simp only [bodyM, List.length_append]; omega) (by simp only [bodyM, List.append_assoc]; exact b)
      exact ⟨by rw [this, c1], c2, c3⟩
theorem encM_pf {a b : Msg} {x y : List UInt8} (ha : RightM a) (hb : RightM b) (la : (encM a).length < 18446744073709551616) (lb : (encM b).length < 18446744073709551616) (h : encM a ++ x = encM b ++ y) : a = b ∧ x = y := by
  rw [encM_eq, encM_eq] at h
  rw [encM_eq] at la lb
  simp only [nums, tail1, List.flatMap_cons, List.flatMap_nil, List.append_nil, List.cons_append, List.append_assoc, List.cons.injEq, List.length_cons, List.length_append] at h la lb
  obtain ⟨h1, h2, h3, h⟩ := h
  obtain ⟨n1, h⟩ := vb_cancel a.tm.toNat_lt b.tm.toNat_lt h
  obtain ⟨n2, h⟩ := vb_cancel a.ix.toNat_lt b.ix.toNat_lt h
  obtain ⟨n3, h⟩ := vb_cancel a.lt.toNat_lt b.lt.toNat_lt h
  obtain ⟨n4, h⟩ := vb_cancel a.cm.toNat_lt b.cm.toNat_lt h
  obtain ⟨n5, h⟩ := vb_cancel a.rd.toNat_lt b.rd.toNat_lt h
  simp only [List.cons.injEq] at h
  obtain ⟨o, m1, m2, c, h⟩ := h
  have hc : a.es.length = b.es.length := by
    have q1 := ha.2.2.2.2.2.1
    have q2 := hb.2.2.2.2.2.1
    have := congrArg UInt8.toNat c
    rw [toNat_ofNat (by omega), toNat_ofNat (by omega)] at this; exact this
  obtain ⟨e1, e2, e3⟩ := bodyM_pf ha.2.2.2.2.2.2 hb.2.2.2.2.2.2 hc (by omega) (by omega) h
  refine ⟨?_, e3⟩
  have ok : a.ok = b.ok := by rw [← ok_eq a, ← ok_eq b, o]
  obtain ⟨⟩ := a; obtain ⟨⟩ := b
  simp only at *
  rw [h1, h2, h3, u64_inj n1, u64_inj n2, u64_inj n3, u64_inj n4, u64_inj n5, ok, m1, m2, e1, e2]
theorem read_uniq {l : List UInt8} {a b : Msg} {oa ob : Bool} (hl : l.length < 18446744073709551616) (ya : oa = true → RightM a ∧ encM a = l) (na : oa = false → a = zeroM ∧ ∀ m0, RightM m0 → encM m0 ≠ l) (yb : ob = true → RightM b ∧ encM b = l) (nb : ob = false → b = zeroM ∧ ∀ m0, RightM m0 → encM m0 ≠ l) : a = b ∧ oa = ob := by
  cases oa with
  | true =>
    obtain ⟨r1, e1⟩ := ya rfl
    cases ob with
    | true =>
      obtain ⟨r2, e2⟩ := yb rfl
      exact ⟨(encM_pf (x := []) (y := []) r1 r2 (by rw [e1]; exact hl) (by rw [e2]; exact hl) (by rw [e1, e2])).1, rfl⟩
    | false => exact absurd e1 ((nb rfl).2 a r1)
  | false =>
    cases ob with
    | true => obtain ⟨r2, e2⟩ := yb rfl; exact absurd e2 ((na rfl).2 b r2)
    | false => exact ⟨by rw [(na rfl).1, (nb rfl).1], rfl⟩
theorem zero_small : Small zeroM.es ∧ zeroM.es.length < 9223372036854775808 ∧ zeroM.body.length ≤ 268435456 := ⟨fun x hx => by simp [zeroM] at hx, by decide, by decide⟩
theorem enc_small {m : Msg} {l : List UInt8} (hr : RightM m) (he : encM m = l) (hl : l.length ≤ 268435456) : Small m.es ∧ m.es.length < 9223372036854775808 ∧ m.body.length ≤ 268435456 := by
  refine ⟨fun x hx => ?_, by have := hr.2.2.2.2.2.1; omega, ?_⟩
  · have h1 := ents_len he x hx
    have h2 := enc_body_len (hr.2.2.2.2.2.2 x hx) rfl
    omega
  · have : m.body.length ≤ l.length := by rw [← he]; simp [encM, sb]; omega
    omega
theorem read_small {l : List UInt8} {a : Msg} {oa : Bool} (hl : l.length ≤ 268435456) (ya : oa = true → RightM a ∧ encM a = l) (na : oa = false → a = zeroM ∧ ∀ m0, RightM m0 → encM m0 ≠ l) : Small a.es ∧ a.es.length < 9223372036854775808 ∧ a.body.length ≤ 268435456 := by
  cases oa with
  | true => exact enc_small (ya rfl).1 (ya rfl).2 hl
  | false => rw [(na rfl).1]; exact zero_small
set_option maxRecDepth 4000 in
theorem law_MsgReads (W : Mem h h [] []) {l : List UInt8} {u0 : Value} (l0 : layStr h l [u0]) (k0 : l.length < 9223372036854775808) : Cll tab0 5 [u0] h (fun v _ => v = .bool true) := by
  have l0 : [u0] = [_] := l0
  cases l0
  refine Cll.code rfl rfl ?_
  refine WC.env [(0, _)] rfl ?_
  refine WC.seq ?_
  refine WC.run ?_
  refine WS.op rfl rfl (WS.nil [(0, _)] rfl ?_)
  refine WC.seq ?_
  refine WC.seq ?_
  refine WC.run ?_
  refine WS.op rfl rfl (WS.op rfl (op_lenS (l := l) rfl) ?_)
  refine WS.gtrN (a := (l).length) (b := 7000) rfl rfl rfl (fun e9 => ?_) (fun e9 => ?_)
  · skip
    refine WS.nil [(0, _), (9, _)] rfl ?_
    refine WC.condT rfl ?_
    refine WC.run ?_
    refine WS.op rfl rfl (WS.op rfl (op_slS1 (l := l) 7000 rfl rfl (by first | omega | (simp only [List.length_drop, List.length_take, List.length_append, List.length_cons, List.length_nil, List.length_singleton]; omega) | (simp only [List.length_drop, List.length_take, List.length_append, List.length_cons, List.length_nil, List.length_singleton] at *; omega))) (WS.op rfl rfl (WS.nil [(0, _)] rfl ?_)))
    refine WC.seq ?_
    refine WC.run ?_
    refine WS.op rfl rfl ?_
    refine WS.call rfl rfl rfl (msg_Read_ran W.here (l := ((l).take 7000)) (by first | omega | (rw [List.length_take]; omega))) ?_
    rintro _ h1 ⟨m14, V14, S14, ok14, rfl, O14, hy14, hn14, N2⟩
    obtain ⟨P14, rfl⟩ := O14.shape
    have M3 := W.trans N2
    replace M3 : Mem _ _ (S14 :: _) _ := M3
    refine WS.op rfl rfl (WS.op rfl rfl (WS.op rfl rfl ?_))
    refine WS.new M3 rfl ?_
    intro p4 h5 M6
    refine WS.st1 (M6.focus 0 rfl) [_, _, _, _, _, _, _, _, _, _, _, _, _] [_, _, _, _, _, _, _, _, _, _, _, _, _] rfl rfl rfl rfl rfl (Nat.le_of_ble_eq_true rfl) (Nat.le_of_ble_eq_true rfl) rfl rfl ?_
    intro h7 M8
    replace M8 : Mem _ _ ([(p4, _)] :: S14 :: []) _ := M8
    refine WS.op rfl rfl (WS.nil [(0, _), (3, _), (4, _)] rfl ?_)
    refine WC.seq ?_
    refine WC.run ?_
    refine WS.op rfl rfl ?_
    refine WS.call rfl rfl rfl (ref5_Read_ran M8.here (l := ((l).take 7000)) (by first | omega | (rw [List.length_take]; omega))) ?_
    rintro _ h9 ⟨m19, V19, S19, ok19, rfl, O19, hy19, hn19, N10⟩
    obtain ⟨P19, rfl⟩ := O19.shape
    have M11 := M8.trans N10
    replace M11 : Mem _ _ (S19 :: _) _ := M11
    refine WS.op rfl rfl (WS.op rfl rfl (WS.op rfl rfl ?_))
    refine WS.new M11 rfl ?_
    intro p12 h13 M14
    refine WS.st1 (M14.focus 0 rfl) [_, _, _, _, _, _, _, _, _, _, _, _, _] [_, _, _, _, _, _, _, _, _, _, _, _, _] rfl rfl rfl rfl rfl (Nat.le_of_ble_eq_true rfl) (Nat.le_of_ble_eq_true rfl) rfl rfl ?_
    intro h15 M16
    replace M16 : Mem _ _ ([(p12, _)] :: S19 :: [(p4, _)] :: S14 :: []) _ := M16
    refine WS.op rfl rfl (WS.nil [(3, _), (4, _), (5, _), (6, _)] rfl ?_)
    refine WC.seq ?_
    refine WC.run ?_
    refine WS.op rfl (op_lds [_, _, _, _, _, _, _, _, _, _, _, _, _] (M16.at 2 rfl) rfl (Nat.le_of_ble_eq_true rfl) rfl) (WS.op rfl (op_lds [_, _, _, _, _, _, _, _, _, _, _, _, _] (M16.at 0 rfl) rfl (Nat.le_of_ble_eq_true rfl) rfl) ?_)
    obtain ⟨hq1, hq2⟩ := read_uniq (by first | omega | (rw [List.length_take]; omega)) hy14 hn14 hy19 hn19
    obtain ⟨hz1, hz2, hz3⟩ := read_small (by first | omega | (rw [List.length_take]; omega)) hy14 hn14
    refine WS.call rfl rfl rfl (ref5_Same_ran M16.here (m := m14) (n := m19) (Row.Own.sl O14 (Mem.owni M16 3 rfl)) (Row.Own.sl O19 (Mem.owni M16 1 rfl)) (by omega)) ?_
    rintro _ h17 ⟨rfl, N18⟩
    have M19 := M16.trans N18
    refine WS.op rfl rfl ?_
    cases hb1 : (sameM m14 m19)
    · skip
      rw [hq1, sameM_self] at hb1; cases hb1
    · skip
      refine WS.op rfl rfl (WS.op rfl rfl ?_)
      cases hb2 : ok14
      · skip
        cases hb3 : ok19
        · skip
          refine WS.opV (.bool true) rfl rfl rfl (WS.op rfl rfl (WS.op rfl rfl ?_))
          refine WS.call rfl rfl rfl (awake_ran M19.here ) ?_
          rintro _ h20 ⟨rfl, N21⟩
          have M22 := M19.trans N21
          refine WS.op rfl rfl (WS.op rfl rfl (WS.nil [(2, _)] rfl ?_))
          refine WC.ret ?_
          refine ⟨[_], (res_tmp rfl res_nil), ?_⟩
          rfl
        · skip
          refine WS.opV (.bool false) rfl rfl rfl (WS.op rfl rfl (WS.op rfl rfl (WS.offC rfl (WS.op rfl rfl (WS.op rfl rfl (WS.nil [(2, _)] rfl ?_))))))
          refine WC.ret ?_
          refine ⟨[_], (res_tmp rfl res_nil), ?_⟩
          exfalso; rw [hb2, hb3] at hq2; cases hq2
      · skip
        cases hb3 : ok19
        · skip
          refine WS.opV (.bool false) rfl rfl rfl (WS.op rfl rfl (WS.op rfl rfl (WS.offC rfl (WS.op rfl rfl (WS.op rfl rfl (WS.nil [(2, _)] rfl ?_))))))
          refine WC.ret ?_
          refine ⟨[_], (res_tmp rfl res_nil), ?_⟩
          exfalso; rw [hb2, hb3] at hq2; cases hq2
        · skip
          refine WS.opV (.bool true) rfl rfl rfl (WS.op rfl rfl (WS.op rfl rfl ?_))
          refine WS.call rfl rfl rfl (awake_ran M19.here ) ?_
          rintro _ h23 ⟨rfl, N24⟩
          have M25 := M19.trans N24
          refine WS.op rfl rfl (WS.op rfl rfl (WS.nil [(2, _)] rfl ?_))
          refine WC.ret ?_
          refine ⟨[_], (res_tmp rfl res_nil), ?_⟩
          rfl
  · skip
    refine WS.nil [(0, _), (9, _)] rfl ?_
    refine WC.condF rfl ?_
    refine WC.skip ?_
    refine WC.seq ?_
    refine WC.run ?_
    refine WS.op rfl rfl ?_
    refine WS.call rfl rfl rfl (msg_Read_ran W.here (l := l) (by first | omega | (rw [List.length_take]; omega))) ?_
    rintro _ h26 ⟨m14, V14, S14, ok14, rfl, O14, hy14, hn14, N27⟩
    obtain ⟨P14, rfl⟩ := O14.shape
    have M28 := W.trans N27
    replace M28 : Mem _ _ (S14 :: _) _ := M28
    refine WS.op rfl rfl (WS.op rfl rfl (WS.op rfl rfl ?_))
    refine WS.new M28 rfl ?_
    intro p29 h30 M31
    refine WS.st1 (M31.focus 0 rfl) [_, _, _, _, _, _, _, _, _, _, _, _, _] [_, _, _, _, _, _, _, _, _, _, _, _, _] rfl rfl rfl rfl rfl (Nat.le_of_ble_eq_true rfl) (Nat.le_of_ble_eq_true rfl) rfl rfl ?_
    intro h32 M33
    replace M33 : Mem _ _ ([(p29, _)] :: S14 :: []) _ := M33
    refine WS.op rfl rfl (WS.nil [(0, _), (3, _), (4, _)] rfl ?_)
    refine WC.seq ?_
    refine WC.run ?_
    refine WS.op rfl rfl ?_
    refine WS.call rfl rfl rfl (ref5_Read_ran M33.here (l := l) (by first | omega | (rw [List.length_take]; omega))) ?_
    rintro _ h34 ⟨m19, V19, S19, ok19, rfl, O19, hy19, hn19, N35⟩
    obtain ⟨P19, rfl⟩ := O19.shape
    have M36 := M33.trans N35
    replace M36 : Mem _ _ (S19 :: _) _ := M36
    refine WS.op rfl rfl (WS.op rfl rfl (WS.op rfl rfl ?_))
    refine WS.new M36 rfl ?_
    intro p37 h38 M39
    refine WS.st1 (M39.focus 0 rfl) [_, _, _, _, _, _, _, _, _, _, _, _, _] [_, _, _, _, _, _, _, _, _, _, _, _, _] rfl rfl rfl rfl rfl (Nat.le_of_ble_eq_true rfl) (Nat.le_of_ble_eq_true rfl) rfl rfl ?_
    intro h40 M41
    replace M41 : Mem _ _ ([(p37, _)] :: S19 :: [(p29, _)] :: S14 :: []) _ := M41
    refine WS.op rfl rfl (WS.nil [(3, _), (4, _), (5, _), (6, _)] rfl ?_)
    refine WC.seq ?_
    refine WC.run ?_
    refine WS.op rfl (op_lds [_, _, _, _, _, _, _, _, _, _, _, _, _] (M41.at 2 rfl) rfl (Nat.le_of_ble_eq_true rfl) rfl) (WS.op rfl (op_lds [_, _, _, _, _, _, _, _, _, _, _, _, _] (M41.at 0 rfl) rfl (Nat.le_of_ble_eq_true rfl) rfl) ?_)
    obtain ⟨hq1, hq2⟩ := read_uniq (by first | omega | (rw [List.length_take]; omega)) hy14 hn14 hy19 hn19
    obtain ⟨hz1, hz2, hz3⟩ := read_small (by first | omega | (rw [List.length_take]; omega)) hy14 hn14
    refine WS.call rfl rfl rfl (ref5_Same_ran M41.here (m := m14) (n := m19) (Row.Own.sl O14 (Mem.owni M41 3 rfl)) (Row.Own.sl O19 (Mem.owni M41 1 rfl)) (by omega)) ?_
    rintro _ h42 ⟨rfl, N43⟩
    have M44 := M41.trans N43
    refine WS.op rfl rfl ?_
    cases hb1 : (sameM m14 m19)
    · skip
      rw [hq1, sameM_self] at hb1; cases hb1
    · skip
      refine WS.op rfl rfl (WS.op rfl rfl ?_)
      cases hb2 : ok14
      · skip
        cases hb3 : ok19
        · skip
          refine WS.opV (.bool true) rfl rfl rfl (WS.op rfl rfl (WS.op rfl rfl ?_))
          refine WS.call rfl rfl rfl (awake_ran M44.here ) ?_
          rintro _ h45 ⟨rfl, N46⟩
          have M47 := M44.trans N46
          refine WS.op rfl rfl (WS.op rfl rfl (WS.nil [(2, _)] rfl ?_))
          refine WC.ret ?_
          refine ⟨[_], (res_tmp rfl res_nil), ?_⟩
          rfl
        · skip
          refine WS.opV (.bool false) rfl rfl rfl (WS.op rfl rfl (WS.op rfl rfl (WS.offC rfl (WS.op rfl rfl (WS.op rfl rfl (WS.nil [(2, _)] rfl ?_))))))
          refine WC.ret ?_
          refine ⟨[_], (res_tmp rfl res_nil), ?_⟩
          exfalso; rw [hb2, hb3] at hq2; cases hq2
      · skip
        cases hb3 : ok19
        · skip
          refine WS.opV (.bool false) rfl rfl rfl (WS.op rfl rfl (WS.op rfl rfl (WS.offC rfl (WS.op rfl rfl (WS.op rfl rfl (WS.nil [(2, _)] rfl ?_))))))
          refine WC.ret ?_
          refine ⟨[_], (res_tmp rfl res_nil), ?_⟩
          exfalso; rw [hb2, hb3] at hq2; cases hq2
        · skip
          refine WS.opV (.bool true) rfl rfl rfl (WS.op rfl rfl (WS.op rfl rfl ?_))
          refine WS.call rfl rfl rfl (awake_ran M44.here ) ?_
          rintro _ h48 ⟨rfl, N49⟩
          have M50 := M44.trans N49
          refine WS.op rfl rfl (WS.op rfl rfl (WS.nil [(2, _)] rfl ?_))
          refine WC.ret ?_
          refine ⟨[_], (res_tmp rfl res_nil), ?_⟩
          rfl
theorem encM_ne (m : Msg) : encM m ≠ [] := by rw [encM_eq]; simp
theorem wr_right {m : Msg} (h : writeM m ≠ []) : rightMB m = true := by
  cases q : rightMB m with
  | true => rfl
  | false => exact absurd (writeM_f q) h
theorem flat_len6 {es : List Ent} (hs : ∀ x ∈ es, x.body.length ≤ 6000) : (es.flatMap fun e => sb (encE e)).length ≤ es.length * 6100 := by
  induction es with
  | nil => simp
  | cons e es ih =>
    have h1 := ih fun x hx => hs x (by simp [hx])
    have h2 := hs e (by simp)
    have h3 := encE_len (e := e) (by omega)
    have h4 := sb_len (t := encE e) (by omega)
    simp only [List.flatMap_cons, List.length_append, List.length_cons]; omega
theorem writeM_len {m : Msg} (hs : ∀ x ∈ m.es, x.body.length ≤ 6000) (hb : m.body.length ≤ 6000) : (writeM m).length ≤ 100000 := by
  unfold writeM
  split
  · rename_i hr
    have h8 := (rightMB_iff.1 hr).2.2.2.2.2.1
    have h1 := flat_len6 hs
    have h2 := sb_len (t := m.body) (by omega)
    have v1 := vb64 m.tm
    have v2 := vb64 m.ix
    have v3 := vb64 m.lt
    have v4 := vb64 m.cm
    have v5 := vb64 m.rd
    simp only [encM, headM, List.length_append, List.length_cons, List.length_nil]; omega
  · simp
theorem back_self {m a : Msg} {oa : Bool} (hl : (writeM m).length < 18446744073709551616) (hR : rightMB m = true) (ya : oa = true → RightM a ∧ encM a = writeM m) (na : oa = false → a = zeroM ∧ ∀ m0, RightM m0 → encM m0 ≠ writeM m) : oa = true ∧ a = m := by
  have hr := rightMB_iff.1 hR
  rw [writeM_t hR] at hl ya na
  cases oa with
  | true => obtain ⟨r, e⟩ := ya rfl; exact ⟨rfl, (encM_pf (x := []) (y := []) r hr (by rw [e]; exact hl) hl (by rw [e])).1⟩
  | false => exact absurd rfl ((na rfl).2 m hr)
theorem back_short {m a : Msg} {oa : Bool} {k : Nat} (hk : k < (writeM m).length) (ya : oa = true → RightM a ∧ encM a = (writeM m).take k) (hR : rightMB m = true) (hl : (writeM m).length < 18446744073709551616) : oa = false := by
  have hr := rightMB_iff.1 hR
  rw [writeM_t hR] at hl ya hk
  cases oa with
  | false => rfl
  | true =>
    obtain ⟨r, e⟩ := ya rfl
    have h1 : encM a ++ (encM m).drop k = encM m ++ [] := by rw [e, List.take_append_drop, List.append_nil]
    have h2 := (encM_pf r hr (by rw [e, List.length_take]; omega) hl h1).2
    have := congrArg List.length h2
    rw [List.length_drop] at this; simp at this; omega
theorem back_more {m a : Msg} {oa : Bool} {bh : List UInt8} (hR : rightMB m = true) (ya : oa = true → RightM a ∧ encM a = writeM m ++ bh) (na : oa = false → a = zeroM ∧ ∀ m0, RightM m0 → encM m0 ≠ writeM m ++ bh) (hl : (writeM m ++ bh).length < 18446744073709551616) : oa = true ↔ bh = [] := by
  have hr := rightMB_iff.1 hR
  rw [writeM_t hR] at hl ya na
  rw [List.length_append] at hl
  constructor
  · intro h
    obtain ⟨r, e⟩ := ya h
    have h1 : encM a ++ [] = encM m ++ bh := by rw [List.append_nil, e]
    exact ((encM_pf r hr (by rw [e, List.length_append]; omega) (by omega) h1).2).symm
  · intro h
    subst h
    cases oa with
    | true => rfl
    | false => exact absurd (List.append_nil _).symm ((na rfl).2 m hr)
theorem read_wr {l : List UInt8} {a : Msg} {oa : Bool} (ya : oa = true → RightM a ∧ encM a = l) : oa = true → rightMB a = true ∧ writeM a = l := fun h => by
  obtain ⟨r, e⟩ := ya h
  exact ⟨rightMB_iff.2 r, by rw [writeM_t (rightMB_iff.2 r), e]⟩
set_option maxRecDepth 4000 in
theorem law_MsgBack (W : Mem h h [] []) {m : Msg} {l bh : List UInt8} {ct : UInt16} {a0 : List Value} {u1 u2 u3 : Value} (l0 : ∃ V, a0 = Msg.cells m V ∧ SlL (fun _ y cs => cs = KEnt.cells y) 13 h V m.es) (l1 : layStr h l [u1]) (l2 : layU16 h ct [u2]) (l3 : layStr h bh [u3])
    (k0 : m.body.length < 9223372036854775808 ∧ m.es.length < 9223372036854775808) (k1 : l.length < 9223372036854775808) (k2 : True) (k3 : bh.length < 9223372036854775808) : Cll tab0 6 [.agg a0.toArray, u1, u2, u3] h (fun v _ => v = .bool true) := by
  obtain ⟨V0, rfl, S0⟩ := l0
  have A : KEnt.Sl h V0 m.es := SlL.sl S0
  obtain ⟨P, c, rfl⟩ := A.shape
  have l1 : [u1] = [_] := l1
  have l2 : [u2] = [_] := l2
  have l3 : [u3] = [_] := l3
  cases l1; cases l2; cases l3
  refine Cll.code rfl rfl ?_
  refine WC.env [(0, _), (1, _), (2, _), (3, _)] rfl ?_
  refine WC.seq ?_
  refine WC.run ?_
  refine WS.box W [_, _, _, _, _, _, _, _, _, _, _, _, _] rfl rfl rfl rfl ?_
  intro p1 h2 M3
  refine WS.op rfl rfl (WS.nil [(1, _), (2, _), (3, _), (4, _)] rfl ?_)
  refine WC.seq ?_
  refine WC.seq ?_
  obtain ⟨L4, eL6, M5⟩ := Mem.name M3.bare
  refine WC.joinB (base := h) (fun b => [(1, (.string (bs l))), (2, (.int .u16 (((ct).toNat : Nat) : Int))), (3, (.string (bs bh))), (4, (.pointer (some ⟨p1, 0, none⟩))), (24, .bool b)]) L4 (True) ((Small m.es ∧ m.es.length ≤ 40 ∧ m.body.length ≤ 6000 ∧ ∀ x ∈ m.es, x.body.length ≤ 6000) ∧ bh.length ≤ 100) ?_ ?_ ?_
  · subst eL6
    refine WS.op rfl (op_lds [_, _, _, _, _, _, _, _, _, _, _, _, _] (M5.at 0 rfl) rfl (Nat.le_of_ble_eq_true rfl) rfl) ?_
    refine WS.call rfl rfl rfl (great_ran M5.here (m := m) (A.mono M5.sub) (by exact k0)) ?_
    rintro _ h7 ⟨⟨g19, rfl, hg19⟩, N8⟩
    have M9 := M5.trans N8
    refine WS.op rfl rfl ?_
    cases hb1 : g19
    · skip
      refine WS.op rfl rfl (WS.op rfl (op_lenS (l := bh) rfl) ?_)
      refine WS.gtrN (a := (bh).length) (b := 100) rfl rfl rfl (fun e23 => ?_) (fun e23 => ?_)
      · skip
        refine WS.op rfl rfl ?_
        refine WS.nil' ⟨true, rfl, ((M9.bare.focus 0 rfl).take 1), fun _ => ?_, fun hh => ?_⟩
        · trivial
        · cases hh
      · skip
        refine WS.op rfl rfl ?_
        refine WS.nil' ⟨false, rfl, ((M9.bare.focus 0 rfl).take 1), fun hh => ?_, fun _ => ?_⟩
        · cases hh
        · exact ⟨hg19 (by first | assumption | rfl), by omega⟩
    · skip
      refine WS.off rfl (WS.off rfl (WS.off rfl (WS.op rfl rfl ?_)))
      refine WS.nil' ⟨true, rfl, ((M9.bare.focus 0 rfl).take 1), fun _ => ?_, fun hh => ?_⟩
      · trivial
      · cases hh
  · intro h10 M11 hp24
    subst eL6
    refine WC.condT rfl ?_
    refine WC.seq ?_
    refine WC.run ?_
    refine WS.call rfl rfl rfl (awake_ran M11.here ) ?_
    rintro _ h12 ⟨rfl, N13⟩
    have M14 := M11.trans N13
    refine WS.op rfl rfl (WS.nil [(8, _)] rfl ?_)
    refine WC.ret ?_
    refine ⟨[_], (res_tmp rfl res_nil), ?_⟩
    rfl
  · intro h15 M16 hp24
    subst eL6
    refine WC.condF rfl ?_
    refine WC.skip ?_
    refine WC.seq ?_
    refine WC.seq ?_
    refine WC.run ?_
    refine WS.op rfl rfl (WS.op rfl (op_lenS (l := l) rfl) ?_)
    refine WS.gtrN (a := (l).length) (b := 7000) rfl rfl rfl (fun e28 => ?_) (fun e28 => ?_)
    · skip
      refine WS.nil [(1, _), (2, _), (3, _), (4, _), (28, _)] rfl ?_
      refine WC.condT rfl ?_
      refine WC.run ?_
      refine WS.op rfl rfl (WS.op rfl (op_slS1 (l := l) 7000 rfl rfl (by first | omega | (simp only [List.length_drop, List.length_take, List.length_append, List.length_cons, List.length_nil, List.length_singleton]; omega) | (simp only [List.length_drop, List.length_take, List.length_append, List.length_cons, List.length_nil, List.length_singleton] at *; omega))) (WS.op rfl rfl (WS.nil [(1, _), (2, _), (3, _), (4, _)] rfl ?_)))
      refine WC.seq ?_
      refine WC.run ?_
      refine WS.op rfl (op_lds [_, _, _, _, _, _, _, _, _, _, _, _, _] (M16.at 0 rfl) rfl (Nat.le_of_ble_eq_true rfl) rfl) ?_
      obtain ⟨⟨hz1, hz2, hz3, hz4⟩, hz5⟩ := hp24
      refine WS.call rfl rfl rfl (msg_Write_ran M16.here (m := m) (A.mono M16.sub) (by exact ⟨hz1, by omega, by omega⟩)) ?_
      rintro _ h17 ⟨rfl, N18⟩
      have M19 := M16.trans N18
      refine WS.op rfl rfl (WS.nil [(1, _), (2, _), (3, _), (4, _), (9, _)] rfl ?_)
      refine WC.seq ?_
      refine WC.seq ?_
      refine WC.run ?_
      refine WS.op rfl rfl ?_
      refine WS.sneq (l := (writeM m)) (m := []) rfl rfl rfl (fun e34 => ?_) (fun e34 => ?_)
      · skip
        refine WS.op rfl (op_lds [_, _, _, _, _, _, _, _, _, _, _, _, _] (M19.at 0 rfl) rfl (Nat.le_of_ble_eq_true rfl) rfl) ?_
        refine WS.call rfl rfl rfl (msg_Right_ran M19.here (m := m) (A.mono M19.sub) (by exact ⟨hz1, by omega, by omega⟩)) ?_
        rintro _ h20 ⟨rfl, N21⟩
        have M22 := M19.trans N21
        cases hb2 : (rightMB m)
        · skip
          refine WS.opV (.bool true) rfl rfl rfl (WS.nil [(1, _), (2, _), (3, _), (4, _), (9, _), (37, _)] rfl ?_)
          refine WC.condT rfl ?_
          refine WC.seq ?_
          refine WC.run ?_
          refine WS.op rfl rfl (WS.nil [(8, _)] rfl ?_)
          refine WC.ret ?_
          refine ⟨[_], (res_tmp rfl res_nil), ?_⟩
          exfalso; first | exact absurd (writeM_f (by assumption)) e34 | exact absurd e34 (by rw [writeM_t (by assumption)]; exact encM_ne _) | exact absurd (f3.1 (by assumption)) e77 | exact absurd (f3.2 e77) (by rw [Bool.not_eq_true]; assumption)
        · skip
          refine WS.opV (.bool false) rfl rfl rfl (WS.nil [(1, _), (2, _), (3, _), (4, _), (9, _), (37, _)] rfl ?_)
          refine WC.condF rfl ?_
          refine WC.skip ?_
          refine WC.seq ?_
          refine WC.seq ?_
          refine WC.run ?_
          refine WS.op rfl rfl ?_
          refine WS.sneq (l := (writeM m)) (m := []) rfl rfl rfl (fun e39 => ?_) (fun e39 => ?_)
          · skip
            refine WS.nil [(1, _), (2, _), (3, _), (4, _), (9, _), (39, _)] rfl ?_
            refine WC.condT rfl ?_
            refine WC.seq ?_
            refine WC.run ?_
            refine WS.op rfl rfl ?_
            have hR := wr_right e39
            have hwl := writeM_len hz4 hz3
            have hpos := List.length_pos_iff.2 e39
            refine WS.call rfl rfl rfl (msg_Read_ran M22.here (l := (writeM m)) (by first | omega | (rw [List.length_take]; omega) | (rw [List.length_append]; omega))) ?_
            rintro _ h23 ⟨m42, V42, S42, ok42, rfl, O42, hy42, hn42, N24⟩
            obtain ⟨P42, rfl⟩ := O42.shape
            have M25 := M22.trans N24
            replace M25 : Mem _ _ (S42 :: _) _ := M25
            refine WS.op rfl rfl (WS.op rfl rfl (WS.op rfl rfl ?_))
            refine WS.new M25 rfl ?_
            intro p26 h27 M28
            refine WS.st1 (M28.focus 0 rfl) [_, _, _, _, _, _, _, _, _, _, _, _, _] [_, _, _, _, _, _, _, _, _, _, _, _, _] rfl rfl rfl rfl rfl (Nat.le_of_ble_eq_true rfl) (Nat.le_of_ble_eq_true rfl) rfl rfl ?_
            intro h29 M30
            replace M30 : Mem _ _ ([(p26, _)] :: S42 :: [(p1, _)] :: []) _ := M30
            refine WS.op rfl rfl (WS.nil [(1, _), (2, _), (3, _), (4, _), (9, _), (10, _), (11, _)] rfl ?_)
            refine WC.seq ?_
            refine WC.run ?_
            refine WS.op rfl rfl (WS.op rfl rfl (WS.opV (.int .i64 (((ct).toNat : Nat) : Int)) rfl rfl (cv_i64 (n := (ct).toNat) (by have := UInt16.toNat_lt ct; omega)) (WS.op rfl rfl (WS.op rfl (op_lenS (l := (writeM m)) rfl) (WS.op rfl (op_remN (a := (ct).toNat) (b := ((writeM m)).length) rfl rfl (by exact hpos)) (WS.op rfl (op_slS1 (l := (writeM m)) (((ct).toNat) % (((writeM m)).length)) rfl rfl (by have := Nat.mod_lt ct.toNat hpos; omega)) ?_))))))
            refine WS.call rfl rfl rfl (msg_Read_ran M30.here (l := (((writeM m)).take (((ct).toNat) % (((writeM m)).length)))) (by first | omega | (rw [List.length_take]; omega) | (rw [List.length_append]; omega))) ?_
            rintro _ h31 ⟨m53, V53, S53, ok53, rfl, O53, hy53, hn53, N32⟩
            obtain ⟨P53, rfl⟩ := O53.shape
            have M33 := M30.trans N32
            replace M33 : Mem _ _ (S53 :: _) _ := M33
            refine WS.op rfl rfl (WS.op rfl rfl (WS.op rfl rfl ?_))
            refine WS.new M33 rfl ?_
            intro p34 h35 M36
            refine WS.st1 (M36.focus 0 rfl) [_, _, _, _, _, _, _, _, _, _, _, _, _] [_, _, _, _, _, _, _, _, _, _, _, _, _] rfl rfl rfl rfl rfl (Nat.le_of_ble_eq_true rfl) (Nat.le_of_ble_eq_true rfl) rfl rfl ?_
            intro h37 M38
            replace M38 : Mem _ _ ([(p34, _)] :: S53 :: [(p26, _)] :: S42 :: [(p1, _)] :: []) _ := M38
            refine WS.op rfl rfl (WS.nil [(1, _), (3, _), (4, _), (9, _), (10, _), (11, _), (13, _)] rfl ?_)
            refine WC.seq ?_
            refine WC.run ?_
            refine WS.op rfl rfl (WS.op rfl rfl (WS.op rfl (op_sadd (l := (writeM m)) (m := bh) rfl rfl (by omega)) ?_))
            refine WS.call rfl rfl rfl (msg_Read_ran M38.here (l := ((writeM m) ++ bh)) (by first | omega | (rw [List.length_take]; omega) | (rw [List.length_append]; omega))) ?_
            rintro _ h39 ⟨m60, V60, S60, ok60, rfl, O60, hy60, hn60, N40⟩
            obtain ⟨P60, rfl⟩ := O60.shape
            have M41 := M38.trans N40
            replace M41 : Mem _ _ (S60 :: _) _ := M41
            refine WS.op rfl rfl (WS.op rfl rfl (WS.op rfl rfl ?_))
            refine WS.new M41 rfl ?_
            intro p42 h43 M44
            refine WS.st1 (M44.focus 0 rfl) [_, _, _, _, _, _, _, _, _, _, _, _, _] [_, _, _, _, _, _, _, _, _, _, _, _, _] rfl rfl rfl rfl rfl (Nat.le_of_ble_eq_true rfl) (Nat.le_of_ble_eq_true rfl) rfl rfl ?_
            intro h45 M46
            replace M46 : Mem _ _ ([(p42, _)] :: S60 :: [(p34, _)] :: S53 :: [(p26, _)] :: S42 :: [(p1, _)] :: []) _ := M46
            refine WS.op rfl rfl (WS.nil [(1, _), (3, _), (4, _), (10, _), (11, _), (13, _), (15, _)] rfl ?_)
            refine WC.seq ?_
            refine WC.run ?_
            refine WS.op rfl rfl ?_
            obtain ⟨f0, f1⟩ := back_self (by omega) hR hy42 hn42
            have f2 := back_short (Nat.mod_lt _ hpos) hy53 hR (by omega)
            have f3 := back_more hR hy60 hn60 (by rw [List.length_append]; omega)
            cases hb3 : ok42
            · skip
              rw [f0] at hb3; cases hb3
            · skip
              refine WS.opV (.bool false) rfl rfl rfl (WS.op rfl rfl (WS.op rfl (op_lds [_, _, _, _, _, _, _, _, _, _, _, _, _] (M46.at 4 rfl) rfl (Nat.le_of_ble_eq_true rfl) rfl) (WS.op rfl (op_lds [_, _, _, _, _, _, _, _, _, _, _, _, _] (M46.at 6 rfl) rfl (Nat.le_of_ble_eq_true rfl) rfl) ?_)))
              refine WS.call rfl rfl rfl (msg_Same_ran M46.here (m := m42) (n := m) (Row.Own.sl O42 (Mem.owni M46 5 rfl)) (A.mono M46.sub) (by rw [f1]; omega)) ?_
              rintro _ h47 ⟨rfl, N48⟩
              have M49 := M46.trans N48
              cases hb4 : (sameM m42 m)
              · skip
                rw [f1, sameM_self] at hb4; cases hb4
              · skip
                refine WS.opV (.bool false) rfl rfl rfl (WS.op rfl rfl (WS.op rfl rfl (WS.op rfl rfl (WS.op rfl rfl (WS.op rfl rfl ?_)))))
                cases hb5 : ok53
                · skip
                  refine WS.op rfl rfl (WS.op rfl rfl ?_)
                  refine WS.seql (l := bh) (m := []) rfl rfl rfl (fun e77 => ?_) (fun e77 => ?_)
                  · skip
                    cases hb6 : ok60
                    · skip
                      refine WS.opV (.bool true) rfl rfl rfl (WS.op rfl rfl (WS.nil [(1, _), (79, _)] rfl ?_))
                      refine WC.condT rfl ?_
                      refine WC.seq ?_
                      refine WC.run ?_
                      refine WS.op rfl rfl (WS.nil [(8, _)] rfl ?_)
                      refine WC.ret ?_
                      refine ⟨[_], (res_tmp rfl res_nil), ?_⟩
                      exfalso; first | exact absurd (writeM_f (by assumption)) e34 | exact absurd e34 (by rw [writeM_t (by assumption)]; exact encM_ne _) | exact absurd (f3.1 (by assumption)) e77 | exact absurd (f3.2 e77) (by rw [Bool.not_eq_true]; assumption)
                    · skip
                      refine WS.opV (.bool false) rfl rfl rfl (WS.op rfl rfl (WS.nil [(1, _), (79, _)] rfl ?_))
                      refine WC.condF rfl ?_
                      refine WC.skip ?_
                      refine WC.seq ?_
                      refine WC.run ?_
                      refine WS.op rfl rfl ?_
                      refine WS.call rfl rfl rfl (msg_Read_ran M49.here (l := ((l).take 7000)) (by first | omega | (rw [List.length_take]; omega) | (rw [List.length_append]; omega))) ?_
                      rintro _ h50 ⟨m82, V82, S82, ok82, rfl, O82, hy82, hn82, N51⟩
                      obtain ⟨P82, rfl⟩ := O82.shape
                      have M52 := M49.trans N51
                      replace M52 : Mem _ _ (S82 :: _) _ := M52
                      refine WS.op rfl rfl (WS.op rfl rfl (WS.op rfl rfl ?_))
                      refine WS.new M52 rfl ?_
                      intro p53 h54 M55
                      refine WS.st1 (M55.focus 0 rfl) [_, _, _, _, _, _, _, _, _, _, _, _, _] [_, _, _, _, _, _, _, _, _, _, _, _, _] rfl rfl rfl rfl rfl (Nat.le_of_ble_eq_true rfl) (Nat.le_of_ble_eq_true rfl) rfl rfl ?_
                      intro h56 M57
                      replace M57 : Mem _ _ ([(p53, _)] :: S82 :: [(p42, _)] :: S60 :: [(p34, _)] :: S53 :: [(p26, _)] :: S42 :: [(p1, _)] :: []) _ := M57
                      refine WS.op rfl rfl (WS.nil [(1, _), (16, _), (17, _)] rfl ?_)
                      refine WC.seq ?_
                      refine WC.run ?_
                      have f8 := read_wr hy82
                      have hz82 := read_small (by first | omega | (rw [List.length_take]; omega)) hy82 hn82
                      refine WS.op rfl rfl (WS.op rfl rfl ?_)
                      cases hb7 : ok82
                      · skip
                        refine WS.off rfl (WS.offC rfl (WS.op rfl rfl (WS.op rfl rfl (WS.off rfl (WS.offC rfl (WS.off rfl (WS.off rfl (WS.op rfl rfl (WS.op rfl rfl ?_)))))))))
                        refine WS.op rfl rfl (WS.opV (.bool true) rfl rfl rfl (WS.op rfl rfl (WS.op rfl (op_lds [_, _, _, _, _, _, _, _, _, _, _, _, _] (M57.at 0 rfl) rfl (Nat.le_of_ble_eq_true rfl) rfl) (WS.opV (.agg #[(.int .u8 (0 : Int)), (.int .u8 (0 : Int)), (.int .u8 (0 : Int)), (.int .u64 (0 : Int)), (.int .u64 (0 : Int)), (.int .u64 (0 : Int)), (.int .u64 (0 : Int)), (.int .u64 (0 : Int)), (.bool false), (.int .u8 (0 : Int)), (.int .u8 (0 : Int)), (.slice none 0 0), (.string (bs ([])))]) rfl rfl rfl ?_))))
                        refine WS.call rfl rfl rfl (msg_Same_ran M57.here (m := m82) (n := (⟨0, 0, 0, 0, 0, 0, 0, 0, false, 0, 0, [], ([])⟩ : Msg)) (Row.Own.sl O82 (Mem.owni M57 1 rfl)) Row.Sl.nil (by exact hz82.2.1)) ?_
                        rintro _ h58 ⟨rfl, N59⟩
                        have M60 := M57.trans N59
                        refine WS.op rfl rfl (WS.op rfl rfl (WS.op rfl rfl ?_))
                        cases hb8 : (sameM m82 (⟨0, 0, 0, 0, 0, 0, 0, 0, false, 0, 0, [], ([])⟩ : Msg))
                        · skip
                          exact absurd hb8 (by rw [(hn82 (by assumption)).1]; decide)
                        · skip
                          refine WS.call rfl rfl rfl (awake_ran M60.here ) ?_
                          rintro _ h61 ⟨rfl, N62⟩
                          have M63 := M60.trans N62
                          refine WS.op rfl rfl (WS.op rfl rfl (WS.nil [(8, _)] rfl ?_))
                          refine WC.ret ?_
                          refine ⟨[_], (res_tmp rfl res_nil), ?_⟩
                          rfl
                      · skip
                        refine WS.op rfl (op_lds [_, _, _, _, _, _, _, _, _, _, _, _, _] (M57.at 0 rfl) rfl (Nat.le_of_ble_eq_true rfl) rfl) ?_
                        refine WS.call rfl rfl rfl (msg_Right_ran M57.here (m := m82) (Row.Own.sl O82 (Mem.owni M57 1 rfl)) (by exact hz82)) ?_
                        rintro _ h64 ⟨rfl, N65⟩
                        have M66 := M57.trans N65
                        refine WS.op rfl rfl (WS.op rfl rfl ?_)
                        cases hb9 : (rightMB m82)
                        · skip
                          exact absurd hb9 (by rw [(f8 (by assumption)).1]; decide)
                        · skip
                          refine WS.op rfl (op_lds [_, _, _, _, _, _, _, _, _, _, _, _, _] (M66.at 0 rfl) rfl (Nat.le_of_ble_eq_true rfl) rfl) ?_
                          refine WS.call rfl rfl rfl (msg_Write_ran M66.here (m := m82) (Row.Own.sl O82 (Mem.owni M66 1 rfl)) (by exact hz82)) ?_
                          rintro _ h67 ⟨rfl, N68⟩
                          have M69 := M66.trans N68
                          refine WS.op rfl rfl ?_
                          refine WS.seql (l := (writeM m82)) (m := ((l).take 7000)) rfl rfl rfl (fun e94 => ?_) (fun e94 => ?_)
                          · skip
                            refine WS.op rfl rfl (WS.op rfl rfl (WS.off rfl (WS.off rfl (WS.off rfl (WS.off rfl (WS.off rfl (WS.offC rfl (WS.off rfl (WS.op rfl rfl ?_)))))))))
                            refine WS.op rfl rfl ?_
                            refine WS.call rfl rfl rfl (awake_ran M69.here ) ?_
                            rintro _ h70 ⟨rfl, N71⟩
                            have M72 := M69.trans N71
                            refine WS.op rfl rfl (WS.op rfl rfl (WS.nil [(8, _)] rfl ?_))
                            refine WC.ret ?_
                            refine ⟨[_], (res_tmp rfl res_nil), ?_⟩
                            rfl
                          · skip
                            exact absurd (f8 (by assumption)).2 e94
                  · skip
                    cases hb6 : ok60
                    · skip
                      refine WS.opV (.bool false) rfl rfl rfl (WS.op rfl rfl (WS.nil [(1, _), (79, _)] rfl ?_))
                      refine WC.condF rfl ?_
                      refine WC.skip ?_
                      refine WC.seq ?_
                      refine WC.run ?_
                      refine WS.op rfl rfl ?_
                      refine WS.call rfl rfl rfl (msg_Read_ran M49.here (l := ((l).take 7000)) (by first | omega | (rw [List.length_take]; omega) | (rw [List.length_append]; omega))) ?_
                      rintro _ h73 ⟨m82, V82, S82, ok82, rfl, O82, hy82, hn82, N74⟩
                      obtain ⟨P82, rfl⟩ := O82.shape
                      have M75 := M49.trans N74
                      replace M75 : Mem _ _ (S82 :: _) _ := M75
                      refine WS.op rfl rfl (WS.op rfl rfl (WS.op rfl rfl ?_))
                      refine WS.new M75 rfl ?_
                      intro p76 h77 M78
                      refine WS.st1 (M78.focus 0 rfl) [_, _, _, _, _, _, _, _, _, _, _, _, _] [_, _, _, _, _, _, _, _, _, _, _, _, _] rfl rfl rfl rfl rfl (Nat.le_of_ble_eq_true rfl) (Nat.le_of_ble_eq_true rfl) rfl rfl ?_
                      intro h79 M80
                      replace M80 : Mem _ _ ([(p76, _)] :: S82 :: [(p42, _)] :: S60 :: [(p34, _)] :: S53 :: [(p26, _)] :: S42 :: [(p1, _)] :: []) _ := M80
                      refine WS.op rfl rfl (WS.nil [(1, _), (16, _), (17, _)] rfl ?_)
                      refine WC.seq ?_
                      refine WC.run ?_
                      have f8 := read_wr hy82
                      have hz82 := read_small (by first | omega | (rw [List.length_take]; omega)) hy82 hn82
                      refine WS.op rfl rfl (WS.op rfl rfl ?_)
                      cases hb7 : ok82
                      · skip
                        refine WS.off rfl (WS.offC rfl (WS.op rfl rfl (WS.op rfl rfl (WS.off rfl (WS.offC rfl (WS.off rfl (WS.off rfl (WS.op rfl rfl (WS.op rfl rfl ?_)))))))))
                        refine WS.op rfl rfl (WS.opV (.bool true) rfl rfl rfl (WS.op rfl rfl (WS.op rfl (op_lds [_, _, _, _, _, _, _, _, _, _, _, _, _] (M80.at 0 rfl) rfl (Nat.le_of_ble_eq_true rfl) rfl) (WS.opV (.agg #[(.int .u8 (0 : Int)), (.int .u8 (0 : Int)), (.int .u8 (0 : Int)), (.int .u64 (0 : Int)), (.int .u64 (0 : Int)), (.int .u64 (0 : Int)), (.int .u64 (0 : Int)), (.int .u64 (0 : Int)), (.bool false), (.int .u8 (0 : Int)), (.int .u8 (0 : Int)), (.slice none 0 0), (.string (bs ([])))]) rfl rfl rfl ?_))))
                        refine WS.call rfl rfl rfl (msg_Same_ran M80.here (m := m82) (n := (⟨0, 0, 0, 0, 0, 0, 0, 0, false, 0, 0, [], ([])⟩ : Msg)) (Row.Own.sl O82 (Mem.owni M80 1 rfl)) Row.Sl.nil (by exact hz82.2.1)) ?_
                        rintro _ h81 ⟨rfl, N82⟩
                        have M83 := M80.trans N82
                        refine WS.op rfl rfl (WS.op rfl rfl (WS.op rfl rfl ?_))
                        cases hb8 : (sameM m82 (⟨0, 0, 0, 0, 0, 0, 0, 0, false, 0, 0, [], ([])⟩ : Msg))
                        · skip
                          exact absurd hb8 (by rw [(hn82 (by assumption)).1]; decide)
                        · skip
                          refine WS.call rfl rfl rfl (awake_ran M83.here ) ?_
                          rintro _ h84 ⟨rfl, N85⟩
                          have M86 := M83.trans N85
                          refine WS.op rfl rfl (WS.op rfl rfl (WS.nil [(8, _)] rfl ?_))
                          refine WC.ret ?_
                          refine ⟨[_], (res_tmp rfl res_nil), ?_⟩
                          rfl
                      · skip
                        refine WS.op rfl (op_lds [_, _, _, _, _, _, _, _, _, _, _, _, _] (M80.at 0 rfl) rfl (Nat.le_of_ble_eq_true rfl) rfl) ?_
                        refine WS.call rfl rfl rfl (msg_Right_ran M80.here (m := m82) (Row.Own.sl O82 (Mem.owni M80 1 rfl)) (by exact hz82)) ?_
                        rintro _ h87 ⟨rfl, N88⟩
                        have M89 := M80.trans N88
                        refine WS.op rfl rfl (WS.op rfl rfl ?_)
                        cases hb9 : (rightMB m82)
                        · skip
                          exact absurd hb9 (by rw [(f8 (by assumption)).1]; decide)
                        · skip
                          refine WS.op rfl (op_lds [_, _, _, _, _, _, _, _, _, _, _, _, _] (M89.at 0 rfl) rfl (Nat.le_of_ble_eq_true rfl) rfl) ?_
                          refine WS.call rfl rfl rfl (msg_Write_ran M89.here (m := m82) (Row.Own.sl O82 (Mem.owni M89 1 rfl)) (by exact hz82)) ?_
                          rintro _ h90 ⟨rfl, N91⟩
                          have M92 := M89.trans N91
                          refine WS.op rfl rfl ?_
                          refine WS.seql (l := (writeM m82)) (m := ((l).take 7000)) rfl rfl rfl (fun e94 => ?_) (fun e94 => ?_)
                          · skip
                            refine WS.op rfl rfl (WS.op rfl rfl (WS.off rfl (WS.off rfl (WS.off rfl (WS.off rfl (WS.off rfl (WS.offC rfl (WS.off rfl (WS.op rfl rfl ?_)))))))))
                            refine WS.op rfl rfl ?_
                            refine WS.call rfl rfl rfl (awake_ran M92.here ) ?_
                            rintro _ h93 ⟨rfl, N94⟩
                            have M95 := M92.trans N94
                            refine WS.op rfl rfl (WS.op rfl rfl (WS.nil [(8, _)] rfl ?_))
                            refine WC.ret ?_
                            refine ⟨[_], (res_tmp rfl res_nil), ?_⟩
                            rfl
                          · skip
                            exact absurd (f8 (by assumption)).2 e94
                    · skip
                      refine WS.opV (.bool true) rfl rfl rfl (WS.op rfl rfl (WS.nil [(1, _), (79, _)] rfl ?_))
                      refine WC.condT rfl ?_
                      refine WC.seq ?_
                      refine WC.run ?_
                      refine WS.op rfl rfl (WS.nil [(8, _)] rfl ?_)
                      refine WC.ret ?_
                      refine ⟨[_], (res_tmp rfl res_nil), ?_⟩
                      exfalso; first | exact absurd (writeM_f (by assumption)) e34 | exact absurd e34 (by rw [writeM_t (by assumption)]; exact encM_ne _) | exact absurd (f3.1 (by assumption)) e77 | exact absurd (f3.2 e77) (by rw [Bool.not_eq_true]; assumption)
                · skip
                  rw [f2] at hb5; cases hb5
          · skip
            refine WS.nil [(1, _), (2, _), (3, _), (4, _), (9, _), (39, _)] rfl ?_
            refine WC.condF rfl ?_
            refine WC.skip ?_
            refine WC.seq ?_
            refine WC.run ?_
            refine WS.op rfl rfl ?_
            refine WS.call rfl rfl rfl (msg_Read_ran M22.here (l := ((l).take 7000)) (by first | omega | (rw [List.length_take]; omega) | (rw [List.length_append]; omega))) ?_
            rintro _ h96 ⟨m82, V82, S82, ok82, rfl, O82, hy82, hn82, N97⟩
            obtain ⟨P82, rfl⟩ := O82.shape
            have M98 := M22.trans N97
            replace M98 : Mem _ _ (S82 :: _) _ := M98
            refine WS.op rfl rfl (WS.op rfl rfl (WS.op rfl rfl ?_))
            refine WS.new M98 rfl ?_
            intro p99 h100 M101
            refine WS.st1 (M101.focus 0 rfl) [_, _, _, _, _, _, _, _, _, _, _, _, _] [_, _, _, _, _, _, _, _, _, _, _, _, _] rfl rfl rfl rfl rfl (Nat.le_of_ble_eq_true rfl) (Nat.le_of_ble_eq_true rfl) rfl rfl ?_
            intro h102 M103
            replace M103 : Mem _ _ ([(p99, _)] :: S82 :: [(p1, _)] :: []) _ := M103
            refine WS.op rfl rfl (WS.nil [(1, _), (16, _), (17, _)] rfl ?_)
            refine WC.seq ?_
            refine WC.run ?_
            have f8 := read_wr hy82
            have hz82 := read_small (by first | omega | (rw [List.length_take]; omega)) hy82 hn82
            refine WS.op rfl rfl (WS.op rfl rfl ?_)
            cases hb7 : ok82
            · skip
              refine WS.off rfl (WS.offC rfl (WS.op rfl rfl (WS.op rfl rfl (WS.off rfl (WS.offC rfl (WS.off rfl (WS.off rfl (WS.op rfl rfl (WS.op rfl rfl ?_)))))))))
              refine WS.op rfl rfl (WS.opV (.bool true) rfl rfl rfl (WS.op rfl rfl (WS.op rfl (op_lds [_, _, _, _, _, _, _, _, _, _, _, _, _] (M103.at 0 rfl) rfl (Nat.le_of_ble_eq_true rfl) rfl) (WS.opV (.agg #[(.int .u8 (0 : Int)), (.int .u8 (0 : Int)), (.int .u8 (0 : Int)), (.int .u64 (0 : Int)), (.int .u64 (0 : Int)), (.int .u64 (0 : Int)), (.int .u64 (0 : Int)), (.int .u64 (0 : Int)), (.bool false), (.int .u8 (0 : Int)), (.int .u8 (0 : Int)), (.slice none 0 0), (.string (bs ([])))]) rfl rfl rfl ?_))))
              refine WS.call rfl rfl rfl (msg_Same_ran M103.here (m := m82) (n := (⟨0, 0, 0, 0, 0, 0, 0, 0, false, 0, 0, [], ([])⟩ : Msg)) (Row.Own.sl O82 (Mem.owni M103 1 rfl)) Row.Sl.nil (by exact hz82.2.1)) ?_
              rintro _ h104 ⟨rfl, N105⟩
              have M106 := M103.trans N105
              refine WS.op rfl rfl (WS.op rfl rfl (WS.op rfl rfl ?_))
              cases hb8 : (sameM m82 (⟨0, 0, 0, 0, 0, 0, 0, 0, false, 0, 0, [], ([])⟩ : Msg))
              · skip
                exact absurd hb8 (by rw [(hn82 (by assumption)).1]; decide)
              · skip
                refine WS.call rfl rfl rfl (awake_ran M106.here ) ?_
                rintro _ h107 ⟨rfl, N108⟩
                have M109 := M106.trans N108
                refine WS.op rfl rfl (WS.op rfl rfl (WS.nil [(8, _)] rfl ?_))
                refine WC.ret ?_
                refine ⟨[_], (res_tmp rfl res_nil), ?_⟩
                rfl
            · skip
              refine WS.op rfl (op_lds [_, _, _, _, _, _, _, _, _, _, _, _, _] (M103.at 0 rfl) rfl (Nat.le_of_ble_eq_true rfl) rfl) ?_
              refine WS.call rfl rfl rfl (msg_Right_ran M103.here (m := m82) (Row.Own.sl O82 (Mem.owni M103 1 rfl)) (by exact hz82)) ?_
              rintro _ h110 ⟨rfl, N111⟩
              have M112 := M103.trans N111
              refine WS.op rfl rfl (WS.op rfl rfl ?_)
              cases hb9 : (rightMB m82)
              · skip
                exact absurd hb9 (by rw [(f8 (by assumption)).1]; decide)
              · skip
                refine WS.op rfl (op_lds [_, _, _, _, _, _, _, _, _, _, _, _, _] (M112.at 0 rfl) rfl (Nat.le_of_ble_eq_true rfl) rfl) ?_
                refine WS.call rfl rfl rfl (msg_Write_ran M112.here (m := m82) (Row.Own.sl O82 (Mem.owni M112 1 rfl)) (by exact hz82)) ?_
                rintro _ h113 ⟨rfl, N114⟩
                have M115 := M112.trans N114
                refine WS.op rfl rfl ?_
                refine WS.seql (l := (writeM m82)) (m := ((l).take 7000)) rfl rfl rfl (fun e94 => ?_) (fun e94 => ?_)
                · skip
                  refine WS.op rfl rfl (WS.op rfl rfl (WS.off rfl (WS.off rfl (WS.off rfl (WS.off rfl (WS.off rfl (WS.offC rfl (WS.off rfl (WS.op rfl rfl ?_)))))))))
                  refine WS.op rfl rfl ?_
                  refine WS.call rfl rfl rfl (awake_ran M115.here ) ?_
                  rintro _ h116 ⟨rfl, N117⟩
                  have M118 := M115.trans N117
                  refine WS.op rfl rfl (WS.op rfl rfl (WS.nil [(8, _)] rfl ?_))
                  refine WC.ret ?_
                  refine ⟨[_], (res_tmp rfl res_nil), ?_⟩
                  rfl
                · skip
                  exact absurd (f8 (by assumption)).2 e94
      · skip
        refine WS.op rfl (op_lds [_, _, _, _, _, _, _, _, _, _, _, _, _] (M19.at 0 rfl) rfl (Nat.le_of_ble_eq_true rfl) rfl) ?_
        refine WS.call rfl rfl rfl (msg_Right_ran M19.here (m := m) (A.mono M19.sub) (by exact ⟨hz1, by omega, by omega⟩)) ?_
        rintro _ h119 ⟨rfl, N120⟩
        have M121 := M19.trans N120
        cases hb2 : (rightMB m)
        · skip
          refine WS.opV (.bool false) rfl rfl rfl (WS.nil [(1, _), (2, _), (3, _), (4, _), (9, _), (37, _)] rfl ?_)
          refine WC.condF rfl ?_
          refine WC.skip ?_
          refine WC.seq ?_
          refine WC.seq ?_
          refine WC.run ?_
          refine WS.op rfl rfl ?_
          refine WS.sneq (l := (writeM m)) (m := []) rfl rfl rfl (fun e39 => ?_) (fun e39 => ?_)
          · skip
            refine WS.nil [(1, _), (2, _), (3, _), (4, _), (9, _), (39, _)] rfl ?_
            refine WC.condT rfl ?_
            refine WC.seq ?_
            refine WC.run ?_
            refine WS.op rfl rfl ?_
            have hR := wr_right e39
            have hwl := writeM_len hz4 hz3
            have hpos := List.length_pos_iff.2 e39
            refine WS.call rfl rfl rfl (msg_Read_ran M121.here (l := (writeM m)) (by first | omega | (rw [List.length_take]; omega) | (rw [List.length_append]; omega))) ?_
            rintro _ h122 ⟨m42, V42, S42, ok42, rfl, O42, hy42, hn42, N123⟩
            obtain ⟨P42, rfl⟩ := O42.shape
            have M124 := M121.trans N123
            replace M124 : Mem _ _ (S42 :: _) _ := M124
            refine WS.op rfl rfl (WS.op rfl rfl (WS.op rfl rfl ?_))
            refine WS.new M124 rfl ?_
            intro p125 h126 M127
            refine WS.st1 (M127.focus 0 rfl) [_, _, _, _, _, _, _, _, _, _, _, _, _] [_, _, _, _, _, _, _, _, _, _, _, _, _] rfl rfl rfl rfl rfl (Nat.le_of_ble_eq_true rfl) (Nat.le_of_ble_eq_true rfl) rfl rfl ?_
            intro h128 M129
            replace M129 : Mem _ _ ([(p125, _)] :: S42 :: [(p1, _)] :: []) _ := M129
            refine WS.op rfl rfl (WS.nil [(1, _), (2, _), (3, _), (4, _), (9, _), (10, _), (11, _)] rfl ?_)
            refine WC.seq ?_
            refine WC.run ?_
            refine WS.op rfl rfl (WS.op rfl rfl (WS.opV (.int .i64 (((ct).toNat : Nat) : Int)) rfl rfl (cv_i64 (n := (ct).toNat) (by have := UInt16.toNat_lt ct; omega)) (WS.op rfl rfl (WS.op rfl (op_lenS (l := (writeM m)) rfl) (WS.op rfl (op_remN (a := (ct).toNat) (b := ((writeM m)).length) rfl rfl (by exact hpos)) (WS.op rfl (op_slS1 (l := (writeM m)) (((ct).toNat) % (((writeM m)).length)) rfl rfl (by have := Nat.mod_lt ct.toNat hpos; omega)) ?_))))))
            refine WS.call rfl rfl rfl (msg_Read_ran M129.here (l := (((writeM m)).take (((ct).toNat) % (((writeM m)).length)))) (by first | omega | (rw [List.length_take]; omega) | (rw [List.length_append]; omega))) ?_
            rintro _ h130 ⟨m53, V53, S53, ok53, rfl, O53, hy53, hn53, N131⟩
            obtain ⟨P53, rfl⟩ := O53.shape
            have M132 := M129.trans N131
            replace M132 : Mem _ _ (S53 :: _) _ := M132
            refine WS.op rfl rfl (WS.op rfl rfl (WS.op rfl rfl ?_))
            refine WS.new M132 rfl ?_
            intro p133 h134 M135
            refine WS.st1 (M135.focus 0 rfl) [_, _, _, _, _, _, _, _, _, _, _, _, _] [_, _, _, _, _, _, _, _, _, _, _, _, _] rfl rfl rfl rfl rfl (Nat.le_of_ble_eq_true rfl) (Nat.le_of_ble_eq_true rfl) rfl rfl ?_
            intro h136 M137
            replace M137 : Mem _ _ ([(p133, _)] :: S53 :: [(p125, _)] :: S42 :: [(p1, _)] :: []) _ := M137
            refine WS.op rfl rfl (WS.nil [(1, _), (3, _), (4, _), (9, _), (10, _), (11, _), (13, _)] rfl ?_)
            refine WC.seq ?_
            refine WC.run ?_
            refine WS.op rfl rfl (WS.op rfl rfl (WS.op rfl (op_sadd (l := (writeM m)) (m := bh) rfl rfl (by omega)) ?_))
            refine WS.call rfl rfl rfl (msg_Read_ran M137.here (l := ((writeM m) ++ bh)) (by first | omega | (rw [List.length_take]; omega) | (rw [List.length_append]; omega))) ?_
            rintro _ h138 ⟨m60, V60, S60, ok60, rfl, O60, hy60, hn60, N139⟩
            obtain ⟨P60, rfl⟩ := O60.shape
            have M140 := M137.trans N139
            replace M140 : Mem _ _ (S60 :: _) _ := M140
            refine WS.op rfl rfl (WS.op rfl rfl (WS.op rfl rfl ?_))
            refine WS.new M140 rfl ?_
            intro p141 h142 M143
            refine WS.st1 (M143.focus 0 rfl) [_, _, _, _, _, _, _, _, _, _, _, _, _] [_, _, _, _, _, _, _, _, _, _, _, _, _] rfl rfl rfl rfl rfl (Nat.le_of_ble_eq_true rfl) (Nat.le_of_ble_eq_true rfl) rfl rfl ?_
            intro h144 M145
            replace M145 : Mem _ _ ([(p141, _)] :: S60 :: [(p133, _)] :: S53 :: [(p125, _)] :: S42 :: [(p1, _)] :: []) _ := M145
            refine WS.op rfl rfl (WS.nil [(1, _), (3, _), (4, _), (10, _), (11, _), (13, _), (15, _)] rfl ?_)
            refine WC.seq ?_
            refine WC.run ?_
            refine WS.op rfl rfl ?_
            obtain ⟨f0, f1⟩ := back_self (by omega) hR hy42 hn42
            have f2 := back_short (Nat.mod_lt _ hpos) hy53 hR (by omega)
            have f3 := back_more hR hy60 hn60 (by rw [List.length_append]; omega)
            cases hb3 : ok42
            · skip
              rw [f0] at hb3; cases hb3
            · skip
              refine WS.opV (.bool false) rfl rfl rfl (WS.op rfl rfl (WS.op rfl (op_lds [_, _, _, _, _, _, _, _, _, _, _, _, _] (M145.at 4 rfl) rfl (Nat.le_of_ble_eq_true rfl) rfl) (WS.op rfl (op_lds [_, _, _, _, _, _, _, _, _, _, _, _, _] (M145.at 6 rfl) rfl (Nat.le_of_ble_eq_true rfl) rfl) ?_)))
              refine WS.call rfl rfl rfl (msg_Same_ran M145.here (m := m42) (n := m) (Row.Own.sl O42 (Mem.owni M145 5 rfl)) (A.mono M145.sub) (by rw [f1]; omega)) ?_
              rintro _ h146 ⟨rfl, N147⟩
              have M148 := M145.trans N147
              cases hb4 : (sameM m42 m)
              · skip
                rw [f1, sameM_self] at hb4; cases hb4
              · skip
                refine WS.opV (.bool false) rfl rfl rfl (WS.op rfl rfl (WS.op rfl rfl (WS.op rfl rfl (WS.op rfl rfl (WS.op rfl rfl ?_)))))
                cases hb5 : ok53
                · skip
                  refine WS.op rfl rfl (WS.op rfl rfl ?_)
                  refine WS.seql (l := bh) (m := []) rfl rfl rfl (fun e77 => ?_) (fun e77 => ?_)
                  · skip
                    cases hb6 : ok60
                    · skip
                      refine WS.opV (.bool true) rfl rfl rfl (WS.op rfl rfl (WS.nil [(1, _), (79, _)] rfl ?_))
                      refine WC.condT rfl ?_
                      refine WC.seq ?_
                      refine WC.run ?_
                      refine WS.op rfl rfl (WS.nil [(8, _)] rfl ?_)
                      refine WC.ret ?_
                      refine ⟨[_], (res_tmp rfl res_nil), ?_⟩
                      exfalso; first | exact absurd (writeM_f (by assumption)) e34 | exact absurd e34 (by rw [writeM_t (by assumption)]; exact encM_ne _) | exact absurd (f3.1 (by assumption)) e77 | exact absurd (f3.2 e77) (by rw [Bool.not_eq_true]; assumption)
                    · skip
                      refine WS.opV (.bool false) rfl rfl rfl (WS.op rfl rfl (WS.nil [(1, _), (79, _)] rfl ?_))
                      refine WC.condF rfl ?_
                      refine WC.skip ?_
                      refine WC.seq ?_
                      refine WC.run ?_
                      refine WS.op rfl rfl ?_
                      refine WS.call rfl rfl rfl (msg_Read_ran M148.here (l := ((l).take 7000)) (by first | omega | (rw [List.length_take]; omega) | (rw [List.length_append]; omega))) ?_
                      rintro _ h149 ⟨m82, V82, S82, ok82, rfl, O82, hy82, hn82, N150⟩
                      obtain ⟨P82, rfl⟩ := O82.shape
                      have M151 := M148.trans N150
                      replace M151 : Mem _ _ (S82 :: _) _ := M151
                      refine WS.op rfl rfl (WS.op rfl rfl (WS.op rfl rfl ?_))
                      refine WS.new M151 rfl ?_
                      intro p152 h153 M154
                      refine WS.st1 (M154.focus 0 rfl) [_, _, _, _, _, _, _, _, _, _, _, _, _] [_, _, _, _, _, _, _, _, _, _, _, _, _] rfl rfl rfl rfl rfl (Nat.le_of_ble_eq_true rfl) (Nat.le_of_ble_eq_true rfl) rfl rfl ?_
                      intro h155 M156
                      replace M156 : Mem _ _ ([(p152, _)] :: S82 :: [(p141, _)] :: S60 :: [(p133, _)] :: S53 :: [(p125, _)] :: S42 :: [(p1, _)] :: []) _ := M156
                      refine WS.op rfl rfl (WS.nil [(1, _), (16, _), (17, _)] rfl ?_)
                      refine WC.seq ?_
                      refine WC.run ?_
                      have f8 := read_wr hy82
                      have hz82 := read_small (by first | omega | (rw [List.length_take]; omega)) hy82 hn82
                      refine WS.op rfl rfl (WS.op rfl rfl ?_)
                      cases hb7 : ok82
                      · skip
                        refine WS.off rfl (WS.offC rfl (WS.op rfl rfl (WS.op rfl rfl (WS.off rfl (WS.offC rfl (WS.off rfl (WS.off rfl (WS.op rfl rfl (WS.op rfl rfl ?_)))))))))
                        refine WS.op rfl rfl (WS.opV (.bool true) rfl rfl rfl (WS.op rfl rfl (WS.op rfl (op_lds [_, _, _, _, _, _, _, _, _, _, _, _, _] (M156.at 0 rfl) rfl (Nat.le_of_ble_eq_true rfl) rfl) (WS.opV (.agg #[(.int .u8 (0 : Int)), (.int .u8 (0 : Int)), (.int .u8 (0 : Int)), (.int .u64 (0 : Int)), (.int .u64 (0 : Int)), (.int .u64 (0 : Int)), (.int .u64 (0 : Int)), (.int .u64 (0 : Int)), (.bool false), (.int .u8 (0 : Int)), (.int .u8 (0 : Int)), (.slice none 0 0), (.string (bs ([])))]) rfl rfl rfl ?_))))
                        refine WS.call rfl rfl rfl (msg_Same_ran M156.here (m := m82) (n := (⟨0, 0, 0, 0, 0, 0, 0, 0, false, 0, 0, [], ([])⟩ : Msg)) (Row.Own.sl O82 (Mem.owni M156 1 rfl)) Row.Sl.nil (by exact hz82.2.1)) ?_
                        rintro _ h157 ⟨rfl, N158⟩
                        have M159 := M156.trans N158
                        refine WS.op rfl rfl (WS.op rfl rfl (WS.op rfl rfl ?_))
                        cases hb8 : (sameM m82 (⟨0, 0, 0, 0, 0, 0, 0, 0, false, 0, 0, [], ([])⟩ : Msg))
                        · skip
                          exact absurd hb8 (by rw [(hn82 (by assumption)).1]; decide)
                        · skip
                          refine WS.call rfl rfl rfl (awake_ran M159.here ) ?_
                          rintro _ h160 ⟨rfl, N161⟩
                          have M162 := M159.trans N161
                          refine WS.op rfl rfl (WS.op rfl rfl (WS.nil [(8, _)] rfl ?_))
                          refine WC.ret ?_
                          refine ⟨[_], (res_tmp rfl res_nil), ?_⟩
                          rfl
                      · skip
                        refine WS.op rfl (op_lds [_, _, _, _, _, _, _, _, _, _, _, _, _] (M156.at 0 rfl) rfl (Nat.le_of_ble_eq_true rfl) rfl) ?_
                        refine WS.call rfl rfl rfl (msg_Right_ran M156.here (m := m82) (Row.Own.sl O82 (Mem.owni M156 1 rfl)) (by exact hz82)) ?_
                        rintro _ h163 ⟨rfl, N164⟩
                        have M165 := M156.trans N164
                        refine WS.op rfl rfl (WS.op rfl rfl ?_)
                        cases hb9 : (rightMB m82)
                        · skip
                          exact absurd hb9 (by rw [(f8 (by assumption)).1]; decide)
                        · skip
                          refine WS.op rfl (op_lds [_, _, _, _, _, _, _, _, _, _, _, _, _] (M165.at 0 rfl) rfl (Nat.le_of_ble_eq_true rfl) rfl) ?_
                          refine WS.call rfl rfl rfl (msg_Write_ran M165.here (m := m82) (Row.Own.sl O82 (Mem.owni M165 1 rfl)) (by exact hz82)) ?_
                          rintro _ h166 ⟨rfl, N167⟩
                          have M168 := M165.trans N167
                          refine WS.op rfl rfl ?_
                          refine WS.seql (l := (writeM m82)) (m := ((l).take 7000)) rfl rfl rfl (fun e94 => ?_) (fun e94 => ?_)
                          · skip
                            refine WS.op rfl rfl (WS.op rfl rfl (WS.off rfl (WS.off rfl (WS.off rfl (WS.off rfl (WS.off rfl (WS.offC rfl (WS.off rfl (WS.op rfl rfl ?_)))))))))
                            refine WS.op rfl rfl ?_
                            refine WS.call rfl rfl rfl (awake_ran M168.here ) ?_
                            rintro _ h169 ⟨rfl, N170⟩
                            have M171 := M168.trans N170
                            refine WS.op rfl rfl (WS.op rfl rfl (WS.nil [(8, _)] rfl ?_))
                            refine WC.ret ?_
                            refine ⟨[_], (res_tmp rfl res_nil), ?_⟩
                            rfl
                          · skip
                            exact absurd (f8 (by assumption)).2 e94
                  · skip
                    cases hb6 : ok60
                    · skip
                      refine WS.opV (.bool false) rfl rfl rfl (WS.op rfl rfl (WS.nil [(1, _), (79, _)] rfl ?_))
                      refine WC.condF rfl ?_
                      refine WC.skip ?_
                      refine WC.seq ?_
                      refine WC.run ?_
                      refine WS.op rfl rfl ?_
                      refine WS.call rfl rfl rfl (msg_Read_ran M148.here (l := ((l).take 7000)) (by first | omega | (rw [List.length_take]; omega) | (rw [List.length_append]; omega))) ?_
                      rintro _ h172 ⟨m82, V82, S82, ok82, rfl, O82, hy82, hn82, N173⟩
                      obtain ⟨P82, rfl⟩ := O82.shape
                      have M174 := M148.trans N173
                      replace M174 : Mem _ _ (S82 :: _) _ := M174
                      refine WS.op rfl rfl (WS.op rfl rfl (WS.op rfl rfl ?_))
                      refine WS.new M174 rfl ?_
                      intro p175 h176 M177
                      refine WS.st1 (M177.focus 0 rfl) [_, _, _, _, _, _, _, _, _, _, _, _, _] [_, _, _, _, _, _, _, _, _, _, _, _, _] rfl rfl rfl rfl rfl (Nat.le_of_ble_eq_true rfl) (Nat.le_of_ble_eq_true rfl) rfl rfl ?_
                      intro h178 M179
                      replace M179 : Mem _ _ ([(p175, _)] :: S82 :: [(p141, _)] :: S60 :: [(p133, _)] :: S53 :: [(p125, _)] :: S42 :: [(p1, _)] :: []) _ := M179
                      refine WS.op rfl rfl (WS.nil [(1, _), (16, _), (17, _)] rfl ?_)
                      refine WC.seq ?_
                      refine WC.run ?_
                      have f8 := read_wr hy82
                      have hz82 := read_small (by first | omega | (rw [List.length_take]; omega)) hy82 hn82
                      refine WS.op rfl rfl (WS.op rfl rfl ?_)
                      cases hb7 : ok82
                      · skip
                        refine WS.off rfl (WS.offC rfl (WS.op rfl rfl (WS.op rfl rfl (WS.off rfl (WS.offC rfl (WS.off rfl (WS.off rfl (WS.op rfl rfl (WS.op rfl rfl ?_)))))))))
                        refine WS.op rfl rfl (WS.opV (.bool true) rfl rfl rfl (WS.op rfl rfl (WS.op rfl (op_lds [_, _, _, _, _, _, _, _, _, _, _, _, _] (M179.at 0 rfl) rfl (Nat.le_of_ble_eq_true rfl) rfl) (WS.opV (.agg #[(.int .u8 (0 : Int)), (.int .u8 (0 : Int)), (.int .u8 (0 : Int)), (.int .u64 (0 : Int)), (.int .u64 (0 : Int)), (.int .u64 (0 : Int)), (.int .u64 (0 : Int)), (.int .u64 (0 : Int)), (.bool false), (.int .u8 (0 : Int)), (.int .u8 (0 : Int)), (.slice none 0 0), (.string (bs ([])))]) rfl rfl rfl ?_))))
                        refine WS.call rfl rfl rfl (msg_Same_ran M179.here (m := m82) (n := (⟨0, 0, 0, 0, 0, 0, 0, 0, false, 0, 0, [], ([])⟩ : Msg)) (Row.Own.sl O82 (Mem.owni M179 1 rfl)) Row.Sl.nil (by exact hz82.2.1)) ?_
                        rintro _ h180 ⟨rfl, N181⟩
                        have M182 := M179.trans N181
                        refine WS.op rfl rfl (WS.op rfl rfl (WS.op rfl rfl ?_))
                        cases hb8 : (sameM m82 (⟨0, 0, 0, 0, 0, 0, 0, 0, false, 0, 0, [], ([])⟩ : Msg))
                        · skip
                          exact absurd hb8 (by rw [(hn82 (by assumption)).1]; decide)
                        · skip
                          refine WS.call rfl rfl rfl (awake_ran M182.here ) ?_
                          rintro _ h183 ⟨rfl, N184⟩
                          have M185 := M182.trans N184
                          refine WS.op rfl rfl (WS.op rfl rfl (WS.nil [(8, _)] rfl ?_))
                          refine WC.ret ?_
                          refine ⟨[_], (res_tmp rfl res_nil), ?_⟩
                          rfl
                      · skip
                        refine WS.op rfl (op_lds [_, _, _, _, _, _, _, _, _, _, _, _, _] (M179.at 0 rfl) rfl (Nat.le_of_ble_eq_true rfl) rfl) ?_
                        refine WS.call rfl rfl rfl (msg_Right_ran M179.here (m := m82) (Row.Own.sl O82 (Mem.owni M179 1 rfl)) (by exact hz82)) ?_
                        rintro _ h186 ⟨rfl, N187⟩
                        have M188 := M179.trans N187
                        refine WS.op rfl rfl (WS.op rfl rfl ?_)
                        cases hb9 : (rightMB m82)
                        · skip
                          exact absurd hb9 (by rw [(f8 (by assumption)).1]; decide)
                        · skip
                          refine WS.op rfl (op_lds [_, _, _, _, _, _, _, _, _, _, _, _, _] (M188.at 0 rfl) rfl (Nat.le_of_ble_eq_true rfl) rfl) ?_
                          refine WS.call rfl rfl rfl (msg_Write_ran M188.here (m := m82) (Row.Own.sl O82 (Mem.owni M188 1 rfl)) (by exact hz82)) ?_
                          rintro _ h189 ⟨rfl, N190⟩
                          have M191 := M188.trans N190
                          refine WS.op rfl rfl ?_
                          refine WS.seql (l := (writeM m82)) (m := ((l).take 7000)) rfl rfl rfl (fun e94 => ?_) (fun e94 => ?_)
                          · skip
                            refine WS.op rfl rfl (WS.op rfl rfl (WS.off rfl (WS.off rfl (WS.off rfl (WS.off rfl (WS.off rfl (WS.offC rfl (WS.off rfl (WS.op rfl rfl ?_)))))))))
                            refine WS.op rfl rfl ?_
                            refine WS.call rfl rfl rfl (awake_ran M191.here ) ?_
                            rintro _ h192 ⟨rfl, N193⟩
                            have M194 := M191.trans N193
                            refine WS.op rfl rfl (WS.op rfl rfl (WS.nil [(8, _)] rfl ?_))
                            refine WC.ret ?_
                            refine ⟨[_], (res_tmp rfl res_nil), ?_⟩
                            rfl
                          · skip
                            exact absurd (f8 (by assumption)).2 e94
                    · skip
                      refine WS.opV (.bool true) rfl rfl rfl (WS.op rfl rfl (WS.nil [(1, _), (79, _)] rfl ?_))
                      refine WC.condT rfl ?_
                      refine WC.seq ?_
                      refine WC.run ?_
                      refine WS.op rfl rfl (WS.nil [(8, _)] rfl ?_)
                      refine WC.ret ?_
                      refine ⟨[_], (res_tmp rfl res_nil), ?_⟩
                      exfalso; first | exact absurd (writeM_f (by assumption)) e34 | exact absurd e34 (by rw [writeM_t (by assumption)]; exact encM_ne _) | exact absurd (f3.1 (by assumption)) e77 | exact absurd (f3.2 e77) (by rw [Bool.not_eq_true]; assumption)
                · skip
                  rw [f2] at hb5; cases hb5
          · skip
            refine WS.nil [(1, _), (2, _), (3, _), (4, _), (9, _), (39, _)] rfl ?_
            refine WC.condF rfl ?_
            refine WC.skip ?_
            refine WC.seq ?_
            refine WC.run ?_
            refine WS.op rfl rfl ?_
            refine WS.call rfl rfl rfl (msg_Read_ran M121.here (l := ((l).take 7000)) (by first | omega | (rw [List.length_take]; omega) | (rw [List.length_append]; omega))) ?_
            rintro _ h195 ⟨m82, V82, S82, ok82, rfl, O82, hy82, hn82, N196⟩
            obtain ⟨P82, rfl⟩ := O82.shape
            have M197 := M121.trans N196
            replace M197 : Mem _ _ (S82 :: _) _ := M197
            refine WS.op rfl rfl (WS.op rfl rfl (WS.op rfl rfl ?_))
            refine WS.new M197 rfl ?_
            intro p198 h199 M200
            refine WS.st1 (M200.focus 0 rfl) [_, _, _, _, _, _, _, _, _, _, _, _, _] [_, _, _, _, _, _, _, _, _, _, _, _, _] rfl rfl rfl rfl rfl (Nat.le_of_ble_eq_true rfl) (Nat.le_of_ble_eq_true rfl) rfl rfl ?_
            intro h201 M202
            replace M202 : Mem _ _ ([(p198, _)] :: S82 :: [(p1, _)] :: []) _ := M202
            refine WS.op rfl rfl (WS.nil [(1, _), (16, _), (17, _)] rfl ?_)
            refine WC.seq ?_
            refine WC.run ?_
            have f8 := read_wr hy82
            have hz82 := read_small (by first | omega | (rw [List.length_take]; omega)) hy82 hn82
            refine WS.op rfl rfl (WS.op rfl rfl ?_)
            cases hb7 : ok82
            · skip
              refine WS.off rfl (WS.offC rfl (WS.op rfl rfl (WS.op rfl rfl (WS.off rfl (WS.offC rfl (WS.off rfl (WS.off rfl (WS.op rfl rfl (WS.op rfl rfl ?_)))))))))
              refine WS.op rfl rfl (WS.opV (.bool true) rfl rfl rfl (WS.op rfl rfl (WS.op rfl (op_lds [_, _, _, _, _, _, _, _, _, _, _, _, _] (M202.at 0 rfl) rfl (Nat.le_of_ble_eq_true rfl) rfl) (WS.opV (.agg #[(.int .u8 (0 : Int)), (.int .u8 (0 : Int)), (.int .u8 (0 : Int)), (.int .u64 (0 : Int)), (.int .u64 (0 : Int)), (.int .u64 (0 : Int)), (.int .u64 (0 : Int)), (.int .u64 (0 : Int)), (.bool false), (.int .u8 (0 : Int)), (.int .u8 (0 : Int)), (.slice none 0 0), (.string (bs ([])))]) rfl rfl rfl ?_))))
              refine WS.call rfl rfl rfl (msg_Same_ran M202.here (m := m82) (n := (⟨0, 0, 0, 0, 0, 0, 0, 0, false, 0, 0, [], ([])⟩ : Msg)) (Row.Own.sl O82 (Mem.owni M202 1 rfl)) Row.Sl.nil (by exact hz82.2.1)) ?_
              rintro _ h203 ⟨rfl, N204⟩
              have M205 := M202.trans N204
              refine WS.op rfl rfl (WS.op rfl rfl (WS.op rfl rfl ?_))
              cases hb8 : (sameM m82 (⟨0, 0, 0, 0, 0, 0, 0, 0, false, 0, 0, [], ([])⟩ : Msg))
              · skip
                exact absurd hb8 (by rw [(hn82 (by assumption)).1]; decide)
              · skip
                refine WS.call rfl rfl rfl (awake_ran M205.here ) ?_
                rintro _ h206 ⟨rfl, N207⟩
                have M208 := M205.trans N207
                refine WS.op rfl rfl (WS.op rfl rfl (WS.nil [(8, _)] rfl ?_))
                refine WC.ret ?_
                refine ⟨[_], (res_tmp rfl res_nil), ?_⟩
                rfl
            · skip
              refine WS.op rfl (op_lds [_, _, _, _, _, _, _, _, _, _, _, _, _] (M202.at 0 rfl) rfl (Nat.le_of_ble_eq_true rfl) rfl) ?_
              refine WS.call rfl rfl rfl (msg_Right_ran M202.here (m := m82) (Row.Own.sl O82 (Mem.owni M202 1 rfl)) (by exact hz82)) ?_
              rintro _ h209 ⟨rfl, N210⟩
              have M211 := M202.trans N210
              refine WS.op rfl rfl (WS.op rfl rfl ?_)
              cases hb9 : (rightMB m82)
              · skip
                exact absurd hb9 (by rw [(f8 (by assumption)).1]; decide)
              · skip
                refine WS.op rfl (op_lds [_, _, _, _, _, _, _, _, _, _, _, _, _] (M211.at 0 rfl) rfl (Nat.le_of_ble_eq_true rfl) rfl) ?_
                refine WS.call rfl rfl rfl (msg_Write_ran M211.here (m := m82) (Row.Own.sl O82 (Mem.owni M211 1 rfl)) (by exact hz82)) ?_
                rintro _ h212 ⟨rfl, N213⟩
                have M214 := M211.trans N213
                refine WS.op rfl rfl ?_
                refine WS.seql (l := (writeM m82)) (m := ((l).take 7000)) rfl rfl rfl (fun e94 => ?_) (fun e94 => ?_)
                · skip
                  refine WS.op rfl rfl (WS.op rfl rfl (WS.off rfl (WS.off rfl (WS.off rfl (WS.off rfl (WS.off rfl (WS.offC rfl (WS.off rfl (WS.op rfl rfl ?_)))))))))
                  refine WS.op rfl rfl ?_
                  refine WS.call rfl rfl rfl (awake_ran M214.here ) ?_
                  rintro _ h215 ⟨rfl, N216⟩
                  have M217 := M214.trans N216
                  refine WS.op rfl rfl (WS.op rfl rfl (WS.nil [(8, _)] rfl ?_))
                  refine WC.ret ?_
                  refine ⟨[_], (res_tmp rfl res_nil), ?_⟩
                  rfl
                · skip
                  exact absurd (f8 (by assumption)).2 e94
        · skip
          refine WS.opV (.bool true) rfl rfl rfl (WS.nil [(1, _), (2, _), (3, _), (4, _), (9, _), (37, _)] rfl ?_)
          refine WC.condT rfl ?_
          refine WC.seq ?_
          refine WC.run ?_
          refine WS.op rfl rfl (WS.nil [(8, _)] rfl ?_)
          refine WC.ret ?_
          refine ⟨[_], (res_tmp rfl res_nil), ?_⟩
          exfalso; first | exact absurd (writeM_f (by assumption)) e34 | exact absurd e34 (by rw [writeM_t (by assumption)]; exact encM_ne _) | exact absurd (f3.1 (by assumption)) e77 | exact absurd (f3.2 e77) (by rw [Bool.not_eq_true]; assumption)
    · skip
      refine WS.nil [(1, _), (2, _), (3, _), (4, _), (28, _)] rfl ?_
      refine WC.condF rfl ?_
      refine WC.skip ?_
      refine WC.seq ?_
      refine WC.run ?_
      refine WS.op rfl (op_lds [_, _, _, _, _, _, _, _, _, _, _, _, _] (M16.at 0 rfl) rfl (Nat.le_of_ble_eq_true rfl) rfl) ?_
      obtain ⟨⟨hz1, hz2, hz3, hz4⟩, hz5⟩ := hp24
      refine WS.call rfl rfl rfl (msg_Write_ran M16.here (m := m) (A.mono M16.sub) (by exact ⟨hz1, by omega, by omega⟩)) ?_
      rintro _ h218 ⟨rfl, N219⟩
      have M220 := M16.trans N219
      refine WS.op rfl rfl (WS.nil [(1, _), (2, _), (3, _), (4, _), (9, _)] rfl ?_)
      refine WC.seq ?_
      refine WC.seq ?_
      refine WC.run ?_
      refine WS.op rfl rfl ?_
      refine WS.sneq (l := (writeM m)) (m := []) rfl rfl rfl (fun e34 => ?_) (fun e34 => ?_)
      · skip
        refine WS.op rfl (op_lds [_, _, _, _, _, _, _, _, _, _, _, _, _] (M220.at 0 rfl) rfl (Nat.le_of_ble_eq_true rfl) rfl) ?_
        refine WS.call rfl rfl rfl (msg_Right_ran M220.here (m := m) (A.mono M220.sub) (by exact ⟨hz1, by omega, by omega⟩)) ?_
        rintro _ h221 ⟨rfl, N222⟩
        have M223 := M220.trans N222
        cases hb2 : (rightMB m)
        · skip
          refine WS.opV (.bool true) rfl rfl rfl (WS.nil [(1, _), (2, _), (3, _), (4, _), (9, _), (37, _)] rfl ?_)
          refine WC.condT rfl ?_
          refine WC.seq ?_
          refine WC.run ?_
          refine WS.op rfl rfl (WS.nil [(8, _)] rfl ?_)
          refine WC.ret ?_
          refine ⟨[_], (res_tmp rfl res_nil), ?_⟩
          exfalso; first | exact absurd (writeM_f (by assumption)) e34 | exact absurd e34 (by rw [writeM_t (by assumption)]; exact encM_ne _) | exact absurd (f3.1 (by assumption)) e77 | exact absurd (f3.2 e77) (by rw [Bool.not_eq_true]; assumption)
        · skip
          refine WS.opV (.bool false) rfl rfl rfl (WS.nil [(1, _), (2, _), (3, _), (4, _), (9, _), (37, _)] rfl ?_)
          refine WC.condF rfl ?_
          refine WC.skip ?_
          refine WC.seq ?_
          refine WC.seq ?_
          refine WC.run ?_
          refine WS.op rfl rfl ?_
          refine WS.sneq (l := (writeM m)) (m := []) rfl rfl rfl (fun e39 => ?_) (fun e39 => ?_)
          · skip
            refine WS.nil [(1, _), (2, _), (3, _), (4, _), (9, _), (39, _)] rfl ?_
            refine WC.condT rfl ?_
            refine WC.seq ?_
            refine WC.run ?_
            refine WS.op rfl rfl ?_
            have hR := wr_right e39
            have hwl := writeM_len hz4 hz3
            have hpos := List.length_pos_iff.2 e39
            refine WS.call rfl rfl rfl (msg_Read_ran M223.here (l := (writeM m)) (by first | omega | (rw [List.length_take]; omega) | (rw [List.length_append]; omega))) ?_
            rintro _ h224 ⟨m42, V42, S42, ok42, rfl, O42, hy42, hn42, N225⟩
            obtain ⟨P42, rfl⟩ := O42.shape
            have M226 := M223.trans N225
            replace M226 : Mem _ _ (S42 :: _) _ := M226
            refine WS.op rfl rfl (WS.op rfl rfl (WS.op rfl rfl ?_))
            refine WS.new M226 rfl ?_
            intro p227 h228 M229
            refine WS.st1 (M229.focus 0 rfl) [_, _, _, _, _, _, _, _, _, _, _, _, _] [_, _, _, _, _, _, _, _, _, _, _, _, _] rfl rfl rfl rfl rfl (Nat.le_of_ble_eq_true rfl) (Nat.le_of_ble_eq_true rfl) rfl rfl ?_
            intro h230 M231
            replace M231 : Mem _ _ ([(p227, _)] :: S42 :: [(p1, _)] :: []) _ := M231
            refine WS.op rfl rfl (WS.nil [(1, _), (2, _), (3, _), (4, _), (9, _), (10, _), (11, _)] rfl ?_)
            refine WC.seq ?_
            refine WC.run ?_
            refine WS.op rfl rfl (WS.op rfl rfl (WS.opV (.int .i64 (((ct).toNat : Nat) : Int)) rfl rfl (cv_i64 (n := (ct).toNat) (by have := UInt16.toNat_lt ct; omega)) (WS.op rfl rfl (WS.op rfl (op_lenS (l := (writeM m)) rfl) (WS.op rfl (op_remN (a := (ct).toNat) (b := ((writeM m)).length) rfl rfl (by exact hpos)) (WS.op rfl (op_slS1 (l := (writeM m)) (((ct).toNat) % (((writeM m)).length)) rfl rfl (by have := Nat.mod_lt ct.toNat hpos; omega)) ?_))))))
            refine WS.call rfl rfl rfl (msg_Read_ran M231.here (l := (((writeM m)).take (((ct).toNat) % (((writeM m)).length)))) (by first | omega | (rw [List.length_take]; omega) | (rw [List.length_append]; omega))) ?_
            rintro _ h232 ⟨m53, V53, S53, ok53, rfl, O53, hy53, hn53, N233⟩
            obtain ⟨P53, rfl⟩ := O53.shape
            have M234 := M231.trans N233
            replace M234 : Mem _ _ (S53 :: _) _ := M234
            refine WS.op rfl rfl (WS.op rfl rfl (WS.op rfl rfl ?_))
            refine WS.new M234 rfl ?_
            intro p235 h236 M237
            refine WS.st1 (M237.focus 0 rfl) [_, _, _, _, _, _, _, _, _, _, _, _, _] [_, _, _, _, _, _, _, _, _, _, _, _, _] rfl rfl rfl rfl rfl (Nat.le_of_ble_eq_true rfl) (Nat.le_of_ble_eq_true rfl) rfl rfl ?_
            intro h238 M239
            replace M239 : Mem _ _ ([(p235, _)] :: S53 :: [(p227, _)] :: S42 :: [(p1, _)] :: []) _ := M239
            refine WS.op rfl rfl (WS.nil [(1, _), (3, _), (4, _), (9, _), (10, _), (11, _), (13, _)] rfl ?_)
            refine WC.seq ?_
            refine WC.run ?_
            refine WS.op rfl rfl (WS.op rfl rfl (WS.op rfl (op_sadd (l := (writeM m)) (m := bh) rfl rfl (by omega)) ?_))
            refine WS.call rfl rfl rfl (msg_Read_ran M239.here (l := ((writeM m) ++ bh)) (by first | omega | (rw [List.length_take]; omega) | (rw [List.length_append]; omega))) ?_
            rintro _ h240 ⟨m60, V60, S60, ok60, rfl, O60, hy60, hn60, N241⟩
            obtain ⟨P60, rfl⟩ := O60.shape
            have M242 := M239.trans N241
            replace M242 : Mem _ _ (S60 :: _) _ := M242
            refine WS.op rfl rfl (WS.op rfl rfl (WS.op rfl rfl ?_))
            refine WS.new M242 rfl ?_
            intro p243 h244 M245
            refine WS.st1 (M245.focus 0 rfl) [_, _, _, _, _, _, _, _, _, _, _, _, _] [_, _, _, _, _, _, _, _, _, _, _, _, _] rfl rfl rfl rfl rfl (Nat.le_of_ble_eq_true rfl) (Nat.le_of_ble_eq_true rfl) rfl rfl ?_
            intro h246 M247
            replace M247 : Mem _ _ ([(p243, _)] :: S60 :: [(p235, _)] :: S53 :: [(p227, _)] :: S42 :: [(p1, _)] :: []) _ := M247
            refine WS.op rfl rfl (WS.nil [(1, _), (3, _), (4, _), (10, _), (11, _), (13, _), (15, _)] rfl ?_)
            refine WC.seq ?_
            refine WC.run ?_
            refine WS.op rfl rfl ?_
            obtain ⟨f0, f1⟩ := back_self (by omega) hR hy42 hn42
            have f2 := back_short (Nat.mod_lt _ hpos) hy53 hR (by omega)
            have f3 := back_more hR hy60 hn60 (by rw [List.length_append]; omega)
            cases hb3 : ok42
            · skip
              rw [f0] at hb3; cases hb3
            · skip
              refine WS.opV (.bool false) rfl rfl rfl (WS.op rfl rfl (WS.op rfl (op_lds [_, _, _, _, _, _, _, _, _, _, _, _, _] (M247.at 4 rfl) rfl (Nat.le_of_ble_eq_true rfl) rfl) (WS.op rfl (op_lds [_, _, _, _, _, _, _, _, _, _, _, _, _] (M247.at 6 rfl) rfl (Nat.le_of_ble_eq_true rfl) rfl) ?_)))
              refine WS.call rfl rfl rfl (msg_Same_ran M247.here (m := m42) (n := m) (Row.Own.sl O42 (Mem.owni M247 5 rfl)) (A.mono M247.sub) (by rw [f1]; omega)) ?_
              rintro _ h248 ⟨rfl, N249⟩
              have M250 := M247.trans N249
              cases hb4 : (sameM m42 m)
              · skip
                rw [f1, sameM_self] at hb4; cases hb4
              · skip
                refine WS.opV (.bool false) rfl rfl rfl (WS.op rfl rfl (WS.op rfl rfl (WS.op rfl rfl (WS.op rfl rfl (WS.op rfl rfl ?_)))))
                cases hb5 : ok53
                · skip
                  refine WS.op rfl rfl (WS.op rfl rfl ?_)
                  refine WS.seql (l := bh) (m := []) rfl rfl rfl (fun e77 => ?_) (fun e77 => ?_)
                  · skip
                    cases hb6 : ok60
                    · skip
                      refine WS.opV (.bool true) rfl rfl rfl (WS.op rfl rfl (WS.nil [(1, _), (79, _)] rfl ?_))
                      refine WC.condT rfl ?_
                      refine WC.seq ?_
                      refine WC.run ?_
                      refine WS.op rfl rfl (WS.nil [(8, _)] rfl ?_)
                      refine WC.ret ?_
                      refine ⟨[_], (res_tmp rfl res_nil), ?_⟩
                      exfalso; first | exact absurd (writeM_f (by assumption)) e34 | exact absurd e34 (by rw [writeM_t (by assumption)]; exact encM_ne _) | exact absurd (f3.1 (by assumption)) e77 | exact absurd (f3.2 e77) (by rw [Bool.not_eq_true]; assumption)
                    · skip
                      refine WS.opV (.bool false) rfl rfl rfl (WS.op rfl rfl (WS.nil [(1, _), (79, _)] rfl ?_))
                      refine WC.condF rfl ?_
                      refine WC.skip ?_
                      refine WC.seq ?_
                      refine WC.run ?_
                      refine WS.op rfl rfl ?_
                      refine WS.call rfl rfl rfl (msg_Read_ran M250.here (l := l) (by first | omega | (rw [List.length_take]; omega) | (rw [List.length_append]; omega))) ?_
                      rintro _ h251 ⟨m82, V82, S82, ok82, rfl, O82, hy82, hn82, N252⟩
                      obtain ⟨P82, rfl⟩ := O82.shape
                      have M253 := M250.trans N252
                      replace M253 : Mem _ _ (S82 :: _) _ := M253
                      refine WS.op rfl rfl (WS.op rfl rfl (WS.op rfl rfl ?_))
                      refine WS.new M253 rfl ?_
                      intro p254 h255 M256
                      refine WS.st1 (M256.focus 0 rfl) [_, _, _, _, _, _, _, _, _, _, _, _, _] [_, _, _, _, _, _, _, _, _, _, _, _, _] rfl rfl rfl rfl rfl (Nat.le_of_ble_eq_true rfl) (Nat.le_of_ble_eq_true rfl) rfl rfl ?_
                      intro h257 M258
                      replace M258 : Mem _ _ ([(p254, _)] :: S82 :: [(p243, _)] :: S60 :: [(p235, _)] :: S53 :: [(p227, _)] :: S42 :: [(p1, _)] :: []) _ := M258
                      refine WS.op rfl rfl (WS.nil [(1, _), (16, _), (17, _)] rfl ?_)
                      refine WC.seq ?_
                      refine WC.run ?_
                      have f8 := read_wr hy82
                      have hz82 := read_small (by first | omega | (rw [List.length_take]; omega)) hy82 hn82
                      refine WS.op rfl rfl (WS.op rfl rfl ?_)
                      cases hb7 : ok82
                      · skip
                        refine WS.off rfl (WS.offC rfl (WS.op rfl rfl (WS.op rfl rfl (WS.off rfl (WS.offC rfl (WS.off rfl (WS.off rfl (WS.op rfl rfl (WS.op rfl rfl ?_)))))))))
                        refine WS.op rfl rfl (WS.opV (.bool true) rfl rfl rfl (WS.op rfl rfl (WS.op rfl (op_lds [_, _, _, _, _, _, _, _, _, _, _, _, _] (M258.at 0 rfl) rfl (Nat.le_of_ble_eq_true rfl) rfl) (WS.opV (.agg #[(.int .u8 (0 : Int)), (.int .u8 (0 : Int)), (.int .u8 (0 : Int)), (.int .u64 (0 : Int)), (.int .u64 (0 : Int)), (.int .u64 (0 : Int)), (.int .u64 (0 : Int)), (.int .u64 (0 : Int)), (.bool false), (.int .u8 (0 : Int)), (.int .u8 (0 : Int)), (.slice none 0 0), (.string (bs ([])))]) rfl rfl rfl ?_))))
                        refine WS.call rfl rfl rfl (msg_Same_ran M258.here (m := m82) (n := (⟨0, 0, 0, 0, 0, 0, 0, 0, false, 0, 0, [], ([])⟩ : Msg)) (Row.Own.sl O82 (Mem.owni M258 1 rfl)) Row.Sl.nil (by exact hz82.2.1)) ?_
                        rintro _ h259 ⟨rfl, N260⟩
                        have M261 := M258.trans N260
                        refine WS.op rfl rfl (WS.op rfl rfl (WS.op rfl rfl ?_))
                        cases hb8 : (sameM m82 (⟨0, 0, 0, 0, 0, 0, 0, 0, false, 0, 0, [], ([])⟩ : Msg))
                        · skip
                          exact absurd hb8 (by rw [(hn82 (by assumption)).1]; decide)
                        · skip
                          refine WS.call rfl rfl rfl (awake_ran M261.here ) ?_
                          rintro _ h262 ⟨rfl, N263⟩
                          have M264 := M261.trans N263
                          refine WS.op rfl rfl (WS.op rfl rfl (WS.nil [(8, _)] rfl ?_))
                          refine WC.ret ?_
                          refine ⟨[_], (res_tmp rfl res_nil), ?_⟩
                          rfl
                      · skip
                        refine WS.op rfl (op_lds [_, _, _, _, _, _, _, _, _, _, _, _, _] (M258.at 0 rfl) rfl (Nat.le_of_ble_eq_true rfl) rfl) ?_
                        refine WS.call rfl rfl rfl (msg_Right_ran M258.here (m := m82) (Row.Own.sl O82 (Mem.owni M258 1 rfl)) (by exact hz82)) ?_
                        rintro _ h265 ⟨rfl, N266⟩
                        have M267 := M258.trans N266
                        refine WS.op rfl rfl (WS.op rfl rfl ?_)
                        cases hb9 : (rightMB m82)
                        · skip
                          exact absurd hb9 (by rw [(f8 (by assumption)).1]; decide)
                        · skip
                          refine WS.op rfl (op_lds [_, _, _, _, _, _, _, _, _, _, _, _, _] (M267.at 0 rfl) rfl (Nat.le_of_ble_eq_true rfl) rfl) ?_
                          refine WS.call rfl rfl rfl (msg_Write_ran M267.here (m := m82) (Row.Own.sl O82 (Mem.owni M267 1 rfl)) (by exact hz82)) ?_
                          rintro _ h268 ⟨rfl, N269⟩
                          have M270 := M267.trans N269
                          refine WS.op rfl rfl ?_
                          refine WS.seql (l := (writeM m82)) (m := l) rfl rfl rfl (fun e94 => ?_) (fun e94 => ?_)
                          · skip
                            refine WS.op rfl rfl (WS.op rfl rfl (WS.off rfl (WS.off rfl (WS.off rfl (WS.off rfl (WS.off rfl (WS.offC rfl (WS.off rfl (WS.op rfl rfl ?_)))))))))
                            refine WS.op rfl rfl ?_
                            refine WS.call rfl rfl rfl (awake_ran M270.here ) ?_
                            rintro _ h271 ⟨rfl, N272⟩
                            have M273 := M270.trans N272
                            refine WS.op rfl rfl (WS.op rfl rfl (WS.nil [(8, _)] rfl ?_))
                            refine WC.ret ?_
                            refine ⟨[_], (res_tmp rfl res_nil), ?_⟩
                            rfl
                          · skip
                            exact absurd (f8 (by assumption)).2 e94
                  · skip
                    cases hb6 : ok60
                    · skip
                      refine WS.opV (.bool false) rfl rfl rfl (WS.op rfl rfl (WS.nil [(1, _), (79, _)] rfl ?_))
                      refine WC.condF rfl ?_
                      refine WC.skip ?_
                      refine WC.seq ?_
                      refine WC.run ?_
                      refine WS.op rfl rfl ?_
                      refine WS.call rfl rfl rfl (msg_Read_ran M250.here (l := l) (by first | omega | (rw [List.length_take]; omega) | (rw [List.length_append]; omega))) ?_
                      rintro _ h274 ⟨m82, V82, S82, ok82, rfl, O82, hy82, hn82, N275⟩
                      obtain ⟨P82, rfl⟩ := O82.shape
                      have M276 := M250.trans N275
                      replace M276 : Mem _ _ (S82 :: _) _ := M276
                      refine WS.op rfl rfl (WS.op rfl rfl (WS.op rfl rfl ?_))
                      refine WS.new M276 rfl ?_
                      intro p277 h278 M279
                      refine WS.st1 (M279.focus 0 rfl) [_, _, _, _, _, _, _, _, _, _, _, _, _] [_, _, _, _, _, _, _, _, _, _, _, _, _] rfl rfl rfl rfl rfl (Nat.le_of_ble_eq_true rfl) (Nat.le_of_ble_eq_true rfl) rfl rfl ?_
                      intro h280 M281
                      replace M281 : Mem _ _ ([(p277, _)] :: S82 :: [(p243, _)] :: S60 :: [(p235, _)] :: S53 :: [(p227, _)] :: S42 :: [(p1, _)] :: []) _ := M281
                      refine WS.op rfl rfl (WS.nil [(1, _), (16, _), (17, _)] rfl ?_)
                      refine WC.seq ?_
                      refine WC.run ?_
                      have f8 := read_wr hy82
                      have hz82 := read_small (by first | omega | (rw [List.length_take]; omega)) hy82 hn82
                      refine WS.op rfl rfl (WS.op rfl rfl ?_)
                      cases hb7 : ok82
                      · skip
                        refine WS.off rfl (WS.offC rfl (WS.op rfl rfl (WS.op rfl rfl (WS.off rfl (WS.offC rfl (WS.off rfl (WS.off rfl (WS.op rfl rfl (WS.op rfl rfl ?_)))))))))
                        refine WS.op rfl rfl (WS.opV (.bool true) rfl rfl rfl (WS.op rfl rfl (WS.op rfl (op_lds [_, _, _, _, _, _, _, _, _, _, _, _, _] (M281.at 0 rfl) rfl (Nat.le_of_ble_eq_true rfl) rfl) (WS.opV (.agg #[(.int .u8 (0 : Int)), (.int .u8 (0 : Int)), (.int .u8 (0 : Int)), (.int .u64 (0 : Int)), (.int .u64 (0 : Int)), (.int .u64 (0 : Int)), (.int .u64 (0 : Int)), (.int .u64 (0 : Int)), (.bool false), (.int .u8 (0 : Int)), (.int .u8 (0 : Int)), (.slice none 0 0), (.string (bs ([])))]) rfl rfl rfl ?_))))
                        refine WS.call rfl rfl rfl (msg_Same_ran M281.here (m := m82) (n := (⟨0, 0, 0, 0, 0, 0, 0, 0, false, 0, 0, [], ([])⟩ : Msg)) (Row.Own.sl O82 (Mem.owni M281 1 rfl)) Row.Sl.nil (by exact hz82.2.1)) ?_
                        rintro _ h282 ⟨rfl, N283⟩
                        have M284 := M281.trans N283
                        refine WS.op rfl rfl (WS.op rfl rfl (WS.op rfl rfl ?_))
                        cases hb8 : (sameM m82 (⟨0, 0, 0, 0, 0, 0, 0, 0, false, 0, 0, [], ([])⟩ : Msg))
                        · skip
                          exact absurd hb8 (by rw [(hn82 (by assumption)).1]; decide)
                        · skip
                          refine WS.call rfl rfl rfl (awake_ran M284.here ) ?_
                          rintro _ h285 ⟨rfl, N286⟩
                          have M287 := M284.trans N286
                          refine WS.op rfl rfl (WS.op rfl rfl (WS.nil [(8, _)] rfl ?_))
                          refine WC.ret ?_
                          refine ⟨[_], (res_tmp rfl res_nil), ?_⟩
                          rfl
                      · skip
                        refine WS.op rfl (op_lds [_, _, _, _, _, _, _, _, _, _, _, _, _] (M281.at 0 rfl) rfl (Nat.le_of_ble_eq_true rfl) rfl) ?_
                        refine WS.call rfl rfl rfl (msg_Right_ran M281.here (m := m82) (Row.Own.sl O82 (Mem.owni M281 1 rfl)) (by exact hz82)) ?_
                        rintro _ h288 ⟨rfl, N289⟩
                        have M290 := M281.trans N289
                        refine WS.op rfl rfl (WS.op rfl rfl ?_)
                        cases hb9 : (rightMB m82)
                        · skip
                          exact absurd hb9 (by rw [(f8 (by assumption)).1]; decide)
                        · skip
                          refine WS.op rfl (op_lds [_, _, _, _, _, _, _, _, _, _, _, _, _] (M290.at 0 rfl) rfl (Nat.le_of_ble_eq_true rfl) rfl) ?_
                          refine WS.call rfl rfl rfl (msg_Write_ran M290.here (m := m82) (Row.Own.sl O82 (Mem.owni M290 1 rfl)) (by exact hz82)) ?_
                          rintro _ h291 ⟨rfl, N292⟩
                          have M293 := M290.trans N292
                          refine WS.op rfl rfl ?_
                          refine WS.seql (l := (writeM m82)) (m := l) rfl rfl rfl (fun e94 => ?_) (fun e94 => ?_)
                          · skip
                            refine WS.op rfl rfl (WS.op rfl rfl (WS.off rfl (WS.off rfl (WS.off rfl (WS.off rfl (WS.off rfl (WS.offC rfl (WS.off rfl (WS.op rfl rfl ?_)))))))))
                            refine WS.op rfl rfl ?_
                            refine WS.call rfl rfl rfl (awake_ran M293.here ) ?_
                            rintro _ h294 ⟨rfl, N295⟩
                            have M296 := M293.trans N295
                            refine WS.op rfl rfl (WS.op rfl rfl (WS.nil [(8, _)] rfl ?_))
                            refine WC.ret ?_
                            refine ⟨[_], (res_tmp rfl res_nil), ?_⟩
                            rfl
                          · skip
                            exact absurd (f8 (by assumption)).2 e94
                    · skip
                      refine WS.opV (.bool true) rfl rfl rfl (WS.op rfl rfl (WS.nil [(1, _), (79, _)] rfl ?_))
                      refine WC.condT rfl ?_
                      refine WC.seq ?_
                      refine WC.run ?_
                      refine WS.op rfl rfl (WS.nil [(8, _)] rfl ?_)
                      refine WC.ret ?_
                      refine ⟨[_], (res_tmp rfl res_nil), ?_⟩
                      exfalso; first | exact absurd (writeM_f (by assumption)) e34 | exact absurd e34 (by rw [writeM_t (by assumption)]; exact encM_ne _) | exact absurd (f3.1 (by assumption)) e77 | exact absurd (f3.2 e77) (by rw [Bool.not_eq_true]; assumption)
                · skip
                  rw [f2] at hb5; cases hb5
          · skip
            refine WS.nil [(1, _), (2, _), (3, _), (4, _), (9, _), (39, _)] rfl ?_
            refine WC.condF rfl ?_
            refine WC.skip ?_
            refine WC.seq ?_
            refine WC.run ?_
            refine WS.op rfl rfl ?_
            refine WS.call rfl rfl rfl (msg_Read_ran M223.here (l := l) (by first | omega | (rw [List.length_take]; omega) | (rw [List.length_append]; omega))) ?_
            rintro _ h297 ⟨m82, V82, S82, ok82, rfl, O82, hy82, hn82, N298⟩
            obtain ⟨P82, rfl⟩ := O82.shape
            have M299 := M223.trans N298
            replace M299 : Mem _ _ (S82 :: _) _ := M299
            refine WS.op rfl rfl (WS.op rfl rfl (WS.op rfl rfl ?_))
            refine WS.new M299 rfl ?_
            intro p300 h301 M302
            refine WS.st1 (M302.focus 0 rfl) [_, _, _, _, _, _, _, _, _, _, _, _, _] [_, _, _, _, _, _, _, _, _, _, _, _, _] rfl rfl rfl rfl rfl (Nat.le_of_ble_eq_true rfl) (Nat.le_of_ble_eq_true rfl) rfl rfl ?_
            intro h303 M304
            replace M304 : Mem _ _ ([(p300, _)] :: S82 :: [(p1, _)] :: []) _ := M304
            refine WS.op rfl rfl (WS.nil [(1, _), (16, _), (17, _)] rfl ?_)
            refine WC.seq ?_
            refine WC.run ?_
            have f8 := read_wr hy82
            have hz82 := read_small (by first | omega | (rw [List.length_take]; omega)) hy82 hn82
            refine WS.op rfl rfl (WS.op rfl rfl ?_)
            cases hb7 : ok82
            · skip
              refine WS.off rfl (WS.offC rfl (WS.op rfl rfl (WS.op rfl rfl (WS.off rfl (WS.offC rfl (WS.off rfl (WS.off rfl (WS.op rfl rfl (WS.op rfl rfl ?_)))))))))
              refine WS.op rfl rfl (WS.opV (.bool true) rfl rfl rfl (WS.op rfl rfl (WS.op rfl (op_lds [_, _, _, _, _, _, _, _, _, _, _, _, _] (M304.at 0 rfl) rfl (Nat.le_of_ble_eq_true rfl) rfl) (WS.opV (.agg #[(.int .u8 (0 : Int)), (.int .u8 (0 : Int)), (.int .u8 (0 : Int)), (.int .u64 (0 : Int)), (.int .u64 (0 : Int)), (.int .u64 (0 : Int)), (.int .u64 (0 : Int)), (.int .u64 (0 : Int)), (.bool false), (.int .u8 (0 : Int)), (.int .u8 (0 : Int)), (.slice none 0 0), (.string (bs ([])))]) rfl rfl rfl ?_))))
              refine WS.call rfl rfl rfl (msg_Same_ran M304.here (m := m82) (n := (⟨0, 0, 0, 0, 0, 0, 0, 0, false, 0, 0, [], ([])⟩ : Msg)) (Row.Own.sl O82 (Mem.owni M304 1 rfl)) Row.Sl.nil (by exact hz82.2.1)) ?_
              rintro _ h305 ⟨rfl, N306⟩
              have M307 := M304.trans N306
              refine WS.op rfl rfl (WS.op rfl rfl (WS.op rfl rfl ?_))
              cases hb8 : (sameM m82 (⟨0, 0, 0, 0, 0, 0, 0, 0, false, 0, 0, [], ([])⟩ : Msg))
              · skip
                exact absurd hb8 (by rw [(hn82 (by assumption)).1]; decide)
              · skip
                refine WS.call rfl rfl rfl (awake_ran M307.here ) ?_
                rintro _ h308 ⟨rfl, N309⟩
                have M310 := M307.trans N309
                refine WS.op rfl rfl (WS.op rfl rfl (WS.nil [(8, _)] rfl ?_))
                refine WC.ret ?_
                refine ⟨[_], (res_tmp rfl res_nil), ?_⟩
                rfl
            · skip
              refine WS.op rfl (op_lds [_, _, _, _, _, _, _, _, _, _, _, _, _] (M304.at 0 rfl) rfl (Nat.le_of_ble_eq_true rfl) rfl) ?_
              refine WS.call rfl rfl rfl (msg_Right_ran M304.here (m := m82) (Row.Own.sl O82 (Mem.owni M304 1 rfl)) (by exact hz82)) ?_
              rintro _ h311 ⟨rfl, N312⟩
              have M313 := M304.trans N312
              refine WS.op rfl rfl (WS.op rfl rfl ?_)
              cases hb9 : (rightMB m82)
              · skip
                exact absurd hb9 (by rw [(f8 (by assumption)).1]; decide)
              · skip
                refine WS.op rfl (op_lds [_, _, _, _, _, _, _, _, _, _, _, _, _] (M313.at 0 rfl) rfl (Nat.le_of_ble_eq_true rfl) rfl) ?_
                refine WS.call rfl rfl rfl (msg_Write_ran M313.here (m := m82) (Row.Own.sl O82 (Mem.owni M313 1 rfl)) (by exact hz82)) ?_
                rintro _ h314 ⟨rfl, N315⟩
                have M316 := M313.trans N315
                refine WS.op rfl rfl ?_
                refine WS.seql (l := (writeM m82)) (m := l) rfl rfl rfl (fun e94 => ?_) (fun e94 => ?_)
                · skip
                  refine WS.op rfl rfl (WS.op rfl rfl (WS.off rfl (WS.off rfl (WS.off rfl (WS.off rfl (WS.off rfl (WS.offC rfl (WS.off rfl (WS.op rfl rfl ?_)))))))))
                  refine WS.op rfl rfl ?_
                  refine WS.call rfl rfl rfl (awake_ran M316.here ) ?_
                  rintro _ h317 ⟨rfl, N318⟩
                  have M319 := M316.trans N318
                  refine WS.op rfl rfl (WS.op rfl rfl (WS.nil [(8, _)] rfl ?_))
                  refine WC.ret ?_
                  refine ⟨[_], (res_tmp rfl res_nil), ?_⟩
                  rfl
                · skip
                  exact absurd (f8 (by assumption)).2 e94
      · skip
        refine WS.op rfl (op_lds [_, _, _, _, _, _, _, _, _, _, _, _, _] (M220.at 0 rfl) rfl (Nat.le_of_ble_eq_true rfl) rfl) ?_
        refine WS.call rfl rfl rfl (msg_Right_ran M220.here (m := m) (A.mono M220.sub) (by exact ⟨hz1, by omega, by omega⟩)) ?_
        rintro _ h320 ⟨rfl, N321⟩
        have M322 := M220.trans N321
        cases hb2 : (rightMB m)
        · skip
          refine WS.opV (.bool false) rfl rfl rfl (WS.nil [(1, _), (2, _), (3, _), (4, _), (9, _), (37, _)] rfl ?_)
          refine WC.condF rfl ?_
          refine WC.skip ?_
          refine WC.seq ?_
          refine WC.seq ?_
          refine WC.run ?_
          refine WS.op rfl rfl ?_
          refine WS.sneq (l := (writeM m)) (m := []) rfl rfl rfl (fun e39 => ?_) (fun e39 => ?_)
          · skip
            refine WS.nil [(1, _), (2, _), (3, _), (4, _), (9, _), (39, _)] rfl ?_
            refine WC.condT rfl ?_
            refine WC.seq ?_
            refine WC.run ?_
            refine WS.op rfl rfl ?_
            have hR := wr_right e39
            have hwl := writeM_len hz4 hz3
            have hpos := List.length_pos_iff.2 e39
            refine WS.call rfl rfl rfl (msg_Read_ran M322.here (l := (writeM m)) (by first | omega | (rw [List.length_take]; omega) | (rw [List.length_append]; omega))) ?_
            rintro _ h323 ⟨m42, V42, S42, ok42, rfl, O42, hy42, hn42, N324⟩
            obtain ⟨P42, rfl⟩ := O42.shape
            have M325 := M322.trans N324
            replace M325 : Mem _ _ (S42 :: _) _ := M325
            refine WS.op rfl rfl (WS.op rfl rfl (WS.op rfl rfl ?_))
            refine WS.new M325 rfl ?_
            intro p326 h327 M328
            refine WS.st1 (M328.focus 0 rfl) [_, _, _, _, _, _, _, _, _, _, _, _, _] [_, _, _, _, _, _, _, _, _, _, _, _, _] rfl rfl rfl rfl rfl (Nat.le_of_ble_eq_true rfl) (Nat.le_of_ble_eq_true rfl) rfl rfl ?_
            intro h329 M330
            replace M330 : Mem _ _ ([(p326, _)] :: S42 :: [(p1, _)] :: []) _ := M330
            refine WS.op rfl rfl (WS.nil [(1, _), (2, _), (3, _), (4, _), (9, _), (10, _), (11, _)] rfl ?_)
            refine WC.seq ?_
            refine WC.run ?_
            refine WS.op rfl rfl (WS.op rfl rfl (WS.opV (.int .i64 (((ct).toNat : Nat) : Int)) rfl rfl (cv_i64 (n := (ct).toNat) (by have := UInt16.toNat_lt ct; omega)) (WS.op rfl rfl (WS.op rfl (op_lenS (l := (writeM m)) rfl) (WS.op rfl (op_remN (a := (ct).toNat) (b := ((writeM m)).length) rfl rfl (by exact hpos)) (WS.op rfl (op_slS1 (l := (writeM m)) (((ct).toNat) % (((writeM m)).length)) rfl rfl (by have := Nat.mod_lt ct.toNat hpos; omega)) ?_))))))
            refine WS.call rfl rfl rfl (msg_Read_ran M330.here (l := (((writeM m)).take (((ct).toNat) % (((writeM m)).length)))) (by first | omega | (rw [List.length_take]; omega) | (rw [List.length_append]; omega))) ?_
            rintro _ h331 ⟨m53, V53, S53, ok53, rfl, O53, hy53, hn53, N332⟩
            obtain ⟨P53, rfl⟩ := O53.shape
            have M333 := M330.trans N332
            replace M333 : Mem _ _ (S53 :: _) _ := M333
            refine WS.op rfl rfl (WS.op rfl rfl (WS.op rfl rfl ?_))
            refine WS.new M333 rfl ?_
            intro p334 h335 M336
            refine WS.st1 (M336.focus 0 rfl) [_, _, _, _, _, _, _, _, _, _, _, _, _] [_, _, _, _, _, _, _, _, _, _, _, _, _] rfl rfl rfl rfl rfl (Nat.le_of_ble_eq_true rfl) (Nat.le_of_ble_eq_true rfl) rfl rfl ?_
            intro h337 M338
            replace M338 : Mem _ _ ([(p334, _)] :: S53 :: [(p326, _)] :: S42 :: [(p1, _)] :: []) _ := M338
            refine WS.op rfl rfl (WS.nil [(1, _), (3, _), (4, _), (9, _), (10, _), (11, _), (13, _)] rfl ?_)
            refine WC.seq ?_
            refine WC.run ?_
            refine WS.op rfl rfl (WS.op rfl rfl (WS.op rfl (op_sadd (l := (writeM m)) (m := bh) rfl rfl (by omega)) ?_))
            refine WS.call rfl rfl rfl (msg_Read_ran M338.here (l := ((writeM m) ++ bh)) (by first | omega | (rw [List.length_take]; omega) | (rw [List.length_append]; omega))) ?_
            rintro _ h339 ⟨m60, V60, S60, ok60, rfl, O60, hy60, hn60, N340⟩
            obtain ⟨P60, rfl⟩ := O60.shape
            have M341 := M338.trans N340
            replace M341 : Mem _ _ (S60 :: _) _ := M341
            refine WS.op rfl rfl (WS.op rfl rfl (WS.op rfl rfl ?_))
            refine WS.new M341 rfl ?_
            intro p342 h343 M344
            refine WS.st1 (M344.focus 0 rfl) [_, _, _, _, _, _, _, _, _, _, _, _, _] [_, _, _, _, _, _, _, _, _, _, _, _, _] rfl rfl rfl rfl rfl (Nat.le_of_ble_eq_true rfl) (Nat.le_of_ble_eq_true rfl) rfl rfl ?_
            intro h345 M346
            replace M346 : Mem _ _ ([(p342, _)] :: S60 :: [(p334, _)] :: S53 :: [(p326, _)] :: S42 :: [(p1, _)] :: []) _ := M346
            refine WS.op rfl rfl (WS.nil [(1, _), (3, _), (4, _), (10, _), (11, _), (13, _), (15, _)] rfl ?_)
            refine WC.seq ?_
            refine WC.run ?_
            refine WS.op rfl rfl ?_
            obtain ⟨f0, f1⟩ := back_self (by omega) hR hy42 hn42
            have f2 := back_short (Nat.mod_lt _ hpos) hy53 hR (by omega)
            have f3 := back_more hR hy60 hn60 (by rw [List.length_append]; omega)
            cases hb3 : ok42
            · skip
              rw [f0] at hb3; cases hb3
            · skip
              refine WS.opV (.bool false) rfl rfl rfl (WS.op rfl rfl (WS.op rfl (op_lds [_, _, _, _, _, _, _, _, _, _, _, _, _] (M346.at 4 rfl) rfl (Nat.le_of_ble_eq_true rfl) rfl) (WS.op rfl (op_lds [_, _, _, _, _, _, _, _, _, _, _, _, _] (M346.at 6 rfl) rfl (Nat.le_of_ble_eq_true rfl) rfl) ?_)))
              refine WS.call rfl rfl rfl (msg_Same_ran M346.here (m := m42) (n := m) (Row.Own.sl O42 (Mem.owni M346 5 rfl)) (A.mono M346.sub) (by rw [f1]; omega)) ?_
              rintro _ h347 ⟨rfl, N348⟩
              have M349 := M346.trans N348
              cases hb4 : (sameM m42 m)
              · skip
                rw [f1, sameM_self] at hb4; cases hb4
              · skip
                refine WS.opV (.bool false) rfl rfl rfl (WS.op rfl rfl (WS.op rfl rfl (WS.op rfl rfl (WS.op rfl rfl (WS.op rfl rfl ?_)))))
                cases hb5 : ok53
                · skip
                  refine WS.op rfl rfl (WS.op rfl rfl ?_)
                  refine WS.seql (l := bh) (m := []) rfl rfl rfl (fun e77 => ?_) (fun e77 => ?_)
                  · skip
                    cases hb6 : ok60
                    · skip
                      refine WS.opV (.bool true) rfl rfl rfl (WS.op rfl rfl (WS.nil [(1, _), (79, _)] rfl ?_))
                      refine WC.condT rfl ?_
                      refine WC.seq ?_
                      refine WC.run ?_
                      refine WS.op rfl rfl (WS.nil [(8, _)] rfl ?_)
                      refine WC.ret ?_
                      refine ⟨[_], (res_tmp rfl res_nil), ?_⟩
                      exfalso; first | exact absurd (writeM_f (by assumption)) e34 | exact absurd e34 (by rw [writeM_t (by assumption)]; exact encM_ne _) | exact absurd (f3.1 (by assumption)) e77 | exact absurd (f3.2 e77) (by rw [Bool.not_eq_true]; assumption)
                    · skip
                      refine WS.opV (.bool false) rfl rfl rfl (WS.op rfl rfl (WS.nil [(1, _), (79, _)] rfl ?_))
                      refine WC.condF rfl ?_
                      refine WC.skip ?_
                      refine WC.seq ?_
                      refine WC.run ?_
                      refine WS.op rfl rfl ?_
                      refine WS.call rfl rfl rfl (msg_Read_ran M349.here (l := l) (by first | omega | (rw [List.length_take]; omega) | (rw [List.length_append]; omega))) ?_
                      rintro _ h350 ⟨m82, V82, S82, ok82, rfl, O82, hy82, hn82, N351⟩
                      obtain ⟨P82, rfl⟩ := O82.shape
                      have M352 := M349.trans N351
                      replace M352 : Mem _ _ (S82 :: _) _ := M352
                      refine WS.op rfl rfl (WS.op rfl rfl (WS.op rfl rfl ?_))
                      refine WS.new M352 rfl ?_
                      intro p353 h354 M355
                      refine WS.st1 (M355.focus 0 rfl) [_, _, _, _, _, _, _, _, _, _, _, _, _] [_, _, _, _, _, _, _, _, _, _, _, _, _] rfl rfl rfl rfl rfl (Nat.le_of_ble_eq_true rfl) (Nat.le_of_ble_eq_true rfl) rfl rfl ?_
                      intro h356 M357
                      replace M357 : Mem _ _ ([(p353, _)] :: S82 :: [(p342, _)] :: S60 :: [(p334, _)] :: S53 :: [(p326, _)] :: S42 :: [(p1, _)] :: []) _ := M357
                      refine WS.op rfl rfl (WS.nil [(1, _), (16, _), (17, _)] rfl ?_)
                      refine WC.seq ?_
                      refine WC.run ?_
                      have f8 := read_wr hy82
                      have hz82 := read_small (by first | omega | (rw [List.length_take]; omega)) hy82 hn82
                      refine WS.op rfl rfl (WS.op rfl rfl ?_)
                      cases hb7 : ok82
                      · skip
                        refine WS.off rfl (WS.offC rfl (WS.op rfl rfl (WS.op rfl rfl (WS.off rfl (WS.offC rfl (WS.off rfl (WS.off rfl (WS.op rfl rfl (WS.op rfl rfl ?_)))))))))
                        refine WS.op rfl rfl (WS.opV (.bool true) rfl rfl rfl (WS.op rfl rfl (WS.op rfl (op_lds [_, _, _, _, _, _, _, _, _, _, _, _, _] (M357.at 0 rfl) rfl (Nat.le_of_ble_eq_true rfl) rfl) (WS.opV (.agg #[(.int .u8 (0 : Int)), (.int .u8 (0 : Int)), (.int .u8 (0 : Int)), (.int .u64 (0 : Int)), (.int .u64 (0 : Int)), (.int .u64 (0 : Int)), (.int .u64 (0 : Int)), (.int .u64 (0 : Int)), (.bool false), (.int .u8 (0 : Int)), (.int .u8 (0 : Int)), (.slice none 0 0), (.string (bs ([])))]) rfl rfl rfl ?_))))
                        refine WS.call rfl rfl rfl (msg_Same_ran M357.here (m := m82) (n := (⟨0, 0, 0, 0, 0, 0, 0, 0, false, 0, 0, [], ([])⟩ : Msg)) (Row.Own.sl O82 (Mem.owni M357 1 rfl)) Row.Sl.nil (by exact hz82.2.1)) ?_
                        rintro _ h358 ⟨rfl, N359⟩
                        have M360 := M357.trans N359
                        refine WS.op rfl rfl (WS.op rfl rfl (WS.op rfl rfl ?_))
                        cases hb8 : (sameM m82 (⟨0, 0, 0, 0, 0, 0, 0, 0, false, 0, 0, [], ([])⟩ : Msg))
                        · skip
                          exact absurd hb8 (by rw [(hn82 (by assumption)).1]; decide)
                        · skip
                          refine WS.call rfl rfl rfl (awake_ran M360.here ) ?_
                          rintro _ h361 ⟨rfl, N362⟩
                          have M363 := M360.trans N362
                          refine WS.op rfl rfl (WS.op rfl rfl (WS.nil [(8, _)] rfl ?_))
                          refine WC.ret ?_
                          refine ⟨[_], (res_tmp rfl res_nil), ?_⟩
                          rfl
                      · skip
                        refine WS.op rfl (op_lds [_, _, _, _, _, _, _, _, _, _, _, _, _] (M357.at 0 rfl) rfl (Nat.le_of_ble_eq_true rfl) rfl) ?_
                        refine WS.call rfl rfl rfl (msg_Right_ran M357.here (m := m82) (Row.Own.sl O82 (Mem.owni M357 1 rfl)) (by exact hz82)) ?_
                        rintro _ h364 ⟨rfl, N365⟩
                        have M366 := M357.trans N365
                        refine WS.op rfl rfl (WS.op rfl rfl ?_)
                        cases hb9 : (rightMB m82)
                        · skip
                          exact absurd hb9 (by rw [(f8 (by assumption)).1]; decide)
                        · skip
                          refine WS.op rfl (op_lds [_, _, _, _, _, _, _, _, _, _, _, _, _] (M366.at 0 rfl) rfl (Nat.le_of_ble_eq_true rfl) rfl) ?_
                          refine WS.call rfl rfl rfl (msg_Write_ran M366.here (m := m82) (Row.Own.sl O82 (Mem.owni M366 1 rfl)) (by exact hz82)) ?_
                          rintro _ h367 ⟨rfl, N368⟩
                          have M369 := M366.trans N368
                          refine WS.op rfl rfl ?_
                          refine WS.seql (l := (writeM m82)) (m := l) rfl rfl rfl (fun e94 => ?_) (fun e94 => ?_)
                          · skip
                            refine WS.op rfl rfl (WS.op rfl rfl (WS.off rfl (WS.off rfl (WS.off rfl (WS.off rfl (WS.off rfl (WS.offC rfl (WS.off rfl (WS.op rfl rfl ?_)))))))))
                            refine WS.op rfl rfl ?_
                            refine WS.call rfl rfl rfl (awake_ran M369.here ) ?_
                            rintro _ h370 ⟨rfl, N371⟩
                            have M372 := M369.trans N371
                            refine WS.op rfl rfl (WS.op rfl rfl (WS.nil [(8, _)] rfl ?_))
                            refine WC.ret ?_
                            refine ⟨[_], (res_tmp rfl res_nil), ?_⟩
                            rfl
                          · skip
                            exact absurd (f8 (by assumption)).2 e94
                  · skip
                    cases hb6 : ok60
                    · skip
                      refine WS.opV (.bool false) rfl rfl rfl (WS.op rfl rfl (WS.nil [(1, _), (79, _)] rfl ?_))
                      refine WC.condF rfl ?_
                      refine WC.skip ?_
                      refine WC.seq ?_
                      refine WC.run ?_
                      refine WS.op rfl rfl ?_
                      refine WS.call rfl rfl rfl (msg_Read_ran M349.here (l := l) (by first | omega | (rw [List.length_take]; omega) | (rw [List.length_append]; omega))) ?_
                      rintro _ h373 ⟨m82, V82, S82, ok82, rfl, O82, hy82, hn82, N374⟩
                      obtain ⟨P82, rfl⟩ := O82.shape
                      have M375 := M349.trans N374
                      replace M375 : Mem _ _ (S82 :: _) _ := M375
                      refine WS.op rfl rfl (WS.op rfl rfl (WS.op rfl rfl ?_))
                      refine WS.new M375 rfl ?_
                      intro p376 h377 M378
                      refine WS.st1 (M378.focus 0 rfl) [_, _, _, _, _, _, _, _, _, _, _, _, _] [_, _, _, _, _, _, _, _, _, _, _, _, _] rfl rfl rfl rfl rfl (Nat.le_of_ble_eq_true rfl) (Nat.le_of_ble_eq_true rfl) rfl rfl ?_
                      intro h379 M380
                      replace M380 : Mem _ _ ([(p376, _)] :: S82 :: [(p342, _)] :: S60 :: [(p334, _)] :: S53 :: [(p326, _)] :: S42 :: [(p1, _)] :: []) _ := M380
                      refine WS.op rfl rfl (WS.nil [(1, _), (16, _), (17, _)] rfl ?_)
                      refine WC.seq ?_
                      refine WC.run ?_
                      have f8 := read_wr hy82
                      have hz82 := read_small (by first | omega | (rw [List.length_take]; omega)) hy82 hn82
                      refine WS.op rfl rfl (WS.op rfl rfl ?_)
                      cases hb7 : ok82
                      · skip
                        refine WS.off rfl (WS.offC rfl (WS.op rfl rfl (WS.op rfl rfl (WS.off rfl (WS.offC rfl (WS.off rfl (WS.off rfl (WS.op rfl rfl (WS.op rfl rfl ?_)))))))))
                        refine WS.op rfl rfl (WS.opV (.bool true) rfl rfl rfl (WS.op rfl rfl (WS.op rfl (op_lds [_, _, _, _, _, _, _, _, _, _, _, _, _] (M380.at 0 rfl) rfl (Nat.le_of_ble_eq_true rfl) rfl) (WS.opV (.agg #[(.int .u8 (0 : Int)), (.int .u8 (0 : Int)), (.int .u8 (0 : Int)), (.int .u64 (0 : Int)), (.int .u64 (0 : Int)), (.int .u64 (0 : Int)), (.int .u64 (0 : Int)), (.int .u64 (0 : Int)), (.bool false), (.int .u8 (0 : Int)), (.int .u8 (0 : Int)), (.slice none 0 0), (.string (bs ([])))]) rfl rfl rfl ?_))))
                        refine WS.call rfl rfl rfl (msg_Same_ran M380.here (m := m82) (n := (⟨0, 0, 0, 0, 0, 0, 0, 0, false, 0, 0, [], ([])⟩ : Msg)) (Row.Own.sl O82 (Mem.owni M380 1 rfl)) Row.Sl.nil (by exact hz82.2.1)) ?_
                        rintro _ h381 ⟨rfl, N382⟩
                        have M383 := M380.trans N382
                        refine WS.op rfl rfl (WS.op rfl rfl (WS.op rfl rfl ?_))
                        cases hb8 : (sameM m82 (⟨0, 0, 0, 0, 0, 0, 0, 0, false, 0, 0, [], ([])⟩ : Msg))
                        · skip
                          exact absurd hb8 (by rw [(hn82 (by assumption)).1]; decide)
                        · skip
                          refine WS.call rfl rfl rfl (awake_ran M383.here ) ?_
                          rintro _ h384 ⟨rfl, N385⟩
                          have M386 := M383.trans N385
                          refine WS.op rfl rfl (WS.op rfl rfl (WS.nil [(8, _)] rfl ?_))
                          refine WC.ret ?_
                          refine ⟨[_], (res_tmp rfl res_nil), ?_⟩
                          rfl
                      · skip
                        refine WS.op rfl (op_lds [_, _, _, _, _, _, _, _, _, _, _, _, _] (M380.at 0 rfl) rfl (Nat.le_of_ble_eq_true rfl) rfl) ?_
                        refine WS.call rfl rfl rfl (msg_Right_ran M380.here (m := m82) (Row.Own.sl O82 (Mem.owni M380 1 rfl)) (by exact hz82)) ?_
                        rintro _ h387 ⟨rfl, N388⟩
                        have M389 := M380.trans N388
                        refine WS.op rfl rfl (WS.op rfl rfl ?_)
                        cases hb9 : (rightMB m82)
                        · skip
                          exact absurd hb9 (by rw [(f8 (by assumption)).1]; decide)
                        · skip
                          refine WS.op rfl (op_lds [_, _, _, _, _, _, _, _, _, _, _, _, _] (M389.at 0 rfl) rfl (Nat.le_of_ble_eq_true rfl) rfl) ?_
                          refine WS.call rfl rfl rfl (msg_Write_ran M389.here (m := m82) (Row.Own.sl O82 (Mem.owni M389 1 rfl)) (by exact hz82)) ?_
                          rintro _ h390 ⟨rfl, N391⟩
                          have M392 := M389.trans N391
                          refine WS.op rfl rfl ?_
                          refine WS.seql (l := (writeM m82)) (m := l) rfl rfl rfl (fun e94 => ?_) (fun e94 => ?_)
                          · skip
                            refine WS.op rfl rfl (WS.op rfl rfl (WS.off rfl (WS.off rfl (WS.off rfl (WS.off rfl (WS.off rfl (WS.offC rfl (WS.off rfl (WS.op rfl rfl ?_)))))))))
                            refine WS.op rfl rfl ?_
                            refine WS.call rfl rfl rfl (awake_ran M392.here ) ?_
                            rintro _ h393 ⟨rfl, N394⟩
                            have M395 := M392.trans N394
                            refine WS.op rfl rfl (WS.op rfl rfl (WS.nil [(8, _)] rfl ?_))
                            refine WC.ret ?_
                            refine ⟨[_], (res_tmp rfl res_nil), ?_⟩
                            rfl
                          · skip
                            exact absurd (f8 (by assumption)).2 e94
                    · skip
                      refine WS.opV (.bool true) rfl rfl rfl (WS.op rfl rfl (WS.nil [(1, _), (79, _)] rfl ?_))
                      refine WC.condT rfl ?_
                      refine WC.seq ?_
                      refine WC.run ?_
                      refine WS.op rfl rfl (WS.nil [(8, _)] rfl ?_)
                      refine WC.ret ?_
                      refine ⟨[_], (res_tmp rfl res_nil), ?_⟩
                      exfalso; first | exact absurd (writeM_f (by assumption)) e34 | exact absurd e34 (by rw [writeM_t (by assumption)]; exact encM_ne _) | exact absurd (f3.1 (by assumption)) e77 | exact absurd (f3.2 e77) (by rw [Bool.not_eq_true]; assumption)
                · skip
                  rw [f2] at hb5; cases hb5
          · skip
            refine WS.nil [(1, _), (2, _), (3, _), (4, _), (9, _), (39, _)] rfl ?_
            refine WC.condF rfl ?_
            refine WC.skip ?_
            refine WC.seq ?_
            refine WC.run ?_
            refine WS.op rfl rfl ?_
            refine WS.call rfl rfl rfl (msg_Read_ran M322.here (l := l) (by first | omega | (rw [List.length_take]; omega) | (rw [List.length_append]; omega))) ?_
            rintro _ h396 ⟨m82, V82, S82, ok82, rfl, O82, hy82, hn82, N397⟩
            obtain ⟨P82, rfl⟩ := O82.shape
            have M398 := M322.trans N397
            replace M398 : Mem _ _ (S82 :: _) _ := M398
            refine WS.op rfl rfl (WS.op rfl rfl (WS.op rfl rfl ?_))
            refine WS.new M398 rfl ?_
            intro p399 h400 M401
            refine WS.st1 (M401.focus 0 rfl) [_, _, _, _, _, _, _, _, _, _, _, _, _] [_, _, _, _, _, _, _, _, _, _, _, _, _] rfl rfl rfl rfl rfl (Nat.le_of_ble_eq_true rfl) (Nat.le_of_ble_eq_true rfl) rfl rfl ?_
            intro h402 M403
            replace M403 : Mem _ _ ([(p399, _)] :: S82 :: [(p1, _)] :: []) _ := M403
            refine WS.op rfl rfl (WS.nil [(1, _), (16, _), (17, _)] rfl ?_)
            refine WC.seq ?_
            refine WC.run ?_
            have f8 := read_wr hy82
            have hz82 := read_small (by first | omega | (rw [List.length_take]; omega)) hy82 hn82
            refine WS.op rfl rfl (WS.op rfl rfl ?_)
            cases hb7 : ok82
            · skip
              refine WS.off rfl (WS.offC rfl (WS.op rfl rfl (WS.op rfl rfl (WS.off rfl (WS.offC rfl (WS.off rfl (WS.off rfl (WS.op rfl rfl (WS.op rfl rfl ?_)))))))))
              refine WS.op rfl rfl (WS.opV (.bool true) rfl rfl rfl (WS.op rfl rfl (WS.op rfl (op_lds [_, _, _, _, _, _, _, _, _, _, _, _, _] (M403.at 0 rfl) rfl (Nat.le_of_ble_eq_true rfl) rfl) (WS.opV (.agg #[(.int .u8 (0 : Int)), (.int .u8 (0 : Int)), (.int .u8 (0 : Int)), (.int .u64 (0 : Int)), (.int .u64 (0 : Int)), (.int .u64 (0 : Int)), (.int .u64 (0 : Int)), (.int .u64 (0 : Int)), (.bool false), (.int .u8 (0 : Int)), (.int .u8 (0 : Int)), (.slice none 0 0), (.string (bs ([])))]) rfl rfl rfl ?_))))
              refine WS.call rfl rfl rfl (msg_Same_ran M403.here (m := m82) (n := (⟨0, 0, 0, 0, 0, 0, 0, 0, false, 0, 0, [], ([])⟩ : Msg)) (Row.Own.sl O82 (Mem.owni M403 1 rfl)) Row.Sl.nil (by exact hz82.2.1)) ?_
              rintro _ h404 ⟨rfl, N405⟩
              have M406 := M403.trans N405
              refine WS.op rfl rfl (WS.op rfl rfl (WS.op rfl rfl ?_))
              cases hb8 : (sameM m82 (⟨0, 0, 0, 0, 0, 0, 0, 0, false, 0, 0, [], ([])⟩ : Msg))
              · skip
                exact absurd hb8 (by rw [(hn82 (by assumption)).1]; decide)
              · skip
                refine WS.call rfl rfl rfl (awake_ran M406.here ) ?_
                rintro _ h407 ⟨rfl, N408⟩
                have M409 := M406.trans N408
                refine WS.op rfl rfl (WS.op rfl rfl (WS.nil [(8, _)] rfl ?_))
                refine WC.ret ?_
                refine ⟨[_], (res_tmp rfl res_nil), ?_⟩
                rfl
            · skip
              refine WS.op rfl (op_lds [_, _, _, _, _, _, _, _, _, _, _, _, _] (M403.at 0 rfl) rfl (Nat.le_of_ble_eq_true rfl) rfl) ?_
              refine WS.call rfl rfl rfl (msg_Right_ran M403.here (m := m82) (Row.Own.sl O82 (Mem.owni M403 1 rfl)) (by exact hz82)) ?_
              rintro _ h410 ⟨rfl, N411⟩
              have M412 := M403.trans N411
              refine WS.op rfl rfl (WS.op rfl rfl ?_)
              cases hb9 : (rightMB m82)
              · skip
                exact absurd hb9 (by rw [(f8 (by assumption)).1]; decide)
              · skip
                refine WS.op rfl (op_lds [_, _, _, _, _, _, _, _, _, _, _, _, _] (M412.at 0 rfl) rfl (Nat.le_of_ble_eq_true rfl) rfl) ?_
                refine WS.call rfl rfl rfl (msg_Write_ran M412.here (m := m82) (Row.Own.sl O82 (Mem.owni M412 1 rfl)) (by exact hz82)) ?_
                rintro _ h413 ⟨rfl, N414⟩
                have M415 := M412.trans N414
                refine WS.op rfl rfl ?_
                refine WS.seql (l := (writeM m82)) (m := l) rfl rfl rfl (fun e94 => ?_) (fun e94 => ?_)
                · skip
                  refine WS.op rfl rfl (WS.op rfl rfl (WS.off rfl (WS.off rfl (WS.off rfl (WS.off rfl (WS.off rfl (WS.offC rfl (WS.off rfl (WS.op rfl rfl ?_)))))))))
                  refine WS.op rfl rfl ?_
                  refine WS.call rfl rfl rfl (awake_ran M415.here ) ?_
                  rintro _ h416 ⟨rfl, N417⟩
                  have M418 := M415.trans N417
                  refine WS.op rfl rfl (WS.op rfl rfl (WS.nil [(8, _)] rfl ?_))
                  refine WC.ret ?_
                  refine ⟨[_], (res_tmp rfl res_nil), ?_⟩
                  rfl
                · skip
                  exact absurd (f8 (by assumption)).2 e94
        · skip
          refine WS.opV (.bool true) rfl rfl rfl (WS.nil [(1, _), (2, _), (3, _), (4, _), (9, _), (37, _)] rfl ?_)
          refine WC.condT rfl ?_
          refine WC.seq ?_
          refine WC.run ?_
          refine WS.op rfl rfl (WS.nil [(8, _)] rfl ?_)
          refine WC.ret ?_
          refine ⟨[_], (res_tmp rfl res_nil), ?_⟩
          exfalso; first | exact absurd (writeM_f (by assumption)) e34 | exact absurd e34 (by rw [writeM_t (by assumption)]; exact encM_ne _) | exact absurd (f3.1 (by assumption)) e77 | exact absurd (f3.2 e77) (by rw [Bool.not_eq_true]; assumption)
end Go.Proofs.Ytebgfahbhieoiaa.Wt
