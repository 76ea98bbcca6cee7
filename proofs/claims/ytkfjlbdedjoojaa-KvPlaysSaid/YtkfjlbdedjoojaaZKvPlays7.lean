/- The law 'KvPlays' returns true for all arguments: what its proof stands on, part 7. -/
import Derived.Test.YtkfjlbdedjoojaaZKvPlays6
namespace Go.Proofs.Ytkfjlbdedjoojaa.Wt
open Go Go.Proofs.Ytkfjlbdedjoojaa.Am Go.Proofs.Ytkfjlbdedjoojaa.IrAll
open Go.Proofs.Ytkfjlbdedjoojaa.Am.WS renaming op → C
open Nat renaming le_of_ble_eq_true → D
open Go.Proofs.Ytkfjlbdedjoojaa.Am.WS renaming nil → J
set_option linter.unusedVariables false
set_option linter.unusedSimpArgs false
variable {h base h2 : H} {L : List Seg} {R : List Nat}
structure KGood (T : KS) : Prop where
  ok : KOk T
  vn : ∀ y ∈ T.F, 1 ≤ y.vn.toNat ∧ y.vn.toNat ≤ T.v
  v : T.v < 18446744073709551616
theorem KvSt.open2 {s : Nat} {st : KS} {S : Seg} (G : KvSt s st S) (M : Mem base h (S :: L) []) : ∃ p Sp LL, PgSt p LL Sp ∧ Inv LL ∧ LL.flatten = st.F ∧ Mem base h ([(s, ⟨[.pointer (some ⟨p, 0, none⟩), .int .i64 (st.K : Int), .int .i64 (st.M : Int), .int .i64 ((szF st.F : Nat) : Int), .int .u64 (st.v : Int)], 0, false⟩)] :: Sp :: L) [] := by
  obtain ⟨p, Sp, LL, G, hI, hF, rfl⟩ := G
  exact ⟨p, Sp, LL, G, hI, hF, M.perm (by simp)⟩
theorem new_ok (z1 z2 : Int) : KOk ⟨[], heldK z1, heldK z2, 0⟩ := ⟨by simp [SrtI], Nat.zero_le _, Nat.zero_le _, heldK_le, heldK_le⟩
theorem heldK_id {n : Nat} (h : n ≤ 2147483647) : heldK (n : Int) = n := by unfold heldK; omega
theorem mem_put {F : List It} {it x : It} (h : x ∈ putF F it) : x = it ∨ x ∈ F := by
  unfold putF at h
  simp only [List.mem_append, List.mem_cons, List.mem_filter] at h
  rcases h with ⟨h1, _⟩ | h | ⟨h1, _⟩
  · exact .inr h1
  · exact .inl h
  · exact .inr h1
theorem put_vn {t : KS} {key val : List UInt8} {ls : UInt64} {v : Nat} (h : ∀ y ∈ t.F, 1 ≤ y.vn.toNat ∧ y.vn.toNat ≤ v) (hv : t.v < v) (hv2 : v < 18446744073709551616) : ∀ y ∈ (putK t key val ls).1.F, 1 ≤ y.vn.toNat ∧ y.vn.toNat ≤ v := by
  intro y hy
  unfold putK at hy
  split at hy
  · exact h y hy
  · rcases mem_put hy with rfl | q
    · have : (UInt64.ofNat (t.v + 1)).toNat = t.v + 1 := u64_back (by omega)
      exact ⟨by show 1 ≤ (UInt64.ofNat (t.v + 1)).toNat; omega, by show (UInt64.ofNat (t.v + 1)).toNat ≤ v; omega⟩
    · exact h y q
theorem sz_take {F : List It} (i : Nat) : szF (F.take i) ≤ szF F := by
  have := szF_app (F.take i) (F.drop i); rw [List.take_append_drop] at this; omega
theorem put_next {T : KS} {i v : Nat} {y : It} (g : KGood T) (hy : T.F[i]? = some y) (hv : v + 1 = y.vn.toNat) : putK ⟨T.F.take i, T.K, T.M, v⟩ y.ky y.va y.ls = (⟨T.F.take (i + 1), T.K, T.M, v + 1⟩, 0) := by
  have hs := g.ok.srt
  have hi := (List.getElem?_eq_some_iff.1 hy).1
  have hlt : ∀ z ∈ T.F.take i, kL z.ky y.ky := by
    intro z hz
    obtain ⟨k, hk, rfl⟩ := List.getElem_of_mem hz
    rw [List.length_take] at hk
    rw [List.getElem_take]
    exact srt_get hs (i := k) (j := i) (by omega) (List.getElem?_eq_getElem (by omega)) hy
  have hst : SrtI (T.F.take i) := List.Pairwise.sublist (List.take_sublist _ _) hs
  have e1 : putF (T.F.take i) y = T.F.take (i + 1) := by rw [put_end hlt, List.take_add_one, hy]; rfl
  have hl := len_cost (it := y) hst
  have hz := sz_cost (it := y) hst
  rw [e1] at hl hz
  have h1 := g.ok.len
  have h2 := g.ok.sz
  have h3 := sz_take (F := T.F) (i + 1)
  rw [List.length_take, List.length_take, Nat.min_eq_left (by omega), Nat.min_eq_left (by omega)] at hl
  unfold putK
  rw [if_neg]
  · have e2 : (⟨y.ky, y.va, UInt64.ofNat (v + 1), y.ls⟩ : It) = y := by rw [hv]; simp
    show (({ F := putF (T.F.take i) ⟨y.ky, y.va, UInt64.ofNat (v + 1), y.ls⟩, K := T.K, M := T.M, v := v + 1 } : KS), 0) = _
    rw [e2, e1]
  · rintro (q | q)
    · simp only [List.length_take] at q
      rw [Nat.min_eq_left (by omega)] at q; omega
    · simp only [] at q; omega
def RdI (T0 : KS) (la n : Nat) (t : KS) (rs : List UInt8) (w : Bool) : Prop := w = true ∧ t.K = T0.K ∧ t.M = T0.M ∧ la = T0.v ∧ ∃ i, i + n = T0.F.length ∧ t.F = T0.F.take i ∧ rs = (T0.F.drop i).flatMap rowW
theorem first_pro {s s1 s2 s3 s4 : List UInt8} {w1 w2 w3 w4 : Bool} {m1 m2 m3 m4 : UInt64} (R1 : ∀ (c : Nat) t, c < 18446744073709551616 → s = vb c ++ t → w1 = true ∧ m1.toNat = c ∧ s1 = t) (R2 : ∀ (c : Nat) t, c < 18446744073709551616 → s1 = vb c ++ t → w2 = w1 ∧ m2.toNat = c ∧ s2 = t) (R3 : ∀ (c : Nat) t, c < 18446744073709551616 → s2 = vb c ++ t → w3 = w2 ∧ m3.toNat = c ∧ s3 = t) (R4 : ∀ (c : Nat) t, c < 18446744073709551616 → s3 = vb c ++ t → w4 = w3 ∧ m4.toNat = c ∧ s4 = t) {T0 : KS} (g : KGood T0) (e : wrK T0 = s) : RdI T0 m3.toNat m4.toNat ⟨[], m1.toNat, m2.toNat, 0⟩ s4 w4 := by
  have h1 := g.ok.K; have h2 := g.ok.M; have h3 := g.v; have h4 := g.ok.len
  obtain ⟨a1, a2, a3⟩ := R1 T0.K (vb T0.M ++ (vb T0.v ++ (vb T0.F.length ++ T0.F.flatMap rowW))) (by omega) (by rw [← e]; simp [wrK])
  obtain ⟨b1, b2, b3⟩ := R2 _ _ (by omega) a3
  obtain ⟨c1, c2, c3⟩ := R3 _ _ h3 b3
  obtain ⟨d1, d2, d3⟩ := R4 _ _ (by omega) c3
  exact ⟨by rw [d1, c1, b1, a1], a2, b2, c2, 0, by omega, rfl, d3⟩
theorem quota_pro {s s1 s2 : List UInt8} {w1 w2 : Bool} {m1 m2 : UInt64} (R1 : ∀ (c : Nat) t, c < 18446744073709551616 → s = vb c ++ t → w1 = true ∧ m1.toNat = c ∧ s1 = t) (R2 : ∀ (c : Nat) t, c < 18446744073709551616 → s1 = vb c ++ t → w2 = w1 ∧ m2.toNat = c ∧ s2 = t) {T0 : KS} (g : KGood T0) (e : wrK T0 = s) : m1.toNat ≤ 2147483647 ∧ m2.toNat ≤ 2147483647 := by
  have h1 := g.ok.K; have h2 := g.ok.M
  obtain ⟨a1, a2, a3⟩ := R1 T0.K (vb T0.M ++ (vb T0.v ++ (vb T0.F.length ++ T0.F.flatMap rowW))) (by omega) (by rw [← e]; simp [wrK])
  obtain ⟨b1, b2, b3⟩ := R2 _ _ (by omega) a3
  exact ⟨by omega, by omega⟩
theorem dec_one {m : UInt64} (h : 1 ≤ m.toNat) : (m - 1).toNat + 1 = m.toNat := by
  have h1 : (m - 1).toNat = m.toNat - 1 := by
    rw [UInt64.toNat_sub_of_le]
    · rfl
    · rw [UInt64.le_iff_toNat_le]; exact h
  omega
theorem step_pro {T0 t : KS} {la n : Nat} {rs s1 s2 s3 k1 k2 : List UInt8} {w w1 w2 w3 : Bool} {m3 : UInt64} (g : KGood T0) (hR : RdI T0 la n t rs w) (hn : 0 < n) (R1 : ∀ c t, c.length < 18446744073709551616 → rs = sb c ++ t → w1 = w ∧ k1 = c ∧ s1 = t) (R2 : ∀ c t, c.length < 18446744073709551616 → s1 = sb c ++ t → w2 = w1 ∧ k2 = c ∧ s2 = t) (R3 : ∀ (c : Nat) t, c < 18446744073709551616 → s2 = vb c ++ t → w3 = w2 ∧ m3.toNat = c ∧ s3 = t) :
    w3 = true ∧ (m3 - 1).toNat < la ∧ ∀ (m4 : UInt64) s4 w4, (∀ (c : Nat) t, c < 18446744073709551616 → s3 = vb c ++ t → w4 = w3 ∧ m4.toNat = c ∧ s4 = t) → (putK ⟨t.F, t.K, t.M, (m3 - 1).toNat⟩ k1 k2 m4).2 = 0 ∧ RdI T0 la (n - 1) (putK ⟨t.F, t.K, t.M, (m3 - 1).toNat⟩ k1 k2 m4).1 s4 true := by
  obtain ⟨h1, h2, h3, h4, i, h5, h6, h7⟩ := hR
  obtain ⟨y, hy⟩ : ∃ y, T0.F[i]? = some y := ⟨_, List.getElem?_eq_getElem (by omega)⟩
  have hm := List.mem_of_getElem? hy
  have hz := szI_le hm
  have hz2 := g.ok.sz; have hz3 := g.ok.M
  simp only [szI] at hz
  have hv := g.vn y hm
  rw [drop_at hy, List.flatMap_cons] at h7
  obtain ⟨a1, a2, a3⟩ := R1 y.ky (sb y.va ++ (vb y.vn.toNat ++ (vb y.ls.toNat ++ (T0.F.drop (i + 1)).flatMap rowW))) (by omega) (by rw [h7]; simp [rowW])
  obtain ⟨b1, b2, b3⟩ := R2 _ _ (by omega) a3
  obtain ⟨c1, c2, c3⟩ := R3 _ _ y.vn.toNat_lt b3
  have hd := dec_one (m := m3) (by omega)
  refine ⟨by rw [c1, b1, a1, h1], by omega, fun m4 s4 w4 R4 => ?_⟩
  obtain ⟨d1, d2, d3⟩ := R4 _ _ y.ls.toNat_lt c3
  have em : m4 = y.ls := UInt64.toNat_inj.1 d2
  rw [h6, h2, h3, a2, b2, em, put_next g hy (by omega)]
  exact ⟨rfl, rfl, rfl, rfl, h4, i + 1, by omega, rfl, d3⟩
theorem rd_end {T0 t : KS} {la : Nat} {rs : List UInt8} {w : Bool} (hR : RdI T0 la 0 t rs w) : w = true ∧ (⟨t.F, t.K, t.M, la⟩ : KS) = T0 := by
  obtain ⟨h1, h2, h3, h4, i, h5, h6, h7⟩ := hR
  refine ⟨h1, ?_⟩
  rw [h6, List.take_of_length_le (by omega), h2, h3, h4]
theorem subU1 {m : UInt64} : Value.int .u64 (IntKind.u64.wrap (((m.toNat : Nat) : Int) - 1)) = .int .u64 (((m - 1).toNat : Nat) : Int) := by
  congr 1
  rw [wu64]
  have h := m.toNat_lt
  rw [UInt64.toNat_sub]
  show _ = (((2 ^ 64 - 1 + m.toNat) % 2 ^ 64 : Nat) : Int)
  omega
set_option maxRecDepth 8000 in
set_option maxHeartbeats 2000000 in
theorem kRead_st {s : List UInt8} (M : Mem base h L []) (hl : s.length ≤ 700000) : Cll tab0 25 [.string (bs s)] h (fun v h2 => (∃ p T S, v = .tuple #[.pointer (some ⟨p, 0, none⟩), .bool true] ∧ KGood T ∧ wrK T = s ∧ (∀ T0, KGood T0 → wrK T0 = s → T = T0) ∧ KvSt p T S ∧ Mem base h2 (S :: L) []) ∨ (v = .tuple #[.pointer none, .bool false] ∧ (∀ T0, KGood T0 → wrK T0 ≠ s) ∧ Mem base h2 L [])) := by
  refine Cll.code rfl rfl ?_
  refine WC.env [(0, _)] rfl ?_
  refine WC.seq (WC.run (C rfl rfl (C rfl rfl (J [(0, _)] rfl ?_))))
  refine WC.seq (WC.run (C rfl rfl ?_))
  refine WS.new M rfl ?_
  intro p1 h2 M3
  refine WS.new M3 rfl ?_
  intro p4 h5 M6
  refine WS.st1 (M6.focus 1 rfl) [_] [_] rfl rfl rfl rfl rfl (D rfl) (D rfl) rfl rfl ?_
  intro h7 M8
  replace M8 : Mem _ _ ([(p1, _)] :: [(p4, _)] :: L) _ := M8
  refine WS.st1 (M8.focus 1 rfl) [_] [_] rfl rfl rfl rfl rfl (D rfl) (D rfl) rfl rfl ?_
  intro h9 M10
  replace M10 : Mem _ _ ([(p4, _)] :: [(p1, _)] :: L) _ := M10
  refine J [(0, _), (4, _), (5, _)] rfl ?_
  refine WC.seq (WC.run (C rfl rfl (C rfl rfl (J [(0, _), (4, _), (5, _), (6, _)] rfl ?_))))
  refine WC.seq (WC.run (C rfl rfl (C rfl rfl (J [(0, _), (5, _), (6, _), (7, _)] rfl ?_))))
  refine WC.seq (WC.run (C rfl rfl ?_))
  refine WS.call rfl rfl rfl (number_ran (s := s) (w := true) ((M10.focus 0 rfl).focus 1 rfl) (by omega)) ?_
  rintro _ h11 ⟨m19, s19, w19, rfl, M12, L19, C19, R19⟩
  replace M12 : Mem _ _ ([(p1, _)] :: [(p4, _)] :: L) _ := M12
  refine C rfl rfl ?_
  refine WS.call rfl rfl rfl (number_ran (s := s19) (w := w19) ((M12.focus 1 rfl).focus 1 rfl) (by omega)) ?_
  rintro _ h13 ⟨m21, s21, w21, rfl, M14, L21, C21, R21⟩
  replace M14 : Mem _ _ ([(p1, _)] :: [(p4, _)] :: L) _ := M14
  refine C rfl rfl (C rfl rfl (J [(0, _), (5, _), (6, _), (7, _), (8, _), (9, _)] rfl ?_))
  refine WC.seq (WC.seq (WC.run (C rfl rfl ?_)))
  refine WS.gtrN (a := (m19).toNat) (b := 2147483647) rfl rfl rfl (fun e23 => ?_) (fun e23 => ?_)
  ·
   refine C rfl rfl (WS.off rfl (WS.off rfl (C rfl rfl (J [(0, _), (5, _), (6, _), (7, _), (8, _), (9, _), (27, _)] rfl ?_))))
   refine WC.condT rfl (WC.seq (WC.run (C rfl rfl (C rfl rfl (J [(2, _), (3, _)] rfl ?_)))))
   refine WC.ret (⟨[_, _], (res_tmp rfl (res_tmp rfl res_nil)), ?_⟩)
   exact .inr ⟨rfl, fun T0 g e => by obtain ⟨q1, q2⟩ := quota_pro R19 R21 g e; omega, (((M14.focus 0 rfl).drop).focus 0 rfl).drop⟩
  ·
   refine C rfl rfl (C rfl rfl ?_)
   refine WS.gtrN (a := (m21).toNat) (b := 2147483647) rfl rfl rfl (fun e26 => ?_) (fun e26 => ?_)
   ·
    refine C rfl rfl (J [(0, _), (5, _), (6, _), (7, _), (8, _), (9, _), (27, _)] rfl ?_)
    refine WC.condT rfl (WC.seq (WC.run (C rfl rfl (C rfl rfl (J [(2, _), (3, _)] rfl ?_)))))
    refine WC.ret (⟨[_, _], (res_tmp rfl (res_tmp rfl res_nil)), ?_⟩)
    exact .inr ⟨rfl, fun T0 g e => by obtain ⟨q1, q2⟩ := quota_pro R19 R21 g e; omega, (((M14.focus 0 rfl).drop).focus 0 rfl).drop⟩
   ·
    refine C rfl rfl (J [(0, _), (5, _), (6, _), (7, _), (8, _), (9, _), (27, _)] rfl ?_)
    refine WC.condF rfl (WC.skip (WC.seq (WC.run (C rfl rfl (WS.opV (.int .i64 (((m19).toNat : Nat) : Int)) rfl rfl (cv_i64 (n := (m19).toNat) (by have := UInt64.toNat_lt (m19); omega)) (C rfl rfl (WS.opV (.int .i64 (((m21).toNat : Nat) : Int)) rfl rfl (cv_i64 (n := (m21).toNat) (by have := UInt64.toNat_lt (m21); omega)) ?_)))))))
    refine WS.call rfl rfl rfl (kNew_ran M14.bare) ?_
    rintro _ h15 ⟨x32, S17, rfl, G18, M16⟩
    replace M16 : Mem _ _ (S17 :: [(p1, _)] :: [(p4, _)] :: L) _ := M16
    refine C rfl rfl (J [(0, _), (5, _), (6, _), (7, _), (10, _)] rfl ?_)
    refine WC.seq (WC.run ?_)
    have hk1 : heldK ((m19.toNat : Nat) : Int) = m19.toNat := heldK_id (by omega)
    have hk2 : heldK ((m21.toNat : Nat) : Int) = m21.toNat := heldK_id (by omega)
    have G0_ : KvSt x32 (⟨[], m19.toNat, m21.toNat, 0⟩ : KS) S17 := by have q := G18; rw [hk1, hk2] at q; exact q
    have K0_ : KOk (⟨[], m19.toNat, m21.toNat, 0⟩ : KS) := ⟨by simp [SrtI], Nat.zero_le _, Nat.zero_le _, by show m19.toNat ≤ _; omega, by show m21.toNat ≤ _; omega⟩
    refine C rfl rfl ?_
    refine WS.call rfl rfl rfl (number_ran (s := s21) (w := w21) ((M16.focus 2 rfl).focus 2 rfl) (by omega)) ?_
    rintro _ h19 ⟨m34, s34, w34, rfl, M20, L34, C34, R34⟩
    replace M20 : Mem _ _ ([(p1, _)] :: [(p4, _)] :: S17 :: L) _ := M20
    refine C rfl rfl (J [(0, _), (5, _), (6, _), (7, _), (10, _), (11, _)] rfl ?_)
    refine WC.seq (WC.seq (WC.run (C rfl rfl ?_)))
    refine WS.call rfl rfl rfl (number_ran (s := s34) (w := w34) ((M20.focus 1 rfl).focus 1 rfl) (by omega)) ?_
    rintro _ h21 ⟨m36, s36, w36, rfl, M22, L36, C36, R36⟩
    replace M22 : Mem _ _ ([(p1, _)] :: [(p4, _)] :: S17 :: L) _ := M22
    refine C rfl rfl (J [(0, _), (5, _), (6, _), (7, _), (10, _), (11, _), (12, _)] rfl ?_)
    refine WC.block ?_
    obtain ⟨L23, eL25, M24⟩ := Mem.name3 (((M22.bare.focus 1 rfl).focus 1 rfl).focus 2 rfl)
    refine WC.loop (σ := Seg × KS × List UInt8 × Bool × Nat) (fun ((S_, t, rs, w_, n)) => [(0, (.string (bs s))), (5, (.pointer (some ⟨p4, 0, none⟩))), (6, (.func (.func 48) #[] #[(.pointer (some ⟨p1, 0, none⟩)), (.pointer (some ⟨p4, 0, none⟩))])), (7, (.func (.func 50) #[] #[(.pointer (some ⟨p1, 0, none⟩)), (.pointer (some ⟨p4, 0, none⟩))])), (10, (.pointer (some ⟨x32, 0, none⟩))), (11, (.int .u64 (((m34).toNat : Nat) : Int))), (12, (.int .u64 ((n : Nat) : Int)))]) (fun ((S_, t, rs, w_, n)) hh => Mem base hh (S_ :: [(p1, ⟨[(.string (bs rs))], 0, false⟩)] :: [(p4, ⟨[(.bool w_)], 0, false⟩)] :: L23) [] ∧ KvSt x32 t S_ ∧ KOk t ∧ n < 18446744073709551616 ∧ rs.length ≤ s.length ∧ t.F.length + rs.length ≤ s.length ∧ (∀ y ∈ t.F, 1 ≤ y.vn.toNat ∧ y.vn.toNat ≤ m34.toNat) ∧ (∀ T0, KGood T0 → wrK T0 = s → RdI T0 m34.toNat n t rs w_)) (fun ((S_, t, rs, w_, n)) => n) (_, (⟨[], m19.toNat, m21.toNat, 0⟩ : KS), s36, w36, m36.toNat) rfl ⟨(by exact M24), ?_⟩ ?_
    · exact ⟨G0_, K0_, m36.toNat_lt, by omega, by show 0 + s36.length ≤ _; omega, fun y hy => absurd hy (by simp), fun T0 g e => first_pro R19 R21 R34 R36 g e⟩
    ·rintro ⟨S_, t, rs, w_, n⟩ h26 ⟨M27, ⟨G_, hT, hn64, hrl, hfl, hvn, hP⟩⟩
     replace eL25 := eL25.symm; subst eL25
     refine WC.env [(0, _), (5, _), (6, _), (7, _), (10, _), (11, _), (12, _)] rfl ?_
     refine WC.seq (WC.seq (WC.run (C rfl rfl ?_)))
     refine WS.gtrN (a := n) (b := 0) rfl rfl rfl (fun e38 => ?_) (fun e38 => ?_)
     ·
      refine C rfl rfl (C rfl (op_ld (M27.at 2 rfl) rfl rfl) (C rfl rfl (J [(0, _), (5, _), (6, _), (7, _), (10, _), (11, _), (12, _), (41, _)] rfl ?_)))
      cases w_
      ·
       refine WC.condF rfl (WC.exit ?_)
       refine WC.seq (WC.run (C rfl rfl (C rfl rfl ?_)))
       obtain ⟨p28, Sp29, LL30, G31, hI32, hF33, MO34⟩ := KvSt.open2 G_ (M27.bare.focus 0 rfl)
       refine C rfl rfl (C rfl rfl ?_)
       refine WS.st1 (MO34.focus 0 rfl) [_] [_, _, _, _, _] rfl rfl rfl rfl rfl (D rfl) (D rfl) rfl rfl ?_
       intro h35 M36
       replace M36 : Mem _ _ ([(x32, _)] :: Sp29 :: [(p1, _)] :: [(p4, _)] :: L) _ := M36
       refine J [(0, _), (5, _), (10, _)] rfl ?_
       refine WC.seq (WC.seq (WC.run ?_))
       obtain ⟨S37, K38, M39⟩ := KvSt.shut G31 hI32 hF33 rfl M36
       refine C rfl (op_ld (M39.at 2 rfl) rfl rfl) (WS.opV (.bool true) rfl rfl rfl (C rfl rfl (WS.off rfl (WS.offC rfl (WS.off rfl (WS.off rfl (C rfl rfl (J [(10, _), (83, _)] rfl ?_))))))))
       refine WC.condT rfl (WC.seq (WC.run (C rfl rfl (C rfl rfl (J [(2, _), (3, _)] rfl ?_)))))
       refine WC.ret (⟨[_, _], (res_tmp rfl (res_tmp rfl res_nil)), ?_⟩)
       exact .inr ⟨rfl, fun T0 g e => by first | (have q := (hP T0 g e).1; first | exact absurd q (by decide) | (rw [show w_ = false by assumption] at q; cases q)) | (have q := hP T0 g e; rw [show n = 0 by omega] at q; have q2 := (rd_end q).2; rw [← q2] at e; exact e82 e), (((((M39.focus 0 rfl).drop).focus 0 rfl).drop).focus 0 rfl).drop⟩
      ·
       refine WC.condT rfl (WC.skip (WC.seq (WC.block (WC.seq (WC.run (C rfl rfl ?_))))))
       refine WS.call rfl rfl rfl (text_ran (s := rs) (w := true) ((M27.focus 2 rfl).focus 2 rfl) (by omega)) ?_
       rintro _ h40 ⟨k45, s45, w45, rfl, M41, L45, C45, R45⟩
       replace M41 : Mem _ _ ([(p1, _)] :: [(p4, _)] :: S_ :: L) _ := M41
       refine C rfl rfl ?_
       refine WS.call rfl rfl rfl (text_ran (s := s45) (w := w45) ((M41.focus 1 rfl).focus 1 rfl) (by omega)) ?_
       rintro _ h42 ⟨k47, s47, w47, rfl, M43, L47, C47, R47⟩
       replace M43 : Mem _ _ ([(p1, _)] :: [(p4, _)] :: S_ :: L) _ := M43
       refine C rfl rfl (C rfl rfl (J [(0, _), (5, _), (6, _), (7, _), (10, _), (11, _), (12, _), (13, _), (14, _)] rfl ?_))
       refine WC.seq (WC.run (C rfl rfl (C rfl rfl ?_)))
       refine WS.call rfl rfl rfl (number_ran (s := s47) (w := w47) ((M43.focus 1 rfl).focus 1 rfl) (by omega)) ?_
       rintro _ h44 ⟨m50, s50, w50, rfl, M45, L50, C50, R50⟩
       replace M45 : Mem _ _ ([(p1, _)] :: [(p4, _)] :: S_ :: L) _ := M45
       refine WS.opV (.int .u64 (((m50 - 1).toNat : Nat) : Int)) rfl rfl subU1 ?_
       have hstep := fun T0 (g : KGood T0) (e : wrK T0 = s) => step_pro g (hP T0 g e) (by omega) R45 R47 R50
       have hm34 := m34.toNat_lt
       obtain ⟨p46, Sp47, LL48, G49, hI50, hF51, MO52⟩ := KvSt.open2 G_ (M45.bare.focus 2 rfl)
       refine C rfl rfl (C rfl rfl ?_)
       refine WS.st1 (MO52.focus 0 rfl) [_] [_, _, _, _, _] rfl rfl rfl rfl rfl (D rfl) (D rfl) rfl rfl ?_
       intro h53 M54
       replace M54 : Mem _ _ ([(x32, _)] :: Sp47 :: [(p1, _)] :: [(p4, _)] :: L) _ := M54
       refine J [(0, _), (5, _), (6, _), (7, _), (10, _), (11, _), (12, _), (13, _), (14, _)] rfl ?_
       refine WC.run (C rfl (op_ld (M54.at 3 rfl) rfl rfl) (C rfl rfl ?_))
       cases w50
       ·
        refine WS.off rfl (WS.off rfl (WS.off rfl (WS.off rfl (WS.off rfl (WS.off rfl (C rfl rfl (C rfl rfl (WS.off rfl (WS.off rfl ?_)))))))))
        refine WS.off rfl (WS.off rfl (WS.offC rfl (WS.offC rfl (WS.off rfl (C rfl rfl ?_)))))
        refine WS.st1 (M54.focus 3 rfl) [_] [_] rfl rfl rfl rfl rfl (D rfl) (D rfl) rfl rfl ?_
        intro h55 M56
        replace M56 : Mem _ _ ([(p4, _)] :: [(x32, _)] :: Sp47 :: [(p1, _)] :: L) _ := M56
        refine J [(0, _), (5, _), (6, _), (7, _), (10, _), (11, _), (12, _)] rfl ?_
        refine WC.run ?_
        obtain ⟨S57, K58, M59⟩ := KvSt.shut G49 hI50 hF51 rfl ((((M56.focus 3 rfl).focus 1 rfl).focus 3 rfl).focus 3 rfl)
        refine C rfl rfl (WS.opV (.int .u64 (((n - 1) : Nat) : Int)) rfl rfl (sub_u64 (a := n) (b := 1) (by have := hn64; omega)) (C rfl rfl (J [(0, _), (5, _), (6, _), (7, _), (10, _), (11, _), (12, _)] rfl ?_)))
        refine ⟨(S57, (⟨t.F, t.K, t.M, (m50 - 1).toNat⟩ : KS), _, _, n - 1), rfl, ⟨(((M59.focus 1 rfl).focus 2 rfl).focus 2 rfl), ?_⟩, ?_⟩
        · exact ⟨K58, ⟨hT.srt, hT.len, hT.sz, hT.K, hT.M⟩, by omega, by omega, by show t.F.length + _ ≤ _; omega, hvn, fun T0 g e => by obtain ⟨x1, x2, x3⟩ := hstep T0 g e; first | exact absurd x1 (by decide) | (exfalso; omega)⟩
        · simp only []; omega
       ·
        refine C rfl rfl (C rfl rfl (C rfl rfl (C rfl (op_ld (M54.at 0 rfl) rfl rfl) (C rfl rfl ?_))))
        refine WS.lssN (a := ((m50 - 1)).toNat) (b := (m34).toNat) rfl rfl rfl (fun e61 => ?_) (fun e61 => ?_)
        ·
         refine C rfl rfl (C rfl rfl ?_)
         obtain ⟨S60, K61, M62⟩ := KvSt.shut G49 hI50 hF51 rfl M54
         refine C rfl rfl (C rfl rfl (C rfl rfl (C rfl rfl ?_)))
         refine WS.call rfl rfl rfl (number_ran (s := s50) (w := true) ((M62.focus 2 rfl).focus 2 rfl) (by omega)) ?_
         rintro _ h63 ⟨m68, s68, w68, rfl, M64, L68, C68, R68⟩
         replace M64 : Mem _ _ ([(p1, _)] :: [(p4, _)] :: S60 :: L) _ := M64
         refine WS.call rfl rfl rfl (kPut_st (key := k45) (val := k47) (ls := m68) K61 (M64.bare.focus 2 rfl) (KOk.mk hT.srt hT.len hT.sz hT.K hT.M) (by show t.F.length ≤ 800000; omega) (by omega) (by omega) (by show (m50 - 1).toNat < _; omega)) ?_
         rintro _ h65 ⟨rfl, S67, G68, M66⟩
         replace M66 : Mem _ _ (S67 :: [(p1, _)] :: [(p4, _)] :: L) _ := M66
         refine WS.eqlN (a := (putK (⟨t.F, t.K, t.M, (m50 - 1).toNat⟩ : KS) k45 k47 m68).2) (b := 0) rfl rfl rfl (fun e70 => ?_) (fun e70 => ?_)
         ·
          refine C rfl rfl ?_
          refine WS.st1 (M66.focus 2 rfl) [_] [_] rfl rfl rfl rfl rfl (D rfl) (D rfl) rfl rfl ?_
          intro h69 M70
          replace M70 : Mem _ _ ([(p4, _)] :: S67 :: [(p1, _)] :: L) _ := M70
          refine J [(0, _), (5, _), (6, _), (7, _), (10, _), (11, _), (12, _)] rfl ?_
          refine WC.run (C rfl rfl (WS.opV (.int .u64 (((n - 1) : Nat) : Int)) rfl rfl (sub_u64 (a := n) (b := 1) (by have := hn64; omega)) (C rfl rfl (J [(0, _), (5, _), (6, _), (7, _), (10, _), (11, _), (12, _)] rfl ?_))))
          refine ⟨(S67, (putK (⟨t.F, t.K, t.M, (m50 - 1).toNat⟩ : KS) k45 k47 m68).1, _, _, n - 1), rfl, ⟨(((M70.focus 0 rfl).focus 2 rfl).focus 2 rfl), ?_⟩, ?_⟩
          · have gw := (put_grow (s := (⟨t.F, t.K, t.M, (m50 - 1).toNat⟩ : KS)) (key := k45) (val := k47) (ls := m68) ⟨hT.srt, hT.len, hT.sz, hT.K, hT.M⟩).1; have c50 := C50 rfl; have gw2 : (putK (⟨t.F, t.K, t.M, (m50 - 1).toNat⟩ : KS) k45 k47 m68).1.F.length ≤ t.F.length + 1 := gw; exact ⟨G68, (put_ok (KOk.mk hT.srt hT.len hT.sz hT.K hT.M)), by omega, by omega, by omega, put_vn hvn (by show (m50 - 1).toNat < _; omega) hm34, fun T0 g e => by obtain ⟨x1, x2, x3⟩ := hstep T0 g e; obtain ⟨x4, x5⟩ := x3 m68 s68 w68 R68; first | exact x5 | exact absurd x4 e70⟩
          · simp only []; omega
         ·
          refine C rfl rfl ?_
          refine WS.st1 (M66.focus 2 rfl) [_] [_] rfl rfl rfl rfl rfl (D rfl) (D rfl) rfl rfl ?_
          intro h71 M72
          replace M72 : Mem _ _ ([(p4, _)] :: S67 :: [(p1, _)] :: L) _ := M72
          refine J [(0, _), (5, _), (6, _), (7, _), (10, _), (11, _), (12, _)] rfl ?_
          refine WC.run (C rfl rfl (WS.opV (.int .u64 (((n - 1) : Nat) : Int)) rfl rfl (sub_u64 (a := n) (b := 1) (by have := hn64; omega)) (C rfl rfl (J [(0, _), (5, _), (6, _), (7, _), (10, _), (11, _), (12, _)] rfl ?_))))
          refine ⟨(S67, (putK (⟨t.F, t.K, t.M, (m50 - 1).toNat⟩ : KS) k45 k47 m68).1, _, _, n - 1), rfl, ⟨(((M72.focus 0 rfl).focus 2 rfl).focus 2 rfl), ?_⟩, ?_⟩
          · have gw := (put_grow (s := (⟨t.F, t.K, t.M, (m50 - 1).toNat⟩ : KS)) (key := k45) (val := k47) (ls := m68) ⟨hT.srt, hT.len, hT.sz, hT.K, hT.M⟩).1; have c50 := C50 rfl; have gw2 : (putK (⟨t.F, t.K, t.M, (m50 - 1).toNat⟩ : KS) k45 k47 m68).1.F.length ≤ t.F.length + 1 := gw; exact ⟨G68, (put_ok (KOk.mk hT.srt hT.len hT.sz hT.K hT.M)), by omega, by omega, by omega, put_vn hvn (by show (m50 - 1).toNat < _; omega) hm34, fun T0 g e => by obtain ⟨x1, x2, x3⟩ := hstep T0 g e; obtain ⟨x4, x5⟩ := x3 m68 s68 w68 R68; first | exact x5 | exact absurd x4 e70⟩
          · simp only []; omega
        ·
         refine C rfl rfl (C rfl rfl (WS.off rfl (WS.off rfl (WS.off rfl (WS.off rfl (WS.offC rfl (WS.offC rfl (WS.off rfl (C rfl rfl ?_)))))))))
         refine WS.st1 (M54.focus 3 rfl) [_] [_] rfl rfl rfl rfl rfl (D rfl) (D rfl) rfl rfl ?_
         intro h73 M74
         replace M74 : Mem _ _ ([(p4, _)] :: [(x32, _)] :: Sp47 :: [(p1, _)] :: L) _ := M74
         refine J [(0, _), (5, _), (6, _), (7, _), (10, _), (11, _), (12, _)] rfl ?_
         refine WC.run ?_
         obtain ⟨S75, K76, M77⟩ := KvSt.shut G49 hI50 hF51 rfl ((((M74.focus 3 rfl).focus 1 rfl).focus 3 rfl).focus 3 rfl)
         refine C rfl rfl (WS.opV (.int .u64 (((n - 1) : Nat) : Int)) rfl rfl (sub_u64 (a := n) (b := 1) (by have := hn64; omega)) (C rfl rfl (J [(0, _), (5, _), (6, _), (7, _), (10, _), (11, _), (12, _)] rfl ?_)))
         refine ⟨(S75, (⟨t.F, t.K, t.M, (m50 - 1).toNat⟩ : KS), _, _, n - 1), rfl, ⟨(((M77.focus 1 rfl).focus 2 rfl).focus 2 rfl), ?_⟩, ?_⟩
         · exact ⟨K76, ⟨hT.srt, hT.len, hT.sz, hT.K, hT.M⟩, by omega, by omega, by show t.F.length + _ ≤ _; omega, hvn, fun T0 g e => by obtain ⟨x1, x2, x3⟩ := hstep T0 g e; first | exact absurd x1 (by decide) | (exfalso; omega)⟩
         · simp only []; omega
     ·
      refine C rfl rfl (WS.off rfl (C rfl rfl (J [(0, _), (5, _), (6, _), (7, _), (10, _), (11, _), (12, _), (41, _)] rfl ?_)))
      refine WC.condF rfl (WC.exit ?_)
      refine WC.seq (WC.run (C rfl rfl (C rfl rfl ?_)))
      obtain ⟨p78, Sp79, LL80, G81, hI82, hF83, MO84⟩ := KvSt.open2 G_ (M27.bare.focus 0 rfl)
      refine C rfl rfl (C rfl rfl ?_)
      refine WS.st1 (MO84.focus 0 rfl) [_] [_, _, _, _, _] rfl rfl rfl rfl rfl (D rfl) (D rfl) rfl rfl ?_
      intro h85 M86
      replace M86 : Mem _ _ ([(x32, _)] :: Sp79 :: [(p1, _)] :: [(p4, _)] :: L) _ := M86
      refine J [(0, _), (5, _), (10, _)] rfl ?_
      refine WC.seq (WC.seq (WC.run ?_))
      obtain ⟨S87, K88, M89⟩ := KvSt.shut G81 hI82 hF83 rfl M86
      refine C rfl (op_ld (M89.at 2 rfl) rfl rfl) ?_
      cases w_
      ·
       refine WS.opV (.bool true) rfl rfl rfl (C rfl rfl (WS.off rfl (WS.offC rfl (WS.off rfl (WS.off rfl (C rfl rfl (J [(10, _), (83, _)] rfl ?_)))))))
       refine WC.condT rfl (WC.seq (WC.run (C rfl rfl (C rfl rfl (J [(2, _), (3, _)] rfl ?_)))))
       refine WC.ret (⟨[_, _], (res_tmp rfl (res_tmp rfl res_nil)), ?_⟩)
       exact .inr ⟨rfl, fun T0 g e => by first | (have q := (hP T0 g e).1; first | exact absurd q (by decide) | (rw [show w_ = false by assumption] at q; cases q)) | (have q := hP T0 g e; rw [show n = 0 by omega] at q; have q2 := (rd_end q).2; rw [← q2] at e; exact e82 e), (((((M89.focus 0 rfl).drop).focus 0 rfl).drop).focus 0 rfl).drop⟩
      ·
       refine WS.opV (.bool false) rfl rfl rfl (C rfl rfl (C rfl rfl ?_))
       refine WS.call rfl rfl rfl (kWrite_st  K88 (M89.bare.focus 0 rfl) (KOk.mk hT.srt hT.len hT.sz hT.K hT.M) (by show t.F.length ≤ 800000; omega) (Nat.lt_of_lt_of_le m34.toNat_lt (by decide))) ?_
       rintro _ h90 ⟨rfl, S92, G93, M91⟩
       replace M91 : Mem _ _ (S92 :: [(p1, _)] :: [(p4, _)] :: L) _ := M91
       refine C rfl rfl ?_
       refine WS.sneq (l := (wrK (⟨t.F, t.K, t.M, m34.toNat⟩ : KS))) (m := s) rfl rfl rfl (fun e82 => ?_) (fun e82 => ?_)
       ·
        refine C rfl rfl (J [(10, _), (83, _)] rfl ?_)
        refine WC.condT rfl (WC.seq (WC.run (C rfl rfl (C rfl rfl (J [(2, _), (3, _)] rfl ?_)))))
        refine WC.ret (⟨[_, _], (res_tmp rfl (res_tmp rfl res_nil)), ?_⟩)
        exact .inr ⟨rfl, fun T0 g e => by first | (have q := (hP T0 g e).1; first | exact absurd q (by decide) | (rw [show w_ = false by assumption] at q; cases q)) | (have q := hP T0 g e; rw [show n = 0 by omega] at q; have q2 := (rd_end q).2; rw [← q2] at e; exact e82 e), (((((M91.focus 0 rfl).drop).focus 0 rfl).drop).focus 0 rfl).drop⟩
       ·
        refine C rfl rfl (J [(10, _), (83, _)] rfl ?_)
        refine WC.condF rfl (WC.skip (WC.seq (WC.run (C rfl rfl (C rfl rfl (C rfl rfl (J [(2, _), (3, _)] rfl ?_)))))))
        refine WC.ret (⟨[_, _], (res_tmp rfl (res_tmp rfl res_nil)), ?_⟩)
        exact .inl ⟨_, (⟨t.F, t.K, t.M, m34.toNat⟩ : KS), _, rfl, ⟨⟨hT.srt, hT.len, hT.sz, hT.K, hT.M⟩, hvn, m34.toNat_lt⟩, e82, fun T0 g e => by have q := hP T0 g e; rw [show n = 0 by omega] at q; exact (rd_end q).2, G93, (((M91.focus 1 rfl).drop).focus 1 rfl).drop⟩
end Go.Proofs.Ytkfjlbdedjoojaa.Wt
