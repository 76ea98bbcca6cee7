/- The law 'SessPlays' returns true for all arguments: what its proof stands on, part 7. -/
import Derived.Test.YtomaijljeacpjaaZSessPlays6
namespace Go.Proofs.Ytomaijljeacpjaa.Wt
open Go Go.Proofs.Ytomaijljeacpjaa.Am Go.Proofs.Ytomaijljeacpjaa.IrAll
set_option linter.unusedVariables false
set_option linter.unusedSimpArgs false
def normS (y : Ses) : Ses := { y with kp := keptOf y }
def norm (T : Tab) : Tab := ⟨T.l.map normS, T.la⟩
theorem keptOf_norm (y : Ses) : keptOf (normS y) = keptOf y := by
  unfold keptOf normS; split <;> simp_all [keptOf]
theorem normS_norm (y : Ses) : normS (normS y) = normS y := by
  show ({ y with kp := keptOf (normS y) } : Ses) = _
  rw [keptOf_norm]; rfl
theorem norm_norm (T : Tab) : norm (norm T) = norm T := by
  unfold norm; simp only [List.map_map]; congr 1
  exact List.map_congr_left fun y _ => normS_norm y
theorem encS_norm (y : Ses) : encS (normS y) = encS y := by
  unfold encS; rw [keptOf_norm]; rfl
theorem encT_norm (T : Tab) : encT (norm T) = encT T := by
  unfold encT norm; simp only [List.length_map, List.flatMap_map]; congr 1
  congr 1; funext y; exact encS_norm y
def lookT (T : Tab) (i : UInt64) : Tab := ⟨upF i (fun y => { y with lf := y.tt }) T.l, T.la⟩
open Classical in
noncomputable def decR (k : List UInt8) : Res := if h : ∃ r, FitRes r ∧ encR r = k then Classical.choose h else zeroR
theorem encR_inj {a b : Res} (ha : FitRes a) (hb : FitRes b) (h : encR a = encR b) : a = b := (encR_pf a b [] [] ha hb (by rw [h])).1
theorem decR_enc {r : Res} (h : FitRes r) : decR (encR r) = r := by
  have hx : ∃ r0, FitRes r0 ∧ encR r0 = encR r := ⟨r, h, rfl⟩
  unfold decR; rw [dif_pos hx]
  exact encR_inj (Classical.choose_spec hx).1 h (Classical.choose_spec hx).2
theorem decR_rd {k : List UInt8} {r : Res} {ok : Bool} (hf : FitRes r) (h : RdR k r ok) : r = decR k := by
  cases ok with
  | true => rw [← h.1 rfl, decR_enc hf]
  | false =>
    obtain ⟨h1, h2⟩ := h.2 rfl
    unfold decR; rw [dif_neg (fun ⟨r0, a, b⟩ => h2 r0 a b)]; exact h1
def firstOf (i : UInt64) (l : List Ses) : Option Ses := l.find? (fun y => decide (y.id = i))
noncomputable def lookO (o : Option Ses) (sq : UInt64) : Res × Bool × UInt8 := match o with
  | none => (zeroR, false, 5)
  | some y => if sq.toNat = 0 ∨ sq.toNat < y.sq.toNat then (zeroR, false, 6) else if sq = y.sq then (decR y.kp, true, 0) else (zeroR, false, 0)
noncomputable def lookR (T : Tab) (i sq : UInt64) : Res × Bool × UInt8 := lookO (firstOf i T.l) sq
theorem firstOf_no {i : UInt64} {l : List Ses} (h : NoId l i) : firstOf i l = none := by
  unfold firstOf; rw [List.find?_eq_none]; intro y hy; simpa using h y hy
theorem firstOf_at {i : UInt64} : ∀ {l : List Ses} {j : Nat} {y : Ses}, IsAt l i j y → firstOf i l = some y := by
  intro l
  induction l with
  | nil => intro j y h; have := h.1; simp at this
  | cons x l ih =>
    intro j y h
    obtain ⟨h1, h2, h3⟩ := h
    unfold firstOf
    cases j with
    | zero => simp at h1; subst h1; rw [List.find?_cons_of_pos (by simpa using h2)]
    | succ j =>
      rw [List.find?_cons_of_neg (by simpa using h3 0 x (by omega) rfl)]
      exact ih ⟨by simpa using h1, h2, fun k z hk hz => h3 (k + 1) z (by omega) (by simpa using hz)⟩
theorem look_eq {T T2 : Tab} {i sq : UInt64} {r : Res} {ag : Bool} {cd : UInt8} (hf : FitRes r) (hL : (NoId T.l i ∧ T2 = T ∧ r = zeroR ∧ ag = false ∧ cd = 5) ∨ (∃ j y, IsAt T.l i j y ∧ T2 = SetG T j { y with lf := y.tt } ∧ ((sq.toNat = 0 ∨ sq.toNat < y.sq.toNat) → r = zeroR ∧ ag = false ∧ cd = 6) ∧ (¬ (sq.toNat = 0 ∨ sq.toNat < y.sq.toNat) → sq = y.sq → ag = true ∧ cd = 0 ∧ ∃ ok, RdR y.kp r ok) ∧ (¬ (sq.toNat = 0 ∨ sq.toNat < y.sq.toNat) → sq ≠ y.sq → r = zeroR ∧ ag = false ∧ cd = 0))) : T2 = lookT T i ∧ (r, ag, cd) = lookR T i sq := by
  rcases hL with ⟨h1, h2, h3, h4, h5⟩ | ⟨j, y, h1, h2, h3, h4, h5⟩
  · refine ⟨?_, ?_⟩
    · rw [h2]; unfold lookT; rw [upF_no h1]
    · unfold lookR; rw [firstOf_no h1, h3, h4, h5]; rfl
  · refine ⟨?_, ?_⟩
    · rw [h2]; unfold lookT SetG; rw [upF_at h1]
    · unfold lookR; rw [firstOf_at h1]
      unfold lookO
      simp only
      by_cases q : sq.toNat = 0 ∨ sq.toNat < y.sq.toNat
      · rw [if_pos q]; obtain ⟨a, b, c⟩ := h3 q; rw [a, b, c]
      · rw [if_neg q]
        by_cases q2 : sq = y.sq
        · rw [if_pos q2]; obtain ⟨a, b, ok, c⟩ := h4 q q2; rw [a, b, decR_rd hf c]
        · rw [if_neg q2]; obtain ⟨a, b, c⟩ := h5 q q2; rw [a, b, c]
def Ok1 (y : Ses) : Prop := 1 ≤ y.lf.toNat ∧ y.lf.toNat ≤ y.tt.toNat ∧ y.kp.length ≤ 12000 ∧ (y.sq.toNat ≠ 0 → ∃ r, FitRes r ∧ encR r = y.kp)
def ids (l : List Ses) : List Nat := l.map fun y => y.id.toNat
def Inv (k : Nat) (T : Tab) : Prop := T.l.length ≤ 4 ∧ T.la.toNat ≤ k ∧ (ids T.l).Pairwise (· < ·) ∧ (∀ y ∈ T.l, Ok1 y) ∧ ∀ n ∈ ids T.l, 1 ≤ n ∧ n ≤ T.la.toNat
theorem upF_ids {i : UInt64} {f : Ses → Ses} (hf : ∀ y, (f y).id = y.id) : ∀ l, ids (upF i f l) = ids l := by
  intro l
  induction l with
  | nil => rfl
  | cons y l ih => unfold upF; split
                   · simp [ids, hf]
                   · simp only [ids, List.map_cons] at ih ⊢; rw [ih]
theorem upF_mem {i : UInt64} {f : Ses → Ses} : ∀ {l : List Ses} {z : Ses}, z ∈ upF i f l → ∃ y ∈ l, z = y ∨ z = f y := by
  intro l
  induction l with
  | nil => intro z h; simp [upF] at h
  | cons y l ih =>
    intro z h
    unfold upF at h
    split at h
    · rcases List.mem_cons.1 h with q | q
      · exact ⟨y, List.mem_cons_self .., .inr q⟩
      · exact ⟨z, List.mem_cons_of_mem _ q, .inl rfl⟩
    · rcases List.mem_cons.1 h with q | q
      · exact ⟨y, List.mem_cons_self .., .inl q⟩
      · obtain ⟨w, h1, h2⟩ := ih q; exact ⟨w, List.mem_cons_of_mem _ h1, h2⟩
theorem upF_length {i : UInt64} {f : Ses → Ses} : ∀ l, (upF i f l).length = l.length := by
  intro l
  induction l with
  | nil => rfl
  | cons y l ih => unfold upF; split <;> simp [ih]
theorem inv_up {k : Nat} {T : Tab} {i : UInt64} {f : Ses → Ses} (h : Inv k T) (hid : ∀ y, (f y).id = y.id) (hok : ∀ y, Ok1 y → Ok1 (f y)) : Inv k ⟨upF i f T.l, T.la⟩ := by
  obtain ⟨h1, h2, h3, h4, h5⟩ := h
  refine ⟨by rw [upF_length]; exact h1, h2, by rw [upF_ids hid]; exact h3, fun z hz => ?_, by rw [upF_ids hid]; exact h5⟩
  obtain ⟨y, hy, q | q⟩ := upF_mem hz
  · subst q; exact h4 _ hy
  · subst q; exact hok _ (h4 _ hy)
theorem inv_look {k : Nat} {T : Tab} {i : UInt64} (h : Inv k T) : Inv k (lookT T i) :=
  inv_up h (fun _ => rfl) fun y hy => ⟨by have := hy.1; have := hy.2.1; show 1 ≤ y.tt.toNat; omega, Nat.le_refl _, hy.2.2.1, hy.2.2.2⟩
theorem inv_keep {k : Nat} {T : Tab} {i sq : UInt64} {r : Res} (h : Inv k T) (hf : FitRes r) (hl : (encR r).length ≤ 12000) : Inv k (keepT T i sq (encR r)) :=
  inv_up h (fun y => by unfold keepF; split <;> rfl) fun y hy => by
    unfold keepF; split
    · exact ⟨hy.1, hy.2.1, hl, fun _ => ⟨r, hf, rfl⟩⟩
    · exact hy
theorem inv_open {k : Nat} {T : Tab} {ttl : UInt64} (h : Inv k T) (hk : k ≤ 1000000) : Inv (k + 1) (openT T ttl).1 := by
  obtain ⟨h1, h2, h3, h4, h5⟩ := h
  unfold openT
  split
  · exact ⟨h1, Nat.le_succ_of_le h2, h3, h4, h5⟩
  · split
    · exact ⟨h1, Nat.le_succ_of_le h2, h3, h4, h5⟩
    · rename_i a b
      have e : (T.la + 1).toNat = T.la.toNat + 1 := by rw [UInt64.toNat_add]; show (T.la.toNat + 1) % 2 ^ 64 = _; omega
      refine ⟨by simp; omega, by show (T.la + 1).toNat ≤ _; omega, ?_, ?_, ?_⟩
      · simp only [ids, List.map_append, List.map_cons, List.map_nil]
        rw [List.pairwise_append]
        refine ⟨h3, by simp, fun a ha b hb => ?_⟩
        rw [List.mem_singleton] at hb; subst hb
        have := h5 a ha; omega
      · intro y hy
        rcases List.mem_append.1 hy with q | q
        · exact h4 y q
        · rw [List.mem_singleton] at q; subst q
          exact ⟨by show 1 ≤ ttl.toNat; omega, Nat.le_refl _, by simp, fun q => absurd rfl q⟩
      · intro n hn
        simp only [ids, List.map_append, List.map_cons, List.map_nil] at hn
        rcases List.mem_append.1 hn with q | q
        · have := h5 n q; show _ ∧ n ≤ (T.la + 1).toNat; omega
        · rw [List.mem_singleton] at q; subst q; exact ⟨by show 1 ≤ (T.la + 1).toNat; omega, Nat.le_refl _⟩
theorem dec_nat {x : UInt64} (h : 1 ≤ x.toNat) : (x - 1).toNat = x.toNat - 1 := by
  rw [UInt64.toNat_sub]; have := x.toNat_lt
  show (2 ^ 64 - 1 + x.toNat) % 2 ^ 64 = _
  omega
theorem inv_tick {k : Nat} {T : Tab} (h : Inv k T) : Inv k (tickT T) := by
  obtain ⟨h1, h2, h3, h4, h5⟩ := h
  have hs : List.Sublist (ids (alive (T.l.map dec1))) (ids T.l) := by
    have : ids (T.l.map dec1) = ids T.l := by simp [ids, dec1]
    rw [← this]; exact (List.filter_sublist).map _
  refine ⟨Nat.le_trans (alive_len _) (by rw [List.length_map]; exact h1), h2, h3.sublist hs, fun z hz => ?_, fun n hn => h5 n (hs.subset hn)⟩
  obtain ⟨hz1, hz2⟩ := List.mem_filter.1 hz
  obtain ⟨y, hy, rfl⟩ := List.mem_map.1 hz1
  obtain ⟨g1, g2, g3, g4⟩ := h4 y hy
  have hal : (dec1 y).lf.toNat ≠ 0 := of_decide_eq_true hz2
  exact ⟨by omega, by show (y.lf - 1).toNat ≤ y.tt.toNat; rw [dec_nat g1]; omega, g3, g4⟩
theorem good_norm {k : Nat} {T : Tab} (h : Inv k T) : GoodT (norm T) := by
  obtain ⟨h1, h2, h3, h4, h5⟩ := h
  have key : ∀ (l : List Ses) (b : UInt64), (ids l).Pairwise (· < ·) → (∀ n ∈ ids l, b.toNat < n ∧ n ≤ T.la.toNat) → (∀ y ∈ l, Ok1 y) → b.toNat ≤ T.la.toNat → GoodL b (l.map normS) ∧ (lastId b (l.map normS)).toNat ≤ T.la.toNat := by
    intro l
    induction l with
    | nil => intro b _ _ _ hb; exact ⟨trivial, hb⟩
    | cons y l ih =>
      intro b hp hn ho hb
      have hp2 := List.pairwise_cons.1 hp
      have hy := hn y.id.toNat (List.mem_cons_self ..)
      obtain ⟨g1, g2, g3, g4⟩ := ho y (List.mem_cons_self ..)
      obtain ⟨i1, i2⟩ := ih y.id hp2.2 (fun n hn2 => ⟨hp2.1 n hn2, (hn n (List.mem_cons_of_mem _ hn2)).2⟩) (fun z hz => ho z (List.mem_cons_of_mem _ hz)) hy.2
      refine ⟨⟨⟨?_, ?_, hy.1, g1, g2⟩, i1⟩, i2⟩
      · show ∃ r0, FitRes r0 ∧ encR r0 = keptOf y
        unfold keptOf; split
        · exact ⟨zeroR, fitR0, rfl⟩
        · rename_i q; exact g4 q
      · intro q; show keptOf y = _; exact if_pos q
  obtain ⟨k1, k2⟩ := key T.l 0 h3 (fun n hn => h5 n hn) h4 (Nat.zero_le _)
  exact ⟨k1, k2, by show (T.l.map normS).length ≤ 4; rw [List.length_map]; exact h1⟩
theorem keptOf_len2 {y : Ses} (h : y.kp.length ≤ 12000) : (keptOf y).length ≤ 12000 := by
  unfold keptOf; split
  · exact Nat.le_trans (show (encR zeroR).length ≤ 60 by decide +kernel) (by omega)
  · exact h
theorem inv_kp {k : Nat} {T : Tab} (h : Inv k T) : ∀ y ∈ T.l, y.kp.length ≤ 299000 := fun y hy => by have := (h.2.2.2.1 y hy).2.2.1; omega
theorem inv_mono {k k2 : Nat} {T : Tab} (h : Inv k T) (hk : k ≤ k2) : Inv k2 T := ⟨h.1, Nat.le_trans h.2.1 hk, h.2.2⟩
theorem flat_len : ∀ (l : List Ses), (∀ y ∈ l, y.kp.length ≤ 12000) → (l.flatMap encS).length ≤ l.length * 12100 := by
  intro l
  induction l with
  | nil => intro _; simp
  | cons y l ih =>
    intro h
    have h1 := keptOf_len2 (h y (List.mem_cons_self ..))
    have h2 := sb_len (t := keptOf y) (by omega)
    have a1 := vb_len y.id.toNat_lt
    have a2 := vb_len y.tt.toNat_lt
    have a3 := vb_len y.lf.toNat_lt
    have a4 := vb_len y.sq.toNat_lt
    have i2 := ih (fun z hz => h z (List.mem_cons_of_mem _ hz))
    rw [List.flatMap_cons, List.length_append, List.length_cons]
    unfold encS
    simp only [List.length_append]
    unfold encS at i2
    omega
theorem encT_len {k : Nat} {T : Tab} (h : Inv k T) : (encT T).length ≤ 299000 := by
  have h1 := flat_len T.l (fun y hy => (h.2.2.2.1 y hy).2.2.1)
  have h2 := h.1
  have a1 := vb_len T.la.toNat_lt
  have a2 := vb_len (n := T.l.length) (by omega)
  unfold encT
  simp only [List.length_append]
  omega
theorem inv_norm {k : Nat} {T : Tab} (h : Inv k T) : Inv k (norm T) := by
  obtain ⟨h1, h2, h3, h4, h5⟩ := h
  have e : ids (T.l.map normS) = ids T.l := by simp [ids, normS]
  refine ⟨by show (T.l.map normS).length ≤ 4; rw [List.length_map]; exact h1, h2, by show (ids (T.l.map normS)).Pairwise _; rw [e]; exact h3, fun z hz => ?_, by show ∀ n ∈ ids (T.l.map normS), _; rw [e]; exact h5⟩
  obtain ⟨y, hy, rfl⟩ := List.mem_map.1 hz
  obtain ⟨g1, g2, g3, g4⟩ := h4 y hy
  exact ⟨g1, g2, keptOf_len2 g3, fun q => by show ∃ r, FitRes r ∧ encR r = keptOf y; unfold keptOf; rw [if_neg (show ¬ y.sq.toNat = 0 from q)]; exact g4 q⟩
theorem upF_norm {i : UInt64} {f : Ses → Ses} (hf : ∀ y, normS (f y) = normS (f (normS y))) : ∀ l : List Ses, (upF i f l).map normS = (upF i f (l.map normS)).map normS := by
  intro l
  induction l with
  | nil => rfl
  | cons y l ih =>
    rw [List.map_cons]
    unfold upF
    by_cases q : y.id = i
    · rw [if_pos q, if_pos (show (normS y).id = i from q)]
      simp only [List.map_cons, List.map_map]
      rw [hf y]; congr 1
      exact List.map_congr_left fun z _ => (normS_norm z).symm
    · rw [if_neg q, if_neg (show ¬ (normS y).id = i from q)]
      simp only [List.map_cons, ih, normS_norm]
theorem norm_look (T : Tab) (i : UInt64) : norm (lookT T i) = norm (lookT (norm T) i) := by
  unfold norm lookT; simp only; rw [upF_norm]
  intro y; unfold normS keptOf; simp only; split <;> simp_all
theorem norm_keep (T : Tab) (i sq : UInt64) (k : List UInt8) : norm (keepT T i sq k) = norm (keepT (norm T) i sq k) := by
  unfold norm keepT; simp only; rw [upF_norm]
  intro y; unfold keepF
  by_cases q : y.sq.toNat < sq.toNat
  · rw [if_pos q, if_pos (show (normS y).sq.toNat < sq.toNat from q)]; rfl
  · rw [if_neg q, if_neg (show ¬ (normS y).sq.toNat < sq.toNat from q), normS_norm]
theorem norm_open (T : Tab) (ttl : UInt64) : norm (openT T ttl).1 = norm (openT (norm T) ttl).1 ∧ (openT T ttl).2 = (openT (norm T) ttl).2 := by
  unfold openT
  have hl : (norm T).l.length = T.l.length := by simp [norm]
  rw [hl]
  split
  · exact ⟨(norm_norm T).symm, rfl⟩
  · split
    · exact ⟨(norm_norm T).symm, rfl⟩
    · refine ⟨?_, rfl⟩
      show norm _ = norm _
      unfold norm; simp only [List.map_append, List.map_map]; congr 2
      exact List.map_congr_left fun z _ => (normS_norm z).symm
theorem norm_tick (T : Tab) : norm (tickT T) = norm (tickT (norm T)) := by
  unfold norm tickT alive
  simp only
  congr 1
  rw [List.map_map]
  induction T.l with
  | nil => rfl
  | cons y l ih =>
    simp only [List.map_cons, List.filter_cons]
    have e : Alive ((dec1 ∘ normS) y) ↔ Alive (dec1 y) := Iff.rfl
    by_cases q : Alive (dec1 y)
    · rw [if_pos (decide_eq_true q), if_pos (decide_eq_true (e.2 q)), List.map_cons, List.map_cons, ih]
      congr 1
      show normS (dec1 y) = normS (dec1 (normS y))
      unfold normS dec1 keptOf; simp only; split <;> simp_all
    · rw [if_neg (by simpa using q), if_neg (by simpa using (fun r => q (e.1 r))), ih]
theorem firstOf_norm (i : UInt64) : ∀ l : List Ses, firstOf i (l.map normS) = (firstOf i l).map normS := by
  intro l
  unfold firstOf
  rw [List.find?_map]; rfl
theorem look_norm (T : Tab) (i sq : UInt64) : lookR T i sq = lookR (norm T) i sq := by
  unfold lookR norm; simp only
  rw [firstOf_norm]
  cases firstOf i T.l with
  | none => rfl
  | some y =>
    unfold lookO; simp only [Option.map_some]
    by_cases q : sq.toNat = 0 ∨ sq.toNat < y.sq.toNat
    · rw [if_pos q, if_pos (show sq.toNat = 0 ∨ sq.toNat < (normS y).sq.toNat from q)]
    · rw [if_neg q, if_neg (show ¬ (sq.toNat = 0 ∨ sq.toNat < (normS y).sq.toNat) from q)]
      by_cases q2 : sq = y.sq
      · rw [if_pos q2, if_pos (show sq = (normS y).sq from q2)]
        have : keptOf y = y.kp := if_neg (fun z => q (.inl (by rw [q2]; exact z)))
        show (decR y.kp, _) = (decR (keptOf y), _)
        rw [this]
      · rw [if_neg q2, if_neg (show ¬ sq = (normS y).sq from q2)]
end Go.Proofs.Ytomaijljeacpjaa.Wt
namespace Go.Proofs.Ytomaijljeacpjaa.Wt
open Go Go.Proofs.Ytomaijljeacpjaa.Am Go.Proofs.Ytomaijljeacpjaa.IrAll
set_option linter.unusedVariables false
set_option linter.unusedSimpArgs false
variable {h base : H} {L : List Seg} {R : List Nat}
theorem awake18_ran (W : Mem h h [] []) : Cll tab0 10 [] h (fun v h2 => v = .bool true ∧ Mem h h2 [] []) := ⟨_, h, awake_run h, rfl, W⟩
def one (tu : UInt64) (n : Nat) : Tab := ⟨if n < tu.toNat then [⟨1, tu, UInt64.ofNat (tu.toNat - n), 0, []⟩] else [], 1⟩
end Go.Proofs.Ytomaijljeacpjaa.Wt
namespace Go.Proofs.Ytomaijljeacpjaa.Wt
open Go Go.Proofs.Ytomaijljeacpjaa.Am Go.Proofs.Ytomaijljeacpjaa.IrAll
set_option linter.unusedVariables false
set_option linter.unusedSimpArgs false
structure SAct where
  d : UInt8
  id : UInt64
  n : UInt64
  rc : UInt8
  rn : UInt64
  rv : List UInt8
  rr : List Rrow
  rrp : Option Addr × Nat
def SAct.cells (x : SAct) : List Value := [(.int .u8 (((x.d).toNat : Nat) : Int)), (.int .u64 (((x.id).toNat : Nat) : Int)), (.int .u64 (((x.n).toNat : Nat) : Int)), (.int .u8 (((x.rc).toNat : Nat) : Int)), (.int .u64 (((x.rn).toNat : Nat) : Int)), (.string (bs x.rv)), (.slice x.rrp.1 x.rr.length x.rrp.2)]
def KSAct : Row SAct := ⟨SAct.cells, 7, fun _ => rfl, by decide, fun _ => rfl⟩
variable {h base : H} {L : List Seg} {R : List Nat}
def SAct.res (y : SAct) : Res := ⟨y.rc, y.rn, y.rv, y.rr⟩
def SAct.sv (y : SAct) : Value := .slice y.rrp.1 y.rr.length y.rrp.2
theorem OpensL.re {P : Program} {t : TypeId} {α β : Type} {L : Lay α} {L' : Lay β} {n : Nat} {ok : α → Prop} {ok' : β → Prop} (g : α → List Value → β) (h : OpensL P t L n ok) (hL : ∀ h a cs, L h a cs → L' h (g a cs) cs) (hok : ∀ a cs, ok a → ok' (g a cs)) : OpensL P t L' n ok' :=
  ⟨h.1, fun enc W held fuel cs x e k => by
    obtain ⟨a, bl, acs, h1, h2, h3, h4, h5⟩ := h.2 enc W held fuel cs x e k
    exact ⟨g a acs, bl, acs, h1, h2, h3, fun hh c => hL _ _ _ (h4 hh c), hok _ _ h5⟩⟩
def layAct : Lay SAct := fun h a cs => cs = KSAct.cells a ∧ KRrow.Sl h a.sv a.rr
def spOf : Option Value → Option Addr × Nat
  | some (.slice P _ c) => (P, c)
  | _ => (none, 0)
def actOf (x : UInt8 × UInt64 × UInt64 × Res) (cs : List Value) : SAct := ⟨x.1, x.2.1, x.2.2.1, x.2.2.2.cd, x.2.2.2.n, x.2.2.2.va, x.2.2.2.rs, spOf cs[6]?⟩
theorem actOf_lay (h : H) (x : UInt8 × UInt64 × UInt64 × Res) (cs : List Value) (q : ∃ V, cs = [.int .u8 ((x.1.toNat : Nat) : Int), .int .u64 ((x.2.1.toNat : Nat) : Int), .int .u64 ((x.2.2.1.toNat : Nat) : Int)] ++ Res.cells x.2.2.2 V ∧ SlL (fun _ y cs => cs = KRrow.cells y) 3 h V x.2.2.2.rs) : layAct h (actOf x cs) cs := by
  obtain ⟨V, rfl, hS⟩ := q
  have A : KRrow.Sl h V x.2.2.2.rs := SlL.sl (K := KRrow) hS
  obtain ⟨P, c, rfl⟩ := A.shape
  exact ⟨rfl, A⟩
set_option maxRecDepth 100000 in
theorem opens0_33 : OpensL Try.prog 33 (α := UInt8 × UInt64 × UInt64 × Res) (fun h x cs => ∃ V, cs = [.int .u8 ((x.1.toNat : Nat) : Int), .int .u64 ((x.2.1.toNat : Nat) : Int), .int .u64 ((x.2.2.1.toNat : Nat) : Int)] ++ Res.cells x.2.2.2 V ∧ SlL (fun _ y cs => cs = KRrow.cells y) 3 h V x.2.2.2.rs) 7 (fun x => x.2.2.2.va.length < 9223372036854775808 ∧ x.2.2.2.rs.length < 9223372036854775808 ∧ ∀ p ∈ x.2.2.2.rs, p.ky.length < 9223372036854775808 ∧ p.va.length < 9223372036854775808) := by
  refine OpensL.struct (fs := [(5, 0), (28, 1), (28, 2), (31, 3)]) (L := (layP layU8 (layP layU64 (layP layU64 (fun h c cs => ∃ V, cs = Res.cells c V ∧ SlL (fun _ y cs => cs = KRrow.cells y) 3 h V c.rs))))) (mk := fun (d, id, n, r) => (d, id, n, r)) ?_ ?_ (by kernel_rfl) (by kernel_rfl) (OpensLF.cons (by decide) (by decide) opens_5 (OpensLF.cons (by decide) (by decide) opens_28 (OpensLF.cons (by decide) (by decide) opens_28 (OpensLF.one opens_31))))
  · rintro h ⟨d, id, n, r⟩ cs ⟨_, _, rfl, rfl, ⟨_, _, rfl, rfl, ⟨_, _, rfl, rfl, ⟨V, rfl, hS⟩⟩⟩⟩
    exact ⟨V, rfl, hS⟩
  · rintro ⟨d, id, n, r⟩ ⟨k0, k1, k2, k3⟩
    exact k3
theorem opens_33 : OpensL Try.prog 33 (α := SAct) layAct 7 (fun a => (SAct.res a).va.length < 9223372036854775808 ∧ (SAct.res a).rs.length < 9223372036854775808 ∧ ∀ p ∈ (SAct.res a).rs, p.ky.length < 9223372036854775808 ∧ p.va.length < 9223372036854775808) := OpensL.re actOf opens0_33 actOf_lay (fun _ _ k => k)
theorem opens_22 : OpensL Try.prog 22 (laySl layAct 7) 1 (fun l => l.length < 9223372036854775808 ∧ ∀ x ∈ l, (fun a => (SAct.res a).va.length < 9223372036854775808 ∧ (SAct.res a).rs.length < 9223372036854775808 ∧ ∀ p ∈ (SAct.res a).rs, p.ky.length < 9223372036854775808 ∧ p.va.length < 9223372036854775808) x) := OpensL.slice Try.underlying22 (by kernel_rfl) (by decide) opens_33
theorem SlL.acts {V : Value} {l : List SAct} (A : SlL layAct 7 h V l) : KSAct.Sl h V l ∧ ∀ a ∈ l, KRrow.Sl h a.sv a.rr := by
  cases A with
  | nil => exact ⟨.nil, fun a q => by simp at q⟩
  | emp a c => exact ⟨.emp a c, fun a q => by simp at q⟩
  | row b c l cells hg hl he =>
    refine ⟨SlL.sl (K := KSAct) (.row b c l cells hg hl fun j y hy => (he j y hy).1), fun a ha => ?_⟩
    obtain ⟨j, hj, rfl⟩ := List.mem_iff_getElem.1 ha
    exact (he j _ (List.getElem?_eq_getElem hj)).2
def encSum (l : List SAct) : Nat := (l.map fun a => (encR a.res).length).sum
theorem encSum_snoc {l : List SAct} {i : Nat} {y : SAct} (h : l[i]? = some y) : encSum (l.take (i + 1)) = encSum (l.take i) + (encR y.res).length := by
  unfold encSum; rw [take_snocA h]; simp
theorem encSum_mem : ∀ {l : List SAct} {a : SAct}, a ∈ l → (encR a.res).length ≤ encSum l := by
  intro l
  induction l with
  | nil => intro a h; simp at h
  | cons x l ih =>
    intro a h
    unfold encSum
    rw [List.map_cons, List.sum_cons]
    rcases List.mem_cons.1 h with q | q
    · subst q; omega
    · have := ih q; unfold encSum at this; omega
def OkAct (a : SAct) : Prop := FitRes a.res ∧ (encR a.res).length ≤ 12000 ∧ TightR a.res
set_option maxRecDepth 8000 in
theorem Great18_ran (W : Mem h h [] []) {V : Value} {l : List SAct} (A : KSAct.Sl h V l) (hQ : ∀ a ∈ l, KRrow.Sl h a.sv a.rr) (hb : l.length < 9223372036854775808 ∧ ∀ a ∈ l, a.res.va.length < 9223372036854775808 ∧ a.res.rs.length < 9223372036854775808 ∧ ∀ p ∈ a.res.rs, p.ky.length < 9223372036854775808 ∧ p.va.length < 9223372036854775808) : Cll tab0 9 [V] h (fun v h2 => ∃ g, v = .bool g ∧ (g = false → l.length ≤ 120 ∧ ∀ a ∈ l, OkAct a) ∧ Mem h h2 [] []) := by
  obtain ⟨Pl, nl, rfl⟩ := A.shape
  obtain ⟨hb1, hb2⟩ := hb
  refine Cll.code rfl rfl ?_
  refine WC.env [(0, _)] rfl ?_
  refine WC.seq (WC.run (WS.op rfl rfl (WS.nil [(0, _)] rfl ?_)))
  refine WC.seq (WC.seq (WC.run (WS.op rfl rfl (WS.op rfl (op_lenVS A rfl) ?_))))
  refine WS.gtrN (a := (l).length) (b := 120) rfl rfl rfl (fun e7 => ?_) (fun e7 => ?_)
  ·
   refine WS.nil [(0, _), (7, _)] rfl ?_
   refine WC.condT rfl (WC.seq (WC.run (WS.op rfl rfl (WS.nil [(2, _)] rfl ?_))))
   refine WC.ret (⟨[_], (res_tmp rfl res_nil), ?_⟩)
   exact ⟨_, rfl, fun q => (nomatch q), W.bare.take 0⟩
  ·
   refine WS.nil [(0, _), (7, _)] rfl ?_
   refine WC.condF rfl (WC.skip (WC.seq (WC.run (WS.op rfl rfl (WS.nil [(0, _), (3, _)] rfl ?_)))))
   refine WC.seq (WC.seq (WC.run (WS.op rfl rfl (WS.nil [(0, _), (3, _), (4, _)] rfl ?_))))
   refine WC.block ?_
   obtain ⟨L1, eL3, M2⟩ := Mem.name W.bare
   refine WC.loop (σ := Nat × Nat) (fun ((sm, i)) => [(0, (.slice Pl l.length nl)), (3, (.int .i64 ((sm : Nat) : Int))), (4, (.int .i64 ((i : Nat) : Int)))]) (fun ((sm, i)) hh => Mem h hh (L1) [] ∧ sm = encSum (l.take i) ∧ i ≤ l.length ∧ encSum (l.take i) ≤ 1000000 * i ∧ ∀ a ∈ l.take i, FitRes a.res ∧ TightR a.res) (fun ((sm, i)) => l.length - i) (0, 0) rfl ⟨M2, ?_⟩ ?_
   · exact ⟨by simp [encSum], by omega, by simp [encSum], by simp⟩
   ·rintro ⟨sm, i⟩ h4 ⟨M5, ⟨hsm, hi1, hs1, hT⟩⟩
    replace eL3 := eL3.symm; subst eL3
    refine WC.env [(0, _), (3, _), (4, _)] rfl ?_
    refine WC.seq (WC.seq (WC.run (WS.op rfl rfl (WS.op rfl rfl (WS.op rfl (op_lenVS A rfl) ?_)))))
    refine WS.lssN (a := i) (b := (l).length) rfl rfl rfl (fun e11 => ?_) (fun e11 => ?_)
    ·
     refine WS.nil [(0, _), (3, _), (4, _), (11, _)] rfl ?_
     refine WC.condT rfl (WC.skip (WC.seq (WC.block (WC.seq (WC.seq (WC.run (WS.op rfl rfl (WS.op rfl rfl ?_))))))))
     obtain ⟨y16, hy16⟩ : ∃ y, (l)[i]? = some y := ⟨_, List.getElem?_eq_getElem (show i < (l).length by first | omega | (simp only [List.length_drop, List.length_take, List.length_append, List.length_cons, List.length_nil, List.length_singleton]; omega) | (simp only [List.length_drop, List.length_take, List.length_append, List.length_cons, List.length_nil, List.length_singleton] at *; omega))⟩
     refine WS.iaVS A i hy16 rfl rfl rfl rfl ?_
     intro b16_ o16_ ha16
     refine WS.op rfl rfl (WS.op rfl (op_ldN rfl (At.ldsub (ha16.mono M5.sub) (cs2 := [_, _, _, _]) rfl (Nat.le_of_ble_eq_true rfl))) ?_)
     refine WS.call rfl rfl rfl (GreatR_ran M5.here (r := (⟨y16.rc, y16.rn, y16.rv, y16.rr⟩ : Res)) ((hQ _ (List.mem_of_getElem? hy16)).mono M5.sub) (by exact hb2 _ (List.mem_of_getElem? hy16))) ?_
     rintro _ h6 ⟨⟨g19, rfl, hg19⟩, N7⟩
     have M8 := M5.trans N7
     refine WS.nil [(0, _), (3, _), (4, _), (19, _)] rfl ?_
     cases hb1 : g19
     ·
      refine WC.condF rfl (WC.skip (WC.run ?_))
      have hfr := hg19 (by assumption)
      have hes := encSum_snoc hy16
      have hlr : (encR y16.res).length ≤ 1000000 := Nat.le_trans (encR_len hfr.2) (by omega)
      refine WS.op rfl rfl (WS.op rfl rfl (WS.op rfl rfl ?_))
      refine WS.iaVS A i hy16 rfl rfl rfl rfl ?_
      intro b23_ o23_ ha23
      refine WS.op rfl rfl (WS.op rfl (op_ldN rfl (At.ldsub (ha23.mono M8.sub) (cs2 := [_, _, _, _]) rfl (Nat.le_of_ble_eq_true rfl))) ?_)
      refine WS.call rfl rfl rfl (refWriteR_ran M8.here (r := (⟨y16.rc, y16.rn, y16.rv, y16.rr⟩ : Res)) ((hQ _ (List.mem_of_getElem? hy16)).mono M8.sub) (by exact (hg19 (by assumption)).1)) ?_
      rintro _ h9 ⟨rfl, N10⟩
      have M11 := M8.trans N10
      refine WS.op rfl (op_lenS (l := (encR (⟨y16.rc, y16.rn, y16.rv, y16.rr⟩ : Res))) rfl) (WS.opV (.int .i64 (((sm + ((encR (⟨y16.rc, y16.rn, y16.rv, y16.rr⟩ : Res))).length) : Nat) : Int)) rfl rfl (add_i64 (a := sm) (b := ((encR (⟨y16.rc, y16.rn, y16.rv, y16.rr⟩ : Res))).length) (by have : (encR y16.res).length ≤ 1000000 := hlr; have e : (encR ⟨y16.rc, y16.rn, y16.rv, y16.rr⟩).length = (encR y16.res).length := rfl; omega)) (WS.op rfl rfl (WS.nil [(0, _), (3, _), (4, _)] rfl ?_)))
      refine WC.run (WS.op rfl rfl (WS.opV (.int .i64 (((i + 1) : Nat) : Int)) rfl rfl (add_i64 (a := i) (b := 1) (by omega)) (WS.op rfl rfl (WS.nil [(0, _), (3, _), (4, _)] rfl ?_))))
      refine ⟨((sm + ((encR (⟨y16.rc, y16.rn, y16.rv, y16.rr⟩ : Res))).length), i + 1), rfl, ⟨(M11.bare.take 0), ?_⟩, ?_⟩
      · exact ⟨by rw [hes, ← hsm]; rfl, by omega, by omega, fun a ha => by rw [take_snocA hy16] at ha; rcases List.mem_append.1 ha with q | q; exact hT a q; (rw [List.mem_singleton] at q; subst q; exact hfr)⟩
      · simp only []; omega
     ·
      refine WC.condT rfl (WC.seq (WC.run (WS.op rfl rfl (WS.nil [(2, _)] rfl ?_))))
      refine WC.ret (⟨[_], (res_tmp rfl res_nil), ?_⟩)
      exact ⟨_, rfl, fun q => (nomatch q), M8.bare.take 0⟩
    ·
     refine WS.nil [(0, _), (3, _), (4, _), (11, _)] rfl ?_
     refine WC.condF rfl (WC.exit ?_)
     refine WC.seq (WC.run (WS.op rfl rfl ?_))
     refine WS.gtrN (a := sm) (b := 12000) rfl rfl rfl (fun e30 => ?_) (fun e30 => ?_)
     ·
      refine WS.op rfl rfl (WS.nil [(2, _)] rfl ?_)
      refine WC.ret (⟨[_], (res_tmp rfl res_nil), ?_⟩)
      exact ⟨_, rfl, fun q => (nomatch q), M5.bare.take 0⟩
     ·
      refine WS.op rfl rfl (WS.nil [(2, _)] rfl ?_)
      refine WC.ret (⟨[_], (res_tmp rfl res_nil), ?_⟩)
      have htk : l.take i = l := List.take_of_length_le (by omega)
      rw [htk] at hT hs1 hsm
      exact ⟨_, rfl, fun _ => ⟨by omega, fun a ha => ⟨(hT a ha).1, by have := encSum_mem ha; omega, (hT a ha).2⟩⟩, M5.bare.take 0⟩
end Go.Proofs.Ytomaijljeacpjaa.Wt
namespace Go.Proofs.Ytomaijljeacpjaa.Wt
open Go Go.Proofs.Ytomaijljeacpjaa.Am Go.Proofs.Ytomaijljeacpjaa.IrAll
set_option linter.unusedVariables false
set_option linter.unusedSimpArgs false
variable {h base : H} {L : List Seg} {R : List Nat}
theorem inv_new : Inv 0 (⟨[], 0⟩ : Tab) := ⟨by simp, Nat.le_refl _, List.Pairwise.nil, fun y hy => by simp at hy, fun n hn => by simp [ids] at hn⟩
end Go.Proofs.Ytomaijljeacpjaa.Wt
namespace Go.Proofs.Ytomaijljeacpjaa.Wt
open Go Go.Proofs.Ytomaijljeacpjaa.Am Go.Proofs.Ytomaijljeacpjaa.IrAll
set_option linter.unusedVariables false
set_option linter.unusedSimpArgs false
variable {h : H}
def toS (z : RSes) : Ses := ⟨z.id, z.tt, z.lf, z.sq, encR z.res⟩
def TS (W : RTab) : Tab := ⟨W.l.map toS, W.la⟩
def Q1 (h : H) (z : RSes) : Prop := FitRes z.res ∧ (encR z.res).length ≤ 12000 ∧ (z.sq.toNat = 0 → z.res = zeroR) ∧ KRrow.Sl h z.sv z.rr
def QW (h : H) (W : RTab) : Prop := ∀ z ∈ W.l, Q1 h z
def Rel (h : H) (k : Nat) (T : Tab) (W : RTab) : Prop := Inv k T ∧ norm T = TS W ∧ QW h W
theorem TS_norm {W : RTab} (h : QW h W) : norm (TS W) = TS W := by
  unfold norm TS; simp only [List.map_map]; congr 1
  apply List.map_congr_left
  intro z hz
  show ({ toS z with kp := keptOf (toS z) } : Ses) = toS z
  have : keptOf (toS z) = encR z.res := by
    unfold keptOf; split
    · rename_i q; rw [(h z hz).2.2.1 q]
    · rfl
  rw [this]; rfl
theorem upF_map {i : UInt64} {f : Ses → Ses} : ∀ {l : List Ses}, (ids l).Pairwise (· < ·) → upF i f l = l.map (fun y => if y.id = i then f y else y) := by
  intro l
  induction l with
  | nil => intro _; rfl
  | cons y l ih =>
    intro hp
    have hp2 := List.pairwise_cons.1 hp
    unfold upF; rw [List.map_cons]
    by_cases q : y.id = i
    · rw [if_pos q, if_pos q]; congr 1
      rw [show l = l.map id by simp]
      simp only [List.map_map]
      apply List.map_congr_left
      intro z hz
      have hlt := hp2.1 z.id.toNat (List.mem_map.2 ⟨z, hz, rfl⟩)
      show z = if z.id = i then f z else z
      rw [if_neg (fun e => by have hlt2 : y.id.toNat < z.id.toNat := hlt; rw [e, ← q] at hlt2; omega)]
    · rw [if_neg q, if_neg q, ih hp2.2]
theorem ids_norm (T : Tab) : ids (norm T).l = ids T.l := by simp [ids, norm, normS]
theorem Rel.ids {k : Nat} {T : Tab} {W : RTab} (r : Rel h k T W) : (ids (TS W).l).Pairwise (· < ·) := by
  rw [← r.2.1, ids_norm]; exact r.1.2.2.1
theorem Rel.lf {k : Nat} {T : Tab} {W : RTab} (r : Rel h k T W) : ∀ z ∈ W.l, 1 ≤ z.lf.toNat := by
  intro z hz
  have : toS z ∈ (norm T).l := by rw [r.2.1]; exact List.mem_map.2 ⟨z, hz, rfl⟩
  obtain ⟨y, hy, e⟩ := List.mem_map.1 this
  have h1 := (r.1.2.2.2.1 y hy).1
  have h2 : y.lf = z.lf := congrArg Ses.lf e
  rw [← h2]; exact h1
theorem Rel.len {k : Nat} {T : Tab} {W : RTab} (r : Rel h k T W) : T.l.length = W.l.length ∧ W.l.length ≤ 4 := by
  have h1 := congrArg (fun T : Tab => T.l.length) r.2.1
  simp only [norm, TS, List.length_map] at h1
  exact ⟨h1, by rw [← h1]; exact r.1.1⟩
theorem Rel.la {k : Nat} {T : Tab} {W : RTab} (r : Rel h k T W) : T.la = W.la := congrArg Tab.la r.2.1
theorem encT_TS {W : RTab} (q : QW h W) : encT (TS W) = encRT W := by
  unfold encT encRT TS
  simp only [List.length_map, List.flatMap_map]
  congr 1
  have : ∀ (l : List RSes), (∀ z ∈ l, Q1 h z) → l.flatMap (fun a => encS (toS a)) = l.flatMap encRS := by
    intro l
    induction l with
    | nil => intro _; rfl
    | cons z l ih =>
      intro hz
      rw [List.flatMap_cons, List.flatMap_cons, ih (fun w hw => hz w (List.mem_cons_of_mem _ hw))]
      congr 1
      unfold encS encRS
      congr 2
      unfold keptOf; split
      · rename_i e; rw [(hz z (List.mem_cons_self ..)).2.2.1 e]
      · rfl
  exact this W.l q
theorem Rel.enc {k : Nat} {T : Tab} {W : RTab} (r : Rel h k T W) : encT T = encRT W := by
  rw [← encT_norm T, r.2.1]; exact encT_TS r.2.2
theorem rel_new : Rel h 0 ⟨[], 0⟩ ⟨[], 0⟩ := ⟨inv_new, rfl, fun z hz => by simp at hz⟩
theorem q1_zero : KRrow.Sl h (.slice none 0 0) [] := .nil
theorem rel_open {k : Nat} {T : Tab} {W : RTab} {ttl : UInt64} (r : Rel h k T W) (hk : k ≤ 1000000) : Rel h (k + 1) (openT T ttl).1 (ropenT W ttl).1 ∧ (openT T ttl).2 = (ropenT W ttl).2 := by
  have hl := r.len
  have hla := r.la
  have e1 := norm_open T ttl
  rw [r.2.1] at e1
  have q2 : QW h (ropenT W ttl).1 := by
    unfold ropenT
    split
    · exact r.2.2
    · split
      · exact r.2.2
      · intro z hz
        rcases List.mem_append.1 hz with q | q
        · exact r.2.2 z q
        · rw [List.mem_singleton] at q; subst q
          exact ⟨fitR0, Nat.le_trans (show (encR zeroR).length ≤ 60 by decide +kernel) (by omega), fun _ => rfl, q1_zero⟩
  have e2 : norm (openT (TS W) ttl).1 = TS (ropenT W ttl).1 ∧ (openT (TS W) ttl).2 = (ropenT W ttl).2 := by
    have hlw : (TS W).l.length = W.l.length := by simp [TS]
    unfold openT ropenT
    rw [hlw]
    by_cases c1 : ttl.toNat = 0
    · rw [if_pos c1, if_pos c1]; exact ⟨TS_norm r.2.2, rfl⟩
    · rw [if_neg c1, if_neg c1]
      by_cases c2 : W.l.length = 4
      · rw [if_pos c2, if_pos (by omega)]; exact ⟨TS_norm r.2.2, rfl⟩
      · rw [if_neg c2, if_neg (by omega)]
        refine ⟨?_, rfl⟩
        have := congrArg Tab.l (TS_norm r.2.2)
        unfold norm TS at this ⊢
        simp only [List.map_append] at this ⊢
        rw [this]; rfl
  exact ⟨⟨inv_open r.1 hk, by rw [e1.1, e2.1], q2⟩, by rw [e1.2, e2.2]⟩
theorem rel_look {k : Nat} {T : Tab} {W : RTab} {i : UInt64} (r : Rel h k T W) : Rel h k (lookT T i) (rlookT W i) := by
  have q2 : QW h (rlookT W i) := by
    intro z hz
    obtain ⟨y, hy, rfl⟩ := List.mem_map.1 hz
    have := r.2.2 y hy
    unfold lookF; split
    · exact this
    · exact this
  refine ⟨inv_look r.1, ?_, q2⟩
  rw [norm_look, r.2.1, ← TS_norm q2]
  congr 1
  unfold lookT rlookT
  rw [upF_map r.ids]
  unfold TS; simp only [List.map_map]; congr 1
  apply List.map_congr_left
  intro z _
  show (if z.id = i then _ else toS z) = toS (lookF z i)
  unfold lookF; split <;> rfl
theorem rel_keep {k : Nat} {T : Tab} {W : RTab} {i sq : UInt64} {r : Res} {x : RSes} (rl : Rel h k T W) (hf : FitRes r) (hl : (encR r).length ≤ 12000) (hx : x.res = r) (hs : KRrow.Sl h x.sv r.rs) : Rel h k (keepT T i sq (encR r)) (rkeepT W i sq x) := by
  subst hx
  have q2 : QW h (rkeepT W i sq x) := by
    intro z hz
    obtain ⟨y, hy, rfl⟩ := List.mem_map.1 hz
    have := rl.2.2 y hy
    by_cases c : y.id = i ∧ y.sq.toNat < sq.toNat
    · rw [if_pos c]; exact ⟨hf, hl, fun q => by exfalso; have : sq.toNat = 0 := q; omega, hs⟩
    · rw [if_neg c]; exact this
  refine ⟨inv_keep rl.1 hf hl, ?_, q2⟩
  rw [norm_keep, rl.2.1, ← TS_norm q2]
  congr 1
  unfold keepT rkeepT
  rw [upF_map rl.ids]
  unfold TS; simp only [List.map_map]; congr 1
  apply List.map_congr_left
  intro z _
  show (if z.id = i then keepF sq (encR x.res) (toS z) else toS z) = toS (if z.id = i ∧ z.sq.toNat < sq.toNat then _ else z)
  unfold keepF
  by_cases c1 : z.id = i
  · rw [if_pos c1]
    by_cases c2 : z.sq.toNat < sq.toNat
    · rw [if_pos (show (toS z).sq.toNat < sq.toNat from c2), if_pos ⟨c1, c2⟩]; rfl
    · rw [if_neg (show ¬ (toS z).sq.toNat < sq.toNat from c2), if_neg (fun q => c2 q.2)]
  · rw [if_neg c1, if_neg (fun q => c1 q.1)]
theorem rel_tick {k : Nat} {T : Tab} {W : RTab} (r : Rel h k T W) : Rel h k (tickT T) (rtickT W) := by
  have q2 : QW h (rtickT W) := by
    intro z hz
    obtain ⟨y, hy, e⟩ := List.mem_filterMap.1 hz
    have := r.2.2 y hy
    unfold rtickF at e
    split at e
    · cases e; exact this
    · cases e
  refine ⟨inv_tick r.1, ?_, q2⟩
  rw [norm_tick, r.2.1, ← TS_norm q2]
  congr 1
  unfold tickT rtickT TS alive
  congr 1
  have : ∀ (l : List RSes), (∀ z ∈ l, 1 ≤ z.lf.toNat) → ((l.map toS).map dec1).filter (fun y => decide (Alive y)) = (l.filterMap rtickF).map toS := by
    intro l
    induction l with
    | nil => intro _; rfl
    | cons z l ih =>
      intro hz
      have h1 := hz z (List.mem_cons_self ..)
      have i1 := ih (fun w hw => hz w (List.mem_cons_of_mem _ hw))
      have e : Alive (dec1 (toS z)) ↔ 1 < z.lf.toNat := by
        show (z.lf - 1).toNat ≠ 0 ↔ _
        rw [dec_nat h1]; omega
      simp only [List.map_cons, List.filter_cons, List.filterMap_cons]
      by_cases c : 1 < z.lf.toNat
      · rw [if_pos (decide_eq_true (e.2 c)), i1]
        have : rtickF z = some { z with lf := z.lf - 1 } := if_pos c
        rw [this]; rfl
      · rw [if_neg (by simpa using fun q => c (e.1 q)), i1]
        have : rtickF z = none := if_neg c
        rw [this]
  exact this W.l r.lf
theorem lastOf_no {i : UInt64} : ∀ {l : List RSes} {o : Option RSes}, (∀ z ∈ l, z.id ≠ i) → lastOf i l o = o := by
  intro l
  induction l with
  | nil => intro o _; rfl
  | cons z l ih => intro o hz; unfold lastOf; rw [if_neg (hz z (List.mem_cons_self ..))]; exact ih (fun w hw => hz w (List.mem_cons_of_mem _ hw))
theorem first_last {i : UInt64} : ∀ {l : List RSes}, (ids (l.map toS)).Pairwise (· < ·) → firstOf i (l.map toS) = (lastOf i l none).map toS := by
  intro l
  induction l with
  | nil => intro _; rfl
  | cons z l ih =>
    intro hp
    have hp2 := List.pairwise_cons.1 hp
    unfold firstOf lastOf
    rw [List.map_cons]
    by_cases q : z.id = i
    · have hd : (fun y : Ses => decide (y.id = i)) (toS z) = true := decide_eq_true (show (toS z).id = i from q)
      rw [List.find?_cons_of_pos (p := fun y : Ses => decide (y.id = i)) hd, if_pos q, lastOf_no]
      · rfl
      · intro w hw e
        have hlt := hp2.1 w.id.toNat (List.mem_map.2 ⟨toS w, List.mem_map.2 ⟨w, hw, rfl⟩, rfl⟩)
        have hlt2 : z.id.toNat < w.id.toNat := hlt
        rw [e, q] at hlt2; omega
    · have hd : ¬ (fun y : Ses => decide (y.id = i)) (toS z) = true := by
        show ¬ decide ((toS z).id = i) = true
        rw [decide_eq_false (show ¬ (toS z).id = i from q)]; decide
      rw [List.find?_cons_of_neg (p := fun y : Ses => decide (y.id = i)) hd, if_neg q]; exact ih hp2.2
theorem lastOf_mem {i : UInt64} : ∀ {l : List RSes} {o : Option RSes} {x : RSes}, lastOf i l o = some x → x ∈ l ∨ o = some x := by
  intro l
  induction l with
  | nil => intro o x h; exact .inr h
  | cons z l ih =>
    intro o x h
    unfold lastOf at h
    rcases ih h with q | q
    · exact .inl (List.mem_cons_of_mem _ q)
    · split at q
      · cases q; exact .inl (List.mem_cons_self ..)
      · exact .inr q
theorem rel_lookR {k : Nat} {T : Tab} {W : RTab} {i sq : UInt64} {r : Res} {x : RSes} {ag ag2 : Bool} {cd cd2 : UInt8} (rl : Rel h k T W) (h1 : (r, ag, cd) = lookR T i sq) (h2 : (x, ag2, cd2) = rlookR W i sq) : r = x.res ∧ ag = ag2 ∧ cd = cd2 ∧ KRrow.Sl h x.sv x.rr ∧ FitRes x.res := by
  rw [look_norm, rl.2.1] at h1
  unfold lookR TS at h1
  simp only at h1
  rw [first_last rl.ids] at h1
  unfold rlookR at h2
  cases hl : lastOf i W.l none with
  | none =>
    rw [hl] at h1 h2
    cases h1; cases h2
    exact ⟨rfl, rfl, rfl, q1_zero, fitR0⟩
  | some z =>
    rw [hl] at h1 h2
    have hz := rl.2.2 z (by rcases lastOf_mem hl with q | q; exact q; cases q)
    unfold lookO at h1
    simp only [Option.map_some] at h1 h2
    by_cases c1 : sq.toNat = 0 ∨ sq.toNat < z.sq.toNat
    · rw [if_pos (show sq.toNat = 0 ∨ sq.toNat < (toS z).sq.toNat from c1)] at h1
      rw [if_pos c1] at h2
      cases h1; cases h2
      exact ⟨rfl, rfl, rfl, q1_zero, fitR0⟩
    · rw [if_neg (show ¬ (sq.toNat = 0 ∨ sq.toNat < (toS z).sq.toNat) from c1)] at h1
      rw [if_neg c1] at h2
      by_cases c2 : sq = z.sq
      · rw [if_pos (show sq = (toS z).sq from c2)] at h1
        rw [if_pos (by rw [c2])] at h2
        cases h2
        have e : decR (toS x).kp = x.res := decR_enc hz.1
        rw [e] at h1; cases h1
        exact ⟨rfl, rfl, rfl, hz.2.2.2, hz.1⟩
      · rw [if_neg (show ¬ sq = (toS z).sq from c2)] at h1
        rw [if_neg (fun q => c2 (UInt64.toNat_inj.1 q))] at h2
        cases h1; cases h2
        exact ⟨rfl, rfl, rfl, q1_zero, fitR0⟩
theorem rel_norm {k : Nat} {T : Tab} {W : RTab} (r : Rel h k T W) : Rel h k (norm T) W := ⟨inv_norm r.1, by rw [norm_norm]; exact r.2.1, r.2.2⟩
theorem rel_mono {k k2 : Nat} {T : Tab} {W : RTab} (r : Rel h k T W) (hk : k ≤ k2) : Rel h k2 T W := ⟨inv_mono r.1 hk, r.2⟩
end Go.Proofs.Ytomaijljeacpjaa.Wt
namespace Go.Proofs.Ytomaijljeacpjaa.Wt
open Go Go.Proofs.Ytomaijljeacpjaa.Am Go.Proofs.Ytomaijljeacpjaa.IrAll
open Go.Proofs.Ytomaijljeacpjaa.Am.WS renaming op → C
open Nat renaming le_of_ble_eq_true → D
open Go.Proofs.Ytomaijljeacpjaa.Am.WS renaming nil → F
open Go.Proofs.Ytomaijljeacpjaa.Am.WC renaming seq → G
open Go.Proofs.Ytomaijljeacpjaa.Am.WC renaming run → J
set_option linter.unusedVariables false
set_option linter.unusedSimpArgs false
variable {h base : H} {L : List Seg} {R : List Nat}
theorem own_at {V : Value} {l : List Rrow} {S : Seg} {k : Nat} (O : KRrow.Own V l S) (hk : k < l.length) : ∃ p, V = .slice (some ⟨p, 0, none⟩) l.length (2 * l.length) ∧ S = [(p, ⟨KRrow.flat l, 3, false⟩)] := by
  cases O with
  | nil => simp at hk
  | row p l hne => exact ⟨p, rfl, rfl⟩
theorem own_set {p j : Nat} {l : List Rrow} {y : Rrow} (hj : j < l.length) : KRrow.Own (.slice (some ⟨p, 0, none⟩) l.length (2 * l.length)) (l.set j y) [(p, ⟨KRrow.flat (l.set j y), 3, false⟩)] := by
  have := Row.Own.row (K := KRrow) p (l.set j y) (by intro q; have := congrArg List.length q; simp at this; subst this; simp at hj)
  rw [List.length_set] at this
  exact this
set_option maxRecDepth 8000 in
theorem law_SessPlays (W : Mem h h [] []) {l : List SAct} {u0 : Value} (l0 : laySl layAct 7 h l [u0]) (k0 : l.length < 9223372036854775808 ∧ ∀ a ∈ l, a.res.va.length < 9223372036854775808 ∧ a.res.rs.length < 9223372036854775808 ∧ ∀ p ∈ a.res.rs, p.ky.length < 9223372036854775808 ∧ p.va.length < 9223372036854775808) : Cll tab0 6 [u0] h (fun v _ => v = .bool true) := by
  obtain ⟨V0, e0, S0⟩ := l0
  cases e0
  obtain ⟨A0, hQ0⟩ := SlL.acts S0
  obtain ⟨Pl, nl, rfl⟩ := A0.shape
  refine Cll.code rfl rfl ?_
  refine WC.env [(0, _)] rfl ?_
  refine G (J (C rfl rfl (F [(0, _)] rfl ?_)))
  refine G (G (J (C rfl rfl ?_)))
  refine WS.call rfl rfl rfl (Great18_ran W.here (l := l) (A0.mono W.sub) (fun a ha => (hQ0 a ha).mono W.sub) k0) ?_
  rintro _ h1 ⟨g23, rfl, hg23, N2⟩
  have M3 := W.trans N2
  refine F [(0, _), (23, _)] rfl ?_
  cases hb1 : g23
  ·
   refine WC.condF rfl (WC.skip (G (J ?_)))
   have hgl := hg23 (by assumption)
   refine WS.call rfl rfl rfl (New_ran M3.here) ?_
   rintro _ h4 ⟨p6, rfl, N7⟩
   have M5 := (M3.trans N7)
   replace M5 : Mem _ _ ([] :: [(p6, _)] :: []) _ := (M5).nils
   refine C rfl rfl (F [(0, _), (3, _)] rfl ?_)
   refine G (J (WS.opV (.agg #[(.slice none 0 0), (.int .u64 (0 : Int))]) rfl rfl rfl ?_))
   refine WS.new M5 rfl ?_
   intro p8 h9 M10
   refine WS.st1 (M10.focus 0 rfl) [_, _] [_, _] rfl rfl rfl rfl rfl (D rfl) (D rfl) rfl rfl ?_
   intro h11 M12
   replace M12 : Mem _ _ ([(p8, _)] :: [] :: [(p6, _)] :: []) _ := M12
   refine F [(0, _), (3, _), (4, _)] rfl ?_
   refine G (G (J (C rfl rfl (F [(0, _), (3, _), (4, _), (5, _)] rfl ?_))))
   refine WC.block ?_
   obtain ⟨L13, eL15, M14⟩ := Mem.name4 ((((M12.bare.focus 0 rfl).focus 2 rfl)).nils.focus 3 rfl)
   refine WC.loop (σ := Nat × Value × Seg × Tab × Value × Seg × RTab × Nat) (fun ((p_, V_, S_, T_, Vw_, Sw_, W_, i)) => [(0, (.slice Pl l.length nl)), (3, (.pointer (some ⟨p_, 0, none⟩))), (4, (.pointer (some ⟨p8, 0, none⟩))), (5, (.int .i64 ((i : Nat) : Int)))]) (fun ((p_, V_, S_, T_, Vw_, Sw_, W_, i)) hh => Mem h hh (S_ :: Sw_ :: [(p_, ⟨[V_, (.int .u64 (((T_.la).toNat : Nat) : Int))], 0, false⟩)] :: [(p8, ⟨[Vw_, (.int .u64 (((W_.la).toNat : Nat) : Int))], 0, false⟩)] :: L13) [] ∧ KSes.Grow V_ (Tab.l T_) S_ ∧ HeldR Vw_ (RTab.l W_) Sw_ ∧ Rel h i T_ W_ ∧ i ≤ l.length) (fun ((p_, V_, S_, T_, Vw_, Sw_, W_, i)) => l.length - i) (p6, _, _, ⟨[], 0⟩, _, _, ⟨[], 0⟩, 0) rfl ⟨(by exact M14), ?_⟩ ?_
   · exact ⟨.nil, heldR_nil, rel_new, by omega⟩
   ·rintro ⟨p_, V_, S_, T_, Vw_, Sw_, W_, i⟩ h16 ⟨M17, ⟨hO, hW, hR, hi⟩⟩
    replace eL15 := eL15.symm; subst eL15
    refine WC.env [(0, _), (3, _), (4, _), (5, _)] rfl ?_
    obtain ⟨Pw_, nw_, rfl⟩ := (hW _ (Mem.owni M17 1 rfl)).shape
    refine G (G (J (C rfl rfl (C rfl rfl (C rfl (op_lenVS A0 rfl) ?_)))))
    refine WS.lssN (a := i) (b := (l).length) rfl rfl rfl (fun e30 => ?_) (fun e30 => ?_)
    ·
     refine F [(0, _), (3, _), (4, _), (5, _), (30, _)] rfl ?_
     refine WC.condT rfl (WC.skip (G (WC.block (G (J (C rfl rfl (C rfl rfl ?_)))))))
     obtain ⟨y35, hy35⟩ : ∃ y, (l)[i]? = some y := ⟨_, List.getElem?_eq_getElem (show i < (l).length by first | omega | (simp only [List.length_drop, List.length_take, List.length_append, List.length_cons, List.length_nil, List.length_singleton]; omega) | (simp only [List.length_drop, List.length_take, List.length_append, List.length_cons, List.length_nil, List.length_singleton] at *; omega))⟩
     refine WS.iaVS A0 i hy35 rfl rfl rfl rfl ?_
     intro b35_ o35_ ha35
     refine C rfl (op_ldAt rfl (ha35.mono M17.sub) rfl) ?_
     refine WS.new M17 rfl ?_
     intro p18 h19 M20
     refine WS.st1 (M20.focus 0 rfl) [_, _, _, _, _, _, _] [_, _, _, _, _, _, _] rfl rfl rfl rfl rfl (D rfl) (D rfl) rfl rfl ?_
     intro h21 M22
     replace M22 : Mem _ _ ([(p18, _)] :: S_ :: Sw_ :: [(p_, _)] :: [(p8, _)] :: []) _ := M22
     refine F [(0, _), (3, _), (4, _), (5, _), (6, _)] rfl ?_
     refine G (G (J ?_))
     have hA35 := hgl.2 _ (List.mem_of_getElem? hy35)
     refine C rfl rfl (C rfl (op_ld (M22.at 0 rfl) rfl rfl) (F [(0, _), (3, _), (4, _), (5, _), (6, _), (38, _)] rfl ?_))
     refine WC.block (G (J (WS.eqlN (a := (y35.d).toNat) (b := 0) rfl rfl rfl (fun e40 => ?_) (fun e40 => ?_))))
     ·
      refine C rfl rfl (F [(0, _), (3, _), (4, _), (5, _), (6, _), (38, _), (39, _)] rfl ?_)
      refine WC.condT rfl (G (J (C rfl rfl (C rfl rfl (C rfl (op_ld (M22.at 0 rfl) rfl rfl) ?_)))))
      have hro := rel_open (ttl := y35.n) hR (by omega)
      refine WS.call rfl rfl rfl (Open_ran (T := T_) (ttl := y35.n) hO ((M22.focus 3 rfl).focus 2 rfl) (by first | (have := hR.1.1; omega) | (have := hR1.1.1; omega) | (have := hR2.1.1; omega))) ?_
      rintro _ h23 ⟨V25, S26, O27, rfl, M24⟩
      replace M24 : Mem _ _ (S26 :: [(p_, _)] :: [(p18, _)] :: Sw_ :: [(p8, _)] :: []) _ := M24
      refine C rfl rfl (C rfl rfl (C rfl rfl (C rfl rfl (C rfl rfl (F [(0, _), (3, _), (4, _), (5, _), (6, _), (7, _), (8, _)] rfl ?_)))))
      refine G (J (C rfl (op_lds [_, _] (M24.at 4 rfl) rfl (D rfl) rfl) (C rfl rfl (C rfl (op_ld (M24.at 2 rfl) rfl rfl) ?_))))
      refine WS.call rfl rfl rfl (refOpen_ran (T := W_) hW (M24.focus 3 rfl)  (by have := hR.len; omega)) ?_
      rintro _ h28 ⟨V30, S31, O32, rfl, M29⟩
      obtain ⟨P33, n34, rfl⟩ := (O32 _ (Mem.owni M29 0 rfl)).shape
      replace M29 : Mem _ _ (S31 :: S26 :: [(p_, _)] :: [(p18, _)] :: [(p8, _)] :: []) _ := M29
      refine C rfl rfl (C rfl rfl (C rfl rfl (C rfl rfl ?_)))
      refine WS.new M29 rfl ?_
      intro p35 h36 M37
      refine WS.st1 (M37.focus 0 rfl) [_, _] [_, _] rfl rfl rfl rfl rfl (D rfl) (D rfl) rfl rfl ?_
      intro h38 M39
      replace M39 : Mem _ _ ([(p35, _)] :: S31 :: S26 :: [(p_, _)] :: [(p18, _)] :: [(p8, _)] :: []) _ := M39
      refine C rfl rfl (C rfl rfl (F [(0, _), (3, _), (4, _), (5, _), (7, _), (8, _), (9, _), (10, _), (11, _)] rfl ?_))
      refine G (J (C rfl (op_lds [_, _] (M39.at 0 rfl) rfl (D rfl) rfl) ?_))
      refine WS.st1 (M39.focus 5 rfl) [_, _] [_, _] rfl rfl rfl rfl rfl (D rfl) (D rfl) rfl rfl ?_
      intro h40 M41
      replace M41 : Mem _ _ ([(p8, _)] :: [(p35, _)] :: S31 :: S26 :: [(p_, _)] :: [(p18, _)] :: []) _ := M41
      refine F [(0, _), (3, _), (4, _), (5, _), (7, _), (8, _), (10, _), (11, _)] rfl ?_
      refine G (J (C rfl rfl (C rfl rfl ?_)))
      refine WS.neqN (a := ((openT T_ y35.n).2.1).toNat) (b := ((ropenT W_ y35.n).2.1).toNat) rfl rfl rfl (fun e59 => ?_) (fun e59 => ?_)
      ·
       exact absurd (by rw [hro.2]) e59
      ·
       refine C rfl rfl (C rfl rfl (C rfl rfl ?_))
       refine WS.neqN (a := ((openT T_ y35.n).2.2).toNat) (b := ((ropenT W_ y35.n).2.2).toNat) rfl rfl rfl (fun e63 => ?_) (fun e63 => ?_)
       ·
        exact absurd (by rw [hro.2]) e63
       ·
        refine C rfl rfl (F [(0, _), (3, _), (4, _), (5, _), (64, _)] rfl ?_)
        refine WC.condF rfl (WC.skip (G (WC.draw M41 [] rfl ?_)))
        intro rb42 h43 M44
        refine C rfl rfl (C rfl rfl (C rfl (op_ld (M44.at 0 rfl) rfl rfl) (C rfl (op_lenVS (O32 _ (Mem.owni M44 2 rfl)) rfl) ?_)))
        refine WS.call rfl rfl rfl (Len_ran (T := ((openT T_ y35.n).1)) O27 ((M44.focus 4 rfl).focus 4 rfl)) ?_
        rintro _ h45 ⟨rfl, M46⟩
        replace M46 : Mem _ _ (S26 :: [(p_, _)] :: [(p8, _)] :: [(p35, _)] :: S31 :: [(p18, _)] :: []) _ := M46
        refine WS.chk rfl (op_ld (M46.at 2 rfl) rfl rfl) rfl same_sl ?_
        refine WS.neqN (a := ((openT T_ y35.n).1).l.length) (b := ((ropenT W_ y35.n).1.l).length) rfl rfl rfl (fun e159 => ?_) (fun e159 => ?_)
        ·
         exact absurd (by first | exact hro.1.len.1 | exact hrk.len.1 | exact (rel_look hR).len.1 | exact (rel_tick hR).len.1 | exact (rel_norm hR).len.1 | exact hR.len.1) e159
        ·
         refine F [(0, _), (3, _), (4, _), (5, _), (159, _)] rfl ?_
         refine WC.condF rfl (WC.skip (J (C rfl rfl (WS.opV (.int .i64 (((i + 1) : Nat) : Int)) rfl rfl (add_i64 (a := i) (b := 1) (by omega)) (C rfl rfl (F [(0, _), (3, _), (4, _), (5, _)] rfl ?_))))))
         refine ⟨(p_, V25, S26, _, (.slice P33 (ropenT W_ y35.n).1.l.length n34), S31, _, i + 1), rfl, ⟨(((((M46.bare.bare.focus 2 rfl).focus 2 rfl).focus 4 rfl).focus 3 rfl).take 4), ?_⟩, ?_⟩
         · exact ⟨O27, O32, hro.1, by omega⟩
         · simp only []; omega
     ·
      refine C rfl rfl (F [(0, _), (3, _), (4, _), (5, _), (6, _), (38, _), (39, _)] rfl ?_)
      refine WC.condF rfl (G (J (WS.eqlN (a := (y35.d).toNat) (b := 1) rfl rfl rfl (fun e66 => ?_) (fun e66 => ?_))))
      ·
       refine C rfl rfl (F [(0, _), (3, _), (4, _), (5, _), (6, _), (38, _), (65, _)] rfl ?_)
       refine WC.condT rfl (G (J (C rfl rfl (C rfl rfl (C rfl (op_ld (M22.at 0 rfl) rfl rfl) (C rfl rfl (C rfl (op_ld (M22.at 0 rfl) rfl rfl) ?_)))))))
       refine WS.call rfl rfl rfl (Look_ran (T := T_) (i := y35.id) (sq := y35.n) hO ((M22.focus 3 rfl).focus 2 rfl) (by first | (have := hR.1.1; omega) | (have := hR1.1.1; omega) | (have := hR2.1.1; omega)) (by first | exact inv_kp hR.1 | exact inv_kp hR2.1)) ?_
       rintro _ h47 ⟨V49, S50, T73, r73, V52, S53, ag73, cd73, O51, O54, rfl, hF73, hL73, M48⟩
       obtain ⟨P55, rfl⟩ := O54.shape
       obtain ⟨eT73, eR73⟩ := look_eq hF73 hL73
       subst eT73
       replace M48 : Mem _ _ (S50 :: S53 :: [(p_, _)] :: [(p18, _)] :: Sw_ :: [(p8, _)] :: []) _ := M48
       refine C rfl rfl (C rfl rfl (C rfl rfl (C rfl rfl ?_)))
       refine WS.new M48 rfl ?_
       intro p56 h57 M58
       refine WS.st1 (M58.focus 0 rfl) [_, _, _, _] [_, _, _, _] rfl rfl rfl rfl rfl (D rfl) (D rfl) rfl rfl ?_
       intro h59 M60
       replace M60 : Mem _ _ ([(p56, _)] :: S50 :: S53 :: [(p_, _)] :: [(p18, _)] :: Sw_ :: [(p8, _)] :: []) _ := M60
       refine C rfl rfl (C rfl rfl (F [(0, _), (3, _), (4, _), (5, _), (6, _), (12, _), (13, _), (14, _)] rfl ?_))
       refine G (J (C rfl (op_lds [_, _] (M60.at 6 rfl) rfl (D rfl) rfl) (C rfl rfl (C rfl (op_ld (M60.at 4 rfl) rfl rfl) (C rfl rfl (C rfl (op_ld (M60.at 4 rfl) rfl rfl) ?_))))))
       refine WS.call rfl rfl rfl (refLook_ran (T := W_) hW (M60.focus 5 rfl)  (by have := hR.len; omega)) ?_
       rintro _ h61 ⟨V63, S64, x83, ag83, cd83, O65, eX83, rfl, M62⟩
       obtain ⟨P66, n67, rfl⟩ := (O65 _ (Mem.owni M62 0 rfl)).shape
       replace M62 : Mem _ _ (S64 :: [(p56, _)] :: S50 :: S53 :: [(p_, _)] :: [(p18, _)] :: [(p8, _)] :: []) _ := M62
       obtain ⟨hs1, hs2, hs3, hX83, hFX⟩ := rel_lookR hR eR73 eX83
       subst hs2 hs3
       refine C rfl rfl (C rfl rfl (C rfl rfl (C rfl rfl (C rfl rfl ?_))))
       refine WS.new M62 rfl ?_
       intro p68 h69 M70
       refine WS.new M70 rfl ?_
       intro p71 h72 M73
       refine WS.st1 (M73.focus 1 rfl) [_, _] [_, _] rfl rfl rfl rfl rfl (D rfl) (D rfl) rfl rfl ?_
       intro h74 M75
       replace M75 : Mem _ _ ([(p68, _)] :: [(p71, _)] :: S64 :: [(p56, _)] :: S50 :: S53 :: [(p_, _)] :: [(p18, _)] :: [(p8, _)] :: []) _ := M75
       refine WS.st1 (M75.focus 1 rfl) [_, _, _, _] [_, _, _, _] rfl rfl rfl rfl rfl (D rfl) (D rfl) rfl rfl ?_
       intro h76 M77
       replace M77 : Mem _ _ ([(p71, _)] :: [(p68, _)] :: S64 :: [(p56, _)] :: S50 :: S53 :: [(p_, _)] :: [(p18, _)] :: [(p8, _)] :: []) _ := M77
       refine C rfl rfl (C rfl rfl (F [(0, _), (3, _), (4, _), (5, _), (12, _), (13, _), (14, _), (15, _), (16, _), (17, _), (18, _)] rfl ?_))
       refine G (J (C rfl (op_lds [_, _] (M77.at 1 rfl) rfl (D rfl) rfl) ?_))
       refine WS.st1 (M77.focus 8 rfl) [_, _] [_, _] rfl rfl rfl rfl rfl (D rfl) (D rfl) rfl rfl ?_
       intro h78 M79
       replace M79 : Mem _ _ ([(p8, _)] :: [(p71, _)] :: [(p68, _)] :: S64 :: [(p56, _)] :: S50 :: S53 :: [(p_, _)] :: [(p18, _)] :: []) _ := M79
       refine F [(0, _), (3, _), (4, _), (5, _), (12, _), (13, _), (14, _), (16, _), (17, _), (18, _)] rfl ?_
       refine G (G (J (C rfl (op_lds [_, _, _, _] (M79.at 4 rfl) rfl (D rfl) rfl) (C rfl (op_lds [_, _, _, _] (M79.at 1 rfl) rfl (D rfl) rfl) ?_))))
       refine WS.call rfl rfl rfl (SameR_ran M79.here (a := r73) (b := (⟨x83.rc, x83.rn, x83.rv, x83.rr⟩ : Res)) (Row.Own.sl O54 (Mem.owni M79 6 rfl)) (hX83.mono M79.sub) (by have := hF73.2.1; omega)) ?_
       rintro _ h80 ⟨rfl, N81⟩
       have M82 := M79.trans N81
       cases hb2 : (decide (r73 = (⟨x83.rc, x83.rn, x83.rv, x83.rr⟩ : Res)))
       ·
        exact absurd (decide_eq_true (show r73 = (⟨x83.rc, x83.rn, x83.rv, x83.rr⟩ : Res) from hs1)) (by rw [hb2]; decide)
       ·
        refine WS.opV (.bool false) rfl rfl rfl (C rfl rfl (C rfl rfl (C rfl rfl ?_)))
        cases hb3 : ag73
        ·
         refine WS.opV (.bool false) rfl rfl rfl (C rfl rfl (C rfl rfl (C rfl rfl (C rfl rfl ?_))))
         refine WS.neqN (a := (cd73).toNat) (b := (cd73).toNat) rfl rfl rfl (fun e101 => ?_) (fun e101 => ?_)
         ·
          exact absurd rfl e101
         ·
          refine C rfl rfl (F [(0, _), (3, _), (4, _), (5, _), (12, _), (102, _)] rfl ?_)
          refine WC.condF rfl (WC.skip (G (J (C rfl rfl (F [(0, _), (3, _), (4, _), (5, _), (12, _), (19, _)] rfl ?_)))))
          refine WC.block ?_
          obtain ⟨L83, eL85, M84⟩ := Mem.name2 ((M82.bare.focus 4 rfl).focus 6 rfl)
          refine WC.loop (σ := Value × Seg × List Rrow × Nat) (fun ((Vr_, Sr_, q_, k)) => [(0, (.slice Pl l.length nl)), (3, (.pointer (some ⟨p_, 0, none⟩))), (4, (.pointer (some ⟨p8, 0, none⟩))), (5, (.int .i64 ((i : Nat) : Int))), (12, (.pointer (some ⟨p56, 0, none⟩))), (19, (.int .i64 ((k : Nat) : Int)))]) (fun ((Vr_, Sr_, q_, k)) hh => Mem h hh (Sr_ :: [(p56, ⟨[(.int .u8 (((r73.cd).toNat : Nat) : Int)), (.int .u64 (((r73.n).toNat : Nat) : Int)), (.string (bs r73.va)), Vr_], 0, false⟩)] :: L83) [] ∧ KRrow.Own Vr_ q_ Sr_ ∧ k ≤ q_.length ∧ q_.length ≤ 1000000) (fun ((Vr_, Sr_, q_, k)) => q_.length - k) (_, _, r73.rs, 0) rfl ⟨(by exact M84), ?_⟩ ?_
          · exact ⟨by assumption, by omega, by have := hF73.2.1; omega⟩
          ·rintro ⟨Vr_, Sr_, q_, k⟩ h86 ⟨M87, ⟨hq, hk, hq6⟩⟩
           replace eL85 := eL85.symm; subst eL85
           refine WC.env [(0, _), (3, _), (4, _), (5, _), (12, _), (19, _)] rfl ?_
           refine G (G (J (C rfl rfl (C rfl rfl (C rfl (op_ld (M87.at 1 rfl) rfl rfl) (C rfl (op_lenVO hq rfl) ?_))))))
           refine WS.lssN (a := k) (b := (q_).length) rfl rfl rfl (fun e107 => ?_) (fun e107 => ?_)
           ·
            refine F [(0, _), (3, _), (4, _), (5, _), (12, _), (19, _), (107, _)] rfl ?_
            refine WC.condT rfl (WC.skip (G (WC.block (J (C rfl rfl (C rfl (op_ld (M87.at 1 rfl) rfl rfl) (C rfl rfl ?_)))))))
            obtain ⟨pq, rfl, rfl⟩ := own_at hq (show k < q_.length by omega)
            obtain ⟨y113, hy113⟩ : ∃ y, q_[k]? = some y := ⟨_, List.getElem?_eq_getElem (show k < q_.length by omega)⟩
            refine C rfl (op_iaV2 k rfl rfl (by omega)) (C rfl rfl ?_)
            refine WS.stE (K := KRrow) (y' := { y113 with ky := ([116, 117, 114, 110, 101, 100]) }) (M87.focus 0 rfl) hy113 (by decide) rfl rfl rfl rfl rfl rfl ?_
            intro h88 M89
            replace M89 : Mem _ _ ([(pq, _)] :: [(p56, _)] :: [(p8, _)] :: [(p71, _)] :: [(p68, _)] :: S64 :: S50 :: [(p_, _)] :: [(p18, _)] :: []) _ := M89
            have hye90 : (q_.set k { y113 with ky := ([116, 117, 114, 110, 101, 100]) })[k]? = some ({ y113 with ky := ([116, 117, 114, 110, 101, 100]) } : Rrow) := List.getElem?_set_self (List.getElem?_eq_some_iff.1 hy113).1
            refine F [(0, _), (3, _), (4, _), (5, _), (12, _), (19, _)] rfl ?_
            refine J (C rfl rfl (WS.opV (.int .i64 (((k + 1) : Nat) : Int)) rfl rfl (add_i64 (a := k) (b := 1) (by omega)) (C rfl rfl (F [(0, _), (3, _), (4, _), (5, _), (12, _), (19, _)] rfl ?_))))
            refine ⟨(.slice (some ⟨pq, 0, none⟩) q_.length (2 * q_.length), _, q_.set k ⟨[116, 117, 114, 110, 101, 100], y113.va, y113.vn⟩, k + 1), rfl, ⟨((((((((((M89.bare.focus 8 rfl).focus 8 rfl).focus 8 rfl).focus 8 rfl).focus 8 rfl).focus 8 rfl).focus 8 rfl).focus 8 rfl).focus 8 rfl).take 9), ?_⟩, ?_⟩
            · exact ⟨own_set (by omega), by rw [List.length_set]; omega, by rw [List.length_set]; exact hq6⟩
            · simp only [List.length_set]; omega
           ·
            refine F [(0, _), (3, _), (4, _), (5, _), (12, _), (19, _), (107, _)] rfl ?_
            refine WC.condF rfl (WC.exit ?_)
            refine G (WC.draw M87 [] rfl ?_)
            intro rb91 h92 M93
            refine C rfl rfl (C rfl rfl (C rfl (op_ld (M93.at 2 rfl) rfl rfl) (C rfl (op_lenVS (O65 _ (Mem.owni M93 5 rfl)) rfl) ?_)))
            refine WS.call rfl rfl rfl (Len_ran (T := (lookT T_ y35.id)) O51 ((M93.focus 7 rfl).focus 7 rfl)) ?_
            rintro _ h94 ⟨rfl, M95⟩
            replace M95 : Mem _ _ (S50 :: [(p_, _)] :: Sr_ :: [(p56, _)] :: [(p8, _)] :: [(p71, _)] :: [(p68, _)] :: S64 :: [(p18, _)] :: []) _ := M95
            refine WS.chk rfl (op_ld (M95.at 4 rfl) rfl rfl) rfl same_sl ?_
            refine WS.neqN (a := (lookT T_ y35.id).l.length) (b := ((rlookT W_ y35.id).l).length) rfl rfl rfl (fun e159 => ?_) (fun e159 => ?_)
            ·
             exact absurd (by first | exact hro.1.len.1 | exact hrk.len.1 | exact (rel_look hR).len.1 | exact (rel_tick hR).len.1 | exact (rel_norm hR).len.1 | exact hR.len.1) e159
            ·
             refine F [(0, _), (3, _), (4, _), (5, _), (159, _)] rfl ?_
             refine WC.condF rfl (WC.skip (J (C rfl rfl (WS.opV (.int .i64 (((i + 1) : Nat) : Int)) rfl rfl (add_i64 (a := i) (b := 1) (by omega)) (C rfl rfl (F [(0, _), (3, _), (4, _), (5, _)] rfl ?_))))))
             refine ⟨(p_, V49, S50, _, (.slice P66 (rlookT W_ y35.id).l.length n67), S64, _, i + 1), rfl, ⟨(((((M95.bare.bare.focus 4 rfl).focus 2 rfl).focus 7 rfl).focus 3 rfl).take 4), ?_⟩, ?_⟩
             · exact ⟨O51, O65, rel_mono (rel_look hR) (by omega), by omega⟩
             · simp only []; omega
        ·
         refine WS.opV (.bool false) rfl rfl rfl (C rfl rfl (C rfl rfl (C rfl rfl (C rfl rfl ?_))))
         refine WS.neqN (a := (cd73).toNat) (b := (cd73).toNat) rfl rfl rfl (fun e101 => ?_) (fun e101 => ?_)
         ·
          exact absurd rfl e101
         ·
          refine C rfl rfl (F [(0, _), (3, _), (4, _), (5, _), (12, _), (102, _)] rfl ?_)
          refine WC.condF rfl (WC.skip (G (J (C rfl rfl (F [(0, _), (3, _), (4, _), (5, _), (12, _), (19, _)] rfl ?_)))))
          refine WC.block ?_
          obtain ⟨L96, eL98, M97⟩ := Mem.name2 ((M82.bare.focus 4 rfl).focus 6 rfl)
          refine WC.loop (σ := Value × Seg × List Rrow × Nat) (fun ((Vr_, Sr_, q_, k)) => [(0, (.slice Pl l.length nl)), (3, (.pointer (some ⟨p_, 0, none⟩))), (4, (.pointer (some ⟨p8, 0, none⟩))), (5, (.int .i64 ((i : Nat) : Int))), (12, (.pointer (some ⟨p56, 0, none⟩))), (19, (.int .i64 ((k : Nat) : Int)))]) (fun ((Vr_, Sr_, q_, k)) hh => Mem h hh (Sr_ :: [(p56, ⟨[(.int .u8 (((r73.cd).toNat : Nat) : Int)), (.int .u64 (((r73.n).toNat : Nat) : Int)), (.string (bs r73.va)), Vr_], 0, false⟩)] :: L96) [] ∧ KRrow.Own Vr_ q_ Sr_ ∧ k ≤ q_.length ∧ q_.length ≤ 1000000) (fun ((Vr_, Sr_, q_, k)) => q_.length - k) (_, _, r73.rs, 0) rfl ⟨(by exact M97), ?_⟩ ?_
          · exact ⟨by assumption, by omega, by have := hF73.2.1; omega⟩
          ·rintro ⟨Vr_, Sr_, q_, k⟩ h99 ⟨M100, ⟨hq, hk, hq6⟩⟩
           replace eL98 := eL98.symm; subst eL98
           refine WC.env [(0, _), (3, _), (4, _), (5, _), (12, _), (19, _)] rfl ?_
           refine G (G (J (C rfl rfl (C rfl rfl (C rfl (op_ld (M100.at 1 rfl) rfl rfl) (C rfl (op_lenVO hq rfl) ?_))))))
           refine WS.lssN (a := k) (b := (q_).length) rfl rfl rfl (fun e107 => ?_) (fun e107 => ?_)
           ·
            refine F [(0, _), (3, _), (4, _), (5, _), (12, _), (19, _), (107, _)] rfl ?_
            refine WC.condT rfl (WC.skip (G (WC.block (J (C rfl rfl (C rfl (op_ld (M100.at 1 rfl) rfl rfl) (C rfl rfl ?_)))))))
            obtain ⟨pq, rfl, rfl⟩ := own_at hq (show k < q_.length by omega)
            obtain ⟨y113, hy113⟩ : ∃ y, q_[k]? = some y := ⟨_, List.getElem?_eq_getElem (show k < q_.length by omega)⟩
            refine C rfl (op_iaV2 k rfl rfl (by omega)) (C rfl rfl ?_)
            refine WS.stE (K := KRrow) (y' := { y113 with ky := ([116, 117, 114, 110, 101, 100]) }) (M100.focus 0 rfl) hy113 (by decide) rfl rfl rfl rfl rfl rfl ?_
            intro h101 M102
            replace M102 : Mem _ _ ([(pq, _)] :: [(p56, _)] :: [(p8, _)] :: [(p71, _)] :: [(p68, _)] :: S64 :: S50 :: [(p_, _)] :: [(p18, _)] :: []) _ := M102
            have hye103 : (q_.set k { y113 with ky := ([116, 117, 114, 110, 101, 100]) })[k]? = some ({ y113 with ky := ([116, 117, 114, 110, 101, 100]) } : Rrow) := List.getElem?_set_self (List.getElem?_eq_some_iff.1 hy113).1
            refine F [(0, _), (3, _), (4, _), (5, _), (12, _), (19, _)] rfl ?_
            refine J (C rfl rfl (WS.opV (.int .i64 (((k + 1) : Nat) : Int)) rfl rfl (add_i64 (a := k) (b := 1) (by omega)) (C rfl rfl (F [(0, _), (3, _), (4, _), (5, _), (12, _), (19, _)] rfl ?_))))
            refine ⟨(.slice (some ⟨pq, 0, none⟩) q_.length (2 * q_.length), _, q_.set k ⟨[116, 117, 114, 110, 101, 100], y113.va, y113.vn⟩, k + 1), rfl, ⟨((((((((((M102.bare.focus 8 rfl).focus 8 rfl).focus 8 rfl).focus 8 rfl).focus 8 rfl).focus 8 rfl).focus 8 rfl).focus 8 rfl).focus 8 rfl).take 9), ?_⟩, ?_⟩
            · exact ⟨own_set (by omega), by rw [List.length_set]; omega, by rw [List.length_set]; exact hq6⟩
            · simp only [List.length_set]; omega
           ·
            refine F [(0, _), (3, _), (4, _), (5, _), (12, _), (19, _), (107, _)] rfl ?_
            refine WC.condF rfl (WC.exit ?_)
            refine G (WC.draw M100 [] rfl ?_)
            intro rb104 h105 M106
            refine C rfl rfl (C rfl rfl (C rfl (op_ld (M106.at 2 rfl) rfl rfl) (C rfl (op_lenVS (O65 _ (Mem.owni M106 5 rfl)) rfl) ?_)))
            refine WS.call rfl rfl rfl (Len_ran (T := (lookT T_ y35.id)) O51 ((M106.focus 7 rfl).focus 7 rfl)) ?_
            rintro _ h107 ⟨rfl, M108⟩
            replace M108 : Mem _ _ (S50 :: [(p_, _)] :: Sr_ :: [(p56, _)] :: [(p8, _)] :: [(p71, _)] :: [(p68, _)] :: S64 :: [(p18, _)] :: []) _ := M108
            refine WS.chk rfl (op_ld (M108.at 4 rfl) rfl rfl) rfl same_sl ?_
            refine WS.neqN (a := (lookT T_ y35.id).l.length) (b := ((rlookT W_ y35.id).l).length) rfl rfl rfl (fun e159 => ?_) (fun e159 => ?_)
            ·
             exact absurd (by first | exact hro.1.len.1 | exact hrk.len.1 | exact (rel_look hR).len.1 | exact (rel_tick hR).len.1 | exact (rel_norm hR).len.1 | exact hR.len.1) e159
            ·
             refine F [(0, _), (3, _), (4, _), (5, _), (159, _)] rfl ?_
             refine WC.condF rfl (WC.skip (J (C rfl rfl (WS.opV (.int .i64 (((i + 1) : Nat) : Int)) rfl rfl (add_i64 (a := i) (b := 1) (by omega)) (C rfl rfl (F [(0, _), (3, _), (4, _), (5, _)] rfl ?_))))))
             refine ⟨(p_, V49, S50, _, (.slice P66 (rlookT W_ y35.id).l.length n67), S64, _, i + 1), rfl, ⟨(((((M108.bare.bare.focus 4 rfl).focus 2 rfl).focus 7 rfl).focus 3 rfl).take 4), ?_⟩, ?_⟩
             · exact ⟨O51, O65, rel_mono (rel_look hR) (by omega), by omega⟩
             · simp only []; omega
      ·
       refine C rfl rfl (F [(0, _), (3, _), (4, _), (5, _), (6, _), (38, _), (65, _)] rfl ?_)
       refine WC.condF rfl (G (J (WS.eqlN (a := (y35.d).toNat) (b := 2) rfl rfl rfl (fun e116 => ?_) (fun e116 => ?_))))
       ·
        refine C rfl rfl (F [(0, _), (3, _), (4, _), (5, _), (6, _), (38, _), (115, _)] rfl ?_)
        refine WC.condT rfl (G (J (C rfl rfl (C rfl rfl (C rfl (op_ld (M22.at 0 rfl) rfl rfl) (C rfl rfl (C rfl (op_ld (M22.at 0 rfl) rfl rfl) (C rfl rfl (C rfl (op_lds [_, _, _, _] (M22.at 0 rfl) rfl (D rfl) rfl) ?_)))))))))
        refine WS.call rfl rfl rfl (Keep_ran (T := T_) (i := y35.id) (sq := y35.n) (r := (⟨y35.rc, y35.rn, y35.rv, y35.rr⟩ : Res)) hO ((M22.focus 3 rfl).focus 2 rfl) (hQ0 _ (List.mem_of_getElem? hy35)) (by exact hA35.1) (by first | (have := hR.1.1; omega) | (have := hR1.1.1; omega) | (have := hR2.1.1; omega))) ?_
        rintro _ h109 ⟨V111, S112, O113, rfl, M110⟩
        replace M110 : Mem _ _ (S112 :: [(p_, _)] :: [(p18, _)] :: Sw_ :: [(p8, _)] :: []) _ := M110
        refine F [(0, _), (3, _), (4, _), (5, _), (6, _)] rfl ?_
        refine J (C rfl (op_lds [_, _] (M110.at 4 rfl) rfl (D rfl) rfl) (C rfl rfl (C rfl (op_ld (M110.at 2 rfl) rfl rfl) (C rfl rfl (C rfl (op_ld (M110.at 2 rfl) rfl rfl) (C rfl rfl (C rfl (op_lds [_, _, _, _] (M110.at 2 rfl) rfl (D rfl) rfl) ?_)))))))
        refine WS.call rfl rfl rfl (refKeep_ran (T := W_) hW (M110.focus 3 rfl) (r := (⟨y35.rc, y35.rn, y35.rv, y35.rr⟩ : Res)) (hQ0 _ (List.mem_of_getElem? hy35)) (by have := hR.len; omega)) ?_
        rintro _ h114 ⟨V116, S117, x132, O118, hx132, hs132, rfl, M115⟩
        obtain ⟨P119, n120, rfl⟩ := (O118 _ (Mem.owni M115 0 rfl)).shape
        replace M115 : Mem _ _ (S117 :: S112 :: [(p_, _)] :: [(p18, _)] :: [(p8, _)] :: []) _ := M115
        have hrk := rel_mono (rel_keep (i := y35.id) (sq := y35.n) hR hA35.1 hA35.2.1 hx132 (by rw [hs132]; exact hQ0 _ (List.mem_of_getElem? hy35))) (show i ≤ i + 1 by omega)
        refine WS.st1 (M115.focus 4 rfl) [_, _] [_, _] rfl rfl rfl rfl rfl (D rfl) (D rfl) rfl rfl ?_
        intro h121 M122
        replace M122 : Mem _ _ ([(p8, _)] :: S117 :: S112 :: [(p_, _)] :: [(p18, _)] :: []) _ := M122
        refine F [(0, _), (3, _), (4, _), (5, _)] rfl ?_
        refine G (WC.draw M122 [] rfl ?_)
        intro rb123 h124 M125
        refine C rfl rfl (C rfl rfl (C rfl (op_ld (M125.at 0 rfl) rfl rfl) (C rfl (op_lenVS (O118 _ (Mem.owni M125 1 rfl)) rfl) ?_)))
        refine WS.call rfl rfl rfl (Len_ran (T := (keepT T_ y35.id y35.n (encR (⟨y35.rc, y35.rn, y35.rv, y35.rr⟩ : Res)))) O113 ((M125.focus 3 rfl).focus 3 rfl)) ?_
        rintro _ h126 ⟨rfl, M127⟩
        replace M127 : Mem _ _ (S112 :: [(p_, _)] :: [(p8, _)] :: S117 :: [(p18, _)] :: []) _ := M127
        refine WS.chk rfl (op_ld (M127.at 2 rfl) rfl rfl) rfl same_sl ?_
        refine WS.neqN (a := (keepT T_ y35.id y35.n (encR (⟨y35.rc, y35.rn, y35.rv, y35.rr⟩ : Res))).l.length) (b := ((rkeepT W_ y35.id y35.n x132).l).length) rfl rfl rfl (fun e159 => ?_) (fun e159 => ?_)
        ·
         exact absurd (by first | exact hro.1.len.1 | exact hrk.len.1 | exact (rel_look hR).len.1 | exact (rel_tick hR).len.1 | exact (rel_norm hR).len.1 | exact hR.len.1) e159
        ·
         refine F [(0, _), (3, _), (4, _), (5, _), (159, _)] rfl ?_
         refine WC.condF rfl (WC.skip (J (C rfl rfl (WS.opV (.int .i64 (((i + 1) : Nat) : Int)) rfl rfl (add_i64 (a := i) (b := 1) (by omega)) (C rfl rfl (F [(0, _), (3, _), (4, _), (5, _)] rfl ?_))))))
         refine ⟨(p_, V111, S112, _, (.slice P119 (rkeepT W_ y35.id y35.n x132).l.length n120), S117, _, i + 1), rfl, ⟨(((((M127.bare.bare.focus 2 rfl).focus 2 rfl).focus 3 rfl).focus 3 rfl).take 4), ?_⟩, ?_⟩
         · exact ⟨O113, O118, hrk, by omega⟩
         · simp only []; omega
       ·
        refine C rfl rfl (F [(0, _), (3, _), (4, _), (5, _), (6, _), (38, _), (115, _)] rfl ?_)
        refine WC.condF rfl (G (J (WS.eqlN (a := (y35.d).toNat) (b := 3) rfl rfl rfl (fun e134 => ?_) (fun e134 => ?_))))
        ·
         refine C rfl rfl (F [(0, _), (3, _), (4, _), (5, _), (38, _), (133, _)] rfl ?_)
         refine WC.condT rfl (G (J (C rfl rfl ?_)))
         refine WS.call rfl rfl rfl (Tick_ran (T := T_)  hO ((M22.focus 3 rfl).focus 2 rfl) (by first | (have := hR.1.1; omega) | (have := hR1.1.1; omega) | (have := hR2.1.1; omega))) ?_
         rintro _ h128 ⟨V130, S131, O132, rfl, M129⟩
         replace M129 : Mem _ _ (S131 :: [(p_, _)] :: [(p18, _)] :: Sw_ :: [(p8, _)] :: []) _ := M129
         refine F [(0, _), (3, _), (4, _), (5, _)] rfl ?_
         refine J (C rfl (op_lds [_, _] (M129.at 4 rfl) rfl (D rfl) rfl) ?_)
         refine WS.call rfl rfl rfl (refTick_ran (T := W_) hW (M129.focus 3 rfl)  (by have := hR.len; omega)) ?_
         rintro _ h133 ⟨V135, S136, O137, rfl, M134⟩
         obtain ⟨P138, n139, rfl⟩ := (O137 _ (Mem.owni M134 0 rfl)).shape
         replace M134 : Mem _ _ (S136 :: S131 :: [(p_, _)] :: [(p18, _)] :: [(p8, _)] :: []) _ := M134
         refine WS.st1 (M134.focus 4 rfl) [_, _] [_, _] rfl rfl rfl rfl rfl (D rfl) (D rfl) rfl rfl ?_
         intro h140 M141
         replace M141 : Mem _ _ ([(p8, _)] :: S136 :: S131 :: [(p_, _)] :: [(p18, _)] :: []) _ := M141
         refine F [(0, _), (3, _), (4, _), (5, _)] rfl ?_
         refine G (WC.draw M141 [] rfl ?_)
         intro rb142 h143 M144
         refine C rfl rfl (C rfl rfl (C rfl (op_ld (M144.at 0 rfl) rfl rfl) (C rfl (op_lenVS (O137 _ (Mem.owni M144 1 rfl)) rfl) ?_)))
         refine WS.call rfl rfl rfl (Len_ran (T := (tickT T_)) O132 ((M144.focus 3 rfl).focus 3 rfl)) ?_
         rintro _ h145 ⟨rfl, M146⟩
         replace M146 : Mem _ _ (S131 :: [(p_, _)] :: [(p8, _)] :: S136 :: [(p18, _)] :: []) _ := M146
         refine WS.chk rfl (op_ld (M146.at 2 rfl) rfl rfl) rfl same_sl ?_
         refine WS.neqN (a := (tickT T_).l.length) (b := ((rtickT W_).l).length) rfl rfl rfl (fun e159 => ?_) (fun e159 => ?_)
         ·
          exact absurd (by first | exact hro.1.len.1 | exact hrk.len.1 | exact (rel_look hR).len.1 | exact (rel_tick hR).len.1 | exact (rel_norm hR).len.1 | exact hR.len.1) e159
         ·
          refine F [(0, _), (3, _), (4, _), (5, _), (159, _)] rfl ?_
          refine WC.condF rfl (WC.skip (J (C rfl rfl (WS.opV (.int .i64 (((i + 1) : Nat) : Int)) rfl rfl (add_i64 (a := i) (b := 1) (by omega)) (C rfl rfl (F [(0, _), (3, _), (4, _), (5, _)] rfl ?_))))))
          refine ⟨(p_, V130, S131, _, (.slice P138 (rtickT W_).l.length n139), S136, _, i + 1), rfl, ⟨(((((M146.bare.bare.focus 2 rfl).focus 2 rfl).focus 3 rfl).focus 3 rfl).take 4), ?_⟩, ?_⟩
          · exact ⟨O132, O137, rel_mono (rel_tick hR) (by omega), by omega⟩
          · simp only []; omega
        ·
         refine C rfl rfl (F [(0, _), (3, _), (4, _), (5, _), (38, _), (133, _)] rfl ?_)
         refine WC.condF rfl (G (J (WS.eqlN (a := (y35.d).toNat) (b := 4) rfl rfl rfl (fun e140 => ?_) (fun e140 => ?_))))
         ·
          refine C rfl rfl (F [(0, _), (3, _), (4, _), (5, _), (139, _)] rfl ?_)
          refine WC.condT rfl (G (J (C rfl rfl ?_)))
          refine WS.call rfl rfl rfl (Write_ran (T := T_) hO ((M22.focus 3 rfl).focus 2 rfl) (by first | (have := hR.1.1; omega) | (have := hR1.1.1; omega) | (have := hR2.1.1; omega)) (by first | exact inv_kp hR.1 | exact inv_kp hR2.1)) ?_
          rintro _ h147 ⟨rfl, M148⟩
          replace M148 : Mem _ _ (S_ :: [(p_, _)] :: [(p18, _)] :: Sw_ :: [(p8, _)] :: []) _ := M148
          refine WS.call rfl rfl rfl (ReadT_ran M148.here (s := (encT T_)) (by exact encT_len hR.1)) ?_
          rintro _ h149 (⟨p152, V153, S154, T144, rfl, O155, hG144, hE144, hU144, hK144, N150⟩ | ⟨rfl, hN144, N150⟩)
          ·
           have M151 := M148.trans N150
           replace M151 : Mem _ _ (S154 :: [(p152, _)] :: S_ :: [(p_, _)] :: [(p18, _)] :: Sw_ :: [(p8, _)] :: []) _ := M151
           obtain rfl : T144 = norm T_ := hU144 _ (good_norm hR.1) (encT_norm T_)
           refine C rfl rfl (C rfl rfl (C rfl rfl (C rfl rfl (C rfl rfl (F [(0, _), (4, _), (5, _), (20, _), (21, _)] rfl ?_)))))
           refine G (G (J (C rfl rfl (WS.opV (.bool false) rfl rfl rfl (C rfl rfl (C rfl rfl (WS.opV (.bool false) rfl rfl rfl (C rfl rfl (F [(0, _), (4, _), (5, _), (20, _), (152, _)] rfl ?_)))))))))
           refine WC.condF rfl (WC.skip (J (C rfl rfl (C rfl rfl (F [(0, _), (3, _), (4, _), (5, _)] rfl ?_)))))
           refine G (WC.draw M151 [] rfl ?_)
           intro rb156 h157 M158
           refine C rfl rfl (C rfl rfl (C rfl (op_ld (M158.at 6 rfl) rfl rfl) (C rfl (op_lenVS (hW _ (Mem.owni M158 5 rfl)) rfl) ?_)))
           refine WS.call rfl rfl rfl (Len_ran (T := (norm T_)) O155 ((M158.focus 1 rfl).focus 1 rfl)) ?_
           rintro _ h159 ⟨rfl, M160⟩
           replace M160 : Mem _ _ (S154 :: [(p152, _)] :: S_ :: [(p_, _)] :: [(p18, _)] :: Sw_ :: [(p8, _)] :: []) _ := M160
           refine WS.chk rfl (op_ld (M160.at 6 rfl) rfl rfl) rfl same_sl ?_
           refine WS.neqN (a := (norm T_).l.length) (b := (W_.l).length) rfl rfl rfl (fun e159 => ?_) (fun e159 => ?_)
           ·
            exact absurd (by first | exact hro.1.len.1 | exact hrk.len.1 | exact (rel_look hR).len.1 | exact (rel_tick hR).len.1 | exact (rel_norm hR).len.1 | exact hR.len.1) e159
           ·
            refine F [(0, _), (3, _), (4, _), (5, _), (159, _)] rfl ?_
            refine WC.condF rfl (WC.skip (J (C rfl rfl (WS.opV (.int .i64 (((i + 1) : Nat) : Int)) rfl rfl (add_i64 (a := i) (b := 1) (by omega)) (C rfl rfl (F [(0, _), (3, _), (4, _), (5, _)] rfl ?_))))))
            refine ⟨(p152, V153, S154, _, (.slice Pw_ W_.l.length nw_), Sw_, _, i + 1), rfl, ⟨(((((M160.bare.bare.focus 6 rfl).focus 2 rfl).focus 6 rfl).focus 3 rfl).take 4), ?_⟩, ?_⟩
            · exact ⟨O155, hW, rel_mono (rel_norm hR) (by omega), by omega⟩
            · simp only []; omega
          ·
           exact absurd (encT_norm T_) (hN144 _ (good_norm hR.1))
         ·
          refine C rfl rfl (F [(0, _), (3, _), (4, _), (5, _), (139, _)] rfl ?_)
          refine WC.condF rfl (WC.skip (G (WC.draw M22 [] rfl ?_)))
          intro rb161 h162 M163
          refine C rfl rfl (C rfl rfl (C rfl (op_ld (M163.at 4 rfl) rfl rfl) (C rfl (op_lenVS (hW _ (Mem.owni M163 2 rfl)) rfl) ?_)))
          refine WS.call rfl rfl rfl (Len_ran (T := T_) hO ((M163.focus 3 rfl).focus 2 rfl)) ?_
          rintro _ h164 ⟨rfl, M165⟩
          replace M165 : Mem _ _ (S_ :: [(p_, _)] :: [(p18, _)] :: Sw_ :: [(p8, _)] :: []) _ := M165
          refine WS.chk rfl (op_ld (M165.at 4 rfl) rfl rfl) rfl same_sl ?_
          refine WS.neqN (a := T_.l.length) (b := (W_.l).length) rfl rfl rfl (fun e159 => ?_) (fun e159 => ?_)
          ·
           exact absurd (by first | exact hro.1.len.1 | exact hrk.len.1 | exact (rel_look hR).len.1 | exact (rel_tick hR).len.1 | exact (rel_norm hR).len.1 | exact hR.len.1) e159
          ·
           refine F [(0, _), (3, _), (4, _), (5, _), (159, _)] rfl ?_
           refine WC.condF rfl (WC.skip (J (C rfl rfl (WS.opV (.int .i64 (((i + 1) : Nat) : Int)) rfl rfl (add_i64 (a := i) (b := 1) (by omega)) (C rfl rfl (F [(0, _), (3, _), (4, _), (5, _)] rfl ?_))))))
           refine ⟨(p_, V_, S_, _, (.slice Pw_ W_.l.length nw_), Sw_, _, i + 1), rfl, ⟨(((((M165.bare.bare.focus 4 rfl).focus 2 rfl).focus 4 rfl).focus 3 rfl).take 4), ?_⟩, ?_⟩
           · exact ⟨hO, hW, rel_mono hR (by omega), by omega⟩
           · simp only []; omega
    ·
     refine F [(0, _), (3, _), (4, _), (5, _), (30, _)] rfl ?_
     refine WC.condF rfl (WC.exit ?_)
     refine G (WC.draw M17 [] rfl ?_)
     intro rb166 h167 M168
     refine C rfl rfl (C rfl (op_lds [_, _] (M168.at 3 rfl) rfl (D rfl) rfl) ?_)
     refine WS.call rfl rfl rfl (Write_ran (T := T_) hO ((M168.focus 2 rfl).focus 1 rfl) (by first | (have := hR.1.1; omega) | (have := hR1.1.1; omega) | (have := hR2.1.1; omega)) (by first | exact inv_kp hR.1 | exact inv_kp hR2.1)) ?_
     rintro _ h169 ⟨rfl, M170⟩
     replace M170 : Mem _ _ (S_ :: [(p_, _)] :: Sw_ :: [(p8, _)] :: []) _ := M170
     refine WS.chk rfl (op_lds [_, _] (M170.at 3 rfl) rfl (D rfl) rfl) rfl (same_agg rfl) ?_
     refine WS.call rfl rfl rfl (refWrite18_ran M170.here (T := W_) (hW _ (Mem.owni M170 2 rfl)) (fun z hz => ((hR.2.2 z hz).2.2.2).mono M170.sub) (by have := hR.len; omega) (fun z hz => ⟨by have := (hR.2.2 z hz).2.1; omega, (hR.2.2 z hz).1⟩)) ?_
     rintro _ h171 ⟨rfl, N172⟩
     have M173 := M170.trans N172
     refine WS.seql (l := (encT T_)) (m := (encRT W_)) rfl rfl rfl (fun e164 => ?_) (fun e164 => ?_)
     ·
      refine C rfl rfl ?_
      refine WS.call rfl rfl rfl (awake18_ran M173.here ) ?_
      rintro _ h174 ⟨rfl, N175⟩
      have M176 := M173.trans N175
      refine C rfl rfl (C rfl rfl (F [(2, _)] rfl ?_))
      refine WC.ret (⟨[_], (res_tmp rfl res_nil), ?_⟩)
      rfl
     ·
      exact absurd hR.enc e164
  ·
   refine WC.condT rfl (G (J (WS.call rfl rfl rfl (awake18_ran M3.here ) ?_)))
   rintro _ h177 ⟨rfl, N178⟩
   have M179 := M3.trans N178
   refine C rfl rfl (F [(2, _)] rfl ?_)
   refine WC.ret (⟨[_], (res_tmp rfl res_nil), ?_⟩)
   rfl
end Go.Proofs.Ytomaijljeacpjaa.Wt
