/- A region that draws its order: every operation, and the whole walk. -/
import Derived.Test.YtncpdahappmhkaaAmS
namespace Go.Proofs.Ytncpdahappmhkaa.Am
open Go
set_option linter.unusedVariables false
set_option linter.unusedSimpArgs false
variable {P : Program} {N : Nat} {ops : Array Oper} {call : CallE} {rb : Nat} {its : List It} {sig : Nat → Env × H} {S : Nat → Bool} {base : Nat} {r0 : Rho} {h0 : H} {w0 : World}

theorem look_norm_some {e : Env} : ∀ {l : List Nat} {t : Nat} {v : Value}, look (norm l e) t = some v → t ∈ l ∧ look e t = some v := by
  intro l
  induction l with
  | nil => intro t v h; cases h
  | cons u l ih =>
    intro t v h
    simp only [norm] at h
    split at h
    · rename_i x hx
      simp only [look] at h
      split at h
      · rename_i e1; subst e1; cases h; exact ⟨List.mem_cons_self .., hx⟩
      · obtain ⟨q1, q2⟩ := ih h; exact ⟨List.mem_cons_of_mem _ q1, q2⟩
    · obtain ⟨q1, q2⟩ := ih h; exact ⟨List.mem_cons_of_mem _ q1, q2⟩

theorem Rel.merge {r r2 : Rho} {HH hs h2 H' : H} {w w2 : World} (R : Rel base r HH w) (R2 : Rel base r2 h2 w2) (F : Fr base r hs w r2 h2 w2) (hsub : ∀ n B, hs.get n = some B → HH.get n = some B)
    (hg : ∀ n, H'.get n = h2.get n ∨ (H'.get n = HH.get n ∧ hs.get n = none ∧ h2.get n = none)) (hn : H'.next = h2.next) (hn2 : HH.next = hs.next) : Rel base r2 H' w2 ∧ Fr base r HH w r2 H' w2 := by
  have pick : ∀ n B, H'.get n = some B → h2.get n = some B ∨ (HH.get n = some B ∧ hs.get n = none) := fun n B e => by
    rcases hg n with g | ⟨g, g2, _⟩
    · exact .inl (by rw [← g]; exact e)
    · exact .inr ⟨by rw [← g]; exact e, g2⟩
  have old : ∀ n B L, HH.get n = some B → r2 n = some L → r n = some L := fun n B L e1 e2 => by
    obtain ⟨M, _, _, _, g1, _⟩ := R.cells n B e1
    have := F.le n M g1
    rw [e2] at this; cases this; exact g1
  have hlt : ∀ n B L, HH.get n = some B → r n = some L → L.b < w.heap.size := fun n B L e1 e2 => by
    obtain ⟨M, _, _, _, g1, g2, _⟩ := R.cells n B e1
    rw [e2] at g1; cases g1
    exact (Array.getElem?_eq_some_iff.1 g2).1
  have cross : ∀ n m Bn Bm L M, h2.get n = some Bn → Bn.ro = false → HH.get m = some Bm → hs.get m = none → r2 n = some L → r2 m = some M → L.b ≠ M.b := fun n m Bn Bm L M e1 e2 e3 e4 e5 e6 q => by
    have hM := old m Bm M e3 e6
    obtain ⟨m', B', M', k1, k2, k3, k4⟩ := F.cov n Bn L e1 e2 e5 (by rw [q]; exact hlt m Bm M e3 hM)
    have hne : m' ≠ m := fun q => by rw [q, e4] at k1; cases k1
    exact R.inj m' m B' Bm M' M (hsub _ _ k1) e3 hne k2 k3 hM (k4.trans q)
  refine ⟨⟨fun n B e => ?_, fun n m Bn Bm L M e1 e2 hne hro e3 e4 => ?_, fun n h => R2.new n (by omega), R2.size, fun n B L e hro e2 => ?_⟩, ⟨F.le, by rw [hn, hn2]; exact F.next, F.size, F.os, F.tape, F.output, fun b hb hq => ?_, fun n B L e hro e2 hl => ?_⟩⟩
  · rcases pick n B e with g | ⟨g, g2⟩
    · exact R2.cells n B g
    · obtain ⟨L, c, el, fz, k1, k2, k3, k4, k5, k6, k7⟩ := R.cells n B g
      refine ⟨L, c, el, fz, F.le _ _ k1, ?_, k3, k4, k5, k6, fun i v hv => ?_⟩
      · rw [F.keep L.b (hlt n B L g k1) (fun m B' M j1 j2 j3 => R.inj m n B' B M L (hsub _ _ j1) g (fun q => by rw [q, g2] at j1; cases j1) j2 j3 k1)]; exact k2
      · obtain ⟨q1, v', q2, q3⟩ := k7 i v hv; exact ⟨q1, v', q2, q3.mono F.le⟩
  · rcases pick n Bn e1 with g | ⟨g, g2⟩
    · rcases pick m Bm e2 with g' | ⟨g', g2'⟩
      · exact R2.inj n m Bn Bm L M g g' hne hro e3 e4
      · exact cross n m Bn Bm L M g hro g' g2' e3 e4
    · rcases pick m Bm e2 with g' | ⟨g', g2'⟩
      · cases hb : Bm.ro with
        | false => exact (cross m n Bm Bn M L g' hb g g2 e4 e3).symm
        | true =>
          have h1 := R2.ro m Bm M g' hb e4
          obtain ⟨L', _, _, _, k1, _, _, _, _, k6, _⟩ := R.cells n Bn g
          rw [old n Bn L g e3] at k1; cases k1
          have := (k6 hro).1; omega
      · exact R.inj n m Bn Bm L M g g' hne hro (old n Bn L g e3) (old m Bm M g' e4)
  · rcases pick n B e with g | ⟨g, g2⟩
    · exact R2.ro n B L g hro e2
    · exact R.ro n B L g hro (old n B L g e2)
  · exact F.keep b hb (fun n B L j1 j2 j3 => hq n B L (hsub _ _ j1) j2 j3)
  · rcases pick n B e with g | ⟨g, g2⟩
    · obtain ⟨m, Bm, M, k1, k2, k3, k4⟩ := F.cov n B L g hro e2 hl
      exact ⟨m, Bm, M, hsub _ _ k1, k2, k3, k4⟩
    · exact ⟨n, B, L, g, hro, old n B L g e2, rfl⟩

/-- An operation that acts. -/
theorem act_step (D : Dr P N ops call rb its sig) (hcall : SoundC P call) (W : ∀ k, k ≤ its.length → Wit base N rb ops its sig k) (hC : Cl ops S) {k : Nat} {x : It} (hk : its[k]? = some x) (h3 : x.k = 3) (hcl : ∀ j, isBef (befs ops) j x.i = true → S j = true ∨ j = x.i) (hS : S x.i = false) {r : Rho} {a : Act} {w : World}
    (I : Inv P N rb ops its sig base r0 h0 w0 S r a w) {o : Oper} (hs : compStep P N ops o = some x.s) (hn : ∀ d g i, x.s ≠ .chk d g i) {e' : Env} (he' : EnvR r e' a.tmps) (hsm : Same (sig k).1 e' (tS x.s))
    {K : Act → World → Prop} {Q : Exit → Act → World → Prop} (hK : ∀ r2 a2 w2, Inv P N rb ops its sig base r0 h0 w0 (plus S x.i) r2 a2 w2 → K a2 w2) :
    if Region.wanted o (yielded ops a.tmps) then o.wp P a w K Q ∨ (o.asks P a w ∧ LetsOut Q) else K (a.put o.dst undef) w := by
  have hlen : k < its.length := (List.getElem?_eq_some_iff.1 hk).1
  have hx5 : x.k ≠ 5 := by omega
  have hdst := compStep_dst hs
  have hd := (compStep_form hs).1
  obtain ⟨p1, p2⟩ := HS_pre (S := S) D k (Nat.le_refl _) (fun p y hp hy hk2 => by
    have hy5 : y.k ≠ 5 := by rcases hk2 with q | q <;> omega
    have hpk := D.pk hp hy hk hy5 hx5
    have hb := hpk.bb (by rcases hk2 with q | q <;> simp [q, h3])
    exact (hcl _ hb).resolve_right hpk.ne) (by omega)
  have hno : ∀ (p : Nat) (y : It), k ≤ p → p < its.length → its[p]? = some y → y.k = 3 → S y.i = false := fun p y q1 q2 q3 q4 => by
    by_cases hpk : p = k
    · subst hpk; rw [hk] at q3; cases q3; exact hS
    · have hb := (D.pk (by omega : k < p) hk q3 hx5 (by omega)).bb (.inl ⟨h3, q4⟩)
      cases hSy : S y.i with
      | false => rfl
      | true => have := bef_closed hC _ _ hb hSy; rw [hS] at this; cases this
  have hsub := sub_tail D (W k (by omega)) (by omega) p2 hno
  obtain ⟨t1, t2⟩ := HS_tail D (S := S) its.length (by omega : k ≤ its.length) hno
  have hnx : (HS its sig rb S its.length).next = (sig k).2.next := by rw [t1, p1]
  have hS1 : HS its sig rb (plus S x.i) (k + 1) = (sig (k + 1)).2 := by simp only [HS, hk]; rw [if_pos ⟨h3, plus_self S x.i⟩]
  have hpl : ∀ {p : Nat} {y : It}, k < p → its[p]? = some y → y.k ≠ 5 → plus S x.i y.i = S y.i := fun {p y} q1 q2 q3 => plus_ne S (D.pk q1 hk q2 hx5 q3).ne.symm
  obtain ⟨u1, u2⟩ := HS_tail D (S := plus S x.i) its.length (by omega : k + 1 ≤ its.length) (fun p y q1 q2 q3 q4 => by rw [hpl (by omega) q3 (by omega)]; exact hno p y (by omega) q2 q3 q4)
  rw [hS1] at u1
  have R' := I.rel.sub hsub (by omega)
  obtain ⟨v, g1, g2⟩ := stepE_same hsm hn (D.st k x hk)
  have hval : ∀ q, o.dst = some q → valOf sig k = v := fun q hq => by
    unfold valOf; rw [g1, hd, hq]; rfl
  refine step_core hcall hs g2 he' R' I.size fun v1 v' r2 w2 m1 m2 m3 m4 m5 => ?_
  have hv1 : ∀ q, o.dst = some q → v1 = v := fun q hq => by
    rw [hd, hq] at m1; exact (put_inj m1).symm
  obtain ⟨n1, n2⟩ := I.rel.merge (H' := HS its sig rb (plus S x.i) its.length) m3 m4 hsub (fun n => by
    rcases u2 n with ⟨p, y, q1, q2, q3, q4, q5, q6, q7⟩ | ⟨_, q⟩
    · refine .inr ⟨?_, by rw [q6]; exact (W k (by omega)).none (by omega) q3 q4, by rw [q6]; exact (W (k + 1) (by omega)).none q1 q3 q4⟩
      rw [q7]
      rw [hpl (by omega) q3 (by omega)] at q5
      rcases t2 n with ⟨p', y', j1, j2, j3, j4, j5, j6, j7⟩ | ⟨j1, _⟩
      · have he0 : y.i = y'.i := by omega
        have := D.uniq q3 j3 (by omega) (by omega) he0
        rw [j7, this]
      · exact absurd q6 (j1 p y (by omega) q2 q3 q4 q5)
    · exact .inl (by rw [q, hS1])) u1 hnx
  refine hK r2 _ w2 ⟨env_new D hC hk hx5 hS I.env m4.le hd (by rw [I.size]; exact hdst) (fun q hq => by rw [hval q hq, ← hv1 q hq]; exact m2), n1, I.fr.trans n2, ?_, fun p y q1 q2 q3 => ?_, by rw [defers_put]; exact I.defers, by rw [size_put]; exact I.size, ?_⟩
  · exact I.fsh.trans (by rw [← hnx]; exact I.fr.next) m5 (fun n q => by cases q)
  · have hne : y.i ≠ x.i := fun q => by rw [q, plus_self] at q3; cases q3
    rw [plus_ne S hne] at q3
    exact m5 _ (by have := I.next; have := D.lt q1; omega) (by simp) (I.pend p y q1 q2 q3)
  · have := I.next; have := n2.next; omega

/-- An operation that makes a block. -/
theorem HS_plus_new (D : Dr P N ops call rb its sig) (hC : Cl ops S) {k : Nat} {x : It} (hk : its[k]? = some x) (h2 : x.k = 2) (hS : S x.i = false) : ∀ m, k + 1 ≤ m → m ≤ its.length →
    (HS its sig rb (plus S x.i) m).next = (HS its sig rb S m).next ∧ ∀ n, (HS its sig rb (plus S x.i) m).get n = if n = rb + x.i then (sig (k + 1)).2.get (rb + x.i) else (HS its sig rb S m).get n := by
  have hx5 : x.k ≠ 5 := by omega
  intro m
  induction m with
  | zero => intro h; omega
  | succ m ih =>
    intro q1 q2
    by_cases hm : m = k
    · subst hm
      have e1 : HS its sig rb (plus S x.i) (m + 1) = (HS its sig rb S m).set (rb + x.i) ((sig (m + 1)).2.get (rb + x.i)) := by
        simp only [HS, hk]; rw [if_neg (fun q => by omega), if_pos ⟨h2, plus_self S x.i⟩, HS_plus_pre D hk hx5 m (Nat.le_refl _)]
      have e2 : HS its sig rb S (m + 1) = HS its sig rb S m := by
        simp only [HS, hk]; rw [if_neg (fun q => by omega), if_neg (fun q => by rw [hS] at q; exact absurd q.2 (by simp))]
      rw [e1, e2]
      exact ⟨rfl, fun n => H.get_set ..⟩
    · obtain ⟨i1, i2⟩ := ih (by omega) (by omega)
      have hu : its[m]? = some its[m] := List.getElem?_eq_getElem (by omega)
      generalize its[m] = y at hu
      simp only [HS, hu]
      by_cases h5 : y.k = 5
      · rw [if_neg (fun q => by omega), if_neg (fun q => by omega), if_neg (fun q => by omega), if_neg (fun q => by omega)]; exact ⟨i1, i2⟩
      · have hpk := D.pk (by omega : k < m) hk hu hx5 h5
        rw [plus_ne S hpk.ne.symm]
        by_cases hy3 : y.k = 3 ∧ S y.i = true
        · have hb := hpk.bb (.inr (.inl ⟨h2, hy3.1⟩))
          have := bef_closed hC _ _ hb hy3.2; rw [hS] at this; cases this
        · rw [if_neg hy3, if_neg hy3]
          by_cases hy2 : y.k = 2 ∧ S y.i = true
          · rw [if_pos hy2, if_pos hy2]
            refine ⟨i1, fun n => ?_⟩
            rw [H.get_set, H.get_set, i2]
            have := hpk.ne
            by_cases e1 : n = rb + y.i
            · rw [if_pos e1, if_neg (by omega), if_pos e1]
            · rw [if_neg e1, if_neg e1]
          · rw [if_neg hy2, if_neg hy2]; exact ⟨i1, i2⟩
theorem new_step (D : Dr P N ops call rb its sig) (hrb : h0.next ≤ rb) (W : ∀ k, k ≤ its.length → Wit base N rb ops its sig k) (hC : Cl ops S) {k : Nat} {x : It} (hk : its[k]? = some x) (h2 : x.k = 2) (hS : S x.i = false) {r : Rho} {a : Act} {w : World}
    (I : Inv P N rb ops its sig base r0 h0 w0 S r a w) {o : Oper} {d : Option Nat} {g : Option (Nat × Bool)} {j : IOp} (hs : compStep P N ops o = some (.op d g j)) (hxs : x.s = .opA d g j x.i) (hj : kI j = 2) {e' : Env} (he' : EnvR r e' a.tmps) (hsm : Same (sig k).1 e' (tS x.s))
    {K : Act → World → Prop} {Q : Exit → Act → World → Prop} (hK : ∀ r2 a2 w2, Inv P N rb ops its sig base r0 h0 w0 (plus S x.i) r2 a2 w2 → K a2 w2) :
    if Region.wanted o (yielded ops a.tmps) then o.wp P a w K Q ∨ (o.asks P a w ∧ LetsOut Q) else K (a.put o.dst undef) w := by
  have hlen : k < its.length := (List.getElem?_eq_some_iff.1 hk).1
  have hx5 : x.k ≠ 5 := by omega
  obtain ⟨hdo, hg, hnc⟩ := compStep_op hs
  have hdst := compStep_dst hs
  have hd : dS x.s = o.dst := by rw [hxs]; exact hdo
  obtain ⟨a1, a2⟩ := HS_plus_new D hC hk h2 hS its.length (by omega) (Nat.le_refl _)
  have hpd := I.pend k x hk h2 hS
  have hlt : rb + x.i < (HS its sig rb S its.length).next := by have := I.next; have := D.lt hk; omega
  have E := D.st k x hk
  rw [hxs] at E hsm
  simp only [tS] at hsm
  simp only [stepE] at E
  have mk : ∀ {r2 : Rho} {w2 : World} {v v' : Value} {H2 : H}, (∀ q, o.dst = some q → valOf sig k = v) → (∀ n, (HS its sig rb (plus S x.i) its.length).get n = H2.get n) → H2.next = (HS its sig rb S its.length).next → VR r2 v v' → Rel base r2 H2 w2 → Fr base r (HS its sig rb S its.length) w r2 H2 w2 → Fsh (some (rb + x.i)) r (HS its sig rb S its.length) r2 → r0.le r →
      Inv P N rb ops its sig base r0 h0 w0 (plus S x.i) r2 (a.put o.dst v') w2 := fun {r2 w2 v v' H2} q0 q1 q2 m1 m2 m3 m4 _ => by
    refine ⟨env_new D hC hk hx5 hS I.env m3.le hd (by rw [I.size]; exact hdst) (fun q hq => by rw [q0 q hq]; exact m1), m2.congr q1 (by rw [a1, q2]), I.fr.trans (m3.congr q1 (by rw [a1, q2])), ?_, fun p y j1 j2 j3 => ?_, by rw [defers_put]; exact I.defers, by rw [size_put]; exact I.size, by rw [a1]; exact I.next⟩
    · intro n n1 n2 n3
      have := I.fsh n n1 n2 n3
      have hfr := I.fr.next
      by_cases hn : n = rb + x.i
      · omega
      · exact m4 n (by omega) (fun q => hn (Option.some.inj q).symm) this
    · have hne : y.i ≠ x.i := fun q => by rw [q, plus_self] at j3; cases j3
      rw [plus_ne S hne] at j3
      exact m4 _ (by have := I.next; have := D.lt j1; omega) (fun q => hne (by have := Option.some.inj q; omega)) (I.pend p y j1 j2 j3)
  cases hgd : gd (sig k).1 g with
  | none => rw [hgd] at E; cases E
  | some c =>
    rw [hgd] at E
    rw [gd_same' hsm.l] at hgd
    rw [gd_sound he' hg hgd]
    cases c with
    | true =>
      simp only at E
      split at E
      · rename_i v h3 hop
        have e1 := Option.some.inj E
        obtain ⟨B, hB, hB2⟩ := opE_k2 hj hop
        have hop2 := hB2 (HS its sig rb S its.length)
        rw [opE_same hsm.r] at hop2
        rw [if_pos rfl]; left
        refine op_wp (nckC_sound hnc I.rel he' (nm := some (rb + x.i)) (fun n q => by cases q; exact ⟨hlt, hpd⟩) hop2) fun r2 w2 v' m1 m2 m3 m4 => hK _ _ _ (mk (v := v) (H2 := (HS its sig rb S its.length).set (rb + x.i) (some B)) (fun q hq => ?_) (fun n => ?_) rfl m1 m2 m3 m4 I.fr.le)
        · unfold valOf; rw [← e1, hdo, hq]; rfl
        · rw [a2 n, H.get_set, ← e1, hB, H.get_set_same]
      · cases E
    | false =>
      simp only at E
      have e1 := Option.some.inj E
      rw [if_neg (by simp)]
      refine hK _ _ _ (mk (v := undef) (H2 := HS its sig rb S its.length) (fun q hq => ?_) (fun n => ?_) rfl .undef I.rel (Fr.refl ..) (Fsh.refl _ r _) I.fr.le)
      · unfold valOf; rw [← e1, hdo, hq]; rfl
      · rw [a2 n]
        split
        · rename_i hn
          rw [← e1, hn, (W k (by omega)).none (Nat.le_refl _) hk h2]
          cases hq : (HS its sig rb S its.length).get (rb + x.i) with
          | none => rfl
          | some B => obtain ⟨L, _, _, _, g1, _⟩ := I.rel.cells _ B hq; rw [hpd] at g1; cases g1
        · rfl

/-- One operation, whichever comes. -/
theorem one_step (D : Dr P N ops call rb its sig) (hcall : SoundC P call) (hrb : h0.next ≤ rb) (W : ∀ k, k ≤ its.length → Wit base N rb ops its sig k) (hC : Cl ops S) {i : Nat} {o : Oper} (ho : ops[i]? = some o) (hcl : ∀ j, isBef (befs ops) j i = true → S j = true ∨ j = i) (hS : S i = false) {r : Rho} {a : Act} {w : World}
    (I : Inv P N rb ops its sig base r0 h0 w0 S r a w) {K : Act → World → Prop} {Q : Exit → Act → World → Prop} (hK : ∀ r2 a2 w2, Inv P N rb ops its sig base r0 h0 w0 (plus S i) r2 a2 w2 → K a2 w2) :
    if Region.wanted o (yielded ops a.tmps) then o.wp P a w K Q ∨ (o.asks P a w ∧ LetsOut Q) else K (a.put o.dst undef) w := by
  obtain ⟨k, x, hk, hx5, rfl⟩ := D.all i (Array.getElem?_eq_some_iff.1 ho).1
  obtain ⟨e', hsm, he'⟩ : ∃ e', Same (sig k).1 e' (tS x.s) ∧ EnvR r e' a.tmps := ⟨norm (tS x.s) (sig k).1, fun t ht => (look_norm ht).symm, fun t u hu => by
    obtain ⟨q1, q2⟩ := look_norm_some hu
    rw [← ES_look D hC hk hx5 hcl hS q1] at q2
    exact I.env t u q2⟩
  obtain ⟨o2, ho2, hcase⟩ := D.sp k x hk
  rw [ho] at ho2; cases ho2
  have E := D.st k x hk
  rcases hcase with ⟨h3, hs, hn⟩ | ⟨h01, d, g, j, hs, hxs, hj⟩ | ⟨h2, d, g, j, hs, hxs, hj⟩ | ⟨h4, d, g, j, hs, hxs, hj⟩ | ⟨q, _⟩
  · exact act_step D hcall W hC hk h3 hcl hS I hs hn he' hsm hK
  · have hd := (compStep_form hs).1
    rw [hxs] at hs hsm E
    simp only [tS] at hsm
    simp only [stepE] at E
    have hdo : d = o.dst := (compStep_op hs).1
    cases hgd : gd (sig k).1 g with
    | none => rw [hgd] at E; cases E
    | some c =>
      rw [hgd] at E
      have hgd' := hgd
      rw [gd_same' hsm.l] at hgd
      cases c with
      | true =>
        simp only at E
        split at E
        · rename_i v h3 hop
          have e1 := Option.some.inj E
          refine quiet_step D hC hk hx5 (by omega) (by omega) hS I hs hd he' hgd (v := v) (fun q hq => by unfold valOf; rw [← e1, hdo, hq]; rfl) (fun _ => ?_) (fun q => by cases q) hK
          rw [← opE_same hsm.r]
          rcases h01 with h0 | h1
          · exact (opE_k0 (hj.trans h0) hop).2 _ _
          · exact look_step D W hC hk h1 hcl hS ho hs hxs (hj.trans h1) hgd' hop
        · cases E
      | false =>
        simp only at E
        have e1 := Option.some.inj E
        exact quiet_step D hC hk hx5 (by omega) (by omega) hS I hs hd he' hgd (v := undef) (fun q hq => by unfold valOf; rw [← e1, hdo, hq]; rfl) (fun q => by cases q) (fun _ => rfl) hK
  · exact new_step D hrb W hC hk h2 hS I hs hxs hj he' hsm hK
  · have hd := (compStep_form hs).1
    have hdo : d = o.dst := (compStep_op hs).1
    have hdx : dS x.s = o.dst := by rw [hxs]; exact hdo
    have hsm2 := hsm
    rw [hxs] at hsm2 E
    simp only [tS] at hsm2
    simp only [stepE] at E
    cases hgd : gd (sig k).1 g with
    | none => rw [hgd] at E; cases E
    | some c =>
      rw [hgd] at E
      rw [gd_same' hsm2.l] at hgd
      cases c with
      | true =>
        simp only at E
        split at E
        · rename_i n hn
          split at E
          · rename_i hnq
            split at E
            · rename_i v h3 hop
              have e1 := Option.some.inj E
              refine quiet_step D hC hk hx5 (by omega) (by omega) hS I hs hdx he' hgd (v := v) (fun q hq => by unfold valOf; rw [← e1, hdo, hq]; rfl) (fun _ => ?_) (fun q => by cases q) hK
              have := opE_addr hn hop (HS its sig rb S its.length) (by rw [hnq]; exact own_look D hC hk h4 hcl hS)
              rw [opE_same hsm2.r] at this; exact this
            · cases E
          · cases E
        · cases E
      | false =>
        simp only at E
        have e1 := Option.some.inj E
        exact quiet_step D hC hk hx5 (by omega) (by omega) hS I hs hdx he' hgd (v := undef) (fun q hq => by unfold valOf; rw [← e1, hdo, hq]; rfl) (fun q => by cases q) (fun _ => rfl) hK
  · exact absurd q hx5

/-! ### The walk -/
def cnt (S : Nat → Bool) : Nat → Nat
  | 0 => 0
  | n + 1 => cnt S n + if S n = true then 0 else 1
theorem cnt_plus {i : Nat} (hS : S i = false) : ∀ n, cnt (plus S i) n + (if i < n then 1 else 0) = cnt S n := by
  intro n
  induction n with
  | zero => simp [cnt]
  | succ n ih =>
    simp only [cnt]
    by_cases h : n = i
    · subst h
      rw [plus_self, if_pos rfl, if_pos (by omega), hS, if_neg (by simp)]
      rw [if_neg (by omega)] at ih; omega
    · rw [plus_ne S h]
      by_cases h2 : i < n
      · rw [if_pos h2] at ih; rw [if_pos (by omega : i < n + 1)]; omega
      · rw [if_neg h2] at ih; rw [if_neg (by omega : ¬ i < n + 1)]; omega
theorem cnt_zero : ∀ {n : Nat}, cnt S n = 0 → ∀ i, i < n → S i = true := by
  intro n
  induction n with
  | zero => intro _ i h; omega
  | succ n ih =>
    intro h i hi
    simp only [cnt] at h
    by_cases hn : i = n
    · subst hn
      cases hS : S i with
      | true => rfl
      | false => rw [hS] at h; simp at h
    · exact ih (by omega) i (by omega)

def lst (listed : Array Bool) : Nat → Bool := fun i => listed.getD i false
theorem lst_set {listed : Array Bool} {i : Nat} (hi : i < listed.size) : lst (listed.setIfInBounds i true) = plus (lst listed) i := by
  funext j
  simp only [lst, plus]
  rw [Array.getD_eq_getD_getElem?, Array.getD_eq_getD_getElem?, Array.getElem?_setIfInBounds]
  by_cases h : i = j
  · subst h; simp [hi]
  · rw [if_neg h]; simp [Ne.symm h]
theorem mem_ready {listed : Array Bool} {i : Nat} (hs : listed.size = ops.size) : i ∈ Region.ready .any ops listed ↔ i < ops.size ∧ lst listed i = false ∧ ∃ o, ops[i]? = some o ∧ ∀ e ∈ o.after, Region.binds .any e = true → lst listed e.on = true := by
  unfold Region.ready lst
  rw [List.mem_filter, List.mem_range, Bool.and_eq_true]
  constructor
  · rintro ⟨h1, h2, h3⟩
    have ho : ops[i]? = some ops[i] := Array.getElem?_eq_getElem h1
    refine ⟨h1, ?_, ops[i], ho, fun e he hb => ?_⟩
    · rw [Array.getD_eq_getD_getElem?] at h2 ⊢
      rw [Array.getElem?_eq_getElem (by omega)] at h2 ⊢
      simpa using h2
    · rw [ho] at h3
      simp only [Option.map_some, Option.getD_some, Array.all_eq_true_iff_forall_mem] at h3
      have := h3 e he
      rw [hb] at this; simpa using this
  · rintro ⟨h1, h2, o, ho, h3⟩
    refine ⟨h1, ?_, ?_⟩
    · rw [Array.getD_eq_getD_getElem?] at h2 ⊢
      rw [Array.getElem?_eq_getElem (by omega)] at h2 ⊢
      simpa using h2
    · rw [ho]
      simp only [Option.map_some, Option.getD_some, Array.all_eq_true_iff_forall_mem]
      intro e he
      cases hb : Region.binds .any e with
      | false => rfl
      | true => simpa using h3 e he hb

theorem ES_all (D : Dr P N ops call rb its sig) (hS : ∀ (k : Nat) (x : It), its[k]? = some x → x.k ≠ 5 → S x.i = true) : ∀ m, m ≤ its.length → ES its sig S m = (sig m).1 := by
  intro m
  induction m with
  | zero => intro _; rfl
  | succ m ih =>
    intro h
    have hu : its[m]? = some its[m] := List.getElem?_eq_getElem (by omega)
    generalize its[m] = y at hu
    simp only [ES, hu]
    by_cases h5 : y.k = 5
    · rw [if_neg (fun q => q.1 h5), D.chk hu h5]; exact ih (by omega)
    · rw [if_pos ⟨h5, hS m y hu h5⟩, (D.env hu h5).1, ih (by omega)]

theorem walk_any (D : Dr P N ops call rb its sig) (hcall : SoundC P call) (hrb : h0.next ≤ rb) (W : ∀ k, k ≤ its.length → Wit base N rb ops its sig k) {Q : Exit → Act → World → Prop}
    (hQ : ∀ a2 w2, St base N r0 h0 w0 (sig its.length).1 (sig its.length).2 a2 w2 → Q .normal a2 w2) :
    ∀ (fuel : Nat) (listed : Array Bool) (r : Rho) (a : Act) (w : World), listed.size = ops.size → Cl ops (lst listed) → cnt (lst listed) ops.size ≤ fuel → Inv P N rb ops its sig base r0 h0 w0 (lst listed) r a w → wpAny P .any ops Q fuel listed a w := by
  have fin : ∀ (listed : Array Bool) (r : Rho) (a : Act) (w : World), (∀ i, i < ops.size → lst listed i = true) → Inv P N rb ops its sig base r0 h0 w0 (lst listed) r a w → Q .normal a w := fun listed r a w hall I => by
    have hS : ∀ (k : Nat) (x : It), its[k]? = some x → x.k ≠ 5 → lst listed x.i = true := fun k x hk _ => hall _ (D.lt hk)
    obtain ⟨p1, p2⟩ := HS_pre (S := lst listed) D (k := its.length) its.length (Nat.le_refl _) (fun p y _ hy hk2 => hall _ (D.lt hy)) (Nat.le_refl _)
    refine hQ a w ⟨⟨r, ?_, I.rel.congr (fun n => (p2 n).symm) p1.symm, I.fr.congr (fun n => (p2 n).symm) p1.symm, I.fsh⟩, I.defers, I.size⟩
    rw [← ES_all D hS its.length (Nat.le_refl _)]; exact I.env
  have nil : ∀ (listed : Array Bool), listed.size = ops.size → Region.ready .any ops listed = [] → ∀ i, i < ops.size → lst listed i = true := fun listed hsz hr => by
    intro i
    induction i using Nat.strongRecOn with
    | _ i ih =>
      intro hi
      cases hl : lst listed i with
      | true => rfl
      | false =>
        have hm : i ∈ Region.ready .any ops listed := (mem_ready hsz).2 ⟨hi, hl, ops[i], Array.getElem?_eq_getElem hi, fun e he hb => by
          have := D.edge
          unfold edgesOK at this
          rw [List.all_eq_true] at this
          have := this i (List.mem_range.2 hi)
          rw [Array.getElem?_eq_getElem hi] at this
          simp only [List.all_eq_true, Bool.or_eq_true, decide_eq_true_eq] at this
          have hlt := (this e (by simpa using he)).resolve_left (by rw [hb]; simp)
          exact ih e.on hlt (by omega)⟩
        rw [hr] at hm; cases hm
  intro fuel
  induction fuel with
  | zero =>
    intro listed r a w hsz hC hc I
    have hall := cnt_zero (by omega : cnt (lst listed) ops.size = 0)
    refine ⟨?_, fin listed r a w hall I⟩
    cases hr : Region.ready .any ops listed with
    | nil => rfl
    | cons i l =>
      have hm : i ∈ Region.ready .any ops listed := by rw [hr]; exact List.mem_cons_self ..
      obtain ⟨q1, q2, _⟩ := (mem_ready hsz).1 hm
      rw [hall i q1] at q2; cases q2
  | succ fuel ih =>
    intro listed r a w hsz hC hc I
    refine ⟨fun hr => fin listed r a w (nil listed hsz hr) I, fun i hi => ?_⟩
    obtain ⟨q1, q2, o, q3, q4⟩ := (mem_ready hsz).1 hi
    have hC' : Cl ops (plus (lst listed) i) := fun j p hj hp e he hb => by
      by_cases hji : j = i
      · subst hji; rw [q3] at hp; cases hp; simp [plus, q4 e he hb]
      · rw [plus_ne _ hji] at hj; simp [plus, hC j p hj hp e he hb]
    unfold wpOp
    rw [q3]
    refine one_step D hcall hrb W hC q3 (fun j hj => ?_) q2 I fun r2 a2 w2 I2 => ?_
    · have := bef_closed hC' _ _ hj (plus_self _ i)
      simpa [plus] using this
    · have hp := cnt_plus q2 ops.size
      rw [if_pos q1] at hp
      have e1 := lst_set (listed := listed) (i := i) (by omega)
      exact ih _ r2 a2 w2 (by simpa using hsz) (by rw [e1]; exact hC') (by rw [e1]; omega) (by rw [e1]; exact I2)

theorem ES_none : ∀ m, ES its sig (fun _ => false) m = (sig 0).1 := by
  intro m
  induction m with
  | zero => rfl
  | succ m ih => simp only [ES]; split <;> simp [ih]
theorem HS_none : ∀ m, HS its sig rb (fun _ => false) m = (sig 0).2 := by
  intro m
  induction m with
  | zero => rfl
  | succ m ih => simp only [HS]; split <;> simp [ih]

/-- A region that draws its order comes to what its canonical order comes to. -/
theorem drawOK (hm : P.follows .mixedOrders = true) : DrawOK P := by
  intro N ops ds ss hok hc call hcall base r0 h0 w0 id e h a w e2 h2 Q E S hQ
  obtain ⟨sig, s0, s1, s2⟩ := sig_of ss e (h.up ops.size) e2 h2 E
  unfold okDraw at hok
  split at hok
  · rename_i its hits
    simp only [Bool.and_eq_true] at hok
    obtain ⟨⟨⟨⟨k1, k2⟩, k3⟩, k4⟩, k5⟩ := hok
    obtain ⟨l1, l2⟩ := its_spec ds ss its hc hits
    have D : Dr P N ops call h.next its sig := by
      refine ⟨fun k x hk => (l2 k x hk).1, fun k x hk => s2 k x.s (l2 k x hk).2, fun a b x y q1 q2 q3 => pairs_spec k2 a b x y q1 q2 q3, fun a b x y q1 q2 q3 q4 q5 q6 => chks_spec k3 b x y (.inr ⟨a, q1, q2⟩) q3 q4 q5 q6, fun k x hk => ?_, fun i hi => ?_, by rw [s0]; rfl, k1⟩
      · rw [List.all_eq_true] at k4; exact k4 x (List.mem_of_getElem? hk)
      · rw [List.all_eq_true] at k5
        have := k5 i (List.mem_range.2 hi)
        rw [List.any_eq_true] at this
        obtain ⟨x, hx, hx2⟩ := this
        rw [Bool.and_eq_true] at hx2
        obtain ⟨k, hk, hkx⟩ := List.getElem_of_mem hx
        exact ⟨k, x, by rw [List.getElem?_eq_getElem hk, hkx], by simpa using hx2.1, by simpa using hx2.2⟩
    obtain ⟨⟨r, he, R, F, Fs⟩, hd, hsz⟩ := S
    have R1 : Rel base r (h.up ops.size) w := R.up _
    have W0 : Wit base N h.next ops its sig 0 := by
      refine ⟨r, a, w, by rw [s0]; exact he, hsz, by rw [s0]; exact R1, by rw [s0]; exact Nat.le_refl _, fun p x _ _ _ => R.new _ (by omega)⟩
    have W := wit D hcall W0
    have hlst : lst (Array.replicate ops.size false) = fun _ => false := by
      funext i; unfold lst
      rw [Array.getD_eq_getD_getElem?, Array.getElem?_replicate]; split <;> rfl
    refine wp_region_any hm (walk_any D hcall F.next W (fun a2 w2 S2 => hQ a2 w2 (by rw [l1, s1] at S2; exact S2)) ops.size _ r a _ (by simp) (by rw [hlst]; intro i o q; cases q) ?_ ?_)
    · rw [hlst]
      have : ∀ n, cnt (fun _ => false) n ≤ n := by
        intro n
        induction n with
        | zero => simp [cnt]
        | succ n ih => simp only [cnt]; simp; omega
      exact this _
    · rw [hlst]
      have hR := R1.drew
      have hF := (F.trans (Fr.up base r h w ops.size)).drew
      refine ⟨by rw [ES_none, s0]; exact he, by rw [HS_none, s0]; exact hR, by rw [HS_none, s0]; exact hF, Fs, fun k x _ _ _ => R.new _ (by omega), hd, hsz, by rw [HS_none, s0]; exact Nat.le_refl _⟩
  · cases hok
end Go.Proofs.Ytncpdahappmhkaa.Am
