/- A region that draws its order: whatever order it draws. -/
import Derived.Test.YtncpdahappmhkaaAmR
namespace Go.Proofs.Ytncpdahappmhkaa.Am
open Go
set_option linter.unusedVariables false
set_option linter.unusedSimpArgs false
variable {P : Program} {N : Nat} {ops : Array Oper} {call : CallE} {rb : Nat} {its : List It} {sig : Nat → Env × H} {S : Nat → Bool} {base : Nat} {r0 : Rho} {h0 : H} {w0 : World}

/-- An operation that leaves the memory alone. -/
theorem quiet_step (D : Dr P N ops call rb its sig) (hC : Cl ops S) {k : Nat} {x : It} (hk : its[k]? = some x) (hx : x.k ≠ 5) (h2 : x.k ≠ 2) (h3 : x.k ≠ 3) (hS : S x.i = false) {r : Rho} {a : Act} {w : World}
    (I : Inv P N rb ops its sig base r0 h0 w0 S r a w) {o : Oper} {d : Option Nat} {g : Option (Nat × Bool)} {j : IOp} (hs : compStep P N ops o = some (.op d g j)) (hd : dS x.s = o.dst) {e' : Env} (he' : EnvR r e' a.tmps) {c : Bool} (hgd : gd e' g = some c)
    {v : Value} (hv : ∀ q, o.dst = some q → valOf sig k = v) (h1 : c = true → opE j e' (HS its sig rb S its.length) none = some (v, HS its sig rb S its.length)) (h0' : c = false → v = undef)
    {K : Act → World → Prop} {Q : Exit → Act → World → Prop} (hK : ∀ r2 a2 w2, Inv P N rb ops its sig base r0 h0 w0 (plus S x.i) r2 a2 w2 → K a2 w2) :
    if Region.wanted o (yielded ops a.tmps) then o.wp P a w K Q ∨ (o.asks P a w ∧ LetsOut Q) else K (a.put o.dst undef) w := by
  obtain ⟨rfl, hg, hnc⟩ := compStep_op hs
  have hdst := compStep_dst hs
  rw [gd_sound he' hg hgd]
  have hH : ∀ m, HS its sig rb (plus S x.i) m = HS its sig rb S m := HS_plus_same D hk hx h2 h3
  have mk : ∀ {r2 : Rho} {w2 : World} {v' : Value}, VR r2 v v' → Rel base r2 (HS its sig rb S its.length) w2 → Fr base r (HS its sig rb S its.length) w r2 (HS its sig rb S its.length) w2 → Fsh none r (HS its sig rb S its.length) r2 →
      Inv P N rb ops its sig base r0 h0 w0 (plus S x.i) r2 (a.put o.dst v') w2 := fun {r2 w2 v'} m1 m2 m3 m4 => by
    refine ⟨env_new D hC hk hx hS I.env m3.le hd (by rw [I.size]; exact hdst) (fun q hq => by rw [hv q hq]; exact m1), by rw [hH]; exact m2, by rw [hH]; exact I.fr.trans m3, I.fsh.trans I.fr.next m4 (fun n q => by cases q), fun p y q1 q2 q3 => ?_, by rw [defers_put]; exact I.defers, by rw [size_put]; exact I.size, by rw [hH]; exact I.next⟩
    have hne : y.i ≠ x.i := fun q => by rw [q, plus_self] at q3; cases q3
    rw [plus_ne S hne] at q3
    have hn := I.pend p y q1 q2 q3
    have hlt : rb + y.i < (HS its sig rb S its.length).next := by have := I.next; have := D.lt q1; omega
    exact m4 _ hlt (by simp) hn
  cases c with
  | true =>
    rw [if_pos rfl]; left
    exact op_wp (nckC_sound hnc I.rel he' (nm := none) (fun n q => by cases q) (h1 rfl)) fun r2 w2 v' m1 m2 m3 m4 => hK _ _ _ (mk m1 m2 m3 m4)
  | false =>
    rw [if_neg (by simp)]
    have hu := h0' rfl
    subst hu
    exact hK _ _ _ (mk .undef I.rel (Fr.refl ..) (Fsh.refl none r _))

theorem sameA_eq {a b : Addr} (h : sameA a b = true) : a = b := by
  obtain ⟨x, y, z⟩ := a; obtain ⟨x', y', z'⟩ := b
  simp only [sameA, Bool.and_eq_true, beq_iff_eq] at h
  obtain ⟨⟨rfl, rfl⟩, rfl⟩ := h; rfl
theorem same1_eq {u v : Value} (h : same1 u v = true) : u = v := by
  unfold same1 at h
  split at h
  · rw [beq_iff_eq] at h; rw [h]
  · rw [Bool.and_eq_true, decide_eq_true_eq, beq_iff_eq] at h; rw [h.1, h.2]
  · rename_i a b
    rw [beq_iff_eq] at h
    obtain ⟨⟨x⟩⟩ := a; obtain ⟨⟨y⟩⟩ := b
    simp only at h; rw [h]
  · rfl
  · rw [sameA_eq h]
  · rw [Bool.and_eq_true, beq_iff_eq, beq_iff_eq] at h; rw [h.1, h.2]
  · simp only [Bool.and_eq_true, beq_iff_eq] at h; rw [sameA_eq h.1.1, h.1.2, h.2]
  · rfl
  · rfl
  · cases h
theorem sameL_eq : ∀ {x y : List Value}, sameL x y = true → x = y := by
  intro x
  induction x with
  | nil => intro y h; cases y with | nil => rfl | cons => cases h
  | cons a x ih =>
    intro y h
    cases y with
    | nil => cases h
    | cons b y => simp only [sameL, Bool.and_eq_true] at h; rw [same1_eq h.1, ih h.2]
theorem sameV_eq {u v : Value} (h : sameV u v = true) : u = v := by
  unfold sameV at h
  split at h
  · rename_i a b; rw [show a = b from Array.ext' (sameL_eq h)]
  · exact same1_eq h

theorem exists_last {Q : Nat → Prop} : ∀ L, (∃ p, p < L ∧ Q p) → ∃ p, p < L ∧ Q p ∧ ∀ q, p < q → q < L → ¬ Q q := by
  intro L
  induction L with
  | zero => rintro ⟨p, h, _⟩; omega
  | succ L ih =>
    rintro ⟨p, h, hp⟩
    by_cases hL : Q L
    · exact ⟨L, by omega, hL, fun q h1 h2 => by omega⟩
    · have : p ≠ L := fun q => hL (q ▸ hp)
      obtain ⟨p', g1, g2, g3⟩ := ih ⟨p, by omega, hp⟩
      refine ⟨p', by omega, g2, fun q h1 h2 => ?_⟩
      by_cases hq : q = L
      · rw [hq]; exact hL
      · exact g3 q h1 (by omega)

theorem put_inj {e : Env} {d : Nat} {v v' : Value} (h : put e (some d) v = put e (some d) v') : v = v' := by
  simp only [put, List.cons.injEq, Prod.mk.injEq, true_and, and_true] at h; exact h

/-- The memory at a stage holds what the canonical one held, where no acting operation came since. -/
theorem sub_tail (D : Dr P N ops call rb its sig) {k : Nat} (W : Wit base N rb ops its sig k) (hk : k ≤ its.length) (hpre : ∀ n, (HS its sig rb S k).get n = (sig k).2.get n)
    (hno : ∀ (p : Nat) (y : It), k ≤ p → p < its.length → its[p]? = some y → y.k = 3 → S y.i = false) : ∀ n B, (sig k).2.get n = some B → (HS its sig rb S its.length).get n = some B := by
  intro n B hB
  obtain ⟨_, ht⟩ := HS_tail D (S := S) its.length hk hno
  rcases ht n with ⟨p, y, g1, g2, g3, g4, g5, g6, g7⟩ | ⟨g1, g2⟩
  · rw [g6, W.none g1 g3 g4] at hB; cases hB
  · rw [g2, hpre]; exact hB

/-- A look at memory, wherever it comes. -/
theorem look_step (D : Dr P N ops call rb its sig) (W : ∀ k, k ≤ its.length → Wit base N rb ops its sig k) (hC : Cl ops S) {k : Nat} {x : It} (hk : its[k]? = some x) (h1 : x.k = 1) (hcl : ∀ j, isBef (befs ops) j x.i = true → S j = true ∨ j = x.i) (hS : S x.i = false)
    {o : Oper} (ho : ops[x.i]? = some o) {d : Option Nat} {g : Option (Nat × Bool)} {j : IOp} (hs : compStep P N ops o = some (.op d g j)) (hxs : x.s = .op d g j) (hj : kI j = 1) {v : Value} {h2 : H} (hgd : gd (sig k).1 g = some true) (hop : opE j (sig k).1 (sig k).2 none = some (v, h2)) :
    opE j (sig k).1 (HS its sig rb S its.length) none = some (v, HS its sig rb S its.length) := by
  have hlen : k < its.length := (List.getElem?_eq_some_iff.1 hk).1
  have hx5 : x.k ≠ 5 := by omega
  have hpre : ∀ n, (HS its sig rb S k).get n = (sig k).2.get n := (HS_pre D k (Nat.le_refl _) (fun p y hp hy hk2 => by
    have hy5 : y.k ≠ 5 := by rcases hk2 with q | q <;> omega
    have hpk := D.pk hp hy hk hy5 hx5
    have hb := hpk.bb (by rcases hk2 with q | q <;> simp [q, h1])
    exact (hcl _ hb).resolve_right hpk.ne) (by omega)).2
  by_cases hno : ∀ (p : Nat) (y : It), k ≤ p → p < its.length → its[p]? = some y → y.k = 3 → S y.i = false
  · exact (opE_k1 hj hop).2 _ (sub_tail D (W k (by omega)) (by omega) hpre hno)
  · -- behind the last acting operation it was looked at once more
    have hex : ∃ p, p < its.length ∧ (k ≤ p ∧ ∃ y, its[p]? = some y ∧ y.k = 3 ∧ S y.i = true) := by
      by_cases hh : ∃ p, p < its.length ∧ (k ≤ p ∧ ∃ y, its[p]? = some y ∧ y.k = 3 ∧ S y.i = true)
      · exact hh
      · exact absurd (fun p y q1 q2 q3 q4 => by
          cases hSy : S y.i with
          | false => rfl
          | true => exact absurd ⟨p, q2, q1, y, q3, q4, hSy⟩ hh) hno
    obtain ⟨k2, l1, ⟨l2, y, l3, l4, l5⟩, l6⟩ := exists_last its.length hex
    have hne : k2 ≠ k := fun q => by rw [q, hk] at l3; cases l3; omega
    have hnb : isBef (befs ops) x.i y.i = false := by
      cases hb : isBef (befs ops) x.i y.i with
      | false => rfl
      | true => have := bef_closed hC _ _ hb l5; rw [hS] at this; cases this
    obtain ⟨k3, z, c1, c2, c3, c4, c5⟩ := D.ck k k2 x y (by omega) hk l3 h1 l4 hnb
    have hk3 : k3 < its.length := (List.getElem?_eq_some_iff.1 c2).1
    have hsig : ∀ m, k2 + 1 ≤ m → m ≤ k3 → sig m = sig (k2 + 1) := by
      intro m
      induction m with
      | zero => intro h; omega
      | succ m ih =>
        intro q1 q2
        by_cases hm : m = k2
        · rw [hm]
        · have hu : its[m]? = some its[m] := List.getElem?_eq_getElem (by omega)
          rw [D.chk hu (c5 m _ (by omega) (by omega) hu)]
          exact ih (by omega) (by omega)
    -- slots between
    have hslot : ∀ m, k + 1 ≤ m → m ≤ its.length → (∀ t ∈ tS x.s, look (sig m).1 t = look (sig k).1 t) ∧ (∀ q, d = some q → look (sig m).1 q = some (valOf sig k)) := by
      have hit := D.it k x hk
      simp only [itemOK, Bool.and_eq_true, h1] at hit
      have hd0 : ∀ q, d = some q → q ∉ tS x.s := fun q hq => by
        subst hq
        have := hit.1.2
        rw [hxs] at this ⊢
        simp only [dS] at this
        simpa using this
      intro m
      induction m with
      | zero => intro h; omega
      | succ m ih =>
        intro q1 q2
        by_cases hm : m = k
        · subst hm
          obtain ⟨e1, _⟩ := D.env hk hx5
          have hdd : dS x.s = d := by rw [hxs]; rfl
          rw [e1, hdd]
          refine ⟨fun t ht => look_put_ne (fun q => hd0 t q ht), fun q hq => by rw [hq, look_put_same]⟩
        · obtain ⟨i1, i2⟩ := ih (by omega) (by omega)
          have hu : its[m]? = some its[m] := List.getElem?_eq_getElem (by omega)
          generalize its[m] = u at hu
          by_cases h5 : u.k = 5
          · rw [D.chk hu h5]; exact ⟨i1, i2⟩
          · obtain ⟨e1, _⟩ := D.env hu h5
            have hp := (D.pk (by omega : k < m) hk hu hx5 h5).r1 h1
            rw [e1]
            refine ⟨fun t ht => by rw [look_put_ne (fun q => (hp t q).1 ht)]; exact i1 t ht, fun q hq => ?_⟩
            rw [look_put_ne (fun q' => (hp q q').2 (by rw [hxs]; exact hq))]; exact i2 q hq
    obtain ⟨s1, s2⟩ := hslot k3 (by omega) (by omega)
    -- the look behind it
    have hz := D.st k3 z c2
    obtain ⟨oz, ho2, hcase⟩ := D.sp k3 z c2
    rw [c4, ho] at ho2; cases ho2
    rcases hcase with ⟨q, _⟩ | ⟨q, _⟩ | ⟨q, _⟩ | ⟨q, _⟩ | ⟨_, d', g', j', hs', hzs⟩
    · omega
    · omega
    · omega
    · omega
    · rw [hs] at hs'
      cases hs'
      rw [hzs] at hz
      simp only [stepE] at hz
      have hsame : Same (sig k3).1 (sig k).1 (tS x.s) := s1
      rw [hxs] at hsame
      simp only [tS] at hsame
      rw [gd_same' hsame.l, hgd] at hz
      simp only at hz
      rw [opE_same hsame.r] at hz
      split at hz
      · rename_i v2 h3 hop2
        rw [s2 d' rfl] at hz
        simp only at hz
        split at hz
        · rename_i hsv
          have hv2 := sameV_eq hsv
          have hval : valOf sig k = v := by
            have E := D.st k x hk
            rw [hxs] at E
            simp only [stepE, hgd, hop] at E
            have e1 := (D.env hk hx5).1
            rw [← Option.some.inj E, hxs] at e1
            exact (put_inj e1).symm
          rw [hsig k3 (by omega) (Nat.le_refl _)] at hop2
          have hmono := (opE_k1 hj hop2).2
          have hH : ∀ n, (HS its sig rb S (k2 + 1)).get n = (sig (k2 + 1)).2.get n := fun n => by
            simp only [HS, l3]; rw [if_pos ⟨l4, l5⟩]
          have := hmono _ (sub_tail D (W (k2 + 1) (by omega)) (by omega) hH (fun p u q1 q2 q3 q4 => by
            cases hSu : S u.i with
            | false => rfl
            | true => exact absurd ⟨by omega, u, q3, q4, hSu⟩ (l6 p (by omega) q2)))
          rw [this, ← hv2, hval]
        · cases hz
      · cases hz

/-- A look into a block that the region itself has made. -/
theorem own_look (D : Dr P N ops call rb its sig) (hC : Cl ops S) {k : Nat} {x : It} (hk : its[k]? = some x) (h4 : x.k = 4) (hcl : ∀ j, isBef (befs ops) j x.i = true → S j = true ∨ j = x.i) (hS : S x.i = false) :
    (HS its sig rb S its.length).get (rb + x.q) = (sig k).2.get (rb + x.q) := by
  have hlen : k < its.length := (List.getElem?_eq_some_iff.1 hk).1
  have hx5 : x.k ≠ 5 := by omega
  have hit := D.it k x hk
  simp only [itemOK, Bool.and_eq_true, h4] at hit
  have hit2 := hit.2
  simp only [Bool.or_eq_true, Bool.and_eq_true, List.any_eq_true] at hit2
  obtain ⟨hb, y, hy, hyq⟩ := hit2.resolve_left (by simp)
  simp only [beq_iff_eq] at hyq
  obtain ⟨kq, hkq, hyk⟩ := List.getElem_of_mem hy
  have hyi : its[kq]? = some y := by rw [List.getElem?_eq_getElem hkq, hyk]
  obtain ⟨hy2, hyi2⟩ := hyq
  have hy5 : y.k ≠ 5 := by omega
  have hlt : kq < k := by
    rcases Nat.lt_trichotomy kq k with q | q | q
    · exact q
    · subst q; rw [hk] at hyi; cases hyi; omega
    · have := (D.pk q hk hyi hx5 hy5).nb
      rw [hyi2, hb] at this; cases this
  have hSq : S y.i = true := by
    rcases hcl x.q hb with q | q
    · rw [hyi2]; exact q
    · exact absurd (hyi2.trans q) (D.pk hlt hyi hk hy5 hx5).ne
  have hnoB : ∀ (p : Nat) (z : It), kq + 1 ≤ p → p < k → its[p]? = some z → z.k ≠ 3 := fun p z q1 q2 q3 q4 => by
    have hz5 : z.k ≠ 5 := by omega
    have g1 := (D.pk (by omega : kq < p) hyi q3 hy5 hz5).bb (.inr (.inl ⟨hy2, q4⟩))
    have hp := D.pk q2 q3 hk hz5 hx5
    have := hp.r2 h4 q4 (by rw [← hyi2]; exact g1)
    rw [hp.nb] at this; cases this
  have hcan : ∀ m, kq + 1 ≤ m → m ≤ k → (sig m).2.get (rb + x.q) = (sig (kq + 1)).2.get (rb + x.q) := by
    intro m
    induction m with
    | zero => intro h; omega
    | succ m ih =>
      intro q1 q2
      by_cases hm : m = kq
      · rw [hm]
      · have hu : its[m]? = some its[m] := List.getElem?_eq_getElem (by omega)
        generalize its[m] = u at hu
        rw [← ih (by omega) (by omega)]
        by_cases u2 : u.k = 2
        · refine (D.heapA hu u2).2 _ (fun q => ?_)
          have hui : y.i = u.i := by rw [hyi2]; omega
          have := D.uniq hyi hu hy5 (by omega) hui
          omega
        · rw [D.heap hu u2 (hnoB m u (by omega) (by omega) hu)]
  rw [hcan k (by omega) (Nat.le_refl _)]
  have hset : (HS its sig rb S (kq + 1)).get (rb + x.q) = (sig (kq + 1)).2.get (rb + x.q) := by
    simp only [HS, hyi]
    rw [if_neg (fun q => by omega), if_pos ⟨hy2, hSq⟩, H.get_set, hyi2, if_pos rfl]
  rw [← hset]
  obtain ⟨_, ht⟩ := HS_tail D (S := S) (k := kq + 1) its.length (by omega) (fun p z q1 q2 q3 q4 => by
    cases hSz : S z.i with
    | false => rfl
    | true =>
      have hz5 : z.k ≠ 5 := by omega
      have g1 := (D.pk (by omega : kq < p) hyi q3 hy5 hz5).bb (.inr (.inl ⟨hy2, q4⟩))
      rw [hyi2] at g1
      rcases Nat.lt_trichotomy p k with q | q | q
      · exact absurd q4 (hnoB p z q1 q q3)
      · subst q; rw [hk] at q3; cases q3; omega
      · have := (D.pk q hk q3 hx5 hz5).r3 h4 q4 g1
        have := bef_closed hC _ _ this hSz
        rw [hS] at this; cases this)
  rcases ht (rb + x.q) with ⟨p, z, g1, g2, g3, g4, g5, g6, g7⟩ | ⟨_, g2⟩
  · have hui : y.i = z.i := by rw [hyi2]; omega
    have := D.uniq hyi g3 hy5 (by omega) hui
    omega
  · exact g2
end Go.Proofs.Ytncpdahappmhkaa.Am
