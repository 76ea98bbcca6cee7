/- A region that draws its order: where a walk stands when some of its operations are done. -/
import Derived.Test.YtncpdahappmhkaaAmO
namespace Go.Proofs.Ytncpdahappmhkaa.Am
open Go
set_option linter.unusedVariables false
set_option linter.unusedSimpArgs false

def valOf (sig : Nat → Env × H) (k : Nat) : Value := match (sig (k + 1)).1 with | (_, v) :: _ => v | [] => undef
def ES (its : List It) (sig : Nat → Env × H) (S : Nat → Bool) : Nat → Env
  | 0 => (sig 0).1
  | k + 1 => match its[k]? with
    | some x => if x.k ≠ 5 ∧ S x.i = true then put (ES its sig S k) (dS x.s) (valOf sig k) else ES its sig S k
    | none => ES its sig S k
def HS (its : List It) (sig : Nat → Env × H) (rb : Nat) (S : Nat → Bool) : Nat → H
  | 0 => (sig 0).2
  | k + 1 => match its[k]? with
    | some x => if x.k = 3 ∧ S x.i = true then (sig (k + 1)).2 else if x.k = 2 ∧ S x.i = true then (HS its sig rb S k).set (rb + x.i) ((sig (k + 1)).2.get (rb + x.i)) else HS its sig rb S k
    | none => HS its sig rb S k

structure Dr (P : Program) (N : Nat) (ops : Array Oper) (call : CallE) (rb : Nat) (its : List It) (sig : Nat → Env × H) : Prop where
  sp : ∀ (k : Nat) (x : It), its[k]? = some x → Sp P N ops x
  st : ∀ (k : Nat) (x : It), its[k]? = some x → stepE call rb x.s (sig k).1 (sig k).2 = some (sig (k + 1))
  pr : ∀ (k1 k2 : Nat) (x y : It), k1 < k2 → its[k1]? = some x → its[k2]? = some y → pairOK (befs ops) x y = true
  ck : ∀ (k1 k2 : Nat) (x y : It), k1 < k2 → its[k1]? = some x → its[k2]? = some y → x.k = 1 → y.k = 3 → isBef (befs ops) x.i y.i = false →
    ∃ (k3 : Nat) (z : It), k2 < k3 ∧ its[k3]? = some z ∧ z.k = 5 ∧ z.i = x.i ∧ ∀ (m : Nat) (u : It), k2 < m → m < k3 → its[m]? = some u → u.k = 5
  it : ∀ (k : Nat) (x : It), its[k]? = some x → itemOK (befs ops) ops.size its x = true
  all : ∀ i, i < ops.size → ∃ (k : Nat) (x : It), its[k]? = some x ∧ x.k ≠ 5 ∧ x.i = i
  nx : (sig 0).2.next = rb + ops.size
  edge : edgesOK ops = true

variable {P : Program} {N : Nat} {ops : Array Oper} {call : CallE} {rb : Nat} {its : List It} {sig : Nat → Env × H} {S : Nat → Bool}

structure PK (ops : Array Oper) (x y : It) : Prop where
  ne : x.i ≠ y.i
  nb : isBef (befs ops) y.i x.i = false
  ap : isBef (befs ops) x.i y.i = true ∨ ((∀ d, dS x.s = some d → d ∉ tS y.s ∧ dS y.s ≠ some d) ∧ (∀ d, dS y.s = some d → d ∉ tS x.s))
  bb : (x.k = 3 ∧ y.k = 3) ∨ (x.k = 2 ∧ y.k = 3) ∨ (x.k = 3 ∧ y.k = 1) ∨ (x.k = 2 ∧ y.k = 1) → isBef (befs ops) x.i y.i = true
  r1 : x.k = 1 → ∀ d, dS y.s = some d → d ∉ tS x.s ∧ dS x.s ≠ some d
  r2 : y.k = 4 → x.k = 3 → isBef (befs ops) y.q x.i = true → isBef (befs ops) y.i x.i = true
  r3 : x.k = 4 → y.k = 3 → isBef (befs ops) x.q y.i = true → isBef (befs ops) x.i y.i = true

theorem Dr.pk (D : Dr P N ops call rb its sig) {k1 k2 : Nat} {x y : It} (hlt : k1 < k2) (h1 : its[k1]? = some x) (h2 : its[k2]? = some y) (hx : x.k ≠ 5) (hy : y.k ≠ 5) : PK ops x y := by
  have h := D.pr k1 k2 x y hlt h1 h2
  have e1 : (x.k == 5) = false := by simpa using hx
  have e2 : (y.k == 5) = false := by simpa using hy
  simp only [pairOK, e1, e2, Bool.false_or, Bool.and_eq_true] at h
  obtain ⟨⟨⟨⟨⟨⟨g1, g2⟩, g3⟩, g4⟩, g5⟩, g6⟩, g7⟩ := h
  refine ⟨by simpa using g1, by simpa using g2, ?_, fun q => ?_, fun q d hd => ?_, fun q1 q2 q3 => ?_, fun q1 q2 q3 => ?_⟩
  · rw [Bool.or_eq_true] at g3
    refine g3.imp id fun g3 => ?_
    simp only [apartS, Bool.and_eq_true] at g3
    refine ⟨fun d hd => ?_, fun d hd => ?_⟩
    · have := g3.1; rw [hd] at this; simp only [Bool.and_eq_true] at this; exact ⟨by simpa using this.1, by simpa using this.2⟩
    · have := g3.2; rw [hd] at this; simpa using this
  · rw [Bool.or_eq_true] at g4
    refine g4.resolve_left (fun g => ?_)
    rcases q with ⟨q1, q2⟩ | ⟨q1, q2⟩ | ⟨q1, q2⟩ | ⟨q1, q2⟩ <;> simp [q1, q2] at g
  · rw [hd] at g5; simp only [q, Bool.or_eq_true, Bool.and_eq_true] at g5
    rcases g5 with g5 | g5
    · simp at g5
    · exact ⟨by simpa using g5.1, by simpa using g5.2⟩
  · simpa [q1, q2, q3] using g6
  · simpa [q1, q2, q3] using g7

/-- The operation at a place is its own only place. -/
theorem Dr.uniq (D : Dr P N ops call rb its sig) {k1 k2 : Nat} {x y : It} (h1 : its[k1]? = some x) (h2 : its[k2]? = some y) (hx : x.k ≠ 5) (hy : y.k ≠ 5) (he : x.i = y.i) : k1 = k2 := by
  rcases Nat.lt_trichotomy k1 k2 with h | h | h
  · exact absurd he (D.pk h h1 h2 hx hy).ne
  · exact h
  · exact absurd he.symm (D.pk h h2 h1 hy hx).ne

theorem Dr.env (D : Dr P N ops call rb its sig) {k : Nat} {x : It} (h : its[k]? = some x) (hx : x.k ≠ 5) : (sig (k + 1)).1 = put (sig k).1 (dS x.s) (valOf sig k) ∧ (∀ d g i, x.s ≠ .chk d g i) := by
  have hn : ∀ d g i, x.s ≠ .chk d g i := fun d g i q => by
    obtain ⟨o, _, hk⟩ := D.sp k x h
    rcases hk with ⟨_, _, q'⟩ | ⟨_, _, _, _, _, q', _⟩ | ⟨_, _, _, _, _, q', _⟩ | ⟨_, _, _, _, _, q', _⟩ | ⟨q', _⟩
    · exact q' _ _ _ q
    · rw [q] at q'; cases q'
    · rw [q] at q'; cases q'
    · rw [q] at q'; cases q'
    · exact hx q'
  obtain ⟨v, g1, _⟩ := stepE_same (e := (sig k).1) (e' := (sig k).1) (fun t _ => rfl) hn (D.st k x h)
  refine ⟨?_, hn⟩
  cases hd : dS x.s with
  | none => rw [g1, hd]; rfl
  | some d =>
    have : valOf sig k = v := by
      unfold valOf; rw [g1, hd]; rfl
    rw [g1, hd, this]
theorem Dr.chk (D : Dr P N ops call rb its sig) {k : Nat} {x : It} (h : its[k]? = some x) (hx : x.k = 5) : sig (k + 1) = sig k := by
  obtain ⟨o, _, hk⟩ := D.sp k x h
  rcases hk with ⟨q, _⟩ | ⟨q, _⟩ | ⟨q, _⟩ | ⟨q, _⟩ | ⟨_, d, g, j, _, hs⟩
  · omega
  · omega
  · omega
  · omega
  · have E := D.st k x h
    rw [hs] at E
    simp only [stepE] at E
    split at E
    · split at E
      · split at E
        · split at E
          · exact (Option.some.inj E).symm
          · cases E
        · cases E
      · cases E
    · exact (Option.some.inj E).symm
    · cases E
/-- Looks and plain operations leave the memory alone. -/
theorem Dr.heap (D : Dr P N ops call rb its sig) {k : Nat} {x : It} (h : its[k]? = some x) (h2 : x.k ≠ 2) (h3 : x.k ≠ 3) : (sig (k + 1)).2 = (sig k).2 := by
  by_cases h5 : x.k = 5
  · rw [D.chk h h5]
  · obtain ⟨o, _, hk⟩ := D.sp k x h
    have E := D.st k x h
    rcases hk with ⟨q, _⟩ | ⟨q, d, g, j, _, hs, hj⟩ | ⟨q, _⟩ | ⟨q, d, g, j, _, hs, hj⟩ | ⟨q, _⟩
    · exact absurd q h3
    · rw [hs] at E
      simp only [stepE] at E
      split at E
      · split at E
        · rename_i v h' hop
          have e1 := Option.some.inj E
          rw [← e1]
          rcases q with q | q
          · exact (opE_k0 (hj.trans q) hop).1
          · exact (opE_k1 (hj.trans q) hop).1
        · cases E
      · rw [← Option.some.inj E]
      · cases E
    · exact absurd q h2
    · rw [hs] at E
      simp only [stepE] at E
      split at E
      · split at E
        · split at E
          · split at E
            · rw [← Option.some.inj E]
            · cases E
          · cases E
        · cases E
      · rw [← Option.some.inj E]
      · cases E
    · exact absurd q h5
theorem Dr.heapA (D : Dr P N ops call rb its sig) {k : Nat} {x : It} (h : its[k]? = some x) (h2 : x.k = 2) : (sig (k + 1)).2.next = (sig k).2.next ∧ ∀ n, n ≠ rb + x.i → (sig (k + 1)).2.get n = (sig k).2.get n := by
  obtain ⟨o, _, hk⟩ := D.sp k x h
  have E := D.st k x h
  rcases hk with ⟨q, _⟩ | ⟨q, _⟩ | ⟨q, d, g, j, _, hs, hj⟩ | ⟨q, _⟩ | ⟨q, _⟩
  · omega
  · omega
  · rw [hs] at E
    simp only [stepE] at E
    split at E
    · split at E
      · rename_i v h' hop
        obtain ⟨B, rfl, _⟩ := opE_k2 hj hop
        rw [← Option.some.inj E]
        exact ⟨rfl, fun n hn => H.get_set_ne _ _ hn⟩
      · cases E
    · rw [← Option.some.inj E]; exact ⟨rfl, fun _ _ => rfl⟩
    · cases E
  · omega
  · omega

/-! ### Slots -/
theorem look_put_ne {e : Env} {d : Option Nat} {v : Value} {t : Nat} (h : d ≠ some t) : look (put e d v) t = look e t := by
  cases d with
  | none => rfl
  | some d => simp only [put, look]; rw [if_neg (fun q => h (by rw [q]))]
theorem look_put_same {e : Env} {v : Value} {t : Nat} : look (put e (some t) v) t = some v := by simp [put, look]

theorem ES_pre (D : Dr P N ops call rb its sig) {k : Nat} {x : It} (hk : its[k]? = some x) (hx : x.k ≠ 5) (hcl : ∀ j, isBef (befs ops) j x.i = true → S j = true ∨ j = x.i) (hS : S x.i = false) {t : Nat} (ht : t ∈ tS x.s) :
    ∀ m, m ≤ k → look (ES its sig S m) t = look (sig m).1 t := by
  intro m
  induction m with
  | zero => intro _; rfl
  | succ m ih =>
    intro hm
    have hm' := ih (by omega)
    simp only [ES]
    cases hy : its[m]? with
    | none =>
      have : its.length ≤ m := by simpa using hy
      have : k < its.length := (List.getElem?_eq_some_iff.1 hk).1
      omega
    | some y =>
      simp only
      by_cases h5 : y.k = 5
      · rw [if_neg (fun q => q.1 h5), hm', D.chk hy h5]
      · obtain ⟨g1, _⟩ := D.env hy h5
        by_cases hs : S y.i = true
        · rw [if_pos ⟨h5, hs⟩, g1]
          by_cases hd : dS y.s = some t
          · rw [hd, look_put_same, look_put_same]
          · rw [look_put_ne hd, look_put_ne hd, hm']
        · rw [if_neg (fun q => hs q.2), hm', g1]
          have hp := D.pk (by omega : m < k) hy hk h5 hx
          have hnb : ¬ isBef (befs ops) y.i x.i = true := fun q => by
            rcases hcl _ q with q | q
            · exact hs q
            · exact hp.ne q
          have := (hp.ap.resolve_left hnb).1
          rw [look_put_ne (fun q => (this t q).1 ht)]
theorem ES_post {k : Nat} {t : Nat} : ∀ m, k ≤ m → (∀ (p : Nat) (y : It), k ≤ p → p < m → its[p]? = some y → y.k ≠ 5 → S y.i = true → dS y.s ≠ some t) → look (ES its sig S m) t = look (ES its sig S k) t := by
  intro m
  induction m with
  | zero => intro h _; obtain rfl : k = 0 := by omega
            rfl
  | succ m ih =>
    intro h hq
    by_cases hkm : k = m + 1
    · subst hkm; rfl
    · have hm := ih (by omega) (fun p y h1 h2 => hq p y h1 (by omega))
      simp only [ES]
      cases hy : its[m]? with
      | none => exact hm
      | some y =>
        simp only
        split
        · rename_i hc; rw [look_put_ne (hq m y (by omega) (by omega) hy hc.1 hc.2)]; exact hm
        · exact hm
/-- What a coming operation looks at is what it looks at in the canonical order. -/
theorem ES_look (D : Dr P N ops call rb its sig) (hC : Cl ops S) {k : Nat} {x : It} (hk : its[k]? = some x) (hx : x.k ≠ 5) (hcl : ∀ j, isBef (befs ops) j x.i = true → S j = true ∨ j = x.i) (hS : S x.i = false) {t : Nat} (ht : t ∈ tS x.s) :
    look (ES its sig S its.length) t = look (sig k).1 t := by
  have hlen : k < its.length := (List.getElem?_eq_some_iff.1 hk).1
  rw [ES_post (k := k) its.length (by omega) (fun p y h1 h2 h3 h5 hs => ?_)]
  · exact ES_pre D hk hx hcl hS ht k (Nat.le_refl _)
  · have hpk : p ≠ k := fun q => by subst q; rw [hk] at h3; cases h3; rw [hS] at hs; cases hs
    have hp := D.pk (by omega : k < p) hk h3 hx h5
    have hnb : ¬ isBef (befs ops) x.i y.i = true := fun q => by
      have := bef_closed hC _ _ q hs; rw [hS] at this; cases this
    exact fun q => (hp.ap.resolve_left hnb).2 t q ht

def plus (S : Nat → Bool) (i : Nat) : Nat → Bool := fun j => S j || j == i
theorem plus_self (S : Nat → Bool) (i : Nat) : plus S i i = true := by simp [plus]
theorem plus_ne (S : Nat → Bool) {i j : Nat} (h : j ≠ i) : plus S i j = S j := by simp [plus, h]

theorem ES_plus_pre (D : Dr P N ops call rb its sig) {k : Nat} {x : It} (hk : its[k]? = some x) (hx : x.k ≠ 5) : ∀ m, m ≤ k → ES its sig (plus S x.i) m = ES its sig S m := by
  intro m
  induction m with
  | zero => intro _; rfl
  | succ m ih =>
    intro hm
    simp only [ES, ih (by omega)]
    cases hy : its[m]? with
    | none => rfl
    | some y =>
      simp only
      by_cases h5 : y.k = 5
      · rw [if_neg (fun q => q.1 h5), if_neg (fun q => q.1 h5)]
      · have hne := (D.pk (by omega : m < k) hy hk h5 hx).ne
        rw [plus_ne S hne]
theorem ES_plus (D : Dr P N ops call rb its sig) (hC : Cl ops S) {k : Nat} {x : It} (hk : its[k]? = some x) (hx : x.k ≠ 5) (hS : S x.i = false) (t : Nat) :
    look (ES its sig (plus S x.i) its.length) t = if dS x.s = some t then some (valOf sig k) else look (ES its sig S its.length) t := by
  have hlen : k < its.length := (List.getElem?_eq_some_iff.1 hk).1
  have key : ∀ m, k + 1 ≤ m → (dS x.s = some t → look (ES its sig (plus S x.i) m) t = some (valOf sig k)) ∧ (dS x.s ≠ some t → look (ES its sig (plus S x.i) m) t = look (ES its sig S m) t) := by
    intro m
    induction m with
    | zero => intro h; omega
    | succ m ih =>
      intro hm
      by_cases hkm : m = k
      · subst hkm
        have hno : ¬ (x.k ≠ 5 ∧ S x.i = true) := fun q => by rw [hS] at q; exact absurd q.2 (by simp)
        have e1 : ES its sig (plus S x.i) (m + 1) = put (ES its sig S m) (dS x.s) (valOf sig m) := by
          simp only [ES, hk]; rw [if_pos ⟨hx, plus_self S x.i⟩, ES_plus_pre D hk hx m (Nat.le_refl _)]
        have e2 : ES its sig S (m + 1) = ES its sig S m := by simp only [ES, hk]; rw [if_neg hno]
        rw [e1, e2]
        exact ⟨fun hd => by rw [hd, look_put_same], fun hd => look_put_ne hd⟩
      · have hm' := ih (by omega)
        cases hy : its[m]? with
        | none => simp only [ES, hy]; exact hm'
        | some y =>
          by_cases h5 : y.k = 5
          · have e1 : ∀ S', ES its sig S' (m + 1) = ES its sig S' m := fun S' => by simp only [ES, hy]; rw [if_neg (fun q => q.1 h5)]
            rw [e1, e1]; exact hm'
          · have hp := D.pk (by omega : k < m) hk hy hx h5
            by_cases hs : S y.i = true
            · have e1 : ES its sig S (m + 1) = put (ES its sig S m) (dS y.s) (valOf sig m) := by simp only [ES, hy]; rw [if_pos ⟨h5, hs⟩]
              have e2 : ES its sig (plus S x.i) (m + 1) = put (ES its sig (plus S x.i) m) (dS y.s) (valOf sig m) := by simp only [ES, hy]; rw [if_pos ⟨h5, by rw [plus_ne S hp.ne.symm]; exact hs⟩]
              rw [e1, e2]
              have hnb : ¬ isBef (befs ops) x.i y.i = true := fun q => by
                have := bef_closed hC _ _ q hs; rw [hS] at this; cases this
              have hap := (hp.ap.resolve_left hnb).1
              by_cases hd : dS y.s = some t
              · refine ⟨fun q => absurd hd (hap t q).2, fun _ => ?_⟩
                rw [hd, look_put_same, look_put_same]
              · rw [look_put_ne hd, look_put_ne hd]; exact hm'
            · have e1 : ES its sig S (m + 1) = ES its sig S m := by simp only [ES, hy]; rw [if_neg (fun q => hs q.2)]
              have e2 : ES its sig (plus S x.i) (m + 1) = ES its sig (plus S x.i) m := by simp only [ES, hy]; rw [if_neg (fun q => hs (by rw [← plus_ne S hp.ne.symm]; exact q.2))]
              rw [e1, e2]; exact hm'
  have := key its.length (by omega)
  split
  · rename_i q; exact this.1 q
  · rename_i q; exact this.2 q

/-! ### Memory -/
theorem HS_pre (D : Dr P N ops call rb its sig) {k : Nat} : ∀ m, m ≤ k → (∀ (p : Nat) (y : It), p < k → its[p]? = some y → (y.k = 2 ∨ y.k = 3) → S y.i = true) → k ≤ its.length →
    (HS its sig rb S m).next = (sig m).2.next ∧ ∀ n, (HS its sig rb S m).get n = (sig m).2.get n := by
  intro m
  induction m with
  | zero => intro _ _ _; exact ⟨rfl, fun _ => rfl⟩
  | succ m ih =>
    intro hm hq hl
    obtain ⟨i1, i2⟩ := ih (by omega) hq hl
    simp only [HS]
    cases hy : its[m]? with
    | none => have : its.length ≤ m := by simpa using hy
              omega
    | some y =>
      simp only
      by_cases h3 : y.k = 3
      · rw [if_pos ⟨h3, hq m y (by omega) hy (.inr h3)⟩]; exact ⟨rfl, fun _ => rfl⟩
      · rw [if_neg (fun q => h3 q.1)]
        by_cases h2 : y.k = 2
        · rw [if_pos ⟨h2, hq m y (by omega) hy (.inl h2)⟩]
          obtain ⟨a1, a2⟩ := D.heapA hy h2
          refine ⟨by rw [H.next_set, i1, a1], fun n => ?_⟩
          rw [H.get_set]
          split
          · rename_i e; rw [e]
          · rename_i e; rw [i2, a2 n e]
        · rw [if_neg (fun q => h2 q.1), D.heap hy h2 h3]; exact ⟨i1, i2⟩

theorem HS_tail (D : Dr P N ops call rb its sig) {k : Nat} : ∀ m, k ≤ m → (∀ (p : Nat) (y : It), k ≤ p → p < m → its[p]? = some y → y.k = 3 → S y.i = false) →
    (HS its sig rb S m).next = (HS its sig rb S k).next ∧ ∀ n, (∃ (p : Nat) (y : It), k ≤ p ∧ p < m ∧ its[p]? = some y ∧ y.k = 2 ∧ S y.i = true ∧ n = rb + y.i ∧ (HS its sig rb S m).get n = (sig (p + 1)).2.get n) ∨
      ((∀ (p : Nat) (y : It), k ≤ p → p < m → its[p]? = some y → y.k = 2 → S y.i = true → n ≠ rb + y.i) ∧ (HS its sig rb S m).get n = (HS its sig rb S k).get n) := by
  intro m
  induction m with
  | zero => intro h _; obtain rfl : k = 0 := by omega
            exact ⟨rfl, fun n => .inr ⟨fun p y h1 h2 => by omega, rfl⟩⟩
  | succ m ih =>
    intro h hq
    by_cases hkm : k = m + 1
    · subst hkm; exact ⟨rfl, fun n => .inr ⟨fun p y h1 h2 => by omega, rfl⟩⟩
    · obtain ⟨i1, i2⟩ := ih (by omega) (fun p y h1 h2 => hq p y h1 (by omega))
      simp only [HS]
      cases hy : its[m]? with
      | none =>
        refine ⟨i1, fun n => ?_⟩
        rcases i2 n with ⟨p, y, g1, g2, g3⟩ | ⟨g1, g2⟩
        · exact .inl ⟨p, y, g1, by omega, g3⟩
        · refine .inr ⟨fun p y q1 q2 q3 => ?_, g2⟩
          by_cases hpm : p = m
          · subst hpm; rw [hy] at q3; cases q3
          · exact g1 p y q1 (by omega) q3
      | some y =>
        simp only
        have h3 : ¬ (y.k = 3 ∧ S y.i = true) := fun q => by
          have := hq m y (by omega) (by omega) hy q.1; rw [this] at q; exact absurd q.2 (by simp)
        rw [if_neg h3]
        by_cases h2 : y.k = 2 ∧ S y.i = true
        · rw [if_pos h2]
          refine ⟨i1, fun n => ?_⟩
          rw [H.get_set]
          by_cases hn : n = rb + y.i
          · rw [if_pos hn]; exact .inl ⟨m, y, by omega, by omega, hy, h2.1, h2.2, hn, by rw [hn]⟩
          · rw [if_neg hn]
            rcases i2 n with ⟨p, z, g1, g2, g3⟩ | ⟨g1, g2⟩
            · exact .inl ⟨p, z, g1, by omega, g3⟩
            · refine .inr ⟨fun p z q1 q2 q3 q4 q5 => ?_, g2⟩
              by_cases hpm : p = m
              · subst hpm; rw [hy] at q3; cases q3; exact hn
              · exact g1 p z q1 (by omega) q3 q4 q5
        · rw [if_neg h2]
          refine ⟨i1, fun n => ?_⟩
          rcases i2 n with ⟨p, z, g1, g2, g3⟩ | ⟨g1, g2⟩
          · exact .inl ⟨p, z, g1, by omega, g3⟩
          · refine .inr ⟨fun p z q1 q2 q3 q4 q5 => ?_, g2⟩
            by_cases hpm : p = m
            · subst hpm; rw [hy] at q3; cases q3; exact absurd ⟨q4, q5⟩ h2
            · exact g1 p z q1 (by omega) q3 q4 q5
theorem HS_plus_pre (D : Dr P N ops call rb its sig) {k : Nat} {x : It} (hk : its[k]? = some x) (hx : x.k ≠ 5) : ∀ m, m ≤ k → HS its sig rb (plus S x.i) m = HS its sig rb S m := by
  intro m
  induction m with
  | zero => intro _; rfl
  | succ m ih =>
    intro hm
    simp only [HS, ih (by omega)]
    cases hy : its[m]? with
    | none => rfl
    | some y =>
      simp only
      by_cases h5 : y.k = 5
      · rw [if_neg (fun q => by omega), if_neg (fun q => by omega), if_neg (fun q => by omega), if_neg (fun q => by omega)]
      · have hne := (D.pk (by omega : m < k) hy hk h5 hx).ne
        rw [plus_ne S hne]
/-- Where an operation neither acts nor makes a block, the memory is the same with it as without. -/
theorem HS_plus_same (D : Dr P N ops call rb its sig) {k : Nat} {x : It} (hk : its[k]? = some x) (hx : x.k ≠ 5) (h2 : x.k ≠ 2) (h3 : x.k ≠ 3) : ∀ m, HS its sig rb (plus S x.i) m = HS its sig rb S m := by
  intro m
  induction m with
  | zero => rfl
  | succ m ih =>
    simp only [HS, ih]
    cases hy : its[m]? with
    | none => rfl
    | some y =>
      simp only
      by_cases hmk : m = k
      · subst hmk; rw [hk] at hy; cases hy
        rw [if_neg (fun q => h3 q.1), if_neg (fun q => h2 q.1), if_neg (fun q => h3 q.1), if_neg (fun q => h2 q.1)]
      · by_cases h5 : y.k = 5
        · rw [if_neg (fun q => by omega), if_neg (fun q => by omega), if_neg (fun q => by omega), if_neg (fun q => by omega)]
        · have hne : y.i ≠ x.i := fun q => hmk (D.uniq hy hk h5 hx q)
          rw [plus_ne S hne]
end Go.Proofs.Ytncpdahappmhkaa.Am
