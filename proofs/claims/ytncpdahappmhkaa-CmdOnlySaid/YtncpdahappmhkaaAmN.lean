/- What a step of the abstract machine hangs on. -/
import Derived.Test.YtncpdahappmhkaaAmM
namespace Go.Proofs.Ytncpdahappmhkaa.Am
open Go
set_option linter.unusedVariables false
set_option linter.unusedSimpArgs false

def Same (e e' : Env) (l : List Nat) : Prop := ∀ t ∈ l, look e t = look e' t
theorem Same.l {e e' : Env} {l m : List Nat} (h : Same e e' (l ++ m)) : Same e e' l := fun t ht => h t (List.mem_append_left _ ht)
theorem Same.r {e e' : Env} {l m : List Nat} (h : Same e e' (l ++ m)) : Same e e' m := fun t ht => h t (List.mem_append_right _ ht)
theorem ev_same {e e' : Env} {x : Operand} (h : Same e e' (tO x)) : ev e x = ev e' x := by
  cases x <;> first | rfl | exact h _ (by simp [tO])
theorem evs_same {e e' : Env} : ∀ {xs : List Operand}, Same e e' (tL xs) → evs e xs = evs e' xs := by
  intro xs
  induction xs with
  | nil => intro _; rfl
  | cons x xs ih => intro h; simp only [evs, ev_same h.l, ih h.r]
theorem evp_same {e e' : Env} : ∀ {xs : List (Nat × Nat × Operand)}, Same e e' (tP xs) → evp e xs = evp e' xs := by
  intro xs
  induction xs with
  | nil => intro _; rfl
  | cons x xs ih => obtain ⟨a, b, x⟩ := x; intro h; simp only [evp, ev_same (x := x) h.l, ih h.r]
theorem bnd_same {e e' : Env} {x : Option Operand} (h : Same e e' (tOp x)) : bnd e x = bnd e' x := by
  cases x with
  | none => rfl
  | some x => simp only [bnd, ev_same (x := x) h]
theorem opE_same {e e' : Env} {i : IOp} {h : H} {nm : Option Nat} (s : Same e e' (tI i)) : opE i e h nm = opE i e' h nm := by
  cases i <;> simp only [tI] at s
  case new z => rfl
  case lenC n => rfl
  case bad => rfl
  case pick c a b => simp only [opE, ev_same s.l, ev_same s.r.l, ev_same s.r.r]
  case build z ps => simp only [opE, evp_same s]
  case bsl es len z ps => simp only [opE, evp_same s]
  case mkF fn fs cs => simp only [opE, evs_same s.l, evs_same s.r]
  case slS x lo hi => simp only [opE, ev_same s.l, bnd_same s.r.l, bnd_same s.r.r]
  case slV es x lo hi mx => simp only [opE, ev_same s.l, bnd_same s.r.l, bnd_same s.r.r.l, bnd_same s.r.r.r]
  case slA n es x lo hi mx => simp only [opE, ev_same s.l, bnd_same s.r.l, bnd_same s.r.r.l, bnd_same s.r.r.r]
  all_goals first | (simp only [opE, ev_same s]; done) | (simp only [opE, ev_same s.l, ev_same s.r]; done)
theorem addrOf_same {e e' : Env} {i : IOp} (s : Same e e' (tI i)) : addrOf i e = addrOf i e' := by
  cases i <;> first | rfl | (simp only [tI] at s; simp only [addrOf, ev_same s])

theorem opE_k0 {i : IOp} (hk : kI i = 0) {e : Env} {h h2 : H} {nm : Option Nat} {v : Value} (E : opE i e h nm = some (v, h2)) : h2 = h ∧ ∀ h' nm', opE i e h' nm' = some (v, h') := by
  cases i <;> simp only [kI] at hk <;> try (cases hk; done)
  all_goals
    simp only [opE] at E ⊢
    (repeat' split at E) <;> first | (cases E; done) | (cases E; refine ⟨rfl, fun h' nm' => ?_⟩; first | (simp_all; done) | (simp_all; omega))
theorem opE_k1 {i : IOp} (hk : kI i = 1) {e : Env} {h h2 : H} {nm : Option Nat} {v : Value} (E : opE i e h nm = some (v, h2)) : h2 = h ∧ ∀ h', (∀ x B, h.get x = some B → h'.get x = some B) → opE i e h' nm = some (v, h') := by
  have ld : ∀ {a u h'}, h.ld a = some u → (∀ x B, h.get x = some B → h'.get x = some B) → H.ld h' a = some u := fun {a u h'} q s => by
    unfold H.ld at q ⊢
    split at q
    · cases q
    · split at q
      · rename_i B hB; rw [s _ _ hB]; exact q
      · cases q
  have lds : ∀ {a n u h'}, h.lds a n = some u → (∀ x B, h.get x = some B → h'.get x = some B) → H.lds h' a n = some u := fun {a n u h'} q s => by
    unfold H.lds at q ⊢
    split at q
    · rename_i h0; rw [if_pos h0]; exact q
    · rename_i h0; rw [if_neg h0]
      split at q
      · cases q
      · split at q
        · rename_i B hB; rw [s _ _ hB]; exact q
        · cases q
  cases i <;> simp only [kI] at hk <;> try (cases hk; done)
  case ld1 x =>
    simp only [opE] at E ⊢
    split at E
    · split at E
      · rename_i u hu; cases E; exact ⟨rfl, fun h' s => by rw [ld hu s]⟩
      · cases E
    · cases E
  case ldN n x =>
    simp only [opE] at E ⊢
    split at E
    · split at E
      · rename_i u hu; cases E; exact ⟨rfl, fun h' s => by rw [lds hu s]⟩
      · cases E
    · cases E
  case cvB x =>
    simp only [opE] at E ⊢
    split at E
    · cases E; exact ⟨rfl, fun h' s => rfl⟩
    · split at E
      · rename_i u hu
        split at E
        · rename_i z hz; cases E; exact ⟨rfl, fun h' s => by rw [lds hu s]; simp only [hz]⟩
        · cases E
      · cases E
    · cases E
  case slV es x lo hi mx =>
    simp only [opE] at E ⊢
    split at E
    · split at E
      · split at E
        · rename_i hc
          split at E
          · split at E
            · rename_i h0; cases E; exact ⟨rfl, fun h' s => by rw [if_pos hc, if_pos h0]⟩
            · cases E
          · split at E
            · rename_i h0; cases E; exact ⟨rfl, fun h' s => by rw [if_pos hc, if_pos h0]⟩
            · rename_i h0
              split at E
              · rename_i B hB
                split at E
                · rename_i h1; cases E; exact ⟨rfl, fun h' s => by rw [if_pos hc, if_neg h0, s _ _ hB]; simp only; rw [if_pos h1]⟩
                · cases E
              · cases E
        · cases E
      · cases E
    · cases E
theorem opE_addr {i : IOp} {e : Env} {h h2 : H} {nm : Option Nat} {v : Value} {n : Nat} (ha : addrOf i e = some n) (E : opE i e h nm = some (v, h2)) : ∀ h', H.get h' n = h.get n → opE i e h' nm = some (v, h') := by
  intro h' s
  unfold addrOf at ha
  split at ha
  · split at ha
    · rename_i a hx; cases ha
      simp only [opE, hx] at E ⊢
      have : H.ld h' a = h.ld a := by simp only [H.ld, s]
      rw [this]
      split at E
      · cases E; rfl
      · cases E
    · cases ha
  · split at ha
    · rename_i a hx; cases ha
      simp only [opE, hx] at E ⊢
      have : ∀ n, H.lds h' a n = h.lds a n := fun n => by simp only [H.lds, s]
      rw [this]
      split at E
      · cases E; rfl
      · cases E
    · cases ha
  · split at ha
    · rename_i a _ _ hx; cases ha
      simp only [opE, hx] at E ⊢
      have : ∀ n, H.lds h' a n = h.lds a n := fun n => by simp only [H.lds, s]
      rw [this]
      split at E
      · split at E
        · cases E; rfl
        · cases E
      · cases E
    · cases ha
  · cases ha
theorem opE_k2 {i : IOp} (hk : kI i = 2) {e : Env} {h h2 : H} {m : Nat} {v : Value} (E : opE i e h (some m) = some (v, h2)) : ∃ B, h2 = h.set m (some B) ∧ ∀ h', opE i e h' (some m) = some (v, H.set h' m (some B)) := by
  cases i <;> simp only [kI] at hk <;> try (cases hk; done)
  all_goals
    simp only [opE, H.mkb] at E ⊢
    (repeat' split at E) <;> first | (cases E; done) | (cases E; exact ⟨_, rfl, fun h' => by simp_all⟩)

theorem gd_same {e e' : Env} {g : Option (Nat × Bool)} (h : ∀ d b, g = some (d, b) → look e d = look e' d) : gd e g = gd e' g := by
  cases g with
  | none => rfl
  | some p => obtain ⟨d, b⟩ := p; simp only [gd, h d b rfl]
theorem gd_same' {e e' : Env} {g : Option (Nat × Bool)} (h : Same e e' (tG g)) : gd e g = gd e' g := gd_same fun d b q => by subst q; exact h d (by simp [tG])
theorem whom_same {e e' : Env} {k : CK} {vs : List Value} (h : Same e e' (tC k)) : whom k e vs = whom k e' vs := by
  cases k with
  | fn f => rfl
  | val x => simp only [whom, ev_same (x := x) h]
  | inv x t => simp only [whom, ev_same (x := x) h]
/-- A step does alike where what it looks at is alike. -/
theorem stepE_same {call : CallE} {rb : Nat} {s : Step} {e e' e2 : Env} {h h2 : H} (hs : Same e e' (tS s)) (hn : ∀ d g i, s ≠ .chk d g i) (E : stepE call rb s e h = some (e2, h2)) :
    ∃ v, e2 = put e (dS s) v ∧ stepE call rb s e' h = some (put e' (dS s) v, h2) := by
  cases s with
  | op d g i =>
    simp only [tS] at hs
    simp only [stepE, dS] at E ⊢
    rw [← gd_same' hs.l, ← opE_same hs.r]
    split at E
    · split at E
      · rename_i hop; cases E; exact ⟨_, rfl, by first | rfl | rw [hop]⟩
      · cases E
    · cases E; exact ⟨_, rfl, rfl⟩
    · cases E
  | opA d g i k =>
    simp only [tS] at hs
    simp only [stepE, dS] at E ⊢
    rw [← gd_same' hs.l, ← opE_same hs.r]
    split at E
    · split at E
      · rename_i hop; cases E; exact ⟨_, rfl, by first | rfl | rw [hop]⟩
      · cases E
    · cases E; exact ⟨_, rfl, rfl⟩
    · cases E
  | opR d g i k =>
    simp only [tS] at hs
    simp only [stepE, dS] at E ⊢
    rw [← gd_same' hs.l, ← opE_same hs.r, ← addrOf_same hs.r]
    split at E
    · split at E
      · rename_i n ha
        split at E
        · rename_i hnk
          split at E
          · rename_i hop; cases E; exact ⟨_, rfl, by first | rfl | (rw [if_pos hnk] <;> simp only [hop])⟩
          · cases E
        · cases E
      · cases E
    · cases E; exact ⟨_, rfl, rfl⟩
    · cases E
  | chk d g i => exact absurd rfl (hn d g i)
  | call d g k xs =>
    simp only [tS] at hs
    simp only [stepE, dS] at E ⊢
    rw [← gd_same' hs.l, ← evs_same hs.r.r]
    split at E
    · split at E
      · rename_i vs hvs
        rw [whom_same hs.r.l] at E
        split at E
        · split at E
          · rename_i hcl; cases E; exact ⟨_, rfl, by first | rfl | simp only [hcl]⟩
          · cases E
        · cases E
      · cases E
    · cases E; exact ⟨_, rfl, rfl⟩
    · cases E
end Go.Proofs.Ytncpdahappmhkaa.Am
