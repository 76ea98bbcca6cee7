/- The abstract machine's big steps, without fuel; what a function that leaves no trace comes to, wherever it is called. -/
import Derived.Test.YtncpdahappmhkaaAmT
namespace Go.Proofs.Ytncpdahappmhkaa.Am
open Go
set_option linter.unusedVariables false
set_option linter.unusedSimpArgs false

/-! ### More fuel does no harm -/
def LeC (c d : CallE) : Prop := ∀ f us h r, c f us h = some r → d f us h = some r
theorem stepE_mono {c d : CallE} (hc : LeC c d) {rb : Nat} {s : Step} {e : Env} {h : H} {r : Env × H} (E : stepE c rb s e h = some r) : stepE d rb s e h = some r := by
  cases s with
  | call dst g k xs =>
    simp only [stepE] at E ⊢
    split at E
    · rename_i hg
      split at E
      · rename_i vs hvs
        split at E
        · rename_i f us hw
          split at E
          · rename_i v h2 hcl
            rw [hc _ _ _ _ hcl]; exact E
          · cases E
        · cases E
      · cases E
    · exact E
    · cases E
  | op => exact E
  | opA => exact E
  | opR => exact E
  | chk => exact E
theorem stepsE_mono {c d : CallE} (hc : LeC c d) {rb : Nat} : ∀ {ss : List Step} {e : Env} {h : H} {r : Env × H}, stepsE c rb ss e h = some r → stepsE d rb ss e h = some r := by
  intro ss
  induction ss with
  | nil => intro e h r E; exact E
  | cons s ss ih =>
    intro e h r E
    simp only [stepsE] at E ⊢
    split at E
    · rename_i e2 h2 hs; rw [stepE_mono hc hs]; exact ih E
    · cases E
theorem loopE_mono {b1 b2 : Env → H → Option (Ex × Env × H)} (hb : ∀ e h r, b1 e h = some r → b2 e h = some r) {keep : List Nat} : ∀ {n m : Nat}, n ≤ m → ∀ {e : Env} {h : H} {r : Ex × Env × H}, loopE b1 keep n e h = some r → loopE b2 keep m e h = some r := by
  intro n
  induction n with
  | zero => intro m _ e h r E; cases E
  | succ n ih =>
    intro m hm e h r E
    obtain ⟨m, rfl⟩ : ∃ k, m = k + 1 := ⟨m - 1, by omega⟩
    simp only [loopE] at E ⊢
    split at E
    · rename_i e2 h2 hs; rw [hb _ _ _ hs]; exact ih (by omega) E
    · rename_i x e2 h2 hx hs; rw [hb _ _ _ hs]
      cases x with
      | norm => exact (hx rfl).elim
      | exit id => exact E
      | ret => exact E
    · cases E
theorem codeE_mono {c d : CallE} (hc : LeC c d) {n m : Nat} (hn : n ≤ m) : ∀ {ic : IC} {e : Env} {h : H} {r : Ex × Env × H}, codeE c n ic e h = some r → codeE d m ic e h = some r := by
  intro ic
  induction ic with
  | skip => intro e h r E; exact E
  | ret => intro e h r E; exact E
  | exit id => intro e h r E; exact E
  | seq a b iha ihb =>
    intro e h r E
    simp only [codeE] at E ⊢
    split at E
    · rename_i e2 h2 hs; rw [iha hs]; exact ihb E
    · rename_i x e2 h2 hx hs; rw [iha hs]
      cases x with
      | norm => exact (hx rfl).elim
      | exit id => exact E
      | ret => exact E
    · cases E
  | cond o a b iha ihb =>
    intro e h r E
    simp only [codeE] at E ⊢
    split at E
    · rename_i ho; exact iha E
    · rename_i ho; exact ihb E
    · cases E
  | block id b ih =>
    intro e h r E
    simp only [codeE] at E ⊢
    split at E
    · rename_i j e2 h2 hs; rw [ih hs]; exact E
    · rename_i x e2 h2 hx hs; rw [ih hs]
      cases x with
      | norm => exact E
      | exit id => exact (hx _ rfl).elim
      | ret => exact E
    · cases E
  | loop keep b ih => intro e h r E; simp only [codeE] at E ⊢; exact loopE_mono (fun e h r => ih) hn E
  | run ss keep =>
    intro e h r E
    simp only [codeE] at E ⊢
    split at E
    · rename_i e2 h2 hs; rw [stepsE_mono hc hs]; exact E
    · cases E
  | draw k ss keep =>
    intro e h r E
    simp only [codeE] at E ⊢
    split at E
    · rename_i e2 h2 hs; rw [stepsE_mono hc hs]; exact E
    · cases E
theorem runE_mono {tab : Nat → Option FD} : ∀ {n m : Nat}, n ≤ m → LeC (runE tab n) (runE tab m) := by
  intro n
  induction n with
  | zero => intro m _ f us h r E; cases E
  | succ n ih =>
    intro m hm f us h r E
    obtain ⟨m, rfl⟩ : ∃ k, m = k + 1 := ⟨m - 1, by omega⟩
    simp only [runE] at E ⊢
    split at E
    · rename_i F hF
      split at E
      · rename_i hl
        rw [if_pos hl]
        split at E
        · rename_i e2 h2 hs; rw [codeE_mono (ih (by omega)) (by omega) hs]; exact E
        · rename_i e2 h2 hs; rw [codeE_mono (ih (by omega)) (by omega) hs]; exact E
        · cases E
      · cases E
    · exact E
    · cases E

/-! ### Big steps -/
variable {tab : Nat → Option FD}
def RanS (tab : Nat → Option FD) (rb : Nat) (ss : List Step) (e : Env) (h : H) (e2 : Env) (h2 : H) : Prop := ∃ n, stepsE (runE tab n) rb ss e h = some (e2, h2)
def RanC (tab : Nat → Option FD) (ic : IC) (e : Env) (h : H) (x : Ex) (e2 : Env) (h2 : H) : Prop := ∃ n, codeE (runE tab n) n ic e h = some (x, e2, h2)
def Ran (tab : Nat → Option FD) (f : Nat) (us : List Value) (h : H) (v : Value) (h2 : H) : Prop := ∃ n, runE tab n f us h = some (v, h2)

theorem RanS.nil {rb : Nat} {e : Env} {h : H} : RanS tab rb [] e h e h := ⟨0, rfl⟩
theorem RanS.step {rb : Nat} {s : Step} {ss : List Step} {e e1 e2 : Env} {h h1 h2 : H} (hs : ∃ n, stepE (runE tab n) rb s e h = some (e1, h1)) (k : RanS tab rb ss e1 h1 e2 h2) : RanS tab rb (s :: ss) e h e2 h2 := by
  obtain ⟨n, hs⟩ := hs; obtain ⟨m, k⟩ := k
  refine ⟨max n m, ?_⟩
  simp only [stepsE]
  rw [stepE_mono (runE_mono (Nat.le_max_left n m)) hs]
  exact stepsE_mono (runE_mono (Nat.le_max_right n m)) k
theorem RanS.op {rb : Nat} {d : Option Nat} {g : Option (Nat × Bool)} {i : IOp} {ss : List Step} {e e2 : Env} {h h1 h2 : H} {v : Value} (hg : gd e g = some true) (ho : opE i e h none = some (v, h1)) (k : RanS tab rb ss (put e d v) h1 e2 h2) : RanS tab rb (.op d g i :: ss) e h e2 h2 :=
  .step ⟨0, by simp only [stepE, hg, ho]⟩ k
theorem RanS.off {rb : Nat} {d : Option Nat} {g : Option (Nat × Bool)} {i : IOp} {ss : List Step} {e e2 : Env} {h h2 : H} (hg : gd e g = some false) (k : RanS tab rb ss (put e d undef) h e2 h2) : RanS tab rb (.op d g i :: ss) e h e2 h2 :=
  .step ⟨0, by simp only [stepE, hg]⟩ k
theorem RanS.call {rb : Nat} {d : Option Nat} {g : Option (Nat × Bool)} {c : CK} {xs : List Operand} {ss : List Step} {e e2 : Env} {h h1 h2 : H} {v : Value} {vs us : List Value} {f : Nat} (hg : gd e g = some true) (hx : evs e xs = some vs) (hw : whom c e vs = some (f, us)) (hc : Ran tab f us h v h1) (k : RanS tab rb ss (put e d v) h1 e2 h2) : RanS tab rb (.call d g c xs :: ss) e h e2 h2 := by
  obtain ⟨n, hc⟩ := hc
  exact .step ⟨n, by simp only [stepE, hg, hx, hw, hc]⟩ k
theorem RanS.offC {rb : Nat} {d : Option Nat} {g : Option (Nat × Bool)} {c : CK} {xs : List Operand} {ss : List Step} {e e2 : Env} {h h2 : H} (hg : gd e g = some false) (k : RanS tab rb ss (put e d undef) h e2 h2) : RanS tab rb (.call d g c xs :: ss) e h e2 h2 :=
  .step ⟨0, by simp only [stepE, hg]⟩ k

theorem RanS.opA {rb k : Nat} {d : Option Nat} {g : Option (Nat × Bool)} {i : IOp} {ss : List Step} {e e2 : Env} {h h1 h2 : H} {v : Value} (hg : gd e g = some true) (ho : opE i e h (some (rb + k)) = some (v, h1)) (t : RanS tab rb ss (put e d v) h1 e2 h2) : RanS tab rb (.opA d g i k :: ss) e h e2 h2 :=
  .step ⟨0, by simp only [stepE, hg, ho]⟩ t
theorem RanS.opR {rb k : Nat} {d : Option Nat} {g : Option (Nat × Bool)} {i : IOp} {ss : List Step} {e e2 : Env} {h h1 h2 : H} {v : Value} (hg : gd e g = some true) (ha : addrOf i e = some (rb + k)) (ho : opE i e h none = some (v, h1)) (t : RanS tab rb ss (put e d v) h e2 h2) : RanS tab rb (.opR d g i k :: ss) e h e2 h2 :=
  .step ⟨0, by simp only [stepE, hg, ha, ho, if_pos]⟩ t
theorem same1_refl {v : Value} (h : plain1 v = true) : same1 v v = true := by
  unfold plain1 at h
  split at h <;> first | (simp [same1]; done) | cases h
theorem sameL_refl : ∀ {l : List Value}, l.all plain1 = true → sameL l l = true := by
  intro l
  induction l with
  | nil => intro _; rfl
  | cons v l ih => intro h; simp only [List.all_cons, Bool.and_eq_true] at h; simp only [sameL, same1_refl h.1, ih h.2, Bool.and_self]
def plainA : Value → Bool
  | .agg cs => cs.toList.all plain1
  | v => plain1 v
theorem sameV_one {v : Value} (h : plain1 v = true) : sameV v v = true := by
  have := same1_refl h
  cases v <;> first | exact this | (simp [plain1] at h; done)
theorem plainA_cases {v : Value} (h : plainA v = true) : (∃ cs, v = .agg cs ∧ cs.toList.all plain1 = true) ∨ plain1 v = true := by
  unfold plainA at h
  split at h
  · exact .inl ⟨_, rfl, h⟩
  · exact .inr h
theorem sameV_refl {v : Value} (h : plainA v = true) : sameV v v = true := by
  rcases plainA_cases h with ⟨cs, rfl, h⟩ | h
  · exact sameL_refl h
  · exact sameV_one h
theorem RanS.chk {rb d : Nat} {g : Option (Nat × Bool)} {i : IOp} {ss : List Step} {e e2 : Env} {h h1 h2 : H} {v : Value} (hg : gd e g = some true) (ho : opE i e h none = some (v, h1)) (hl : look e d = some v) (hp : sameV v v = true) (t : RanS tab rb ss e h e2 h2) : RanS tab rb (.chk d g i :: ss) e h e2 h2 :=
  .step ⟨0, by simp only [stepE, hg, ho, hl, hp, if_pos]⟩ t
theorem RanS.chkOff {rb d : Nat} {g : Option (Nat × Bool)} {i : IOp} {ss : List Step} {e e2 : Env} {h h2 : H} (hg : gd e g = some false) (t : RanS tab rb ss e h e2 h2) : RanS tab rb (.chk d g i :: ss) e h e2 h2 :=
  .step ⟨0, by simp only [stepE, hg]⟩ t
theorem H.get_new (h : H) (B : Blk) : (h.alloc B).get h.next = some B := by rw [H.get_alloc, if_pos rfl]
theorem H.get_old {h : H} {B B' : Blk} {n : Nat} (hn : n < h.next) (hg : h.get n = some B') : (h.alloc B).get n = some B' := by rw [H.get_alloc, if_neg (by omega)]; exact hg
theorem ld_at {h : H} {b off : Nat} {B : Blk} {v : Value} (hb : h.get b = some B) (hc : B.cells[off]? = some v) : h.ld ⟨b, off, none⟩ = some v := by simp only [H.ld, hb]; exact hc
theorem lds_at {h : H} {b off n : Nat} {B : Blk} (hb : h.get b = some B) (hc : off + n ≤ B.cells.length) : h.lds ⟨b, off, none⟩ n = some ((B.cells.drop off).take n) := by
  unfold H.lds
  by_cases h0 : n = 0
  · rw [if_pos h0, h0]; simp
  · rw [if_neg h0]; simp only [hb]; rw [if_pos hc]
theorem sts_at {h : H} {b off : Nat} {B : Blk} {v : Value} {vs : List Value} (hb : h.get b = some B) (hr : B.ro = false) (hc : off + (v :: vs).length ≤ B.cells.length) (ho : (v :: vs).all (·.oneCell') = true) : h.sts ⟨b, off, none⟩ (v :: vs) = some (h.set b (some ⟨splice B.cells off (v :: vs), B.es, false⟩)) := by
  simp only [H.sts, hb, hr]; rw [if_neg (by simp), if_pos ⟨hc, ho⟩]
theorem op_val {i : IOp} {e : Env} {h h' : H} {nm : Option Nat} {v v' : Value} (ho : opE i e h nm = some (v, h')) (hv : v = v') : opE i e h nm = some (v', h') := by rw [ho, hv]
theorem op_iaV {e : Env} {h : H} {x y : Operand} {a : Addr} {n c es : Nat} {k : IntKind} (j : Nat) (hx : ev e x = some (.slice (some a) n c)) (hi : ev e y = some (.int k (j : Int))) (hj : j < n) : opE (.iaV es x y) e h none = some (.pointer (some ⟨a.block, a.off + j * es, none⟩), h) := by
  simp only [opE, hx, hi]; rw [if_pos ⟨by omega, by omega⟩]; simp
/-- New blocks, under names that are spelt. -/
theorem op_box {e : Env} {h : H} {x : Operand} {v : Value} (n : Nat) {cs : List Value} (hx : ev e x = some v) (hc : v.cells.toList = cs) (ho : cs.all (·.oneCell') = true) (hn : h.next = n) : opE (.box x) e h none = some (.pointer (some ⟨n, 0, none⟩), h.alloc ⟨cs, 0, false⟩) := by
  subst hc hn; simp only [opE, hx, H.mkb]; rw [if_pos ho]
theorem op_new {e : Env} {h : H} {z : List Value} (n : Nat) (hn : h.next = n) : opE (.new z) e h none = some (.pointer (some ⟨n, 0, none⟩), h.alloc ⟨z, 0, false⟩) := by
  subst hn; simp only [opE, H.mkb]
theorem op_bsl {e : Env} {h : H} {es len : Nat} {z cs : List Value} {ps : List (Nat × Nat × Operand)} {l : List (Nat × Nat × Value)} (n : Nat) (hp : evp e ps = some l) (hf : fillL z l = some cs) (ho : cs.all (·.oneCell') = true) (hn : h.next = n) : opE (.bsl es len z ps) e h none = some (.slice (some ⟨n, 0, none⟩) len (2 * len + 1), h.alloc ⟨cs, es, false⟩) := by
  subst hn; simp only [opE, hp, hf, H.mkb]; rw [if_pos ho]
theorem op_bslA {e : Env} {h : H} {es len m : Nat} {z cs : List Value} {ps : List (Nat × Nat × Operand)} {l : List (Nat × Nat × Value)} (n : Nat) (hp : evp e ps = some l) (hf : fillL z l = some cs) (ho : cs.all (·.oneCell') = true) (hn : m = n) : opE (.bsl es len z ps) e h (some m) = some (.slice (some ⟨n, 0, none⟩) len (2 * len + 1), h.set n (some ⟨cs, es, false⟩)) := by
  subst hn; simp only [opE, hp, hf, H.mkb]; rw [if_pos ho]
theorem op_ld1 {e : Env} {h : H} {x : Operand} {a : Addr} {v : Value} (hx : ev e x = some (.pointer (some a))) (hl : h.ld a = some v) : opE (.ld1 x) e h none = some (v, h) := by simp only [opE, hx, hl]
theorem op_ldN {e : Env} {h : H} {x : Operand} {a : Addr} {n : Nat} {vs : List Value} (hx : ev e x = some (.pointer (some a))) (hl : h.lds a n = some vs) : opE (.ldN n x) e h none = some (.agg vs.toArray, h) := by simp only [opE, hx, hl]
theorem op_st {e : Env} {h h2 : H} {x y : Operand} {a : Addr} {v : Value} {n : Nat} (hx : ev e x = some (.pointer (some a))) (hy : ev e y = some v) (hn : v.cells.toList.length = n) (hs : h.sts a v.cells.toList = some h2) : opE (.st n x y) e h none = some (undef, h2) := by
  simp only [opE, hx, hy]; rw [if_pos hn, hs]
theorem RanC.at {ic : IC} {e e2 : Env} {h h2 : H} {x : Ex} {n m : Nat} (E : codeE (runE tab n) n ic e h = some (x, e2, h2)) (hm : n ≤ m) : codeE (runE tab m) m ic e h = some (x, e2, h2) := codeE_mono (runE_mono hm) hm E
theorem RanC.skip {e : Env} {h : H} : RanC tab .skip e h .norm e h := ⟨0, rfl⟩
theorem RanC.ret {e : Env} {h : H} : RanC tab .ret e h .ret e h := ⟨0, rfl⟩
theorem RanC.exit {id : Nat} {e : Env} {h : H} : RanC tab (.exit id) e h (.exit id) e h := ⟨0, rfl⟩
theorem RanC.seq {a b : IC} {e e1 e2 : Env} {h h1 h2 : H} {x : Ex} (p : RanC tab a e h .norm e1 h1) (q : RanC tab b e1 h1 x e2 h2) : RanC tab (.seq a b) e h x e2 h2 := by
  obtain ⟨n, p⟩ := p; obtain ⟨m, q⟩ := q
  refine ⟨max n m, ?_⟩
  simp only [codeE]; rw [RanC.at p (Nat.le_max_left n m)]; exact RanC.at q (Nat.le_max_right n m)
theorem RanC.seqR {a b : IC} {e e1 : Env} {h h1 : H} (p : RanC tab a e h .ret e1 h1) : RanC tab (.seq a b) e h .ret e1 h1 := by
  obtain ⟨n, p⟩ := p; exact ⟨n, by simp only [codeE]; rw [p]⟩
theorem RanC.seqE {a b : IC} {e e1 : Env} {h h1 : H} {id : Nat} (p : RanC tab a e h (.exit id) e1 h1) : RanC tab (.seq a b) e h (.exit id) e1 h1 := by
  obtain ⟨n, p⟩ := p; exact ⟨n, by simp only [codeE]; rw [p]⟩
theorem RanC.condT {c : Operand} {a b : IC} {e e2 : Env} {h h2 : H} {x : Ex} (hc : ev e c = some (.bool true)) (p : RanC tab a e h x e2 h2) : RanC tab (.cond c a b) e h x e2 h2 := by
  obtain ⟨n, p⟩ := p; exact ⟨n, by simp only [codeE]; rw [hc]; exact p⟩
theorem RanC.condF {c : Operand} {a b : IC} {e e2 : Env} {h h2 : H} {x : Ex} (hc : ev e c = some (.bool false)) (p : RanC tab b e h x e2 h2) : RanC tab (.cond c a b) e h x e2 h2 := by
  obtain ⟨n, p⟩ := p; exact ⟨n, by simp only [codeE]; rw [hc]; exact p⟩
theorem RanC.blockN {id : Nat} {b : IC} {e e2 : Env} {h h2 : H} (p : RanC tab b e h .norm e2 h2) : RanC tab (.block id b) e h .norm e2 h2 := by
  obtain ⟨n, p⟩ := p; exact ⟨n, by simp only [codeE]; rw [p]⟩
theorem RanC.blockR {id : Nat} {b : IC} {e e2 : Env} {h h2 : H} (p : RanC tab b e h .ret e2 h2) : RanC tab (.block id b) e h .ret e2 h2 := by
  obtain ⟨n, p⟩ := p; exact ⟨n, by simp only [codeE]; rw [p]⟩
theorem RanC.blockE {id : Nat} {b : IC} {e e2 : Env} {h h2 : H} (p : RanC tab b e h (.exit id) e2 h2) : RanC tab (.block id b) e h .norm e2 h2 := by
  obtain ⟨n, p⟩ := p; exact ⟨n, by simp only [codeE]; rw [p]; simp⟩
theorem RanC.blockO {id j : Nat} {b : IC} {e e2 : Env} {h h2 : H} (hj : j ≠ id) (p : RanC tab b e h (.exit j) e2 h2) : RanC tab (.block id b) e h (.exit j) e2 h2 := by
  obtain ⟨n, p⟩ := p; exact ⟨n, by simp only [codeE]; rw [p]; simp [hj]⟩
theorem RanC.loop {keep : List Nat} {b : IC} {e e0 e1 e2 : Env} {h h1 h2 : H} {x : Ex} (hn : norm keep e = e0) (p : RanC tab b e0 h .norm e1 h1) (q : RanC tab (.loop keep b) e1 h1 x e2 h2) : RanC tab (.loop keep b) e h x e2 h2 := by
  subst hn
  obtain ⟨n, p⟩ := p; obtain ⟨m, q⟩ := q
  refine ⟨max n m + 1, ?_⟩
  simp only [codeE] at q ⊢
  simp only [loopE]
  rw [RanC.at p (by omega : n ≤ max n m + 1)]
  exact loopE_mono (fun e h r => codeE_mono (runE_mono (by omega)) (by omega)) (by omega : m ≤ max n m) q
theorem RanC.loopR {keep : List Nat} {b : IC} {e e0 e1 : Env} {h h1 : H} (hn : norm keep e = e0) (p : RanC tab b e0 h .ret e1 h1) : RanC tab (.loop keep b) e h .ret e1 h1 := by
  subst hn
  obtain ⟨n, p⟩ := p
  refine ⟨n + 1, ?_⟩
  simp only [codeE, loopE]; rw [RanC.at p (by omega : n ≤ n + 1)]
theorem RanC.loopE {keep : List Nat} {b : IC} {e e0 e1 : Env} {h h1 : H} {id : Nat} (hn : norm keep e = e0) (p : RanC tab b e0 h (.exit id) e1 h1) : RanC tab (.loop keep b) e h (.exit id) e1 h1 := by
  subst hn
  obtain ⟨n, p⟩ := p
  refine ⟨n + 1, ?_⟩
  simp only [codeE, Am.loopE]; rw [RanC.at p (by omega : n ≤ n + 1)]
theorem RanC.run {ss : List Step} {keep : List Nat} {e e1 : Env} (e2 : Env) {h h1 : H} (p : RanS tab 0 ss e h e1 h1) (hn : norm keep e1 = e2) : RanC tab (.run ss keep) e h .norm e2 h1 := by
  obtain ⟨n, p⟩ := p; exact ⟨n, by simp only [codeE]; rw [p, ← hn]⟩
theorem RanC.draw {m : Nat} {ss : List Step} {keep : List Nat} {e e1 : Env} (e2 : Env) {h h1 : H} (p : RanS tab h.next ss e (h.up m) e1 h1) (hn : norm keep e1 = e2) : RanC tab (.draw m ss keep) e h .norm e2 h1 := by
  obtain ⟨n, p⟩ := p; exact ⟨n, by simp only [codeE]; rw [p, ← hn]⟩
theorem Ran.codeR {f : Nat} {F : IFun} {us vs : List Value} {h h2 : H} {e2 : Env} (ht : tab f = some (.code F)) (hl : us.length = F.np) (hb : RanC tab F.body (mkEnv 0 us) h .ret e2 h2) (hr : resE F.rs e2 h2 = some vs) : Ran tab f us h (packE vs) h2 := by
  obtain ⟨n, hb⟩ := hb
  refine ⟨n + 1, ?_⟩
  simp only [runE, ht]; rw [if_pos hl, hb]; simp only [hr]
theorem Ran.codeN {f : Nat} {F : IFun} {us vs : List Value} {h h2 : H} {e2 : Env} (ht : tab f = some (.code F)) (hl : us.length = F.np) (hb : RanC tab F.body (mkEnv 0 us) h .norm e2 h2) (hr : resE F.rs e2 h2 = some vs) : Ran tab f us h (packE vs) h2 := by
  obtain ⟨n, hb⟩ := hb
  refine ⟨n + 1, ?_⟩
  simp only [runE, ht]; rw [if_pos hl, hb]; simp only [hr]
theorem Ran.codeR' {f : Nat} {F : IFun} {us : List Value} (vs : List Value) {h : H} (e2 : Env) (ht : tab f = some (.code F)) (hl : us.length = F.np) (hb : ∃ h2, RanC tab F.body (mkEnv 0 us) h .ret e2 h2) (hr : ∀ h2, resE F.rs e2 h2 = some vs) : ∃ h2, Ran tab f us h (packE vs) h2 := by
  obtain ⟨h2, hb⟩ := hb
  exact ⟨h2, Ran.codeR ht hl hb (hr h2)⟩
theorem Ran.spec {f : Nat} {g : List Value → H → Option (Value × H)} {us : List Value} {h h2 : H} {v : Value} (ht : tab f = some (.spec g)) (hg : g us h = some (v, h2)) : Ran tab f us h v h2 :=
  ⟨1, by simp only [runE, ht]; exact hg⟩

/-! ### A function that leaves no trace -/
theorem Rel.below {base : Nat} {r : Rho} {h : H} {w w2 : World} (R : Rel base r h w) (b : Go.RowKit.Below w.heap.size w w2) : Rel base r h w2 ∧ Fr base r h w r h w2 := by
  refine ⟨⟨fun n B e => ?_, R.inj, R.new, Nat.le_trans R.size b.size, R.ro⟩, ⟨Rho.le_refl r, Nat.le_refl _, b.size, b.os, b.tape, b.output, fun k hk _ => b.block k hk, fun n B L h1 h2 h3 _ => ⟨n, B, L, h1, h2, h3, rfl⟩⟩⟩
  obtain ⟨L, c, el, fz, k1, k2, k3⟩ := R.cells n B e
  exact ⟨L, c, el, fz, k1, by rw [b.block _ (Array.getElem?_eq_some_iff.1 k2).1]; exact k2, k3⟩
theorem VR.plain1_inv {r : Rho} {v v' : Value} (hp : plain1 v = true) (h : VR r v v') : v' = v := by
  cases h <;> first | rfl | (simp [plain1] at hp; done) | skip
theorem VL.plain_inv {r : Rho} {l l' : List Value} (hp : l.all plain1 = true) (h : VL r l l') : l' = l := by
  apply List.ext_getElem?
  intro i
  cases hi : l[i]? with
  | none => rw [List.getElem?_eq_none_iff] at hi ⊢; rw [← h.1]; exact hi
  | some v =>
    obtain ⟨v', h1, h2⟩ := h.get hi
    rw [h1, VR.plain1_inv (List.all_eq_true.1 hp v (List.mem_of_getElem? hi)) h2]
theorem VR.plain_inv {r : Rho} {v v' : Value} (hp : plain v = true) (h : VR r v v') : v' = v := by
  cases h with
  | agg hx h1 =>
    simp only [plain] at hp
    have := VL.plain_inv hp (VL.ofArr hx h1)
    rw [Array.ext' this]
  | tuple hx h1 =>
    simp only [plain] at hp
    have := VL.plain_inv hp (VL.ofArr hx h1)
    rw [Array.ext' this]
  | bool b => rfl
  | int k n => rfl
  | string s => rfl
  | ptr0 => rfl
  | ptr h => simp [plain, plain1] at hp
  | sl0 => rfl
  | sl h h1 h2 h3 h4 => simp [plain, plain1] at hp
  | func fn hx h1 hy h2 => simp [plain, plain1] at hp
  | func0 => rfl
  | iface t k => simp [plain, plain1] at hp
  | iface0 => rfl

variable {P : Program}
/-- One law for both: the function is run over a memory of its own making, of blocks that are never written; what it tells is plain; so it tells that wherever it is called, and leaves the memory as it was. -/
theorem SoundF.quiet (hD : DrawOK P) (ht : TabOK P tab) {f : Nat} {g : List Value → H → Option (Value × H)}
    (hg : ∀ us h v h2, g us h = some (v, h2) → h2 = h ∧ plain v = true ∧ ∃ (us0 : List Value) (h0 h3 : H) (m : Nat → Nat), Ran tab f us0 h0 v h3 ∧
      (∀ k, h0.next ≤ k → h0.get k = none) ∧ (∀ k B, h0.get k = some B → B.ro = true ∧ ∃ B', h.get (m k) = some B' ∧ B'.es = B.es ∧ B'.cells = B.cells ∧ B.cells.all plain1 = true) ∧
      (∀ r us', VL r us us' → VL (fun k => if (h0.get k).isSome then r (m k) else none) us0 us')) : SoundF P f g := by
  intro base r h w us us' v h2 E hv R
  obtain ⟨rfl, hp, us0, h0, h3, m, ⟨n, hrun⟩, e1, e2, e3⟩ := hg us h v h2 E
  have R0 : Rel w.heap.size (fun k => if (h0.get k).isSome then r (m k) else none) h0 w := by
    refine ⟨fun k B hB => ?_, fun k j Bk Bj L M q1 q2 q3 q4 => ?_, fun k hk => by simp [e1 k hk], Nat.le_refl _, fun k B L hB hro hL => ?_⟩
    · obtain ⟨hro, B', g1, g2, g3, g4⟩ := e2 k B hB
      obtain ⟨L, c, el, fz, k1, k2, k3, k4, k5, k6, k7⟩ := R.cells _ B' g1
      refine ⟨L, c, el, fz, by simp [hB, k1], k2, by rw [k3, g2], by rw [← g3]; exact k4, k5, fun q => by (rw [hro] at q; cases q), fun i u hu => ?_⟩
      rw [← g3] at hu
      obtain ⟨j1, u', j2, j3⟩ := k7 i u hu
      have hpu := List.all_eq_true.1 g4 u (by rw [← g3]; exact List.mem_of_getElem? hu)
      rw [VR.plain1_inv hpu j3] at j2
      exact ⟨j1, u, j2, VR.of_plain1 hpu⟩
    · rw [(e2 k Bk q1).1] at q4; cases q4
    · obtain ⟨_, B', g1, _⟩ := e2 k B hB
      obtain ⟨L', c, el, fz, k1, k2, _⟩ := R.cells _ B' g1
      simp only [hB, Option.isSome_some, if_true] at hL
      rw [hL] at k1; cases k1
      exact (Array.getElem?_eq_some_iff.1 k2).1
  obtain ⟨hc, hcalls⟩ := run_table hD ht n f w.heap.size _ h0 w us0 us' v h3 hrun (e3 r us' hv) R0
  refine ⟨hc, hcalls.mono fun x w2 hx => ?_⟩
  obtain ⟨r2, v', rfl, hvv, _, F, _⟩ := hx
  have hv' := VR.plain_inv hp hvv
  subst hv'
  obtain ⟨B1, B2⟩ := R.below (F.below R0)
  exact ⟨r, v', rfl, VR.of_plain hp, B1, B2, Fsh.refl none r h2⟩
/-- A function of no arguments that tells true. -/
theorem SoundF.closed (hD : DrawOK P) (ht : TabOK P tab) {f : Nat} {v : Value} {h3 : H} (hp : plain v = true) (hr : Ran tab f [] ⟨.leaf, 0⟩ v h3) : SoundF P f (fun us h => if us = [] then some (v, h) else none) :=
  SoundF.quiet hD ht fun us h v' h2 E => by
    split at E
    · rename_i hu; cases E; subst hu
      exact ⟨rfl, hp, [], ⟨.leaf, 0⟩, h3, id, hr, fun k _ => rfl, fun k B q => by (cases q), fun r us' hv => ⟨hv.1, fun i v v' q => by simp at q⟩⟩
    · cases E
/-- A function of plain arguments. -/
theorem SoundF.plain (hD : DrawOK P) (ht : TabOK P tab) {f : Nat} {g : List Value → Option Value} (hg : ∀ us v, g us = some v → us.all Am.plain = true ∧ Am.plain v = true ∧ ∃ h3, Ran tab f us ⟨.leaf, 0⟩ v h3) : SoundF P f (fun us h => match g us with | some v => some (v, h) | none => none) :=
  SoundF.quiet hD ht fun us h v' h2 E => by
    split at E
    · rename_i v hv; cases E
      obtain ⟨p1, p2, h3, hr⟩ := hg us _ hv
      refine ⟨rfl, p2, us, ⟨.leaf, 0⟩, h3, id, hr, fun k _ => rfl, fun k B q => by (cases q), fun r us' hv => ⟨hv.1, fun i v v' q1 q2 => ?_⟩⟩
      have hpv := List.all_eq_true.1 p1 v (List.mem_of_getElem? q1)
      rw [VR.plain_inv hpv (hv.2 i v v' q1 q2)]; exact VR.of_plain hpv
    · cases E
end Go.Proofs.Ytncpdahappmhkaa.Am
