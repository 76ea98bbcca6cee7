/- More rules for walks: rows that are read, arithmetic told in natural numbers, what a function hands out. -/
import Derived.Test.YtncpdahappmhkaaAmY
namespace Go.Proofs.Ytncpdahappmhkaa.Am
open Go
set_option linter.unusedVariables false
set_option linter.unusedSimpArgs false
variable {base h h1 h2 h3 : H} {L L' : List Seg} {R : List Nat} {S : Seg}
variable {tab : Nat → Option FD} {Q : Ex → Env → H → Prop} {q : Env → H → Prop} {e e2 : Env}
variable {rb : Nat} {ss : List Step} {d : Option Nat} {g : Option (Nat × Bool)}
theorem Mem.name (M : Mem base h L R) : ∃ L', L' = L ∧ Mem base h L' R := ⟨L, rfl, M⟩
theorem Mem.name1 (M : Mem base h (S :: L) R) : ∃ L', L' = L ∧ Mem base h (S :: L') R := ⟨L, rfl, M⟩
theorem Mem.name2 {S2 : Seg} (M : Mem base h (S :: S2 :: L) R) : ∃ L', L' = L ∧ Mem base h (S :: S2 :: L') R := ⟨L, rfl, M⟩
theorem Mem.name3 {S2 S3 : Seg} (M : Mem base h (S :: S2 :: S3 :: L) R) : ∃ L', L' = L ∧ Mem base h (S :: S2 :: S3 :: L') R := ⟨L, rfl, M⟩
theorem Mem.take (M : Mem base h L R) (k : Nat) : Mem base h (L.take k) R := by
  have hs : (L.take k).flatten.Sublist L.flatten := by
    conv => rhs; rw [← List.take_append_drop k L, List.flatten_append]
    exact List.sublist_append_left ..
  exact ⟨M.wf, M.nx, M.sub, M.no, fun p hp => M.own p (hs.subset hp), M.nd.sublist (hs.map _), M.res, M.rnd⟩
theorem Mem.base_at {b : Nat} {B : Blk} (M : Mem base h L R) (hb : base.get b = some B) : h.get b = some B := M.sub _ _ hb
theorem WC.env {ic : IC} (e2 : Env) (he : e = e2) (k : WC tab ic e2 h Q) : WC tab ic e h Q := by rw [he]; exact k
theorem res_nil : resE [] e h = some [] := rfl
theorem res_tmp {t : Nat} {rs : List RV} {v : Value} {vs : List Value} (hl : look e t = some v) (k : resE rs e h = some vs) : resE (.tmp t :: rs) e h = some (v :: vs) := by simp only [resE, hl, k]
theorem res_cell1 {t p off : Nat} {rs : List RV} {B : Blk} {v : Value} {vs : List Value} (hl : look e t = some (.pointer (some ⟨p, off, none⟩))) (hb : h.get p = some B) (hc : B.cells[off]? = some v) (k : resE rs e h = some vs) : resE (.cell t none :: rs) e h = some (v :: vs) := by
  simp only [resE, hl, ld_at hb hc, k]
theorem res_cellN {t p off n : Nat} {rs : List RV} {B : Blk} {vs : List Value} (cs : List Value) (hl : look e t = some (.pointer (some ⟨p, off, none⟩))) (hb : h.get p = some B) (hle : off + n ≤ B.cells.length) (hc : (B.cells.drop off).take n = cs) (k : resE rs e h = some vs) : resE (.cell t (some n) :: rs) e h = some (.agg cs.toArray :: vs) := by
  simp only [resE, hl, lds_at hb hle, hc, k]
theorem WS.st1 {p off n es : Nat} {cells : List Value} {x y : Operand} {v : Value} (M : Mem base h ([(p, ⟨cells, es, false⟩)] :: L) R) (vs cs : List Value) (hg : gd e g = some true) (hx : ev e x = some (.pointer (some ⟨p, off, none⟩))) (hy : ev e y = some v) (hv : v.cells.toList = vs) (hn : vs.length = n) (hp : 0 < n)
    (hle : off + n ≤ cells.length) (ho : vs.all (·.oneCell') = true) (hc : splice cells off vs = cs)
    (k : ∀ h1, Mem base h1 ([(p, ⟨cs, es, false⟩)] :: L) R → WS tab rb ss (put e d undef) h1 q) : WS tab rb (.op d g (.st n x y) :: ss) e h q :=
  WS.st (S1 := []) (S2 := []) M vs cs hg hx hy hv hn hp rfl hle ho hc k
theorem WS.nil' (k : q e h) : WS tab rb [] e h q := ⟨_, _, .nil, k⟩
/-- A region that reckons out whether: the ways to one answer are joined. -/
theorem WC.joinB {ss : List Step} {keep : List Nat} (E : Bool → Env) (L : List Seg) (Pt Pf : Prop) (w : WS tab 0 ss e h (fun e1 h1 => ∃ b, norm keep e1 = E b ∧ Mem base h1 L [] ∧ (b = true → Pt) ∧ (b = false → Pf)))
    (kt : ∀ h1, Mem base h1 L [] → Pt → Q .norm (E true) h1) (kf : ∀ h1, Mem base h1 L [] → Pf → Q .norm (E false) h1) : WC tab (.run ss keep) e h Q := by
  refine .run ?_
  obtain ⟨e2, h2, r, b, k1, k2, k3, k4⟩ := w
  refine ⟨e2, h2, r, ?_⟩
  show Q .norm (norm keep e2) h2
  rw [k1]
  cases b with
  | true => exact kt _ k2 (k3 rfl)
  | false => exact kf _ k2 (k4 rfl)
theorem WC.joinD {m : Nat} {ss : List Step} {keep : List Nat} (M : Mem base h L []) (ks : List Nat) (hk : (decide (ks.Nodup) && ks.all (fun k => decide (k < m))) = true) (E : Bool → Env) (L2 : List Seg) (Pt Pf : Prop)
    (w : ∀ rb h1, Mem base h1 L (ks.map (rb + ·)) → WS tab rb ss e h1 (fun e1 h1 => ∃ b, norm keep e1 = E b ∧ Mem base h1 L2 [] ∧ (b = true → Pt) ∧ (b = false → Pf)))
    (kt : ∀ h1, Mem base h1 L2 [] → Pt → Q .norm (E true) h1) (kf : ∀ h1, Mem base h1 L2 [] → Pf → Q .norm (E false) h1) : WC tab (.draw m ss keep) e h Q := by
  obtain ⟨e2, h2, r, b, k1, k2, k3, k4⟩ := w h.next (h.up m) (M.up hk)
  refine ⟨_, _, _, .draw _ r k1, ?_⟩
  cases b with
  | true => exact kt _ k2 (k3 rfl)
  | false => exact kf _ k2 (k4 rfl)
theorem WS.lssN {x y : Operand} {k : IntKind} {a b : Nat} (hg : gd e g = some true) (hx : ev e x = some (.int k (a : Int))) (hy : ev e y = some (.int k (b : Int))) (kt : a < b → WS tab rb ss (put e d (.bool true)) h q) (kf : b ≤ a → WS tab rb ss (put e d (.bool false)) h q) : WS tab rb (.op d g (.bin .lss x y) :: ss) e h q :=
  .lss hg hx hy (fun c => kt (by omega)) (fun c => kf (by omega))
theorem WS.leqN {x y : Operand} {k : IntKind} {a b : Nat} (hg : gd e g = some true) (hx : ev e x = some (.int k (a : Int))) (hy : ev e y = some (.int k (b : Int))) (kt : a ≤ b → WS tab rb ss (put e d (.bool true)) h q) (kf : b < a → WS tab rb ss (put e d (.bool false)) h q) : WS tab rb (.op d g (.bin .leq x y) :: ss) e h q :=
  .leq hg hx hy (fun c => kt (by omega)) (fun c => kf (by omega))
theorem WS.gtrN {x y : Operand} {k : IntKind} {a b : Nat} (hg : gd e g = some true) (hx : ev e x = some (.int k (a : Int))) (hy : ev e y = some (.int k (b : Int))) (kt : b < a → WS tab rb ss (put e d (.bool true)) h q) (kf : a ≤ b → WS tab rb ss (put e d (.bool false)) h q) : WS tab rb (.op d g (.bin .gtr x y) :: ss) e h q :=
  .gtr hg hx hy (fun c => kt (by omega)) (fun c => kf (by omega))
theorem WS.geqN {x y : Operand} {k : IntKind} {a b : Nat} (hg : gd e g = some true) (hx : ev e x = some (.int k (a : Int))) (hy : ev e y = some (.int k (b : Int))) (kt : b ≤ a → WS tab rb ss (put e d (.bool true)) h q) (kf : a < b → WS tab rb ss (put e d (.bool false)) h q) : WS tab rb (.op d g (.bin .geq x y) :: ss) e h q :=
  .geq hg hx hy (fun c => kt (by omega)) (fun c => kf (by omega))
theorem WS.eqlN {x y : Operand} {k : IntKind} {a b : Nat} (hg : gd e g = some true) (hx : ev e x = some (.int k (a : Int))) (hy : ev e y = some (.int k (b : Int))) (kt : a = b → WS tab rb ss (put e d (.bool true)) h q) (kf : a ≠ b → WS tab rb ss (put e d (.bool false)) h q) : WS tab rb (.op d g (.bin .eql x y) :: ss) e h q :=
  .eql hg hx hy (fun c => kt (by omega)) (fun c => kf (by omega))
theorem WS.neqN {x y : Operand} {k : IntKind} {a b : Nat} (hg : gd e g = some true) (hx : ev e x = some (.int k (a : Int))) (hy : ev e y = some (.int k (b : Int))) (kt : a ≠ b → WS tab rb ss (put e d (.bool true)) h q) (kf : a = b → WS tab rb ss (put e d (.bool false)) h q) : WS tab rb (.op d g (.bin .neq x y) :: ss) e h q :=
  .neq hg hx hy (fun c => kt (by omega)) (fun c => kf (by omega))
theorem WC.unroll {keep : List Nat} {b : IC} (e2 : Env) (hn : norm keep e = e2) (k : WC tab b e2 h (thenQ tab (.loop keep b) Q)) : WC tab (.loop keep b) e h Q := by
  obtain ⟨x, e3, h3, r, k⟩ := k
  cases x with
  | norm => obtain ⟨y, e4, h4, r2, k2⟩ := k; exact ⟨_, _, _, .loop hn r r2, k2⟩
  | exit id => exact ⟨_, _, _, .loopE hn r, k⟩
  | ret => exact ⟨_, _, _, .loopR hn r, k⟩
theorem vbt {p : Prop} [Decidable p] (h : p) : packE [.bool true] = .bool (decide p) := by rw [decide_eq_true h]; rfl
theorem vbf {p : Prop} [Decidable p] (h : ¬ p) : packE [.bool false] = .bool (decide p) := by rw [decide_eq_false h]; rfl
/-! ### Arithmetic -/
theorem wu64 (n : Int) : IntKind.u64.wrap n = n % 18446744073709551616 := by simp [IntKind.wrap, IntKind.bits, IntKind.signed]
theorem wu32 (n : Int) : IntKind.u32.wrap n = n % 4294967296 := by simp [IntKind.wrap, IntKind.bits, IntKind.signed]
theorem wu16 (n : Int) : IntKind.u16.wrap n = n % 65536 := by simp [IntKind.wrap, IntKind.bits, IntKind.signed]
theorem cv_u8 {n : Nat} (h : n < 256) : Value.int .u8 (IntKind.u8.wrap (n : Int)) = .int .u8 (n : Int) := by
  congr 1; rw [IntKind.wrap_u8]; omega
theorem cv_u16 {n : Nat} (h : n < 65536) : Value.int .u16 (IntKind.u16.wrap (n : Int)) = .int .u16 (n : Int) := by
  congr 1; rw [wu16]; omega
theorem cv_u32 {n : Nat} (h : n < 4294967296) : Value.int .u32 (IntKind.u32.wrap (n : Int)) = .int .u32 (n : Int) := by
  congr 1; rw [wu32]; omega
theorem cv_u64 {n : Nat} (h : n < 18446744073709551616) : Value.int .u64 (IntKind.u64.wrap (n : Int)) = .int .u64 (n : Int) := by
  congr 1; rw [wu64]; omega
theorem cv_i64 {n : Nat} (h : n < 9223372036854775808) : Value.int .i64 (IntKind.i64.wrap (n : Int)) = .int .i64 (n : Int) := by
  congr 1; rw [IntKind.wrap_i64]; omega
theorem add_i64 {a b : Nat} (h : a + b < 9223372036854775808) : Value.int .i64 (IntKind.i64.wrap ((a : Int) + (b : Int))) = .int .i64 ((a + b : Nat) : Int) := by
  congr 1; rw [IntKind.wrap_i64]; omega
theorem add_u8 {a b : Nat} (h : a + b < 256) : Value.int .u8 (IntKind.u8.wrap ((a : Int) + (b : Int))) = .int .u8 ((a + b : Nat) : Int) := by
  congr 1; rw [IntKind.wrap_u8]; omega
theorem beq_nat (a b : Nat) : Value.bool ((a : Int) == (b : Int)) = Value.bool (decide (a = b)) := by
  by_cases c : a = b
  · simp [c]
  · simp [c]; omega
theorem sub_i64 {a b : Nat} (h : b ≤ a ∧ a < 9223372036854775808) : Value.int .i64 (IntKind.i64.wrap ((a : Int) - (b : Int))) = .int .i64 ((a - b : Nat) : Int) := by
  congr 1; rw [IntKind.wrap_i64]; omega
theorem add_u64 {a b : Nat} (h : a + b < 18446744073709551616) : Value.int .u64 (IntKind.u64.wrap ((a : Int) + (b : Int))) = .int .u64 ((a + b : Nat) : Int) := by
  congr 1; rw [wu64]; omega
theorem sub_u64 {a b : Nat} (h : b ≤ a ∧ a < 18446744073709551616) : Value.int .u64 (IntKind.u64.wrap ((a : Int) - (b : Int))) = .int .u64 ((a - b : Nat) : Int) := by
  congr 1; rw [wu64]; omega

theorem op_slA0 {x y : Operand} {p o n es : Nat} {k : IntKind} (i : Nat) (hx : ev e x = some (.pointer (some ⟨p, o, none⟩))) (hy : ev e y = some (.int k (i : Int))) (hi : i ≤ n) : opE (.slA n es x (some y) none none) e h none = some (.slice (some ⟨p, o + i * es, none⟩) (n - i) (2 * (n - i) + 1), h) := by
  simp only [opE, hx, bnd_nat hy]
  show (if _ then _ else _) = _
  rw [if_pos]
  · rfl
  · simp; omega
theorem u8_ofNat {n : Nat} : Value.int .u8 (IntKind.u8.wrap (n : Int)) = .int .u8 ((UInt8.ofNat n).toNat : Int) := by
  congr 1
theorem rem_k {k : IntKind} {a b : Nat} : Value.int k (Int.tmod (a : Int) (b : Int)) = .int k ((a % b : Nat) : Int) := by
  congr 1
theorem quo_u64 {a b : Nat} (h : a < 18446744073709551616) : Value.int .u64 (IntKind.u64.wrap (Int.tdiv (a : Int) (b : Int))) = .int .u64 ((a / b : Nat) : Int) := by
  have h1 : a / b ≤ a := Nat.div_le_self ..
  have h2 : Int.tdiv (a : Int) (b : Int) = ((a / b : Nat) : Int) := rfl
  rw [h2]; exact cv_u64 (by omega)
theorem quo_i64 {a b : Nat} (h : a < 9223372036854775808) : Value.int .i64 (IntKind.i64.wrap (Int.tdiv (a : Int) (b : Int))) = .int .i64 ((a / b : Nat) : Int) := by
  have h1 : a / b ≤ a := Nat.div_le_self ..
  have h2 : Int.tdiv (a : Int) (b : Int) = ((a / b : Nat) : Int) := rfl
  rw [h2]; exact cv_i64 (by omega)
theorem quo_u8 {a b : Nat} (h : a < 256) : Value.int .u8 (IntKind.u8.wrap (Int.tdiv (a : Int) (b : Int))) = .int .u8 ((a / b : Nat) : Int) := by
  have h1 : a / b ≤ a := Nat.div_le_self ..
  have h2 : Int.tdiv (a : Int) (b : Int) = ((a / b : Nat) : Int) := rfl
  rw [h2]; exact cv_u8 (by omega)
/-! ### Cells that are read -/
/-- Behind this place stand these cells. -/
def At (h : H) (b o : Nat) (cs : List Value) : Prop := ∃ B, h.get b = some B ∧ o + cs.length ≤ B.cells.length ∧ (B.cells.drop o).take cs.length = cs
theorem At.mono {b o : Nat} {cs : List Value} (A : At h b o cs) (hs : ∀ n B, h.get n = some B → h2.get n = some B) : At h2 b o cs := by
  obtain ⟨B, e1, e2, e3⟩ := A; exact ⟨B, hs _ _ e1, e2, e3⟩
theorem At.ld {b o k : Nat} {cs : List Value} {v : Value} (A : At h b o cs) (hc : cs[k]? = some v) : h.ld ⟨b, o + k, none⟩ = some v := by
  obtain ⟨B, e1, e2, e3⟩ := A
  have hk := (List.getElem?_eq_some_iff.1 hc).1
  refine ld_at e1 ?_
  rw [← e3, List.getElem?_take, if_pos hk, List.getElem?_drop] at hc; exact hc
theorem At.ld0 {b o : Nat} {cs : List Value} {v : Value} (A : At h b o cs) (hc : cs[0]? = some v) : h.ld ⟨b, o, none⟩ = some v := A.ld (k := 0) hc
theorem At.lds {b o : Nat} {cs : List Value} (A : At h b o cs) : h.lds ⟨b, o, none⟩ cs.length = some cs := by
  obtain ⟨B, e1, e2, e3⟩ := A; rw [lds_at e1 e2, e3]
theorem At.ldsub {b o k n : Nat} {cs cs2 : List Value} (A : At h b o cs) (hc : (cs.drop k).take n = cs2) (hn : k + n ≤ cs.length) : h.lds ⟨b, o + k, none⟩ n = some cs2 := by
  obtain ⟨B, e1, e2, e3⟩ := A
  rw [lds_at e1 (by omega), ← hc, ← e3, List.drop_take, List.take_take, List.drop_drop]
  congr 1; congr 1; omega
theorem op_ldAt {x : Operand} {b o n : Nat} {cs : List Value} (hx : ev e x = some (.pointer (some ⟨b, o, none⟩))) (A : At h b o cs) (hn : cs.length = n) : opE (.ldN n x) e h none = some (.agg cs.toArray, h) := by
  subst hn; exact op_ldN hx A.lds
theorem op_cvBs {x : Operand} {p c n : Nat} {es : Nat} {ro : Bool} {l : List UInt8} (hb : h.get p = some ⟨l.map fun b => Value.int .u8 (b.toNat : Int), es, ro⟩) (hx : ev e x = some (.slice (some ⟨p, 0, none⟩) n c)) (hn : l.length = n) : opE (.cvB x) e h none = some (.string (bs l), h) :=
  op_cvB hb hx hn (by simp; omega) (by subst hn; rw [List.drop_zero, List.take_of_length_le (by simp)])
theorem At.elem {α : Type} {K : Row α} {l : List α} {b o j : Nat} {y : α} (A : At h b o (K.flat l)) (hy : l[j]? = some y) : At h b (o + j * K.n) (K.cells y) := by
  obtain ⟨B, e1, e2, e3⟩ := A
  have hj := (List.getElem?_eq_some_iff.1 hy).1
  have := Nat.mul_le_mul_right K.n (show j + 1 ≤ l.length by omega)
  rw [Nat.add_mul, Nat.one_mul] at this
  rw [K.flat_length] at e2
  refine ⟨B, e1, by rw [K.len]; omega, ?_⟩
  rw [← K.flat_get l j y hy, ← e3, K.flat_length, List.drop_take, List.take_take, List.drop_drop]
  congr 1
  simp; omega
section
variable {α : Type} (K : Row α)
/-- The slice holds the list. -/
inductive Row.Sl (h : H) : Value → List α → Prop
  | nil : Row.Sl h (.slice none 0 0) []
  | emp (a : Addr) (c : Nat) : Row.Sl h (.slice (some a) 0 c) []
  | row (b o c : Nat) (l : List α) (ha : At h b o (K.flat l)) : Row.Sl h (.slice (some ⟨b, o, none⟩) l.length c) l
variable {K} {V : Value} {l : List α}
theorem Row.Sl.mono (A : K.Sl h V l) (hs : ∀ n B, h.get n = some B → h2.get n = some B) : K.Sl h2 V l := by
  cases A with
  | nil => exact .nil
  | emp a c => exact .emp a c
  | row b o c l ha => exact .row b o c l (ha.mono hs)
theorem Row.Sl.shape (A : K.Sl h V l) : ∃ P c, V = .slice P l.length c := by
  cases A <;> exact ⟨_, _, rfl⟩
theorem op_lenVS {x : Operand} {h0 : H} (A : K.Sl h0 V l) (hx : ev e x = some V) : opE (.lenV x) e h none = some (.int .i64 (l.length : Int), h) := by
  obtain ⟨P, c, rfl⟩ := A.shape
  simp only [opE, hx]
theorem WS.iaVS {x i : Operand} {k : IntKind} {h0 : H} {es : Nat} (A : K.Sl h0 V l) (j : Nat) {y : α} (hy : l[j]? = some y) (hg : gd e g = some true) (hx : ev e x = some V) (hi : ev e i = some (.int k (j : Int))) (hes : es = K.n)
    (w : ∀ b o, At h0 b o (K.cells y) → WS tab rb ss (put e d (.pointer (some ⟨b, o, none⟩))) h q) : WS tab rb (.op d g (.iaV es x i) :: ss) e h q := by
  subst hes
  have hj := (List.getElem?_eq_some_iff.1 hy).1
  cases A with
  | nil => simp at hj
  | emp a c => simp at hj
  | row b o c l ha => exact .op hg (op_iaV2 j hx hi hj) (w _ _ (ha.elem hy))
/-- A row of one's own, whole, as a slice that is read. -/
theorem Row.Sl.own {b c es : Nat} {ro : Bool} (hb : h.get b = some ⟨K.flat l, es, ro⟩) : K.Sl h (.slice (some ⟨b, 0, none⟩) l.length c) l :=
  .row b 0 c l ⟨_, hb, by simp, by simp⟩

/-! ### Rows of one's own that grow -/
variable (K)
inductive Row.Own : Value → List α → Seg → Prop
  | nil : Row.Own (.slice none 0 0) [] []
  | row (p : Nat) (l : List α) (hne : l ≠ []) : Row.Own (.slice (some ⟨p, 0, none⟩) l.length (2 * l.length)) l [(p, ⟨K.flat l, K.n, false⟩)]
/-- What an append takes. -/
structure Row.Src (h : H) (y : Value) (m : List α) : Prop where
  len : srcLen y = some m.length
  cells : srcCells h K.n m.length y = some (K.flat m)
variable {K} {m : List α} {y : Value}
theorem Row.Src.one {b c es : Nat} {ro : Bool} (hb : h.get b = some ⟨K.flat m, es, ro⟩) : K.Src h (.slice (some ⟨b, 0, none⟩) m.length c) m := by
  refine ⟨rfl, ?_⟩
  simp only [srcCells]
  rw [lds_at hb (by rw [K.flat_length]; simp), List.drop_zero, List.take_of_length_le (by rw [K.flat_length]; exact Nat.le_refl _)]
theorem Row.Src.sl (A : K.Sl h y m) : K.Src h y m := by
  cases A with
  | nil => exact ⟨rfl, by simp [srcCells, Row.flat]⟩
  | emp a c => exact ⟨rfl, by simp [srcCells, Row.flat, H.lds]⟩
  | row b o c l ha =>
    refine ⟨rfl, ?_⟩
    have := ha.lds
    rw [K.flat_length] at this
    exact this
theorem Row.Own.sl {S : Seg} (O : K.Own V l S) (M : ∀ p ∈ S, h.get p.1 = some p.2) : K.Sl h V l := by
  cases O with
  | nil => exact .nil
  | row p l hne => exact .own (M _ (List.mem_singleton.2 rfl))
theorem Mem.own0 (M : Mem base h (S :: L) R) : ∀ p ∈ S, h.get p.1 = some p.2 := fun p hp => (M.own p (by simp only [List.flatten_cons, List.mem_append]; exact .inl hp)).1
theorem Mem.owni (M : Mem base h L R) (i : Nat) (hi : L[i]? = some S) : ∀ p ∈ S, h.get p.1 = some p.2 := fun p hp => (M.own p (mem_flatten hi hp)).1
theorem WS.app {S : Seg} {x z : Operand} {bytes es : Nat} (O : K.Own V l S) (M : Mem base h (S :: L) R) (A : K.Src h y m) (hes : es = K.n) (hb : (l.length + m.length) * bytes ≤ 140737488355328) (hn : l.length + m.length ≤ 1099511627776) (hg : gd e g = some true) (hx : ev e x = some V) (hy : ev e z = some y)
    (k : ∀ V' S' h1, K.Own V' (l ++ m) S' → Mem base h1 (S' :: L) R → WS tab rb ss (put e d V') h1 q) : WS tab rb (.op d g (.app es bytes x z) :: ss) e h q := by
  subst hes
  obtain ⟨a1, a2⟩ := A
  have hall := plain1_one (K.flat_plain m)
  cases O with
  | nil =>
    by_cases c : m = []
    · subst c
      refine .op hg (op_app hx hy (r := (.slice none 0 0, h)) ?_) (k _ [] _ .nil M)
      simp only [appE, a1, a2]; rfl
    · have hm : m.length ≠ 0 := fun e => c (List.eq_nil_of_length_eq_zero e)
      refine .op hg (op_app hx hy (r := (.slice (some ⟨h.next, 0, none⟩) m.length (2 * m.length), h.alloc ⟨K.flat m, K.n, false⟩)) ?_) (k _ _ _ (by rw [List.nil_append]; exact .row h.next m c) (Mem.perm (M.alloc _) (by simp)))
      simp only [appE, a1, a2]
      simp only [List.length_nil, Nat.zero_add] at hb hn
      rw [if_neg hm, if_pos ⟨hb, hn, hall⟩]; rfl
  | row p l hne =>
    have hg2 : h.get p = some ⟨K.flat l, K.n, false⟩ := M.own0 _ (List.mem_singleton.2 rfl)
    by_cases c : m = []
    · subst c
      refine .op hg (op_app hx hy (r := (.slice (some ⟨p, 0, none⟩) l.length (2 * l.length), h)) ?_) (k _ _ _ (by rw [List.append_nil]; exact .row p l hne) M)
      simp only [List.length_nil] at a1 a2
      simp only [appE, a1, a2, Nat.add_zero]
      rw [if_pos (by omega)]; rfl
    · have hm : m.length ≠ 0 := fun e => c (List.eq_nil_of_length_eq_zero e)
      have M2 := (Mem.free (S1 := []) (S2 := []) M).alloc ⟨K.flat (l ++ m), K.n, false⟩
      refine .op hg (op_app hx hy (r := (.slice (some ⟨h.next, 0, none⟩) (l.length + m.length) (2 * (l.length + m.length)), (h.set p none).alloc ⟨K.flat (l ++ m), K.n, false⟩)) ?_) (k _ [(h.next, ⟨K.flat (l ++ m), K.n, false⟩)] _ ?_ (Mem.perm M2 (by simp [H.next_set])))
      · simp only [appE, a1, a2]
        rw [if_neg (by omega), if_pos ⟨hb, hn, hall⟩, lds_at hg2 (by rw [K.flat_length]; simp)]
        simp only
        rw [if_neg (by omega)]
        simp only [hg2]
        rw [if_pos ⟨trivial, trivial, trivial⟩, List.drop_zero, List.take_of_length_le (by rw [K.flat_length]; exact Nat.le_refl _), K.flat_append]
      · have := Row.Own.row (K := K) h.next (l ++ m) (by simp [hne])
        rw [List.length_append] at this; exact this
theorem Row.Own.shape {S : Seg} (O : K.Own V l S) : ∃ P, V = .slice P l.length (2 * l.length) := by cases O <;> exact ⟨_, rfl⟩
theorem op_lenVO {x : Operand} {S : Seg} (O : K.Own V l S) (hx : ev e x = some V) : opE (.lenV x) e h none = some (.int .i64 (l.length : Int), h) := by
  obtain ⟨P, rfl⟩ := O.shape
  simp only [opE, hx]
end
/-! ### Whole numbers and texts as records of one cell -/
def KU64 : Row UInt64 := ⟨fun x => [.int .u64 ((x.toNat : Nat) : Int)], 1, fun _ => rfl, by decide, fun _ => rfl⟩
def KU8 : Row UInt8 := ⟨fun x => [.int .u8 ((x.toNat : Nat) : Int)], 1, fun _ => rfl, by decide, fun _ => rfl⟩
def KInt : Row Int := ⟨fun x => [.int .i64 x], 1, fun _ => rfl, by decide, fun _ => rfl⟩
def KStr : Row (List UInt8) := ⟨fun x => [.string (bs x)], 1, fun _ => rfl, by decide, fun _ => rfl⟩
def KBool : Row Bool := ⟨fun x => [.bool x], 1, fun _ => rfl, by decide, fun _ => rfl⟩
theorem KU8_flat (l : List UInt8) : KU8.flat l = l.map fun b => Value.int .u8 ((b.toNat : Nat) : Int) := by
  induction l with
  | nil => rfl
  | cons b l ih => rw [KU8.flat_cons, ih]; rfl
theorem src_string (l : List UInt8) : KU8.Src h (.string (bs l)) l := by
  refine ⟨by simp only [srcLen, bs_size], ?_⟩
  simp only [srcCells]
  show (if (1 : Nat) = 1 then _ else _) = _
  rw [if_pos rfl, bs_extract, KU8_flat, List.take_of_length_le (Nat.le_refl _), List.drop_zero, bs_data]
/-- A text made of a row of bytes of one's own. -/
theorem op_cvBO {x : Operand} {V : Value} {l : List UInt8} {S : Seg} (O : KU8.Own V l S) (M : ∀ p ∈ S, h.get p.1 = some p.2) (hx : ev e x = some V) : opE (.cvB x) e h none = some (.string (bs l), h) := by
  cases O with
  | nil => simp only [opE, hx]; rfl
  | row p l hne =>
    have hb := M _ (List.mem_singleton.2 rfl)
    simp only [KU8_flat] at hb
    exact op_cvBs hb hx rfl
theorem u64_ofNat {n : Nat} (h : n < 18446744073709551616) : Value.int .u64 (n : Int) = .int .u64 ((UInt64.ofNat n).toNat : Int) := by
  rw [UInt64.toNat_ofNat']; congr 2; omega
theorem take8 {l : List UInt8} (h : 8 ≤ l.length) : ∃ c0 c1 c2 c3 c4 c5 c6 c7, l.take 8 = [c0, c1, c2, c3, c4, c5, c6, c7] := by
  match l, h with
  | c0 :: c1 :: c2 :: c3 :: c4 :: c5 :: c6 :: c7 :: r, _ => exact ⟨c0, c1, c2, c3, c4, c5, c6, c7, rfl⟩
/-- copy of a text's first bytes into a row of one's own. -/
theorem WS.cpyS {p off n c : Nat} {es bes : Nat} {cells : List Value} {x y : Operand} {l : List UInt8} (M : Mem base h ([(p, ⟨cells, bes, false⟩)] :: L) R) (vs cs : List Value) (hg : gd e g = some true) (hx : ev e x = some (.slice (some ⟨p, off, none⟩) n c)) (hy : ev e y = some (.string (bs l))) (hes : es = 1) (hv : (l.take n).map (fun b => Value.int .u8 (b.toNat : Int)) = vs) (hn : vs.length = n) (hp : 0 < n)
    (hle : off + n ≤ cells.length) (ho : vs.all (·.oneCell') = true) (hc : splice cells off vs = cs)
    (k : ∀ h1, Mem base h1 ([(p, ⟨cs, bes, false⟩)] :: L) R → WS tab rb ss (put e d (.int .i64 (n : Int))) h1 q) : WS tab rb (.op d g (.cpy es x y) :: ss) e h q := by
  have hb : h.get p = some ⟨cells, bes, false⟩ := (M.own (p, ⟨cells, bes, false⟩) (by simp)).1
  have hln : n ≤ l.length := by
    have := congrArg List.length hv; rw [List.length_map, List.length_take, hn] at this; omega
  have hmin : Nat.min l.length n = n := Nat.min_eq_right hln
  refine .op hg (v := .int .i64 (n : Int)) (h1 := h.set p (some ⟨cs, bes, false⟩)) ?_ (k _ ((Mem.set (S1 := []) (S2 := []) M) _))
  have hsrc : srcCells h 1 n (.string (bs l)) = some vs := by
    simp only [srcCells]; rw [if_pos trivial, bs_extract, List.drop_zero, bs_data, hv]
  have hst : h.sts ⟨p, off, none⟩ vs = some (h.set p (some ⟨cs, bes, false⟩)) := by
    rw [← hc]; subst hn
    match vs, hp, hle, ho with
    | v :: vs, _, hle, ho => exact sts_at hb rfl hle ho
  subst hes
  simp only [opE, hx, hy, srcLen, bs_size, hmin, hsrc, hst]
theorem WS.eqqD {x y : Operand} {k : EqK} {v w : Value} {p : Prop} [Decidable p] (hg : gd e g = some true) (hx : ev e x = some v) (hy : ev e y = some w) (hc : eqV k v w = some (decide p)) (kt : p → WS tab rb ss (put e d (.bool true)) h q) (kf : ¬ p → WS tab rb ss (put e d (.bool false)) h q) : WS tab rb (.op d g (.eqq false k x y) :: ss) e h q := by
  have ho : opE (.eqq false k x y) e h none = some (.bool (decide p != false), h) := by simp only [opE, hx, hy, hc]
  by_cases c : p
  · exact .opV _ hg ho (by simp [c]) (kt c)
  · exact .opV _ hg ho (by simp [c]) (kf c)
theorem WS.eqqDn {x y : Operand} {k : EqK} {v w : Value} {p : Prop} [Decidable p] (hg : gd e g = some true) (hx : ev e x = some v) (hy : ev e y = some w) (hc : eqV k v w = some (decide p)) (kt : ¬ p → WS tab rb ss (put e d (.bool true)) h q) (kf : p → WS tab rb ss (put e d (.bool false)) h q) : WS tab rb (.op d g (.eqq true k x y) :: ss) e h q := by
  have ho : opE (.eqq true k x y) e h none = some (.bool (decide p != true), h) := by simp only [opE, hx, hy, hc]
  by_cases c : p
  · exact .opV _ hg ho (by simp [c]) (kf c)
  · exact .opV _ hg ho (by simp [c]) (kt c)
theorem int_beq (a b : Nat) : ((a : Int) == (b : Int)) = decide (a = b) := by
  by_cases c : a = b
  · simp [c]
  · simp [c]; omega
theorem int_beq0 (a : Nat) : ((a : Int) == 0) = decide (a = 0) := int_beq a 0
theorem str_beq (l m : List UInt8) : ((bs l).toList == (bs m).toList) = decide (l = m) := by
  rw [bs_toList, bs_toList]
  by_cases c : l = m
  · simp [c]
  · simp [c]
theorem bool_beq (a b : Bool) : (a == b) = decide (a = b) := by cases a <;> cases b <;> rfl
theorem op_remN {x y : Operand} {k : IntKind} {a b : Nat} (hx : ev e x = some (.int k (a : Int))) (hy : ev e y = some (.int k (b : Int))) (hb : 0 < b) : opE (.bin .rem x y) e h none = some (.int k ((a % b : Nat) : Int), h) := by
  refine op_bin2 hx hy ?_
  simp only [binV]
  rw [if_neg (by simp), if_neg (by omega)]
  rfl
theorem add1_u64 {x : UInt64} : Value.int .u64 (IntKind.u64.wrap ((x.toNat : Int) + 1)) = .int .u64 (((x + 1).toNat : Nat) : Int) := by
  congr 1
section
variable {α : Type} {K : Row α}
theorem Row.flat_set : ∀ {l : List α} {j k : Nat} {y y' : α} {v : Value}, l[j]? = some y → k < K.n → (K.cells y).set k v = K.cells y' → splice (K.flat l) (j * K.n + k) [v] = K.flat (l.set j y') := by
  intro l
  induction l with
  | nil => intro j k y y' v hj; simp at hj
  | cons x l ih =>
    intro j k y y' v hj hk hs
    cases j with
    | zero =>
      simp at hj; subst hj
      rw [List.set_cons_zero, K.flat_cons, K.flat_cons, ← hs, Nat.zero_mul, Nat.zero_add]
      have hl := K.len x
      unfold splice
      rw [List.take_append_of_le_length (by omega), List.length_singleton, List.drop_append_of_le_length (by omega), ← List.append_assoc]
      rw [List.set_eq_take_append_cons_drop, if_pos (by omega)]; simp
    | succ j =>
      simp at hj
      have h2 := ih hj hk hs
      rw [List.set_cons_succ, K.flat_cons, K.flat_cons, ← h2]
      have hl := K.len x
      have e : (j + 1) * K.n + k = (K.cells x).length + (j * K.n + k) := by rw [hl, Nat.add_mul, Nat.one_mul]; omega
      unfold splice
      rw [e, List.take_append, List.length_singleton, List.drop_append, List.take_of_length_le (by omega), List.drop_of_length_le (by omega), List.nil_append, List.append_assoc, List.append_assoc, List.append_assoc]
      rw [show (K.cells x).length + (j * K.n + k) - (K.cells x).length = j * K.n + k by omega, show (K.cells x).length + (j * K.n + k) + 1 - (K.cells x).length = j * K.n + k + 1 by omega]
/-- A store into one cell of a record of a row of one's own. -/
theorem WS.stE {p j k es : Nat} {l : List α} {y y' : α} {v : Value} {x z : Operand} (M : Mem base h ([(p, ⟨K.flat l, es, false⟩)] :: L) R) (hy : l[j]? = some y) (hk : k < K.n) (hs : (K.cells y).set k v = K.cells y') (hg : gd e g = some true) (hx : ev e x = some (.pointer (some ⟨p, 0 + j * K.n + k, none⟩))) (hz : ev e z = some v) (hv : v.cells.toList = [v]) (ho : v.oneCell' = true)
    (w : ∀ h1, Mem base h1 ([(p, ⟨K.flat (l.set j y'), es, false⟩)] :: L) R → WS tab rb ss (put e d undef) h1 q) : WS tab rb (.op d g (.st 1 x z) :: ss) e h q := by
  have hj := (List.getElem?_eq_some_iff.1 hy).1
  have hle : 0 + j * K.n + k + [v].length ≤ (K.flat l).length := by
    rw [K.flat_length]
    have := Nat.mul_le_mul_right K.n (show j + 1 ≤ l.length by omega)
    rw [Nat.add_mul, Nat.one_mul] at this
    simp; omega
  refine WS.st1 M [v] (K.flat (l.set j y')) hg hx hz hv rfl (by decide) hle (by simp [ho]) ?_ w
  rw [Nat.zero_add]; exact Row.flat_set hy hk hs
/-- copy of a whole row into a row of one's own of that length. -/
theorem WS.cpyA {p c es bes n : Nat} {cells : List Value} {x y : Operand} {V : Value} {l : List α} (M : Mem base h ([(p, ⟨cells, bes, false⟩)] :: L) R) (A : K.Sl h V l) (hg : gd e g = some true) (hx : ev e x = some (.slice (some ⟨p, 0, none⟩) n c)) (hy : ev e y = some V) (hes : es = K.n) (hn : n = l.length) (hc : cells.length = l.length * K.n)
    (w : ∀ h1, Mem base h1 ([(p, ⟨K.flat l, bes, false⟩)] :: L) R → WS tab rb ss (put e d (.int .i64 (n : Int))) h1 q) : WS tab rb (.op d g (.cpy es x y) :: ss) e h q := by
  subst hes hn
  have hb : h.get p = some ⟨cells, bes, false⟩ := (M.own (p, ⟨cells, bes, false⟩) (by simp)).1
  obtain ⟨s1, s2⟩ := Row.Src.sl A
  have hmin : Nat.min l.length l.length = l.length := Nat.min_self _
  refine .op hg (v := .int .i64 (l.length : Int)) (h1 := h.set p (some ⟨K.flat l, bes, false⟩)) ?_ (w _ ((Mem.set (S1 := []) (S2 := []) M) _))
  by_cases hl : l = []
  · subst hl
    have hce : cells = [] := List.eq_nil_of_length_eq_zero (by simpa using hc)
    subst hce
    have hst : h.sts ⟨p, 0, none⟩ (K.flat []) = some h := rfl
    simp only [opE, hx, hy, s1, hmin, s2, hst]
    have : h.set p (some ⟨K.flat [], bes, false⟩) = h := by
      obtain ⟨t, nx⟩ := h
      have e : H.get ⟨t, nx⟩ p = some ⟨[], bes, false⟩ := hb
      show (⟨Tr.setK p t p (some ⟨[], bes, false⟩), nx⟩ : H) = ⟨t, nx⟩
      congr 1
      exact Tr.setK_self p t p (Nat.le_refl _) e
    rw [this]
  · have hp : 0 < (K.flat l).length := by rw [K.flat_length]; exact Nat.mul_pos (List.length_pos_iff.2 hl) K.pos
    have hall := plain1_one (K.flat_plain l)
    have hsp : splice cells 0 (K.flat l) = K.flat l := by
      unfold splice; rw [List.take_zero, List.nil_append, List.drop_of_length_le (by rw [K.flat_length]; omega), List.append_nil]
    have hst : h.sts ⟨p, 0, none⟩ (K.flat l) = some (h.set p (some ⟨K.flat l, bes, false⟩)) := by
      generalize hfl : K.flat l = fl at *
      match fl, hp, hall with
      | v :: vs, _, hall =>
        have := sts_at hb rfl (off := 0) (v := v) (vs := vs) (by rw [← hfl, K.flat_length, Nat.zero_add]; show _ ≤ cells.length; omega) hall
        rw [this]
        show some (h.set p (some ⟨splice cells 0 (v :: vs), bes, false⟩)) = _
        rw [hsp]
    simp only [opE, hx, hy, s1, hmin, s2, hst]
end
theorem same1_self : ∀ {v : Value}, v.oneCell' = true → (∃ P n c, v = .slice P n c) ∨ plain1 v = true → same1 v v = true := by
  rintro v - (⟨P, n, c, rfl⟩ | h)
  · cases P <;> simp [same1, sameA]
  · exact same1_refl h
def simple1 : Value → Bool
  | .slice _ _ _ => true
  | v => plain1 v
theorem sameL_self : ∀ {l : List Value}, l.all simple1 = true → sameL l l = true := by
  intro l
  induction l with
  | nil => intro _; rfl
  | cons v l ih =>
    intro h
    simp only [List.all_cons, Bool.and_eq_true] at h
    simp only [sameL, ih h.2, Bool.and_true]
    unfold simple1 at h
    obtain ⟨h, _⟩ := h
    split at h
    · rename_i P n c; cases P <;> simp [same1, sameA]
    · exact same1_refl h
theorem same_agg {cs : Array Value} (h : cs.toList.all simple1 = true) : sameV (.agg cs) (.agg cs) = true := sameL_self h
/-- Whole numbers without bounds. -/
def KNat : Row Nat := ⟨fun n => [.int .u64 (n : Int)], 1, fun _ => rfl, by decide, fun _ => rfl⟩
end Go.Proofs.Ytncpdahappmhkaa.Am
