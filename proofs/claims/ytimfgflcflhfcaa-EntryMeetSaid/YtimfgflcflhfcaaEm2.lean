/- The law 'EntryMeet' by the abstract machine: two majorities that differ in at most one node meet. -/
import Derived.Test.YtimfgflcflhfcaaEm
namespace Go.Proofs.Ytimfgflcflhfcaa.Em
open Go Go.Proofs.Ytimfgflcflhfcaa.Am Go.Proofs.Ytimfgflcflhfcaa.IrEntryMeet
set_option linter.unusedVariables false
set_option linter.unusedSimpArgs false
variable {tab : Nat → Option FD}
theorem op_bin {e : Env} {h : H} {x y : Operand} {a b v : Value} {op : BinOp} (hx : ev e x = some a) (hy : ev e y = some b) (hv : binV op a b = some v) : opE (.bin op x y) e h none = some (v, h) := by
  simp only [opE, hx, hy, hv]
def gCnt (us : List Value) : Option Value := match us with | [.int .u8 a, .int .u8 b] => if (0 ≤ a ∧ a < 256) ∧ (0 ≤ b ∧ b < 256) then some (.int .i64 ((cnt (a.toNat &&& b.toNat) : Nat) : Int)) else none | _ => none
theorem and_lt {a : Nat} (b : Nat) (ha : a < 256) : a &&& b < 256 := Nat.lt_of_le_of_lt Nat.and_le_left ha
theorem gCnt_run {a b : Nat} (ha : a < 256) (hb : b < 256) (h : H) : pureG gCnt [.int .u8 (a : Int), .int .u8 (b : Int)] h = some (.int .i64 ((cnt (a &&& b) : Nat) : Int), h) := by
  simp only [pureG, gCnt, Int.toNat_natCast]; rw [if_pos ⟨⟨by omega, by omega⟩, by omega, by omega⟩]
theorem gMaj_run {a : Nat} (ha : a < 256) (h : H) : pureG gMaj [.int .u8 (a : Int)] h = some (.int .i64 ((maj a : Nat) : Int), h) := by
  simp only [pureG, gMaj, Int.toNat_natCast]; rw [if_pos ⟨by omega, by omega⟩]
theorem count_ran (t19 : tab 19 = some (.code ir19)) (t13 : tab 13 = some (.spec gMem)) {a b : Nat} (ha : a < 256) (hb : b < 256) (h : H) : ∃ h3, Ran tab 19 [.int .u8 (a : Int), .int .u8 (b : Int)] h (.int .i64 ((cnt (a &&& b) : Nat) : Int)) h3 := by
  obtain ⟨p, c, h', e1⟩ := gMem_run (and_lt b ha) h
  have x1 := and8 ha hb
  refine Ran.codeR' [.int .i64 ((cnt (a &&& b) : Nat) : Int)] [(4, .int .i64 ((cnt (a &&& b) : Nat) : Int))] t19 rfl ?_ (fun _ => rfl)
  exact ⟨_, (.seq (.run [(0, _), (1, _)] (.op rfl rfl .nil) rfl) (.seq (.run [(5, _)] (.op rfl rfl (.op rfl rfl (.op rfl (op_bin rfl rfl x1) (.call rfl rfl rfl (Ran.spec t13 e1) (.op rfl rfl .nil))))) rfl) (.seq (.run [(4, _)] (.op rfl rfl (.op rfl rfl (.op rfl rfl .nil))) rfl) .ret)))⟩
theorem s19 : SoundF Try.prog 19 (pureG gCnt) := SoundF.plain dOK tab1OK fun us v h => by
  unfold gCnt at h
  split at h
  · rename_i a b
    split at h
    · rename_i hc; cases h
      obtain ⟨⟨a1, a2⟩, b1, b2⟩ := hc
      obtain ⟨x, rfl⟩ : ∃ n : Nat, a = n := ⟨a.toNat, (Int.toNat_of_nonneg a1).symm⟩
      obtain ⟨y, rfl⟩ : ∃ n : Nat, b = n := ⟨b.toNat, (Int.toNat_of_nonneg b1).symm⟩
      exact ⟨rfl, rfl, count_ran rfl rfl (by omega) (by omega) _⟩
    · cases h
  · cases h
def tab2 : Nat → Option FD := fun f => if f = 13 then some (.spec gMem) else if f = 12 then some (.spec (pureG gMaj)) else if f = 19 then some (.spec (pureG gCnt)) else if f = 14 then some (.spec (fun us h => if us = [] then some (.bool true, h) else none)) else tab0 f
theorem tab2OK : TabOK Try.prog tab2 := by
  intro f d h
  unfold tab2 at h
  split at h
  · rename_i e; subst e; cases h; exact s13
  · split at h
    · rename_i e; subst e; cases h; exact s12
    · split at h
      · rename_i e; subst e; cases h; exact s19
      · split at h
        · rename_i e; subst e; cases h; exact s14
        · exact tab0OK f d h
structure Tm (tab : Nat → Option FD) : Prop where
  t8 : tab 8 = some (.code ir8)
  t13 : tab 13 = some (.spec gMem)
  t12 : tab 12 = some (.spec (pureG gMaj))
  t19 : tab 19 = some (.spec (pureG gCnt))
  t14 : tab 14 = some (.spec (fun us h => if us = [] then some (.bool true, h) else none))
/-! ### The plain law -/
def chk1 : Bool := (List.range 32).all fun m => (List.range 5).all fun k => (List.range 32).all fun a => decide (cnt (a &&& m) < maj m) || (List.range 32).all fun b => decide (cnt (b &&& (m ^^^ 2 ^ k)) < maj (m ^^^ 2 ^ k)) || cnt (m ^^^ 2 ^ k) == 0 || cnt m == 0 || cnt (((a &&& m) &&& b) &&& (m ^^^ 2 ^ k)) != 0
theorem chk1_true : chk1 = true := by decide +kernel
def chk2 : Bool := (List.range 32).all fun m => (List.range 32).all fun a => decide (cnt (a &&& m) < maj m) || (List.range 32).all fun b => decide (cnt (b &&& m) < maj m) || cnt m == 0 || cnt ((a &&& m) &&& b) != 0
theorem chk2_true : chk2 = true := by decide +kernel
theorem cnt_mod (x : Nat) : cnt (x % 32) = cnt x := by unfold cnt; omega
theorem and_mod (a b : Nat) : (a &&& b) % 32 = (a % 32) &&& (b % 32) := Nat.and_mod_two_pow (n := 5)
theorem xor_mod (a b : Nat) : (a ^^^ b) % 32 = (a % 32) ^^^ (b % 32) := Nat.xor_mod_two_pow (n := 5)
theorem maj_mod (x : Nat) : maj (x % 32) = maj x := by unfold maj; rw [cnt_mod]
theorem meet1 {m k a b : Nat} (hk : k < 5) (h1 : maj m ≤ cnt (a &&& m)) (h2 : maj (m ^^^ 2 ^ k) ≤ cnt (b &&& (m ^^^ 2 ^ k))) (h3 : cnt m ≠ 0) (h4 : cnt (m ^^^ 2 ^ k) ≠ 0) : cnt (((a &&& m) &&& b) &&& (m ^^^ 2 ^ k)) ≠ 0 := by
  have h := chk1_true
  unfold chk1 at h
  simp only [List.all_eq_true, List.mem_range, Bool.or_eq_true, decide_eq_true_eq, beq_iff_eq, bne_iff_ne] at h
  have hp : 2 ^ k % 32 = 2 ^ k := Nat.mod_eq_of_lt (Nat.pow_lt_pow_right (by omega) hk : 2 ^ k < 2 ^ 5)
  have ex : (m % 32) ^^^ 2 ^ k = (m ^^^ 2 ^ k) % 32 := by rw [xor_mod, hp]
  have := h (m % 32) (Nat.mod_lt _ (by omega)) k hk (a % 32) (Nat.mod_lt _ (by omega))
  rw [← and_mod, cnt_mod, maj_mod] at this
  have := (this.resolve_left (by omega)) (b % 32) (Nat.mod_lt _ (by omega))
  rw [ex, ← and_mod, ← and_mod, ← and_mod, cnt_mod, cnt_mod, cnt_mod, cnt_mod, maj_mod] at this
  rcases this with ((q | q) | q) | q
  · omega
  · exact absurd q h4
  · exact absurd q h3
  · exact q
theorem meet2 {m a b : Nat} (h1 : maj m ≤ cnt (a &&& m)) (h2 : maj m ≤ cnt (b &&& m)) (h3 : cnt m ≠ 0) : cnt ((a &&& m) &&& b) ≠ 0 := by
  have h := chk2_true
  unfold chk2 at h
  simp only [List.all_eq_true, List.mem_range, Bool.or_eq_true, decide_eq_true_eq, beq_iff_eq, bne_iff_ne] at h
  have := h (m % 32) (Nat.mod_lt _ (by omega)) (a % 32) (Nat.mod_lt _ (by omega))
  rw [← and_mod, cnt_mod, maj_mod] at this
  have := (this.resolve_left (by omega)) (b % 32) (Nat.mod_lt _ (by omega))
  rw [← and_mod, ← and_mod, cnt_mod, cnt_mod, cnt_mod] at this
  rcases this with (q | q) | q
  · omega
  · exact absurd q h3
  · exact q
theorem shl5 {k : Nat} (hk : k < 5) : binV .shl (.int .u8 1) (.int .u8 ((k : Nat) : Int)) = some (.int .u8 ((2 ^ k : Nat) : Int)) := by
  match k, hk with
  | 0, _ => rfl
  | 1, _ => rfl
  | 2, _ => rfl
  | 3, _ => rfl
  | 4, _ => rfl
theorem law_ran (T : Tm tab) {m node one other : Nat} (hm : m < 256) (hnd : node < 256) (ho : one < 256) (hr : other < 256) : ∃ h3, Ran tab 8 [.int .u8 (m : Int), .int .u8 (node : Int), .int .u8 (one : Int), .int .u8 (other : Int)] ⟨.leaf, 0⟩ (.bool true) h3 := by
  have hk : node % 5 < 5 := Nat.mod_lt _ (by omega)
  have hp : 2 ^ (node % 5) < 256 := Nat.lt_of_lt_of_le (Nat.pow_lt_pow_right (by omega) hk : 2 ^ (node % 5) < 2 ^ 5) (by omega)
  have hn : m ^^^ 2 ^ (node % 5) < 256 := Nat.xor_lt_two_pow (n := 8) hm hp
  have c16 : binV .rem (.int .u8 (node : Int)) (.int .u8 5) = some (.int .u8 ((node % 5 : Nat) : Int)) := by
    simp only [binV]; rw [if_neg (by simp), if_neg (by omega)]; rfl
  have c17 := shl5 hk
  have c18 := xor8 hm hp
  have x1 := and8 ho hm
  have x2 := and8 (and_lt m ho) hr
  have x3 := and8 (and_lt other (and_lt m ho)) hn
  obtain ⟨p1, d1, h1, e1⟩ := gMem_run hm ⟨.leaf, 0⟩
  obtain ⟨p2, d2, h2, e2⟩ := gMem_run hn h1
  obtain ⟨p3, d3, h3, e3⟩ := gMem_run (and_lt (m ^^^ 2 ^ (node % 5)) (and_lt other (and_lt m ho))) h2
  refine Ran.codeR' [.bool true] [(8, .bool true)] T.t8 rfl ?_ (fun _ => rfl)
  by_cases z1 : cnt m = 0
  · have c22 : Value.bool (((cnt m : Nat) : Int) == 0) = Value.bool true := by simp [z1]
    exact ⟨_, (.seq (.run [(0, _), (1, _), (2, _), (3, _)] (.op rfl rfl .nil) rfl) (.seq (.run [(0, _), (2, _), (3, _), (9, _)] (.op rfl rfl (.op rfl rfl (.op rfl (op_bin rfl rfl c16) (.op rfl (op_bin rfl rfl c17) (.op rfl (op_bin rfl rfl c18) (.op rfl rfl .nil)))))) rfl) (.seq (.run [(0, _), (2, _), (3, _), (9, _), (10, _)] (.op rfl rfl .nil) rfl) (.seqR (.seq (.run [(0, _), (2, _), (3, _), (9, _), (10, _), (28, _)] (.op rfl rfl (.call rfl rfl rfl (Ran.spec T.t13 e1) (.op rfl rfl (.op rfl (op_val rfl c22) (.op rfl rfl (.off rfl (.offC rfl (.off rfl (.off rfl (.op rfl rfl .nil)))))))))) rfl) (.condT rfl (.seq (.run [(8, _)] (.call rfl rfl rfl (Ran.spec T.t14 rfl) (.op rfl rfl .nil)) rfl) .ret)))))))⟩
  have c22 : Value.bool (((cnt m : Nat) : Int) == 0) = Value.bool false := by simp; omega
  by_cases z2 : cnt (m ^^^ 2 ^ (node % 5)) = 0
  · have c27 : Value.bool (((cnt (m ^^^ 2 ^ (node % 5)) : Nat) : Int) == 0) = Value.bool true := by simp [z2]
    exact ⟨_, (.seq (.run [(0, _), (1, _), (2, _), (3, _)] (.op rfl rfl .nil) rfl) (.seq (.run [(0, _), (2, _), (3, _), (9, _)] (.op rfl rfl (.op rfl rfl (.op rfl (op_bin rfl rfl c16) (.op rfl (op_bin rfl rfl c17) (.op rfl (op_bin rfl rfl c18) (.op rfl rfl .nil)))))) rfl) (.seq (.run [(0, _), (2, _), (3, _), (9, _), (10, _)] (.op rfl rfl .nil) rfl) (.seqR (.seq (.run [(0, _), (2, _), (3, _), (9, _), (10, _), (28, _)] (.op rfl rfl (.call rfl rfl rfl (Ran.spec T.t13 e1) (.op rfl rfl (.op rfl (op_val rfl c22) (.op rfl rfl (.op rfl rfl (.call rfl rfl rfl (Ran.spec T.t13 e2) (.op rfl rfl (.op rfl (op_val rfl c27) (.op rfl rfl .nil)))))))))) rfl) (.condT rfl (.seq (.run [(8, _)] (.call rfl rfl rfl (Ran.spec T.t14 rfl) (.op rfl rfl .nil)) rfl) .ret)))))))⟩
  have c27 : Value.bool (((cnt (m ^^^ 2 ^ (node % 5)) : Nat) : Int) == 0) = Value.bool false := by simp; omega
  by_cases w : maj m ≤ cnt (one &&& m)
  · have c36 : Value.bool (decide (((cnt (one &&& m) : Nat) : Int) ≥ ((maj m : Nat) : Int))) = Value.bool true := by simp; omega
    by_cases b : maj (m ^^^ 2 ^ (node % 5)) ≤ cnt (other &&& (m ^^^ 2 ^ (node % 5)))
    · have c45 : Value.bool (decide (((cnt (other &&& (m ^^^ 2 ^ (node % 5))) : Nat) : Int) ≥ ((maj (m ^^^ 2 ^ (node % 5)) : Nat) : Int))) = Value.bool true := by simp; omega
      have z68 := meet1 hk w b z1 z2
      have c68 : Value.bool (((cnt (((one &&& m) &&& other) &&& (m ^^^ 2 ^ (node % 5))) : Nat) : Int) == 0) = Value.bool false := by simp; omega
      obtain ⟨p4, d4, h4, e4⟩ := gMem_run (and_lt other (and_lt m ho)) h3
      by_cases s : maj m ≤ cnt (other &&& m)
      · have c55 : Value.bool (decide (((cnt (other &&& m) : Nat) : Int) ≥ ((maj m : Nat) : Int))) = Value.bool true := by simp; omega
        have z80 := meet2 w s z1
        have c80 : Value.bool (((cnt ((one &&& m) &&& other) : Nat) : Int) == 0) = Value.bool false := by simp; omega
        exact ⟨_, (.seq (.run [(0, _), (1, _), (2, _), (3, _)] (.op rfl rfl .nil) rfl) (.seq (.run [(0, _), (2, _), (3, _), (9, _)] (.op rfl rfl (.op rfl rfl (.op rfl (op_bin rfl rfl c16) (.op rfl (op_bin rfl rfl c17) (.op rfl (op_bin rfl rfl c18) (.op rfl rfl .nil)))))) rfl) (.seq (.run [(0, _), (2, _), (3, _), (9, _), (10, _)] (.op rfl rfl .nil) rfl) (.seq (.seq (.run [(0, _), (2, _), (3, _), (9, _), (10, _), (28, _)] (.op rfl rfl (.call rfl rfl rfl (Ran.spec T.t13 e1) (.op rfl rfl (.op rfl (op_val rfl c22) (.op rfl rfl (.op rfl rfl (.call rfl rfl rfl (Ran.spec T.t13 e2) (.op rfl rfl (.op rfl (op_val rfl c27) (.op rfl rfl .nil)))))))))) rfl) (.condF rfl .skip)) (.seq (.run [(0, _), (2, _), (3, _), (9, _), (10, _), (11, _)] (.op rfl rfl (.op rfl rfl (.op rfl rfl (.call rfl rfl rfl (Ran.spec T.t19 (gCnt_run ho hm _)) (.op rfl rfl (.call rfl rfl rfl (Ran.spec T.t12 (gMaj_run hm _)) (.op rfl (op_val rfl c36) (.op rfl rfl .nil)))))))) rfl) (.seq (.run [(0, _), (2, _), (3, _), (9, _), (10, _), (11, _), (12, _)] (.op rfl rfl (.op rfl rfl (.op rfl rfl (.op rfl rfl (.op rfl rfl (.call rfl rfl rfl (Ran.spec T.t19 (gCnt_run hr hn _)) (.op rfl rfl (.call rfl rfl rfl (Ran.spec T.t12 (gMaj_run hn _)) (.op rfl (op_val rfl c45) (.op rfl rfl (.op rfl rfl .nil))))))))))) rfl) (.seq (.run [(0, _), (2, _), (3, _), (9, _), (12, _), (13, _)] (.op rfl rfl (.op rfl rfl (.op rfl rfl (.op rfl rfl (.op rfl rfl (.call rfl rfl rfl (Ran.spec T.t19 (gCnt_run hr hm _)) (.op rfl rfl (.call rfl rfl rfl (Ran.spec T.t12 (gMaj_run hm _)) (.op rfl (op_val rfl c55) (.op rfl rfl (.op rfl rfl .nil))))))))))) rfl) (.seq (.seq (.run [(82, _)] (.op rfl rfl (.op rfl rfl (.op rfl rfl (.op rfl rfl (.op rfl (op_bin rfl rfl x1) (.op rfl rfl (.op rfl (op_bin rfl rfl x2) (.op rfl rfl (.op rfl (op_bin rfl rfl x3) (.call rfl rfl rfl (Ran.spec T.t13 e3) (.op rfl rfl (.op rfl (op_val rfl c68) (.op rfl rfl (.op rfl rfl (.op rfl rfl (.op rfl rfl (.op rfl rfl (.op rfl rfl (.op rfl (op_bin rfl rfl x1) (.op rfl rfl (.op rfl (op_bin rfl rfl x2) (.call rfl rfl rfl (Ran.spec T.t13 e4) (.op rfl rfl (.op rfl (op_val rfl c80) (.op rfl rfl (.op rfl rfl .nil)))))))))))))))))))))))))) rfl) (.condF rfl .skip)) (.seq (.run [(8, _)] (.call rfl rfl rfl (Ran.spec T.t14 rfl) (.op rfl rfl .nil)) rfl) .ret)))))))))⟩
      · have c55 : Value.bool (decide (((cnt (other &&& m) : Nat) : Int) ≥ ((maj m : Nat) : Int))) = Value.bool false := by simp; omega
        exact ⟨_, (.seq (.run [(0, _), (1, _), (2, _), (3, _)] (.op rfl rfl .nil) rfl) (.seq (.run [(0, _), (2, _), (3, _), (9, _)] (.op rfl rfl (.op rfl rfl (.op rfl (op_bin rfl rfl c16) (.op rfl (op_bin rfl rfl c17) (.op rfl (op_bin rfl rfl c18) (.op rfl rfl .nil)))))) rfl) (.seq (.run [(0, _), (2, _), (3, _), (9, _), (10, _)] (.op rfl rfl .nil) rfl) (.seq (.seq (.run [(0, _), (2, _), (3, _), (9, _), (10, _), (28, _)] (.op rfl rfl (.call rfl rfl rfl (Ran.spec T.t13 e1) (.op rfl rfl (.op rfl (op_val rfl c22) (.op rfl rfl (.op rfl rfl (.call rfl rfl rfl (Ran.spec T.t13 e2) (.op rfl rfl (.op rfl (op_val rfl c27) (.op rfl rfl .nil)))))))))) rfl) (.condF rfl .skip)) (.seq (.run [(0, _), (2, _), (3, _), (9, _), (10, _), (11, _)] (.op rfl rfl (.op rfl rfl (.op rfl rfl (.call rfl rfl rfl (Ran.spec T.t19 (gCnt_run ho hm _)) (.op rfl rfl (.call rfl rfl rfl (Ran.spec T.t12 (gMaj_run hm _)) (.op rfl (op_val rfl c36) (.op rfl rfl .nil)))))))) rfl) (.seq (.run [(0, _), (2, _), (3, _), (9, _), (10, _), (11, _), (12, _)] (.op rfl rfl (.op rfl rfl (.op rfl rfl (.op rfl rfl (.op rfl rfl (.call rfl rfl rfl (Ran.spec T.t19 (gCnt_run hr hn _)) (.op rfl rfl (.call rfl rfl rfl (Ran.spec T.t12 (gMaj_run hn _)) (.op rfl (op_val rfl c45) (.op rfl rfl (.op rfl rfl .nil))))))))))) rfl) (.seq (.run [(0, _), (2, _), (3, _), (9, _), (12, _), (13, _)] (.op rfl rfl (.op rfl rfl (.op rfl rfl (.op rfl rfl (.op rfl rfl (.call rfl rfl rfl (Ran.spec T.t19 (gCnt_run hr hm _)) (.op rfl rfl (.call rfl rfl rfl (Ran.spec T.t12 (gMaj_run hm _)) (.op rfl (op_val rfl c55) (.op rfl rfl (.op rfl rfl .nil))))))))))) rfl) (.seq (.seq (.run [(82, _)] (.op rfl rfl (.op rfl rfl (.op rfl rfl (.op rfl rfl (.op rfl (op_bin rfl rfl x1) (.op rfl rfl (.op rfl (op_bin rfl rfl x2) (.op rfl rfl (.op rfl (op_bin rfl rfl x3) (.call rfl rfl rfl (Ran.spec T.t13 e3) (.op rfl rfl (.op rfl (op_val rfl c68) (.op rfl rfl (.op rfl rfl (.op rfl rfl (.op rfl rfl (.off rfl (.off rfl (.off rfl (.off rfl (.off rfl (.offC rfl (.off rfl (.off rfl (.op rfl rfl (.op rfl rfl .nil)))))))))))))))))))))))))) rfl) (.condF rfl .skip)) (.seq (.run [(8, _)] (.call rfl rfl rfl (Ran.spec T.t14 rfl) (.op rfl rfl .nil)) rfl) .ret)))))))))⟩
    · have c45 : Value.bool (decide (((cnt (other &&& (m ^^^ 2 ^ (node % 5))) : Nat) : Int) ≥ ((maj (m ^^^ 2 ^ (node % 5)) : Nat) : Int))) = Value.bool false := by simp; omega
      obtain ⟨p4, d4, h4, e4⟩ := gMem_run (and_lt other (and_lt m ho)) h2
      by_cases s : maj m ≤ cnt (other &&& m)
      · have c55 : Value.bool (decide (((cnt (other &&& m) : Nat) : Int) ≥ ((maj m : Nat) : Int))) = Value.bool true := by simp; omega
        have z80 := meet2 w s z1
        have c80 : Value.bool (((cnt ((one &&& m) &&& other) : Nat) : Int) == 0) = Value.bool false := by simp; omega
        exact ⟨_, (.seq (.run [(0, _), (1, _), (2, _), (3, _)] (.op rfl rfl .nil) rfl) (.seq (.run [(0, _), (2, _), (3, _), (9, _)] (.op rfl rfl (.op rfl rfl (.op rfl (op_bin rfl rfl c16) (.op rfl (op_bin rfl rfl c17) (.op rfl (op_bin rfl rfl c18) (.op rfl rfl .nil)))))) rfl) (.seq (.run [(0, _), (2, _), (3, _), (9, _), (10, _)] (.op rfl rfl .nil) rfl) (.seq (.seq (.run [(0, _), (2, _), (3, _), (9, _), (10, _), (28, _)] (.op rfl rfl (.call rfl rfl rfl (Ran.spec T.t13 e1) (.op rfl rfl (.op rfl (op_val rfl c22) (.op rfl rfl (.op rfl rfl (.call rfl rfl rfl (Ran.spec T.t13 e2) (.op rfl rfl (.op rfl (op_val rfl c27) (.op rfl rfl .nil)))))))))) rfl) (.condF rfl .skip)) (.seq (.run [(0, _), (2, _), (3, _), (9, _), (10, _), (11, _)] (.op rfl rfl (.op rfl rfl (.op rfl rfl (.call rfl rfl rfl (Ran.spec T.t19 (gCnt_run ho hm _)) (.op rfl rfl (.call rfl rfl rfl (Ran.spec T.t12 (gMaj_run hm _)) (.op rfl (op_val rfl c36) (.op rfl rfl .nil)))))))) rfl) (.seq (.run [(0, _), (2, _), (3, _), (9, _), (10, _), (11, _), (12, _)] (.op rfl rfl (.op rfl rfl (.op rfl rfl (.op rfl rfl (.op rfl rfl (.call rfl rfl rfl (Ran.spec T.t19 (gCnt_run hr hn _)) (.op rfl rfl (.call rfl rfl rfl (Ran.spec T.t12 (gMaj_run hn _)) (.op rfl (op_val rfl c45) (.op rfl rfl (.op rfl rfl .nil))))))))))) rfl) (.seq (.run [(0, _), (2, _), (3, _), (9, _), (12, _), (13, _)] (.op rfl rfl (.op rfl rfl (.op rfl rfl (.op rfl rfl (.op rfl rfl (.call rfl rfl rfl (Ran.spec T.t19 (gCnt_run hr hm _)) (.op rfl rfl (.call rfl rfl rfl (Ran.spec T.t12 (gMaj_run hm _)) (.op rfl (op_val rfl c55) (.op rfl rfl (.op rfl rfl .nil))))))))))) rfl) (.seq (.seq (.run [(82, _)] (.op rfl rfl (.op rfl rfl (.off rfl (.off rfl (.off rfl (.off rfl (.off rfl (.off rfl (.off rfl (.offC rfl (.off rfl (.off rfl (.op rfl rfl (.op rfl rfl (.op rfl rfl (.op rfl rfl (.op rfl rfl (.op rfl rfl (.op rfl (op_bin rfl rfl x1) (.op rfl rfl (.op rfl (op_bin rfl rfl x2) (.call rfl rfl rfl (Ran.spec T.t13 e4) (.op rfl rfl (.op rfl (op_val rfl c80) (.op rfl rfl (.op rfl rfl .nil)))))))))))))))))))))))))) rfl) (.condF rfl .skip)) (.seq (.run [(8, _)] (.call rfl rfl rfl (Ran.spec T.t14 rfl) (.op rfl rfl .nil)) rfl) .ret)))))))))⟩
      · have c55 : Value.bool (decide (((cnt (other &&& m) : Nat) : Int) ≥ ((maj m : Nat) : Int))) = Value.bool false := by simp; omega
        exact ⟨_, (.seq (.run [(0, _), (1, _), (2, _), (3, _)] (.op rfl rfl .nil) rfl) (.seq (.run [(0, _), (2, _), (3, _), (9, _)] (.op rfl rfl (.op rfl rfl (.op rfl (op_bin rfl rfl c16) (.op rfl (op_bin rfl rfl c17) (.op rfl (op_bin rfl rfl c18) (.op rfl rfl .nil)))))) rfl) (.seq (.run [(0, _), (2, _), (3, _), (9, _), (10, _)] (.op rfl rfl .nil) rfl) (.seq (.seq (.run [(0, _), (2, _), (3, _), (9, _), (10, _), (28, _)] (.op rfl rfl (.call rfl rfl rfl (Ran.spec T.t13 e1) (.op rfl rfl (.op rfl (op_val rfl c22) (.op rfl rfl (.op rfl rfl (.call rfl rfl rfl (Ran.spec T.t13 e2) (.op rfl rfl (.op rfl (op_val rfl c27) (.op rfl rfl .nil)))))))))) rfl) (.condF rfl .skip)) (.seq (.run [(0, _), (2, _), (3, _), (9, _), (10, _), (11, _)] (.op rfl rfl (.op rfl rfl (.op rfl rfl (.call rfl rfl rfl (Ran.spec T.t19 (gCnt_run ho hm _)) (.op rfl rfl (.call rfl rfl rfl (Ran.spec T.t12 (gMaj_run hm _)) (.op rfl (op_val rfl c36) (.op rfl rfl .nil)))))))) rfl) (.seq (.run [(0, _), (2, _), (3, _), (9, _), (10, _), (11, _), (12, _)] (.op rfl rfl (.op rfl rfl (.op rfl rfl (.op rfl rfl (.op rfl rfl (.call rfl rfl rfl (Ran.spec T.t19 (gCnt_run hr hn _)) (.op rfl rfl (.call rfl rfl rfl (Ran.spec T.t12 (gMaj_run hn _)) (.op rfl (op_val rfl c45) (.op rfl rfl (.op rfl rfl .nil))))))))))) rfl) (.seq (.run [(0, _), (2, _), (3, _), (9, _), (12, _), (13, _)] (.op rfl rfl (.op rfl rfl (.op rfl rfl (.op rfl rfl (.op rfl rfl (.call rfl rfl rfl (Ran.spec T.t19 (gCnt_run hr hm _)) (.op rfl rfl (.call rfl rfl rfl (Ran.spec T.t12 (gMaj_run hm _)) (.op rfl (op_val rfl c55) (.op rfl rfl (.op rfl rfl .nil))))))))))) rfl) (.seq (.seq (.run [(82, _)] (.op rfl rfl (.op rfl rfl (.off rfl (.off rfl (.off rfl (.off rfl (.off rfl (.off rfl (.off rfl (.offC rfl (.off rfl (.off rfl (.op rfl rfl (.op rfl rfl (.op rfl rfl (.op rfl rfl (.off rfl (.off rfl (.off rfl (.off rfl (.off rfl (.offC rfl (.off rfl (.off rfl (.op rfl rfl (.op rfl rfl .nil)))))))))))))))))))))))))) rfl) (.condF rfl .skip)) (.seq (.run [(8, _)] (.call rfl rfl rfl (Ran.spec T.t14 rfl) (.op rfl rfl .nil)) rfl) .ret)))))))))⟩
  · have c36 : Value.bool (decide (((cnt (one &&& m) : Nat) : Int) ≥ ((maj m : Nat) : Int))) = Value.bool false := by simp; omega
    exact ⟨_, (.seq (.run [(0, _), (1, _), (2, _), (3, _)] (.op rfl rfl .nil) rfl) (.seq (.run [(0, _), (2, _), (3, _), (9, _)] (.op rfl rfl (.op rfl rfl (.op rfl (op_bin rfl rfl c16) (.op rfl (op_bin rfl rfl c17) (.op rfl (op_bin rfl rfl c18) (.op rfl rfl .nil)))))) rfl) (.seq (.run [(0, _), (2, _), (3, _), (9, _), (10, _)] (.op rfl rfl .nil) rfl) (.seq (.seq (.run [(0, _), (2, _), (3, _), (9, _), (10, _), (28, _)] (.op rfl rfl (.call rfl rfl rfl (Ran.spec T.t13 e1) (.op rfl rfl (.op rfl (op_val rfl c22) (.op rfl rfl (.op rfl rfl (.call rfl rfl rfl (Ran.spec T.t13 e2) (.op rfl rfl (.op rfl (op_val rfl c27) (.op rfl rfl .nil)))))))))) rfl) (.condF rfl .skip)) (.seq (.run [(0, _), (2, _), (3, _), (9, _), (10, _), (11, _)] (.op rfl rfl (.op rfl rfl (.op rfl rfl (.call rfl rfl rfl (Ran.spec T.t19 (gCnt_run ho hm _)) (.op rfl rfl (.call rfl rfl rfl (Ran.spec T.t12 (gMaj_run hm _)) (.op rfl (op_val rfl c36) (.op rfl rfl .nil)))))))) rfl) (.seq (.run [(0, _), (2, _), (3, _), (9, _), (10, _), (11, _), (12, _)] (.op rfl rfl (.op rfl rfl (.off rfl (.off rfl (.off rfl (.offC rfl (.off rfl (.offC rfl (.off rfl (.op rfl rfl (.op rfl rfl .nil))))))))))) rfl) (.seq (.run [(0, _), (2, _), (3, _), (9, _), (12, _), (13, _)] (.op rfl rfl (.op rfl rfl (.off rfl (.off rfl (.off rfl (.offC rfl (.off rfl (.offC rfl (.off rfl (.op rfl rfl (.op rfl rfl .nil))))))))))) rfl) (.seq (.seq (.run [(82, _)] (.op rfl rfl (.op rfl rfl (.off rfl (.off rfl (.off rfl (.off rfl (.off rfl (.off rfl (.off rfl (.offC rfl (.off rfl (.off rfl (.op rfl rfl (.op rfl rfl (.op rfl rfl (.op rfl rfl (.off rfl (.off rfl (.off rfl (.off rfl (.off rfl (.offC rfl (.off rfl (.off rfl (.op rfl rfl (.op rfl rfl .nil)))))))))))))))))))))))))) rfl) (.condF rfl .skip)) (.seq (.run [(8, _)] (.call rfl rfl rfl (Ran.spec T.t14 rfl) (.op rfl rfl .nil)) rfl) .ret)))))))))⟩
end Go.Proofs.Ytimfgflcflhfcaa.Em

