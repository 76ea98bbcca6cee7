/- The law 'EntryMeet' by the abstract machine: what its functions come to, and that it tells true. -/
import Derived.Test.YtimfgflcflhfcaaIrEntryMeet0
import Derived.KernelRfl
namespace Go.Proofs.Ytimfgflcflhfcaa.Em
open Go Go.Proofs.Ytimfgflcflhfcaa.Am Go.Proofs.Ytimfgflcflhfcaa.IrEntryMeet
set_option linter.unusedVariables false
set_option linter.unusedSimpArgs false
def tab0 : Nat → Option FD
  | 8 => some (.code ir8)
  | 9 => some (.code ir9)
  | 10 => some (.code ir10)
  | 11 => some (.code ir11)
  | 12 => some (.code ir12)
  | 13 => some (.code ir13)
  | 14 => some (.code ir14)
  | 19 => some (.code ir19)
  | 20 => some (.code ir20)
  | 21 => some (.code ir21)
  | 22 => some (.code ir22)
  | 23 => some (.code ir23)
  | 24 => some (.code ir24)
  | 25 => some (.code ir25)
  | _ => none
theorem tab0OK : TabOK Try.prog tab0 := by
  intro f d h
  unfold tab0 at h
  split at h
  · cases h; exact ⟨hi8, ok8⟩
  · cases h; exact ⟨hi9, ok9⟩
  · cases h; exact ⟨hi10, ok10⟩
  · cases h; exact ⟨hi11, ok11⟩
  · cases h; exact ⟨hi12, ok12⟩
  · cases h; exact ⟨hi13, ok13⟩
  · cases h; exact ⟨hi14, ok14⟩
  · cases h; exact ⟨hi19, ok19⟩
  · cases h; exact ⟨hi20, ok20⟩
  · cases h; exact ⟨hi21, ok21⟩
  · cases h; exact ⟨hi22, ok22⟩
  · cases h; exact ⟨hi23, ok23⟩
  · cases h; exact ⟨hi24, ok24⟩
  · cases h; exact ⟨hi25, ok25⟩
  · cases h

theorem mixed : Try.prog.follows .mixedOrders = true := by kernel_rfl
theorem dOK : DrawOK Try.prog := drawOK mixed
def pureG (g : List Value → Option Value) : List Value → H → Option (Value × H) := fun us h => match g us with | some v => some (v, h) | none => none
def cnt (x : Nat) : Nat := x % 2 + x / 2 % 2 + x / 4 % 2 + x / 8 % 2 + x / 16 % 2
def memb (x : Nat) : List Nat := (List.range 5).filter fun i => x / 2 ^ i % 2 == 1
def cellsM (x : Nat) : List Value := (memb x).map fun i => Value.int .u8 ((i + 1 : Nat) : Int)
def maj (x : Nat) : Nat := cnt x / 2 + 1
def okM (x : Nat) : Bool := (cnt x == (memb x).length) && (match runE tab0 200 13 [.int .u8 (x : Int)] ⟨.leaf, 0⟩ with
  | some (.slice none 0 0, _) => (memb x).isEmpty
  | some (.slice (some a) n c, h3) => !(memb x).isEmpty && n == (memb x).length && c == 2 * (memb x).length && a.off == 0 && a.spot == none && (match h3.get a.block with | some B => sameL B.cells (cellsM x) && B.es == 1 && B.ro == false | none => false)
  | _ => false)
theorem okM_all : (List.range 256).all okM = true := by decide +kernel
def okJ (x : Nat) : Bool := match runE tab0 200 12 [.int .u8 (x : Int)] ⟨.leaf, 0⟩ with
  | some (v, _) => sameV v (.int .i64 (maj x : Int))
  | none => false
theorem okJ_all : (List.range 256).all okJ = true := by decide +kernel
theorem of_all {f : Nat → Bool} (h : (List.range 256).all f = true) {x : Nat} (hx : x < 256) : f x = true := List.all_eq_true.1 h x (List.mem_range.2 hx)
theorem cnt_memb {x : Nat} (hx : x < 256) : cnt x = (memb x).length := by
  have := of_all okM_all hx
  unfold okM at this; rw [Bool.and_eq_true] at this; simpa using this.1
def gMem (us : List Value) (h : H) : Option (Value × H) := match us with
  | [.int .u8 x] => if 0 ≤ x ∧ x < 256 then (if memb x.toNat = [] then some (.slice none 0 0, h) else some (.slice (some ⟨h.next, 0, none⟩) (memb x.toNat).length (2 * (memb x.toNat).length), h.alloc ⟨cellsM x.toNat, 1, false⟩)) else none
  | _ => none
theorem gMem_run {x : Nat} (hx : x < 256) (h : H) : ∃ p c h', gMem [.int .u8 (x : Int)] h = some (.slice p (cnt x) c, h') := by
  rw [cnt_memb hx]
  simp only [gMem, Int.toNat_natCast]
  rw [if_pos ⟨by omega, by omega⟩]
  by_cases hm : memb x = []
  · rw [if_pos hm, hm]; exact ⟨_, _, _, rfl⟩
  · rw [if_neg hm]; exact ⟨_, _, _, rfl⟩
theorem cellsM_plain (x : Nat) : (cellsM x).all plain1 = true := by
  unfold cellsM; rw [List.all_eq_true]; intro v hv
  obtain ⟨i, _, rfl⟩ := List.mem_map.1 hv; rfl
theorem VL.u8 {r s : Rho} {x : Int} {us' : List Value} (hv : VL r [.int .u8 x] us') : VL s [.int .u8 x] us' := by
  refine ⟨hv.1, fun i v v' q1 q2 => ?_⟩
  have := hv.2 i v v' q1 q2
  cases i with
  | zero => simp at q1; subst q1; rw [VR.int_inv this]; exact .int ..
  | succ i => simp at q1
theorem s13n : SoundF Try.prog 13 (fun us h => match us with | [.int .u8 x] => if 0 ≤ x ∧ x < 256 ∧ memb x.toNat = [] then some (.slice none 0 0, h) else none | _ => none) := SoundF.quiet dOK tab0OK fun us h v h2 E => by
  split at E
  · rename_i x
    split at E
    · rename_i hc; cases E
      obtain ⟨c1, c2, c3⟩ := hc
      have hk := of_all okM_all (x := x.toNat) (by omega)
      unfold okM at hk; rw [Bool.and_eq_true] at hk
      have hk := hk.2
      rw [Int.toNat_of_nonneg c1] at hk
      split at hk
      · rename_i h3 hr
        exact ⟨rfl, rfl, [.int .u8 x], ⟨.leaf, 0⟩, h3, id, ⟨200, hr⟩, fun k _ => rfl, fun k B q => by (cases q), fun r us' hv => VL.u8 hv⟩
      · simp [c3] at hk
      · cases hk
    · cases E
  · cases E
theorem s13r : SoundF Try.prog 13 (fun us h => match us with | [.int .u8 x] => if 0 ≤ x ∧ x < 256 ∧ memb x.toNat ≠ [] then some (.slice (some ⟨h.next, 0, none⟩) (memb x.toNat).length (2 * (memb x.toNat).length), h.alloc ⟨cellsM x.toNat, 1, false⟩) else none | _ => none) := SoundF.fresh dOK tab0OK fun us h v h2 E => by
  split at E
  · rename_i x
    split at E
    · rename_i hc; cases E
      obtain ⟨c1, c2, c3⟩ := hc
      have hk := of_all okM_all (x := x.toNat) (by omega)
      unfold okM at hk; rw [Bool.and_eq_true] at hk
      have hk := hk.2
      rw [Int.toNat_of_nonneg c1] at hk
      split at hk
      · rw [List.isEmpty_iff] at hk; exact absurd hk c3
      · rename_i a n c h3 hr
        simp only [Bool.and_eq_true, beq_iff_eq] at hk
        obtain ⟨⟨⟨⟨⟨_, k1⟩, k2⟩, k3⟩, k4⟩, k5⟩ := hk
        split at k5
        · rename_i B hB
          simp only [Bool.and_eq_true, beq_iff_eq] at k5
          obtain ⟨⟨m1, m2⟩, m3⟩ := k5
          obtain ⟨bc, be, bro⟩ := B
          simp only at m2 m3; subst m2 m3
          have m1 : bc = cellsM x.toNat := sameL_eq m1
          subst m1
          obtain ⟨ab, ao, asp⟩ := a
          simp only at k3 k4; subst k3 k4
          rw [k1, k2] at hr
          exact ⟨_, _, ab, _, [.int .u8 x], ⟨.leaf, 0⟩, h3, id, rfl, rfl, rfl, cellsM_plain _, List.length_pos_iff.2 c3, ⟨200, hr⟩, hB, fun k _ => rfl, fun k B q => by (cases q), fun r us' hv => VL.u8 hv⟩
        · cases k5
      · cases hk
    · cases E
  · cases E
theorem s13 : SoundF Try.prog 13 gMem := fun base r h w us us' v h2 E hv R => by
  unfold gMem at E
  split at E
  · rename_i x
    split at E
    · rename_i hc
      split at E
      · rename_i hm; exact s13n base r h w _ us' v h2 (by simp only; rw [if_pos ⟨hc.1, hc.2, hm⟩]; exact E) hv R
      · rename_i hm; exact s13r base r h w _ us' v h2 (by simp only; rw [if_pos ⟨hc.1, hc.2, hm⟩]; exact E) hv R
    · cases E
  · cases E
def gMaj (us : List Value) : Option Value := match us with | [.int .u8 x] => if 0 ≤ x ∧ x < 256 then some (.int .i64 (maj x.toNat : Int)) else none | _ => none
theorem s12 : SoundF Try.prog 12 (pureG gMaj) := SoundF.plain dOK tab0OK fun us v h => by
  unfold gMaj at h
  split at h
  · rename_i x
    split at h
    · rename_i hc; cases h
      have hk := of_all okJ_all (x := x.toNat) (by omega)
      unfold okJ at hk
      rw [Int.toNat_of_nonneg hc.1] at hk
      split at hk
      · rename_i v h3 hr
        rw [sameV_eq hk] at hr
        exact ⟨rfl, rfl, h3, 200, hr⟩
      · cases hk
    · cases h
  · cases h
def isT : Option (Value × H) → Bool
  | some (.bool true, _) => true
  | _ => false
theorem isT_some {x : Option (Value × H)} (h : isT x = true) : ∃ h2, x = some (.bool true, h2) := by
  unfold isT at h
  split at h
  · exact ⟨_, rfl⟩
  · cases h
theorem awake_ran : isT (runE tab0 4000 14 [] ⟨.leaf, 0⟩) = true := by decide +kernel
theorem s14 : SoundF Try.prog 14 (fun us h => if us = [] then some (.bool true, h) else none) := by
  obtain ⟨h2, hr⟩ := isT_some awake_ran
  exact SoundF.closed dOK tab0OK rfl ⟨4000, hr⟩
def tab1 : Nat → Option FD := fun f => if f = 13 then some (.spec gMem) else tab0 f
theorem tab1OK : TabOK Try.prog tab1 := by
  intro f d h
  unfold tab1 at h
  split at h
  · rename_i e; subst e; cases h; exact s13
  · exact tab0OK f d h
theorem u8wrap {n : Nat} (h : n < 256) : IntKind.u8.wrap ((n : Nat) : Int) = (n : Int) := by
  have : ∀ n : Nat, n < 256 → IntKind.u8.wrap ((n : Nat) : Int) = (n : Int) := by decide +kernel
  exact this n h
theorem ofInt8 (a : Nat) (h : a < 256) : (BitVec.ofInt 8 (a : Int)).toNat = a := by
  rw [BitVec.toNat_ofInt]; omega
theorem and8 {a b : Nat} (ha : a < 256) (hb : b < 256) : binV .and (.int .u8 (a : Int)) (.int .u8 (b : Int)) = some (.int .u8 ((a &&& b : Nat) : Int)) := by
  have e : ((BitVec.ofInt IntKind.u8.bits (a : Int) &&& BitVec.ofInt IntKind.u8.bits (b : Int)).toNat : Nat) = a &&& b := by
    show (BitVec.ofInt 8 (a : Int) &&& BitVec.ofInt 8 (b : Int)).toNat = a &&& b
    rw [BitVec.toNat_and, ofInt8 a ha, ofInt8 b hb]
  have hl : a &&& b < 256 := Nat.lt_of_le_of_lt Nat.and_le_left ha
  have : binV .and (.int .u8 (a : Int)) (.int .u8 (b : Int)) = some (.int .u8 (IntKind.u8.wrap (((BitVec.ofInt IntKind.u8.bits (a : Int) &&& BitVec.ofInt IntKind.u8.bits (b : Int)).toNat : Nat) : Int))) := rfl
  rw [this, e, u8wrap hl]
theorem xor8 {a b : Nat} (ha : a < 256) (hb : b < 256) : binV .xor (.int .u8 (a : Int)) (.int .u8 (b : Int)) = some (.int .u8 ((a ^^^ b : Nat) : Int)) := by
  have e : ((BitVec.ofInt IntKind.u8.bits (a : Int) ^^^ BitVec.ofInt IntKind.u8.bits (b : Int)).toNat : Nat) = a ^^^ b := by
    show (BitVec.ofInt 8 (a : Int) ^^^ BitVec.ofInt 8 (b : Int)).toNat = a ^^^ b
    rw [BitVec.toNat_xor, ofInt8 a ha, ofInt8 b hb]
  have hl : a ^^^ b < 256 := Nat.xor_lt_two_pow (n := 8) ha hb
  have : binV .xor (.int .u8 (a : Int)) (.int .u8 (b : Int)) = some (.int .u8 (IntKind.u8.wrap (((BitVec.ofInt IntKind.u8.bits (a : Int) ^^^ BitVec.ofInt IntKind.u8.bits (b : Int)).toNat : Nat) : Int))) := rfl
  rw [this, e, u8wrap hl]
end Go.Proofs.Ytimfgflcflhfcaa.Em
