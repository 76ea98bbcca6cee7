-- Written by wip/tools/myprint.sh out of the translation, over the kit's print with a patch. Not trusted: Lean checks it.
import Derived.Test.YtimfgflcflhfcaaPx0
namespace Go.Proofs.Ytimfgflcflhfcaa.P
open Go.RowKit Go.Proofs.YtimfgflcflhfcaaW.PrintWords Go.Proofs.YtimfgflcflhfcaaW.PrintLast Go.Proofs.YtimfgflcflhfcaaW.PrintMore Go.Proofs.Ytimfgflcflhfcaa.Num
attribute [local go_sem] max2_int min2_int max_two min_two max_three min_three max_four min_four   -- for this text's walks alone
set_option linter.unusedVariables false
set_option linter.unusedSimpArgs false

/-! ### wapentakeref04_plain: function 26, by hand -/
-- HAND making=1
def wapentakeref04_plain.f (a0_0 : Int) (a0_1 : Int) (a0_2 : Int) (a0_3 : Int) (a0_4 : Int) (a0_5 : Int) (a0_6 : Int) (a0_7 : Int) (a0_8 : Int) (a0_9 : Int) (a0_10 : Int) (a0_11 : Int) (a0_12 : ByteArray) : Option Bool :=
  some (decide (a0_4 = 0 ∧ a0_5 = 0 ∧ a0_6 = 0 ∧ a0_7 = 0 ∧ a0_8 = 0 ∧ a0_9 = 0 ∧ a0_10 = 0 ∧ a0_11 = 0 ∧ a0_3 = 0))
set_option maxHeartbeats 8000000 in
set_option maxRecDepth 100000 in
theorem wapentakeref04_plain.calls (a0_0 : Int) (a0_1 : Int) (a0_2 : Int) (a0_3 : Int) (a0_4 : Int) (a0_5 : Int) (a0_6 : Int) (a0_7 : Int) (a0_8 : Int) (a0_9 : Int) (a0_10 : Int) (a0_11 : Int) (a0_12 : ByteArray) (r : Bool) (w : World) (h : wapentakeref04_plain.f a0_0 a0_1 a0_2 a0_3 a0_4 a0_5 a0_6 a0_7 a0_8 a0_9 a0_10 a0_11 a0_12 = some r) :
    Calls Try.prog 26 #[.agg #[.int .u64 a0_0, .int .u64 a0_1, .int .u8 a0_2, .int .u8 a0_3, .int .u8 a0_4, .int .u8 a0_5, .int .u8 a0_6, .int .u8 a0_7, .int .u8 a0_8, .int .u8 a0_9, .int .u8 a0_10, .int .u8 a0_11, .string a0_12]] w fun e w' => e = .returned (.bool r) ∧ Below w.heap.size w w' := by
  obtain rfl := Option.some.inj h
  clear h
  have hu := Try.underlying27
  go_enter Try.func26, Try.ntmps26
  go_wp2
  have HC := Aside0.mk (show (w.alloc (.cells #[.int .u64 a0_0, .int .u64 a0_1, .int .u8 a0_2, .int .u8 a0_3, .int .u8 a0_4, .int .u8 a0_5, .int .u8 a0_6, .int .u8 a0_7, .int .u8 a0_8, .int .u8 a0_9, .int .u8 a0_10, .int .u8 a0_11, .string a0_12] 27)).heap[w.heap.size]? = some (.cells #[.int .u64 a0_0, .int .u64 a0_1, .int .u8 a0_2, .int .u8 a0_3, .int .u8 a0_4, .int .u8 a0_5, .int .u8 a0_6, .int .u8 a0_7, .int .u8 a0_8, .int .u8 a0_9, .int .u8 a0_10, .int .u8 a0_11, .string a0_12] 27 (0, 0)) from heap_alloc_new _ _)
  have HB := Aside0.mk (below_alloc (Below.refl w.heap.size w) (.cells #[.int .u64 a0_0, .int .u64 a0_1, .int .u8 a0_2, .int .u8 a0_3, .int .u8 a0_4, .int .u8 a0_5, .int .u8 a0_6, .int .u8 a0_7, .int .u8 a0_8, .int .u8 a0_9, .int .u8 a0_10, .int .u8 a0_11, .string a0_12] 27))
  go_loopg [3] 9 (fun kq v3 w' => ∃ i : Nat, i + kq = 9 ∧ i ≤ 8 ∧ v3 = .int .i64 i ∧ (∀ j, j < i → [a0_4, a0_5, a0_6, a0_7, a0_8, a0_9, a0_10, a0_11].getD j 0 = 0) ∧ Aside0 (w'.heap[w.heap.size]? = some (.cells #[.int .u64 a0_0, .int .u64 a0_1, .int .u8 a0_2, .int .u8 a0_3, .int .u8 a0_4, .int .u8 a0_5, .int .u8 a0_6, .int .u8 a0_7, .int .u8 a0_8, .int .u8 a0_9, .int .u8 a0_10, .int .u8 a0_11, .string a0_12] 27 (0, 0))) ∧ Aside0 (Below w.heap.size w w'))
  case atStart => exact ⟨0, rfl, by omega, rfl, fun j h => absurd h (by omega), HC, HB⟩
  case round =>
    clear HC HB
    obtain ⟨i, hk, hi, rfl, hz, HC, HB⟩ := hrel
    obtain ⟨k2, rfl⟩ : ∃ m, gk = m + 1 := ⟨gk - 1, by omega⟩
    have hc3 : wr.cell? ⟨w.heap.size, 3, none⟩ = some (.int .u8 a0_3) := (blk_cell HC.out 3).trans rfl
    have hc4 : wr.cell? ⟨w.heap.size, 4, none⟩ = some (.int .u8 a0_4) := (blk_cell HC.out 4).trans rfl
    have hc5 : wr.cell? ⟨w.heap.size, 5, none⟩ = some (.int .u8 a0_5) := (blk_cell HC.out 5).trans rfl
    have hc6 : wr.cell? ⟨w.heap.size, 6, none⟩ = some (.int .u8 a0_6) := (blk_cell HC.out 6).trans rfl
    have hc7 : wr.cell? ⟨w.heap.size, 7, none⟩ = some (.int .u8 a0_7) := (blk_cell HC.out 7).trans rfl
    have hc8 : wr.cell? ⟨w.heap.size, 8, none⟩ = some (.int .u8 a0_8) := (blk_cell HC.out 8).trans rfl
    have hc9 : wr.cell? ⟨w.heap.size, 9, none⟩ = some (.int .u8 a0_9) := (blk_cell HC.out 9).trans rfl
    have hc10 : wr.cell? ⟨w.heap.size, 10, none⟩ = some (.int .u8 a0_10) := (blk_cell HC.out 10).trans rfl
    have hc11 : wr.cell? ⟨w.heap.size, 11, none⟩ = some (.int .u8 a0_11) := (blk_cell HC.out 11).trans rfl
    have hcase : i = 0 ∨ i = 1 ∨ i = 2 ∨ i = 3 ∨ i = 4 ∨ i = 5 ∨ i = 6 ∨ i = 7 ∨ i = 8 := by omega
    rcases hcase with rfl | rfl | rfl | rfl | rfl | rfl | rfl | rfl | rfl
    · by_cases hq : a0_4 = 0
      · have hq1 : (a0_4 != 0) = false := by simpa using hq
        go_wp2
        go_roundg k2
        case measure => omega
        case rel => exact ⟨1, by omega, by omega, by go_num, fun j hj => by (have hj' : j < 0 ∨ j = 0 := by omega); rcases hj' with h | rfl; exact hz j h; exact hq, HC, HB⟩
      · have hq1 : (a0_4 != 0) = true := by simpa using hq
        go_wp2
        go_ret
        exact ⟨congrArg (fun b => Ending.returned (Value.bool b)) (decide_eq_false (fun h => hq (by simp [h]))).symm, HB.out⟩
    · by_cases hq : a0_5 = 0
      · have hq1 : (a0_5 != 0) = false := by simpa using hq
        go_wp2
        go_roundg k2
        case measure => omega
        case rel => exact ⟨2, by omega, by omega, by go_num, fun j hj => by (have hj' : j < 1 ∨ j = 1 := by omega); rcases hj' with h | rfl; exact hz j h; exact hq, HC, HB⟩
      · have hq1 : (a0_5 != 0) = true := by simpa using hq
        go_wp2
        go_ret
        exact ⟨congrArg (fun b => Ending.returned (Value.bool b)) (decide_eq_false (fun h => hq (by simp [h]))).symm, HB.out⟩
    · by_cases hq : a0_6 = 0
      · have hq1 : (a0_6 != 0) = false := by simpa using hq
        go_wp2
        go_roundg k2
        case measure => omega
        case rel => exact ⟨3, by omega, by omega, by go_num, fun j hj => by (have hj' : j < 2 ∨ j = 2 := by omega); rcases hj' with h | rfl; exact hz j h; exact hq, HC, HB⟩
      · have hq1 : (a0_6 != 0) = true := by simpa using hq
        go_wp2
        go_ret
        exact ⟨congrArg (fun b => Ending.returned (Value.bool b)) (decide_eq_false (fun h => hq (by simp [h]))).symm, HB.out⟩
    · by_cases hq : a0_7 = 0
      · have hq1 : (a0_7 != 0) = false := by simpa using hq
        go_wp2
        go_roundg k2
        case measure => omega
        case rel => exact ⟨4, by omega, by omega, by go_num, fun j hj => by (have hj' : j < 3 ∨ j = 3 := by omega); rcases hj' with h | rfl; exact hz j h; exact hq, HC, HB⟩
      · have hq1 : (a0_7 != 0) = true := by simpa using hq
        go_wp2
        go_ret
        exact ⟨congrArg (fun b => Ending.returned (Value.bool b)) (decide_eq_false (fun h => hq (by simp [h]))).symm, HB.out⟩
    · by_cases hq : a0_8 = 0
      · have hq1 : (a0_8 != 0) = false := by simpa using hq
        go_wp2
        go_roundg k2
        case measure => omega
        case rel => exact ⟨5, by omega, by omega, by go_num, fun j hj => by (have hj' : j < 4 ∨ j = 4 := by omega); rcases hj' with h | rfl; exact hz j h; exact hq, HC, HB⟩
      · have hq1 : (a0_8 != 0) = true := by simpa using hq
        go_wp2
        go_ret
        exact ⟨congrArg (fun b => Ending.returned (Value.bool b)) (decide_eq_false (fun h => hq (by simp [h]))).symm, HB.out⟩
    · by_cases hq : a0_9 = 0
      · have hq1 : (a0_9 != 0) = false := by simpa using hq
        go_wp2
        go_roundg k2
        case measure => omega
        case rel => exact ⟨6, by omega, by omega, by go_num, fun j hj => by (have hj' : j < 5 ∨ j = 5 := by omega); rcases hj' with h | rfl; exact hz j h; exact hq, HC, HB⟩
      · have hq1 : (a0_9 != 0) = true := by simpa using hq
        go_wp2
        go_ret
        exact ⟨congrArg (fun b => Ending.returned (Value.bool b)) (decide_eq_false (fun h => hq (by simp [h]))).symm, HB.out⟩
    · by_cases hq : a0_10 = 0
      · have hq1 : (a0_10 != 0) = false := by simpa using hq
        go_wp2
        go_roundg k2
        case measure => omega
        case rel => exact ⟨7, by omega, by omega, by go_num, fun j hj => by (have hj' : j < 6 ∨ j = 6 := by omega); rcases hj' with h | rfl; exact hz j h; exact hq, HC, HB⟩
      · have hq1 : (a0_10 != 0) = true := by simpa using hq
        go_wp2
        go_ret
        exact ⟨congrArg (fun b => Ending.returned (Value.bool b)) (decide_eq_false (fun h => hq (by simp [h]))).symm, HB.out⟩
    · by_cases hq : a0_11 = 0
      · have hq1 : (a0_11 != 0) = false := by simpa using hq
        go_wp2
        go_roundg k2
        case measure => omega
        case rel => exact ⟨8, by omega, by omega, by go_num, fun j hj => by (have hj' : j < 7 ∨ j = 7 := by omega); rcases hj' with h | rfl; exact hz j h; exact hq, HC, HB⟩
      · have hq1 : (a0_11 != 0) = true := by simpa using hq
        go_wp2
        go_ret
        exact ⟨congrArg (fun b => Ending.returned (Value.bool b)) (decide_eq_false (fun h => hq (by simp [h]))).symm, HB.out⟩
    · go_wp2
      have z0 : a0_4 = 0 := hz 0 (by omega)
      have z1 : a0_5 = 0 := hz 1 (by omega)
      have z2 : a0_6 = 0 := hz 2 (by omega)
      have z3 : a0_7 = 0 := hz 3 (by omega)
      have z4 : a0_8 = 0 := hz 4 (by omega)
      have z5 : a0_9 = 0 := hz 5 (by omega)
      have z6 : a0_10 = 0 := hz 6 (by omega)
      have z7 : a0_11 = 0 := hz 7 (by omega)
      go_ret
      exact ⟨congrArg (fun b => Ending.returned (Value.bool b)) (by rw [z0, z1, z2, z3, z4, z5, z6, z7]; simp; try rfl), HB.out⟩

end Go.Proofs.Ytimfgflcflhfcaa.P
