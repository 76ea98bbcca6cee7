-- Written by wip/tools/myprint.sh out of the translation, over the kit's print with a patch. Not trusted: Lean checks it.
import Derived.Test.YtimfgflcflhfcaaPx0
import Derived.Test.YtimfgflcflhfcaaPx3
import Derived.Test.YtimfgflcflhfcaaPx4
namespace Go.Proofs.Ytimfgflcflhfcaa.P
open Go.RowKit Go.Proofs.YtimfgflcflhfcaaW.PrintWords Go.Proofs.YtimfgflcflhfcaaW.PrintLast Go.Proofs.YtimfgflcflhfcaaW.PrintMore Go.Proofs.Ytimfgflcflhfcaa.Num
attribute [local go_sem] max2_int min2_int max_two min_two max_three min_three max_four min_four   -- for this text's walks alone
set_option linter.unusedVariables false
set_option linter.unusedSimpArgs false

def bq_5_ (n m : Nat) : Array Bool := ((List.range n).map fun i => m.testBit i).toArray
theorem zA5_ {α : Type} (l : List α) (i : Nat) (a : α) : l.toArray.setIfInBounds i a = (l.set i a).toArray := List.setIfInBounds_toArray ..
theorem zB5_ {α : Type} (a b : α) (l : List α) : (a :: l).set 0 b = b :: l := List.set_cons_zero ..
theorem zC5_ {α : Type} (a b : α) (l : List α) (n : Nat) : (a :: l).set (n + 1) b = a :: l.set n b := List.set_cons_succ ..
/-! ### entry_Write: function 9 -/
def entry_Write.j0 : Nat → ByteArray → Int → Int → Int → Int → Int → Int → Int → Int → Int → Int → Int → Int → ByteArray → Option (ByteArray)
 | 0, _, _, _, _, _, _, _, _, _, _, _, _, _, _ => none
 | k + 1, x3, x108000, x108001, x108002, x108003, x108004, x108005, x108006, x108007, x108008, x108009, x108010, x108011, x108012 => if x108002 = 1 then (some x3) else (if x108002 = 5 then (some x3) else ((num_S.f k (([x108012] : List ByteArray))).bind fun t122 => (if x3.size + t122.size ≤ 9223372036854775807 then (some (x3 ++ t122)) else (none))))
def entry_Write.f (k : Nat) (a0_0 : Int) (a0_1 : Int) (a0_2 : Int) (a0_3 : Int) (a0_4 : Int) (a0_5 : Int) (a0_6 : Int) (a0_7 : Int) (a0_8 : Int) (a0_9 : Int) (a0_10 : Int) (a0_11 : Int) (a0_12 : ByteArray) : Option (ByteArray) := (entry_Right.f k a0_0 a0_1 a0_2 a0_3 a0_4 a0_5 a0_6 a0_7 a0_8 a0_9 a0_10 a0_11 a0_12).bind fun t108 => (if t108 = true then ((some (([a0_2] : List Int) : List Int)).bind fun y109 => ((num_V.f (([a0_0, a0_1] : List Int))).bind fun t115 => (if (strOfNums y109).size + t115.size ≤ 9223372036854775807 then (if a0_2 = 3 then ((some (([a0_3] : List Int) : List Int)).bind fun y116 => (if (strOfNums y116).size + (strOfNums [a0_4, a0_5, a0_6, a0_7, a0_8, a0_9, a0_10, a0_11]).size ≤ 9223372036854775807 then (if ((strOfNums y109) ++ t115).size + ((strOfNums y116) ++ (strOfNums [a0_4, a0_5, a0_6, a0_7, a0_8, a0_9, a0_10, a0_11])).size ≤ 9223372036854775807 then (entry_Write.j0 k (((strOfNums y109) ++ t115) ++ ((strOfNums y116) ++ (strOfNums [a0_4, a0_5, a0_6, a0_7, a0_8, a0_9, a0_10, a0_11]))) a0_0 a0_1 a0_2 a0_3 a0_4 a0_5 a0_6 a0_7 a0_8 a0_9 a0_10 a0_11 a0_12) else (none)) else (none))) else (entry_Write.j0 k ((strOfNums y109) ++ t115) a0_0 a0_1 a0_2 a0_3 a0_4 a0_5 a0_6 a0_7 a0_8 a0_9 a0_10 a0_11 a0_12)) else (none)))) else (some (⟨#[]⟩ : ByteArray)))
theorem entry_Write.mono_l : ∀ k, (∀ y0 y1 y2 y3 y4 y5 y6 y7 y8 y9 y10 y11 y12 y13, LeO (entry_Write.j0 k y0 y1 y2 y3 y4 y5 y6 y7 y8 y9 y10 y11 y12 y13) (entry_Write.j0 (k + 1) y0 y1 y2 y3 y4 y5 y6 y7 y8 y9 y10 y11 y12 y13))
 | 0 => fun _ _ _ _ _ _ _ _ _ _ _ _ _ _ r h => by simp [entry_Write.j0] at h
 | k + 1 => by
  have ih0 := entry_Write.mono_l k
  ·intro y0 y1 y2 y3 y4 y5 y6 y7 y8 y9 y10 y11 y12 y13
   unfold entry_Write.j0
   repeat' first
   | (with_reducible exact ih0 _ _ _ _ _ _ _ _ _ _ _ _ _ _)
   | (with_reducible exact entry_Right.mono _ _ _ _ _ _ _ _ _ _ _ _ _ _)
   | (with_reducible exact num_S.mono _ _)
   | (with_reducible exact LeO.refl _)
   | (with_reducible exact LeO.none _)
   | (with_reducible refine LeO.ite ?_ ?_)
   | (with_reducible refine LeO.bind ?_ (fun _ => ?_))
   | exact ih0 _ _ _ _ _ _ _ _ _ _ _ _ _ _
   | exact entry_Right.mono _ _ _ _ _ _ _ _ _ _ _ _ _ _
   | exact num_S.mono _ _
   | exact LeO.none _
   | refine LeO.ite ?_ ?_
   | refine LeO.bind ?_ (fun _ => ?_)
theorem entry_Write.mono : ∀ a0 a1 a2 a3 a4 a5 a6 a7 a8 a9 a10 a11 a12 k, LeO (entry_Write.f k a0 a1 a2 a3 a4 a5 a6 a7 a8 a9 a10 a11 a12) (entry_Write.f (k + 1) a0 a1 a2 a3 a4 a5 a6 a7 a8 a9 a10 a11 a12) := by
 intro a0 a1 a2 a3 a4 a5 a6 a7 a8 a9 a10 a11 a12 k
 have ih0 := entry_Write.mono_l k
 unfold entry_Write.f
 repeat' first
   | (with_reducible exact ih0 _ _ _ _ _ _ _ _ _ _ _ _ _ _)
   | (with_reducible exact entry_Right.mono _ _ _ _ _ _ _ _ _ _ _ _ _ _)
   | (with_reducible exact num_S.mono _ _)
   | (with_reducible exact LeO.refl _)
   | (with_reducible exact LeO.none _)
   | (with_reducible refine LeO.ite ?_ ?_)
   | (with_reducible refine LeO.bind ?_ (fun _ => ?_))
   | exact ih0 _ _ _ _ _ _ _ _ _ _ _ _ _ _
   | exact entry_Right.mono _ _ _ _ _ _ _ _ _ _ _ _ _ _
   | exact num_S.mono _ _
   | exact LeO.none _
   | refine LeO.ite ?_ ?_
   | refine LeO.bind ?_ (fun _ => ?_)
def entry_Write.T3 : Bool × List (List Nat × List Nat) := (true, [([], []), ([0], [0]), ([1], [1]), ([2], [2]), ([], []), ([4], [4]), ([], []), ([6], [6]), ([5, 7], [5, 7]), ([8], [8]), ([3, 9], [3, 9]), ([10, 9, 0, 1, 2, 3, 4, 5, 6, 7, 8, 9, 10], [10])])
def entry_Write.B3 : List Nat := [0, 1, 3, 7, 0, 16, 0, 64, 240, 496, 1023, 2047]
theorem entry_Write.tab3 : rtab .any (opsOf Try.f9 3) = entry_Write.T3 := by kernel_rfl
theorem entry_Write.bits3 : waitsOk entry_Write.T3.2 entry_Write.B3 = true := by kernel_rfl
def entry_Write.T5 : Bool × List (List Nat × List Nat) := (true, [([], []), ([], []), ([1], [1]), ([2], [2]), ([3], [3]), ([], []), ([5], [5]), ([6], [6]), ([4, 7], [4, 7]), ([0, 8], [0, 8]), ([9, 0, 1, 2, 3, 4, 5, 6, 7, 8, 9], [0, 9])])
def entry_Write.B5 : List Nat := [0, 0, 2, 6, 14, 0, 32, 96, 254, 511, 1023]
theorem entry_Write.tab5 : rtab .any (opsOf Try.f9 5) = entry_Write.T5 := by kernel_rfl
theorem entry_Write.bits5 : waitsOk entry_Write.T5.2 entry_Write.B5 = true := by kernel_rfl
set_option maxHeartbeats 8000000 in
set_option maxRecDepth 100000 in
theorem entry_Write.calls (k : Nat) (a0_0 : Int) (a0_1 : Int) (a0_2 : Int) (a0_3 : Int) (a0_4 : Int) (a0_5 : Int) (a0_6 : Int) (a0_7 : Int) (a0_8 : Int) (a0_9 : Int) (a0_10 : Int) (a0_11 : Int) (a0_12 : ByteArray) (r : ByteArray) (w : World) (h : entry_Write.f k a0_0 a0_1 a0_2 a0_3 a0_4 a0_5 a0_6 a0_7 a0_8 a0_9 a0_10 a0_11 a0_12 = some r) :
  Calls Try.prog 9 #[.agg #[.int .u64 a0_0, .int .u64 a0_1, .int .u8 a0_2, .int .u8 a0_3, .int .u8 a0_4, .int .u8 a0_5, .int .u8 a0_6, .int .u8 a0_7, .int .u8 a0_8, .int .u8 a0_9, .int .u8 a0_10, .int .u8 a0_11, .string a0_12]] w fun e w' => e = .returned (.string r) ∧ Below w.heap.size w w' := by
 have hu27 := Try.underlying27
 have HB := Aside0.mk (Below.refl w.heap.size w)
 have H : ((entry_Right.f k a0_0 a0_1 a0_2 a0_3 a0_4 a0_5 a0_6 a0_7 a0_8 a0_9 a0_10 a0_11 a0_12).bind fun t108 => (if t108 = true then ((some (([a0_2] : List Int) : List Int)).bind fun y109 => ((num_V.f (([a0_0, a0_1] : List Int))).bind fun t115 => (if (strOfNums y109).size + t115.size ≤ 9223372036854775807 then (if a0_2 = 3 then ((some (([a0_3] : List Int) : List Int)).bind fun y116 => (if (strOfNums y116).size + (strOfNums [a0_4, a0_5, a0_6, a0_7, a0_8, a0_9, a0_10, a0_11]).size ≤ 9223372036854775807 then (if ((strOfNums y109) ++ t115).size + ((strOfNums y116) ++ (strOfNums [a0_4, a0_5, a0_6, a0_7, a0_8, a0_9, a0_10, a0_11])).size ≤ 9223372036854775807 then (entry_Write.j0 k (((strOfNums y109) ++ t115) ++ ((strOfNums y116) ++ (strOfNums [a0_4, a0_5, a0_6, a0_7, a0_8, a0_9, a0_10, a0_11]))) a0_0 a0_1 a0_2 a0_3 a0_4 a0_5 a0_6 a0_7 a0_8 a0_9 a0_10 a0_11 a0_12) else (none)) else (none))) else (entry_Write.j0 k ((strOfNums y109) ++ t115) a0_0 a0_1 a0_2 a0_3 a0_4 a0_5 a0_6 a0_7 a0_8 a0_9 a0_10 a0_11 a0_12)) else (none)))) else (some (⟨#[]⟩ : ByteArray)))) = some r := h
 clear h
 replace H := Option.bind_eq_some_iff.mp H
 obtain ⟨t108, A20, H⟩ := H
 replace H : (if t108 = true then ((some (([a0_2] : List Int) : List Int)).bind fun y109 => ((num_V.f (([a0_0, a0_1] : List Int))).bind fun t115 => (if (strOfNums y109).size + t115.size ≤ 9223372036854775807 then (if a0_2 = 3 then ((some (([a0_3] : List Int) : List Int)).bind fun y116 => (if (strOfNums y116).size + (strOfNums [a0_4, a0_5, a0_6, a0_7, a0_8, a0_9, a0_10, a0_11]).size ≤ 9223372036854775807 then (if ((strOfNums y109) ++ t115).size + ((strOfNums y116) ++ (strOfNums [a0_4, a0_5, a0_6, a0_7, a0_8, a0_9, a0_10, a0_11])).size ≤ 9223372036854775807 then (entry_Write.j0 k (((strOfNums y109) ++ t115) ++ ((strOfNums y116) ++ (strOfNums [a0_4, a0_5, a0_6, a0_7, a0_8, a0_9, a0_10, a0_11]))) a0_0 a0_1 a0_2 a0_3 a0_4 a0_5 a0_6 a0_7 a0_8 a0_9 a0_10 a0_11 a0_12) else (none)) else (none))) else (entry_Write.j0 k ((strOfNums y109) ++ t115) a0_0 a0_1 a0_2 a0_3 a0_4 a0_5 a0_6 a0_7 a0_8 a0_9 a0_10 a0_11 a0_12)) else (none)))) else (some (⟨#[]⟩ : ByteArray))) = some r := H
 have A2 := Aside0.mk A20
 clear A20
 by_cases c3 : t108 = true
 ·subst c3
  have H1 : ((some (([a0_2] : List Int) : List Int)).bind fun y109 => ((num_V.f (([a0_0, a0_1] : List Int))).bind fun t115 => (if (strOfNums y109).size + t115.size ≤ 9223372036854775807 then (if a0_2 = 3 then ((some (([a0_3] : List Int) : List Int)).bind fun y116 => (if (strOfNums y116).size + (strOfNums [a0_4, a0_5, a0_6, a0_7, a0_8, a0_9, a0_10, a0_11]).size ≤ 9223372036854775807 then (if ((strOfNums y109) ++ t115).size + ((strOfNums y116) ++ (strOfNums [a0_4, a0_5, a0_6, a0_7, a0_8, a0_9, a0_10, a0_11])).size ≤ 9223372036854775807 then (entry_Write.j0 k (((strOfNums y109) ++ t115) ++ ((strOfNums y116) ++ (strOfNums [a0_4, a0_5, a0_6, a0_7, a0_8, a0_9, a0_10, a0_11]))) a0_0 a0_1 a0_2 a0_3 a0_4 a0_5 a0_6 a0_7 a0_8 a0_9 a0_10 a0_11 a0_12) else (none)) else (none))) else (entry_Write.j0 k ((strOfNums y109) ++ t115) a0_0 a0_1 a0_2 a0_3 a0_4 a0_5 a0_6 a0_7 a0_8 a0_9 a0_10 a0_11 a0_12)) else (none)))) = some r := by rw [if_pos rfl] at H; exact H
  clear H
  have H := H1
  clear H1
  obtain ⟨y109, hy109⟩ : ∃ y_ : List Int, y_ = (([a0_2] : List Int)) := ⟨_, rfl⟩
  replace H : ((num_V.f (([a0_0, a0_1] : List Int))).bind fun t115 => (if (strOfNums y109).size + t115.size ≤ 9223372036854775807 then (if a0_2 = 3 then ((some (([a0_3] : List Int) : List Int)).bind fun y116 => (if (strOfNums y116).size + (strOfNums [a0_4, a0_5, a0_6, a0_7, a0_8, a0_9, a0_10, a0_11]).size ≤ 9223372036854775807 then (if ((strOfNums y109) ++ t115).size + ((strOfNums y116) ++ (strOfNums [a0_4, a0_5, a0_6, a0_7, a0_8, a0_9, a0_10, a0_11])).size ≤ 9223372036854775807 then (entry_Write.j0 k (((strOfNums y109) ++ t115) ++ ((strOfNums y116) ++ (strOfNums [a0_4, a0_5, a0_6, a0_7, a0_8, a0_9, a0_10, a0_11]))) a0_0 a0_1 a0_2 a0_3 a0_4 a0_5 a0_6 a0_7 a0_8 a0_9 a0_10 a0_11 a0_12) else (none)) else (none))) else (entry_Write.j0 k ((strOfNums y109) ++ t115) a0_0 a0_1 a0_2 a0_3 a0_4 a0_5 a0_6 a0_7 a0_8 a0_9 a0_10 a0_11 a0_12)) else (none))) = some r := by first | (rw [hy109]; with_reducible exact H) | (have H2_ := (Option.bind_some _ _).symm.trans H; rw [hy109]; with_reducible exact H2_) | (have H2_ := (Option.bind_some _ _).symm.trans H; with_reducible exact H2_) | with_reducible exact H | (rw [hy109]; exact H) | exact H
  have Ny109 := Aside0.mk hy109
  clear hy109
  obtain ⟨y112, hy112⟩ : ∃ y_ : List Int, y_ = (([a0_0, a0_1] : List Int)) := ⟨_, rfl⟩
  replace H : ((num_V.f y112).bind fun t115 => (if (strOfNums y109).size + t115.size ≤ 9223372036854775807 then (if a0_2 = 3 then ((some (([a0_3] : List Int) : List Int)).bind fun y116 => (if (strOfNums y116).size + (strOfNums [a0_4, a0_5, a0_6, a0_7, a0_8, a0_9, a0_10, a0_11]).size ≤ 9223372036854775807 then (if ((strOfNums y109) ++ t115).size + ((strOfNums y116) ++ (strOfNums [a0_4, a0_5, a0_6, a0_7, a0_8, a0_9, a0_10, a0_11])).size ≤ 9223372036854775807 then (entry_Write.j0 k (((strOfNums y109) ++ t115) ++ ((strOfNums y116) ++ (strOfNums [a0_4, a0_5, a0_6, a0_7, a0_8, a0_9, a0_10, a0_11]))) a0_0 a0_1 a0_2 a0_3 a0_4 a0_5 a0_6 a0_7 a0_8 a0_9 a0_10 a0_11 a0_12) else (none)) else (none))) else (entry_Write.j0 k ((strOfNums y109) ++ t115) a0_0 a0_1 a0_2 a0_3 a0_4 a0_5 a0_6 a0_7 a0_8 a0_9 a0_10 a0_11 a0_12)) else (none))) = some r := by first | (rw [hy112]; with_reducible exact H) | (have H2_ := (Option.bind_some _ _).symm.trans H; rw [hy112]; with_reducible exact H2_) | (have H2_ := (Option.bind_some _ _).symm.trans H; with_reducible exact H2_) | with_reducible exact H | (rw [hy112]; exact H) | exact H
  have Ny112 := Aside0.mk hy112
  clear hy112
  replace H := Option.bind_eq_some_iff.mp H
  obtain ⟨t115, A40, H⟩ := H
  replace H : (if (strOfNums y109).size + t115.size ≤ 9223372036854775807 then (if a0_2 = 3 then ((some (([a0_3] : List Int) : List Int)).bind fun y116 => (if (strOfNums y116).size + (strOfNums [a0_4, a0_5, a0_6, a0_7, a0_8, a0_9, a0_10, a0_11]).size ≤ 9223372036854775807 then (if ((strOfNums y109) ++ t115).size + ((strOfNums y116) ++ (strOfNums [a0_4, a0_5, a0_6, a0_7, a0_8, a0_9, a0_10, a0_11])).size ≤ 9223372036854775807 then (entry_Write.j0 k (((strOfNums y109) ++ t115) ++ ((strOfNums y116) ++ (strOfNums [a0_4, a0_5, a0_6, a0_7, a0_8, a0_9, a0_10, a0_11]))) a0_0 a0_1 a0_2 a0_3 a0_4 a0_5 a0_6 a0_7 a0_8 a0_9 a0_10 a0_11 a0_12) else (none)) else (none))) else (entry_Write.j0 k ((strOfNums y109) ++ t115) a0_0 a0_1 a0_2 a0_3 a0_4 a0_5 a0_6 a0_7 a0_8 a0_9 a0_10 a0_11 a0_12)) else (none)) = some r := H
  have A4 := Aside0.mk A40
  clear A40
  by_cases c5 : (strOfNums y109).size + t115.size ≤ 9223372036854775807
  ·rw [if_pos c5] at H
   have c5b0 := eq_true c5
   have c5b1 : decide ((strOfNums y109).size + t115.size ≤ 9223372036854775807) = true := decide_eq_true c5
   try have c5b2 : (9223372036854775807 < (strOfNums y109).size + t115.size) = False := eq_false (Nat.not_lt.2 c5)
   have HC6 := Aside0.mk H
   clear H
   go_enter Try.func9, Try.ntmps9
   try go_wp2_with (first | ((with_reducible refine gate_dst (N := 1) rfl ?_); refine box_event ?hg (N := 1) ?hd (cs := #[.int .u64 a0_0, .int .u64 a0_1, .int .u8 a0_2, .int .u8 a0_3, .int .u8 a0_4, .int .u8 a0_5, .int .u8 a0_6, .int .u8 a0_7, .int .u8 a0_8, .int .u8 a0_9, .int .u8 a0_10, .int .u8 a0_11, .string a0_12]) (t := 27) ?hr ?_; (case hd => rfl); (case hg => rfl); (case hr => first | (go_simp; done) | (go_simp; rfl)); intro gb107 hg w7 hbox hb; have n0_ := Aside0.mk (below_step (by repeat (first | (with_reducible first | exact HB.out | apply below_alloc | apply pw_below_drewN | apply below_drew1) | exact HB.out)) hb); have n1_ := Aside0.mk (hbox); have n2_ := Aside0.mk ((by rw [hg]; exact (below_size (by repeat (first | (with_reducible first | exact HB.out | apply below_alloc | apply pw_below_drewN | apply below_drew1) | exact HB.out))) : w.heap.size ≤ gb107)); have n3_ := Aside0.mk ((by rw [hg]; exact (below_size (by repeat (first | (with_reducible first | exact HB.out | apply below_alloc | apply pw_below_drewN | apply below_drew1) | exact HB.out))) : w.heap.size ≤ gb107)); clear HB; have HB := n0_; have BK107 := n1_; have GW107 := n2_; have GE107 := n3_; clear n0_ n1_ n2_ n3_; clear hb hbox hg; have hcz8_0 : w7.cell? ⟨gb107, 0, none⟩ = some (.int .u64 a0_0) := (blk_cell BK107.out 0).trans rfl; have hcz8_1 : w7.cell? ⟨gb107, 1, none⟩ = some (.int .u64 a0_1) := (blk_cell BK107.out 1).trans rfl; have hcz8_2 : w7.cell? ⟨gb107, 2, none⟩ = some (.int .u8 a0_2) := (blk_cell BK107.out 2).trans rfl; have hcz8_3 : w7.cell? ⟨gb107, 3, none⟩ = some (.int .u8 a0_3) := (blk_cell BK107.out 3).trans rfl; have hcz8_4 : w7.cell? ⟨gb107, 4, none⟩ = some (.int .u8 a0_4) := (blk_cell BK107.out 4).trans rfl; have hcz8_5 : w7.cell? ⟨gb107, 5, none⟩ = some (.int .u8 a0_5) := (blk_cell BK107.out 5).trans rfl; have hcz8_6 : w7.cell? ⟨gb107, 6, none⟩ = some (.int .u8 a0_6) := (blk_cell BK107.out 6).trans rfl; have hcz8_7 : w7.cell? ⟨gb107, 7, none⟩ = some (.int .u8 a0_7) := (blk_cell BK107.out 7).trans rfl; have hcz8_8 : w7.cell? ⟨gb107, 8, none⟩ = some (.int .u8 a0_8) := (blk_cell BK107.out 8).trans rfl; have hcz8_9 : w7.cell? ⟨gb107, 9, none⟩ = some (.int .u8 a0_9) := (blk_cell BK107.out 9).trans rfl; have hcz8_10 : w7.cell? ⟨gb107, 10, none⟩ = some (.int .u8 a0_10) := (blk_cell BK107.out 10).trans rfl; have hcz8_11 : w7.cell? ⟨gb107, 11, none⟩ = some (.int .u8 a0_11) := (blk_cell BK107.out 11).trans rfl; have hcz8_12 : w7.cell? ⟨gb107, 12, none⟩ = some (.string a0_12) := (blk_cell BK107.out 12).trans rfl; have hfz8_0 := blk_frozen BK107.out 0; have hfz8_1 := blk_frozen BK107.out 1; have hfz8_2 := blk_frozen BK107.out 2; have hfz8_3 := blk_frozen BK107.out 3; have hfz8_4 := blk_frozen BK107.out 4; have hfz8_5 := blk_frozen BK107.out 5; have hfz8_6 := blk_frozen BK107.out 6; have hfz8_7 := blk_frozen BK107.out 7; have hfz8_8 := blk_frozen BK107.out 8; have hfz8_9 := blk_frozen BK107.out 9; have hfz8_10 := blk_frozen BK107.out 10; have hfz8_11 := blk_frozen BK107.out 11; have hfz8_12 := blk_frozen BK107.out 12) | ((with_reducible refine gate_callee (f := 10) rfl ?_); refine goesL_ (some 5) rfl rfl Try.func10 (by kernel_rfl) rfl #[.agg #[.int .u64 a0_0, .int .u64 a0_1, .int .u8 a0_2, .int .u8 a0_3, .int .u8 a0_4, .int .u8 a0_5, .int .u8 a0_6, .int .u8 a0_7, .int .u8 a0_8, .int .u8 a0_9, .int .u8 a0_10, .int .u8 a0_11, .string a0_12]] rfl (by (try simp only [List.map_toArray, List.map_cons, List.map_nil]); first | done | rfl | (simp only [List.length_drop, List.length_take]; rfl)) ?_; (with_reducible refine (entry_Right.calls k a0_0 a0_1 a0_2 a0_3 a0_4 a0_5 a0_6 a0_7 a0_8 a0_9 a0_10 a0_11 a0_12 true _ A2.out).mono ?_); rintro e w9 ⟨rfl, hb⟩; refine ⟨_, rfl, ?_⟩; have n0_ := Aside0.mk (blk_below (g := gb107) (o := .cells #[.int .u64 a0_0, .int .u64 a0_1, .int .u8 a0_2, .int .u8 a0_3, .int .u8 a0_4, .int .u8 a0_5, .int .u8 a0_6, .int .u8 a0_7, .int .u8 a0_8, .int .u8 a0_9, .int .u8 a0_10, .int .u8 a0_11, .string a0_12] 27 (0, 0)) (by (with_reducible repeat (first | refine blk_drewN ?_ _ | refine blk_drew ?_ | refine blk_alloc ?_ _)); exact BK107.out) hb); have n1_ := Aside0.mk (below_step (by repeat (first | (with_reducible first | exact HB.out | apply below_alloc | apply pw_below_drewN | apply below_drew1 | refine below_set ?_ GE107.out) | exact HB.out)) hb); clear BK107; clear HB; have BK107 := n0_; have HB := n1_; clear n0_ n1_; (try clear hb); (try clear hb2); (try clear hk); (try clear hi)))
   have n0_ := Aside0.mk (blk_drew BK107.out)
   have n1_ := Aside0.mk (below_drew1 HB.out)
   clear BK107
   clear HB
   have BK107 := n0_
   have HB := n1_
   clear n0_ n1_
   refine start_ (n := 12) (S := fun w' => w'.cell? ⟨gb107, 0, none⟩ = some (.int .u64 a0_0) ∧ w'.cell? ⟨gb107, 1, none⟩ = some (.int .u64 a0_1) ∧ w'.cell? ⟨gb107, 2, none⟩ = some (.int .u8 a0_2) ∧ w'.cell? ⟨gb107, 3, none⟩ = some (.int .u8 a0_3) ∧ w'.cell? ⟨gb107, 4, none⟩ = some (.int .u8 a0_4) ∧ w'.cell? ⟨gb107, 5, none⟩ = some (.int .u8 a0_5) ∧ w'.cell? ⟨gb107, 6, none⟩ = some (.int .u8 a0_6) ∧ w'.cell? ⟨gb107, 7, none⟩ = some (.int .u8 a0_7) ∧ w'.cell? ⟨gb107, 8, none⟩ = some (.int .u8 a0_8) ∧ w'.cell? ⟨gb107, 9, none⟩ = some (.int .u8 a0_9) ∧ w'.cell? ⟨gb107, 10, none⟩ = some (.int .u8 a0_10) ∧ w'.cell? ⟨gb107, 11, none⟩ = some (.int .u8 a0_11) ∧ w'.cell? ⟨gb107, 12, none⟩ = some (.string a0_12)) (ds := []) #[false, false, false, false, false, false, false, false, false, false, false, false] (by kernel_rfl) rfl rfl ⟨(blk_cell BK107.out 0).trans rfl, (blk_cell BK107.out 1).trans rfl, (blk_cell BK107.out 2).trans rfl, (blk_cell BK107.out 3).trans rfl, (blk_cell BK107.out 4).trans rfl, (blk_cell BK107.out 5).trans rfl, (blk_cell BK107.out 6).trans rfl, (blk_cell BK107.out 7).trans rfl, (blk_cell BK107.out 8).trans rfl, (blk_cell BK107.out 9).trans rfl, (blk_cell BK107.out 10).trans rfl, (blk_cell BK107.out 11).trans rfl, (blk_cell BK107.out 12).trans rfl⟩ (fun hHeld => ?_); refine with_tabW entry_Write.tab3 entry_Write.bits3 (fun HT_ HW_ => ?_)
   generalize w9.drew = w10 at BK107 HB hHeld ⊢
   refine pure_ (i := 0) (N := some 7) (v := ?_) (a' := ?_) (bq_5_ 12 1) rfl rfl (any_of HT_.out (by kernel_rfl)) (fun _ _ _ h => h) (Or.inl ⟨by rfl, ?_⟩) ?_ ?_
   rotate_left
   ·intro w'
    go_simp
    with_reducible rfl
   rotate_left
   ·simp only [Act.put, zA5_, zB5_, zC5_, i64_w, i32_w]
    rfl
   refine pure_ (i := 4) (N := some 11) (v := ?_) (a' := ?_) (bq_5_ 12 17) rfl rfl (any_of HT_.out (by kernel_rfl)) (fun _ _ _ h => h) (Or.inl ⟨by rfl, ?_⟩) ?_ ?_
   rotate_left
   ·intro w'
    go_simp
    with_reducible rfl
   rotate_left
   ·simp only [Act.put, zA5_, zB5_, zC5_, i64_w, i32_w]
    rfl
   refine pure_ (i := 6) (N := some 13) (v := ?_) (a' := ?_) (bq_5_ 12 81) rfl rfl (any_of HT_.out (by kernel_rfl)) (fun _ _ _ h => h) (Or.inl ⟨by rfl, ?_⟩) ?_ ?_
   rotate_left
   ·intro w'
    go_simp
    with_reducible rfl
   rotate_left
   ·simp only [Act.put, zA5_, zB5_, zC5_, i64_w, i32_w]
    rfl
   refine take_ (i := 1) (N := some 8) (v := ?_) (a' := ?_) (bq_5_ 12 83) rfl rfl (take_ofW HT_.out HW_.out (by kernel_rfl)) (fun _ _ _ h => h) (Or.inl ⟨by rfl, ?_⟩) hHeld ?_ ?_
   rotate_left
   ·rintro w' ⟨s0, s1, s2, s3, s4, s5, s6, s7, s8, s9, s10, s11, s12⟩
    go_simp
    with_reducible rfl
   rotate_left
   ·simp only [Act.put, zA5_, zB5_, zC5_, i64_w, i32_w]
    rfl
   refine take_ (i := 5) (N := some 12) (v := ?_) (a' := ?_) (bq_5_ 12 115) rfl rfl (take_ofW HT_.out HW_.out (by kernel_rfl)) (fun _ _ _ h => h) (Or.inl ⟨by rfl, ?_⟩) hHeld ?_ ?_
   rotate_left
   ·rintro w' ⟨s0, s1, s2, s3, s4, s5, s6, s7, s8, s9, s10, s11, s12⟩
    go_simp
    with_reducible rfl
   rotate_left
   ·simp only [Act.put, zA5_, zB5_, zC5_, i64_w, i32_w]
    rfl
   refine take_ (i := 7) (N := some 14) (v := ?_) (a' := ?_) (bq_5_ 12 243) rfl rfl (take_ofW HT_.out HW_.out (by kernel_rfl)) (fun _ _ _ h => h) (Or.inl ⟨by rfl, ?_⟩) hHeld ?_ ?_
   rotate_left
   ·rintro w' ⟨s0, s1, s2, s3, s4, s5, s6, s7, s8, s9, s10, s11, s12⟩
    go_simp
    with_reducible rfl
   rotate_left
   ·simp only [Act.put, zA5_, zB5_, zC5_, i64_w, i32_w]
    rfl
   refine join_ (σ := Value × Value) 2 #[true, true, true, true, true, true, true, true, true, true, false, false] (fun s_ => [(9, s_.1), (10, .string (strOfNums y109)), (15, s_.2), (16, .string t115)]) (fun s_ w' => (w'.cell? ⟨gb107, 0, none⟩ = some (.int .u64 a0_0) ∧ w'.cell? ⟨gb107, 1, none⟩ = some (.int .u64 a0_1) ∧ w'.cell? ⟨gb107, 2, none⟩ = some (.int .u8 a0_2) ∧ w'.cell? ⟨gb107, 3, none⟩ = some (.int .u8 a0_3) ∧ w'.cell? ⟨gb107, 4, none⟩ = some (.int .u8 a0_4) ∧ w'.cell? ⟨gb107, 5, none⟩ = some (.int .u8 a0_5) ∧ w'.cell? ⟨gb107, 6, none⟩ = some (.int .u8 a0_6) ∧ w'.cell? ⟨gb107, 7, none⟩ = some (.int .u8 a0_7) ∧ w'.cell? ⟨gb107, 8, none⟩ = some (.int .u8 a0_8) ∧ w'.cell? ⟨gb107, 9, none⟩ = some (.int .u8 a0_9) ∧ w'.cell? ⟨gb107, 10, none⟩ = some (.int .u8 a0_10) ∧ w'.cell? ⟨gb107, 11, none⟩ = some (.int .u8 a0_11) ∧ w'.cell? ⟨gb107, 12, none⟩ = some (.string a0_12)) ∧ (Kd.R (Kd.int .u8) 5 w' w.heap.size (fun _ => True) s_.1 y109) ∧ (Kd.R (Kd.int .u64) 23 w' w.heap.size (fun _ => True) s_.2 y112) ∧ (w'.heap[gb107]? = some (.cells #[.int .u64 a0_0, .int .u64 a0_1, .int .u8 a0_2, .int .u8 a0_3, .int .u8 a0_4, .int .u8 a0_5, .int .u8 a0_6, .int .u8 a0_7, .int .u8 a0_8, .int .u8 a0_9, .int .u8 a0_10, .int .u8 a0_11, .string a0_12] 27 (0, 0))) ∧ (Below w.heap.size w w')) ?_ ?_
   rotate_left
   ·intro hJ2_3_8_9
    refine join_ (σ := Value × Value) 3 #[true, true, true, true, true, true, true, true, true, false, false, false] (fun s_ => [(9, s_.1), (10, .string (strOfNums y109)), (15, s_.2)]) (fun s_ w' => (w'.cell? ⟨gb107, 0, none⟩ = some (.int .u64 a0_0) ∧ w'.cell? ⟨gb107, 1, none⟩ = some (.int .u64 a0_1) ∧ w'.cell? ⟨gb107, 2, none⟩ = some (.int .u8 a0_2) ∧ w'.cell? ⟨gb107, 3, none⟩ = some (.int .u8 a0_3) ∧ w'.cell? ⟨gb107, 4, none⟩ = some (.int .u8 a0_4) ∧ w'.cell? ⟨gb107, 5, none⟩ = some (.int .u8 a0_5) ∧ w'.cell? ⟨gb107, 6, none⟩ = some (.int .u8 a0_6) ∧ w'.cell? ⟨gb107, 7, none⟩ = some (.int .u8 a0_7) ∧ w'.cell? ⟨gb107, 8, none⟩ = some (.int .u8 a0_8) ∧ w'.cell? ⟨gb107, 9, none⟩ = some (.int .u8 a0_9) ∧ w'.cell? ⟨gb107, 10, none⟩ = some (.int .u8 a0_10) ∧ w'.cell? ⟨gb107, 11, none⟩ = some (.int .u8 a0_11) ∧ w'.cell? ⟨gb107, 12, none⟩ = some (.string a0_12)) ∧ (Kd.R (Kd.int .u8) 5 w' w.heap.size (fun _ => True) s_.1 y109) ∧ (Kd.R (Kd.int .u64) 23 w' w.heap.size (fun _ => True) s_.2 y112) ∧ (w'.heap[gb107]? = some (.cells #[.int .u64 a0_0, .int .u64 a0_1, .int .u8 a0_2, .int .u8 a0_3, .int .u8 a0_4, .int .u8 a0_5, .int .u8 a0_6, .int .u8 a0_7, .int .u8 a0_8, .int .u8 a0_9, .int .u8 a0_10, .int .u8 a0_11, .string a0_12] 27 (0, 0))) ∧ (Below w.heap.size w w')) ?_ ?_
    rotate_left
    ·intro hJ2_3_8
     refine join_ (σ := Value × Value) 3 #[true, true, true, false, true, true, true, true, true, true, false, false] (fun s_ => [(9, s_.1), (15, s_.2), (16, .string t115)]) (fun s_ w' => (w'.cell? ⟨gb107, 0, none⟩ = some (.int .u64 a0_0) ∧ w'.cell? ⟨gb107, 1, none⟩ = some (.int .u64 a0_1) ∧ w'.cell? ⟨gb107, 2, none⟩ = some (.int .u8 a0_2) ∧ w'.cell? ⟨gb107, 3, none⟩ = some (.int .u8 a0_3) ∧ w'.cell? ⟨gb107, 4, none⟩ = some (.int .u8 a0_4) ∧ w'.cell? ⟨gb107, 5, none⟩ = some (.int .u8 a0_5) ∧ w'.cell? ⟨gb107, 6, none⟩ = some (.int .u8 a0_6) ∧ w'.cell? ⟨gb107, 7, none⟩ = some (.int .u8 a0_7) ∧ w'.cell? ⟨gb107, 8, none⟩ = some (.int .u8 a0_8) ∧ w'.cell? ⟨gb107, 9, none⟩ = some (.int .u8 a0_9) ∧ w'.cell? ⟨gb107, 10, none⟩ = some (.int .u8 a0_10) ∧ w'.cell? ⟨gb107, 11, none⟩ = some (.int .u8 a0_11) ∧ w'.cell? ⟨gb107, 12, none⟩ = some (.string a0_12)) ∧ (Kd.R (Kd.int .u8) 5 w' w.heap.size (fun _ => True) s_.1 y109) ∧ (Kd.R (Kd.int .u64) 23 w' w.heap.size (fun _ => True) s_.2 y112) ∧ (w'.heap[gb107]? = some (.cells #[.int .u64 a0_0, .int .u64 a0_1, .int .u8 a0_2, .int .u8 a0_3, .int .u8 a0_4, .int .u8 a0_5, .int .u8 a0_6, .int .u8 a0_7, .int .u8 a0_8, .int .u8 a0_9, .int .u8 a0_10, .int .u8 a0_11, .string a0_12] 27 (0, 0))) ∧ (Below w.heap.size w w')) ?_ ?_
     rotate_left
     ·intro hJ2_8_9
      refine join_ (σ := Value) 4 #[true, true, true, true, true, true, true, true, false, false, false, false] (fun s_ => [(9, s_), (10, .string (strOfNums y109))]) (fun s_ w' => (w'.cell? ⟨gb107, 0, none⟩ = some (.int .u64 a0_0) ∧ w'.cell? ⟨gb107, 1, none⟩ = some (.int .u64 a0_1) ∧ w'.cell? ⟨gb107, 2, none⟩ = some (.int .u8 a0_2) ∧ w'.cell? ⟨gb107, 3, none⟩ = some (.int .u8 a0_3) ∧ w'.cell? ⟨gb107, 4, none⟩ = some (.int .u8 a0_4) ∧ w'.cell? ⟨gb107, 5, none⟩ = some (.int .u8 a0_5) ∧ w'.cell? ⟨gb107, 6, none⟩ = some (.int .u8 a0_6) ∧ w'.cell? ⟨gb107, 7, none⟩ = some (.int .u8 a0_7) ∧ w'.cell? ⟨gb107, 8, none⟩ = some (.int .u8 a0_8) ∧ w'.cell? ⟨gb107, 9, none⟩ = some (.int .u8 a0_9) ∧ w'.cell? ⟨gb107, 10, none⟩ = some (.int .u8 a0_10) ∧ w'.cell? ⟨gb107, 11, none⟩ = some (.int .u8 a0_11) ∧ w'.cell? ⟨gb107, 12, none⟩ = some (.string a0_12)) ∧ (Kd.R (Kd.int .u8) 5 w' w.heap.size (fun _ => True) s_ y109) ∧ (w'.heap[gb107]? = some (.cells #[.int .u64 a0_0, .int .u64 a0_1, .int .u8 a0_2, .int .u8 a0_3, .int .u8 a0_4, .int .u8 a0_5, .int .u8 a0_6, .int .u8 a0_7, .int .u8 a0_8, .int .u8 a0_9, .int .u8 a0_10, .int .u8 a0_11, .string a0_12] 27 (0, 0))) ∧ (Below w.heap.size w w')) ?_ ?_
      rotate_left
      ·intro hJ2_3
       refine join_ (σ := Value × Value) 4 #[true, true, true, false, true, true, true, true, true, false, false, false] (fun s_ => [(9, s_.1), (15, s_.2)]) (fun s_ w' => (w'.cell? ⟨gb107, 0, none⟩ = some (.int .u64 a0_0) ∧ w'.cell? ⟨gb107, 1, none⟩ = some (.int .u64 a0_1) ∧ w'.cell? ⟨gb107, 2, none⟩ = some (.int .u8 a0_2) ∧ w'.cell? ⟨gb107, 3, none⟩ = some (.int .u8 a0_3) ∧ w'.cell? ⟨gb107, 4, none⟩ = some (.int .u8 a0_4) ∧ w'.cell? ⟨gb107, 5, none⟩ = some (.int .u8 a0_5) ∧ w'.cell? ⟨gb107, 6, none⟩ = some (.int .u8 a0_6) ∧ w'.cell? ⟨gb107, 7, none⟩ = some (.int .u8 a0_7) ∧ w'.cell? ⟨gb107, 8, none⟩ = some (.int .u8 a0_8) ∧ w'.cell? ⟨gb107, 9, none⟩ = some (.int .u8 a0_9) ∧ w'.cell? ⟨gb107, 10, none⟩ = some (.int .u8 a0_10) ∧ w'.cell? ⟨gb107, 11, none⟩ = some (.int .u8 a0_11) ∧ w'.cell? ⟨gb107, 12, none⟩ = some (.string a0_12)) ∧ (Kd.R (Kd.int .u8) 5 w' w.heap.size (fun _ => True) s_.1 y109) ∧ (Kd.R (Kd.int .u64) 23 w' w.heap.size (fun _ => True) s_.2 y112) ∧ (w'.heap[gb107]? = some (.cells #[.int .u64 a0_0, .int .u64 a0_1, .int .u8 a0_2, .int .u8 a0_3, .int .u8 a0_4, .int .u8 a0_5, .int .u8 a0_6, .int .u8 a0_7, .int .u8 a0_8, .int .u8 a0_9, .int .u8 a0_10, .int .u8 a0_11, .string a0_12] 27 (0, 0))) ∧ (Below w.heap.size w w')) ?_ ?_
       rotate_left
       ·intro hJ2_8
        refine join_ (σ := Value) 4 #[true, true, false, false, true, true, true, true, true, true, false, false] (fun s_ => [(15, s_), (16, .string t115)]) (fun s_ w' => (w'.cell? ⟨gb107, 0, none⟩ = some (.int .u64 a0_0) ∧ w'.cell? ⟨gb107, 1, none⟩ = some (.int .u64 a0_1) ∧ w'.cell? ⟨gb107, 2, none⟩ = some (.int .u8 a0_2) ∧ w'.cell? ⟨gb107, 3, none⟩ = some (.int .u8 a0_3) ∧ w'.cell? ⟨gb107, 4, none⟩ = some (.int .u8 a0_4) ∧ w'.cell? ⟨gb107, 5, none⟩ = some (.int .u8 a0_5) ∧ w'.cell? ⟨gb107, 6, none⟩ = some (.int .u8 a0_6) ∧ w'.cell? ⟨gb107, 7, none⟩ = some (.int .u8 a0_7) ∧ w'.cell? ⟨gb107, 8, none⟩ = some (.int .u8 a0_8) ∧ w'.cell? ⟨gb107, 9, none⟩ = some (.int .u8 a0_9) ∧ w'.cell? ⟨gb107, 10, none⟩ = some (.int .u8 a0_10) ∧ w'.cell? ⟨gb107, 11, none⟩ = some (.int .u8 a0_11) ∧ w'.cell? ⟨gb107, 12, none⟩ = some (.string a0_12)) ∧ (Kd.R (Kd.int .u64) 23 w' w.heap.size (fun _ => True) s_ y112) ∧ (w'.heap[gb107]? = some (.cells #[.int .u64 a0_0, .int .u64 a0_1, .int .u8 a0_2, .int .u8 a0_3, .int .u8 a0_4, .int .u8 a0_5, .int .u8 a0_6, .int .u8 a0_7, .int .u8 a0_8, .int .u8 a0_9, .int .u8 a0_10, .int .u8 a0_11, .string a0_12] 27 (0, 0))) ∧ (Below w.heap.size w w')) ?_ ?_
        rotate_left
        ·intro hJ8_9
         refine join_ (σ := Value) 5 #[true, true, true, false, true, true, true, true, false, false, false, false] (fun s_ => [(9, s_)]) (fun s_ w' => (w'.cell? ⟨gb107, 0, none⟩ = some (.int .u64 a0_0) ∧ w'.cell? ⟨gb107, 1, none⟩ = some (.int .u64 a0_1) ∧ w'.cell? ⟨gb107, 2, none⟩ = some (.int .u8 a0_2) ∧ w'.cell? ⟨gb107, 3, none⟩ = some (.int .u8 a0_3) ∧ w'.cell? ⟨gb107, 4, none⟩ = some (.int .u8 a0_4) ∧ w'.cell? ⟨gb107, 5, none⟩ = some (.int .u8 a0_5) ∧ w'.cell? ⟨gb107, 6, none⟩ = some (.int .u8 a0_6) ∧ w'.cell? ⟨gb107, 7, none⟩ = some (.int .u8 a0_7) ∧ w'.cell? ⟨gb107, 8, none⟩ = some (.int .u8 a0_8) ∧ w'.cell? ⟨gb107, 9, none⟩ = some (.int .u8 a0_9) ∧ w'.cell? ⟨gb107, 10, none⟩ = some (.int .u8 a0_10) ∧ w'.cell? ⟨gb107, 11, none⟩ = some (.int .u8 a0_11) ∧ w'.cell? ⟨gb107, 12, none⟩ = some (.string a0_12)) ∧ (Kd.R (Kd.int .u8) 5 w' w.heap.size (fun _ => True) s_ y109) ∧ (w'.heap[gb107]? = some (.cells #[.int .u64 a0_0, .int .u64 a0_1, .int .u8 a0_2, .int .u8 a0_3, .int .u8 a0_4, .int .u8 a0_5, .int .u8 a0_6, .int .u8 a0_7, .int .u8 a0_8, .int .u8 a0_9, .int .u8 a0_10, .int .u8 a0_11, .string a0_12] 27 (0, 0))) ∧ (Below w.heap.size w w')) ?_ ?_
         rotate_left
         ·intro hJ2
          refine join_ (σ := Value) 5 #[true, true, false, false, true, true, true, true, true, false, false, false] (fun s_ => [(15, s_)]) (fun s_ w' => (w'.cell? ⟨gb107, 0, none⟩ = some (.int .u64 a0_0) ∧ w'.cell? ⟨gb107, 1, none⟩ = some (.int .u64 a0_1) ∧ w'.cell? ⟨gb107, 2, none⟩ = some (.int .u8 a0_2) ∧ w'.cell? ⟨gb107, 3, none⟩ = some (.int .u8 a0_3) ∧ w'.cell? ⟨gb107, 4, none⟩ = some (.int .u8 a0_4) ∧ w'.cell? ⟨gb107, 5, none⟩ = some (.int .u8 a0_5) ∧ w'.cell? ⟨gb107, 6, none⟩ = some (.int .u8 a0_6) ∧ w'.cell? ⟨gb107, 7, none⟩ = some (.int .u8 a0_7) ∧ w'.cell? ⟨gb107, 8, none⟩ = some (.int .u8 a0_8) ∧ w'.cell? ⟨gb107, 9, none⟩ = some (.int .u8 a0_9) ∧ w'.cell? ⟨gb107, 10, none⟩ = some (.int .u8 a0_10) ∧ w'.cell? ⟨gb107, 11, none⟩ = some (.int .u8 a0_11) ∧ w'.cell? ⟨gb107, 12, none⟩ = some (.string a0_12)) ∧ (Kd.R (Kd.int .u64) 23 w' w.heap.size (fun _ => True) s_ y112) ∧ (w'.heap[gb107]? = some (.cells #[.int .u64 a0_0, .int .u64 a0_1, .int .u8 a0_2, .int .u8 a0_3, .int .u8 a0_4, .int .u8 a0_5, .int .u8 a0_6, .int .u8 a0_7, .int .u8 a0_8, .int .u8 a0_9, .int .u8 a0_10, .int .u8 a0_11, .string a0_12] 27 (0, 0))) ∧ (Below w.heap.size w w')) ?_ ?_
          rotate_left
          ·intro hJ8
           refine two_ (i := 2) (j := 8) (Ni := some 9) (Nj := some 15) #[true, true, true, false, true, true, true, true, false, false, false, false] #[true, true, false, false, true, true, true, true, true, false, false, false] rfl rfl rfl rfl (two_of HT_.out (by kernel_rfl)) (by decide) (by decide) (fun K hK => ?_) (fun K hK => ?_)
           ·skip
            refine Kd.R_lit_step (Kd.int .u8) _ 5 ?hg (N := 9) ?hd (xs := ([a0_2] : List Int)) (inner := [.int .u8 a0_2]) (ok := fun _ => True) (okp := fun _ => True) ?hr ?hp (fun _ hk => hk) trivial (Below.refl _ _) (Nat.le_refl _) (by simp) ?_; (case hd => rfl); (case hg => rfl); (case hr => first | (go_simp; done) | (go_simp; rfl)); (case hp => exact (Reps.one (show Kd.M (Kd.int .u8) _ _ _ a0_2 [.int .u8 a0_2] from rfl) (Reps.none _ _)))
            intro v110 w11 ho12 hb hg_ hnew_
            clear hg_ hnew_
            (first | rw [← Ny109.out] at ho12 | (simp only [Int.reduceToNat] at ho12; rw [← Ny109.out] at ho12))
            have n0_ := Aside0.mk (Kd.R_lower ho12 (below_size (by repeat (first | (with_reducible first | exact HB.out | apply below_alloc | apply pw_below_drewN | apply below_drew1 | refine below_set ?_ GE107.out) | exact HB.out))))
            have n1_ := Aside0.mk (blk_below (g := gb107) (o := .cells #[.int .u64 a0_0, .int .u64 a0_1, .int .u8 a0_2, .int .u8 a0_3, .int .u8 a0_4, .int .u8 a0_5, .int .u8 a0_6, .int .u8 a0_7, .int .u8 a0_8, .int .u8 a0_9, .int .u8 a0_10, .int .u8 a0_11, .string a0_12] 27 (0, 0)) (by (with_reducible repeat (first | refine blk_drewN ?_ _ | refine blk_drew ?_ | refine blk_alloc ?_ _)); exact BK107.out) hb)
            have n2_ := Aside0.mk (below_step (by repeat (first | (with_reducible first | exact HB.out | apply below_alloc | apply pw_below_drewN | apply below_drew1 | refine below_set ?_ GE107.out) | exact HB.out)) hb)
            clear BK107
            clear HB
            have HO111 := n0_
            have BK107 := n1_
            have HB := n2_
            clear n0_ n1_ n2_
            clear hb ho12
            refine hK.out _ _ ⟨(blk_cell BK107.out 0).trans rfl, (blk_cell BK107.out 1).trans rfl, (blk_cell BK107.out 2).trans rfl, (blk_cell BK107.out 3).trans rfl, (blk_cell BK107.out 4).trans rfl, (blk_cell BK107.out 5).trans rfl, (blk_cell BK107.out 6).trans rfl, (blk_cell BK107.out 7).trans rfl, (blk_cell BK107.out 8).trans rfl, (blk_cell BK107.out 9).trans rfl, (blk_cell BK107.out 10).trans rfl, (blk_cell BK107.out 11).trans rfl, (blk_cell BK107.out 12).trans rfl⟩ (fun hHeld => ?_)
            clear hK K
            refine norm_ (a' := ?_) ?_ ?_
            rotate_left
            ·show Act.put _ (some 9) _ = _
             simp only [Act.put, zA5_, zB5_, zC5_, i64_w, i32_w]
             rfl
            exact norm_ (by first | (simp only [putAll, Act.put, zA5_, zB5_, zC5_]; done) | (simp only [putAll, Act.put, zA5_, zB5_, zC5_]; rfl)) (hJ2 (v110) _ ⟨hHeld, (by (with_reducible repeat (first | apply Kd.R_alloc | apply Kd.R_drewN | apply Kd.R_drew)); exact HO111.out), (by (with_reducible repeat (first | refine blk_drewN ?_ _ | refine blk_drew ?_ | refine blk_alloc ?_ _)); exact BK107.out), (by repeat (first | (with_reducible first | exact HB.out | apply below_alloc | apply pw_below_drewN | apply below_drew1 | refine below_set ?_ GE107.out) | exact HB.out))⟩)
           ·skip
            refine Kd.R_lit_step (Kd.int .u64) _ 23 ?hg (N := 15) ?hd (xs := ([a0_0, a0_1] : List Int)) (inner := [.int .u64 a0_0, .int .u64 a0_1]) (ok := fun _ => True) (okp := fun _ => True) ?hr ?hp (fun _ hk => hk) trivial (Below.refl _ _) (Nat.le_refl _) (by simp) ?_; (case hd => rfl); (case hg => rfl); (case hr => first | (go_simp; done) | (go_simp; rfl)); (case hp => exact (Reps.one (show Kd.M (Kd.int .u64) _ _ _ a0_0 [.int .u64 a0_0] from rfl) (Reps.one (show Kd.M (Kd.int .u64) _ _ _ a0_1 [.int .u64 a0_1] from rfl) (Reps.none _ _))))
            intro v113 w11 ho12 hb hg_ hnew_
            clear hg_ hnew_
            (first | rw [← Ny112.out] at ho12 | (simp only [Int.reduceToNat] at ho12; rw [← Ny112.out] at ho12))
            have n0_ := Aside0.mk (Kd.R_lower ho12 (below_size (by repeat (first | (with_reducible first | exact HB.out | apply below_alloc | apply pw_below_drewN | apply below_drew1 | refine below_set ?_ GE107.out) | exact HB.out))))
            have n1_ := Aside0.mk (blk_below (g := gb107) (o := .cells #[.int .u64 a0_0, .int .u64 a0_1, .int .u8 a0_2, .int .u8 a0_3, .int .u8 a0_4, .int .u8 a0_5, .int .u8 a0_6, .int .u8 a0_7, .int .u8 a0_8, .int .u8 a0_9, .int .u8 a0_10, .int .u8 a0_11, .string a0_12] 27 (0, 0)) (by (with_reducible repeat (first | refine blk_drewN ?_ _ | refine blk_drew ?_ | refine blk_alloc ?_ _)); exact BK107.out) hb)
            have n2_ := Aside0.mk (below_step (by repeat (first | (with_reducible first | exact HB.out | apply below_alloc | apply pw_below_drewN | apply below_drew1 | refine below_set ?_ GE107.out) | exact HB.out)) hb)
            clear BK107
            clear HB
            have HO114 := n0_
            have BK107 := n1_
            have HB := n2_
            clear n0_ n1_ n2_
            clear hb ho12
            refine hK.out _ _ ⟨(blk_cell BK107.out 0).trans rfl, (blk_cell BK107.out 1).trans rfl, (blk_cell BK107.out 2).trans rfl, (blk_cell BK107.out 3).trans rfl, (blk_cell BK107.out 4).trans rfl, (blk_cell BK107.out 5).trans rfl, (blk_cell BK107.out 6).trans rfl, (blk_cell BK107.out 7).trans rfl, (blk_cell BK107.out 8).trans rfl, (blk_cell BK107.out 9).trans rfl, (blk_cell BK107.out 10).trans rfl, (blk_cell BK107.out 11).trans rfl, (blk_cell BK107.out 12).trans rfl⟩ (fun hHeld => ?_)
            clear hK K
            refine norm_ (a' := ?_) ?_ ?_
            rotate_left
            ·show Act.put _ (some 15) _ = _
             simp only [Act.put, zA5_, zB5_, zC5_, i64_w, i32_w]
             rfl
            exact norm_ (by first | (simp only [putAll, Act.put, zA5_, zB5_, zC5_]; done) | (simp only [putAll, Act.put, zA5_, zB5_, zC5_]; rfl)) (hJ8 (v113) _ ⟨hHeld, (by (with_reducible repeat (first | apply Kd.R_alloc | apply Kd.R_drewN | apply Kd.R_drew)); exact HO114.out), (by (with_reducible repeat (first | refine blk_drewN ?_ _ | refine blk_drew ?_ | refine blk_alloc ?_ _)); exact BK107.out), (by repeat (first | (with_reducible first | exact HB.out | apply below_alloc | apply pw_below_drewN | apply below_drew1 | refine below_set ?_ GE107.out) | exact HB.out))⟩)
          ·skip
           rintro v113 w13 ⟨hS_, h0_, h1_, h2_⟩
           have n0_ : Aside0 (Kd.R (Kd.int .u64) 23 w13 w.heap.size (fun _ => True) v113 y112) := ⟨h0_⟩
           have n1_ : Aside0 (w13.heap[gb107]? = some (.cells #[.int .u64 a0_0, .int .u64 a0_1, .int .u8 a0_2, .int .u8 a0_3, .int .u8 a0_4, .int .u8 a0_5, .int .u8 a0_6, .int .u8 a0_7, .int .u8 a0_8, .int .u8 a0_9, .int .u8 a0_10, .int .u8 a0_11, .string a0_12] 27 (0, 0))) := ⟨h1_⟩
           have n2_ : Aside0 (Below w.heap.size w w13) := ⟨h2_⟩
           clear BK107
           clear HB
           clear h0_ h1_ h2_
           have HO114 := n0_
           have BK107 := n1_
           have HB := n2_
           clear n0_ n1_ n2_
           have hHeld : w13.cell? ⟨gb107, 0, none⟩ = some (.int .u64 a0_0) ∧ w13.cell? ⟨gb107, 1, none⟩ = some (.int .u64 a0_1) ∧ w13.cell? ⟨gb107, 2, none⟩ = some (.int .u8 a0_2) ∧ w13.cell? ⟨gb107, 3, none⟩ = some (.int .u8 a0_3) ∧ w13.cell? ⟨gb107, 4, none⟩ = some (.int .u8 a0_4) ∧ w13.cell? ⟨gb107, 5, none⟩ = some (.int .u8 a0_5) ∧ w13.cell? ⟨gb107, 6, none⟩ = some (.int .u8 a0_6) ∧ w13.cell? ⟨gb107, 7, none⟩ = some (.int .u8 a0_7) ∧ w13.cell? ⟨gb107, 8, none⟩ = some (.int .u8 a0_8) ∧ w13.cell? ⟨gb107, 9, none⟩ = some (.int .u8 a0_9) ∧ w13.cell? ⟨gb107, 10, none⟩ = some (.int .u8 a0_10) ∧ w13.cell? ⟨gb107, 11, none⟩ = some (.int .u8 a0_11) ∧ w13.cell? ⟨gb107, 12, none⟩ = some (.string a0_12) := hS_
           refine norm_ (a' := ?_) ?_ ?_
           rotate_left
           ·simp only [putAll, Act.put, zA5_, zB5_, zC5_]
            rfl
           refine two_ (i := 2) (j := 9) (Ni := some 9) (Nj := some 16) #[true, true, true, false, true, true, true, true, true, false, false, false] #[true, true, false, false, true, true, true, true, true, true, false, false] rfl rfl rfl rfl (two_of HT_.out (by kernel_rfl)) (by decide) (by decide) (fun K hK => ?_) (fun K hK => ?_)
           ·skip
            refine Kd.R_lit_step (Kd.int .u8) _ 5 ?hg (N := 9) ?hd (xs := ([a0_2] : List Int)) (inner := [.int .u8 a0_2]) (ok := fun _ => True) (okp := fun _ => True) ?hr ?hp (fun _ hk => hk) trivial (Below.refl _ _) (Nat.le_refl _) (by simp) ?_; (case hd => rfl); (case hg => rfl); (case hr => first | (go_simp; done) | (go_simp; rfl)); (case hp => exact (Reps.one (show Kd.M (Kd.int .u8) _ _ _ a0_2 [.int .u8 a0_2] from rfl) (Reps.none _ _)))
            intro v110 w14 ho15 hb hg_ hnew_
            clear hg_ hnew_
            (first | rw [← Ny109.out] at ho15 | (simp only [Int.reduceToNat] at ho15; rw [← Ny109.out] at ho15))
            have n0_ := Aside0.mk (Kd.R_below (by (with_reducible repeat (first | apply Kd.R_alloc | apply Kd.R_drewN | apply Kd.R_drew)); exact HO114.out) hb)
            have n1_ := Aside0.mk (Kd.R_lower ho15 (below_size (by repeat (first | (with_reducible first | exact HB.out | apply below_alloc | apply pw_below_drewN | apply below_drew1 | refine below_set ?_ GE107.out) | exact HB.out))))
            have n2_ := Aside0.mk (blk_below (g := gb107) (o := .cells #[.int .u64 a0_0, .int .u64 a0_1, .int .u8 a0_2, .int .u8 a0_3, .int .u8 a0_4, .int .u8 a0_5, .int .u8 a0_6, .int .u8 a0_7, .int .u8 a0_8, .int .u8 a0_9, .int .u8 a0_10, .int .u8 a0_11, .string a0_12] 27 (0, 0)) (by (with_reducible repeat (first | refine blk_drewN ?_ _ | refine blk_drew ?_ | refine blk_alloc ?_ _)); exact BK107.out) hb)
            have n3_ := Aside0.mk (below_step (by repeat (first | (with_reducible first | exact HB.out | apply below_alloc | apply pw_below_drewN | apply below_drew1 | refine below_set ?_ GE107.out) | exact HB.out)) hb)
            clear HO114
            clear BK107
            clear HB
            have HO114 := n0_
            have HO111 := n1_
            have BK107 := n2_
            have HB := n3_
            clear n0_ n1_ n2_ n3_
            clear hb ho15
            refine hK.out _ _ ⟨(blk_cell BK107.out 0).trans rfl, (blk_cell BK107.out 1).trans rfl, (blk_cell BK107.out 2).trans rfl, (blk_cell BK107.out 3).trans rfl, (blk_cell BK107.out 4).trans rfl, (blk_cell BK107.out 5).trans rfl, (blk_cell BK107.out 6).trans rfl, (blk_cell BK107.out 7).trans rfl, (blk_cell BK107.out 8).trans rfl, (blk_cell BK107.out 9).trans rfl, (blk_cell BK107.out 10).trans rfl, (blk_cell BK107.out 11).trans rfl, (blk_cell BK107.out 12).trans rfl⟩ (fun hHeld => ?_)
            clear hK K
            refine norm_ (a' := ?_) ?_ ?_
            rotate_left
            ·show Act.put _ (some 9) _ = _
             simp only [Act.put, zA5_, zB5_, zC5_, i64_w, i32_w]
             rfl
            exact norm_ (by first | (simp only [putAll, Act.put, zA5_, zB5_, zC5_]; done) | (simp only [putAll, Act.put, zA5_, zB5_, zC5_]; rfl)) (hJ2_8 (v110, v113) _ ⟨hHeld, (by (with_reducible repeat (first | apply Kd.R_alloc | apply Kd.R_drewN | apply Kd.R_drew)); exact HO111.out), (by (with_reducible repeat (first | apply Kd.R_alloc | apply Kd.R_drewN | apply Kd.R_drew)); exact HO114.out), (by (with_reducible repeat (first | refine blk_drewN ?_ _ | refine blk_drew ?_ | refine blk_alloc ?_ _)); exact BK107.out), (by repeat (first | (with_reducible first | exact HB.out | apply below_alloc | apply pw_below_drewN | apply below_drew1 | refine below_set ?_ GE107.out) | exact HB.out))⟩)
           ·skip
            obtain ⟨Ao14, co14, eo14⟩ := Kd.R_slice HO114.out
            (first | subst eo14 | (injection eo14 with f1_ f2_ f3_; have f4_ := f1_.symm; have f5_ := f3_.symm; clear f1_ f2_ f3_; subst f4_; subst f5_))
            refine goes_ Try.func20 (by kernel_rfl) rfl #[.slice Ao14 y112.length co14] (by rfl) rfl rfl (by (try simp only [List.map_toArray, List.map_cons, List.map_nil]); first | done | rfl | (simp only [List.length_drop, List.length_take]; rfl)) ?_
            with_reducible refine (num_V.calls _ _ y112 t115 _ ?side1 ?side2 A4.out).mono ?_
            (case side1 => repeat (first | exact (Kd.R_reads' HO114.out).2.2 | (with_reducible refine Kd.C_alloc ?_ _) | (with_reducible refine Kd.C_drewN ?_ _) | (with_reducible refine Kd.C_drew ?_)))
            (case side2 => exact (Kd.R_reads' HO114.out).2.1)
            rintro e w15 ⟨rfl, hb⟩
            refine ⟨_, rfl, ?_⟩
            have n0_ := Aside0.mk (Kd.R_below (by (with_reducible repeat (first | apply Kd.R_alloc | apply Kd.R_drewN | apply Kd.R_drew)); exact HO114.out) hb)
            have n1_ := Aside0.mk (blk_below (g := gb107) (o := .cells #[.int .u64 a0_0, .int .u64 a0_1, .int .u8 a0_2, .int .u8 a0_3, .int .u8 a0_4, .int .u8 a0_5, .int .u8 a0_6, .int .u8 a0_7, .int .u8 a0_8, .int .u8 a0_9, .int .u8 a0_10, .int .u8 a0_11, .string a0_12] 27 (0, 0)) (by (with_reducible repeat (first | refine blk_drewN ?_ _ | refine blk_drew ?_ | refine blk_alloc ?_ _)); exact BK107.out) hb)
            have n2_ := Aside0.mk (below_step (by repeat (first | (with_reducible first | exact HB.out | apply below_alloc | apply pw_below_drewN | apply below_drew1 | refine below_set ?_ GE107.out) | exact HB.out)) hb)
            clear HO114
            clear BK107
            clear HB
            have HO114 := n0_
            have BK107 := n1_
            have HB := n2_
            clear n0_ n1_ n2_
            (try clear hb)
            (try clear hb2)
            (try clear hk)
            (try clear hi)
            refine hK.out _ _ ⟨(blk_cell BK107.out 0).trans rfl, (blk_cell BK107.out 1).trans rfl, (blk_cell BK107.out 2).trans rfl, (blk_cell BK107.out 3).trans rfl, (blk_cell BK107.out 4).trans rfl, (blk_cell BK107.out 5).trans rfl, (blk_cell BK107.out 6).trans rfl, (blk_cell BK107.out 7).trans rfl, (blk_cell BK107.out 8).trans rfl, (blk_cell BK107.out 9).trans rfl, (blk_cell BK107.out 10).trans rfl, (blk_cell BK107.out 11).trans rfl, (blk_cell BK107.out 12).trans rfl⟩ (fun hHeld => ?_)
            clear hK K
            refine norm_ (a' := ?_) ?_ ?_
            rotate_left
            ·show Act.put _ (some 16) _ = _
             simp only [Act.put, zA5_, zB5_, zC5_, i64_w, i32_w]
             rfl
            exact norm_ (by first | (simp only [putAll, Act.put, zA5_, zB5_, zC5_]; done) | (simp only [putAll, Act.put, zA5_, zB5_, zC5_]; rfl)) (hJ8_9 (.slice Ao14 y112.length co14) _ ⟨hHeld, (by (with_reducible repeat (first | apply Kd.R_alloc | apply Kd.R_drewN | apply Kd.R_drew)); exact HO114.out), (by (with_reducible repeat (first | refine blk_drewN ?_ _ | refine blk_drew ?_ | refine blk_alloc ?_ _)); exact BK107.out), (by repeat (first | (with_reducible first | exact HB.out | apply below_alloc | apply pw_below_drewN | apply below_drew1 | refine below_set ?_ GE107.out) | exact HB.out))⟩)
         ·skip
          rintro v110 w13 ⟨hS_, h0_, h1_, h2_⟩
          have n0_ : Aside0 (Kd.R (Kd.int .u8) 5 w13 w.heap.size (fun _ => True) v110 y109) := ⟨h0_⟩
          have n1_ : Aside0 (w13.heap[gb107]? = some (.cells #[.int .u64 a0_0, .int .u64 a0_1, .int .u8 a0_2, .int .u8 a0_3, .int .u8 a0_4, .int .u8 a0_5, .int .u8 a0_6, .int .u8 a0_7, .int .u8 a0_8, .int .u8 a0_9, .int .u8 a0_10, .int .u8 a0_11, .string a0_12] 27 (0, 0))) := ⟨h1_⟩
          have n2_ : Aside0 (Below w.heap.size w w13) := ⟨h2_⟩
          clear BK107
          clear HB
          clear h0_ h1_ h2_
          have HO111 := n0_
          have BK107 := n1_
          have HB := n2_
          clear n0_ n1_ n2_
          have hHeld : w13.cell? ⟨gb107, 0, none⟩ = some (.int .u64 a0_0) ∧ w13.cell? ⟨gb107, 1, none⟩ = some (.int .u64 a0_1) ∧ w13.cell? ⟨gb107, 2, none⟩ = some (.int .u8 a0_2) ∧ w13.cell? ⟨gb107, 3, none⟩ = some (.int .u8 a0_3) ∧ w13.cell? ⟨gb107, 4, none⟩ = some (.int .u8 a0_4) ∧ w13.cell? ⟨gb107, 5, none⟩ = some (.int .u8 a0_5) ∧ w13.cell? ⟨gb107, 6, none⟩ = some (.int .u8 a0_6) ∧ w13.cell? ⟨gb107, 7, none⟩ = some (.int .u8 a0_7) ∧ w13.cell? ⟨gb107, 8, none⟩ = some (.int .u8 a0_8) ∧ w13.cell? ⟨gb107, 9, none⟩ = some (.int .u8 a0_9) ∧ w13.cell? ⟨gb107, 10, none⟩ = some (.int .u8 a0_10) ∧ w13.cell? ⟨gb107, 11, none⟩ = some (.int .u8 a0_11) ∧ w13.cell? ⟨gb107, 12, none⟩ = some (.string a0_12) := hS_
          refine norm_ (a' := ?_) ?_ ?_
          rotate_left
          ·simp only [putAll, Act.put, zA5_, zB5_, zC5_]
           rfl
          refine two_ (i := 3) (j := 8) (Ni := some 10) (Nj := some 15) #[true, true, true, true, true, true, true, true, false, false, false, false] #[true, true, true, false, true, true, true, true, true, false, false, false] rfl rfl rfl rfl (two_of HT_.out (by kernel_rfl)) (by decide) (by decide) (fun K hK => ?_) (fun K hK => ?_)
          ·skip
           have hcv14 := own_string (P := Try.prog) Try.underlying33 Try.underlying5 Try.underlying9 (Kd.own_of_R HO111.out)
           refine value_ (w1 := ?_) (v := ?_) (by rfl) rfl ?_ ?_
           rotate_left 2
           ·go_simp
            constructor
            ·rfl
            ·rfl
           clear hcv14
           refine hK.out _ _ ⟨(blk_cell BK107.out 0).trans rfl, (blk_cell BK107.out 1).trans rfl, (blk_cell BK107.out 2).trans rfl, (blk_cell BK107.out 3).trans rfl, (blk_cell BK107.out 4).trans rfl, (blk_cell BK107.out 5).trans rfl, (blk_cell BK107.out 6).trans rfl, (blk_cell BK107.out 7).trans rfl, (blk_cell BK107.out 8).trans rfl, (blk_cell BK107.out 9).trans rfl, (blk_cell BK107.out 10).trans rfl, (blk_cell BK107.out 11).trans rfl, (blk_cell BK107.out 12).trans rfl⟩ (fun hHeld => ?_)
           clear hK K
           refine norm_ (a' := ?_) ?_ ?_
           rotate_left
           ·show Act.put _ (some 10) _ = _
            simp only [Act.put, zA5_, zB5_, zC5_, i64_w, i32_w]
            rfl
           exact norm_ (by first | (simp only [putAll, Act.put, zA5_, zB5_, zC5_]; done) | (simp only [putAll, Act.put, zA5_, zB5_, zC5_]; rfl)) (hJ2_3 (v110) _ ⟨hHeld, (by (with_reducible repeat (first | apply Kd.R_alloc | apply Kd.R_drewN | apply Kd.R_drew)); exact HO111.out), (by (with_reducible repeat (first | refine blk_drewN ?_ _ | refine blk_drew ?_ | refine blk_alloc ?_ _)); exact BK107.out), (by repeat (first | (with_reducible first | exact HB.out | apply below_alloc | apply pw_below_drewN | apply below_drew1 | refine below_set ?_ GE107.out) | exact HB.out))⟩)
          ·skip
           refine Kd.R_lit_step (Kd.int .u64) _ 23 ?hg (N := 15) ?hd (xs := ([a0_0, a0_1] : List Int)) (inner := [.int .u64 a0_0, .int .u64 a0_1]) (ok := fun _ => True) (okp := fun _ => True) ?hr ?hp (fun _ hk => hk) trivial (Below.refl _ _) (Nat.le_refl _) (by simp) ?_; (case hd => rfl); (case hg => rfl); (case hr => first | (go_simp; done) | (go_simp; rfl)); (case hp => exact (Reps.one (show Kd.M (Kd.int .u64) _ _ _ a0_0 [.int .u64 a0_0] from rfl) (Reps.one (show Kd.M (Kd.int .u64) _ _ _ a0_1 [.int .u64 a0_1] from rfl) (Reps.none _ _))))
           intro v113 w14 ho15 hb hg_ hnew_
           clear hg_ hnew_
           (first | rw [← Ny112.out] at ho15 | (simp only [Int.reduceToNat] at ho15; rw [← Ny112.out] at ho15))
           have n0_ := Aside0.mk (Kd.R_below (by (with_reducible repeat (first | apply Kd.R_alloc | apply Kd.R_drewN | apply Kd.R_drew)); exact HO111.out) hb)
           have n1_ := Aside0.mk (Kd.R_lower ho15 (below_size (by repeat (first | (with_reducible first | exact HB.out | apply below_alloc | apply pw_below_drewN | apply below_drew1 | refine below_set ?_ GE107.out) | exact HB.out))))
           have n2_ := Aside0.mk (blk_below (g := gb107) (o := .cells #[.int .u64 a0_0, .int .u64 a0_1, .int .u8 a0_2, .int .u8 a0_3, .int .u8 a0_4, .int .u8 a0_5, .int .u8 a0_6, .int .u8 a0_7, .int .u8 a0_8, .int .u8 a0_9, .int .u8 a0_10, .int .u8 a0_11, .string a0_12] 27 (0, 0)) (by (with_reducible repeat (first | refine blk_drewN ?_ _ | refine blk_drew ?_ | refine blk_alloc ?_ _)); exact BK107.out) hb)
           have n3_ := Aside0.mk (below_step (by repeat (first | (with_reducible first | exact HB.out | apply below_alloc | apply pw_below_drewN | apply below_drew1 | refine below_set ?_ GE107.out) | exact HB.out)) hb)
           clear HO111
           clear BK107
           clear HB
           have HO111 := n0_
           have HO114 := n1_
           have BK107 := n2_
           have HB := n3_
           clear n0_ n1_ n2_ n3_
           clear hb ho15
           refine hK.out _ _ ⟨(blk_cell BK107.out 0).trans rfl, (blk_cell BK107.out 1).trans rfl, (blk_cell BK107.out 2).trans rfl, (blk_cell BK107.out 3).trans rfl, (blk_cell BK107.out 4).trans rfl, (blk_cell BK107.out 5).trans rfl, (blk_cell BK107.out 6).trans rfl, (blk_cell BK107.out 7).trans rfl, (blk_cell BK107.out 8).trans rfl, (blk_cell BK107.out 9).trans rfl, (blk_cell BK107.out 10).trans rfl, (blk_cell BK107.out 11).trans rfl, (blk_cell BK107.out 12).trans rfl⟩ (fun hHeld => ?_)
           clear hK K
           refine norm_ (a' := ?_) ?_ ?_
           rotate_left
           ·show Act.put _ (some 15) _ = _
            simp only [Act.put, zA5_, zB5_, zC5_, i64_w, i32_w]
            rfl
           exact norm_ (by first | (simp only [putAll, Act.put, zA5_, zB5_, zC5_]; done) | (simp only [putAll, Act.put, zA5_, zB5_, zC5_]; rfl)) (hJ2_8 (v110, v113) _ ⟨hHeld, (by (with_reducible repeat (first | apply Kd.R_alloc | apply Kd.R_drewN | apply Kd.R_drew)); exact HO111.out), (by (with_reducible repeat (first | apply Kd.R_alloc | apply Kd.R_drewN | apply Kd.R_drew)); exact HO114.out), (by (with_reducible repeat (first | refine blk_drewN ?_ _ | refine blk_drew ?_ | refine blk_alloc ?_ _)); exact BK107.out), (by repeat (first | (with_reducible first | exact HB.out | apply below_alloc | apply pw_below_drewN | apply below_drew1 | refine below_set ?_ GE107.out) | exact HB.out))⟩)
        ·skip
         rintro v113 w15 ⟨hS_, h0_, h1_, h2_⟩
         have n0_ : Aside0 (Kd.R (Kd.int .u64) 23 w15 w.heap.size (fun _ => True) v113 y112) := ⟨h0_⟩
         have n1_ : Aside0 (w15.heap[gb107]? = some (.cells #[.int .u64 a0_0, .int .u64 a0_1, .int .u8 a0_2, .int .u8 a0_3, .int .u8 a0_4, .int .u8 a0_5, .int .u8 a0_6, .int .u8 a0_7, .int .u8 a0_8, .int .u8 a0_9, .int .u8 a0_10, .int .u8 a0_11, .string a0_12] 27 (0, 0))) := ⟨h1_⟩
         have n2_ : Aside0 (Below w.heap.size w w15) := ⟨h2_⟩
         clear BK107
         clear HB
         clear h0_ h1_ h2_
         have HO114 := n0_
         have BK107 := n1_
         have HB := n2_
         clear n0_ n1_ n2_
         have hHeld : w15.cell? ⟨gb107, 0, none⟩ = some (.int .u64 a0_0) ∧ w15.cell? ⟨gb107, 1, none⟩ = some (.int .u64 a0_1) ∧ w15.cell? ⟨gb107, 2, none⟩ = some (.int .u8 a0_2) ∧ w15.cell? ⟨gb107, 3, none⟩ = some (.int .u8 a0_3) ∧ w15.cell? ⟨gb107, 4, none⟩ = some (.int .u8 a0_4) ∧ w15.cell? ⟨gb107, 5, none⟩ = some (.int .u8 a0_5) ∧ w15.cell? ⟨gb107, 6, none⟩ = some (.int .u8 a0_6) ∧ w15.cell? ⟨gb107, 7, none⟩ = some (.int .u8 a0_7) ∧ w15.cell? ⟨gb107, 8, none⟩ = some (.int .u8 a0_8) ∧ w15.cell? ⟨gb107, 9, none⟩ = some (.int .u8 a0_9) ∧ w15.cell? ⟨gb107, 10, none⟩ = some (.int .u8 a0_10) ∧ w15.cell? ⟨gb107, 11, none⟩ = some (.int .u8 a0_11) ∧ w15.cell? ⟨gb107, 12, none⟩ = some (.string a0_12) := hS_
         refine norm_ (a' := ?_) ?_ ?_
         rotate_left
         ·simp only [putAll, Act.put, zA5_, zB5_, zC5_]
          rfl
         refine one_ (i := 2) (N := some 9) (bq_5_ 12 1015) rfl rfl (one_of HT_.out (by kernel_rfl)) (by decide) (fun K hK => ?_)
         refine Kd.R_lit_step (Kd.int .u8) _ 5 ?hg (N := 9) ?hd (xs := ([a0_2] : List Int)) (inner := [.int .u8 a0_2]) (ok := fun _ => True) (okp := fun _ => True) ?hr ?hp (fun _ hk => hk) trivial (Below.refl _ _) (Nat.le_refl _) (by simp) ?_; (case hd => rfl); (case hg => rfl); (case hr => first | (go_simp; done) | (go_simp; rfl)); (case hp => exact (Reps.one (show Kd.M (Kd.int .u8) _ _ _ a0_2 [.int .u8 a0_2] from rfl) (Reps.none _ _)))
         intro v110 w16 ho17 hb hg_ hnew_
         clear hg_ hnew_
         (first | rw [← Ny109.out] at ho17 | (simp only [Int.reduceToNat] at ho17; rw [← Ny109.out] at ho17))
         have n0_ := Aside0.mk (Kd.R_below (by (with_reducible repeat (first | apply Kd.R_alloc | apply Kd.R_drewN | apply Kd.R_drew)); exact HO114.out) hb)
         have n1_ := Aside0.mk (Kd.R_lower ho17 (below_size (by repeat (first | (with_reducible first | exact HB.out | apply below_alloc | apply pw_below_drewN | apply below_drew1 | refine below_set ?_ GE107.out) | exact HB.out))))
         have n2_ := Aside0.mk (blk_below (g := gb107) (o := .cells #[.int .u64 a0_0, .int .u64 a0_1, .int .u8 a0_2, .int .u8 a0_3, .int .u8 a0_4, .int .u8 a0_5, .int .u8 a0_6, .int .u8 a0_7, .int .u8 a0_8, .int .u8 a0_9, .int .u8 a0_10, .int .u8 a0_11, .string a0_12] 27 (0, 0)) (by (with_reducible repeat (first | refine blk_drewN ?_ _ | refine blk_drew ?_ | refine blk_alloc ?_ _)); exact BK107.out) hb)
         have n3_ := Aside0.mk (below_step (by repeat (first | (with_reducible first | exact HB.out | apply below_alloc | apply pw_below_drewN | apply below_drew1 | refine below_set ?_ GE107.out) | exact HB.out)) hb)
         clear HO114
         clear BK107
         clear HB
         have HO114 := n0_
         have HO111 := n1_
         have BK107 := n2_
         have HB := n3_
         clear n0_ n1_ n2_ n3_
         clear hb ho17
         refine hK.out _ _ ⟨(blk_cell BK107.out 0).trans rfl, (blk_cell BK107.out 1).trans rfl, (blk_cell BK107.out 2).trans rfl, (blk_cell BK107.out 3).trans rfl, (blk_cell BK107.out 4).trans rfl, (blk_cell BK107.out 5).trans rfl, (blk_cell BK107.out 6).trans rfl, (blk_cell BK107.out 7).trans rfl, (blk_cell BK107.out 8).trans rfl, (blk_cell BK107.out 9).trans rfl, (blk_cell BK107.out 10).trans rfl, (blk_cell BK107.out 11).trans rfl, (blk_cell BK107.out 12).trans rfl⟩ (fun hHeld => ?_)
         clear hK K
         refine norm_ (a' := ?_) ?_ ?_
         rotate_left
         ·show Act.put _ (some 9) _ = _
          simp only [Act.put, zA5_, zB5_, zC5_, i64_w, i32_w]
          rfl
         exact norm_ (by first | (simp only [putAll, Act.put, zA5_, zB5_, zC5_]; done) | (simp only [putAll, Act.put, zA5_, zB5_, zC5_]; rfl)) (hJ2_8_9 (v110, v113) _ ⟨hHeld, (by (with_reducible repeat (first | apply Kd.R_alloc | apply Kd.R_drewN | apply Kd.R_drew)); exact HO111.out), (by (with_reducible repeat (first | apply Kd.R_alloc | apply Kd.R_drewN | apply Kd.R_drew)); exact HO114.out), (by (with_reducible repeat (first | refine blk_drewN ?_ _ | refine blk_drew ?_ | refine blk_alloc ?_ _)); exact BK107.out), (by repeat (first | (with_reducible first | exact HB.out | apply below_alloc | apply pw_below_drewN | apply below_drew1 | refine below_set ?_ GE107.out) | exact HB.out))⟩)
       ·skip
        rintro ⟨v110, v113⟩ w15 ⟨hS_, h0_, h1_, h2_, h3_⟩
        have n0_ : Aside0 (Kd.R (Kd.int .u8) 5 w15 w.heap.size (fun _ => True) v110 y109) := ⟨h0_⟩
        have n1_ : Aside0 (Kd.R (Kd.int .u64) 23 w15 w.heap.size (fun _ => True) v113 y112) := ⟨h1_⟩
        have n2_ : Aside0 (w15.heap[gb107]? = some (.cells #[.int .u64 a0_0, .int .u64 a0_1, .int .u8 a0_2, .int .u8 a0_3, .int .u8 a0_4, .int .u8 a0_5, .int .u8 a0_6, .int .u8 a0_7, .int .u8 a0_8, .int .u8 a0_9, .int .u8 a0_10, .int .u8 a0_11, .string a0_12] 27 (0, 0))) := ⟨h2_⟩
        have n3_ : Aside0 (Below w.heap.size w w15) := ⟨h3_⟩
        clear BK107
        clear HB
        clear h0_ h1_ h2_ h3_
        have HO111 := n0_
        have HO114 := n1_
        have BK107 := n2_
        have HB := n3_
        clear n0_ n1_ n2_ n3_
        have hHeld : w15.cell? ⟨gb107, 0, none⟩ = some (.int .u64 a0_0) ∧ w15.cell? ⟨gb107, 1, none⟩ = some (.int .u64 a0_1) ∧ w15.cell? ⟨gb107, 2, none⟩ = some (.int .u8 a0_2) ∧ w15.cell? ⟨gb107, 3, none⟩ = some (.int .u8 a0_3) ∧ w15.cell? ⟨gb107, 4, none⟩ = some (.int .u8 a0_4) ∧ w15.cell? ⟨gb107, 5, none⟩ = some (.int .u8 a0_5) ∧ w15.cell? ⟨gb107, 6, none⟩ = some (.int .u8 a0_6) ∧ w15.cell? ⟨gb107, 7, none⟩ = some (.int .u8 a0_7) ∧ w15.cell? ⟨gb107, 8, none⟩ = some (.int .u8 a0_8) ∧ w15.cell? ⟨gb107, 9, none⟩ = some (.int .u8 a0_9) ∧ w15.cell? ⟨gb107, 10, none⟩ = some (.int .u8 a0_10) ∧ w15.cell? ⟨gb107, 11, none⟩ = some (.int .u8 a0_11) ∧ w15.cell? ⟨gb107, 12, none⟩ = some (.string a0_12) := hS_
        refine norm_ (a' := ?_) ?_ ?_
        rotate_left
        ·simp only [putAll, Act.put, zA5_, zB5_, zC5_]
         rfl
        refine two_ (i := 3) (j := 9) (Ni := some 10) (Nj := some 16) #[true, true, true, true, true, true, true, true, true, false, false, false] #[true, true, true, false, true, true, true, true, true, true, false, false] rfl rfl rfl rfl (two_of HT_.out (by kernel_rfl)) (by decide) (by decide) (fun K hK => ?_) (fun K hK => ?_)
        ·skip
         have hcv16 := own_string (P := Try.prog) Try.underlying33 Try.underlying5 Try.underlying9 (Kd.own_of_R HO111.out)
         refine value_ (w1 := ?_) (v := ?_) (by rfl) rfl ?_ ?_
         rotate_left 2
         ·go_simp
          constructor
          ·rfl
          ·rfl
         clear hcv16
         refine hK.out _ _ ⟨(blk_cell BK107.out 0).trans rfl, (blk_cell BK107.out 1).trans rfl, (blk_cell BK107.out 2).trans rfl, (blk_cell BK107.out 3).trans rfl, (blk_cell BK107.out 4).trans rfl, (blk_cell BK107.out 5).trans rfl, (blk_cell BK107.out 6).trans rfl, (blk_cell BK107.out 7).trans rfl, (blk_cell BK107.out 8).trans rfl, (blk_cell BK107.out 9).trans rfl, (blk_cell BK107.out 10).trans rfl, (blk_cell BK107.out 11).trans rfl, (blk_cell BK107.out 12).trans rfl⟩ (fun hHeld => ?_)
         clear hK K
         refine norm_ (a' := ?_) ?_ ?_
         rotate_left
         ·show Act.put _ (some 10) _ = _
          simp only [Act.put, zA5_, zB5_, zC5_, i64_w, i32_w]
          rfl
         exact norm_ (by first | (simp only [putAll, Act.put, zA5_, zB5_, zC5_]; done) | (simp only [putAll, Act.put, zA5_, zB5_, zC5_]; rfl)) (hJ2_3_8 (v110, v113) _ ⟨hHeld, (by (with_reducible repeat (first | apply Kd.R_alloc | apply Kd.R_drewN | apply Kd.R_drew)); exact HO111.out), (by (with_reducible repeat (first | apply Kd.R_alloc | apply Kd.R_drewN | apply Kd.R_drew)); exact HO114.out), (by (with_reducible repeat (first | refine blk_drewN ?_ _ | refine blk_drew ?_ | refine blk_alloc ?_ _)); exact BK107.out), (by repeat (first | (with_reducible first | exact HB.out | apply below_alloc | apply pw_below_drewN | apply below_drew1 | refine below_set ?_ GE107.out) | exact HB.out))⟩)
        ·skip
         obtain ⟨Ao16, co16, eo16⟩ := Kd.R_slice HO114.out
         (first | subst eo16 | (injection eo16 with f1_ f2_ f3_; have f4_ := f1_.symm; have f5_ := f3_.symm; clear f1_ f2_ f3_; subst f4_; subst f5_))
         refine goes_ Try.func20 (by kernel_rfl) rfl #[.slice Ao16 y112.length co16] (by rfl) rfl rfl (by (try simp only [List.map_toArray, List.map_cons, List.map_nil]); first | done | rfl | (simp only [List.length_drop, List.length_take]; rfl)) ?_
         with_reducible refine (num_V.calls _ _ y112 t115 _ ?side1 ?side2 A4.out).mono ?_
         (case side1 => repeat (first | exact (Kd.R_reads' HO114.out).2.2 | (with_reducible refine Kd.C_alloc ?_ _) | (with_reducible refine Kd.C_drewN ?_ _) | (with_reducible refine Kd.C_drew ?_)))
         (case side2 => exact (Kd.R_reads' HO114.out).2.1)
         rintro e w17 ⟨rfl, hb⟩
         refine ⟨_, rfl, ?_⟩
         have n0_ := Aside0.mk (Kd.R_below (by (with_reducible repeat (first | apply Kd.R_alloc | apply Kd.R_drewN | apply Kd.R_drew)); exact HO111.out) hb)
         have n1_ := Aside0.mk (Kd.R_below (by (with_reducible repeat (first | apply Kd.R_alloc | apply Kd.R_drewN | apply Kd.R_drew)); exact HO114.out) hb)
         have n2_ := Aside0.mk (blk_below (g := gb107) (o := .cells #[.int .u64 a0_0, .int .u64 a0_1, .int .u8 a0_2, .int .u8 a0_3, .int .u8 a0_4, .int .u8 a0_5, .int .u8 a0_6, .int .u8 a0_7, .int .u8 a0_8, .int .u8 a0_9, .int .u8 a0_10, .int .u8 a0_11, .string a0_12] 27 (0, 0)) (by (with_reducible repeat (first | refine blk_drewN ?_ _ | refine blk_drew ?_ | refine blk_alloc ?_ _)); exact BK107.out) hb)
         have n3_ := Aside0.mk (below_step (by repeat (first | (with_reducible first | exact HB.out | apply below_alloc | apply pw_below_drewN | apply below_drew1 | refine below_set ?_ GE107.out) | exact HB.out)) hb)
         clear HO111
         clear HO114
         clear BK107
         clear HB
         have HO111 := n0_
         have HO114 := n1_
         have BK107 := n2_
         have HB := n3_
         clear n0_ n1_ n2_ n3_
         (try clear hb)
         (try clear hb2)
         (try clear hk)
         (try clear hi)
         refine hK.out _ _ ⟨(blk_cell BK107.out 0).trans rfl, (blk_cell BK107.out 1).trans rfl, (blk_cell BK107.out 2).trans rfl, (blk_cell BK107.out 3).trans rfl, (blk_cell BK107.out 4).trans rfl, (blk_cell BK107.out 5).trans rfl, (blk_cell BK107.out 6).trans rfl, (blk_cell BK107.out 7).trans rfl, (blk_cell BK107.out 8).trans rfl, (blk_cell BK107.out 9).trans rfl, (blk_cell BK107.out 10).trans rfl, (blk_cell BK107.out 11).trans rfl, (blk_cell BK107.out 12).trans rfl⟩ (fun hHeld => ?_)
         clear hK K
         refine norm_ (a' := ?_) ?_ ?_
         rotate_left
         ·show Act.put _ (some 16) _ = _
          simp only [Act.put, zA5_, zB5_, zC5_, i64_w, i32_w]
          rfl
         exact norm_ (by first | (simp only [putAll, Act.put, zA5_, zB5_, zC5_]; done) | (simp only [putAll, Act.put, zA5_, zB5_, zC5_]; rfl)) (hJ2_8_9 (v110, .slice Ao16 y112.length co16) _ ⟨hHeld, (by (with_reducible repeat (first | apply Kd.R_alloc | apply Kd.R_drewN | apply Kd.R_drew)); exact HO111.out), (by (with_reducible repeat (first | apply Kd.R_alloc | apply Kd.R_drewN | apply Kd.R_drew)); exact HO114.out), (by (with_reducible repeat (first | refine blk_drewN ?_ _ | refine blk_drew ?_ | refine blk_alloc ?_ _)); exact BK107.out), (by repeat (first | (with_reducible first | exact HB.out | apply below_alloc | apply pw_below_drewN | apply below_drew1 | refine below_set ?_ GE107.out) | exact HB.out))⟩)
      ·skip
       rintro v110 w14 ⟨hS_, h0_, h1_, h2_⟩
       have n0_ : Aside0 (Kd.R (Kd.int .u8) 5 w14 w.heap.size (fun _ => True) v110 y109) := ⟨h0_⟩
       have n1_ : Aside0 (w14.heap[gb107]? = some (.cells #[.int .u64 a0_0, .int .u64 a0_1, .int .u8 a0_2, .int .u8 a0_3, .int .u8 a0_4, .int .u8 a0_5, .int .u8 a0_6, .int .u8 a0_7, .int .u8 a0_8, .int .u8 a0_9, .int .u8 a0_10, .int .u8 a0_11, .string a0_12] 27 (0, 0))) := ⟨h1_⟩
       have n2_ : Aside0 (Below w.heap.size w w14) := ⟨h2_⟩
       clear BK107
       clear HB
       clear h0_ h1_ h2_
       have HO111 := n0_
       have BK107 := n1_
       have HB := n2_
       clear n0_ n1_ n2_
       have hHeld : w14.cell? ⟨gb107, 0, none⟩ = some (.int .u64 a0_0) ∧ w14.cell? ⟨gb107, 1, none⟩ = some (.int .u64 a0_1) ∧ w14.cell? ⟨gb107, 2, none⟩ = some (.int .u8 a0_2) ∧ w14.cell? ⟨gb107, 3, none⟩ = some (.int .u8 a0_3) ∧ w14.cell? ⟨gb107, 4, none⟩ = some (.int .u8 a0_4) ∧ w14.cell? ⟨gb107, 5, none⟩ = some (.int .u8 a0_5) ∧ w14.cell? ⟨gb107, 6, none⟩ = some (.int .u8 a0_6) ∧ w14.cell? ⟨gb107, 7, none⟩ = some (.int .u8 a0_7) ∧ w14.cell? ⟨gb107, 8, none⟩ = some (.int .u8 a0_8) ∧ w14.cell? ⟨gb107, 9, none⟩ = some (.int .u8 a0_9) ∧ w14.cell? ⟨gb107, 10, none⟩ = some (.int .u8 a0_10) ∧ w14.cell? ⟨gb107, 11, none⟩ = some (.int .u8 a0_11) ∧ w14.cell? ⟨gb107, 12, none⟩ = some (.string a0_12) := hS_
       refine norm_ (a' := ?_) ?_ ?_
       rotate_left
       ·simp only [putAll, Act.put, zA5_, zB5_, zC5_]
        rfl
       refine one_ (i := 8) (N := some 15) (bq_5_ 12 511) rfl rfl (one_of HT_.out (by kernel_rfl)) (by decide) (fun K hK => ?_)
       refine Kd.R_lit_step (Kd.int .u64) _ 23 ?hg (N := 15) ?hd (xs := ([a0_0, a0_1] : List Int)) (inner := [.int .u64 a0_0, .int .u64 a0_1]) (ok := fun _ => True) (okp := fun _ => True) ?hr ?hp (fun _ hk => hk) trivial (Below.refl _ _) (Nat.le_refl _) (by simp) ?_; (case hd => rfl); (case hg => rfl); (case hr => first | (go_simp; done) | (go_simp; rfl)); (case hp => exact (Reps.one (show Kd.M (Kd.int .u64) _ _ _ a0_0 [.int .u64 a0_0] from rfl) (Reps.one (show Kd.M (Kd.int .u64) _ _ _ a0_1 [.int .u64 a0_1] from rfl) (Reps.none _ _))))
       intro v113 w15 ho16 hb hg_ hnew_
       clear hg_ hnew_
       (first | rw [← Ny112.out] at ho16 | (simp only [Int.reduceToNat] at ho16; rw [← Ny112.out] at ho16))
       have n0_ := Aside0.mk (Kd.R_below (by (with_reducible repeat (first | apply Kd.R_alloc | apply Kd.R_drewN | apply Kd.R_drew)); exact HO111.out) hb)
       have n1_ := Aside0.mk (Kd.R_lower ho16 (below_size (by repeat (first | (with_reducible first | exact HB.out | apply below_alloc | apply pw_below_drewN | apply below_drew1 | refine below_set ?_ GE107.out) | exact HB.out))))
       have n2_ := Aside0.mk (blk_below (g := gb107) (o := .cells #[.int .u64 a0_0, .int .u64 a0_1, .int .u8 a0_2, .int .u8 a0_3, .int .u8 a0_4, .int .u8 a0_5, .int .u8 a0_6, .int .u8 a0_7, .int .u8 a0_8, .int .u8 a0_9, .int .u8 a0_10, .int .u8 a0_11, .string a0_12] 27 (0, 0)) (by (with_reducible repeat (first | refine blk_drewN ?_ _ | refine blk_drew ?_ | refine blk_alloc ?_ _)); exact BK107.out) hb)
       have n3_ := Aside0.mk (below_step (by repeat (first | (with_reducible first | exact HB.out | apply below_alloc | apply pw_below_drewN | apply below_drew1 | refine below_set ?_ GE107.out) | exact HB.out)) hb)
       clear HO111
       clear BK107
       clear HB
       have HO111 := n0_
       have HO114 := n1_
       have BK107 := n2_
       have HB := n3_
       clear n0_ n1_ n2_ n3_
       clear hb ho16
       refine hK.out _ _ ⟨(blk_cell BK107.out 0).trans rfl, (blk_cell BK107.out 1).trans rfl, (blk_cell BK107.out 2).trans rfl, (blk_cell BK107.out 3).trans rfl, (blk_cell BK107.out 4).trans rfl, (blk_cell BK107.out 5).trans rfl, (blk_cell BK107.out 6).trans rfl, (blk_cell BK107.out 7).trans rfl, (blk_cell BK107.out 8).trans rfl, (blk_cell BK107.out 9).trans rfl, (blk_cell BK107.out 10).trans rfl, (blk_cell BK107.out 11).trans rfl, (blk_cell BK107.out 12).trans rfl⟩ (fun hHeld => ?_)
       clear hK K
       refine norm_ (a' := ?_) ?_ ?_
       rotate_left
       ·show Act.put _ (some 15) _ = _
        simp only [Act.put, zA5_, zB5_, zC5_, i64_w, i32_w]
        rfl
       exact norm_ (by first | (simp only [putAll, Act.put, zA5_, zB5_, zC5_]; done) | (simp only [putAll, Act.put, zA5_, zB5_, zC5_]; rfl)) (hJ2_3_8 (v110, v113) _ ⟨hHeld, (by (with_reducible repeat (first | apply Kd.R_alloc | apply Kd.R_drewN | apply Kd.R_drew)); exact HO111.out), (by (with_reducible repeat (first | apply Kd.R_alloc | apply Kd.R_drewN | apply Kd.R_drew)); exact HO114.out), (by (with_reducible repeat (first | refine blk_drewN ?_ _ | refine blk_drew ?_ | refine blk_alloc ?_ _)); exact BK107.out), (by repeat (first | (with_reducible first | exact HB.out | apply below_alloc | apply pw_below_drewN | apply below_drew1 | refine below_set ?_ GE107.out) | exact HB.out))⟩)
     ·skip
      rintro ⟨v110, v113⟩ w17 ⟨hS_, h0_, h1_, h2_, h3_⟩
      have n0_ : Aside0 (Kd.R (Kd.int .u8) 5 w17 w.heap.size (fun _ => True) v110 y109) := ⟨h0_⟩
      have n1_ : Aside0 (Kd.R (Kd.int .u64) 23 w17 w.heap.size (fun _ => True) v113 y112) := ⟨h1_⟩
      have n2_ : Aside0 (w17.heap[gb107]? = some (.cells #[.int .u64 a0_0, .int .u64 a0_1, .int .u8 a0_2, .int .u8 a0_3, .int .u8 a0_4, .int .u8 a0_5, .int .u8 a0_6, .int .u8 a0_7, .int .u8 a0_8, .int .u8 a0_9, .int .u8 a0_10, .int .u8 a0_11, .string a0_12] 27 (0, 0))) := ⟨h2_⟩
      have n3_ : Aside0 (Below w.heap.size w w17) := ⟨h3_⟩
      clear BK107
      clear HB
      clear h0_ h1_ h2_ h3_
      have HO111 := n0_
      have HO114 := n1_
      have BK107 := n2_
      have HB := n3_
      clear n0_ n1_ n2_ n3_
      have hHeld : w17.cell? ⟨gb107, 0, none⟩ = some (.int .u64 a0_0) ∧ w17.cell? ⟨gb107, 1, none⟩ = some (.int .u64 a0_1) ∧ w17.cell? ⟨gb107, 2, none⟩ = some (.int .u8 a0_2) ∧ w17.cell? ⟨gb107, 3, none⟩ = some (.int .u8 a0_3) ∧ w17.cell? ⟨gb107, 4, none⟩ = some (.int .u8 a0_4) ∧ w17.cell? ⟨gb107, 5, none⟩ = some (.int .u8 a0_5) ∧ w17.cell? ⟨gb107, 6, none⟩ = some (.int .u8 a0_6) ∧ w17.cell? ⟨gb107, 7, none⟩ = some (.int .u8 a0_7) ∧ w17.cell? ⟨gb107, 8, none⟩ = some (.int .u8 a0_8) ∧ w17.cell? ⟨gb107, 9, none⟩ = some (.int .u8 a0_9) ∧ w17.cell? ⟨gb107, 10, none⟩ = some (.int .u8 a0_10) ∧ w17.cell? ⟨gb107, 11, none⟩ = some (.int .u8 a0_11) ∧ w17.cell? ⟨gb107, 12, none⟩ = some (.string a0_12) := hS_
      refine norm_ (a' := ?_) ?_ ?_
      rotate_left
      ·simp only [putAll, Act.put, zA5_, zB5_, zC5_]
       rfl
      refine one_ (i := 3) (N := some 10) (bq_5_ 12 1023) rfl rfl (one_of HT_.out (by kernel_rfl)) (by decide) (fun K hK => ?_)
      have hcv18 := own_string (P := Try.prog) Try.underlying33 Try.underlying5 Try.underlying9 (Kd.own_of_R HO111.out)
      refine value_ (w1 := ?_) (v := ?_) (by rfl) rfl ?_ ?_
      rotate_left 2
      ·go_simp
       constructor
       ·rfl
       ·rfl
      clear hcv18
      refine hK.out _ _ ⟨(blk_cell BK107.out 0).trans rfl, (blk_cell BK107.out 1).trans rfl, (blk_cell BK107.out 2).trans rfl, (blk_cell BK107.out 3).trans rfl, (blk_cell BK107.out 4).trans rfl, (blk_cell BK107.out 5).trans rfl, (blk_cell BK107.out 6).trans rfl, (blk_cell BK107.out 7).trans rfl, (blk_cell BK107.out 8).trans rfl, (blk_cell BK107.out 9).trans rfl, (blk_cell BK107.out 10).trans rfl, (blk_cell BK107.out 11).trans rfl, (blk_cell BK107.out 12).trans rfl⟩ (fun hHeld => ?_)
      clear hK K
      refine norm_ (a' := ?_) ?_ ?_
      rotate_left
      ·show Act.put _ (some 10) _ = _
       simp only [Act.put, zA5_, zB5_, zC5_, i64_w, i32_w]
       rfl
      exact norm_ (by first | (simp only [putAll, Act.put, zA5_, zB5_, zC5_]; done) | (simp only [putAll, Act.put, zA5_, zB5_, zC5_]; rfl)) (hJ2_3_8_9 (v110, v113) _ ⟨hHeld, (by (with_reducible repeat (first | apply Kd.R_alloc | apply Kd.R_drewN | apply Kd.R_drew)); exact HO111.out), (by (with_reducible repeat (first | apply Kd.R_alloc | apply Kd.R_drewN | apply Kd.R_drew)); exact HO114.out), (by (with_reducible repeat (first | refine blk_drewN ?_ _ | refine blk_drew ?_ | refine blk_alloc ?_ _)); exact BK107.out), (by repeat (first | (with_reducible first | exact HB.out | apply below_alloc | apply pw_below_drewN | apply below_drew1 | refine below_set ?_ GE107.out) | exact HB.out))⟩)
    ·skip
     rintro ⟨v110, v113⟩ w16 ⟨hS_, h0_, h1_, h2_, h3_⟩
     have n0_ : Aside0 (Kd.R (Kd.int .u8) 5 w16 w.heap.size (fun _ => True) v110 y109) := ⟨h0_⟩
     have n1_ : Aside0 (Kd.R (Kd.int .u64) 23 w16 w.heap.size (fun _ => True) v113 y112) := ⟨h1_⟩
     have n2_ : Aside0 (w16.heap[gb107]? = some (.cells #[.int .u64 a0_0, .int .u64 a0_1, .int .u8 a0_2, .int .u8 a0_3, .int .u8 a0_4, .int .u8 a0_5, .int .u8 a0_6, .int .u8 a0_7, .int .u8 a0_8, .int .u8 a0_9, .int .u8 a0_10, .int .u8 a0_11, .string a0_12] 27 (0, 0))) := ⟨h2_⟩
     have n3_ : Aside0 (Below w.heap.size w w16) := ⟨h3_⟩
     clear BK107
     clear HB
     clear h0_ h1_ h2_ h3_
     have HO111 := n0_
     have HO114 := n1_
     have BK107 := n2_
     have HB := n3_
     clear n0_ n1_ n2_ n3_
     have hHeld : w16.cell? ⟨gb107, 0, none⟩ = some (.int .u64 a0_0) ∧ w16.cell? ⟨gb107, 1, none⟩ = some (.int .u64 a0_1) ∧ w16.cell? ⟨gb107, 2, none⟩ = some (.int .u8 a0_2) ∧ w16.cell? ⟨gb107, 3, none⟩ = some (.int .u8 a0_3) ∧ w16.cell? ⟨gb107, 4, none⟩ = some (.int .u8 a0_4) ∧ w16.cell? ⟨gb107, 5, none⟩ = some (.int .u8 a0_5) ∧ w16.cell? ⟨gb107, 6, none⟩ = some (.int .u8 a0_6) ∧ w16.cell? ⟨gb107, 7, none⟩ = some (.int .u8 a0_7) ∧ w16.cell? ⟨gb107, 8, none⟩ = some (.int .u8 a0_8) ∧ w16.cell? ⟨gb107, 9, none⟩ = some (.int .u8 a0_9) ∧ w16.cell? ⟨gb107, 10, none⟩ = some (.int .u8 a0_10) ∧ w16.cell? ⟨gb107, 11, none⟩ = some (.int .u8 a0_11) ∧ w16.cell? ⟨gb107, 12, none⟩ = some (.string a0_12) := hS_
     obtain ⟨Ao17, co17, eo17⟩ := Kd.R_slice HO114.out
     (first | subst eo17 | (injection eo17 with f1_ f2_ f3_; have f4_ := f1_.symm; have f5_ := f3_.symm; clear f1_ f2_ f3_; subst f4_; subst f5_))
     refine norm_ (a' := ?_) ?_ ?_
     rotate_left
     ·simp only [putAll, Act.put, zA5_, zB5_, zC5_]
      rfl
     refine one_ (i := 9) (N := some 16) (bq_5_ 12 1023) rfl rfl (one_of HT_.out (by kernel_rfl)) (by decide) (fun K hK => ?_)
     refine goes_ Try.func20 (by kernel_rfl) rfl #[.slice Ao17 y112.length co17] (by rfl) rfl rfl (by (try simp only [List.map_toArray, List.map_cons, List.map_nil]); first | done | rfl | (simp only [List.length_drop, List.length_take]; rfl)) ?_
     with_reducible refine (num_V.calls _ _ y112 t115 _ ?side1 ?side2 A4.out).mono ?_
     (case side1 => repeat (first | exact (Kd.R_reads' HO114.out).2.2 | (with_reducible refine Kd.C_alloc ?_ _) | (with_reducible refine Kd.C_drewN ?_ _) | (with_reducible refine Kd.C_drew ?_)))
     (case side2 => exact (Kd.R_reads' HO114.out).2.1)
     rintro e w18 ⟨rfl, hb⟩
     refine ⟨_, rfl, ?_⟩
     have n0_ := Aside0.mk (Kd.R_below (by (with_reducible repeat (first | apply Kd.R_alloc | apply Kd.R_drewN | apply Kd.R_drew)); exact HO111.out) hb)
     have n1_ := Aside0.mk (Kd.R_below (by (with_reducible repeat (first | apply Kd.R_alloc | apply Kd.R_drewN | apply Kd.R_drew)); exact HO114.out) hb)
     have n2_ := Aside0.mk (blk_below (g := gb107) (o := .cells #[.int .u64 a0_0, .int .u64 a0_1, .int .u8 a0_2, .int .u8 a0_3, .int .u8 a0_4, .int .u8 a0_5, .int .u8 a0_6, .int .u8 a0_7, .int .u8 a0_8, .int .u8 a0_9, .int .u8 a0_10, .int .u8 a0_11, .string a0_12] 27 (0, 0)) (by (with_reducible repeat (first | refine blk_drewN ?_ _ | refine blk_drew ?_ | refine blk_alloc ?_ _)); exact BK107.out) hb)
     have n3_ := Aside0.mk (below_step (by repeat (first | (with_reducible first | exact HB.out | apply below_alloc | apply pw_below_drewN | apply below_drew1 | refine below_set ?_ GE107.out) | exact HB.out)) hb)
     clear HO111
     clear HO114
     clear BK107
     clear HB
     have HO111 := n0_
     have HO114 := n1_
     have BK107 := n2_
     have HB := n3_
     clear n0_ n1_ n2_ n3_
     (try clear hb)
     (try clear hb2)
     (try clear hk)
     (try clear hi)
     refine hK.out _ _ ⟨(blk_cell BK107.out 0).trans rfl, (blk_cell BK107.out 1).trans rfl, (blk_cell BK107.out 2).trans rfl, (blk_cell BK107.out 3).trans rfl, (blk_cell BK107.out 4).trans rfl, (blk_cell BK107.out 5).trans rfl, (blk_cell BK107.out 6).trans rfl, (blk_cell BK107.out 7).trans rfl, (blk_cell BK107.out 8).trans rfl, (blk_cell BK107.out 9).trans rfl, (blk_cell BK107.out 10).trans rfl, (blk_cell BK107.out 11).trans rfl, (blk_cell BK107.out 12).trans rfl⟩ (fun hHeld => ?_)
     clear hK K
     refine norm_ (a' := ?_) ?_ ?_
     rotate_left
     ·show Act.put _ (some 16) _ = _
      simp only [Act.put, zA5_, zB5_, zC5_, i64_w, i32_w]
      rfl
     exact norm_ (by first | (simp only [putAll, Act.put, zA5_, zB5_, zC5_]; done) | (simp only [putAll, Act.put, zA5_, zB5_, zC5_]; rfl)) (hJ2_3_8_9 (v110, .slice Ao17 y112.length co17) _ ⟨hHeld, (by (with_reducible repeat (first | apply Kd.R_alloc | apply Kd.R_drewN | apply Kd.R_drew)); exact HO111.out), (by (with_reducible repeat (first | apply Kd.R_alloc | apply Kd.R_drewN | apply Kd.R_drew)); exact HO114.out), (by (with_reducible repeat (first | refine blk_drewN ?_ _ | refine blk_drew ?_ | refine blk_alloc ?_ _)); exact BK107.out), (by repeat (first | (with_reducible first | exact HB.out | apply below_alloc | apply pw_below_drewN | apply below_drew1 | refine below_set ?_ GE107.out) | exact HB.out))⟩)
   rintro ⟨v110, v113⟩ w18 ⟨hS_, h0_, h1_, h2_, h3_⟩
   have n0_ : Aside0 (Kd.R (Kd.int .u8) 5 w18 w.heap.size (fun _ => True) v110 y109) := ⟨h0_⟩
   have n1_ : Aside0 (Kd.R (Kd.int .u64) 23 w18 w.heap.size (fun _ => True) v113 y112) := ⟨h1_⟩
   have n2_ : Aside0 (w18.heap[gb107]? = some (.cells #[.int .u64 a0_0, .int .u64 a0_1, .int .u8 a0_2, .int .u8 a0_3, .int .u8 a0_4, .int .u8 a0_5, .int .u8 a0_6, .int .u8 a0_7, .int .u8 a0_8, .int .u8 a0_9, .int .u8 a0_10, .int .u8 a0_11, .string a0_12] 27 (0, 0))) := ⟨h2_⟩
   have n3_ : Aside0 (Below w.heap.size w w18) := ⟨h3_⟩
   clear BK107
   clear HB
   clear h0_ h1_ h2_ h3_
   have HO111 := n0_
   have HO114 := n1_
   have BK107 := n2_
   have HB := n3_
   clear n0_ n1_ n2_ n3_
   have hHeld : w18.cell? ⟨gb107, 0, none⟩ = some (.int .u64 a0_0) ∧ w18.cell? ⟨gb107, 1, none⟩ = some (.int .u64 a0_1) ∧ w18.cell? ⟨gb107, 2, none⟩ = some (.int .u8 a0_2) ∧ w18.cell? ⟨gb107, 3, none⟩ = some (.int .u8 a0_3) ∧ w18.cell? ⟨gb107, 4, none⟩ = some (.int .u8 a0_4) ∧ w18.cell? ⟨gb107, 5, none⟩ = some (.int .u8 a0_5) ∧ w18.cell? ⟨gb107, 6, none⟩ = some (.int .u8 a0_6) ∧ w18.cell? ⟨gb107, 7, none⟩ = some (.int .u8 a0_7) ∧ w18.cell? ⟨gb107, 8, none⟩ = some (.int .u8 a0_8) ∧ w18.cell? ⟨gb107, 9, none⟩ = some (.int .u8 a0_9) ∧ w18.cell? ⟨gb107, 10, none⟩ = some (.int .u8 a0_10) ∧ w18.cell? ⟨gb107, 11, none⟩ = some (.int .u8 a0_11) ∧ w18.cell? ⟨gb107, 12, none⟩ = some (.string a0_12) := hS_
   refine norm_ (a' := ?_) ?_ ?_
   rotate_left
   ·simp only [putAll, Act.put, zA5_, zB5_, zC5_]
    rfl
   refine pure_ (i := 10) (N := some 17) (v := ?_) (a' := ?_) (bq_5_ 12 2047) rfl rfl (any_of HT_.out (by kernel_rfl)) (fun _ _ _ h => h) (Or.inl ⟨by rfl, ?_⟩) ?_ ?_
   rotate_left
   ·intro w'
    go_simp
    with_reducible rfl
   rotate_left
   ·simp only [Act.put, zA5_, zB5_, zC5_, i64_w, i32_w]
    rfl
   refine pure_ (i := 11) (N := some 3) (v := ?_) (a' := ?_) (bq_5_ 12 4095) rfl rfl (any_of HT_.out (by kernel_rfl)) (fun _ _ _ h => h) (Or.inl ⟨by rfl, ?_⟩) ?_ ?_
   rotate_left
   ·intro w'
    go_simp
    with_reducible rfl
   rotate_left
   ·simp only [Act.put, zA5_, zB5_, zC5_, i64_w, i32_w]
    rfl
   refine done_ (done_of HT_.out (by kernel_rfl)) ?_
   have hcz19_0 : w18.cell? ⟨gb107, 0, none⟩ = some (.int .u64 a0_0) := (blk_cell BK107.out 0).trans rfl
   have hcz19_1 : w18.cell? ⟨gb107, 1, none⟩ = some (.int .u64 a0_1) := (blk_cell BK107.out 1).trans rfl
   have hcz19_2 : w18.cell? ⟨gb107, 2, none⟩ = some (.int .u8 a0_2) := (blk_cell BK107.out 2).trans rfl
   have hcz19_3 : w18.cell? ⟨gb107, 3, none⟩ = some (.int .u8 a0_3) := (blk_cell BK107.out 3).trans rfl
   have hcz19_4 : w18.cell? ⟨gb107, 4, none⟩ = some (.int .u8 a0_4) := (blk_cell BK107.out 4).trans rfl
   have hcz19_5 : w18.cell? ⟨gb107, 5, none⟩ = some (.int .u8 a0_5) := (blk_cell BK107.out 5).trans rfl
   have hcz19_6 : w18.cell? ⟨gb107, 6, none⟩ = some (.int .u8 a0_6) := (blk_cell BK107.out 6).trans rfl
   have hcz19_7 : w18.cell? ⟨gb107, 7, none⟩ = some (.int .u8 a0_7) := (blk_cell BK107.out 7).trans rfl
   have hcz19_8 : w18.cell? ⟨gb107, 8, none⟩ = some (.int .u8 a0_8) := (blk_cell BK107.out 8).trans rfl
   have hcz19_9 : w18.cell? ⟨gb107, 9, none⟩ = some (.int .u8 a0_9) := (blk_cell BK107.out 9).trans rfl
   have hcz19_10 : w18.cell? ⟨gb107, 10, none⟩ = some (.int .u8 a0_10) := (blk_cell BK107.out 10).trans rfl
   have hcz19_11 : w18.cell? ⟨gb107, 11, none⟩ = some (.int .u8 a0_11) := (blk_cell BK107.out 11).trans rfl
   have hcz19_12 : w18.cell? ⟨gb107, 12, none⟩ = some (.string a0_12) := (blk_cell BK107.out 12).trans rfl
   have hfz19_0 := blk_frozen BK107.out 0
   have hfz19_1 := blk_frozen BK107.out 1
   have hfz19_2 := blk_frozen BK107.out 2
   have hfz19_3 := blk_frozen BK107.out 3
   have hfz19_4 := blk_frozen BK107.out 4
   have hfz19_5 := blk_frozen BK107.out 5
   have hfz19_6 := blk_frozen BK107.out 6
   have hfz19_7 := blk_frozen BK107.out 7
   have hfz19_8 := blk_frozen BK107.out 8
   have hfz19_9 := blk_frozen BK107.out 9
   have hfz19_10 := blk_frozen BK107.out 10
   have hfz19_11 := blk_frozen BK107.out 11
   have hfz19_12 := blk_frozen BK107.out 12
   go_upto_if 20 with (fail)
   go_cut [3] (fun v3 wc => ∃ (kq : Nat) (x3_5 : ByteArray), v3 = .string x3_5 ∧ Aside0 (entry_Write.j0 kq x3_5 a0_0 a0_1 a0_2 a0_3 a0_4 a0_5 a0_6 a0_7 a0_8 a0_9 a0_10 a0_11 a0_12 = some r) ∧ Aside0 (kq ≤ k) ∧ Aside0 (wc.heap[gb107]? = some (.cells #[.int .u64 a0_0, .int .u64 a0_1, .int .u8 a0_2, .int .u8 a0_3, .int .u8 a0_4, .int .u8 a0_5, .int .u8 a0_6, .int .u8 a0_7, .int .u8 a0_8, .int .u8 a0_9, .int .u8 a0_10, .int .u8 a0_11, .string a0_12] 27 (0, 0))) ∧ Aside0 (Below w.heap.size w wc))
   case first =>
    have H := HC6.out
    clear HC6
    by_cases c20 : a0_2 = 3
    ·rw [if_pos c20] at H
     have c20b0 : (a0_2 == 3) = true := beq_iff_eq.mpr c20
     have c20b1 : (a0_2 != 3) = false := bne_eq_false_iff_eq.mpr c20
     clear c20
     (first | rw [c20b0] | (simp only [i64_w, i32_w]; rw [c20b0]) | skip)
     obtain ⟨y116, hy116⟩ : ∃ y_ : List Int, y_ = (([a0_3] : List Int)) := ⟨_, rfl⟩
     replace H : (if (strOfNums y116).size + (strOfNums [a0_4, a0_5, a0_6, a0_7, a0_8, a0_9, a0_10, a0_11]).size ≤ 9223372036854775807 then (if ((strOfNums y109) ++ t115).size + ((strOfNums y116) ++ (strOfNums [a0_4, a0_5, a0_6, a0_7, a0_8, a0_9, a0_10, a0_11])).size ≤ 9223372036854775807 then (entry_Write.j0 k (((strOfNums y109) ++ t115) ++ ((strOfNums y116) ++ (strOfNums [a0_4, a0_5, a0_6, a0_7, a0_8, a0_9, a0_10, a0_11]))) a0_0 a0_1 a0_2 a0_3 a0_4 a0_5 a0_6 a0_7 a0_8 a0_9 a0_10 a0_11 a0_12) else (none)) else (none)) = some r := by first | (rw [hy116]; with_reducible exact H) | (have H2_ := (Option.bind_some _ _).symm.trans H; rw [hy116]; with_reducible exact H2_) | (have H2_ := (Option.bind_some _ _).symm.trans H; with_reducible exact H2_) | with_reducible exact H | (rw [hy116]; exact H) | exact H
     have Ny116 := Aside0.mk hy116
     clear hy116
     have tk21 := tok_slice (P := Try.prog) (T := 25) (e := 5) (n := 8) Try.underlying24 (by kernel_rfl) (by kernel_rfl) (by kernel_rfl) (by decide) 4
     have tk22 := tok_string (P := Try.prog) Try.underlying33 Try.underlying5 Try.underlying9 4 5 6 7 8 9 10 11 rfl rfl rfl rfl rfl rfl rfl a0_4 a0_5 a0_6 a0_7 a0_8 a0_9 a0_10 a0_11
     by_cases c23 : (strOfNums y116).size + (strOfNums [a0_4, a0_5, a0_6, a0_7, a0_8, a0_9, a0_10, a0_11]).size ≤ 9223372036854775807
     ·rw [if_pos c23] at H
      have c23b0 := eq_true c23
      have c23b1 : decide ((strOfNums y116).size + (strOfNums [a0_4, a0_5, a0_6, a0_7, a0_8, a0_9, a0_10, a0_11]).size ≤ 9223372036854775807) = true := decide_eq_true c23
      try have c23b2 : (9223372036854775807 < (strOfNums y116).size + (strOfNums [a0_4, a0_5, a0_6, a0_7, a0_8, a0_9, a0_10, a0_11]).size) = False := eq_false (Nat.not_lt.2 c23)
      by_cases c24 : ((strOfNums y109) ++ t115).size + ((strOfNums y116) ++ (strOfNums [a0_4, a0_5, a0_6, a0_7, a0_8, a0_9, a0_10, a0_11])).size ≤ 9223372036854775807
      ·rw [if_pos c24] at H
       have c24b0 := eq_true c24
       have c24b1 : decide (((strOfNums y109) ++ t115).size + ((strOfNums y116) ++ (strOfNums [a0_4, a0_5, a0_6, a0_7, a0_8, a0_9, a0_10, a0_11])).size ≤ 9223372036854775807) = true := decide_eq_true c24
       try have c24b2 : (9223372036854775807 < ((strOfNums y109) ++ t115).size + ((strOfNums y116) ++ (strOfNums [a0_4, a0_5, a0_6, a0_7, a0_8, a0_9, a0_10, a0_11])).size) = False := eq_false (Nat.not_lt.2 c24)
       have c24n := c24
       try simp only [ByteArray.size_append] at c24n
       try have c24b3 := eq_false (Nat.not_lt.2 c24n)
       clear c24n
       have H' := Aside0.mk H
       clear H
       try go_wp2
       have n0_ := Aside0.mk (Kd.R_drew HO111.out)
       have n1_ := Aside0.mk (Kd.R_drew HO114.out)
       have n2_ := Aside0.mk (blk_drew BK107.out)
       have n3_ := Aside0.mk (below_drew1 HB.out)
       clear HO111
       clear HO114
       clear BK107
       clear HB
       have HO111 := n0_
       have HO114 := n1_
       have BK107 := n2_
       have HB := n3_
       clear n0_ n1_ n2_ n3_
       refine start_ (n := 11) (S := fun w' => w'.cell? ⟨gb107, 0, none⟩ = some (.int .u64 a0_0) ∧ w'.cell? ⟨gb107, 1, none⟩ = some (.int .u64 a0_1) ∧ w'.cell? ⟨gb107, 2, none⟩ = some (.int .u8 a0_2) ∧ w'.cell? ⟨gb107, 3, none⟩ = some (.int .u8 a0_3) ∧ w'.cell? ⟨gb107, 4, none⟩ = some (.int .u8 a0_4) ∧ w'.cell? ⟨gb107, 5, none⟩ = some (.int .u8 a0_5) ∧ w'.cell? ⟨gb107, 6, none⟩ = some (.int .u8 a0_6) ∧ w'.cell? ⟨gb107, 7, none⟩ = some (.int .u8 a0_7) ∧ w'.cell? ⟨gb107, 8, none⟩ = some (.int .u8 a0_8) ∧ w'.cell? ⟨gb107, 9, none⟩ = some (.int .u8 a0_9) ∧ w'.cell? ⟨gb107, 10, none⟩ = some (.int .u8 a0_10) ∧ w'.cell? ⟨gb107, 11, none⟩ = some (.int .u8 a0_11) ∧ w'.cell? ⟨gb107, 12, none⟩ = some (.string a0_12)) (ds := []) #[false, false, false, false, false, false, false, false, false, false, false] (by kernel_rfl) rfl rfl ⟨(blk_cell BK107.out 0).trans rfl, (blk_cell BK107.out 1).trans rfl, (blk_cell BK107.out 2).trans rfl, (blk_cell BK107.out 3).trans rfl, (blk_cell BK107.out 4).trans rfl, (blk_cell BK107.out 5).trans rfl, (blk_cell BK107.out 6).trans rfl, (blk_cell BK107.out 7).trans rfl, (blk_cell BK107.out 8).trans rfl, (blk_cell BK107.out 9).trans rfl, (blk_cell BK107.out 10).trans rfl, (blk_cell BK107.out 11).trans rfl, (blk_cell BK107.out 12).trans rfl⟩ (fun hHeld => ?_); refine with_tabW entry_Write.tab5 entry_Write.bits5 (fun HT_ HW_ => ?_)
       generalize w18.drew = w25 at HO111 HO114 BK107 HB hHeld ⊢
       refine pure_ (i := 0) (N := some 21) (v := ?_) (a' := ?_) (bq_5_ 11 1) rfl rfl (any_of HT_.out (by kernel_rfl)) (fun _ _ _ h => h) (Or.inl ⟨by rfl, ?_⟩) ?_ ?_
       rotate_left
       ·intro w'
        go_simp
        with_reducible rfl
       rotate_left
       ·simp only [Act.put, zA5_, zB5_, zC5_, i64_w, i32_w]
        rfl
       refine pure_ (i := 1) (N := some 22) (v := ?_) (a' := ?_) (bq_5_ 11 3) rfl rfl (any_of HT_.out (by kernel_rfl)) (fun _ _ _ h => h) (Or.inl ⟨by rfl, ?_⟩) ?_ ?_
       rotate_left
       ·intro w'
        go_simp
        with_reducible rfl
       rotate_left
       ·simp only [Act.put, zA5_, zB5_, zC5_, i64_w, i32_w]
        rfl
       refine pure_ (i := 5) (N := some 26) (v := ?_) (a' := ?_) (bq_5_ 11 35) rfl rfl (any_of HT_.out (by kernel_rfl)) (fun _ _ _ h => h) (Or.inl ⟨by rfl, ?_⟩) ?_ ?_
       rotate_left
       ·intro w'
        go_simp
        with_reducible rfl
       rotate_left
       ·simp only [Act.put, zA5_, zB5_, zC5_, i64_w, i32_w]
        rfl
       refine pure_ (i := 6) (N := some 27) (v := ?_) (a' := ?_) (bq_5_ 11 99) rfl rfl (any_of HT_.out (by kernel_rfl)) (fun _ _ _ h => h) (Or.inl ⟨by rfl, ?_⟩) ?_ ?_
       rotate_left
       ·intro w'
        go_simp
        with_reducible rfl
       rotate_left
       ·simp only [Act.put, zA5_, zB5_, zC5_, i64_w, i32_w]
        rfl
       refine take_ (i := 2) (N := some 23) (v := ?_) (a' := ?_) (bq_5_ 11 103) rfl rfl (take_ofW HT_.out HW_.out (by kernel_rfl)) (fun _ _ _ h => h) (Or.inl ⟨by rfl, ?_⟩) hHeld ?_ ?_
       rotate_left
       ·rintro w' ⟨s0, s1, s2, s3, s4, s5, s6, s7, s8, s9, s10, s11, s12⟩
        go_simp
        with_reducible rfl
       rotate_left
       ·simp only [Act.put, zA5_, zB5_, zC5_, i64_w, i32_w]
        rfl
       refine take_ (i := 7) (N := some 28) (v := ?_) (a' := ?_) (bq_5_ 11 231) rfl rfl (take_ofW HT_.out HW_.out (by kernel_rfl)) (fun _ _ _ h => h) (Or.inl ⟨by rfl, ?_⟩) hHeld ?_ ?_
       rotate_left
       ·rintro w' ⟨s0, s1, s2, s3, s4, s5, s6, s7, s8, s9, s10, s11, s12⟩
        go_simp
        with_reducible rfl
       rotate_left
       ·simp only [Act.put, zA5_, zB5_, zC5_, i64_w, i32_w]
        rfl
       refine one_ (i := 3) (N := some 24) (bq_5_ 11 239) rfl rfl (one_of HT_.out (by kernel_rfl)) (by decide) (fun K hK => ?_)
       refine Kd.R_lit_step (Kd.int .u8) _ 5 ?hg (N := 24) ?hd (xs := ([a0_3] : List Int)) (inner := [.int .u8 a0_3]) (ok := fun _ => True) (okp := fun _ => True) ?hr ?hp (fun _ hk => hk) trivial (Below.refl _ _) (Nat.le_refl _) (by simp) ?_; (case hd => rfl); (case hg => rfl); (case hr => first | (go_simp; done) | (go_simp; rfl)); (case hp => exact (Reps.one (show Kd.M (Kd.int .u8) _ _ _ a0_3 [.int .u8 a0_3] from rfl) (Reps.none _ _)))
       intro v117 w26 ho27 hb hg_ hnew_
       clear hg_ hnew_
       (first | rw [← Ny116.out] at ho27 | (simp only [Int.reduceToNat] at ho27; rw [← Ny116.out] at ho27))
       have n0_ := Aside0.mk (Kd.R_elder' (by (with_reducible repeat (first | apply Kd.R_alloc | apply Kd.R_drewN | apply Kd.R_drew)); exact HO111.out) (Kd.R_base ho27) hb)
       have n1_ := Aside0.mk (Kd.R_below (by (with_reducible repeat (first | apply Kd.R_alloc | apply Kd.R_drewN | apply Kd.R_drew)); exact HO114.out) hb)
       have n2_ := Aside0.mk (Kd.R_lower (Kd.R_new' ho27 (Kd.R_lt (by (with_reducible repeat (first | apply Kd.R_alloc | apply Kd.R_drewN | apply Kd.R_drew)); exact HO111.out))) (below_size (by repeat (first | (with_reducible first | exact HB.out | apply below_alloc | apply pw_below_drewN | apply below_drew1 | refine below_set ?_ GE107.out) | exact HB.out))))
       have n3_ := Aside0.mk (blk_below (g := gb107) (o := .cells #[.int .u64 a0_0, .int .u64 a0_1, .int .u8 a0_2, .int .u8 a0_3, .int .u8 a0_4, .int .u8 a0_5, .int .u8 a0_6, .int .u8 a0_7, .int .u8 a0_8, .int .u8 a0_9, .int .u8 a0_10, .int .u8 a0_11, .string a0_12] 27 (0, 0)) (by (with_reducible repeat (first | refine blk_drewN ?_ _ | refine blk_drew ?_ | refine blk_alloc ?_ _)); exact BK107.out) hb)
       have n4_ := Aside0.mk (below_step (by repeat (first | (with_reducible first | exact HB.out | apply below_alloc | apply pw_below_drewN | apply below_drew1 | refine below_set ?_ GE107.out) | exact HB.out)) hb)
       clear HO111
       clear HO114
       clear BK107
       clear HB
       have HO111 := n0_
       have HO114 := n1_
       have HO118 := n2_
       have BK107 := n3_
       have HB := n4_
       clear n0_ n1_ n2_ n3_ n4_
       clear hb ho27
       refine hK.out _ _ ⟨(blk_cell BK107.out 0).trans rfl, (blk_cell BK107.out 1).trans rfl, (blk_cell BK107.out 2).trans rfl, (blk_cell BK107.out 3).trans rfl, (blk_cell BK107.out 4).trans rfl, (blk_cell BK107.out 5).trans rfl, (blk_cell BK107.out 6).trans rfl, (blk_cell BK107.out 7).trans rfl, (blk_cell BK107.out 8).trans rfl, (blk_cell BK107.out 9).trans rfl, (blk_cell BK107.out 10).trans rfl, (blk_cell BK107.out 11).trans rfl, (blk_cell BK107.out 12).trans rfl⟩ (fun hHeld => ?_)
       clear hK K
       refine norm_ (a' := ?_) ?_ ?_
       rotate_left
       ·show Act.put _ (some 24) _ = _
        simp only [Act.put, zA5_, zB5_, zC5_, i64_w, i32_w]
        rfl
       refine one_ (i := 4) (N := some 25) (bq_5_ 11 255) rfl rfl (one_of HT_.out (by kernel_rfl)) (by decide) (fun K hK => ?_)
       have hcv28 := own_string (P := Try.prog) Try.underlying33 Try.underlying5 Try.underlying9 (Kd.own_of_R HO118.out)
       refine value_ (w1 := ?_) (v := ?_) (by rfl) rfl ?_ ?_
       rotate_left 2
       ·go_simp
        constructor
        ·rfl
        ·rfl
       clear hcv28
       refine hK.out _ _ ⟨(blk_cell BK107.out 0).trans rfl, (blk_cell BK107.out 1).trans rfl, (blk_cell BK107.out 2).trans rfl, (blk_cell BK107.out 3).trans rfl, (blk_cell BK107.out 4).trans rfl, (blk_cell BK107.out 5).trans rfl, (blk_cell BK107.out 6).trans rfl, (blk_cell BK107.out 7).trans rfl, (blk_cell BK107.out 8).trans rfl, (blk_cell BK107.out 9).trans rfl, (blk_cell BK107.out 10).trans rfl, (blk_cell BK107.out 11).trans rfl, (blk_cell BK107.out 12).trans rfl⟩ (fun hHeld => ?_)
       clear hK K
       refine norm_ (a' := ?_) ?_ ?_
       rotate_left
       ·show Act.put _ (some 25) _ = _
        simp only [Act.put, zA5_, zB5_, zC5_, i64_w, i32_w]
        rfl
       refine pure_ (i := 8) (N := some 29) (v := ?_) (a' := ?_) (bq_5_ 11 511) rfl rfl (any_of HT_.out (by kernel_rfl)) (fun _ _ _ h => h) (Or.inl ⟨by rfl, ?_⟩) ?_ ?_
       rotate_left
       ·intro w'
        go_simp
        with_reducible rfl
       rotate_left
       ·simp only [Act.put, zA5_, zB5_, zC5_, i64_w, i32_w]
        rfl
       refine pure_ (i := 9) (N := some 30) (v := ?_) (a' := ?_) (bq_5_ 11 1023) rfl rfl (any_of HT_.out (by kernel_rfl)) (fun _ _ _ h => h) (Or.inl ⟨by rfl, ?_⟩) ?_ ?_
       rotate_left
       ·intro w'
        go_simp
        with_reducible rfl
       rotate_left
       ·simp only [Act.put, zA5_, zB5_, zC5_, i64_w, i32_w]
        rfl
       refine pure_ (i := 10) (N := some 3) (v := ?_) (a' := ?_) (bq_5_ 11 2047) rfl rfl (any_of HT_.out (by kernel_rfl)) (fun _ _ _ h => h) (Or.inl ⟨by rfl, ?_⟩) ?_ ?_
       rotate_left
       ·intro w'
        go_simp
        with_reducible rfl
       rotate_left
       ·simp only [Act.put, zA5_, zB5_, zC5_, i64_w, i32_w]
        rfl
       refine done_ (done_of HT_.out (by kernel_rfl)) ?_
       try go_wp2
       go_meet
       case rel => exact ⟨_, (((strOfNums y109) ++ t115) ++ ((strOfNums y116) ++ (strOfNums [a0_4, a0_5, a0_6, a0_7, a0_8, a0_9, a0_10, a0_11]))), (by first | (with_reducible rfl) | (simp; done) | (simp [*]; done) | (refine congrArg (Value.int _) ?_; unfold wrap64; omega) | rfl), H', ⟨by first | omega | exact Nat.le_refl _⟩, ⟨by (with_reducible repeat (first | refine blk_drewN ?_ _ | refine blk_drew ?_ | refine blk_alloc ?_ _)); exact BK107.out⟩, ⟨by repeat (first | (with_reducible first | exact HB.out | apply below_alloc | apply pw_below_drewN | apply below_drew1 | refine below_set ?_ GE107.out) | exact HB.out)⟩⟩
      ·rw [if_neg c24] at H
       exact absurd H (by simp)
     ·rw [if_neg c23] at H
      exact absurd H (by simp)
    ·rw [if_neg c20] at H
     have c20b0 : (a0_2 == 3) = false := beq_eq_false_iff_ne.mpr c20
     have c20b1 : (a0_2 != 3) = true := bne_iff_ne.mpr c20
     (first | rw [c20b0] | (simp only [i64_w, i32_w]; rw [c20b0]) | skip)
     have H' := Aside0.mk H
     clear H
     go_wp2
     go_meet
     case rel => exact ⟨_, ((strOfNums y109) ++ t115), (by first | (with_reducible rfl) | (simp; done) | (simp [*]; done) | (refine congrArg (Value.int _) ?_; unfold wrap64; omega) | rfl), H', ⟨by first | omega | exact Nat.le_refl _⟩, ⟨by (with_reducible repeat (first | refine blk_drewN ?_ _ | refine blk_drew ?_ | refine blk_alloc ?_ _)); exact BK107.out⟩, ⟨by repeat (first | (with_reducible first | exact HB.out | apply below_alloc | apply pw_below_drewN | apply below_drew1 | refine below_set ?_ GE107.out) | exact HB.out)⟩⟩
   case rest =>
    clear HC6
    try clear hcv1
    try clear c2
    try clear p2
    try clear hcv2
    try clear p6
    try clear hcv14
    try clear hcv16
    try clear hcv18
    try clear c20
    try clear c20b0
    try clear c20b1
    try clear c23
    try clear c23b0
    try clear c23b1
    try clear c23b2
    try clear c24
    try clear c24b0
    try clear c24b1
    try clear c24b2
    try clear hcv28
    try clear hcz19_0
    try clear hcz19_1
    try clear hcz19_10
    try clear hcz19_11
    try clear hcz19_12
    try clear hcz19_2
    try clear hcz19_3
    try clear hcz19_4
    try clear hcz19_5
    try clear hcz19_6
    try clear hcz19_7
    try clear hcz19_8
    try clear hcz19_9
    try clear hfz19_0
    try clear hfz19_1
    try clear hfz19_10
    try clear hfz19_11
    try clear hfz19_12
    try clear hfz19_2
    try clear hfz19_3
    try clear hfz19_4
    try clear hfz19_5
    try clear hfz19_6
    try clear hfz19_7
    try clear hfz19_8
    try clear hfz19_9
    obtain ⟨kq, x3_5, rfl, HA, HJ5, BK107, HB⟩ := hcut
    cases kq with
    | zero => exact absurd HA.out (by simp [entry_Write.j0])
    | succ kj5 =>
     have H := HA.out
     clear HA
     simp only [entry_Write.j0] at H
     by_cases c29 : a0_2 = 1
     ·rw [if_pos c29] at H
      have c29b0 : (a0_2 == 1) = true := beq_iff_eq.mpr c29
      have c29b1 : (a0_2 != 1) = false := bne_eq_false_iff_eq.mpr c29
      clear c29
      obtain rfl := Option.some.inj H
      have hcz30_0 : wc.cell? ⟨gb107, 0, none⟩ = some (.int .u64 a0_0) := (blk_cell BK107.out 0).trans rfl
      have hcz30_1 : wc.cell? ⟨gb107, 1, none⟩ = some (.int .u64 a0_1) := (blk_cell BK107.out 1).trans rfl
      have hcz30_2 : wc.cell? ⟨gb107, 2, none⟩ = some (.int .u8 a0_2) := (blk_cell BK107.out 2).trans rfl
      have hcz30_3 : wc.cell? ⟨gb107, 3, none⟩ = some (.int .u8 a0_3) := (blk_cell BK107.out 3).trans rfl
      have hcz30_4 : wc.cell? ⟨gb107, 4, none⟩ = some (.int .u8 a0_4) := (blk_cell BK107.out 4).trans rfl
      have hcz30_5 : wc.cell? ⟨gb107, 5, none⟩ = some (.int .u8 a0_5) := (blk_cell BK107.out 5).trans rfl
      have hcz30_6 : wc.cell? ⟨gb107, 6, none⟩ = some (.int .u8 a0_6) := (blk_cell BK107.out 6).trans rfl
      have hcz30_7 : wc.cell? ⟨gb107, 7, none⟩ = some (.int .u8 a0_7) := (blk_cell BK107.out 7).trans rfl
      have hcz30_8 : wc.cell? ⟨gb107, 8, none⟩ = some (.int .u8 a0_8) := (blk_cell BK107.out 8).trans rfl
      have hcz30_9 : wc.cell? ⟨gb107, 9, none⟩ = some (.int .u8 a0_9) := (blk_cell BK107.out 9).trans rfl
      have hcz30_10 : wc.cell? ⟨gb107, 10, none⟩ = some (.int .u8 a0_10) := (blk_cell BK107.out 10).trans rfl
      have hcz30_11 : wc.cell? ⟨gb107, 11, none⟩ = some (.int .u8 a0_11) := (blk_cell BK107.out 11).trans rfl
      have hcz30_12 : wc.cell? ⟨gb107, 12, none⟩ = some (.string a0_12) := (blk_cell BK107.out 12).trans rfl
      have hfz30_0 := blk_frozen BK107.out 0
      have hfz30_1 := blk_frozen BK107.out 1
      have hfz30_2 := blk_frozen BK107.out 2
      have hfz30_3 := blk_frozen BK107.out 3
      have hfz30_4 := blk_frozen BK107.out 4
      have hfz30_5 := blk_frozen BK107.out 5
      have hfz30_6 := blk_frozen BK107.out 6
      have hfz30_7 := blk_frozen BK107.out 7
      have hfz30_8 := blk_frozen BK107.out 8
      have hfz30_9 := blk_frozen BK107.out 9
      have hfz30_10 := blk_frozen BK107.out 10
      have hfz30_11 := blk_frozen BK107.out 11
      have hfz30_12 := blk_frozen BK107.out 12
      go_wp2
      go_ret
      exact ⟨by first | rfl | (simp [errW_none, errW_some] <;> rfl) | (simp [*, errW_none, errW_some] <;> rfl), by repeat (first | (with_reducible first | exact HB.out | apply below_alloc | apply pw_below_drewN | apply below_drew1 | refine below_set ?_ GE107.out) | exact HB.out)⟩
     ·rw [if_neg c29] at H
      have c29b0 : (a0_2 == 1) = false := beq_eq_false_iff_ne.mpr c29
      have c29b1 : (a0_2 != 1) = true := bne_iff_ne.mpr c29
      by_cases c31 : a0_2 = 5
      ·rw [if_pos c31] at H
       have c31b0 : (a0_2 == 5) = true := beq_iff_eq.mpr c31
       have c31b1 : (a0_2 != 5) = false := bne_eq_false_iff_eq.mpr c31
       clear c31
       obtain rfl := Option.some.inj H
       have hcz32_0 : wc.cell? ⟨gb107, 0, none⟩ = some (.int .u64 a0_0) := (blk_cell BK107.out 0).trans rfl
       have hcz32_1 : wc.cell? ⟨gb107, 1, none⟩ = some (.int .u64 a0_1) := (blk_cell BK107.out 1).trans rfl
       have hcz32_2 : wc.cell? ⟨gb107, 2, none⟩ = some (.int .u8 a0_2) := (blk_cell BK107.out 2).trans rfl
       have hcz32_3 : wc.cell? ⟨gb107, 3, none⟩ = some (.int .u8 a0_3) := (blk_cell BK107.out 3).trans rfl
       have hcz32_4 : wc.cell? ⟨gb107, 4, none⟩ = some (.int .u8 a0_4) := (blk_cell BK107.out 4).trans rfl
       have hcz32_5 : wc.cell? ⟨gb107, 5, none⟩ = some (.int .u8 a0_5) := (blk_cell BK107.out 5).trans rfl
       have hcz32_6 : wc.cell? ⟨gb107, 6, none⟩ = some (.int .u8 a0_6) := (blk_cell BK107.out 6).trans rfl
       have hcz32_7 : wc.cell? ⟨gb107, 7, none⟩ = some (.int .u8 a0_7) := (blk_cell BK107.out 7).trans rfl
       have hcz32_8 : wc.cell? ⟨gb107, 8, none⟩ = some (.int .u8 a0_8) := (blk_cell BK107.out 8).trans rfl
       have hcz32_9 : wc.cell? ⟨gb107, 9, none⟩ = some (.int .u8 a0_9) := (blk_cell BK107.out 9).trans rfl
       have hcz32_10 : wc.cell? ⟨gb107, 10, none⟩ = some (.int .u8 a0_10) := (blk_cell BK107.out 10).trans rfl
       have hcz32_11 : wc.cell? ⟨gb107, 11, none⟩ = some (.int .u8 a0_11) := (blk_cell BK107.out 11).trans rfl
       have hcz32_12 : wc.cell? ⟨gb107, 12, none⟩ = some (.string a0_12) := (blk_cell BK107.out 12).trans rfl
       have hfz32_0 := blk_frozen BK107.out 0
       have hfz32_1 := blk_frozen BK107.out 1
       have hfz32_2 := blk_frozen BK107.out 2
       have hfz32_3 := blk_frozen BK107.out 3
       have hfz32_4 := blk_frozen BK107.out 4
       have hfz32_5 := blk_frozen BK107.out 5
       have hfz32_6 := blk_frozen BK107.out 6
       have hfz32_7 := blk_frozen BK107.out 7
       have hfz32_8 := blk_frozen BK107.out 8
       have hfz32_9 := blk_frozen BK107.out 9
       have hfz32_10 := blk_frozen BK107.out 10
       have hfz32_11 := blk_frozen BK107.out 11
       have hfz32_12 := blk_frozen BK107.out 12
       go_wp2
       go_ret
       exact ⟨by first | rfl | (simp [errW_none, errW_some] <;> rfl) | (simp [*, errW_none, errW_some] <;> rfl), by repeat (first | (with_reducible first | exact HB.out | apply below_alloc | apply pw_below_drewN | apply below_drew1 | refine below_set ?_ GE107.out) | exact HB.out)⟩
      ·rw [if_neg c31] at H
       have c31b0 : (a0_2 == 5) = false := beq_eq_false_iff_ne.mpr c31
       have c31b1 : (a0_2 != 5) = true := bne_iff_ne.mpr c31
       obtain ⟨y119, hy119⟩ : ∃ y_ : List ByteArray, y_ = (([a0_12] : List ByteArray)) := ⟨_, rfl⟩
       replace H : ((num_S.f kj5 y119).bind fun t122 => (if x3_5.size + t122.size ≤ 9223372036854775807 then (some (x3_5 ++ t122)) else (none))) = some r := by first | (rw [hy119]; with_reducible exact H) | (have H2_ := (Option.bind_some _ _).symm.trans H; rw [hy119]; with_reducible exact H2_) | (have H2_ := (Option.bind_some _ _).symm.trans H; with_reducible exact H2_) | with_reducible exact H | (rw [hy119]; exact H) | exact H
       have Ny119 := Aside0.mk hy119
       clear hy119
       replace H := Option.bind_eq_some_iff.mp H
       obtain ⟨t122, A330, H⟩ := H
       replace H : (if x3_5.size + t122.size ≤ 9223372036854775807 then (some (x3_5 ++ t122)) else (none)) = some r := H
       have A33 := Aside0.mk A330
       clear A330
       by_cases c34 : x3_5.size + t122.size ≤ 9223372036854775807
       ·rw [if_pos c34] at H
        have c34b0 := eq_true c34
        have c34b1 : decide (x3_5.size + t122.size ≤ 9223372036854775807) = true := decide_eq_true c34
        try have c34b2 : (9223372036854775807 < x3_5.size + t122.size) = False := eq_false (Nat.not_lt.2 c34)
        obtain rfl := Option.some.inj H
        have hcz35_0 : wc.cell? ⟨gb107, 0, none⟩ = some (.int .u64 a0_0) := (blk_cell BK107.out 0).trans rfl
        have hcz35_1 : wc.cell? ⟨gb107, 1, none⟩ = some (.int .u64 a0_1) := (blk_cell BK107.out 1).trans rfl
        have hcz35_2 : wc.cell? ⟨gb107, 2, none⟩ = some (.int .u8 a0_2) := (blk_cell BK107.out 2).trans rfl
        have hcz35_3 : wc.cell? ⟨gb107, 3, none⟩ = some (.int .u8 a0_3) := (blk_cell BK107.out 3).trans rfl
        have hcz35_4 : wc.cell? ⟨gb107, 4, none⟩ = some (.int .u8 a0_4) := (blk_cell BK107.out 4).trans rfl
        have hcz35_5 : wc.cell? ⟨gb107, 5, none⟩ = some (.int .u8 a0_5) := (blk_cell BK107.out 5).trans rfl
        have hcz35_6 : wc.cell? ⟨gb107, 6, none⟩ = some (.int .u8 a0_6) := (blk_cell BK107.out 6).trans rfl
        have hcz35_7 : wc.cell? ⟨gb107, 7, none⟩ = some (.int .u8 a0_7) := (blk_cell BK107.out 7).trans rfl
        have hcz35_8 : wc.cell? ⟨gb107, 8, none⟩ = some (.int .u8 a0_8) := (blk_cell BK107.out 8).trans rfl
        have hcz35_9 : wc.cell? ⟨gb107, 9, none⟩ = some (.int .u8 a0_9) := (blk_cell BK107.out 9).trans rfl
        have hcz35_10 : wc.cell? ⟨gb107, 10, none⟩ = some (.int .u8 a0_10) := (blk_cell BK107.out 10).trans rfl
        have hcz35_11 : wc.cell? ⟨gb107, 11, none⟩ = some (.int .u8 a0_11) := (blk_cell BK107.out 11).trans rfl
        have hcz35_12 : wc.cell? ⟨gb107, 12, none⟩ = some (.string a0_12) := (blk_cell BK107.out 12).trans rfl
        have hfz35_0 := blk_frozen BK107.out 0
        have hfz35_1 := blk_frozen BK107.out 1
        have hfz35_2 := blk_frozen BK107.out 2
        have hfz35_3 := blk_frozen BK107.out 3
        have hfz35_4 := blk_frozen BK107.out 4
        have hfz35_5 := blk_frozen BK107.out 5
        have hfz35_6 := blk_frozen BK107.out 6
        have hfz35_7 := blk_frozen BK107.out 7
        have hfz35_8 := blk_frozen BK107.out 8
        have hfz35_9 := blk_frozen BK107.out 9
        have hfz35_10 := blk_frozen BK107.out 10
        have hfz35_11 := blk_frozen BK107.out 11
        have hfz35_12 := blk_frozen BK107.out 12
        go_wp2_with (first | ((with_reducible refine gate_dst (N := 43) rfl ?_); refine Kd.R_lit Kd.string _ 9 ?hg (N := 43) ?hd (xs := ([a0_12] : List ByteArray)) (inner := [.string a0_12]) (ok := fun _ => True) (okp := fun _ => True) ?hr ?hp (fun _ hk => hk) trivial (Below.refl _ _) (Nat.le_refl _) (by simp) ?_; (case hd => rfl); (case hg => rfl); (case hr => first | (go_simp; done) | (go_simp; rfl)); (case hp => exact (Reps.one (show Kd.M Kd.string _ _ _ a0_12 [.string a0_12] from rfl) (Reps.none _ _))); intro v120 w36 ho37 hb hg_ hnew_; clear hg_ hnew_; (first | rw [← Ny119.out] at ho37 | (simp only [Int.reduceToNat] at ho37; rw [← Ny119.out] at ho37)); have n0_ := Aside0.mk (Kd.R_lower ho37 (below_size (by repeat (first | (with_reducible first | exact HB.out | apply below_alloc | apply pw_below_drewN | apply below_drew1 | refine below_set ?_ GE107.out) | exact HB.out)))); have n1_ := Aside0.mk (blk_below (g := gb107) (o := .cells #[.int .u64 a0_0, .int .u64 a0_1, .int .u8 a0_2, .int .u8 a0_3, .int .u8 a0_4, .int .u8 a0_5, .int .u8 a0_6, .int .u8 a0_7, .int .u8 a0_8, .int .u8 a0_9, .int .u8 a0_10, .int .u8 a0_11, .string a0_12] 27 (0, 0)) (by (with_reducible repeat (first | refine blk_drewN ?_ _ | refine blk_drew ?_ | refine blk_alloc ?_ _)); exact BK107.out) hb); have n2_ := Aside0.mk (below_step (by repeat (first | (with_reducible first | exact HB.out | apply below_alloc | apply pw_below_drewN | apply below_drew1 | refine below_set ?_ GE107.out) | exact HB.out)) hb); clear BK107; clear HB; have HO121 := n0_; have BK107 := n1_; have HB := n2_; clear n0_ n1_ n2_; clear hb ho37; obtain ⟨Ao38, co38, eo38⟩ := Kd.R_slice HO121.out; subst eo38) | ((with_reducible refine gate_callee (f := 21) rfl ?_); refine goesL_ (some 44) rfl rfl Try.func21 (by kernel_rfl) rfl #[.slice Ao38 y119.length co38] rfl (by (try simp only [List.map_toArray, List.map_cons, List.map_nil]); first | done | rfl | (simp only [List.length_drop, List.length_take]; rfl)) ?_; (with_reducible refine (num_S.calls kj5 _ _ y119 t122 _ ?side1 ?side2 A33.out).mono ?_); (case side1 => repeat (first | exact (Kd.R_reads' HO121.out).2.2 | (with_reducible refine Kd.C_alloc ?_ _) | (with_reducible refine Kd.C_drewN ?_ _) | (with_reducible refine Kd.C_drew ?_))); (case side2 => exact (Kd.R_reads' HO121.out).2.1); rintro e w39 ⟨rfl, hb⟩; refine ⟨_, rfl, ?_⟩; have n0_ := Aside0.mk (Kd.R_below (by (with_reducible repeat (first | apply Kd.R_alloc | apply Kd.R_drewN | apply Kd.R_drew)); exact HO121.out) hb); have n1_ := Aside0.mk (blk_below (g := gb107) (o := .cells #[.int .u64 a0_0, .int .u64 a0_1, .int .u8 a0_2, .int .u8 a0_3, .int .u8 a0_4, .int .u8 a0_5, .int .u8 a0_6, .int .u8 a0_7, .int .u8 a0_8, .int .u8 a0_9, .int .u8 a0_10, .int .u8 a0_11, .string a0_12] 27 (0, 0)) (by (with_reducible repeat (first | refine blk_drewN ?_ _ | refine blk_drew ?_ | refine blk_alloc ?_ _)); exact BK107.out) hb); have n2_ := Aside0.mk (below_step (by repeat (first | (with_reducible first | exact HB.out | apply below_alloc | apply pw_below_drewN | apply below_drew1 | refine below_set ?_ GE107.out) | exact HB.out)) hb); clear HO121; clear BK107; clear HB; have HO121 := n0_; have BK107 := n1_; have HB := n2_; clear n0_ n1_ n2_; (try clear hb); (try clear hb2); (try clear hk); (try clear hi)))
        go_ret
        exact ⟨by first | rfl | (simp [errW_none, errW_some] <;> rfl) | (simp [*, errW_none, errW_some] <;> rfl), by repeat (first | (with_reducible first | exact HB.out | apply below_alloc | apply pw_below_drewN | apply below_drew1 | refine below_set ?_ GE107.out) | exact HB.out)⟩
       ·rw [if_neg c34] at H
        exact absurd H (by simp)
  ·rw [if_neg c5] at H
   exact absurd H (by simp)
 ·replace c3 := Bool.eq_false_iff.mpr c3
  subst c3
  have H1 : (some (⟨#[]⟩ : ByteArray)) = some r := by rw [if_neg (show ¬ (false = true) by decide)] at H; exact H
  clear H
  have H := H1
  clear H1
  obtain rfl := Option.some.inj H
  go_enter Try.func9, Try.ntmps9
  go_wp2_with (first | ((with_reducible refine gate_dst (N := 1) rfl ?_); refine box_event ?hg (N := 1) ?hd (cs := #[.int .u64 a0_0, .int .u64 a0_1, .int .u8 a0_2, .int .u8 a0_3, .int .u8 a0_4, .int .u8 a0_5, .int .u8 a0_6, .int .u8 a0_7, .int .u8 a0_8, .int .u8 a0_9, .int .u8 a0_10, .int .u8 a0_11, .string a0_12]) (t := 27) ?hr ?_; (case hd => rfl); (case hg => rfl); (case hr => first | (go_simp; done) | (go_simp; rfl)); intro gb107 hg w40 hbox hb; have n0_ := Aside0.mk (below_step (by repeat (first | (with_reducible first | exact HB.out | apply below_alloc | apply pw_below_drewN | apply below_drew1) | exact HB.out)) hb); have n1_ := Aside0.mk (hbox); have n2_ := Aside0.mk ((by rw [hg]; exact (below_size (by repeat (first | (with_reducible first | exact HB.out | apply below_alloc | apply pw_below_drewN | apply below_drew1) | exact HB.out))) : w.heap.size ≤ gb107)); have n3_ := Aside0.mk ((by rw [hg]; exact (below_size (by repeat (first | (with_reducible first | exact HB.out | apply below_alloc | apply pw_below_drewN | apply below_drew1) | exact HB.out))) : w.heap.size ≤ gb107)); clear HB; have HB := n0_; have BK107 := n1_; have GW107 := n2_; have GE107 := n3_; clear n0_ n1_ n2_ n3_; clear hb hbox hg; have hcz41_0 : w40.cell? ⟨gb107, 0, none⟩ = some (.int .u64 a0_0) := (blk_cell BK107.out 0).trans rfl; have hcz41_1 : w40.cell? ⟨gb107, 1, none⟩ = some (.int .u64 a0_1) := (blk_cell BK107.out 1).trans rfl; have hcz41_2 : w40.cell? ⟨gb107, 2, none⟩ = some (.int .u8 a0_2) := (blk_cell BK107.out 2).trans rfl; have hcz41_3 : w40.cell? ⟨gb107, 3, none⟩ = some (.int .u8 a0_3) := (blk_cell BK107.out 3).trans rfl; have hcz41_4 : w40.cell? ⟨gb107, 4, none⟩ = some (.int .u8 a0_4) := (blk_cell BK107.out 4).trans rfl; have hcz41_5 : w40.cell? ⟨gb107, 5, none⟩ = some (.int .u8 a0_5) := (blk_cell BK107.out 5).trans rfl; have hcz41_6 : w40.cell? ⟨gb107, 6, none⟩ = some (.int .u8 a0_6) := (blk_cell BK107.out 6).trans rfl; have hcz41_7 : w40.cell? ⟨gb107, 7, none⟩ = some (.int .u8 a0_7) := (blk_cell BK107.out 7).trans rfl; have hcz41_8 : w40.cell? ⟨gb107, 8, none⟩ = some (.int .u8 a0_8) := (blk_cell BK107.out 8).trans rfl; have hcz41_9 : w40.cell? ⟨gb107, 9, none⟩ = some (.int .u8 a0_9) := (blk_cell BK107.out 9).trans rfl; have hcz41_10 : w40.cell? ⟨gb107, 10, none⟩ = some (.int .u8 a0_10) := (blk_cell BK107.out 10).trans rfl; have hcz41_11 : w40.cell? ⟨gb107, 11, none⟩ = some (.int .u8 a0_11) := (blk_cell BK107.out 11).trans rfl; have hcz41_12 : w40.cell? ⟨gb107, 12, none⟩ = some (.string a0_12) := (blk_cell BK107.out 12).trans rfl; have hfz41_0 := blk_frozen BK107.out 0; have hfz41_1 := blk_frozen BK107.out 1; have hfz41_2 := blk_frozen BK107.out 2; have hfz41_3 := blk_frozen BK107.out 3; have hfz41_4 := blk_frozen BK107.out 4; have hfz41_5 := blk_frozen BK107.out 5; have hfz41_6 := blk_frozen BK107.out 6; have hfz41_7 := blk_frozen BK107.out 7; have hfz41_8 := blk_frozen BK107.out 8; have hfz41_9 := blk_frozen BK107.out 9; have hfz41_10 := blk_frozen BK107.out 10; have hfz41_11 := blk_frozen BK107.out 11; have hfz41_12 := blk_frozen BK107.out 12) | ((with_reducible refine gate_callee (f := 10) rfl ?_); refine goesL_ (some 5) rfl rfl Try.func10 (by kernel_rfl) rfl #[.agg #[.int .u64 a0_0, .int .u64 a0_1, .int .u8 a0_2, .int .u8 a0_3, .int .u8 a0_4, .int .u8 a0_5, .int .u8 a0_6, .int .u8 a0_7, .int .u8 a0_8, .int .u8 a0_9, .int .u8 a0_10, .int .u8 a0_11, .string a0_12]] rfl (by (try simp only [List.map_toArray, List.map_cons, List.map_nil]); first | done | rfl | (simp only [List.length_drop, List.length_take]; rfl)) ?_; (with_reducible refine (entry_Right.calls k a0_0 a0_1 a0_2 a0_3 a0_4 a0_5 a0_6 a0_7 a0_8 a0_9 a0_10 a0_11 a0_12 false _ A2.out).mono ?_); rintro e w42 ⟨rfl, hb⟩; refine ⟨_, rfl, ?_⟩; have n0_ := Aside0.mk (blk_below (g := gb107) (o := .cells #[.int .u64 a0_0, .int .u64 a0_1, .int .u8 a0_2, .int .u8 a0_3, .int .u8 a0_4, .int .u8 a0_5, .int .u8 a0_6, .int .u8 a0_7, .int .u8 a0_8, .int .u8 a0_9, .int .u8 a0_10, .int .u8 a0_11, .string a0_12] 27 (0, 0)) (by (with_reducible repeat (first | refine blk_drewN ?_ _ | refine blk_drew ?_ | refine blk_alloc ?_ _)); exact BK107.out) hb); have n1_ := Aside0.mk (below_step (by repeat (first | (with_reducible first | exact HB.out | apply below_alloc | apply pw_below_drewN | apply below_drew1 | refine below_set ?_ GE107.out) | exact HB.out)) hb); clear BK107; clear HB; have BK107 := n0_; have HB := n1_; clear n0_ n1_; (try clear hb); (try clear hb2); (try clear hk); (try clear hi)))
  go_ret
  exact ⟨by first | rfl | (simp [errW_none, errW_some] <;> rfl) | (simp [*, errW_none, errW_some] <;> rfl), by repeat (first | (with_reducible first | exact HB.out | apply below_alloc | apply pw_below_drewN | apply below_drew1 | refine below_set ?_ GE107.out) | exact HB.out)⟩

end Go.Proofs.Ytimfgflcflhfcaa.P
