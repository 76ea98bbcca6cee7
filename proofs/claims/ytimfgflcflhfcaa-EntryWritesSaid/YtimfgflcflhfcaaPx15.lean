-- Written by wip/tools/myprint.sh out of the translation, over the kit's print with a patch. Not trusted: Lean checks it.
import Derived.Test.YtimfgflcflhfcaaPx0
import Derived.Test.YtimfgflcflhfcaaPx13
import Derived.Test.YtimfgflcflhfcaaPx14
namespace Go.Proofs.Ytimfgflcflhfcaa.P
open Go.RowKit Go.Proofs.YtimfgflcflhfcaaW.PrintWords Go.Proofs.YtimfgflcflhfcaaW.PrintLast Go.Proofs.YtimfgflcflhfcaaW.PrintMore Go.Proofs.Ytimfgflcflhfcaa.Num
attribute [local go_sem] max2_int min2_int max_two min_two max_three min_three max_four min_four   -- for this text's walks alone
set_option linter.unusedVariables false
set_option linter.unusedSimpArgs false

def bq_15_ (n m : Nat) : Array Bool := ((List.range n).map fun i => m.testBit i).toArray
theorem zA15_ {α : Type} (l : List α) (i : Nat) (a : α) : l.toArray.setIfInBounds i a = (l.set i a).toArray := List.setIfInBounds_toArray ..
theorem zB15_ {α : Type} (a b : α) (l : List α) : (a :: l).set 0 b = b :: l := List.set_cons_zero ..
theorem zC15_ {α : Type} (a b : α) (l : List α) (n : Nat) : (a :: l).set (n + 1) b = a :: l.set n b := List.set_cons_succ ..
/-! ### wapentakeref04_Write: function 16 -/
mutual
def wapentakeref04_Write.j0 : Nat → ByteArray → Int → Bool → Int → Int → Int → Int → Int → Int → Int → Int → Int → Int → Int → Int → ByteArray → Option (ByteArray)
 | 0, _, _, _, _, _, _, _, _, _, _, _, _, _, _, _, _ => none
 | k + 1, x3, x21, x22, x253000, x253001, x253002, x253003, x253004, x253005, x253006, x253007, x253008, x253009, x253010, x253011, x253012 => if x22 = true then ((wapentakeref01_S.f k (([x253012] : List ByteArray))).bind fun t262 => (if x3.size + t262.size ≤ 9223372036854775807 then (some (x3 ++ t262)) else (none))) else (if x21 = 3 then ((some (([x253003] : List Int) : List Int)).bind fun y263 => (if x3.size + (strOfNums y263).size ≤ 9223372036854775807 then (wapentakeref04_Write.l0 k (x3 ++ (strOfNums y263)) 0 x253000 x253001 x253002 x253003 x253004 x253005 x253006 x253007 x253008 x253009 x253010 x253011 x253012) else (none))) else (some x3))
def wapentakeref04_Write.l0 : Nat → ByteArray → Int → Int → Int → Int → Int → Int → Int → Int → Int → Int → Int → Int → Int → ByteArray → Option (ByteArray)
 | 0, _, _, _, _, _, _, _, _, _, _, _, _, _, _, _ => none
 | k + 1, x3, x4, x253000, x253001, x253002, x253003, x253004, x253005, x253006, x253007, x253008, x253009, x253010, x253011, x253012 => if x4 < 8 then (if 0 ≤ x4 then (if x4 = 0 then ((some (([x253004] : List Int) : List Int)).bind fun y266 => (if x3.size + (strOfNums y266).size ≤ 9223372036854775807 then (wapentakeref04_Write.l0 k (x3 ++ (strOfNums y266)) (wrap64 (x4 + 1)) x253000 x253001 x253002 x253003 x253004 x253005 x253006 x253007 x253008 x253009 x253010 x253011 x253012) else (none))) else (if x4 = 1 then ((some (([x253005] : List Int) : List Int)).bind fun y269 => (if x3.size + (strOfNums y269).size ≤ 9223372036854775807 then (wapentakeref04_Write.l0 k (x3 ++ (strOfNums y269)) (wrap64 (x4 + 1)) x253000 x253001 x253002 x253003 x253004 x253005 x253006 x253007 x253008 x253009 x253010 x253011 x253012) else (none))) else (if x4 = 2 then ((some (([x253006] : List Int) : List Int)).bind fun y272 => (if x3.size + (strOfNums y272).size ≤ 9223372036854775807 then (wapentakeref04_Write.l0 k (x3 ++ (strOfNums y272)) (wrap64 (x4 + 1)) x253000 x253001 x253002 x253003 x253004 x253005 x253006 x253007 x253008 x253009 x253010 x253011 x253012) else (none))) else (if x4 = 3 then ((some (([x253007] : List Int) : List Int)).bind fun y275 => (if x3.size + (strOfNums y275).size ≤ 9223372036854775807 then (wapentakeref04_Write.l0 k (x3 ++ (strOfNums y275)) (wrap64 (x4 + 1)) x253000 x253001 x253002 x253003 x253004 x253005 x253006 x253007 x253008 x253009 x253010 x253011 x253012) else (none))) else (if x4 = 4 then ((some (([x253008] : List Int) : List Int)).bind fun y278 => (if x3.size + (strOfNums y278).size ≤ 9223372036854775807 then (wapentakeref04_Write.l0 k (x3 ++ (strOfNums y278)) (wrap64 (x4 + 1)) x253000 x253001 x253002 x253003 x253004 x253005 x253006 x253007 x253008 x253009 x253010 x253011 x253012) else (none))) else (if x4 = 5 then ((some (([x253009] : List Int) : List Int)).bind fun y281 => (if x3.size + (strOfNums y281).size ≤ 9223372036854775807 then (wapentakeref04_Write.l0 k (x3 ++ (strOfNums y281)) (wrap64 (x4 + 1)) x253000 x253001 x253002 x253003 x253004 x253005 x253006 x253007 x253008 x253009 x253010 x253011 x253012) else (none))) else (if x4 = 6 then ((some (([x253010] : List Int) : List Int)).bind fun y284 => (if x3.size + (strOfNums y284).size ≤ 9223372036854775807 then (wapentakeref04_Write.l0 k (x3 ++ (strOfNums y284)) (wrap64 (x4 + 1)) x253000 x253001 x253002 x253003 x253004 x253005 x253006 x253007 x253008 x253009 x253010 x253011 x253012) else (none))) else (if x4 = 7 then ((some (([x253011] : List Int) : List Int)).bind fun y287 => (if x3.size + (strOfNums y287).size ≤ 9223372036854775807 then (wapentakeref04_Write.l0 k (x3 ++ (strOfNums y287)) (wrap64 (x4 + 1)) x253000 x253001 x253002 x253003 x253004 x253005 x253006 x253007 x253008 x253009 x253010 x253011 x253012) else (none))) else (none))))))))) else (none)) else ((wapentakeref01_S.f k (([x253012] : List ByteArray))).bind fun t293 => (if x3.size + t293.size ≤ 9223372036854775807 then (some (x3 ++ t293)) else (none)))
end
def wapentakeref04_Write.f (k : Nat) (a0_0 : Int) (a0_1 : Int) (a0_2 : Int) (a0_3 : Int) (a0_4 : Int) (a0_5 : Int) (a0_6 : Int) (a0_7 : Int) (a0_8 : Int) (a0_9 : Int) (a0_10 : Int) (a0_11 : Int) (a0_12 : ByteArray) : Option (ByteArray) := (wapentakeref04_Right.f k a0_0 a0_1 a0_2 a0_3 a0_4 a0_5 a0_6 a0_7 a0_8 a0_9 a0_10 a0_11 a0_12).bind fun t253 => (if t253 = true then ((some (([a0_2] : List Int) : List Int)).bind fun y254 => ((wapentakeref01_One.f k a0_0).bind fun t257 => (if (strOfNums y254).size + t257.size ≤ 9223372036854775807 then ((wapentakeref01_One.f k a0_1).bind fun t258 => (if ((strOfNums y254) ++ t257).size + t258.size ≤ 9223372036854775807 then (if a0_2 = 2 then (wapentakeref04_Write.j0 k (((strOfNums y254) ++ t257) ++ t258) a0_2 (a0_2 == 2) a0_0 a0_1 a0_2 a0_3 a0_4 a0_5 a0_6 a0_7 a0_8 a0_9 a0_10 a0_11 a0_12) else (wapentakeref04_Write.j0 k (((strOfNums y254) ++ t257) ++ t258) a0_2 (a0_2 == 4) a0_0 a0_1 a0_2 a0_3 a0_4 a0_5 a0_6 a0_7 a0_8 a0_9 a0_10 a0_11 a0_12)) else (none))) else (none)))) else (some (⟨#[]⟩ : ByteArray)))
theorem wapentakeref04_Write.mono_l : ∀ k, (∀ y0 y1 y2 y3 y4 y5 y6 y7 y8 y9 y10 y11 y12 y13 y14 y15, LeO (wapentakeref04_Write.j0 k y0 y1 y2 y3 y4 y5 y6 y7 y8 y9 y10 y11 y12 y13 y14 y15) (wapentakeref04_Write.j0 (k + 1) y0 y1 y2 y3 y4 y5 y6 y7 y8 y9 y10 y11 y12 y13 y14 y15)) ∧ (∀ y0 y1 y2 y3 y4 y5 y6 y7 y8 y9 y10 y11 y12 y13 y14, LeO (wapentakeref04_Write.l0 k y0 y1 y2 y3 y4 y5 y6 y7 y8 y9 y10 y11 y12 y13 y14) (wapentakeref04_Write.l0 (k + 1) y0 y1 y2 y3 y4 y5 y6 y7 y8 y9 y10 y11 y12 y13 y14))
 | 0 => ⟨fun _ _ _ _ _ _ _ _ _ _ _ _ _ _ _ _ r h => by simp [wapentakeref04_Write.j0] at h, fun _ _ _ _ _ _ _ _ _ _ _ _ _ _ _ r h => by simp [wapentakeref04_Write.l0] at h⟩
 | k + 1 => by
  obtain ⟨ih0, ih1⟩ := wapentakeref04_Write.mono_l k
  refine ⟨?_, ?_⟩
  ·intro y0 y1 y2 y3 y4 y5 y6 y7 y8 y9 y10 y11 y12 y13 y14 y15
   unfold wapentakeref04_Write.j0
   repeat' first
   | (with_reducible exact ih0 _ _ _ _ _ _ _ _ _ _ _ _ _ _ _ _)
   | (with_reducible exact ih1 _ _ _ _ _ _ _ _ _ _ _ _ _ _ _)
   | (with_reducible exact wapentakeref01_One.mono _ _)
   | (with_reducible exact wapentakeref01_S.mono _ _)
   | (with_reducible exact wapentakeref04_Right.mono _ _ _ _ _ _ _ _ _ _ _ _ _ _)
   | (with_reducible exact LeO.refl _)
   | (with_reducible exact LeO.none _)
   | (with_reducible refine LeO.ite ?_ ?_)
   | (with_reducible refine LeO.bind ?_ (fun _ => ?_))
   | exact ih0 _ _ _ _ _ _ _ _ _ _ _ _ _ _ _ _
   | exact ih1 _ _ _ _ _ _ _ _ _ _ _ _ _ _ _
   | exact wapentakeref01_One.mono _ _
   | exact wapentakeref01_S.mono _ _
   | exact wapentakeref04_Right.mono _ _ _ _ _ _ _ _ _ _ _ _ _ _
   | exact LeO.none _
   | refine LeO.ite ?_ ?_
   | refine LeO.bind ?_ (fun _ => ?_)
  ·intro y0 y1 y2 y3 y4 y5 y6 y7 y8 y9 y10 y11 y12 y13 y14
   unfold wapentakeref04_Write.l0
   repeat' first
   | (with_reducible exact ih0 _ _ _ _ _ _ _ _ _ _ _ _ _ _ _ _)
   | (with_reducible exact ih1 _ _ _ _ _ _ _ _ _ _ _ _ _ _ _)
   | (with_reducible exact wapentakeref01_One.mono _ _)
   | (with_reducible exact wapentakeref01_S.mono _ _)
   | (with_reducible exact wapentakeref04_Right.mono _ _ _ _ _ _ _ _ _ _ _ _ _ _)
   | (with_reducible exact LeO.refl _)
   | (with_reducible exact LeO.none _)
   | (with_reducible refine LeO.ite ?_ ?_)
   | (with_reducible refine LeO.bind ?_ (fun _ => ?_))
   | exact ih0 _ _ _ _ _ _ _ _ _ _ _ _ _ _ _ _
   | exact ih1 _ _ _ _ _ _ _ _ _ _ _ _ _ _ _
   | exact wapentakeref01_One.mono _ _
   | exact wapentakeref01_S.mono _ _
   | exact wapentakeref04_Right.mono _ _ _ _ _ _ _ _ _ _ _ _ _ _
   | exact LeO.none _
   | refine LeO.ite ?_ ?_
   | refine LeO.bind ?_ (fun _ => ?_)
theorem wapentakeref04_Write.mono : ∀ a0 a1 a2 a3 a4 a5 a6 a7 a8 a9 a10 a11 a12 k, LeO (wapentakeref04_Write.f k a0 a1 a2 a3 a4 a5 a6 a7 a8 a9 a10 a11 a12) (wapentakeref04_Write.f (k + 1) a0 a1 a2 a3 a4 a5 a6 a7 a8 a9 a10 a11 a12) := by
 intro a0 a1 a2 a3 a4 a5 a6 a7 a8 a9 a10 a11 a12 k
 obtain ⟨ih0, ih1⟩ := wapentakeref04_Write.mono_l k
 unfold wapentakeref04_Write.f
 repeat' first
   | (with_reducible exact ih0 _ _ _ _ _ _ _ _ _ _ _ _ _ _ _ _)
   | (with_reducible exact ih1 _ _ _ _ _ _ _ _ _ _ _ _ _ _ _)
   | (with_reducible exact wapentakeref01_One.mono _ _)
   | (with_reducible exact wapentakeref01_S.mono _ _)
   | (with_reducible exact wapentakeref04_Right.mono _ _ _ _ _ _ _ _ _ _ _ _ _ _)
   | (with_reducible exact LeO.refl _)
   | (with_reducible exact LeO.none _)
   | (with_reducible refine LeO.ite ?_ ?_)
   | (with_reducible refine LeO.bind ?_ (fun _ => ?_))
   | exact ih0 _ _ _ _ _ _ _ _ _ _ _ _ _ _ _ _
   | exact ih1 _ _ _ _ _ _ _ _ _ _ _ _ _ _ _
   | exact wapentakeref01_One.mono _ _
   | exact wapentakeref01_S.mono _ _
   | exact wapentakeref04_Right.mono _ _ _ _ _ _ _ _ _ _ _ _ _ _
   | exact LeO.none _
   | refine LeO.ite ?_ ?_
   | refine LeO.bind ?_ (fun _ => ?_)
def wapentakeref04_Write.T3 : Bool × List (List Nat × List Nat) := (true, [([], []), ([0], [0]), ([1], [1]), ([2], [2]), ([], []), ([4], [4]), ([5], [5]), ([3, 6], [3, 6]), ([], []), ([8], [8]), ([9, 6], [9]), ([7, 10], [7, 10]), ([11, 10, 0, 1, 2, 3, 4, 5, 6, 7, 8, 9, 10, 11], [11])])
def wapentakeref04_Write.B3 : List Nat := [0, 1, 3, 7, 0, 16, 48, 127, 0, 256, 880, 2047, 4095]
theorem wapentakeref04_Write.tab3 : rtab .any (opsOf Try.f16 3) = wapentakeref04_Write.T3 := by kernel_rfl
theorem wapentakeref04_Write.bits3 : waitsOk wapentakeref04_Write.T3.2 wapentakeref04_Write.B3 = true := by kernel_rfl
set_option maxHeartbeats 8000000 in
set_option maxRecDepth 100000 in
theorem wapentakeref04_Write.calls (k : Nat) (a0_0 : Int) (a0_1 : Int) (a0_2 : Int) (a0_3 : Int) (a0_4 : Int) (a0_5 : Int) (a0_6 : Int) (a0_7 : Int) (a0_8 : Int) (a0_9 : Int) (a0_10 : Int) (a0_11 : Int) (a0_12 : ByteArray) (r : ByteArray) (w : World) (h : wapentakeref04_Write.f k a0_0 a0_1 a0_2 a0_3 a0_4 a0_5 a0_6 a0_7 a0_8 a0_9 a0_10 a0_11 a0_12 = some r) :
  Calls Try.prog 16 #[.agg #[.int .u64 a0_0, .int .u64 a0_1, .int .u8 a0_2, .int .u8 a0_3, .int .u8 a0_4, .int .u8 a0_5, .int .u8 a0_6, .int .u8 a0_7, .int .u8 a0_8, .int .u8 a0_9, .int .u8 a0_10, .int .u8 a0_11, .string a0_12]] w fun e w' => e = .returned (.string r) ∧ Below w.heap.size w w' := by
 have hu27 := Try.underlying27
 have HB := Aside0.mk (Below.refl w.heap.size w)
 have H : ((wapentakeref04_Right.f k a0_0 a0_1 a0_2 a0_3 a0_4 a0_5 a0_6 a0_7 a0_8 a0_9 a0_10 a0_11 a0_12).bind fun t253 => (if t253 = true then ((some (([a0_2] : List Int) : List Int)).bind fun y254 => ((wapentakeref01_One.f k a0_0).bind fun t257 => (if (strOfNums y254).size + t257.size ≤ 9223372036854775807 then ((wapentakeref01_One.f k a0_1).bind fun t258 => (if ((strOfNums y254) ++ t257).size + t258.size ≤ 9223372036854775807 then (if a0_2 = 2 then (wapentakeref04_Write.j0 k (((strOfNums y254) ++ t257) ++ t258) a0_2 (a0_2 == 2) a0_0 a0_1 a0_2 a0_3 a0_4 a0_5 a0_6 a0_7 a0_8 a0_9 a0_10 a0_11 a0_12) else (wapentakeref04_Write.j0 k (((strOfNums y254) ++ t257) ++ t258) a0_2 (a0_2 == 4) a0_0 a0_1 a0_2 a0_3 a0_4 a0_5 a0_6 a0_7 a0_8 a0_9 a0_10 a0_11 a0_12)) else (none))) else (none)))) else (some (⟨#[]⟩ : ByteArray)))) = some r := h
 clear h
 replace H := Option.bind_eq_some_iff.mp H
 obtain ⟨t253, A20, H⟩ := H
 replace H : (if t253 = true then ((some (([a0_2] : List Int) : List Int)).bind fun y254 => ((wapentakeref01_One.f k a0_0).bind fun t257 => (if (strOfNums y254).size + t257.size ≤ 9223372036854775807 then ((wapentakeref01_One.f k a0_1).bind fun t258 => (if ((strOfNums y254) ++ t257).size + t258.size ≤ 9223372036854775807 then (if a0_2 = 2 then (wapentakeref04_Write.j0 k (((strOfNums y254) ++ t257) ++ t258) a0_2 (a0_2 == 2) a0_0 a0_1 a0_2 a0_3 a0_4 a0_5 a0_6 a0_7 a0_8 a0_9 a0_10 a0_11 a0_12) else (wapentakeref04_Write.j0 k (((strOfNums y254) ++ t257) ++ t258) a0_2 (a0_2 == 4) a0_0 a0_1 a0_2 a0_3 a0_4 a0_5 a0_6 a0_7 a0_8 a0_9 a0_10 a0_11 a0_12)) else (none))) else (none)))) else (some (⟨#[]⟩ : ByteArray))) = some r := H
 have A2 := Aside0.mk A20
 clear A20
 by_cases c3 : t253 = true
 ·subst c3
  have H1 : ((some (([a0_2] : List Int) : List Int)).bind fun y254 => ((wapentakeref01_One.f k a0_0).bind fun t257 => (if (strOfNums y254).size + t257.size ≤ 9223372036854775807 then ((wapentakeref01_One.f k a0_1).bind fun t258 => (if ((strOfNums y254) ++ t257).size + t258.size ≤ 9223372036854775807 then (if a0_2 = 2 then (wapentakeref04_Write.j0 k (((strOfNums y254) ++ t257) ++ t258) a0_2 (a0_2 == 2) a0_0 a0_1 a0_2 a0_3 a0_4 a0_5 a0_6 a0_7 a0_8 a0_9 a0_10 a0_11 a0_12) else (wapentakeref04_Write.j0 k (((strOfNums y254) ++ t257) ++ t258) a0_2 (a0_2 == 4) a0_0 a0_1 a0_2 a0_3 a0_4 a0_5 a0_6 a0_7 a0_8 a0_9 a0_10 a0_11 a0_12)) else (none))) else (none)))) = some r := by rw [if_pos rfl] at H; exact H
  clear H
  have H := H1
  clear H1
  obtain ⟨y254, hy254⟩ : ∃ y_ : List Int, y_ = (([a0_2] : List Int)) := ⟨_, rfl⟩
  replace H : ((wapentakeref01_One.f k a0_0).bind fun t257 => (if (strOfNums y254).size + t257.size ≤ 9223372036854775807 then ((wapentakeref01_One.f k a0_1).bind fun t258 => (if ((strOfNums y254) ++ t257).size + t258.size ≤ 9223372036854775807 then (if a0_2 = 2 then (wapentakeref04_Write.j0 k (((strOfNums y254) ++ t257) ++ t258) a0_2 (a0_2 == 2) a0_0 a0_1 a0_2 a0_3 a0_4 a0_5 a0_6 a0_7 a0_8 a0_9 a0_10 a0_11 a0_12) else (wapentakeref04_Write.j0 k (((strOfNums y254) ++ t257) ++ t258) a0_2 (a0_2 == 4) a0_0 a0_1 a0_2 a0_3 a0_4 a0_5 a0_6 a0_7 a0_8 a0_9 a0_10 a0_11 a0_12)) else (none))) else (none))) = some r := by first | (rw [hy254]; with_reducible exact H) | (have H2_ := (Option.bind_some _ _).symm.trans H; rw [hy254]; with_reducible exact H2_) | (have H2_ := (Option.bind_some _ _).symm.trans H; with_reducible exact H2_) | with_reducible exact H | (rw [hy254]; exact H) | exact H
  have Ny254 := Aside0.mk hy254
  clear hy254
  replace H := Option.bind_eq_some_iff.mp H
  obtain ⟨t257, A40, H⟩ := H
  replace H : (if (strOfNums y254).size + t257.size ≤ 9223372036854775807 then ((wapentakeref01_One.f k a0_1).bind fun t258 => (if ((strOfNums y254) ++ t257).size + t258.size ≤ 9223372036854775807 then (if a0_2 = 2 then (wapentakeref04_Write.j0 k (((strOfNums y254) ++ t257) ++ t258) a0_2 (a0_2 == 2) a0_0 a0_1 a0_2 a0_3 a0_4 a0_5 a0_6 a0_7 a0_8 a0_9 a0_10 a0_11 a0_12) else (wapentakeref04_Write.j0 k (((strOfNums y254) ++ t257) ++ t258) a0_2 (a0_2 == 4) a0_0 a0_1 a0_2 a0_3 a0_4 a0_5 a0_6 a0_7 a0_8 a0_9 a0_10 a0_11 a0_12)) else (none))) else (none)) = some r := H
  have A4 := Aside0.mk A40
  clear A40
  by_cases c5 : (strOfNums y254).size + t257.size ≤ 9223372036854775807
  ·rw [if_pos c5] at H
   have c5b0 := eq_true c5
   have c5b1 : decide ((strOfNums y254).size + t257.size ≤ 9223372036854775807) = true := decide_eq_true c5
   try have c5b2 : (9223372036854775807 < (strOfNums y254).size + t257.size) = False := eq_false (Nat.not_lt.2 c5)
   replace H := Option.bind_eq_some_iff.mp H
   obtain ⟨t258, A60, H⟩ := H
   replace H : (if ((strOfNums y254) ++ t257).size + t258.size ≤ 9223372036854775807 then (if a0_2 = 2 then (wapentakeref04_Write.j0 k (((strOfNums y254) ++ t257) ++ t258) a0_2 (a0_2 == 2) a0_0 a0_1 a0_2 a0_3 a0_4 a0_5 a0_6 a0_7 a0_8 a0_9 a0_10 a0_11 a0_12) else (wapentakeref04_Write.j0 k (((strOfNums y254) ++ t257) ++ t258) a0_2 (a0_2 == 4) a0_0 a0_1 a0_2 a0_3 a0_4 a0_5 a0_6 a0_7 a0_8 a0_9 a0_10 a0_11 a0_12)) else (none)) = some r := H
   have A6 := Aside0.mk A60
   clear A60
   by_cases c7 : ((strOfNums y254) ++ t257).size + t258.size ≤ 9223372036854775807
   ·rw [if_pos c7] at H
    have c7b0 := eq_true c7
    have c7b1 : decide (((strOfNums y254) ++ t257).size + t258.size ≤ 9223372036854775807) = true := decide_eq_true c7
    try have c7b2 : (9223372036854775807 < ((strOfNums y254) ++ t257).size + t258.size) = False := eq_false (Nat.not_lt.2 c7)
    have c7n := c7
    try simp only [ByteArray.size_append] at c7n
    try have c7b3 := eq_false (Nat.not_lt.2 c7n)
    clear c7n
    have HC8 := Aside0.mk H
    clear H
    go_enter Try.func16, Try.ntmps16
    try go_wp2_with (first | ((with_reducible refine gate_dst (N := 1) rfl ?_); refine box_event ?hg (N := 1) ?hd (cs := #[.int .u64 a0_0, .int .u64 a0_1, .int .u8 a0_2, .int .u8 a0_3, .int .u8 a0_4, .int .u8 a0_5, .int .u8 a0_6, .int .u8 a0_7, .int .u8 a0_8, .int .u8 a0_9, .int .u8 a0_10, .int .u8 a0_11, .string a0_12]) (t := 27) ?hr ?_; (case hd => rfl); (case hg => rfl); (case hr => first | (go_simp; done) | (go_simp; rfl)); intro gb252 hg w9 hbox hb; have n0_ := Aside0.mk (below_step (by repeat (first | (with_reducible first | exact HB.out | apply below_alloc | apply pw_below_drewN | apply below_drew1) | exact HB.out)) hb); have n1_ := Aside0.mk (hbox); have n2_ := Aside0.mk ((by rw [hg]; exact (below_size (by repeat (first | (with_reducible first | exact HB.out | apply below_alloc | apply pw_below_drewN | apply below_drew1) | exact HB.out))) : w.heap.size ≤ gb252)); have n3_ := Aside0.mk ((by rw [hg]; exact (below_size (by repeat (first | (with_reducible first | exact HB.out | apply below_alloc | apply pw_below_drewN | apply below_drew1) | exact HB.out))) : w.heap.size ≤ gb252)); clear HB; have HB := n0_; have BK252 := n1_; have GW252 := n2_; have GE252 := n3_; clear n0_ n1_ n2_ n3_; clear hb hbox hg; have hcz10_0 : w9.cell? ⟨gb252, 0, none⟩ = some (.int .u64 a0_0) := (blk_cell BK252.out 0).trans rfl; have hcz10_1 : w9.cell? ⟨gb252, 1, none⟩ = some (.int .u64 a0_1) := (blk_cell BK252.out 1).trans rfl; have hcz10_2 : w9.cell? ⟨gb252, 2, none⟩ = some (.int .u8 a0_2) := (blk_cell BK252.out 2).trans rfl; have hcz10_3 : w9.cell? ⟨gb252, 3, none⟩ = some (.int .u8 a0_3) := (blk_cell BK252.out 3).trans rfl; have hcz10_4 : w9.cell? ⟨gb252, 4, none⟩ = some (.int .u8 a0_4) := (blk_cell BK252.out 4).trans rfl; have hcz10_5 : w9.cell? ⟨gb252, 5, none⟩ = some (.int .u8 a0_5) := (blk_cell BK252.out 5).trans rfl; have hcz10_6 : w9.cell? ⟨gb252, 6, none⟩ = some (.int .u8 a0_6) := (blk_cell BK252.out 6).trans rfl; have hcz10_7 : w9.cell? ⟨gb252, 7, none⟩ = some (.int .u8 a0_7) := (blk_cell BK252.out 7).trans rfl; have hcz10_8 : w9.cell? ⟨gb252, 8, none⟩ = some (.int .u8 a0_8) := (blk_cell BK252.out 8).trans rfl; have hcz10_9 : w9.cell? ⟨gb252, 9, none⟩ = some (.int .u8 a0_9) := (blk_cell BK252.out 9).trans rfl; have hcz10_10 : w9.cell? ⟨gb252, 10, none⟩ = some (.int .u8 a0_10) := (blk_cell BK252.out 10).trans rfl; have hcz10_11 : w9.cell? ⟨gb252, 11, none⟩ = some (.int .u8 a0_11) := (blk_cell BK252.out 11).trans rfl; have hcz10_12 : w9.cell? ⟨gb252, 12, none⟩ = some (.string a0_12) := (blk_cell BK252.out 12).trans rfl; have hfz10_0 := blk_frozen BK252.out 0; have hfz10_1 := blk_frozen BK252.out 1; have hfz10_2 := blk_frozen BK252.out 2; have hfz10_3 := blk_frozen BK252.out 3; have hfz10_4 := blk_frozen BK252.out 4; have hfz10_5 := blk_frozen BK252.out 5; have hfz10_6 := blk_frozen BK252.out 6; have hfz10_7 := blk_frozen BK252.out 7; have hfz10_8 := blk_frozen BK252.out 8; have hfz10_9 := blk_frozen BK252.out 9; have hfz10_10 := blk_frozen BK252.out 10; have hfz10_11 := blk_frozen BK252.out 11; have hfz10_12 := blk_frozen BK252.out 12) | ((with_reducible refine gate_callee (f := 15) rfl ?_); refine goesL_ (some 6) rfl rfl Try.func15 (by kernel_rfl) rfl #[.agg #[.int .u64 a0_0, .int .u64 a0_1, .int .u8 a0_2, .int .u8 a0_3, .int .u8 a0_4, .int .u8 a0_5, .int .u8 a0_6, .int .u8 a0_7, .int .u8 a0_8, .int .u8 a0_9, .int .u8 a0_10, .int .u8 a0_11, .string a0_12]] rfl (by (try simp only [List.map_toArray, List.map_cons, List.map_nil]); first | done | rfl | (simp only [List.length_drop, List.length_take]; rfl)) ?_; (with_reducible refine (wapentakeref04_Right.calls k a0_0 a0_1 a0_2 a0_3 a0_4 a0_5 a0_6 a0_7 a0_8 a0_9 a0_10 a0_11 a0_12 true _ A2.out).mono ?_); rintro e w11 ⟨rfl, hb⟩; refine ⟨_, rfl, ?_⟩; have n0_ := Aside0.mk (blk_below (g := gb252) (o := .cells #[.int .u64 a0_0, .int .u64 a0_1, .int .u8 a0_2, .int .u8 a0_3, .int .u8 a0_4, .int .u8 a0_5, .int .u8 a0_6, .int .u8 a0_7, .int .u8 a0_8, .int .u8 a0_9, .int .u8 a0_10, .int .u8 a0_11, .string a0_12] 27 (0, 0)) (by (with_reducible repeat (first | refine blk_drewN ?_ _ | refine blk_drew ?_ | refine blk_alloc ?_ _)); exact BK252.out) hb); have n1_ := Aside0.mk (below_step (by repeat (first | (with_reducible first | exact HB.out | apply below_alloc | apply pw_below_drewN | apply below_drew1 | refine below_set ?_ GE252.out) | exact HB.out)) hb); clear BK252; clear HB; have BK252 := n0_; have HB := n1_; clear n0_ n1_; (try clear hb); (try clear hb2); (try clear hk); (try clear hi)))
    have n0_ := Aside0.mk (blk_drew BK252.out)
    have n1_ := Aside0.mk (below_drew1 HB.out)
    clear BK252
    clear HB
    have BK252 := n0_
    have HB := n1_
    clear n0_ n1_
    refine start_ (n := 13) (S := fun w' => w'.cell? ⟨gb252, 0, none⟩ = some (.int .u64 a0_0) ∧ w'.cell? ⟨gb252, 1, none⟩ = some (.int .u64 a0_1) ∧ w'.cell? ⟨gb252, 2, none⟩ = some (.int .u8 a0_2) ∧ w'.cell? ⟨gb252, 3, none⟩ = some (.int .u8 a0_3) ∧ w'.cell? ⟨gb252, 4, none⟩ = some (.int .u8 a0_4) ∧ w'.cell? ⟨gb252, 5, none⟩ = some (.int .u8 a0_5) ∧ w'.cell? ⟨gb252, 6, none⟩ = some (.int .u8 a0_6) ∧ w'.cell? ⟨gb252, 7, none⟩ = some (.int .u8 a0_7) ∧ w'.cell? ⟨gb252, 8, none⟩ = some (.int .u8 a0_8) ∧ w'.cell? ⟨gb252, 9, none⟩ = some (.int .u8 a0_9) ∧ w'.cell? ⟨gb252, 10, none⟩ = some (.int .u8 a0_10) ∧ w'.cell? ⟨gb252, 11, none⟩ = some (.int .u8 a0_11) ∧ w'.cell? ⟨gb252, 12, none⟩ = some (.string a0_12)) (ds := []) #[false, false, false, false, false, false, false, false, false, false, false, false, false] (by kernel_rfl) rfl rfl ⟨(blk_cell BK252.out 0).trans rfl, (blk_cell BK252.out 1).trans rfl, (blk_cell BK252.out 2).trans rfl, (blk_cell BK252.out 3).trans rfl, (blk_cell BK252.out 4).trans rfl, (blk_cell BK252.out 5).trans rfl, (blk_cell BK252.out 6).trans rfl, (blk_cell BK252.out 7).trans rfl, (blk_cell BK252.out 8).trans rfl, (blk_cell BK252.out 9).trans rfl, (blk_cell BK252.out 10).trans rfl, (blk_cell BK252.out 11).trans rfl, (blk_cell BK252.out 12).trans rfl⟩ (fun hHeld => ?_); refine with_tabW wapentakeref04_Write.tab3 wapentakeref04_Write.bits3 (fun HT_ HW_ => ?_)
    generalize w11.drew = w12 at BK252 HB hHeld ⊢
    refine pure_ (i := 0) (N := some 8) (v := ?_) (a' := ?_) (bq_15_ 13 1) rfl rfl (any_of HT_.out (by kernel_rfl)) (fun _ _ _ h => h) (Or.inl ⟨by rfl, ?_⟩) ?_ ?_
    rotate_left
    ·intro w'
     go_simp
     with_reducible rfl
    rotate_left
    ·simp only [Act.put, zA15_, zB15_, zC15_, i64_w, i32_w]
     rfl
    refine pure_ (i := 4) (N := some 12) (v := ?_) (a' := ?_) (bq_15_ 13 17) rfl rfl (any_of HT_.out (by kernel_rfl)) (fun _ _ _ h => h) (Or.inl ⟨by rfl, ?_⟩) ?_ ?_
    rotate_left
    ·intro w'
     go_simp
     with_reducible rfl
    rotate_left
    ·simp only [Act.put, zA15_, zB15_, zC15_, i64_w, i32_w]
     rfl
    refine pure_ (i := 8) (N := some 16) (v := ?_) (a' := ?_) (bq_15_ 13 273) rfl rfl (any_of HT_.out (by kernel_rfl)) (fun _ _ _ h => h) (Or.inl ⟨by rfl, ?_⟩) ?_ ?_
    rotate_left
    ·intro w'
     go_simp
     with_reducible rfl
    rotate_left
    ·simp only [Act.put, zA15_, zB15_, zC15_, i64_w, i32_w]
     rfl
    refine take_ (i := 1) (N := some 9) (v := ?_) (a' := ?_) (bq_15_ 13 275) rfl rfl (take_ofW HT_.out HW_.out (by kernel_rfl)) (fun _ _ _ h => h) (Or.inl ⟨by rfl, ?_⟩) hHeld ?_ ?_
    rotate_left
    ·rintro w' ⟨s0, s1, s2, s3, s4, s5, s6, s7, s8, s9, s10, s11, s12⟩
     go_simp
     with_reducible rfl
    rotate_left
    ·simp only [Act.put, zA15_, zB15_, zC15_, i64_w, i32_w]
     rfl
    refine take_ (i := 5) (N := some 13) (v := ?_) (a' := ?_) (bq_15_ 13 307) rfl rfl (take_ofW HT_.out HW_.out (by kernel_rfl)) (fun _ _ _ h => h) (Or.inl ⟨by rfl, ?_⟩) hHeld ?_ ?_
    rotate_left
    ·rintro w' ⟨s0, s1, s2, s3, s4, s5, s6, s7, s8, s9, s10, s11, s12⟩
     go_simp
     with_reducible rfl
    rotate_left
    ·simp only [Act.put, zA15_, zB15_, zC15_, i64_w, i32_w]
     rfl
    refine take_ (i := 9) (N := some 17) (v := ?_) (a' := ?_) (bq_15_ 13 819) rfl rfl (take_ofW HT_.out HW_.out (by kernel_rfl)) (fun _ _ _ h => h) (Or.inl ⟨by rfl, ?_⟩) hHeld ?_ ?_
    rotate_left
    ·rintro w' ⟨s0, s1, s2, s3, s4, s5, s6, s7, s8, s9, s10, s11, s12⟩
     go_simp
     with_reducible rfl
    rotate_left
    ·simp only [Act.put, zA15_, zB15_, zC15_, i64_w, i32_w]
     rfl
    refine join_ (σ := Value) 2 #[true, true, true, true, true, true, true, true, true, true, true, false, false] (fun s_ => [(10, s_), (11, .string (strOfNums y254)), (14, .string t257), (18, .string t258), (15, .string ((strOfNums y254) ++ t257))]) (fun s_ w' => (w'.cell? ⟨gb252, 0, none⟩ = some (.int .u64 a0_0) ∧ w'.cell? ⟨gb252, 1, none⟩ = some (.int .u64 a0_1) ∧ w'.cell? ⟨gb252, 2, none⟩ = some (.int .u8 a0_2) ∧ w'.cell? ⟨gb252, 3, none⟩ = some (.int .u8 a0_3) ∧ w'.cell? ⟨gb252, 4, none⟩ = some (.int .u8 a0_4) ∧ w'.cell? ⟨gb252, 5, none⟩ = some (.int .u8 a0_5) ∧ w'.cell? ⟨gb252, 6, none⟩ = some (.int .u8 a0_6) ∧ w'.cell? ⟨gb252, 7, none⟩ = some (.int .u8 a0_7) ∧ w'.cell? ⟨gb252, 8, none⟩ = some (.int .u8 a0_8) ∧ w'.cell? ⟨gb252, 9, none⟩ = some (.int .u8 a0_9) ∧ w'.cell? ⟨gb252, 10, none⟩ = some (.int .u8 a0_10) ∧ w'.cell? ⟨gb252, 11, none⟩ = some (.int .u8 a0_11) ∧ w'.cell? ⟨gb252, 12, none⟩ = some (.string a0_12)) ∧ (Kd.R (Kd.int .u8) 5 w' w.heap.size (fun _ => True) s_ y254) ∧ (w'.heap[gb252]? = some (.cells #[.int .u64 a0_0, .int .u64 a0_1, .int .u8 a0_2, .int .u8 a0_3, .int .u8 a0_4, .int .u8 a0_5, .int .u8 a0_6, .int .u8 a0_7, .int .u8 a0_8, .int .u8 a0_9, .int .u8 a0_10, .int .u8 a0_11, .string a0_12] 27 (0, 0))) ∧ (Below w.heap.size w w')) ?_ ?_
    rotate_left
    ·intro hJ2_3_6_10
     refine join_ (σ := Value) 3 #[true, true, true, true, true, true, true, true, true, true, false, false, false] (fun s_ => [(10, s_), (11, .string (strOfNums y254)), (14, .string t257), (15, .string ((strOfNums y254) ++ t257))]) (fun s_ w' => (w'.cell? ⟨gb252, 0, none⟩ = some (.int .u64 a0_0) ∧ w'.cell? ⟨gb252, 1, none⟩ = some (.int .u64 a0_1) ∧ w'.cell? ⟨gb252, 2, none⟩ = some (.int .u8 a0_2) ∧ w'.cell? ⟨gb252, 3, none⟩ = some (.int .u8 a0_3) ∧ w'.cell? ⟨gb252, 4, none⟩ = some (.int .u8 a0_4) ∧ w'.cell? ⟨gb252, 5, none⟩ = some (.int .u8 a0_5) ∧ w'.cell? ⟨gb252, 6, none⟩ = some (.int .u8 a0_6) ∧ w'.cell? ⟨gb252, 7, none⟩ = some (.int .u8 a0_7) ∧ w'.cell? ⟨gb252, 8, none⟩ = some (.int .u8 a0_8) ∧ w'.cell? ⟨gb252, 9, none⟩ = some (.int .u8 a0_9) ∧ w'.cell? ⟨gb252, 10, none⟩ = some (.int .u8 a0_10) ∧ w'.cell? ⟨gb252, 11, none⟩ = some (.int .u8 a0_11) ∧ w'.cell? ⟨gb252, 12, none⟩ = some (.string a0_12)) ∧ (Kd.R (Kd.int .u8) 5 w' w.heap.size (fun _ => True) s_ y254) ∧ (w'.heap[gb252]? = some (.cells #[.int .u64 a0_0, .int .u64 a0_1, .int .u8 a0_2, .int .u8 a0_3, .int .u8 a0_4, .int .u8 a0_5, .int .u8 a0_6, .int .u8 a0_7, .int .u8 a0_8, .int .u8 a0_9, .int .u8 a0_10, .int .u8 a0_11, .string a0_12] 27 (0, 0))) ∧ (Below w.heap.size w w')) ?_ ?_
     rotate_left
     ·intro hJ2_3_6
      refine join_ (σ := Value) 4 #[true, true, true, false, true, true, true, false, true, true, true, false, false] (fun s_ => [(10, s_), (14, .string t257), (18, .string t258)]) (fun s_ w' => (w'.cell? ⟨gb252, 0, none⟩ = some (.int .u64 a0_0) ∧ w'.cell? ⟨gb252, 1, none⟩ = some (.int .u64 a0_1) ∧ w'.cell? ⟨gb252, 2, none⟩ = some (.int .u8 a0_2) ∧ w'.cell? ⟨gb252, 3, none⟩ = some (.int .u8 a0_3) ∧ w'.cell? ⟨gb252, 4, none⟩ = some (.int .u8 a0_4) ∧ w'.cell? ⟨gb252, 5, none⟩ = some (.int .u8 a0_5) ∧ w'.cell? ⟨gb252, 6, none⟩ = some (.int .u8 a0_6) ∧ w'.cell? ⟨gb252, 7, none⟩ = some (.int .u8 a0_7) ∧ w'.cell? ⟨gb252, 8, none⟩ = some (.int .u8 a0_8) ∧ w'.cell? ⟨gb252, 9, none⟩ = some (.int .u8 a0_9) ∧ w'.cell? ⟨gb252, 10, none⟩ = some (.int .u8 a0_10) ∧ w'.cell? ⟨gb252, 11, none⟩ = some (.int .u8 a0_11) ∧ w'.cell? ⟨gb252, 12, none⟩ = some (.string a0_12)) ∧ (Kd.R (Kd.int .u8) 5 w' w.heap.size (fun _ => True) s_ y254) ∧ (w'.heap[gb252]? = some (.cells #[.int .u64 a0_0, .int .u64 a0_1, .int .u8 a0_2, .int .u8 a0_3, .int .u8 a0_4, .int .u8 a0_5, .int .u8 a0_6, .int .u8 a0_7, .int .u8 a0_8, .int .u8 a0_9, .int .u8 a0_10, .int .u8 a0_11, .string a0_12] 27 (0, 0))) ∧ (Below w.heap.size w w')) ?_ ?_
      rotate_left
      ·intro hJ2_6_10
       refine join_ (σ := Value) 5 #[true, true, true, true, true, true, false, false, true, true, false, false, false] (fun s_ => [(10, s_), (11, .string (strOfNums y254))]) (fun s_ w' => (w'.cell? ⟨gb252, 0, none⟩ = some (.int .u64 a0_0) ∧ w'.cell? ⟨gb252, 1, none⟩ = some (.int .u64 a0_1) ∧ w'.cell? ⟨gb252, 2, none⟩ = some (.int .u8 a0_2) ∧ w'.cell? ⟨gb252, 3, none⟩ = some (.int .u8 a0_3) ∧ w'.cell? ⟨gb252, 4, none⟩ = some (.int .u8 a0_4) ∧ w'.cell? ⟨gb252, 5, none⟩ = some (.int .u8 a0_5) ∧ w'.cell? ⟨gb252, 6, none⟩ = some (.int .u8 a0_6) ∧ w'.cell? ⟨gb252, 7, none⟩ = some (.int .u8 a0_7) ∧ w'.cell? ⟨gb252, 8, none⟩ = some (.int .u8 a0_8) ∧ w'.cell? ⟨gb252, 9, none⟩ = some (.int .u8 a0_9) ∧ w'.cell? ⟨gb252, 10, none⟩ = some (.int .u8 a0_10) ∧ w'.cell? ⟨gb252, 11, none⟩ = some (.int .u8 a0_11) ∧ w'.cell? ⟨gb252, 12, none⟩ = some (.string a0_12)) ∧ (Kd.R (Kd.int .u8) 5 w' w.heap.size (fun _ => True) s_ y254) ∧ (w'.heap[gb252]? = some (.cells #[.int .u64 a0_0, .int .u64 a0_1, .int .u8 a0_2, .int .u8 a0_3, .int .u8 a0_4, .int .u8 a0_5, .int .u8 a0_6, .int .u8 a0_7, .int .u8 a0_8, .int .u8 a0_9, .int .u8 a0_10, .int .u8 a0_11, .string a0_12] 27 (0, 0))) ∧ (Below w.heap.size w w')) ?_ ?_
       rotate_left
       ·intro hJ2_3
        refine join_ (σ := Value) 5 #[true, true, true, false, true, true, true, false, true, true, false, false, false] (fun s_ => [(10, s_), (14, .string t257)]) (fun s_ w' => (w'.cell? ⟨gb252, 0, none⟩ = some (.int .u64 a0_0) ∧ w'.cell? ⟨gb252, 1, none⟩ = some (.int .u64 a0_1) ∧ w'.cell? ⟨gb252, 2, none⟩ = some (.int .u8 a0_2) ∧ w'.cell? ⟨gb252, 3, none⟩ = some (.int .u8 a0_3) ∧ w'.cell? ⟨gb252, 4, none⟩ = some (.int .u8 a0_4) ∧ w'.cell? ⟨gb252, 5, none⟩ = some (.int .u8 a0_5) ∧ w'.cell? ⟨gb252, 6, none⟩ = some (.int .u8 a0_6) ∧ w'.cell? ⟨gb252, 7, none⟩ = some (.int .u8 a0_7) ∧ w'.cell? ⟨gb252, 8, none⟩ = some (.int .u8 a0_8) ∧ w'.cell? ⟨gb252, 9, none⟩ = some (.int .u8 a0_9) ∧ w'.cell? ⟨gb252, 10, none⟩ = some (.int .u8 a0_10) ∧ w'.cell? ⟨gb252, 11, none⟩ = some (.int .u8 a0_11) ∧ w'.cell? ⟨gb252, 12, none⟩ = some (.string a0_12)) ∧ (Kd.R (Kd.int .u8) 5 w' w.heap.size (fun _ => True) s_ y254) ∧ (w'.heap[gb252]? = some (.cells #[.int .u64 a0_0, .int .u64 a0_1, .int .u8 a0_2, .int .u8 a0_3, .int .u8 a0_4, .int .u8 a0_5, .int .u8 a0_6, .int .u8 a0_7, .int .u8 a0_8, .int .u8 a0_9, .int .u8 a0_10, .int .u8 a0_11, .string a0_12] 27 (0, 0))) ∧ (Below w.heap.size w w')) ?_ ?_
        rotate_left
        ·intro hJ2_6
         refine join_ (σ := Unit) 5 #[true, true, false, false, true, true, true, false, true, true, true, false, false] (fun s_ => [(14, .string t257), (18, .string t258)]) (fun s_ w' => (w'.cell? ⟨gb252, 0, none⟩ = some (.int .u64 a0_0) ∧ w'.cell? ⟨gb252, 1, none⟩ = some (.int .u64 a0_1) ∧ w'.cell? ⟨gb252, 2, none⟩ = some (.int .u8 a0_2) ∧ w'.cell? ⟨gb252, 3, none⟩ = some (.int .u8 a0_3) ∧ w'.cell? ⟨gb252, 4, none⟩ = some (.int .u8 a0_4) ∧ w'.cell? ⟨gb252, 5, none⟩ = some (.int .u8 a0_5) ∧ w'.cell? ⟨gb252, 6, none⟩ = some (.int .u8 a0_6) ∧ w'.cell? ⟨gb252, 7, none⟩ = some (.int .u8 a0_7) ∧ w'.cell? ⟨gb252, 8, none⟩ = some (.int .u8 a0_8) ∧ w'.cell? ⟨gb252, 9, none⟩ = some (.int .u8 a0_9) ∧ w'.cell? ⟨gb252, 10, none⟩ = some (.int .u8 a0_10) ∧ w'.cell? ⟨gb252, 11, none⟩ = some (.int .u8 a0_11) ∧ w'.cell? ⟨gb252, 12, none⟩ = some (.string a0_12)) ∧ (w'.heap[gb252]? = some (.cells #[.int .u64 a0_0, .int .u64 a0_1, .int .u8 a0_2, .int .u8 a0_3, .int .u8 a0_4, .int .u8 a0_5, .int .u8 a0_6, .int .u8 a0_7, .int .u8 a0_8, .int .u8 a0_9, .int .u8 a0_10, .int .u8 a0_11, .string a0_12] 27 (0, 0))) ∧ (Below w.heap.size w w')) ?_ ?_
         rotate_left
         ·intro hJ6_10
          refine join_ (σ := Value) 6 #[true, true, true, false, true, true, false, false, true, true, false, false, false] (fun s_ => [(10, s_)]) (fun s_ w' => (w'.cell? ⟨gb252, 0, none⟩ = some (.int .u64 a0_0) ∧ w'.cell? ⟨gb252, 1, none⟩ = some (.int .u64 a0_1) ∧ w'.cell? ⟨gb252, 2, none⟩ = some (.int .u8 a0_2) ∧ w'.cell? ⟨gb252, 3, none⟩ = some (.int .u8 a0_3) ∧ w'.cell? ⟨gb252, 4, none⟩ = some (.int .u8 a0_4) ∧ w'.cell? ⟨gb252, 5, none⟩ = some (.int .u8 a0_5) ∧ w'.cell? ⟨gb252, 6, none⟩ = some (.int .u8 a0_6) ∧ w'.cell? ⟨gb252, 7, none⟩ = some (.int .u8 a0_7) ∧ w'.cell? ⟨gb252, 8, none⟩ = some (.int .u8 a0_8) ∧ w'.cell? ⟨gb252, 9, none⟩ = some (.int .u8 a0_9) ∧ w'.cell? ⟨gb252, 10, none⟩ = some (.int .u8 a0_10) ∧ w'.cell? ⟨gb252, 11, none⟩ = some (.int .u8 a0_11) ∧ w'.cell? ⟨gb252, 12, none⟩ = some (.string a0_12)) ∧ (Kd.R (Kd.int .u8) 5 w' w.heap.size (fun _ => True) s_ y254) ∧ (w'.heap[gb252]? = some (.cells #[.int .u64 a0_0, .int .u64 a0_1, .int .u8 a0_2, .int .u8 a0_3, .int .u8 a0_4, .int .u8 a0_5, .int .u8 a0_6, .int .u8 a0_7, .int .u8 a0_8, .int .u8 a0_9, .int .u8 a0_10, .int .u8 a0_11, .string a0_12] 27 (0, 0))) ∧ (Below w.heap.size w w')) ?_ ?_
          rotate_left
          ·intro hJ2
           refine join_ (σ := Unit) 6 #[true, true, false, false, true, true, true, false, true, true, false, false, false] (fun s_ => [(14, .string t257)]) (fun s_ w' => (w'.cell? ⟨gb252, 0, none⟩ = some (.int .u64 a0_0) ∧ w'.cell? ⟨gb252, 1, none⟩ = some (.int .u64 a0_1) ∧ w'.cell? ⟨gb252, 2, none⟩ = some (.int .u8 a0_2) ∧ w'.cell? ⟨gb252, 3, none⟩ = some (.int .u8 a0_3) ∧ w'.cell? ⟨gb252, 4, none⟩ = some (.int .u8 a0_4) ∧ w'.cell? ⟨gb252, 5, none⟩ = some (.int .u8 a0_5) ∧ w'.cell? ⟨gb252, 6, none⟩ = some (.int .u8 a0_6) ∧ w'.cell? ⟨gb252, 7, none⟩ = some (.int .u8 a0_7) ∧ w'.cell? ⟨gb252, 8, none⟩ = some (.int .u8 a0_8) ∧ w'.cell? ⟨gb252, 9, none⟩ = some (.int .u8 a0_9) ∧ w'.cell? ⟨gb252, 10, none⟩ = some (.int .u8 a0_10) ∧ w'.cell? ⟨gb252, 11, none⟩ = some (.int .u8 a0_11) ∧ w'.cell? ⟨gb252, 12, none⟩ = some (.string a0_12)) ∧ (w'.heap[gb252]? = some (.cells #[.int .u64 a0_0, .int .u64 a0_1, .int .u8 a0_2, .int .u8 a0_3, .int .u8 a0_4, .int .u8 a0_5, .int .u8 a0_6, .int .u8 a0_7, .int .u8 a0_8, .int .u8 a0_9, .int .u8 a0_10, .int .u8 a0_11, .string a0_12] 27 (0, 0))) ∧ (Below w.heap.size w w')) ?_ ?_
           rotate_left
           ·intro hJ6
            refine two_ (i := 2) (j := 6) (Ni := some 10) (Nj := some 14) #[true, true, true, false, true, true, false, false, true, true, false, false, false] #[true, true, false, false, true, true, true, false, true, true, false, false, false] rfl rfl rfl rfl (two_of HT_.out (by kernel_rfl)) (by decide) (by decide) (fun K hK => ?_) (fun K hK => ?_)
            ·skip
             refine Kd.R_lit_step (Kd.int .u8) _ 5 ?hg (N := 10) ?hd (xs := ([a0_2] : List Int)) (inner := [.int .u8 a0_2]) (ok := fun _ => True) (okp := fun _ => True) ?hr ?hp (fun _ hk => hk) trivial (Below.refl _ _) (Nat.le_refl _) (by simp) ?_; (case hd => rfl); (case hg => rfl); (case hr => first | (go_simp; done) | (go_simp; rfl)); (case hp => exact (Reps.one (show Kd.M (Kd.int .u8) _ _ _ a0_2 [.int .u8 a0_2] from rfl) (Reps.none _ _)))
             intro v255 w13 ho14 hb hg_ hnew_
             clear hg_ hnew_
             (first | rw [← Ny254.out] at ho14 | (simp only [Int.reduceToNat] at ho14; rw [← Ny254.out] at ho14))
             have n0_ := Aside0.mk (Kd.R_lower ho14 (below_size (by repeat (first | (with_reducible first | exact HB.out | apply below_alloc | apply pw_below_drewN | apply below_drew1 | refine below_set ?_ GE252.out) | exact HB.out))))
             have n1_ := Aside0.mk (blk_below (g := gb252) (o := .cells #[.int .u64 a0_0, .int .u64 a0_1, .int .u8 a0_2, .int .u8 a0_3, .int .u8 a0_4, .int .u8 a0_5, .int .u8 a0_6, .int .u8 a0_7, .int .u8 a0_8, .int .u8 a0_9, .int .u8 a0_10, .int .u8 a0_11, .string a0_12] 27 (0, 0)) (by (with_reducible repeat (first | refine blk_drewN ?_ _ | refine blk_drew ?_ | refine blk_alloc ?_ _)); exact BK252.out) hb)
             have n2_ := Aside0.mk (below_step (by repeat (first | (with_reducible first | exact HB.out | apply below_alloc | apply pw_below_drewN | apply below_drew1 | refine below_set ?_ GE252.out) | exact HB.out)) hb)
             clear BK252
             clear HB
             have HO256 := n0_
             have BK252 := n1_
             have HB := n2_
             clear n0_ n1_ n2_
             clear hb ho14
             refine hK.out _ _ ⟨(blk_cell BK252.out 0).trans rfl, (blk_cell BK252.out 1).trans rfl, (blk_cell BK252.out 2).trans rfl, (blk_cell BK252.out 3).trans rfl, (blk_cell BK252.out 4).trans rfl, (blk_cell BK252.out 5).trans rfl, (blk_cell BK252.out 6).trans rfl, (blk_cell BK252.out 7).trans rfl, (blk_cell BK252.out 8).trans rfl, (blk_cell BK252.out 9).trans rfl, (blk_cell BK252.out 10).trans rfl, (blk_cell BK252.out 11).trans rfl, (blk_cell BK252.out 12).trans rfl⟩ (fun hHeld => ?_)
             clear hK K
             refine norm_ (a' := ?_) ?_ ?_
             rotate_left
             ·show Act.put _ (some 10) _ = _
              simp only [Act.put, zA15_, zB15_, zC15_, i64_w, i32_w]
              rfl
             exact norm_ (by first | (simp only [putAll, Act.put, zA15_, zB15_, zC15_]; done) | (simp only [putAll, Act.put, zA15_, zB15_, zC15_]; rfl)) (hJ2 (v255) _ ⟨hHeld, (by (with_reducible repeat (first | apply Kd.R_alloc | apply Kd.R_drewN | apply Kd.R_drew)); exact HO256.out), (by (with_reducible repeat (first | refine blk_drewN ?_ _ | refine blk_drew ?_ | refine blk_alloc ?_ _)); exact BK252.out), (by repeat (first | (with_reducible first | exact HB.out | apply below_alloc | apply pw_below_drewN | apply below_drew1 | refine below_set ?_ GE252.out) | exact HB.out))⟩)
            ·skip
             refine goes_ Try.func27 (by kernel_rfl) rfl #[.int .u64 a0_0] (by rfl) rfl rfl (by (try simp only [List.map_toArray, List.map_cons, List.map_nil]); first | done | rfl | (simp only [List.length_drop, List.length_take]; rfl)) ?_
             with_reducible refine (wapentakeref01_One.calls k a0_0 t257 _ A4.out).mono ?_
             rintro e w13 ⟨rfl, hb⟩
             refine ⟨_, rfl, ?_⟩
             have n0_ := Aside0.mk (blk_below (g := gb252) (o := .cells #[.int .u64 a0_0, .int .u64 a0_1, .int .u8 a0_2, .int .u8 a0_3, .int .u8 a0_4, .int .u8 a0_5, .int .u8 a0_6, .int .u8 a0_7, .int .u8 a0_8, .int .u8 a0_9, .int .u8 a0_10, .int .u8 a0_11, .string a0_12] 27 (0, 0)) (by (with_reducible repeat (first | refine blk_drewN ?_ _ | refine blk_drew ?_ | refine blk_alloc ?_ _)); exact BK252.out) hb)
             have n1_ := Aside0.mk (below_step (by repeat (first | (with_reducible first | exact HB.out | apply below_alloc | apply pw_below_drewN | apply below_drew1 | refine below_set ?_ GE252.out) | exact HB.out)) hb)
             clear BK252
             clear HB
             have BK252 := n0_
             have HB := n1_
             clear n0_ n1_
             (try clear hb)
             (try clear hb2)
             (try clear hk)
             (try clear hi)
             refine hK.out _ _ ⟨(blk_cell BK252.out 0).trans rfl, (blk_cell BK252.out 1).trans rfl, (blk_cell BK252.out 2).trans rfl, (blk_cell BK252.out 3).trans rfl, (blk_cell BK252.out 4).trans rfl, (blk_cell BK252.out 5).trans rfl, (blk_cell BK252.out 6).trans rfl, (blk_cell BK252.out 7).trans rfl, (blk_cell BK252.out 8).trans rfl, (blk_cell BK252.out 9).trans rfl, (blk_cell BK252.out 10).trans rfl, (blk_cell BK252.out 11).trans rfl, (blk_cell BK252.out 12).trans rfl⟩ (fun hHeld => ?_)
             clear hK K
             refine norm_ (a' := ?_) ?_ ?_
             rotate_left
             ·show Act.put _ (some 14) _ = _
              simp only [Act.put, zA15_, zB15_, zC15_, i64_w, i32_w]
              rfl
             exact norm_ (by first | (simp only [putAll, Act.put, zA15_, zB15_, zC15_]; done) | (simp only [putAll, Act.put, zA15_, zB15_, zC15_]; rfl)) (hJ6 () _ ⟨hHeld, (by (with_reducible repeat (first | refine blk_drewN ?_ _ | refine blk_drew ?_ | refine blk_alloc ?_ _)); exact BK252.out), (by repeat (first | (with_reducible first | exact HB.out | apply below_alloc | apply pw_below_drewN | apply below_drew1 | refine below_set ?_ GE252.out) | exact HB.out))⟩)
           ·skip
            rintro _ w14 ⟨hS_, h0_, h1_⟩
            have n0_ : Aside0 (w14.heap[gb252]? = some (.cells #[.int .u64 a0_0, .int .u64 a0_1, .int .u8 a0_2, .int .u8 a0_3, .int .u8 a0_4, .int .u8 a0_5, .int .u8 a0_6, .int .u8 a0_7, .int .u8 a0_8, .int .u8 a0_9, .int .u8 a0_10, .int .u8 a0_11, .string a0_12] 27 (0, 0))) := ⟨h0_⟩
            have n1_ : Aside0 (Below w.heap.size w w14) := ⟨h1_⟩
            clear BK252
            clear HB
            clear h0_ h1_
            have BK252 := n0_
            have HB := n1_
            clear n0_ n1_
            have hHeld : w14.cell? ⟨gb252, 0, none⟩ = some (.int .u64 a0_0) ∧ w14.cell? ⟨gb252, 1, none⟩ = some (.int .u64 a0_1) ∧ w14.cell? ⟨gb252, 2, none⟩ = some (.int .u8 a0_2) ∧ w14.cell? ⟨gb252, 3, none⟩ = some (.int .u8 a0_3) ∧ w14.cell? ⟨gb252, 4, none⟩ = some (.int .u8 a0_4) ∧ w14.cell? ⟨gb252, 5, none⟩ = some (.int .u8 a0_5) ∧ w14.cell? ⟨gb252, 6, none⟩ = some (.int .u8 a0_6) ∧ w14.cell? ⟨gb252, 7, none⟩ = some (.int .u8 a0_7) ∧ w14.cell? ⟨gb252, 8, none⟩ = some (.int .u8 a0_8) ∧ w14.cell? ⟨gb252, 9, none⟩ = some (.int .u8 a0_9) ∧ w14.cell? ⟨gb252, 10, none⟩ = some (.int .u8 a0_10) ∧ w14.cell? ⟨gb252, 11, none⟩ = some (.int .u8 a0_11) ∧ w14.cell? ⟨gb252, 12, none⟩ = some (.string a0_12) := hS_
            refine norm_ (a' := ?_) ?_ ?_
            rotate_left
            ·simp only [putAll, Act.put, zA15_, zB15_, zC15_]
             rfl
            refine two_ (i := 2) (j := 10) (Ni := some 10) (Nj := some 18) #[true, true, true, false, true, true, true, false, true, true, false, false, false] #[true, true, false, false, true, true, true, false, true, true, true, false, false] rfl rfl rfl rfl (two_of HT_.out (by kernel_rfl)) (by decide) (by decide) (fun K hK => ?_) (fun K hK => ?_)
            ·skip
             refine Kd.R_lit_step (Kd.int .u8) _ 5 ?hg (N := 10) ?hd (xs := ([a0_2] : List Int)) (inner := [.int .u8 a0_2]) (ok := fun _ => True) (okp := fun _ => True) ?hr ?hp (fun _ hk => hk) trivial (Below.refl _ _) (Nat.le_refl _) (by simp) ?_; (case hd => rfl); (case hg => rfl); (case hr => first | (go_simp; done) | (go_simp; rfl)); (case hp => exact (Reps.one (show Kd.M (Kd.int .u8) _ _ _ a0_2 [.int .u8 a0_2] from rfl) (Reps.none _ _)))
             intro v255 w15 ho16 hb hg_ hnew_
             clear hg_ hnew_
             (first | rw [← Ny254.out] at ho16 | (simp only [Int.reduceToNat] at ho16; rw [← Ny254.out] at ho16))
             have n0_ := Aside0.mk (Kd.R_lower ho16 (below_size (by repeat (first | (with_reducible first | exact HB.out | apply below_alloc | apply pw_below_drewN | apply below_drew1 | refine below_set ?_ GE252.out) | exact HB.out))))
             have n1_ := Aside0.mk (blk_below (g := gb252) (o := .cells #[.int .u64 a0_0, .int .u64 a0_1, .int .u8 a0_2, .int .u8 a0_3, .int .u8 a0_4, .int .u8 a0_5, .int .u8 a0_6, .int .u8 a0_7, .int .u8 a0_8, .int .u8 a0_9, .int .u8 a0_10, .int .u8 a0_11, .string a0_12] 27 (0, 0)) (by (with_reducible repeat (first | refine blk_drewN ?_ _ | refine blk_drew ?_ | refine blk_alloc ?_ _)); exact BK252.out) hb)
             have n2_ := Aside0.mk (below_step (by repeat (first | (with_reducible first | exact HB.out | apply below_alloc | apply pw_below_drewN | apply below_drew1 | refine below_set ?_ GE252.out) | exact HB.out)) hb)
             clear BK252
             clear HB
             have HO256 := n0_
             have BK252 := n1_
             have HB := n2_
             clear n0_ n1_ n2_
             clear hb ho16
             refine hK.out _ _ ⟨(blk_cell BK252.out 0).trans rfl, (blk_cell BK252.out 1).trans rfl, (blk_cell BK252.out 2).trans rfl, (blk_cell BK252.out 3).trans rfl, (blk_cell BK252.out 4).trans rfl, (blk_cell BK252.out 5).trans rfl, (blk_cell BK252.out 6).trans rfl, (blk_cell BK252.out 7).trans rfl, (blk_cell BK252.out 8).trans rfl, (blk_cell BK252.out 9).trans rfl, (blk_cell BK252.out 10).trans rfl, (blk_cell BK252.out 11).trans rfl, (blk_cell BK252.out 12).trans rfl⟩ (fun hHeld => ?_)
             clear hK K
             refine norm_ (a' := ?_) ?_ ?_
             rotate_left
             ·show Act.put _ (some 10) _ = _
              simp only [Act.put, zA15_, zB15_, zC15_, i64_w, i32_w]
              rfl
             exact norm_ (by first | (simp only [putAll, Act.put, zA15_, zB15_, zC15_]; done) | (simp only [putAll, Act.put, zA15_, zB15_, zC15_]; rfl)) (hJ2_6 (v255) _ ⟨hHeld, (by (with_reducible repeat (first | apply Kd.R_alloc | apply Kd.R_drewN | apply Kd.R_drew)); exact HO256.out), (by (with_reducible repeat (first | refine blk_drewN ?_ _ | refine blk_drew ?_ | refine blk_alloc ?_ _)); exact BK252.out), (by repeat (first | (with_reducible first | exact HB.out | apply below_alloc | apply pw_below_drewN | apply below_drew1 | refine below_set ?_ GE252.out) | exact HB.out))⟩)
            ·skip
             refine goes_ Try.func27 (by kernel_rfl) rfl #[.int .u64 a0_1] (by rfl) rfl rfl (by (try simp only [List.map_toArray, List.map_cons, List.map_nil]); first | done | rfl | (simp only [List.length_drop, List.length_take]; rfl)) ?_
             with_reducible refine (wapentakeref01_One.calls k a0_1 t258 _ A6.out).mono ?_
             rintro e w15 ⟨rfl, hb⟩
             refine ⟨_, rfl, ?_⟩
             have n0_ := Aside0.mk (blk_below (g := gb252) (o := .cells #[.int .u64 a0_0, .int .u64 a0_1, .int .u8 a0_2, .int .u8 a0_3, .int .u8 a0_4, .int .u8 a0_5, .int .u8 a0_6, .int .u8 a0_7, .int .u8 a0_8, .int .u8 a0_9, .int .u8 a0_10, .int .u8 a0_11, .string a0_12] 27 (0, 0)) (by (with_reducible repeat (first | refine blk_drewN ?_ _ | refine blk_drew ?_ | refine blk_alloc ?_ _)); exact BK252.out) hb)
             have n1_ := Aside0.mk (below_step (by repeat (first | (with_reducible first | exact HB.out | apply below_alloc | apply pw_below_drewN | apply below_drew1 | refine below_set ?_ GE252.out) | exact HB.out)) hb)
             clear BK252
             clear HB
             have BK252 := n0_
             have HB := n1_
             clear n0_ n1_
             (try clear hb)
             (try clear hb2)
             (try clear hk)
             (try clear hi)
             refine hK.out _ _ ⟨(blk_cell BK252.out 0).trans rfl, (blk_cell BK252.out 1).trans rfl, (blk_cell BK252.out 2).trans rfl, (blk_cell BK252.out 3).trans rfl, (blk_cell BK252.out 4).trans rfl, (blk_cell BK252.out 5).trans rfl, (blk_cell BK252.out 6).trans rfl, (blk_cell BK252.out 7).trans rfl, (blk_cell BK252.out 8).trans rfl, (blk_cell BK252.out 9).trans rfl, (blk_cell BK252.out 10).trans rfl, (blk_cell BK252.out 11).trans rfl, (blk_cell BK252.out 12).trans rfl⟩ (fun hHeld => ?_)
             clear hK K
             refine norm_ (a' := ?_) ?_ ?_
             rotate_left
             ·show Act.put _ (some 18) _ = _
              simp only [Act.put, zA15_, zB15_, zC15_, i64_w, i32_w]
              rfl
             exact norm_ (by first | (simp only [putAll, Act.put, zA15_, zB15_, zC15_]; done) | (simp only [putAll, Act.put, zA15_, zB15_, zC15_]; rfl)) (hJ6_10 () _ ⟨hHeld, (by (with_reducible repeat (first | refine blk_drewN ?_ _ | refine blk_drew ?_ | refine blk_alloc ?_ _)); exact BK252.out), (by repeat (first | (with_reducible first | exact HB.out | apply below_alloc | apply pw_below_drewN | apply below_drew1 | refine below_set ?_ GE252.out) | exact HB.out))⟩)
          ·skip
           rintro v255 w15 ⟨hS_, h0_, h1_, h2_⟩
           have n0_ : Aside0 (Kd.R (Kd.int .u8) 5 w15 w.heap.size (fun _ => True) v255 y254) := ⟨h0_⟩
           have n1_ : Aside0 (w15.heap[gb252]? = some (.cells #[.int .u64 a0_0, .int .u64 a0_1, .int .u8 a0_2, .int .u8 a0_3, .int .u8 a0_4, .int .u8 a0_5, .int .u8 a0_6, .int .u8 a0_7, .int .u8 a0_8, .int .u8 a0_9, .int .u8 a0_10, .int .u8 a0_11, .string a0_12] 27 (0, 0))) := ⟨h1_⟩
           have n2_ : Aside0 (Below w.heap.size w w15) := ⟨h2_⟩
           clear BK252
           clear HB
           clear h0_ h1_ h2_
           have HO256 := n0_
           have BK252 := n1_
           have HB := n2_
           clear n0_ n1_ n2_
           have hHeld : w15.cell? ⟨gb252, 0, none⟩ = some (.int .u64 a0_0) ∧ w15.cell? ⟨gb252, 1, none⟩ = some (.int .u64 a0_1) ∧ w15.cell? ⟨gb252, 2, none⟩ = some (.int .u8 a0_2) ∧ w15.cell? ⟨gb252, 3, none⟩ = some (.int .u8 a0_3) ∧ w15.cell? ⟨gb252, 4, none⟩ = some (.int .u8 a0_4) ∧ w15.cell? ⟨gb252, 5, none⟩ = some (.int .u8 a0_5) ∧ w15.cell? ⟨gb252, 6, none⟩ = some (.int .u8 a0_6) ∧ w15.cell? ⟨gb252, 7, none⟩ = some (.int .u8 a0_7) ∧ w15.cell? ⟨gb252, 8, none⟩ = some (.int .u8 a0_8) ∧ w15.cell? ⟨gb252, 9, none⟩ = some (.int .u8 a0_9) ∧ w15.cell? ⟨gb252, 10, none⟩ = some (.int .u8 a0_10) ∧ w15.cell? ⟨gb252, 11, none⟩ = some (.int .u8 a0_11) ∧ w15.cell? ⟨gb252, 12, none⟩ = some (.string a0_12) := hS_
           refine norm_ (a' := ?_) ?_ ?_
           rotate_left
           ·simp only [putAll, Act.put, zA15_, zB15_, zC15_]
            rfl
           refine two_ (i := 3) (j := 6) (Ni := some 11) (Nj := some 14) #[true, true, true, true, true, true, false, false, true, true, false, false, false] #[true, true, true, false, true, true, true, false, true, true, false, false, false] rfl rfl rfl rfl (two_of HT_.out (by kernel_rfl)) (by decide) (by decide) (fun K hK => ?_) (fun K hK => ?_)
           ·skip
            have hcv16 := own_string (P := Try.prog) Try.underlying33 Try.underlying5 Try.underlying9 (Kd.own_of_R HO256.out)
            refine value_ (w1 := ?_) (v := ?_) (by rfl) rfl ?_ ?_
            rotate_left 2
            ·go_simp
             constructor
             ·rfl
             ·rfl
            clear hcv16
            refine hK.out _ _ ⟨(blk_cell BK252.out 0).trans rfl, (blk_cell BK252.out 1).trans rfl, (blk_cell BK252.out 2).trans rfl, (blk_cell BK252.out 3).trans rfl, (blk_cell BK252.out 4).trans rfl, (blk_cell BK252.out 5).trans rfl, (blk_cell BK252.out 6).trans rfl, (blk_cell BK252.out 7).trans rfl, (blk_cell BK252.out 8).trans rfl, (blk_cell BK252.out 9).trans rfl, (blk_cell BK252.out 10).trans rfl, (blk_cell BK252.out 11).trans rfl, (blk_cell BK252.out 12).trans rfl⟩ (fun hHeld => ?_)
            clear hK K
            refine norm_ (a' := ?_) ?_ ?_
            rotate_left
            ·show Act.put _ (some 11) _ = _
             simp only [Act.put, zA15_, zB15_, zC15_, i64_w, i32_w]
             rfl
            exact norm_ (by first | (simp only [putAll, Act.put, zA15_, zB15_, zC15_]; done) | (simp only [putAll, Act.put, zA15_, zB15_, zC15_]; rfl)) (hJ2_3 (v255) _ ⟨hHeld, (by (with_reducible repeat (first | apply Kd.R_alloc | apply Kd.R_drewN | apply Kd.R_drew)); exact HO256.out), (by (with_reducible repeat (first | refine blk_drewN ?_ _ | refine blk_drew ?_ | refine blk_alloc ?_ _)); exact BK252.out), (by repeat (first | (with_reducible first | exact HB.out | apply below_alloc | apply pw_below_drewN | apply below_drew1 | refine below_set ?_ GE252.out) | exact HB.out))⟩)
           ·skip
            refine goes_ Try.func27 (by kernel_rfl) rfl #[.int .u64 a0_0] (by rfl) rfl rfl (by (try simp only [List.map_toArray, List.map_cons, List.map_nil]); first | done | rfl | (simp only [List.length_drop, List.length_take]; rfl)) ?_
            with_reducible refine (wapentakeref01_One.calls k a0_0 t257 _ A4.out).mono ?_
            rintro e w16 ⟨rfl, hb⟩
            refine ⟨_, rfl, ?_⟩
            have n0_ := Aside0.mk (Kd.R_below (by (with_reducible repeat (first | apply Kd.R_alloc | apply Kd.R_drewN | apply Kd.R_drew)); exact HO256.out) hb)
            have n1_ := Aside0.mk (blk_below (g := gb252) (o := .cells #[.int .u64 a0_0, .int .u64 a0_1, .int .u8 a0_2, .int .u8 a0_3, .int .u8 a0_4, .int .u8 a0_5, .int .u8 a0_6, .int .u8 a0_7, .int .u8 a0_8, .int .u8 a0_9, .int .u8 a0_10, .int .u8 a0_11, .string a0_12] 27 (0, 0)) (by (with_reducible repeat (first | refine blk_drewN ?_ _ | refine blk_drew ?_ | refine blk_alloc ?_ _)); exact BK252.out) hb)
            have n2_ := Aside0.mk (below_step (by repeat (first | (with_reducible first | exact HB.out | apply below_alloc | apply pw_below_drewN | apply below_drew1 | refine below_set ?_ GE252.out) | exact HB.out)) hb)
            clear HO256
            clear BK252
            clear HB
            have HO256 := n0_
            have BK252 := n1_
            have HB := n2_
            clear n0_ n1_ n2_
            (try clear hb)
            (try clear hb2)
            (try clear hk)
            (try clear hi)
            refine hK.out _ _ ⟨(blk_cell BK252.out 0).trans rfl, (blk_cell BK252.out 1).trans rfl, (blk_cell BK252.out 2).trans rfl, (blk_cell BK252.out 3).trans rfl, (blk_cell BK252.out 4).trans rfl, (blk_cell BK252.out 5).trans rfl, (blk_cell BK252.out 6).trans rfl, (blk_cell BK252.out 7).trans rfl, (blk_cell BK252.out 8).trans rfl, (blk_cell BK252.out 9).trans rfl, (blk_cell BK252.out 10).trans rfl, (blk_cell BK252.out 11).trans rfl, (blk_cell BK252.out 12).trans rfl⟩ (fun hHeld => ?_)
            clear hK K
            refine norm_ (a' := ?_) ?_ ?_
            rotate_left
            ·show Act.put _ (some 14) _ = _
             simp only [Act.put, zA15_, zB15_, zC15_, i64_w, i32_w]
             rfl
            exact norm_ (by first | (simp only [putAll, Act.put, zA15_, zB15_, zC15_]; done) | (simp only [putAll, Act.put, zA15_, zB15_, zC15_]; rfl)) (hJ2_6 (v255) _ ⟨hHeld, (by (with_reducible repeat (first | apply Kd.R_alloc | apply Kd.R_drewN | apply Kd.R_drew)); exact HO256.out), (by (with_reducible repeat (first | refine blk_drewN ?_ _ | refine blk_drew ?_ | refine blk_alloc ?_ _)); exact BK252.out), (by repeat (first | (with_reducible first | exact HB.out | apply below_alloc | apply pw_below_drewN | apply below_drew1 | refine below_set ?_ GE252.out) | exact HB.out))⟩)
         ·skip
          rintro _ w15 ⟨hS_, h0_, h1_⟩
          have n0_ : Aside0 (w15.heap[gb252]? = some (.cells #[.int .u64 a0_0, .int .u64 a0_1, .int .u8 a0_2, .int .u8 a0_3, .int .u8 a0_4, .int .u8 a0_5, .int .u8 a0_6, .int .u8 a0_7, .int .u8 a0_8, .int .u8 a0_9, .int .u8 a0_10, .int .u8 a0_11, .string a0_12] 27 (0, 0))) := ⟨h0_⟩
          have n1_ : Aside0 (Below w.heap.size w w15) := ⟨h1_⟩
          clear BK252
          clear HB
          clear h0_ h1_
          have BK252 := n0_
          have HB := n1_
          clear n0_ n1_
          have hHeld : w15.cell? ⟨gb252, 0, none⟩ = some (.int .u64 a0_0) ∧ w15.cell? ⟨gb252, 1, none⟩ = some (.int .u64 a0_1) ∧ w15.cell? ⟨gb252, 2, none⟩ = some (.int .u8 a0_2) ∧ w15.cell? ⟨gb252, 3, none⟩ = some (.int .u8 a0_3) ∧ w15.cell? ⟨gb252, 4, none⟩ = some (.int .u8 a0_4) ∧ w15.cell? ⟨gb252, 5, none⟩ = some (.int .u8 a0_5) ∧ w15.cell? ⟨gb252, 6, none⟩ = some (.int .u8 a0_6) ∧ w15.cell? ⟨gb252, 7, none⟩ = some (.int .u8 a0_7) ∧ w15.cell? ⟨gb252, 8, none⟩ = some (.int .u8 a0_8) ∧ w15.cell? ⟨gb252, 9, none⟩ = some (.int .u8 a0_9) ∧ w15.cell? ⟨gb252, 10, none⟩ = some (.int .u8 a0_10) ∧ w15.cell? ⟨gb252, 11, none⟩ = some (.int .u8 a0_11) ∧ w15.cell? ⟨gb252, 12, none⟩ = some (.string a0_12) := hS_
          refine norm_ (a' := ?_) ?_ ?_
          rotate_left
          ·simp only [putAll, Act.put, zA15_, zB15_, zC15_]
           rfl
          refine one_ (i := 2) (N := some 10) (bq_15_ 13 1911) rfl rfl (one_of HT_.out (by kernel_rfl)) (by decide) (fun K hK => ?_)
          refine Kd.R_lit_step (Kd.int .u8) _ 5 ?hg (N := 10) ?hd (xs := ([a0_2] : List Int)) (inner := [.int .u8 a0_2]) (ok := fun _ => True) (okp := fun _ => True) ?hr ?hp (fun _ hk => hk) trivial (Below.refl _ _) (Nat.le_refl _) (by simp) ?_; (case hd => rfl); (case hg => rfl); (case hr => first | (go_simp; done) | (go_simp; rfl)); (case hp => exact (Reps.one (show Kd.M (Kd.int .u8) _ _ _ a0_2 [.int .u8 a0_2] from rfl) (Reps.none _ _)))
          intro v255 w16 ho17 hb hg_ hnew_
          clear hg_ hnew_
          (first | rw [← Ny254.out] at ho17 | (simp only [Int.reduceToNat] at ho17; rw [← Ny254.out] at ho17))
          have n0_ := Aside0.mk (Kd.R_lower ho17 (below_size (by repeat (first | (with_reducible first | exact HB.out | apply below_alloc | apply pw_below_drewN | apply below_drew1 | refine below_set ?_ GE252.out) | exact HB.out))))
          have n1_ := Aside0.mk (blk_below (g := gb252) (o := .cells #[.int .u64 a0_0, .int .u64 a0_1, .int .u8 a0_2, .int .u8 a0_3, .int .u8 a0_4, .int .u8 a0_5, .int .u8 a0_6, .int .u8 a0_7, .int .u8 a0_8, .int .u8 a0_9, .int .u8 a0_10, .int .u8 a0_11, .string a0_12] 27 (0, 0)) (by (with_reducible repeat (first | refine blk_drewN ?_ _ | refine blk_drew ?_ | refine blk_alloc ?_ _)); exact BK252.out) hb)
          have n2_ := Aside0.mk (below_step (by repeat (first | (with_reducible first | exact HB.out | apply below_alloc | apply pw_below_drewN | apply below_drew1 | refine below_set ?_ GE252.out) | exact HB.out)) hb)
          clear BK252
          clear HB
          have HO256 := n0_
          have BK252 := n1_
          have HB := n2_
          clear n0_ n1_ n2_
          clear hb ho17
          refine hK.out _ _ ⟨(blk_cell BK252.out 0).trans rfl, (blk_cell BK252.out 1).trans rfl, (blk_cell BK252.out 2).trans rfl, (blk_cell BK252.out 3).trans rfl, (blk_cell BK252.out 4).trans rfl, (blk_cell BK252.out 5).trans rfl, (blk_cell BK252.out 6).trans rfl, (blk_cell BK252.out 7).trans rfl, (blk_cell BK252.out 8).trans rfl, (blk_cell BK252.out 9).trans rfl, (blk_cell BK252.out 10).trans rfl, (blk_cell BK252.out 11).trans rfl, (blk_cell BK252.out 12).trans rfl⟩ (fun hHeld => ?_)
          clear hK K
          refine norm_ (a' := ?_) ?_ ?_
          rotate_left
          ·show Act.put _ (some 10) _ = _
           simp only [Act.put, zA15_, zB15_, zC15_, i64_w, i32_w]
           rfl
          exact norm_ (by first | (simp only [putAll, Act.put, zA15_, zB15_, zC15_]; done) | (simp only [putAll, Act.put, zA15_, zB15_, zC15_]; rfl)) (hJ2_6_10 (v255) _ ⟨hHeld, (by (with_reducible repeat (first | apply Kd.R_alloc | apply Kd.R_drewN | apply Kd.R_drew)); exact HO256.out), (by (with_reducible repeat (first | refine blk_drewN ?_ _ | refine blk_drew ?_ | refine blk_alloc ?_ _)); exact BK252.out), (by repeat (first | (with_reducible first | exact HB.out | apply below_alloc | apply pw_below_drewN | apply below_drew1 | refine below_set ?_ GE252.out) | exact HB.out))⟩)
        ·skip
         rintro v255 w16 ⟨hS_, h0_, h1_, h2_⟩
         have n0_ : Aside0 (Kd.R (Kd.int .u8) 5 w16 w.heap.size (fun _ => True) v255 y254) := ⟨h0_⟩
         have n1_ : Aside0 (w16.heap[gb252]? = some (.cells #[.int .u64 a0_0, .int .u64 a0_1, .int .u8 a0_2, .int .u8 a0_3, .int .u8 a0_4, .int .u8 a0_5, .int .u8 a0_6, .int .u8 a0_7, .int .u8 a0_8, .int .u8 a0_9, .int .u8 a0_10, .int .u8 a0_11, .string a0_12] 27 (0, 0))) := ⟨h1_⟩
         have n2_ : Aside0 (Below w.heap.size w w16) := ⟨h2_⟩
         clear BK252
         clear HB
         clear h0_ h1_ h2_
         have HO256 := n0_
         have BK252 := n1_
         have HB := n2_
         clear n0_ n1_ n2_
         have hHeld : w16.cell? ⟨gb252, 0, none⟩ = some (.int .u64 a0_0) ∧ w16.cell? ⟨gb252, 1, none⟩ = some (.int .u64 a0_1) ∧ w16.cell? ⟨gb252, 2, none⟩ = some (.int .u8 a0_2) ∧ w16.cell? ⟨gb252, 3, none⟩ = some (.int .u8 a0_3) ∧ w16.cell? ⟨gb252, 4, none⟩ = some (.int .u8 a0_4) ∧ w16.cell? ⟨gb252, 5, none⟩ = some (.int .u8 a0_5) ∧ w16.cell? ⟨gb252, 6, none⟩ = some (.int .u8 a0_6) ∧ w16.cell? ⟨gb252, 7, none⟩ = some (.int .u8 a0_7) ∧ w16.cell? ⟨gb252, 8, none⟩ = some (.int .u8 a0_8) ∧ w16.cell? ⟨gb252, 9, none⟩ = some (.int .u8 a0_9) ∧ w16.cell? ⟨gb252, 10, none⟩ = some (.int .u8 a0_10) ∧ w16.cell? ⟨gb252, 11, none⟩ = some (.int .u8 a0_11) ∧ w16.cell? ⟨gb252, 12, none⟩ = some (.string a0_12) := hS_
         refine norm_ (a' := ?_) ?_ ?_
         rotate_left
         ·simp only [putAll, Act.put, zA15_, zB15_, zC15_]
          rfl
         refine two_ (i := 3) (j := 10) (Ni := some 11) (Nj := some 18) #[true, true, true, true, true, true, true, false, true, true, false, false, false] #[true, true, true, false, true, true, true, false, true, true, true, false, false] rfl rfl rfl rfl (two_of HT_.out (by kernel_rfl)) (by decide) (by decide) (fun K hK => ?_) (fun K hK => ?_)
         ·skip
          have hcv17 := own_string (P := Try.prog) Try.underlying33 Try.underlying5 Try.underlying9 (Kd.own_of_R HO256.out)
          refine value_ (w1 := ?_) (v := ?_) (by rfl) rfl ?_ ?_
          rotate_left 2
          ·go_simp
           constructor
           ·rfl
           ·rfl
          clear hcv17
          refine hK.out _ _ ⟨(blk_cell BK252.out 0).trans rfl, (blk_cell BK252.out 1).trans rfl, (blk_cell BK252.out 2).trans rfl, (blk_cell BK252.out 3).trans rfl, (blk_cell BK252.out 4).trans rfl, (blk_cell BK252.out 5).trans rfl, (blk_cell BK252.out 6).trans rfl, (blk_cell BK252.out 7).trans rfl, (blk_cell BK252.out 8).trans rfl, (blk_cell BK252.out 9).trans rfl, (blk_cell BK252.out 10).trans rfl, (blk_cell BK252.out 11).trans rfl, (blk_cell BK252.out 12).trans rfl⟩ (fun hHeld => ?_)
          clear hK K
          refine norm_ (a' := ?_) ?_ ?_
          rotate_left
          ·show Act.put _ (some 11) _ = _
           simp only [Act.put, zA15_, zB15_, zC15_, i64_w, i32_w]
           rfl
          refine pure_ (i := 7) (N := some 15) (v := ?_) (a' := ?_) (bq_15_ 13 1023) rfl rfl (any_of HT_.out (by kernel_rfl)) (fun _ _ _ h => h) (Or.inl ⟨by rfl, ?_⟩) ?_ ?_
          rotate_left
          ·intro w'
           go_simp
           with_reducible rfl
          rotate_left
          ·simp only [Act.put, zA15_, zB15_, zC15_, i64_w, i32_w]
           rfl
          exact norm_ (by first | (simp only [putAll, Act.put, zA15_, zB15_, zC15_]; done) | (simp only [putAll, Act.put, zA15_, zB15_, zC15_]; rfl)) (hJ2_3_6 (v255) _ ⟨hHeld, (by (with_reducible repeat (first | apply Kd.R_alloc | apply Kd.R_drewN | apply Kd.R_drew)); exact HO256.out), (by (with_reducible repeat (first | refine blk_drewN ?_ _ | refine blk_drew ?_ | refine blk_alloc ?_ _)); exact BK252.out), (by repeat (first | (with_reducible first | exact HB.out | apply below_alloc | apply pw_below_drewN | apply below_drew1 | refine below_set ?_ GE252.out) | exact HB.out))⟩)
         ·skip
          refine goes_ Try.func27 (by kernel_rfl) rfl #[.int .u64 a0_1] (by rfl) rfl rfl (by (try simp only [List.map_toArray, List.map_cons, List.map_nil]); first | done | rfl | (simp only [List.length_drop, List.length_take]; rfl)) ?_
          with_reducible refine (wapentakeref01_One.calls k a0_1 t258 _ A6.out).mono ?_
          rintro e w17 ⟨rfl, hb⟩
          refine ⟨_, rfl, ?_⟩
          have n0_ := Aside0.mk (Kd.R_below (by (with_reducible repeat (first | apply Kd.R_alloc | apply Kd.R_drewN | apply Kd.R_drew)); exact HO256.out) hb)
          have n1_ := Aside0.mk (blk_below (g := gb252) (o := .cells #[.int .u64 a0_0, .int .u64 a0_1, .int .u8 a0_2, .int .u8 a0_3, .int .u8 a0_4, .int .u8 a0_5, .int .u8 a0_6, .int .u8 a0_7, .int .u8 a0_8, .int .u8 a0_9, .int .u8 a0_10, .int .u8 a0_11, .string a0_12] 27 (0, 0)) (by (with_reducible repeat (first | refine blk_drewN ?_ _ | refine blk_drew ?_ | refine blk_alloc ?_ _)); exact BK252.out) hb)
          have n2_ := Aside0.mk (below_step (by repeat (first | (with_reducible first | exact HB.out | apply below_alloc | apply pw_below_drewN | apply below_drew1 | refine below_set ?_ GE252.out) | exact HB.out)) hb)
          clear HO256
          clear BK252
          clear HB
          have HO256 := n0_
          have BK252 := n1_
          have HB := n2_
          clear n0_ n1_ n2_
          (try clear hb)
          (try clear hb2)
          (try clear hk)
          (try clear hi)
          refine hK.out _ _ ⟨(blk_cell BK252.out 0).trans rfl, (blk_cell BK252.out 1).trans rfl, (blk_cell BK252.out 2).trans rfl, (blk_cell BK252.out 3).trans rfl, (blk_cell BK252.out 4).trans rfl, (blk_cell BK252.out 5).trans rfl, (blk_cell BK252.out 6).trans rfl, (blk_cell BK252.out 7).trans rfl, (blk_cell BK252.out 8).trans rfl, (blk_cell BK252.out 9).trans rfl, (blk_cell BK252.out 10).trans rfl, (blk_cell BK252.out 11).trans rfl, (blk_cell BK252.out 12).trans rfl⟩ (fun hHeld => ?_)
          clear hK K
          refine norm_ (a' := ?_) ?_ ?_
          rotate_left
          ·show Act.put _ (some 18) _ = _
           simp only [Act.put, zA15_, zB15_, zC15_, i64_w, i32_w]
           rfl
          exact norm_ (by first | (simp only [putAll, Act.put, zA15_, zB15_, zC15_]; done) | (simp only [putAll, Act.put, zA15_, zB15_, zC15_]; rfl)) (hJ2_6_10 (v255) _ ⟨hHeld, (by (with_reducible repeat (first | apply Kd.R_alloc | apply Kd.R_drewN | apply Kd.R_drew)); exact HO256.out), (by (with_reducible repeat (first | refine blk_drewN ?_ _ | refine blk_drew ?_ | refine blk_alloc ?_ _)); exact BK252.out), (by repeat (first | (with_reducible first | exact HB.out | apply below_alloc | apply pw_below_drewN | apply below_drew1 | refine below_set ?_ GE252.out) | exact HB.out))⟩)
       ·skip
        rintro v255 w16 ⟨hS_, h0_, h1_, h2_⟩
        have n0_ : Aside0 (Kd.R (Kd.int .u8) 5 w16 w.heap.size (fun _ => True) v255 y254) := ⟨h0_⟩
        have n1_ : Aside0 (w16.heap[gb252]? = some (.cells #[.int .u64 a0_0, .int .u64 a0_1, .int .u8 a0_2, .int .u8 a0_3, .int .u8 a0_4, .int .u8 a0_5, .int .u8 a0_6, .int .u8 a0_7, .int .u8 a0_8, .int .u8 a0_9, .int .u8 a0_10, .int .u8 a0_11, .string a0_12] 27 (0, 0))) := ⟨h1_⟩
        have n2_ : Aside0 (Below w.heap.size w w16) := ⟨h2_⟩
        clear BK252
        clear HB
        clear h0_ h1_ h2_
        have HO256 := n0_
        have BK252 := n1_
        have HB := n2_
        clear n0_ n1_ n2_
        have hHeld : w16.cell? ⟨gb252, 0, none⟩ = some (.int .u64 a0_0) ∧ w16.cell? ⟨gb252, 1, none⟩ = some (.int .u64 a0_1) ∧ w16.cell? ⟨gb252, 2, none⟩ = some (.int .u8 a0_2) ∧ w16.cell? ⟨gb252, 3, none⟩ = some (.int .u8 a0_3) ∧ w16.cell? ⟨gb252, 4, none⟩ = some (.int .u8 a0_4) ∧ w16.cell? ⟨gb252, 5, none⟩ = some (.int .u8 a0_5) ∧ w16.cell? ⟨gb252, 6, none⟩ = some (.int .u8 a0_6) ∧ w16.cell? ⟨gb252, 7, none⟩ = some (.int .u8 a0_7) ∧ w16.cell? ⟨gb252, 8, none⟩ = some (.int .u8 a0_8) ∧ w16.cell? ⟨gb252, 9, none⟩ = some (.int .u8 a0_9) ∧ w16.cell? ⟨gb252, 10, none⟩ = some (.int .u8 a0_10) ∧ w16.cell? ⟨gb252, 11, none⟩ = some (.int .u8 a0_11) ∧ w16.cell? ⟨gb252, 12, none⟩ = some (.string a0_12) := hS_
        refine norm_ (a' := ?_) ?_ ?_
        rotate_left
        ·simp only [putAll, Act.put, zA15_, zB15_, zC15_]
         rfl
        refine one_ (i := 6) (N := some 14) (bq_15_ 13 895) rfl rfl (one_of HT_.out (by kernel_rfl)) (by decide) (fun K hK => ?_)
        refine goes_ Try.func27 (by kernel_rfl) rfl #[.int .u64 a0_0] (by rfl) rfl rfl (by (try simp only [List.map_toArray, List.map_cons, List.map_nil]); first | done | rfl | (simp only [List.length_drop, List.length_take]; rfl)) ?_
        with_reducible refine (wapentakeref01_One.calls k a0_0 t257 _ A4.out).mono ?_
        rintro e w17 ⟨rfl, hb⟩
        refine ⟨_, rfl, ?_⟩
        have n0_ := Aside0.mk (Kd.R_below (by (with_reducible repeat (first | apply Kd.R_alloc | apply Kd.R_drewN | apply Kd.R_drew)); exact HO256.out) hb)
        have n1_ := Aside0.mk (blk_below (g := gb252) (o := .cells #[.int .u64 a0_0, .int .u64 a0_1, .int .u8 a0_2, .int .u8 a0_3, .int .u8 a0_4, .int .u8 a0_5, .int .u8 a0_6, .int .u8 a0_7, .int .u8 a0_8, .int .u8 a0_9, .int .u8 a0_10, .int .u8 a0_11, .string a0_12] 27 (0, 0)) (by (with_reducible repeat (first | refine blk_drewN ?_ _ | refine blk_drew ?_ | refine blk_alloc ?_ _)); exact BK252.out) hb)
        have n2_ := Aside0.mk (below_step (by repeat (first | (with_reducible first | exact HB.out | apply below_alloc | apply pw_below_drewN | apply below_drew1 | refine below_set ?_ GE252.out) | exact HB.out)) hb)
        clear HO256
        clear BK252
        clear HB
        have HO256 := n0_
        have BK252 := n1_
        have HB := n2_
        clear n0_ n1_ n2_
        (try clear hb)
        (try clear hb2)
        (try clear hk)
        (try clear hi)
        refine hK.out _ _ ⟨(blk_cell BK252.out 0).trans rfl, (blk_cell BK252.out 1).trans rfl, (blk_cell BK252.out 2).trans rfl, (blk_cell BK252.out 3).trans rfl, (blk_cell BK252.out 4).trans rfl, (blk_cell BK252.out 5).trans rfl, (blk_cell BK252.out 6).trans rfl, (blk_cell BK252.out 7).trans rfl, (blk_cell BK252.out 8).trans rfl, (blk_cell BK252.out 9).trans rfl, (blk_cell BK252.out 10).trans rfl, (blk_cell BK252.out 11).trans rfl, (blk_cell BK252.out 12).trans rfl⟩ (fun hHeld => ?_)
        clear hK K
        refine norm_ (a' := ?_) ?_ ?_
        rotate_left
        ·show Act.put _ (some 14) _ = _
         simp only [Act.put, zA15_, zB15_, zC15_, i64_w, i32_w]
         rfl
        refine pure_ (i := 7) (N := some 15) (v := ?_) (a' := ?_) (bq_15_ 13 1023) rfl rfl (any_of HT_.out (by kernel_rfl)) (fun _ _ _ h => h) (Or.inl ⟨by rfl, ?_⟩) ?_ ?_
        rotate_left
        ·intro w'
         go_simp
         with_reducible rfl
        rotate_left
        ·simp only [Act.put, zA15_, zB15_, zC15_, i64_w, i32_w]
         rfl
        exact norm_ (by first | (simp only [putAll, Act.put, zA15_, zB15_, zC15_]; done) | (simp only [putAll, Act.put, zA15_, zB15_, zC15_]; rfl)) (hJ2_3_6 (v255) _ ⟨hHeld, (by (with_reducible repeat (first | apply Kd.R_alloc | apply Kd.R_drewN | apply Kd.R_drew)); exact HO256.out), (by (with_reducible repeat (first | refine blk_drewN ?_ _ | refine blk_drew ?_ | refine blk_alloc ?_ _)); exact BK252.out), (by repeat (first | (with_reducible first | exact HB.out | apply below_alloc | apply pw_below_drewN | apply below_drew1 | refine below_set ?_ GE252.out) | exact HB.out))⟩)
      ·skip
       rintro v255 w17 ⟨hS_, h0_, h1_, h2_⟩
       have n0_ : Aside0 (Kd.R (Kd.int .u8) 5 w17 w.heap.size (fun _ => True) v255 y254) := ⟨h0_⟩
       have n1_ : Aside0 (w17.heap[gb252]? = some (.cells #[.int .u64 a0_0, .int .u64 a0_1, .int .u8 a0_2, .int .u8 a0_3, .int .u8 a0_4, .int .u8 a0_5, .int .u8 a0_6, .int .u8 a0_7, .int .u8 a0_8, .int .u8 a0_9, .int .u8 a0_10, .int .u8 a0_11, .string a0_12] 27 (0, 0))) := ⟨h1_⟩
       have n2_ : Aside0 (Below w.heap.size w w17) := ⟨h2_⟩
       clear BK252
       clear HB
       clear h0_ h1_ h2_
       have HO256 := n0_
       have BK252 := n1_
       have HB := n2_
       clear n0_ n1_ n2_
       have hHeld : w17.cell? ⟨gb252, 0, none⟩ = some (.int .u64 a0_0) ∧ w17.cell? ⟨gb252, 1, none⟩ = some (.int .u64 a0_1) ∧ w17.cell? ⟨gb252, 2, none⟩ = some (.int .u8 a0_2) ∧ w17.cell? ⟨gb252, 3, none⟩ = some (.int .u8 a0_3) ∧ w17.cell? ⟨gb252, 4, none⟩ = some (.int .u8 a0_4) ∧ w17.cell? ⟨gb252, 5, none⟩ = some (.int .u8 a0_5) ∧ w17.cell? ⟨gb252, 6, none⟩ = some (.int .u8 a0_6) ∧ w17.cell? ⟨gb252, 7, none⟩ = some (.int .u8 a0_7) ∧ w17.cell? ⟨gb252, 8, none⟩ = some (.int .u8 a0_8) ∧ w17.cell? ⟨gb252, 9, none⟩ = some (.int .u8 a0_9) ∧ w17.cell? ⟨gb252, 10, none⟩ = some (.int .u8 a0_10) ∧ w17.cell? ⟨gb252, 11, none⟩ = some (.int .u8 a0_11) ∧ w17.cell? ⟨gb252, 12, none⟩ = some (.string a0_12) := hS_
       refine norm_ (a' := ?_) ?_ ?_
       rotate_left
       ·simp only [putAll, Act.put, zA15_, zB15_, zC15_]
        rfl
       refine one_ (i := 3) (N := some 11) (bq_15_ 13 1919) rfl rfl (one_of HT_.out (by kernel_rfl)) (by decide) (fun K hK => ?_)
       have hcv18 := own_string (P := Try.prog) Try.underlying33 Try.underlying5 Try.underlying9 (Kd.own_of_R HO256.out)
       refine value_ (w1 := ?_) (v := ?_) (by rfl) rfl ?_ ?_
       rotate_left 2
       ·go_simp
        constructor
        ·rfl
        ·rfl
       clear hcv18
       refine hK.out _ _ ⟨(blk_cell BK252.out 0).trans rfl, (blk_cell BK252.out 1).trans rfl, (blk_cell BK252.out 2).trans rfl, (blk_cell BK252.out 3).trans rfl, (blk_cell BK252.out 4).trans rfl, (blk_cell BK252.out 5).trans rfl, (blk_cell BK252.out 6).trans rfl, (blk_cell BK252.out 7).trans rfl, (blk_cell BK252.out 8).trans rfl, (blk_cell BK252.out 9).trans rfl, (blk_cell BK252.out 10).trans rfl, (blk_cell BK252.out 11).trans rfl, (blk_cell BK252.out 12).trans rfl⟩ (fun hHeld => ?_)
       clear hK K
       refine norm_ (a' := ?_) ?_ ?_
       rotate_left
       ·show Act.put _ (some 11) _ = _
        simp only [Act.put, zA15_, zB15_, zC15_, i64_w, i32_w]
        rfl
       refine pure_ (i := 7) (N := some 15) (v := ?_) (a' := ?_) (bq_15_ 13 2047) rfl rfl (any_of HT_.out (by kernel_rfl)) (fun _ _ _ h => h) (Or.inl ⟨by rfl, ?_⟩) ?_ ?_
       rotate_left
       ·intro w'
        go_simp
        with_reducible rfl
       rotate_left
       ·simp only [Act.put, zA15_, zB15_, zC15_, i64_w, i32_w]
        rfl
       exact norm_ (by first | (simp only [putAll, Act.put, zA15_, zB15_, zC15_]; done) | (simp only [putAll, Act.put, zA15_, zB15_, zC15_]; rfl)) (hJ2_3_6_10 (v255) _ ⟨hHeld, (by (with_reducible repeat (first | apply Kd.R_alloc | apply Kd.R_drewN | apply Kd.R_drew)); exact HO256.out), (by (with_reducible repeat (first | refine blk_drewN ?_ _ | refine blk_drew ?_ | refine blk_alloc ?_ _)); exact BK252.out), (by repeat (first | (with_reducible first | exact HB.out | apply below_alloc | apply pw_below_drewN | apply below_drew1 | refine below_set ?_ GE252.out) | exact HB.out))⟩)
     ·skip
      rintro v255 w17 ⟨hS_, h0_, h1_, h2_⟩
      have n0_ : Aside0 (Kd.R (Kd.int .u8) 5 w17 w.heap.size (fun _ => True) v255 y254) := ⟨h0_⟩
      have n1_ : Aside0 (w17.heap[gb252]? = some (.cells #[.int .u64 a0_0, .int .u64 a0_1, .int .u8 a0_2, .int .u8 a0_3, .int .u8 a0_4, .int .u8 a0_5, .int .u8 a0_6, .int .u8 a0_7, .int .u8 a0_8, .int .u8 a0_9, .int .u8 a0_10, .int .u8 a0_11, .string a0_12] 27 (0, 0))) := ⟨h1_⟩
      have n2_ : Aside0 (Below w.heap.size w w17) := ⟨h2_⟩
      clear BK252
      clear HB
      clear h0_ h1_ h2_
      have HO256 := n0_
      have BK252 := n1_
      have HB := n2_
      clear n0_ n1_ n2_
      have hHeld : w17.cell? ⟨gb252, 0, none⟩ = some (.int .u64 a0_0) ∧ w17.cell? ⟨gb252, 1, none⟩ = some (.int .u64 a0_1) ∧ w17.cell? ⟨gb252, 2, none⟩ = some (.int .u8 a0_2) ∧ w17.cell? ⟨gb252, 3, none⟩ = some (.int .u8 a0_3) ∧ w17.cell? ⟨gb252, 4, none⟩ = some (.int .u8 a0_4) ∧ w17.cell? ⟨gb252, 5, none⟩ = some (.int .u8 a0_5) ∧ w17.cell? ⟨gb252, 6, none⟩ = some (.int .u8 a0_6) ∧ w17.cell? ⟨gb252, 7, none⟩ = some (.int .u8 a0_7) ∧ w17.cell? ⟨gb252, 8, none⟩ = some (.int .u8 a0_8) ∧ w17.cell? ⟨gb252, 9, none⟩ = some (.int .u8 a0_9) ∧ w17.cell? ⟨gb252, 10, none⟩ = some (.int .u8 a0_10) ∧ w17.cell? ⟨gb252, 11, none⟩ = some (.int .u8 a0_11) ∧ w17.cell? ⟨gb252, 12, none⟩ = some (.string a0_12) := hS_
      refine norm_ (a' := ?_) ?_ ?_
      rotate_left
      ·simp only [putAll, Act.put, zA15_, zB15_, zC15_]
       rfl
      refine one_ (i := 10) (N := some 18) (bq_15_ 13 2047) rfl rfl (one_of HT_.out (by kernel_rfl)) (by decide) (fun K hK => ?_)
      refine goes_ Try.func27 (by kernel_rfl) rfl #[.int .u64 a0_1] (by rfl) rfl rfl (by (try simp only [List.map_toArray, List.map_cons, List.map_nil]); first | done | rfl | (simp only [List.length_drop, List.length_take]; rfl)) ?_
      with_reducible refine (wapentakeref01_One.calls k a0_1 t258 _ A6.out).mono ?_
      rintro e w18 ⟨rfl, hb⟩
      refine ⟨_, rfl, ?_⟩
      have n0_ := Aside0.mk (Kd.R_below (by (with_reducible repeat (first | apply Kd.R_alloc | apply Kd.R_drewN | apply Kd.R_drew)); exact HO256.out) hb)
      have n1_ := Aside0.mk (blk_below (g := gb252) (o := .cells #[.int .u64 a0_0, .int .u64 a0_1, .int .u8 a0_2, .int .u8 a0_3, .int .u8 a0_4, .int .u8 a0_5, .int .u8 a0_6, .int .u8 a0_7, .int .u8 a0_8, .int .u8 a0_9, .int .u8 a0_10, .int .u8 a0_11, .string a0_12] 27 (0, 0)) (by (with_reducible repeat (first | refine blk_drewN ?_ _ | refine blk_drew ?_ | refine blk_alloc ?_ _)); exact BK252.out) hb)
      have n2_ := Aside0.mk (below_step (by repeat (first | (with_reducible first | exact HB.out | apply below_alloc | apply pw_below_drewN | apply below_drew1 | refine below_set ?_ GE252.out) | exact HB.out)) hb)
      clear HO256
      clear BK252
      clear HB
      have HO256 := n0_
      have BK252 := n1_
      have HB := n2_
      clear n0_ n1_ n2_
      (try clear hb)
      (try clear hb2)
      (try clear hk)
      (try clear hi)
      refine hK.out _ _ ⟨(blk_cell BK252.out 0).trans rfl, (blk_cell BK252.out 1).trans rfl, (blk_cell BK252.out 2).trans rfl, (blk_cell BK252.out 3).trans rfl, (blk_cell BK252.out 4).trans rfl, (blk_cell BK252.out 5).trans rfl, (blk_cell BK252.out 6).trans rfl, (blk_cell BK252.out 7).trans rfl, (blk_cell BK252.out 8).trans rfl, (blk_cell BK252.out 9).trans rfl, (blk_cell BK252.out 10).trans rfl, (blk_cell BK252.out 11).trans rfl, (blk_cell BK252.out 12).trans rfl⟩ (fun hHeld => ?_)
      clear hK K
      refine norm_ (a' := ?_) ?_ ?_
      rotate_left
      ·show Act.put _ (some 18) _ = _
       simp only [Act.put, zA15_, zB15_, zC15_, i64_w, i32_w]
       rfl
      exact norm_ (by first | (simp only [putAll, Act.put, zA15_, zB15_, zC15_]; done) | (simp only [putAll, Act.put, zA15_, zB15_, zC15_]; rfl)) (hJ2_3_6_10 (v255) _ ⟨hHeld, (by (with_reducible repeat (first | apply Kd.R_alloc | apply Kd.R_drewN | apply Kd.R_drew)); exact HO256.out), (by (with_reducible repeat (first | refine blk_drewN ?_ _ | refine blk_drew ?_ | refine blk_alloc ?_ _)); exact BK252.out), (by repeat (first | (with_reducible first | exact HB.out | apply below_alloc | apply pw_below_drewN | apply below_drew1 | refine below_set ?_ GE252.out) | exact HB.out))⟩)
    rintro v255 w18 ⟨hS_, h0_, h1_, h2_⟩
    have n0_ : Aside0 (Kd.R (Kd.int .u8) 5 w18 w.heap.size (fun _ => True) v255 y254) := ⟨h0_⟩
    have n1_ : Aside0 (w18.heap[gb252]? = some (.cells #[.int .u64 a0_0, .int .u64 a0_1, .int .u8 a0_2, .int .u8 a0_3, .int .u8 a0_4, .int .u8 a0_5, .int .u8 a0_6, .int .u8 a0_7, .int .u8 a0_8, .int .u8 a0_9, .int .u8 a0_10, .int .u8 a0_11, .string a0_12] 27 (0, 0))) := ⟨h1_⟩
    have n2_ : Aside0 (Below w.heap.size w w18) := ⟨h2_⟩
    clear BK252
    clear HB
    clear h0_ h1_ h2_
    have HO256 := n0_
    have BK252 := n1_
    have HB := n2_
    clear n0_ n1_ n2_
    have hHeld : w18.cell? ⟨gb252, 0, none⟩ = some (.int .u64 a0_0) ∧ w18.cell? ⟨gb252, 1, none⟩ = some (.int .u64 a0_1) ∧ w18.cell? ⟨gb252, 2, none⟩ = some (.int .u8 a0_2) ∧ w18.cell? ⟨gb252, 3, none⟩ = some (.int .u8 a0_3) ∧ w18.cell? ⟨gb252, 4, none⟩ = some (.int .u8 a0_4) ∧ w18.cell? ⟨gb252, 5, none⟩ = some (.int .u8 a0_5) ∧ w18.cell? ⟨gb252, 6, none⟩ = some (.int .u8 a0_6) ∧ w18.cell? ⟨gb252, 7, none⟩ = some (.int .u8 a0_7) ∧ w18.cell? ⟨gb252, 8, none⟩ = some (.int .u8 a0_8) ∧ w18.cell? ⟨gb252, 9, none⟩ = some (.int .u8 a0_9) ∧ w18.cell? ⟨gb252, 10, none⟩ = some (.int .u8 a0_10) ∧ w18.cell? ⟨gb252, 11, none⟩ = some (.int .u8 a0_11) ∧ w18.cell? ⟨gb252, 12, none⟩ = some (.string a0_12) := hS_
    refine norm_ (a' := ?_) ?_ ?_
    rotate_left
    ·simp only [putAll, Act.put, zA15_, zB15_, zC15_]
     rfl
    refine pure_ (i := 11) (N := some 19) (v := ?_) (a' := ?_) (bq_15_ 13 4095) rfl rfl (any_of HT_.out (by kernel_rfl)) (fun _ _ _ h => h) (Or.inl ⟨by rfl, ?_⟩) ?_ ?_
    rotate_left
    ·intro w'
     go_simp
     with_reducible rfl
    rotate_left
    ·simp only [Act.put, zA15_, zB15_, zC15_, i64_w, i32_w]
     rfl
    refine pure_ (i := 12) (N := some 3) (v := ?_) (a' := ?_) (bq_15_ 13 8191) rfl rfl (any_of HT_.out (by kernel_rfl)) (fun _ _ _ h => h) (Or.inl ⟨by rfl, ?_⟩) ?_ ?_
    rotate_left
    ·intro w'
     go_simp
     with_reducible rfl
    rotate_left
    ·simp only [Act.put, zA15_, zB15_, zC15_, i64_w, i32_w]
     rfl
    refine done_ (done_of HT_.out (by kernel_rfl)) ?_
    have hcz19_0 : w18.cell? ⟨gb252, 0, none⟩ = some (.int .u64 a0_0) := (blk_cell BK252.out 0).trans rfl
    have hcz19_1 : w18.cell? ⟨gb252, 1, none⟩ = some (.int .u64 a0_1) := (blk_cell BK252.out 1).trans rfl
    have hcz19_2 : w18.cell? ⟨gb252, 2, none⟩ = some (.int .u8 a0_2) := (blk_cell BK252.out 2).trans rfl
    have hcz19_3 : w18.cell? ⟨gb252, 3, none⟩ = some (.int .u8 a0_3) := (blk_cell BK252.out 3).trans rfl
    have hcz19_4 : w18.cell? ⟨gb252, 4, none⟩ = some (.int .u8 a0_4) := (blk_cell BK252.out 4).trans rfl
    have hcz19_5 : w18.cell? ⟨gb252, 5, none⟩ = some (.int .u8 a0_5) := (blk_cell BK252.out 5).trans rfl
    have hcz19_6 : w18.cell? ⟨gb252, 6, none⟩ = some (.int .u8 a0_6) := (blk_cell BK252.out 6).trans rfl
    have hcz19_7 : w18.cell? ⟨gb252, 7, none⟩ = some (.int .u8 a0_7) := (blk_cell BK252.out 7).trans rfl
    have hcz19_8 : w18.cell? ⟨gb252, 8, none⟩ = some (.int .u8 a0_8) := (blk_cell BK252.out 8).trans rfl
    have hcz19_9 : w18.cell? ⟨gb252, 9, none⟩ = some (.int .u8 a0_9) := (blk_cell BK252.out 9).trans rfl
    have hcz19_10 : w18.cell? ⟨gb252, 10, none⟩ = some (.int .u8 a0_10) := (blk_cell BK252.out 10).trans rfl
    have hcz19_11 : w18.cell? ⟨gb252, 11, none⟩ = some (.int .u8 a0_11) := (blk_cell BK252.out 11).trans rfl
    have hcz19_12 : w18.cell? ⟨gb252, 12, none⟩ = some (.string a0_12) := (blk_cell BK252.out 12).trans rfl
    have hfz19_0 := blk_frozen BK252.out 0
    have hfz19_1 := blk_frozen BK252.out 1
    have hfz19_2 := blk_frozen BK252.out 2
    have hfz19_3 := blk_frozen BK252.out 3
    have hfz19_4 := blk_frozen BK252.out 4
    have hfz19_5 := blk_frozen BK252.out 5
    have hfz19_6 := blk_frozen BK252.out 6
    have hfz19_7 := blk_frozen BK252.out 7
    have hfz19_8 := blk_frozen BK252.out 8
    have hfz19_9 := blk_frozen BK252.out 9
    have hfz19_10 := blk_frozen BK252.out 10
    have hfz19_11 := blk_frozen BK252.out 11
    have hfz19_12 := blk_frozen BK252.out 12
    go_upto_if 22 with (fail)
    go_cut [22] (fun v22 wc => ∃ (kq : Nat) (x22_7 : Bool), v22 = .bool x22_7 ∧ Aside0 (wapentakeref04_Write.j0 kq (((strOfNums y254) ++ t257) ++ t258) a0_2 x22_7 a0_0 a0_1 a0_2 a0_3 a0_4 a0_5 a0_6 a0_7 a0_8 a0_9 a0_10 a0_11 a0_12 = some r) ∧ Aside0 (kq ≤ k) ∧ Aside0 (wc.heap[gb252]? = some (.cells #[.int .u64 a0_0, .int .u64 a0_1, .int .u8 a0_2, .int .u8 a0_3, .int .u8 a0_4, .int .u8 a0_5, .int .u8 a0_6, .int .u8 a0_7, .int .u8 a0_8, .int .u8 a0_9, .int .u8 a0_10, .int .u8 a0_11, .string a0_12] 27 (0, 0))) ∧ Aside0 (Below w.heap.size w wc))
    case first =>
     have H := HC8.out
     clear HC8
     by_cases c20 : a0_2 = 2
     ·rw [if_pos c20] at H
      have c20b0 : (a0_2 == 2) = true := beq_iff_eq.mpr c20
      have c20b1 : (a0_2 != 2) = false := bne_eq_false_iff_eq.mpr c20
      clear c20
      (first | rw [c20b0] | (simp only [i64_w, i32_w]; rw [c20b0]) | skip)
      have H' := Aside0.mk H
      clear H
      go_wp2
      go_meet
      case rel => exact ⟨_, ((a0_2 == 2)), (by first | (with_reducible rfl) | (simp; done) | (simp [*]; done) | (refine congrArg (Value.int _) ?_; unfold wrap64; omega) | rfl), H', ⟨by first | omega | exact Nat.le_refl _⟩, ⟨by (with_reducible repeat (first | refine blk_drewN ?_ _ | refine blk_drew ?_ | refine blk_alloc ?_ _)); exact BK252.out⟩, ⟨by repeat (first | (with_reducible first | exact HB.out | apply below_alloc | apply pw_below_drewN | apply below_drew1 | refine below_set ?_ GE252.out) | exact HB.out)⟩⟩
     ·rw [if_neg c20] at H
      have c20b0 : (a0_2 == 2) = false := beq_eq_false_iff_ne.mpr c20
      have c20b1 : (a0_2 != 2) = true := bne_iff_ne.mpr c20
      (first | rw [c20b0] | (simp only [i64_w, i32_w]; rw [c20b0]) | skip)
      have H' := Aside0.mk H
      clear H
      go_wp2
      go_meet
      case rel => exact ⟨_, ((a0_2 == 4)), (by first | (with_reducible rfl) | (simp; done) | (simp [*]; done) | (refine congrArg (Value.int _) ?_; unfold wrap64; omega) | rfl), H', ⟨by first | omega | exact Nat.le_refl _⟩, ⟨by (with_reducible repeat (first | refine blk_drewN ?_ _ | refine blk_drew ?_ | refine blk_alloc ?_ _)); exact BK252.out⟩, ⟨by repeat (first | (with_reducible first | exact HB.out | apply below_alloc | apply pw_below_drewN | apply below_drew1 | refine below_set ?_ GE252.out) | exact HB.out)⟩⟩
    case rest =>
     clear HC8
     try clear c1
     try clear hcv1
     try clear c2
     try clear p2
     try clear p6
     try clear c7
     try clear c7b0
     try clear c7b1
     try clear c7b2
     try clear c15
     try clear c16
     try clear hcv16
     try clear hcv17
     try clear hcv18
     try clear c20
     try clear c20b0
     try clear c20b1
     try clear hcz10_0
     try clear hcz10_1
     try clear hcz10_10
     try clear hcz10_11
     try clear hcz10_12
     try clear hcz10_2
     try clear hcz10_3
     try clear hcz10_4
     try clear hcz10_5
     try clear hcz10_6
     try clear hcz10_7
     try clear hcz10_8
     try clear hcz10_9
     try clear hcz19_0
     try clear hcz19_1
     try clear hcz19_10
     try clear hcz19_11
     try clear hcz19_12
     try clear hcz19_2
     try clear hcz19_3
     try clear hcz19_4
     try clear hcz19_5
     try clear hcz19_6
     try clear hcz19_7
     try clear hcz19_8
     try clear hcz19_9
     try clear hfz10_0
     try clear hfz10_1
     try clear hfz10_10
     try clear hfz10_11
     try clear hfz10_12
     try clear hfz10_2
     try clear hfz10_3
     try clear hfz10_4
     try clear hfz10_5
     try clear hfz10_6
     try clear hfz10_7
     try clear hfz10_8
     try clear hfz10_9
     try clear hfz19_0
     try clear hfz19_1
     try clear hfz19_10
     try clear hfz19_11
     try clear hfz19_12
     try clear hfz19_2
     try clear hfz19_3
     try clear hfz19_4
     try clear hfz19_5
     try clear hfz19_6
     try clear hfz19_7
     try clear hfz19_8
     try clear hfz19_9
     obtain ⟨kq, x22_7, rfl, HA, HJ7, BK252, HB⟩ := hcut
     cases kq with
     | zero => exact absurd HA.out (by simp [wapentakeref04_Write.j0])
     | succ kj7 =>
      have H := HA.out
      clear HA
      simp only [wapentakeref04_Write.j0] at H
      by_cases c21 : x22_7 = true
      ·subst c21
       have H1 : ((wapentakeref01_S.f kj7 (([a0_12] : List ByteArray))).bind fun t262 => (if (((strOfNums y254) ++ t257) ++ t258).size + t262.size ≤ 9223372036854775807 then (some ((((strOfNums y254) ++ t257) ++ t258) ++ t262)) else (none))) = some r := by rw [if_pos rfl] at H; exact H
       clear H
       have H := H1
       clear H1
       obtain ⟨y259, hy259⟩ : ∃ y_ : List ByteArray, y_ = (([a0_12] : List ByteArray)) := ⟨_, rfl⟩
       replace H : ((wapentakeref01_S.f kj7 y259).bind fun t262 => (if (((strOfNums y254) ++ t257) ++ t258).size + t262.size ≤ 9223372036854775807 then (some ((((strOfNums y254) ++ t257) ++ t258) ++ t262)) else (none))) = some r := by first | (rw [hy259]; with_reducible exact H) | (have H2_ := (Option.bind_some _ _).symm.trans H; rw [hy259]; with_reducible exact H2_) | (have H2_ := (Option.bind_some _ _).symm.trans H; with_reducible exact H2_) | with_reducible exact H | (rw [hy259]; exact H) | exact H
       have Ny259 := Aside0.mk hy259
       clear hy259
       replace H := Option.bind_eq_some_iff.mp H
       obtain ⟨t262, A220, H⟩ := H
       replace H : (if (((strOfNums y254) ++ t257) ++ t258).size + t262.size ≤ 9223372036854775807 then (some ((((strOfNums y254) ++ t257) ++ t258) ++ t262)) else (none)) = some r := H
       have A22 := Aside0.mk A220
       clear A220
       by_cases c23 : (((strOfNums y254) ++ t257) ++ t258).size + t262.size ≤ 9223372036854775807
       ·rw [if_pos c23] at H
        have c23b0 := eq_true c23
        have c23b1 : decide ((((strOfNums y254) ++ t257) ++ t258).size + t262.size ≤ 9223372036854775807) = true := decide_eq_true c23
        try have c23b2 : (9223372036854775807 < (((strOfNums y254) ++ t257) ++ t258).size + t262.size) = False := eq_false (Nat.not_lt.2 c23)
        have c23n := c23
        try simp only [ByteArray.size_append] at c23n
        try have c23b3 := eq_false (Nat.not_lt.2 c23n)
        clear c23n
        obtain rfl := Option.some.inj H
        have hcz24_0 : wc.cell? ⟨gb252, 0, none⟩ = some (.int .u64 a0_0) := (blk_cell BK252.out 0).trans rfl
        have hcz24_1 : wc.cell? ⟨gb252, 1, none⟩ = some (.int .u64 a0_1) := (blk_cell BK252.out 1).trans rfl
        have hcz24_2 : wc.cell? ⟨gb252, 2, none⟩ = some (.int .u8 a0_2) := (blk_cell BK252.out 2).trans rfl
        have hcz24_3 : wc.cell? ⟨gb252, 3, none⟩ = some (.int .u8 a0_3) := (blk_cell BK252.out 3).trans rfl
        have hcz24_4 : wc.cell? ⟨gb252, 4, none⟩ = some (.int .u8 a0_4) := (blk_cell BK252.out 4).trans rfl
        have hcz24_5 : wc.cell? ⟨gb252, 5, none⟩ = some (.int .u8 a0_5) := (blk_cell BK252.out 5).trans rfl
        have hcz24_6 : wc.cell? ⟨gb252, 6, none⟩ = some (.int .u8 a0_6) := (blk_cell BK252.out 6).trans rfl
        have hcz24_7 : wc.cell? ⟨gb252, 7, none⟩ = some (.int .u8 a0_7) := (blk_cell BK252.out 7).trans rfl
        have hcz24_8 : wc.cell? ⟨gb252, 8, none⟩ = some (.int .u8 a0_8) := (blk_cell BK252.out 8).trans rfl
        have hcz24_9 : wc.cell? ⟨gb252, 9, none⟩ = some (.int .u8 a0_9) := (blk_cell BK252.out 9).trans rfl
        have hcz24_10 : wc.cell? ⟨gb252, 10, none⟩ = some (.int .u8 a0_10) := (blk_cell BK252.out 10).trans rfl
        have hcz24_11 : wc.cell? ⟨gb252, 11, none⟩ = some (.int .u8 a0_11) := (blk_cell BK252.out 11).trans rfl
        have hcz24_12 : wc.cell? ⟨gb252, 12, none⟩ = some (.string a0_12) := (blk_cell BK252.out 12).trans rfl
        have hfz24_0 := blk_frozen BK252.out 0
        have hfz24_1 := blk_frozen BK252.out 1
        have hfz24_2 := blk_frozen BK252.out 2
        have hfz24_3 := blk_frozen BK252.out 3
        have hfz24_4 := blk_frozen BK252.out 4
        have hfz24_5 := blk_frozen BK252.out 5
        have hfz24_6 := blk_frozen BK252.out 6
        have hfz24_7 := blk_frozen BK252.out 7
        have hfz24_8 := blk_frozen BK252.out 8
        have hfz24_9 := blk_frozen BK252.out 9
        have hfz24_10 := blk_frozen BK252.out 10
        have hfz24_11 := blk_frozen BK252.out 11
        have hfz24_12 := blk_frozen BK252.out 12
        go_wp2_with (first | ((with_reducible refine gate_dst (N := 28) rfl ?_); refine Kd.R_lit Kd.string _ 9 ?hg (N := 28) ?hd (xs := ([a0_12] : List ByteArray)) (inner := [.string a0_12]) (ok := fun _ => True) (okp := fun _ => True) ?hr ?hp (fun _ hk => hk) trivial (Below.refl _ _) (Nat.le_refl _) (by simp) ?_; (case hd => rfl); (case hg => rfl); (case hr => first | (go_simp; done) | (go_simp; rfl)); (case hp => exact (Reps.one (show Kd.M Kd.string _ _ _ a0_12 [.string a0_12] from rfl) (Reps.none _ _))); intro v260 w25 ho26 hb hg_ hnew_; clear hg_ hnew_; (first | rw [← Ny259.out] at ho26 | (simp only [Int.reduceToNat] at ho26; rw [← Ny259.out] at ho26)); have n0_ := Aside0.mk (Kd.R_lower ho26 (below_size (by repeat (first | (with_reducible first | exact HB.out | apply below_alloc | apply pw_below_drewN | apply below_drew1 | refine below_set ?_ GE252.out) | exact HB.out)))); have n1_ := Aside0.mk (blk_below (g := gb252) (o := .cells #[.int .u64 a0_0, .int .u64 a0_1, .int .u8 a0_2, .int .u8 a0_3, .int .u8 a0_4, .int .u8 a0_5, .int .u8 a0_6, .int .u8 a0_7, .int .u8 a0_8, .int .u8 a0_9, .int .u8 a0_10, .int .u8 a0_11, .string a0_12] 27 (0, 0)) (by (with_reducible repeat (first | refine blk_drewN ?_ _ | refine blk_drew ?_ | refine blk_alloc ?_ _)); exact BK252.out) hb); have n2_ := Aside0.mk (below_step (by repeat (first | (with_reducible first | exact HB.out | apply below_alloc | apply pw_below_drewN | apply below_drew1 | refine below_set ?_ GE252.out) | exact HB.out)) hb); clear BK252; clear HB; have HO261 := n0_; have BK252 := n1_; have HB := n2_; clear n0_ n1_ n2_; clear hb ho26; obtain ⟨Ao27, co27, eo27⟩ := Kd.R_slice HO261.out; subst eo27) | ((with_reducible refine gate_callee (f := 28) rfl ?_); refine goesL_ (some 29) rfl rfl Try.func28 (by kernel_rfl) rfl #[.slice Ao27 y259.length co27] rfl (by (try simp only [List.map_toArray, List.map_cons, List.map_nil]); first | done | rfl | (simp only [List.length_drop, List.length_take]; rfl)) ?_; (with_reducible refine (wapentakeref01_S.calls kj7 _ _ y259 t262 _ ?side1 ?side2 A22.out).mono ?_); (case side1 => repeat (first | exact (Kd.R_reads' HO261.out).2.2 | (with_reducible refine Kd.C_alloc ?_ _) | (with_reducible refine Kd.C_drewN ?_ _) | (with_reducible refine Kd.C_drew ?_))); (case side2 => exact (Kd.R_reads' HO261.out).2.1); rintro e w28 ⟨rfl, hb⟩; refine ⟨_, rfl, ?_⟩; have n0_ := Aside0.mk (Kd.R_below (by (with_reducible repeat (first | apply Kd.R_alloc | apply Kd.R_drewN | apply Kd.R_drew)); exact HO261.out) hb); have n1_ := Aside0.mk (blk_below (g := gb252) (o := .cells #[.int .u64 a0_0, .int .u64 a0_1, .int .u8 a0_2, .int .u8 a0_3, .int .u8 a0_4, .int .u8 a0_5, .int .u8 a0_6, .int .u8 a0_7, .int .u8 a0_8, .int .u8 a0_9, .int .u8 a0_10, .int .u8 a0_11, .string a0_12] 27 (0, 0)) (by (with_reducible repeat (first | refine blk_drewN ?_ _ | refine blk_drew ?_ | refine blk_alloc ?_ _)); exact BK252.out) hb); have n2_ := Aside0.mk (below_step (by repeat (first | (with_reducible first | exact HB.out | apply below_alloc | apply pw_below_drewN | apply below_drew1 | refine below_set ?_ GE252.out) | exact HB.out)) hb); clear HO261; clear BK252; clear HB; have HO261 := n0_; have BK252 := n1_; have HB := n2_; clear n0_ n1_ n2_; (try clear hb); (try clear hb2); (try clear hk); (try clear hi)))
        go_ret
        exact ⟨by first | rfl | (simp [errW_none, errW_some] <;> rfl) | (simp [*, errW_none, errW_some] <;> rfl), by repeat (first | (with_reducible first | exact HB.out | apply below_alloc | apply pw_below_drewN | apply below_drew1 | refine below_set ?_ GE252.out) | exact HB.out)⟩
       ·rw [if_neg c23] at H
        exact absurd H (by simp)
      ·replace c21 := Bool.eq_false_iff.mpr c21
       subst c21
       have H1 : (if a0_2 = 3 then ((some (([a0_3] : List Int) : List Int)).bind fun y263 => (if (((strOfNums y254) ++ t257) ++ t258).size + (strOfNums y263).size ≤ 9223372036854775807 then (wapentakeref04_Write.l0 kj7 ((((strOfNums y254) ++ t257) ++ t258) ++ (strOfNums y263)) 0 a0_0 a0_1 a0_2 a0_3 a0_4 a0_5 a0_6 a0_7 a0_8 a0_9 a0_10 a0_11 a0_12) else (none))) else (some (((strOfNums y254) ++ t257) ++ t258))) = some r := by rw [if_neg (show ¬ (false = true) by decide)] at H; exact H
       clear H
       have H := H1
       clear H1
       by_cases c29 : a0_2 = 3
       ·rw [if_pos c29] at H
        have c29b0 : (a0_2 == 3) = true := beq_iff_eq.mpr c29
        have c29b1 : (a0_2 != 3) = false := bne_eq_false_iff_eq.mpr c29
        clear c29
        obtain ⟨y263, hy263⟩ : ∃ y_ : List Int, y_ = (([a0_3] : List Int)) := ⟨_, rfl⟩
        replace H : (if (((strOfNums y254) ++ t257) ++ t258).size + (strOfNums y263).size ≤ 9223372036854775807 then (wapentakeref04_Write.l0 kj7 ((((strOfNums y254) ++ t257) ++ t258) ++ (strOfNums y263)) 0 a0_0 a0_1 a0_2 a0_3 a0_4 a0_5 a0_6 a0_7 a0_8 a0_9 a0_10 a0_11 a0_12) else (none)) = some r := by first | (rw [hy263]; with_reducible exact H) | (have H2_ := (Option.bind_some _ _).symm.trans H; rw [hy263]; with_reducible exact H2_) | (have H2_ := (Option.bind_some _ _).symm.trans H; with_reducible exact H2_) | with_reducible exact H | (rw [hy263]; exact H) | exact H
        have Ny263 := Aside0.mk hy263
        clear hy263
        by_cases c30 : (((strOfNums y254) ++ t257) ++ t258).size + (strOfNums y263).size ≤ 9223372036854775807
        ·rw [if_pos c30] at H
         have c30b0 := eq_true c30
         have c30b1 : decide ((((strOfNums y254) ++ t257) ++ t258).size + (strOfNums y263).size ≤ 9223372036854775807) = true := decide_eq_true c30
         try have c30b2 : (9223372036854775807 < (((strOfNums y254) ++ t257) ++ t258).size + (strOfNums y263).size) = False := eq_false (Nat.not_lt.2 c30)
         have c30n := c30
         try simp only [ByteArray.size_append] at c30n
         try have c30b3 := eq_false (Nat.not_lt.2 c30n)
         clear c30n
         have H' := Aside0.mk H
         clear H
         have hcz31_0 : wc.cell? ⟨gb252, 0, none⟩ = some (.int .u64 a0_0) := (blk_cell BK252.out 0).trans rfl
         have hcz31_1 : wc.cell? ⟨gb252, 1, none⟩ = some (.int .u64 a0_1) := (blk_cell BK252.out 1).trans rfl
         have hcz31_2 : wc.cell? ⟨gb252, 2, none⟩ = some (.int .u8 a0_2) := (blk_cell BK252.out 2).trans rfl
         have hcz31_3 : wc.cell? ⟨gb252, 3, none⟩ = some (.int .u8 a0_3) := (blk_cell BK252.out 3).trans rfl
         have hcz31_4 : wc.cell? ⟨gb252, 4, none⟩ = some (.int .u8 a0_4) := (blk_cell BK252.out 4).trans rfl
         have hcz31_5 : wc.cell? ⟨gb252, 5, none⟩ = some (.int .u8 a0_5) := (blk_cell BK252.out 5).trans rfl
         have hcz31_6 : wc.cell? ⟨gb252, 6, none⟩ = some (.int .u8 a0_6) := (blk_cell BK252.out 6).trans rfl
         have hcz31_7 : wc.cell? ⟨gb252, 7, none⟩ = some (.int .u8 a0_7) := (blk_cell BK252.out 7).trans rfl
         have hcz31_8 : wc.cell? ⟨gb252, 8, none⟩ = some (.int .u8 a0_8) := (blk_cell BK252.out 8).trans rfl
         have hcz31_9 : wc.cell? ⟨gb252, 9, none⟩ = some (.int .u8 a0_9) := (blk_cell BK252.out 9).trans rfl
         have hcz31_10 : wc.cell? ⟨gb252, 10, none⟩ = some (.int .u8 a0_10) := (blk_cell BK252.out 10).trans rfl
         have hcz31_11 : wc.cell? ⟨gb252, 11, none⟩ = some (.int .u8 a0_11) := (blk_cell BK252.out 11).trans rfl
         have hcz31_12 : wc.cell? ⟨gb252, 12, none⟩ = some (.string a0_12) := (blk_cell BK252.out 12).trans rfl
         have hfz31_0 := blk_frozen BK252.out 0
         have hfz31_1 := blk_frozen BK252.out 1
         have hfz31_2 := blk_frozen BK252.out 2
         have hfz31_3 := blk_frozen BK252.out 3
         have hfz31_4 := blk_frozen BK252.out 4
         have hfz31_5 := blk_frozen BK252.out 5
         have hfz31_6 := blk_frozen BK252.out 6
         have hfz31_7 := blk_frozen BK252.out 7
         have hfz31_8 := blk_frozen BK252.out 8
         have hfz31_9 := blk_frozen BK252.out 9
         have hfz31_10 := blk_frozen BK252.out 10
         have hfz31_11 := blk_frozen BK252.out 11
         have hfz31_12 := blk_frozen BK252.out 12
         go_wp2_with (first | ((with_reducible refine gate_dst (N := 36) rfl ?_); refine Kd.R_lit (Kd.int .u8) _ 5 ?hg (N := 36) ?hd (xs := ([a0_3] : List Int)) (inner := [.int .u8 a0_3]) (ok := fun _ => True) (okp := fun _ => True) ?hr ?hp (fun _ hk => hk) trivial (Below.refl _ _) (Nat.le_refl _) (by simp) ?_; (case hd => rfl); (case hg => rfl); (case hr => first | (go_simp; done) | (go_simp; rfl)); (case hp => exact (Reps.one (show Kd.M (Kd.int .u8) _ _ _ a0_3 [.int .u8 a0_3] from rfl) (Reps.none _ _))); intro v264 w32 ho33 hb hg_ hnew_; clear hg_ hnew_; (first | rw [← Ny263.out] at ho33 | (simp only [Int.reduceToNat] at ho33; rw [← Ny263.out] at ho33)); have n0_ := Aside0.mk (Kd.R_lower ho33 (below_size (by repeat (first | (with_reducible first | exact HB.out | apply below_alloc | apply pw_below_drewN | apply below_drew1 | refine below_set ?_ GE252.out) | exact HB.out)))); have n1_ := Aside0.mk (blk_below (g := gb252) (o := .cells #[.int .u64 a0_0, .int .u64 a0_1, .int .u8 a0_2, .int .u8 a0_3, .int .u8 a0_4, .int .u8 a0_5, .int .u8 a0_6, .int .u8 a0_7, .int .u8 a0_8, .int .u8 a0_9, .int .u8 a0_10, .int .u8 a0_11, .string a0_12] 27 (0, 0)) (by (with_reducible repeat (first | refine blk_drewN ?_ _ | refine blk_drew ?_ | refine blk_alloc ?_ _)); exact BK252.out) hb); have n2_ := Aside0.mk (below_step (by repeat (first | (with_reducible first | exact HB.out | apply below_alloc | apply pw_below_drewN | apply below_drew1 | refine below_set ?_ GE252.out) | exact HB.out)) hb); clear BK252; clear HB; have HO265 := n0_; have BK252 := n1_; have HB := n2_; clear n0_ n1_ n2_; clear hb ho33; have hcv34 := own_string (P := Try.prog) Try.underlying33 Try.underlying5 Try.underlying9 (Kd.own_of_R HO265.out)))
         go_loopg [3, 4] kj7 (fun kq v3 v4 w' => ∃ (x3_2 : ByteArray) (x4_2 : Int), v3 = .string x3_2 ∧ v4 = .int .i64 x4_2 ∧ Aside0 (wapentakeref04_Write.l0 kq x3_2 x4_2 a0_0 a0_1 a0_2 a0_3 a0_4 a0_5 a0_6 a0_7 a0_8 a0_9 a0_10 a0_11 a0_12 = some r) ∧ Aside0 (kq ≤ kj7) ∧ Aside0 (w'.heap[gb252]? = some (.cells #[.int .u64 a0_0, .int .u64 a0_1, .int .u8 a0_2, .int .u8 a0_3, .int .u8 a0_4, .int .u8 a0_5, .int .u8 a0_6, .int .u8 a0_7, .int .u8 a0_8, .int .u8 a0_9, .int .u8 a0_10, .int .u8 a0_11, .string a0_12] 27 (0, 0))) ∧ Aside0 (Below w.heap.size w w'))
         case atStart => exact ⟨((((strOfNums y254) ++ t257) ++ t258) ++ (strOfNums y263)), (0), (by first | (with_reducible rfl) | (simp; done) | (simp [*]; done) | (refine congrArg (Value.int _) ?_; unfold wrap64; omega) | rfl), (by first | (with_reducible rfl) | (simp; done) | (simp [*]; done) | (refine congrArg (Value.int _) ?_; unfold wrap64; omega) | rfl), H', ⟨Nat.le_refl _⟩, ⟨by (with_reducible repeat (first | refine blk_drewN ?_ _ | refine blk_drew ?_ | refine blk_alloc ?_ _)); exact BK252.out⟩, ⟨by repeat (first | (with_reducible first | exact HB.out | apply below_alloc | apply pw_below_drewN | apply below_drew1 | refine below_set ?_ GE252.out) | exact HB.out)⟩⟩
         case round =>
          clear H'
          try clear c1
          try clear hcv1
          try clear c2
          try clear p2
          try clear c3
          try clear hcv3
          try clear p6
          try clear c7
          try clear c7b0
          try clear c7b1
          try clear c7b2
          try clear c15
          try clear c16
          try clear hcv16
          try clear hcv17
          try clear hcv18
          try clear c20
          try clear c20b0
          try clear c20b1
          try clear c21
          try clear c23
          try clear c23b0
          try clear c23b1
          try clear c23b2
          try clear c27
          try clear c28
          try clear c29
          try clear c29b0
          try clear c29b1
          try clear c30
          try clear c30b0
          try clear c30b1
          try clear c30b2
          try clear hcv34
          try clear hcz10_0
          try clear hcz10_1
          try clear hcz10_10
          try clear hcz10_11
          try clear hcz10_12
          try clear hcz10_2
          try clear hcz10_3
          try clear hcz10_4
          try clear hcz10_5
          try clear hcz10_6
          try clear hcz10_7
          try clear hcz10_8
          try clear hcz10_9
          try clear hcz19_0
          try clear hcz19_1
          try clear hcz19_10
          try clear hcz19_11
          try clear hcz19_12
          try clear hcz19_2
          try clear hcz19_3
          try clear hcz19_4
          try clear hcz19_5
          try clear hcz19_6
          try clear hcz19_7
          try clear hcz19_8
          try clear hcz19_9
          try clear hcz24_0
          try clear hcz24_1
          try clear hcz24_10
          try clear hcz24_11
          try clear hcz24_12
          try clear hcz24_2
          try clear hcz24_3
          try clear hcz24_4
          try clear hcz24_5
          try clear hcz24_6
          try clear hcz24_7
          try clear hcz24_8
          try clear hcz24_9
          try clear hcz31_0
          try clear hcz31_1
          try clear hcz31_10
          try clear hcz31_11
          try clear hcz31_12
          try clear hcz31_2
          try clear hcz31_3
          try clear hcz31_4
          try clear hcz31_5
          try clear hcz31_6
          try clear hcz31_7
          try clear hcz31_8
          try clear hcz31_9
          try clear hfz10_0
          try clear hfz10_1
          try clear hfz10_10
          try clear hfz10_11
          try clear hfz10_12
          try clear hfz10_2
          try clear hfz10_3
          try clear hfz10_4
          try clear hfz10_5
          try clear hfz10_6
          try clear hfz10_7
          try clear hfz10_8
          try clear hfz10_9
          try clear hfz19_0
          try clear hfz19_1
          try clear hfz19_10
          try clear hfz19_11
          try clear hfz19_12
          try clear hfz19_2
          try clear hfz19_3
          try clear hfz19_4
          try clear hfz19_5
          try clear hfz19_6
          try clear hfz19_7
          try clear hfz19_8
          try clear hfz19_9
          try clear hfz24_0
          try clear hfz24_1
          try clear hfz24_10
          try clear hfz24_11
          try clear hfz24_12
          try clear hfz24_2
          try clear hfz24_3
          try clear hfz24_4
          try clear hfz24_5
          try clear hfz24_6
          try clear hfz24_7
          try clear hfz24_8
          try clear hfz24_9
          try clear hfz31_0
          try clear hfz31_1
          try clear hfz31_10
          try clear hfz31_11
          try clear hfz31_12
          try clear hfz31_2
          try clear hfz31_3
          try clear hfz31_4
          try clear hfz31_5
          try clear hfz31_6
          try clear hfz31_7
          try clear hfz31_8
          try clear hfz31_9
          try clear p2
          try clear p6
          obtain ⟨x3_2, x4_2, rfl, rfl, HA, HK2, BK252, HB⟩ := hrel
          cases gk with
          | zero => exact absurd HA.out (by simp [wapentakeref04_Write.l0])
          | succ k2 =>
           have H := HA.out
           clear HA
           simp only [wapentakeref04_Write.l0] at H
           by_cases c35 : x4_2 < 8
           ·rw [if_pos c35] at H
            have c35b0 : decide (x4_2 < 8) = true := decide_eq_true c35
            clear c35
            by_cases c36 : 0 ≤ x4_2
            ·rw [if_pos c36] at H
             have c36b0 : decide (0 ≤ x4_2) = true := decide_eq_true c36
             clear c36
             by_cases c37 : x4_2 = 0
             ·rw [if_pos c37] at H
              have c37b0 : (x4_2 == 0) = true := beq_iff_eq.mpr c37
              have c37b1 : (x4_2 != 0) = false := bne_eq_false_iff_eq.mpr c37
              clear c37
              have c38e : x4_2 = 0 := by first | omega | (have h_ := eq_of_beq (show ((x4_2) == 0) = true from by first | assumption | (with_reducible assumption)); omega)
              have c38l : x4_2 ≤ 0 := by omega
              have c38g : 0 ≤ x4_2 := by omega
              have c38t : (x4_2 : Int).toNat = 0 := by omega
              clear c38e
              obtain ⟨y266, hy266⟩ : ∃ y_ : List Int, y_ = (([a0_4] : List Int)) := ⟨_, rfl⟩
              replace H : (if x3_2.size + (strOfNums y266).size ≤ 9223372036854775807 then (wapentakeref04_Write.l0 k2 (x3_2 ++ (strOfNums y266)) (wrap64 (x4_2 + 1)) a0_0 a0_1 a0_2 a0_3 a0_4 a0_5 a0_6 a0_7 a0_8 a0_9 a0_10 a0_11 a0_12) else (none)) = some r := by first | (rw [hy266]; with_reducible exact H) | (have H2_ := (Option.bind_some _ _).symm.trans H; rw [hy266]; with_reducible exact H2_) | (have H2_ := (Option.bind_some _ _).symm.trans H; with_reducible exact H2_) | with_reducible exact H | (rw [hy266]; exact H) | exact H
              have Ny266 := Aside0.mk hy266
              clear hy266
              by_cases c39 : x3_2.size + (strOfNums y266).size ≤ 9223372036854775807
              ·rw [if_pos c39] at H
               have c39b0 := eq_true c39
               have c39b1 : decide (x3_2.size + (strOfNums y266).size ≤ 9223372036854775807) = true := decide_eq_true c39
               try have c39b2 : (9223372036854775807 < x3_2.size + (strOfNums y266).size) = False := eq_false (Nat.not_lt.2 c39)
               have H' := Aside0.mk H
               clear H
               have hcz40_0 : wr.cell? ⟨gb252, 0, none⟩ = some (.int .u64 a0_0) := (blk_cell BK252.out 0).trans rfl
               have hcz40_1 : wr.cell? ⟨gb252, 1, none⟩ = some (.int .u64 a0_1) := (blk_cell BK252.out 1).trans rfl
               have hcz40_2 : wr.cell? ⟨gb252, 2, none⟩ = some (.int .u8 a0_2) := (blk_cell BK252.out 2).trans rfl
               have hcz40_3 : wr.cell? ⟨gb252, 3, none⟩ = some (.int .u8 a0_3) := (blk_cell BK252.out 3).trans rfl
               have hcz40_4 : wr.cell? ⟨gb252, 4, none⟩ = some (.int .u8 a0_4) := (blk_cell BK252.out 4).trans rfl
               have hcz40_5 : wr.cell? ⟨gb252, 5, none⟩ = some (.int .u8 a0_5) := (blk_cell BK252.out 5).trans rfl
               have hcz40_6 : wr.cell? ⟨gb252, 6, none⟩ = some (.int .u8 a0_6) := (blk_cell BK252.out 6).trans rfl
               have hcz40_7 : wr.cell? ⟨gb252, 7, none⟩ = some (.int .u8 a0_7) := (blk_cell BK252.out 7).trans rfl
               have hcz40_8 : wr.cell? ⟨gb252, 8, none⟩ = some (.int .u8 a0_8) := (blk_cell BK252.out 8).trans rfl
               have hcz40_9 : wr.cell? ⟨gb252, 9, none⟩ = some (.int .u8 a0_9) := (blk_cell BK252.out 9).trans rfl
               have hcz40_10 : wr.cell? ⟨gb252, 10, none⟩ = some (.int .u8 a0_10) := (blk_cell BK252.out 10).trans rfl
               have hcz40_11 : wr.cell? ⟨gb252, 11, none⟩ = some (.int .u8 a0_11) := (blk_cell BK252.out 11).trans rfl
               have hcz40_12 : wr.cell? ⟨gb252, 12, none⟩ = some (.string a0_12) := (blk_cell BK252.out 12).trans rfl
               have hfz40_0 := blk_frozen BK252.out 0
               have hfz40_1 := blk_frozen BK252.out 1
               have hfz40_2 := blk_frozen BK252.out 2
               have hfz40_3 := blk_frozen BK252.out 3
               have hfz40_4 := blk_frozen BK252.out 4
               have hfz40_5 := blk_frozen BK252.out 5
               have hfz40_6 := blk_frozen BK252.out 6
               have hfz40_7 := blk_frozen BK252.out 7
               have hfz40_8 := blk_frozen BK252.out 8
               have hfz40_9 := blk_frozen BK252.out 9
               have hfz40_10 := blk_frozen BK252.out 10
               have hfz40_11 := blk_frozen BK252.out 11
               have hfz40_12 := blk_frozen BK252.out 12
               go_wp2_with (first | ((with_reducible refine gate_dst (N := 48) rfl ?_); refine Kd.R_lit (Kd.int .u8) _ 5 ?hg (N := 48) ?hd (xs := ([a0_4] : List Int)) (inner := [.int .u8 a0_4]) (ok := fun _ => True) (okp := fun _ => True) ?hr ?hp (fun _ hk => hk) trivial (Below.refl _ _) (Nat.le_refl _) (by simp) ?_; (case hd => rfl); (case hg => rfl); (case hr => first | (go_simp; done) | (go_simp; rfl)); (case hp => exact (Reps.one (show Kd.M (Kd.int .u8) _ _ _ a0_4 [.int .u8 a0_4] from rfl) (Reps.none _ _))); intro v267 w41 ho42 hb hg_ hnew_; clear hg_ hnew_; (first | rw [← Ny266.out] at ho42 | (simp only [Int.reduceToNat] at ho42; rw [← Ny266.out] at ho42)); have n0_ := Aside0.mk (Kd.R_lower ho42 (below_size (by repeat (first | (with_reducible first | exact HB.out | apply below_alloc | apply pw_below_drewN | apply below_drew1 | refine below_set ?_ GE252.out) | exact HB.out)))); have n1_ := Aside0.mk (blk_below (g := gb252) (o := .cells #[.int .u64 a0_0, .int .u64 a0_1, .int .u8 a0_2, .int .u8 a0_3, .int .u8 a0_4, .int .u8 a0_5, .int .u8 a0_6, .int .u8 a0_7, .int .u8 a0_8, .int .u8 a0_9, .int .u8 a0_10, .int .u8 a0_11, .string a0_12] 27 (0, 0)) (by (with_reducible repeat (first | refine blk_drewN ?_ _ | refine blk_drew ?_ | refine blk_alloc ?_ _)); exact BK252.out) hb); have n2_ := Aside0.mk (below_step (by repeat (first | (with_reducible first | exact HB.out | apply below_alloc | apply pw_below_drewN | apply below_drew1 | refine below_set ?_ GE252.out) | exact HB.out)) hb); clear BK252; clear HB; have HO268 := n0_; have BK252 := n1_; have HB := n2_; clear n0_ n1_ n2_; clear hb ho42; have hcv43 := own_string (P := Try.prog) Try.underlying33 Try.underlying5 Try.underlying9 (Kd.own_of_R HO268.out)))
               go_roundg k2
               case measure => have := HJ7.out; have := HK2.out; omega
               case rel => exact ⟨(x3_2 ++ (strOfNums y266)), (wrap64 (x4_2 + 1)), (by first | (with_reducible rfl) | (simp; done) | (simp [*]; done) | (refine congrArg (Value.int _) ?_; unfold wrap64; omega) | rfl), (by first | (with_reducible rfl) | (simp; done) | (simp [*]; done) | (refine congrArg (Value.int _) ?_; unfold wrap64; omega) | rfl), H', ⟨by have := HJ7.out; have := HK2.out; omega⟩, ⟨by (with_reducible repeat (first | refine blk_drewN ?_ _ | refine blk_drew ?_ | refine blk_alloc ?_ _)); exact BK252.out⟩, ⟨by repeat (first | (with_reducible first | exact HB.out | apply below_alloc | apply pw_below_drewN | apply below_drew1 | refine below_set ?_ GE252.out) | exact HB.out)⟩⟩
              ·rw [if_neg c39] at H
               exact absurd H (by simp)
             ·rw [if_neg c37] at H
              have c37b0 : (x4_2 == 0) = false := beq_eq_false_iff_ne.mpr c37
              have c37b1 : (x4_2 != 0) = true := bne_iff_ne.mpr c37
              by_cases c44 : x4_2 = 1
              ·rw [if_pos c44] at H
               have c44b0 : (x4_2 == 1) = true := beq_iff_eq.mpr c44
               have c44b1 : (x4_2 != 1) = false := bne_eq_false_iff_eq.mpr c44
               clear c44
               have c45e : x4_2 = 1 := by first | omega | (have h_ := eq_of_beq (show ((x4_2) == 1) = true from by first | assumption | (with_reducible assumption)); omega)
               have c45l : x4_2 ≤ 1 := by omega
               have c45g : 1 ≤ x4_2 := by omega
               have c45t : (x4_2 : Int).toNat = 1 := by omega
               clear c45e
               obtain ⟨y269, hy269⟩ : ∃ y_ : List Int, y_ = (([a0_5] : List Int)) := ⟨_, rfl⟩
               replace H : (if x3_2.size + (strOfNums y269).size ≤ 9223372036854775807 then (wapentakeref04_Write.l0 k2 (x3_2 ++ (strOfNums y269)) (wrap64 (x4_2 + 1)) a0_0 a0_1 a0_2 a0_3 a0_4 a0_5 a0_6 a0_7 a0_8 a0_9 a0_10 a0_11 a0_12) else (none)) = some r := by first | (rw [hy269]; with_reducible exact H) | (have H2_ := (Option.bind_some _ _).symm.trans H; rw [hy269]; with_reducible exact H2_) | (have H2_ := (Option.bind_some _ _).symm.trans H; with_reducible exact H2_) | with_reducible exact H | (rw [hy269]; exact H) | exact H
               have Ny269 := Aside0.mk hy269
               clear hy269
               by_cases c46 : x3_2.size + (strOfNums y269).size ≤ 9223372036854775807
               ·rw [if_pos c46] at H
                have c46b0 := eq_true c46
                have c46b1 : decide (x3_2.size + (strOfNums y269).size ≤ 9223372036854775807) = true := decide_eq_true c46
                try have c46b2 : (9223372036854775807 < x3_2.size + (strOfNums y269).size) = False := eq_false (Nat.not_lt.2 c46)
                have H' := Aside0.mk H
                clear H
                have hcz47_0 : wr.cell? ⟨gb252, 0, none⟩ = some (.int .u64 a0_0) := (blk_cell BK252.out 0).trans rfl
                have hcz47_1 : wr.cell? ⟨gb252, 1, none⟩ = some (.int .u64 a0_1) := (blk_cell BK252.out 1).trans rfl
                have hcz47_2 : wr.cell? ⟨gb252, 2, none⟩ = some (.int .u8 a0_2) := (blk_cell BK252.out 2).trans rfl
                have hcz47_3 : wr.cell? ⟨gb252, 3, none⟩ = some (.int .u8 a0_3) := (blk_cell BK252.out 3).trans rfl
                have hcz47_4 : wr.cell? ⟨gb252, 4, none⟩ = some (.int .u8 a0_4) := (blk_cell BK252.out 4).trans rfl
                have hcz47_5 : wr.cell? ⟨gb252, 5, none⟩ = some (.int .u8 a0_5) := (blk_cell BK252.out 5).trans rfl
                have hcz47_6 : wr.cell? ⟨gb252, 6, none⟩ = some (.int .u8 a0_6) := (blk_cell BK252.out 6).trans rfl
                have hcz47_7 : wr.cell? ⟨gb252, 7, none⟩ = some (.int .u8 a0_7) := (blk_cell BK252.out 7).trans rfl
                have hcz47_8 : wr.cell? ⟨gb252, 8, none⟩ = some (.int .u8 a0_8) := (blk_cell BK252.out 8).trans rfl
                have hcz47_9 : wr.cell? ⟨gb252, 9, none⟩ = some (.int .u8 a0_9) := (blk_cell BK252.out 9).trans rfl
                have hcz47_10 : wr.cell? ⟨gb252, 10, none⟩ = some (.int .u8 a0_10) := (blk_cell BK252.out 10).trans rfl
                have hcz47_11 : wr.cell? ⟨gb252, 11, none⟩ = some (.int .u8 a0_11) := (blk_cell BK252.out 11).trans rfl
                have hcz47_12 : wr.cell? ⟨gb252, 12, none⟩ = some (.string a0_12) := (blk_cell BK252.out 12).trans rfl
                have hfz47_0 := blk_frozen BK252.out 0
                have hfz47_1 := blk_frozen BK252.out 1
                have hfz47_2 := blk_frozen BK252.out 2
                have hfz47_3 := blk_frozen BK252.out 3
                have hfz47_4 := blk_frozen BK252.out 4
                have hfz47_5 := blk_frozen BK252.out 5
                have hfz47_6 := blk_frozen BK252.out 6
                have hfz47_7 := blk_frozen BK252.out 7
                have hfz47_8 := blk_frozen BK252.out 8
                have hfz47_9 := blk_frozen BK252.out 9
                have hfz47_10 := blk_frozen BK252.out 10
                have hfz47_11 := blk_frozen BK252.out 11
                have hfz47_12 := blk_frozen BK252.out 12
                go_wp2_with (first | ((with_reducible refine gate_dst (N := 48) rfl ?_); refine Kd.R_lit (Kd.int .u8) _ 5 ?hg (N := 48) ?hd (xs := ([a0_5] : List Int)) (inner := [.int .u8 a0_5]) (ok := fun _ => True) (okp := fun _ => True) ?hr ?hp (fun _ hk => hk) trivial (Below.refl _ _) (Nat.le_refl _) (by simp) ?_; (case hd => rfl); (case hg => rfl); (case hr => first | (go_simp; done) | (go_simp; rfl)); (case hp => exact (Reps.one (show Kd.M (Kd.int .u8) _ _ _ a0_5 [.int .u8 a0_5] from rfl) (Reps.none _ _))); intro v270 w48 ho49 hb hg_ hnew_; clear hg_ hnew_; (first | rw [← Ny269.out] at ho49 | (simp only [Int.reduceToNat] at ho49; rw [← Ny269.out] at ho49)); have n0_ := Aside0.mk (Kd.R_lower ho49 (below_size (by repeat (first | (with_reducible first | exact HB.out | apply below_alloc | apply pw_below_drewN | apply below_drew1 | refine below_set ?_ GE252.out) | exact HB.out)))); have n1_ := Aside0.mk (blk_below (g := gb252) (o := .cells #[.int .u64 a0_0, .int .u64 a0_1, .int .u8 a0_2, .int .u8 a0_3, .int .u8 a0_4, .int .u8 a0_5, .int .u8 a0_6, .int .u8 a0_7, .int .u8 a0_8, .int .u8 a0_9, .int .u8 a0_10, .int .u8 a0_11, .string a0_12] 27 (0, 0)) (by (with_reducible repeat (first | refine blk_drewN ?_ _ | refine blk_drew ?_ | refine blk_alloc ?_ _)); exact BK252.out) hb); have n2_ := Aside0.mk (below_step (by repeat (first | (with_reducible first | exact HB.out | apply below_alloc | apply pw_below_drewN | apply below_drew1 | refine below_set ?_ GE252.out) | exact HB.out)) hb); clear BK252; clear HB; have HO271 := n0_; have BK252 := n1_; have HB := n2_; clear n0_ n1_ n2_; clear hb ho49; have hcv50 := own_string (P := Try.prog) Try.underlying33 Try.underlying5 Try.underlying9 (Kd.own_of_R HO271.out)))
                go_roundg k2
                case measure => have := HJ7.out; have := HK2.out; omega
                case rel => exact ⟨(x3_2 ++ (strOfNums y269)), (wrap64 (x4_2 + 1)), (by first | (with_reducible rfl) | (simp; done) | (simp [*]; done) | (refine congrArg (Value.int _) ?_; unfold wrap64; omega) | rfl), (by first | (with_reducible rfl) | (simp; done) | (simp [*]; done) | (refine congrArg (Value.int _) ?_; unfold wrap64; omega) | rfl), H', ⟨by have := HJ7.out; have := HK2.out; omega⟩, ⟨by (with_reducible repeat (first | refine blk_drewN ?_ _ | refine blk_drew ?_ | refine blk_alloc ?_ _)); exact BK252.out⟩, ⟨by repeat (first | (with_reducible first | exact HB.out | apply below_alloc | apply pw_below_drewN | apply below_drew1 | refine below_set ?_ GE252.out) | exact HB.out)⟩⟩
               ·rw [if_neg c46] at H
                exact absurd H (by simp)
              ·rw [if_neg c44] at H
               have c44b0 : (x4_2 == 1) = false := beq_eq_false_iff_ne.mpr c44
               have c44b1 : (x4_2 != 1) = true := bne_iff_ne.mpr c44
               by_cases c51 : x4_2 = 2
               ·rw [if_pos c51] at H
                have c51b0 : (x4_2 == 2) = true := beq_iff_eq.mpr c51
                have c51b1 : (x4_2 != 2) = false := bne_eq_false_iff_eq.mpr c51
                clear c51
                have c52e : x4_2 = 2 := by first | omega | (have h_ := eq_of_beq (show ((x4_2) == 2) = true from by first | assumption | (with_reducible assumption)); omega)
                have c52l : x4_2 ≤ 2 := by omega
                have c52g : 2 ≤ x4_2 := by omega
                have c52t : (x4_2 : Int).toNat = 2 := by omega
                clear c52e
                obtain ⟨y272, hy272⟩ : ∃ y_ : List Int, y_ = (([a0_6] : List Int)) := ⟨_, rfl⟩
                replace H : (if x3_2.size + (strOfNums y272).size ≤ 9223372036854775807 then (wapentakeref04_Write.l0 k2 (x3_2 ++ (strOfNums y272)) (wrap64 (x4_2 + 1)) a0_0 a0_1 a0_2 a0_3 a0_4 a0_5 a0_6 a0_7 a0_8 a0_9 a0_10 a0_11 a0_12) else (none)) = some r := by first | (rw [hy272]; with_reducible exact H) | (have H2_ := (Option.bind_some _ _).symm.trans H; rw [hy272]; with_reducible exact H2_) | (have H2_ := (Option.bind_some _ _).symm.trans H; with_reducible exact H2_) | with_reducible exact H | (rw [hy272]; exact H) | exact H
                have Ny272 := Aside0.mk hy272
                clear hy272
                by_cases c53 : x3_2.size + (strOfNums y272).size ≤ 9223372036854775807
                ·rw [if_pos c53] at H
                 have c53b0 := eq_true c53
                 have c53b1 : decide (x3_2.size + (strOfNums y272).size ≤ 9223372036854775807) = true := decide_eq_true c53
                 try have c53b2 : (9223372036854775807 < x3_2.size + (strOfNums y272).size) = False := eq_false (Nat.not_lt.2 c53)
                 have H' := Aside0.mk H
                 clear H
                 have hcz54_0 : wr.cell? ⟨gb252, 0, none⟩ = some (.int .u64 a0_0) := (blk_cell BK252.out 0).trans rfl
                 have hcz54_1 : wr.cell? ⟨gb252, 1, none⟩ = some (.int .u64 a0_1) := (blk_cell BK252.out 1).trans rfl
                 have hcz54_2 : wr.cell? ⟨gb252, 2, none⟩ = some (.int .u8 a0_2) := (blk_cell BK252.out 2).trans rfl
                 have hcz54_3 : wr.cell? ⟨gb252, 3, none⟩ = some (.int .u8 a0_3) := (blk_cell BK252.out 3).trans rfl
                 have hcz54_4 : wr.cell? ⟨gb252, 4, none⟩ = some (.int .u8 a0_4) := (blk_cell BK252.out 4).trans rfl
                 have hcz54_5 : wr.cell? ⟨gb252, 5, none⟩ = some (.int .u8 a0_5) := (blk_cell BK252.out 5).trans rfl
                 have hcz54_6 : wr.cell? ⟨gb252, 6, none⟩ = some (.int .u8 a0_6) := (blk_cell BK252.out 6).trans rfl
                 have hcz54_7 : wr.cell? ⟨gb252, 7, none⟩ = some (.int .u8 a0_7) := (blk_cell BK252.out 7).trans rfl
                 have hcz54_8 : wr.cell? ⟨gb252, 8, none⟩ = some (.int .u8 a0_8) := (blk_cell BK252.out 8).trans rfl
                 have hcz54_9 : wr.cell? ⟨gb252, 9, none⟩ = some (.int .u8 a0_9) := (blk_cell BK252.out 9).trans rfl
                 have hcz54_10 : wr.cell? ⟨gb252, 10, none⟩ = some (.int .u8 a0_10) := (blk_cell BK252.out 10).trans rfl
                 have hcz54_11 : wr.cell? ⟨gb252, 11, none⟩ = some (.int .u8 a0_11) := (blk_cell BK252.out 11).trans rfl
                 have hcz54_12 : wr.cell? ⟨gb252, 12, none⟩ = some (.string a0_12) := (blk_cell BK252.out 12).trans rfl
                 have hfz54_0 := blk_frozen BK252.out 0
                 have hfz54_1 := blk_frozen BK252.out 1
                 have hfz54_2 := blk_frozen BK252.out 2
                 have hfz54_3 := blk_frozen BK252.out 3
                 have hfz54_4 := blk_frozen BK252.out 4
                 have hfz54_5 := blk_frozen BK252.out 5
                 have hfz54_6 := blk_frozen BK252.out 6
                 have hfz54_7 := blk_frozen BK252.out 7
                 have hfz54_8 := blk_frozen BK252.out 8
                 have hfz54_9 := blk_frozen BK252.out 9
                 have hfz54_10 := blk_frozen BK252.out 10
                 have hfz54_11 := blk_frozen BK252.out 11
                 have hfz54_12 := blk_frozen BK252.out 12
                 go_wp2_with (first | ((with_reducible refine gate_dst (N := 48) rfl ?_); refine Kd.R_lit (Kd.int .u8) _ 5 ?hg (N := 48) ?hd (xs := ([a0_6] : List Int)) (inner := [.int .u8 a0_6]) (ok := fun _ => True) (okp := fun _ => True) ?hr ?hp (fun _ hk => hk) trivial (Below.refl _ _) (Nat.le_refl _) (by simp) ?_; (case hd => rfl); (case hg => rfl); (case hr => first | (go_simp; done) | (go_simp; rfl)); (case hp => exact (Reps.one (show Kd.M (Kd.int .u8) _ _ _ a0_6 [.int .u8 a0_6] from rfl) (Reps.none _ _))); intro v273 w55 ho56 hb hg_ hnew_; clear hg_ hnew_; (first | rw [← Ny272.out] at ho56 | (simp only [Int.reduceToNat] at ho56; rw [← Ny272.out] at ho56)); have n0_ := Aside0.mk (Kd.R_lower ho56 (below_size (by repeat (first | (with_reducible first | exact HB.out | apply below_alloc | apply pw_below_drewN | apply below_drew1 | refine below_set ?_ GE252.out) | exact HB.out)))); have n1_ := Aside0.mk (blk_below (g := gb252) (o := .cells #[.int .u64 a0_0, .int .u64 a0_1, .int .u8 a0_2, .int .u8 a0_3, .int .u8 a0_4, .int .u8 a0_5, .int .u8 a0_6, .int .u8 a0_7, .int .u8 a0_8, .int .u8 a0_9, .int .u8 a0_10, .int .u8 a0_11, .string a0_12] 27 (0, 0)) (by (with_reducible repeat (first | refine blk_drewN ?_ _ | refine blk_drew ?_ | refine blk_alloc ?_ _)); exact BK252.out) hb); have n2_ := Aside0.mk (below_step (by repeat (first | (with_reducible first | exact HB.out | apply below_alloc | apply pw_below_drewN | apply below_drew1 | refine below_set ?_ GE252.out) | exact HB.out)) hb); clear BK252; clear HB; have HO274 := n0_; have BK252 := n1_; have HB := n2_; clear n0_ n1_ n2_; clear hb ho56; have hcv57 := own_string (P := Try.prog) Try.underlying33 Try.underlying5 Try.underlying9 (Kd.own_of_R HO274.out)))
                 go_roundg k2
                 case measure => have := HJ7.out; have := HK2.out; omega
                 case rel => exact ⟨(x3_2 ++ (strOfNums y272)), (wrap64 (x4_2 + 1)), (by first | (with_reducible rfl) | (simp; done) | (simp [*]; done) | (refine congrArg (Value.int _) ?_; unfold wrap64; omega) | rfl), (by first | (with_reducible rfl) | (simp; done) | (simp [*]; done) | (refine congrArg (Value.int _) ?_; unfold wrap64; omega) | rfl), H', ⟨by have := HJ7.out; have := HK2.out; omega⟩, ⟨by (with_reducible repeat (first | refine blk_drewN ?_ _ | refine blk_drew ?_ | refine blk_alloc ?_ _)); exact BK252.out⟩, ⟨by repeat (first | (with_reducible first | exact HB.out | apply below_alloc | apply pw_below_drewN | apply below_drew1 | refine below_set ?_ GE252.out) | exact HB.out)⟩⟩
                ·rw [if_neg c53] at H
                 exact absurd H (by simp)
               ·rw [if_neg c51] at H
                have c51b0 : (x4_2 == 2) = false := beq_eq_false_iff_ne.mpr c51
                have c51b1 : (x4_2 != 2) = true := bne_iff_ne.mpr c51
                by_cases c58 : x4_2 = 3
                ·rw [if_pos c58] at H
                 have c58b0 : (x4_2 == 3) = true := beq_iff_eq.mpr c58
                 have c58b1 : (x4_2 != 3) = false := bne_eq_false_iff_eq.mpr c58
                 clear c58
                 have c59e : x4_2 = 3 := by first | omega | (have h_ := eq_of_beq (show ((x4_2) == 3) = true from by first | assumption | (with_reducible assumption)); omega)
                 have c59l : x4_2 ≤ 3 := by omega
                 have c59g : 3 ≤ x4_2 := by omega
                 have c59t : (x4_2 : Int).toNat = 3 := by omega
                 clear c59e
                 obtain ⟨y275, hy275⟩ : ∃ y_ : List Int, y_ = (([a0_7] : List Int)) := ⟨_, rfl⟩
                 replace H : (if x3_2.size + (strOfNums y275).size ≤ 9223372036854775807 then (wapentakeref04_Write.l0 k2 (x3_2 ++ (strOfNums y275)) (wrap64 (x4_2 + 1)) a0_0 a0_1 a0_2 a0_3 a0_4 a0_5 a0_6 a0_7 a0_8 a0_9 a0_10 a0_11 a0_12) else (none)) = some r := by first | (rw [hy275]; with_reducible exact H) | (have H2_ := (Option.bind_some _ _).symm.trans H; rw [hy275]; with_reducible exact H2_) | (have H2_ := (Option.bind_some _ _).symm.trans H; with_reducible exact H2_) | with_reducible exact H | (rw [hy275]; exact H) | exact H
                 have Ny275 := Aside0.mk hy275
                 clear hy275
                 by_cases c60 : x3_2.size + (strOfNums y275).size ≤ 9223372036854775807
                 ·rw [if_pos c60] at H
                  have c60b0 := eq_true c60
                  have c60b1 : decide (x3_2.size + (strOfNums y275).size ≤ 9223372036854775807) = true := decide_eq_true c60
                  try have c60b2 : (9223372036854775807 < x3_2.size + (strOfNums y275).size) = False := eq_false (Nat.not_lt.2 c60)
                  have H' := Aside0.mk H
                  clear H
                  have hcz61_0 : wr.cell? ⟨gb252, 0, none⟩ = some (.int .u64 a0_0) := (blk_cell BK252.out 0).trans rfl
                  have hcz61_1 : wr.cell? ⟨gb252, 1, none⟩ = some (.int .u64 a0_1) := (blk_cell BK252.out 1).trans rfl
                  have hcz61_2 : wr.cell? ⟨gb252, 2, none⟩ = some (.int .u8 a0_2) := (blk_cell BK252.out 2).trans rfl
                  have hcz61_3 : wr.cell? ⟨gb252, 3, none⟩ = some (.int .u8 a0_3) := (blk_cell BK252.out 3).trans rfl
                  have hcz61_4 : wr.cell? ⟨gb252, 4, none⟩ = some (.int .u8 a0_4) := (blk_cell BK252.out 4).trans rfl
                  have hcz61_5 : wr.cell? ⟨gb252, 5, none⟩ = some (.int .u8 a0_5) := (blk_cell BK252.out 5).trans rfl
                  have hcz61_6 : wr.cell? ⟨gb252, 6, none⟩ = some (.int .u8 a0_6) := (blk_cell BK252.out 6).trans rfl
                  have hcz61_7 : wr.cell? ⟨gb252, 7, none⟩ = some (.int .u8 a0_7) := (blk_cell BK252.out 7).trans rfl
                  have hcz61_8 : wr.cell? ⟨gb252, 8, none⟩ = some (.int .u8 a0_8) := (blk_cell BK252.out 8).trans rfl
                  have hcz61_9 : wr.cell? ⟨gb252, 9, none⟩ = some (.int .u8 a0_9) := (blk_cell BK252.out 9).trans rfl
                  have hcz61_10 : wr.cell? ⟨gb252, 10, none⟩ = some (.int .u8 a0_10) := (blk_cell BK252.out 10).trans rfl
                  have hcz61_11 : wr.cell? ⟨gb252, 11, none⟩ = some (.int .u8 a0_11) := (blk_cell BK252.out 11).trans rfl
                  have hcz61_12 : wr.cell? ⟨gb252, 12, none⟩ = some (.string a0_12) := (blk_cell BK252.out 12).trans rfl
                  have hfz61_0 := blk_frozen BK252.out 0
                  have hfz61_1 := blk_frozen BK252.out 1
                  have hfz61_2 := blk_frozen BK252.out 2
                  have hfz61_3 := blk_frozen BK252.out 3
                  have hfz61_4 := blk_frozen BK252.out 4
                  have hfz61_5 := blk_frozen BK252.out 5
                  have hfz61_6 := blk_frozen BK252.out 6
                  have hfz61_7 := blk_frozen BK252.out 7
                  have hfz61_8 := blk_frozen BK252.out 8
                  have hfz61_9 := blk_frozen BK252.out 9
                  have hfz61_10 := blk_frozen BK252.out 10
                  have hfz61_11 := blk_frozen BK252.out 11
                  have hfz61_12 := blk_frozen BK252.out 12
                  go_wp2_with (first | ((with_reducible refine gate_dst (N := 48) rfl ?_); refine Kd.R_lit (Kd.int .u8) _ 5 ?hg (N := 48) ?hd (xs := ([a0_7] : List Int)) (inner := [.int .u8 a0_7]) (ok := fun _ => True) (okp := fun _ => True) ?hr ?hp (fun _ hk => hk) trivial (Below.refl _ _) (Nat.le_refl _) (by simp) ?_; (case hd => rfl); (case hg => rfl); (case hr => first | (go_simp; done) | (go_simp; rfl)); (case hp => exact (Reps.one (show Kd.M (Kd.int .u8) _ _ _ a0_7 [.int .u8 a0_7] from rfl) (Reps.none _ _))); intro v276 w62 ho63 hb hg_ hnew_; clear hg_ hnew_; (first | rw [← Ny275.out] at ho63 | (simp only [Int.reduceToNat] at ho63; rw [← Ny275.out] at ho63)); have n0_ := Aside0.mk (Kd.R_lower ho63 (below_size (by repeat (first | (with_reducible first | exact HB.out | apply below_alloc | apply pw_below_drewN | apply below_drew1 | refine below_set ?_ GE252.out) | exact HB.out)))); have n1_ := Aside0.mk (blk_below (g := gb252) (o := .cells #[.int .u64 a0_0, .int .u64 a0_1, .int .u8 a0_2, .int .u8 a0_3, .int .u8 a0_4, .int .u8 a0_5, .int .u8 a0_6, .int .u8 a0_7, .int .u8 a0_8, .int .u8 a0_9, .int .u8 a0_10, .int .u8 a0_11, .string a0_12] 27 (0, 0)) (by (with_reducible repeat (first | refine blk_drewN ?_ _ | refine blk_drew ?_ | refine blk_alloc ?_ _)); exact BK252.out) hb); have n2_ := Aside0.mk (below_step (by repeat (first | (with_reducible first | exact HB.out | apply below_alloc | apply pw_below_drewN | apply below_drew1 | refine below_set ?_ GE252.out) | exact HB.out)) hb); clear BK252; clear HB; have HO277 := n0_; have BK252 := n1_; have HB := n2_; clear n0_ n1_ n2_; clear hb ho63; have hcv64 := own_string (P := Try.prog) Try.underlying33 Try.underlying5 Try.underlying9 (Kd.own_of_R HO277.out)))
                  go_roundg k2
                  case measure => have := HJ7.out; have := HK2.out; omega
                  case rel => exact ⟨(x3_2 ++ (strOfNums y275)), (wrap64 (x4_2 + 1)), (by first | (with_reducible rfl) | (simp; done) | (simp [*]; done) | (refine congrArg (Value.int _) ?_; unfold wrap64; omega) | rfl), (by first | (with_reducible rfl) | (simp; done) | (simp [*]; done) | (refine congrArg (Value.int _) ?_; unfold wrap64; omega) | rfl), H', ⟨by have := HJ7.out; have := HK2.out; omega⟩, ⟨by (with_reducible repeat (first | refine blk_drewN ?_ _ | refine blk_drew ?_ | refine blk_alloc ?_ _)); exact BK252.out⟩, ⟨by repeat (first | (with_reducible first | exact HB.out | apply below_alloc | apply pw_below_drewN | apply below_drew1 | refine below_set ?_ GE252.out) | exact HB.out)⟩⟩
                 ·rw [if_neg c60] at H
                  exact absurd H (by simp)
                ·rw [if_neg c58] at H
                 have c58b0 : (x4_2 == 3) = false := beq_eq_false_iff_ne.mpr c58
                 have c58b1 : (x4_2 != 3) = true := bne_iff_ne.mpr c58
                 by_cases c65 : x4_2 = 4
                 ·rw [if_pos c65] at H
                  have c65b0 : (x4_2 == 4) = true := beq_iff_eq.mpr c65
                  have c65b1 : (x4_2 != 4) = false := bne_eq_false_iff_eq.mpr c65
                  clear c65
                  have c66e : x4_2 = 4 := by first | omega | (have h_ := eq_of_beq (show ((x4_2) == 4) = true from by first | assumption | (with_reducible assumption)); omega)
                  have c66l : x4_2 ≤ 4 := by omega
                  have c66g : 4 ≤ x4_2 := by omega
                  have c66t : (x4_2 : Int).toNat = 4 := by omega
                  clear c66e
                  obtain ⟨y278, hy278⟩ : ∃ y_ : List Int, y_ = (([a0_8] : List Int)) := ⟨_, rfl⟩
                  replace H : (if x3_2.size + (strOfNums y278).size ≤ 9223372036854775807 then (wapentakeref04_Write.l0 k2 (x3_2 ++ (strOfNums y278)) (wrap64 (x4_2 + 1)) a0_0 a0_1 a0_2 a0_3 a0_4 a0_5 a0_6 a0_7 a0_8 a0_9 a0_10 a0_11 a0_12) else (none)) = some r := by first | (rw [hy278]; with_reducible exact H) | (have H2_ := (Option.bind_some _ _).symm.trans H; rw [hy278]; with_reducible exact H2_) | (have H2_ := (Option.bind_some _ _).symm.trans H; with_reducible exact H2_) | with_reducible exact H | (rw [hy278]; exact H) | exact H
                  have Ny278 := Aside0.mk hy278
                  clear hy278
                  by_cases c67 : x3_2.size + (strOfNums y278).size ≤ 9223372036854775807
                  ·rw [if_pos c67] at H
                   have c67b0 := eq_true c67
                   have c67b1 : decide (x3_2.size + (strOfNums y278).size ≤ 9223372036854775807) = true := decide_eq_true c67
                   try have c67b2 : (9223372036854775807 < x3_2.size + (strOfNums y278).size) = False := eq_false (Nat.not_lt.2 c67)
                   have H' := Aside0.mk H
                   clear H
                   have hcz68_0 : wr.cell? ⟨gb252, 0, none⟩ = some (.int .u64 a0_0) := (blk_cell BK252.out 0).trans rfl
                   have hcz68_1 : wr.cell? ⟨gb252, 1, none⟩ = some (.int .u64 a0_1) := (blk_cell BK252.out 1).trans rfl
                   have hcz68_2 : wr.cell? ⟨gb252, 2, none⟩ = some (.int .u8 a0_2) := (blk_cell BK252.out 2).trans rfl
                   have hcz68_3 : wr.cell? ⟨gb252, 3, none⟩ = some (.int .u8 a0_3) := (blk_cell BK252.out 3).trans rfl
                   have hcz68_4 : wr.cell? ⟨gb252, 4, none⟩ = some (.int .u8 a0_4) := (blk_cell BK252.out 4).trans rfl
                   have hcz68_5 : wr.cell? ⟨gb252, 5, none⟩ = some (.int .u8 a0_5) := (blk_cell BK252.out 5).trans rfl
                   have hcz68_6 : wr.cell? ⟨gb252, 6, none⟩ = some (.int .u8 a0_6) := (blk_cell BK252.out 6).trans rfl
                   have hcz68_7 : wr.cell? ⟨gb252, 7, none⟩ = some (.int .u8 a0_7) := (blk_cell BK252.out 7).trans rfl
                   have hcz68_8 : wr.cell? ⟨gb252, 8, none⟩ = some (.int .u8 a0_8) := (blk_cell BK252.out 8).trans rfl
                   have hcz68_9 : wr.cell? ⟨gb252, 9, none⟩ = some (.int .u8 a0_9) := (blk_cell BK252.out 9).trans rfl
                   have hcz68_10 : wr.cell? ⟨gb252, 10, none⟩ = some (.int .u8 a0_10) := (blk_cell BK252.out 10).trans rfl
                   have hcz68_11 : wr.cell? ⟨gb252, 11, none⟩ = some (.int .u8 a0_11) := (blk_cell BK252.out 11).trans rfl
                   have hcz68_12 : wr.cell? ⟨gb252, 12, none⟩ = some (.string a0_12) := (blk_cell BK252.out 12).trans rfl
                   have hfz68_0 := blk_frozen BK252.out 0
                   have hfz68_1 := blk_frozen BK252.out 1
                   have hfz68_2 := blk_frozen BK252.out 2
                   have hfz68_3 := blk_frozen BK252.out 3
                   have hfz68_4 := blk_frozen BK252.out 4
                   have hfz68_5 := blk_frozen BK252.out 5
                   have hfz68_6 := blk_frozen BK252.out 6
                   have hfz68_7 := blk_frozen BK252.out 7
                   have hfz68_8 := blk_frozen BK252.out 8
                   have hfz68_9 := blk_frozen BK252.out 9
                   have hfz68_10 := blk_frozen BK252.out 10
                   have hfz68_11 := blk_frozen BK252.out 11
                   have hfz68_12 := blk_frozen BK252.out 12
                   go_wp2_with (first | ((with_reducible refine gate_dst (N := 48) rfl ?_); refine Kd.R_lit (Kd.int .u8) _ 5 ?hg (N := 48) ?hd (xs := ([a0_8] : List Int)) (inner := [.int .u8 a0_8]) (ok := fun _ => True) (okp := fun _ => True) ?hr ?hp (fun _ hk => hk) trivial (Below.refl _ _) (Nat.le_refl _) (by simp) ?_; (case hd => rfl); (case hg => rfl); (case hr => first | (go_simp; done) | (go_simp; rfl)); (case hp => exact (Reps.one (show Kd.M (Kd.int .u8) _ _ _ a0_8 [.int .u8 a0_8] from rfl) (Reps.none _ _))); intro v279 w69 ho70 hb hg_ hnew_; clear hg_ hnew_; (first | rw [← Ny278.out] at ho70 | (simp only [Int.reduceToNat] at ho70; rw [← Ny278.out] at ho70)); have n0_ := Aside0.mk (Kd.R_lower ho70 (below_size (by repeat (first | (with_reducible first | exact HB.out | apply below_alloc | apply pw_below_drewN | apply below_drew1 | refine below_set ?_ GE252.out) | exact HB.out)))); have n1_ := Aside0.mk (blk_below (g := gb252) (o := .cells #[.int .u64 a0_0, .int .u64 a0_1, .int .u8 a0_2, .int .u8 a0_3, .int .u8 a0_4, .int .u8 a0_5, .int .u8 a0_6, .int .u8 a0_7, .int .u8 a0_8, .int .u8 a0_9, .int .u8 a0_10, .int .u8 a0_11, .string a0_12] 27 (0, 0)) (by (with_reducible repeat (first | refine blk_drewN ?_ _ | refine blk_drew ?_ | refine blk_alloc ?_ _)); exact BK252.out) hb); have n2_ := Aside0.mk (below_step (by repeat (first | (with_reducible first | exact HB.out | apply below_alloc | apply pw_below_drewN | apply below_drew1 | refine below_set ?_ GE252.out) | exact HB.out)) hb); clear BK252; clear HB; have HO280 := n0_; have BK252 := n1_; have HB := n2_; clear n0_ n1_ n2_; clear hb ho70; have hcv71 := own_string (P := Try.prog) Try.underlying33 Try.underlying5 Try.underlying9 (Kd.own_of_R HO280.out)))
                   go_roundg k2
                   case measure => have := HJ7.out; have := HK2.out; omega
                   case rel => exact ⟨(x3_2 ++ (strOfNums y278)), (wrap64 (x4_2 + 1)), (by first | (with_reducible rfl) | (simp; done) | (simp [*]; done) | (refine congrArg (Value.int _) ?_; unfold wrap64; omega) | rfl), (by first | (with_reducible rfl) | (simp; done) | (simp [*]; done) | (refine congrArg (Value.int _) ?_; unfold wrap64; omega) | rfl), H', ⟨by have := HJ7.out; have := HK2.out; omega⟩, ⟨by (with_reducible repeat (first | refine blk_drewN ?_ _ | refine blk_drew ?_ | refine blk_alloc ?_ _)); exact BK252.out⟩, ⟨by repeat (first | (with_reducible first | exact HB.out | apply below_alloc | apply pw_below_drewN | apply below_drew1 | refine below_set ?_ GE252.out) | exact HB.out)⟩⟩
                  ·rw [if_neg c67] at H
                   exact absurd H (by simp)
                 ·rw [if_neg c65] at H
                  have c65b0 : (x4_2 == 4) = false := beq_eq_false_iff_ne.mpr c65
                  have c65b1 : (x4_2 != 4) = true := bne_iff_ne.mpr c65
                  by_cases c72 : x4_2 = 5
                  ·rw [if_pos c72] at H
                   have c72b0 : (x4_2 == 5) = true := beq_iff_eq.mpr c72
                   have c72b1 : (x4_2 != 5) = false := bne_eq_false_iff_eq.mpr c72
                   clear c72
                   have c73e : x4_2 = 5 := by first | omega | (have h_ := eq_of_beq (show ((x4_2) == 5) = true from by first | assumption | (with_reducible assumption)); omega)
                   have c73l : x4_2 ≤ 5 := by omega
                   have c73g : 5 ≤ x4_2 := by omega
                   have c73t : (x4_2 : Int).toNat = 5 := by omega
                   clear c73e
                   obtain ⟨y281, hy281⟩ : ∃ y_ : List Int, y_ = (([a0_9] : List Int)) := ⟨_, rfl⟩
                   replace H : (if x3_2.size + (strOfNums y281).size ≤ 9223372036854775807 then (wapentakeref04_Write.l0 k2 (x3_2 ++ (strOfNums y281)) (wrap64 (x4_2 + 1)) a0_0 a0_1 a0_2 a0_3 a0_4 a0_5 a0_6 a0_7 a0_8 a0_9 a0_10 a0_11 a0_12) else (none)) = some r := by first | (rw [hy281]; with_reducible exact H) | (have H2_ := (Option.bind_some _ _).symm.trans H; rw [hy281]; with_reducible exact H2_) | (have H2_ := (Option.bind_some _ _).symm.trans H; with_reducible exact H2_) | with_reducible exact H | (rw [hy281]; exact H) | exact H
                   have Ny281 := Aside0.mk hy281
                   clear hy281
                   by_cases c74 : x3_2.size + (strOfNums y281).size ≤ 9223372036854775807
                   ·rw [if_pos c74] at H
                    have c74b0 := eq_true c74
                    have c74b1 : decide (x3_2.size + (strOfNums y281).size ≤ 9223372036854775807) = true := decide_eq_true c74
                    try have c74b2 : (9223372036854775807 < x3_2.size + (strOfNums y281).size) = False := eq_false (Nat.not_lt.2 c74)
                    have H' := Aside0.mk H
                    clear H
                    have hcz75_0 : wr.cell? ⟨gb252, 0, none⟩ = some (.int .u64 a0_0) := (blk_cell BK252.out 0).trans rfl
                    have hcz75_1 : wr.cell? ⟨gb252, 1, none⟩ = some (.int .u64 a0_1) := (blk_cell BK252.out 1).trans rfl
                    have hcz75_2 : wr.cell? ⟨gb252, 2, none⟩ = some (.int .u8 a0_2) := (blk_cell BK252.out 2).trans rfl
                    have hcz75_3 : wr.cell? ⟨gb252, 3, none⟩ = some (.int .u8 a0_3) := (blk_cell BK252.out 3).trans rfl
                    have hcz75_4 : wr.cell? ⟨gb252, 4, none⟩ = some (.int .u8 a0_4) := (blk_cell BK252.out 4).trans rfl
                    have hcz75_5 : wr.cell? ⟨gb252, 5, none⟩ = some (.int .u8 a0_5) := (blk_cell BK252.out 5).trans rfl
                    have hcz75_6 : wr.cell? ⟨gb252, 6, none⟩ = some (.int .u8 a0_6) := (blk_cell BK252.out 6).trans rfl
                    have hcz75_7 : wr.cell? ⟨gb252, 7, none⟩ = some (.int .u8 a0_7) := (blk_cell BK252.out 7).trans rfl
                    have hcz75_8 : wr.cell? ⟨gb252, 8, none⟩ = some (.int .u8 a0_8) := (blk_cell BK252.out 8).trans rfl
                    have hcz75_9 : wr.cell? ⟨gb252, 9, none⟩ = some (.int .u8 a0_9) := (blk_cell BK252.out 9).trans rfl
                    have hcz75_10 : wr.cell? ⟨gb252, 10, none⟩ = some (.int .u8 a0_10) := (blk_cell BK252.out 10).trans rfl
                    have hcz75_11 : wr.cell? ⟨gb252, 11, none⟩ = some (.int .u8 a0_11) := (blk_cell BK252.out 11).trans rfl
                    have hcz75_12 : wr.cell? ⟨gb252, 12, none⟩ = some (.string a0_12) := (blk_cell BK252.out 12).trans rfl
                    have hfz75_0 := blk_frozen BK252.out 0
                    have hfz75_1 := blk_frozen BK252.out 1
                    have hfz75_2 := blk_frozen BK252.out 2
                    have hfz75_3 := blk_frozen BK252.out 3
                    have hfz75_4 := blk_frozen BK252.out 4
                    have hfz75_5 := blk_frozen BK252.out 5
                    have hfz75_6 := blk_frozen BK252.out 6
                    have hfz75_7 := blk_frozen BK252.out 7
                    have hfz75_8 := blk_frozen BK252.out 8
                    have hfz75_9 := blk_frozen BK252.out 9
                    have hfz75_10 := blk_frozen BK252.out 10
                    have hfz75_11 := blk_frozen BK252.out 11
                    have hfz75_12 := blk_frozen BK252.out 12
                    go_wp2_with (first | ((with_reducible refine gate_dst (N := 48) rfl ?_); refine Kd.R_lit (Kd.int .u8) _ 5 ?hg (N := 48) ?hd (xs := ([a0_9] : List Int)) (inner := [.int .u8 a0_9]) (ok := fun _ => True) (okp := fun _ => True) ?hr ?hp (fun _ hk => hk) trivial (Below.refl _ _) (Nat.le_refl _) (by simp) ?_; (case hd => rfl); (case hg => rfl); (case hr => first | (go_simp; done) | (go_simp; rfl)); (case hp => exact (Reps.one (show Kd.M (Kd.int .u8) _ _ _ a0_9 [.int .u8 a0_9] from rfl) (Reps.none _ _))); intro v282 w76 ho77 hb hg_ hnew_; clear hg_ hnew_; (first | rw [← Ny281.out] at ho77 | (simp only [Int.reduceToNat] at ho77; rw [← Ny281.out] at ho77)); have n0_ := Aside0.mk (Kd.R_lower ho77 (below_size (by repeat (first | (with_reducible first | exact HB.out | apply below_alloc | apply pw_below_drewN | apply below_drew1 | refine below_set ?_ GE252.out) | exact HB.out)))); have n1_ := Aside0.mk (blk_below (g := gb252) (o := .cells #[.int .u64 a0_0, .int .u64 a0_1, .int .u8 a0_2, .int .u8 a0_3, .int .u8 a0_4, .int .u8 a0_5, .int .u8 a0_6, .int .u8 a0_7, .int .u8 a0_8, .int .u8 a0_9, .int .u8 a0_10, .int .u8 a0_11, .string a0_12] 27 (0, 0)) (by (with_reducible repeat (first | refine blk_drewN ?_ _ | refine blk_drew ?_ | refine blk_alloc ?_ _)); exact BK252.out) hb); have n2_ := Aside0.mk (below_step (by repeat (first | (with_reducible first | exact HB.out | apply below_alloc | apply pw_below_drewN | apply below_drew1 | refine below_set ?_ GE252.out) | exact HB.out)) hb); clear BK252; clear HB; have HO283 := n0_; have BK252 := n1_; have HB := n2_; clear n0_ n1_ n2_; clear hb ho77; have hcv78 := own_string (P := Try.prog) Try.underlying33 Try.underlying5 Try.underlying9 (Kd.own_of_R HO283.out)))
                    go_roundg k2
                    case measure => have := HJ7.out; have := HK2.out; omega
                    case rel => exact ⟨(x3_2 ++ (strOfNums y281)), (wrap64 (x4_2 + 1)), (by first | (with_reducible rfl) | (simp; done) | (simp [*]; done) | (refine congrArg (Value.int _) ?_; unfold wrap64; omega) | rfl), (by first | (with_reducible rfl) | (simp; done) | (simp [*]; done) | (refine congrArg (Value.int _) ?_; unfold wrap64; omega) | rfl), H', ⟨by have := HJ7.out; have := HK2.out; omega⟩, ⟨by (with_reducible repeat (first | refine blk_drewN ?_ _ | refine blk_drew ?_ | refine blk_alloc ?_ _)); exact BK252.out⟩, ⟨by repeat (first | (with_reducible first | exact HB.out | apply below_alloc | apply pw_below_drewN | apply below_drew1 | refine below_set ?_ GE252.out) | exact HB.out)⟩⟩
                   ·rw [if_neg c74] at H
                    exact absurd H (by simp)
                  ·rw [if_neg c72] at H
                   have c72b0 : (x4_2 == 5) = false := beq_eq_false_iff_ne.mpr c72
                   have c72b1 : (x4_2 != 5) = true := bne_iff_ne.mpr c72
                   by_cases c79 : x4_2 = 6
                   ·rw [if_pos c79] at H
                    have c79b0 : (x4_2 == 6) = true := beq_iff_eq.mpr c79
                    have c79b1 : (x4_2 != 6) = false := bne_eq_false_iff_eq.mpr c79
                    clear c79
                    have c80e : x4_2 = 6 := by first | omega | (have h_ := eq_of_beq (show ((x4_2) == 6) = true from by first | assumption | (with_reducible assumption)); omega)
                    have c80l : x4_2 ≤ 6 := by omega
                    have c80g : 6 ≤ x4_2 := by omega
                    have c80t : (x4_2 : Int).toNat = 6 := by omega
                    clear c80e
                    obtain ⟨y284, hy284⟩ : ∃ y_ : List Int, y_ = (([a0_10] : List Int)) := ⟨_, rfl⟩
                    replace H : (if x3_2.size + (strOfNums y284).size ≤ 9223372036854775807 then (wapentakeref04_Write.l0 k2 (x3_2 ++ (strOfNums y284)) (wrap64 (x4_2 + 1)) a0_0 a0_1 a0_2 a0_3 a0_4 a0_5 a0_6 a0_7 a0_8 a0_9 a0_10 a0_11 a0_12) else (none)) = some r := by first | (rw [hy284]; with_reducible exact H) | (have H2_ := (Option.bind_some _ _).symm.trans H; rw [hy284]; with_reducible exact H2_) | (have H2_ := (Option.bind_some _ _).symm.trans H; with_reducible exact H2_) | with_reducible exact H | (rw [hy284]; exact H) | exact H
                    have Ny284 := Aside0.mk hy284
                    clear hy284
                    by_cases c81 : x3_2.size + (strOfNums y284).size ≤ 9223372036854775807
                    ·rw [if_pos c81] at H
                     have c81b0 := eq_true c81
                     have c81b1 : decide (x3_2.size + (strOfNums y284).size ≤ 9223372036854775807) = true := decide_eq_true c81
                     try have c81b2 : (9223372036854775807 < x3_2.size + (strOfNums y284).size) = False := eq_false (Nat.not_lt.2 c81)
                     have H' := Aside0.mk H
                     clear H
                     have hcz82_0 : wr.cell? ⟨gb252, 0, none⟩ = some (.int .u64 a0_0) := (blk_cell BK252.out 0).trans rfl
                     have hcz82_1 : wr.cell? ⟨gb252, 1, none⟩ = some (.int .u64 a0_1) := (blk_cell BK252.out 1).trans rfl
                     have hcz82_2 : wr.cell? ⟨gb252, 2, none⟩ = some (.int .u8 a0_2) := (blk_cell BK252.out 2).trans rfl
                     have hcz82_3 : wr.cell? ⟨gb252, 3, none⟩ = some (.int .u8 a0_3) := (blk_cell BK252.out 3).trans rfl
                     have hcz82_4 : wr.cell? ⟨gb252, 4, none⟩ = some (.int .u8 a0_4) := (blk_cell BK252.out 4).trans rfl
                     have hcz82_5 : wr.cell? ⟨gb252, 5, none⟩ = some (.int .u8 a0_5) := (blk_cell BK252.out 5).trans rfl
                     have hcz82_6 : wr.cell? ⟨gb252, 6, none⟩ = some (.int .u8 a0_6) := (blk_cell BK252.out 6).trans rfl
                     have hcz82_7 : wr.cell? ⟨gb252, 7, none⟩ = some (.int .u8 a0_7) := (blk_cell BK252.out 7).trans rfl
                     have hcz82_8 : wr.cell? ⟨gb252, 8, none⟩ = some (.int .u8 a0_8) := (blk_cell BK252.out 8).trans rfl
                     have hcz82_9 : wr.cell? ⟨gb252, 9, none⟩ = some (.int .u8 a0_9) := (blk_cell BK252.out 9).trans rfl
                     have hcz82_10 : wr.cell? ⟨gb252, 10, none⟩ = some (.int .u8 a0_10) := (blk_cell BK252.out 10).trans rfl
                     have hcz82_11 : wr.cell? ⟨gb252, 11, none⟩ = some (.int .u8 a0_11) := (blk_cell BK252.out 11).trans rfl
                     have hcz82_12 : wr.cell? ⟨gb252, 12, none⟩ = some (.string a0_12) := (blk_cell BK252.out 12).trans rfl
                     have hfz82_0 := blk_frozen BK252.out 0
                     have hfz82_1 := blk_frozen BK252.out 1
                     have hfz82_2 := blk_frozen BK252.out 2
                     have hfz82_3 := blk_frozen BK252.out 3
                     have hfz82_4 := blk_frozen BK252.out 4
                     have hfz82_5 := blk_frozen BK252.out 5
                     have hfz82_6 := blk_frozen BK252.out 6
                     have hfz82_7 := blk_frozen BK252.out 7
                     have hfz82_8 := blk_frozen BK252.out 8
                     have hfz82_9 := blk_frozen BK252.out 9
                     have hfz82_10 := blk_frozen BK252.out 10
                     have hfz82_11 := blk_frozen BK252.out 11
                     have hfz82_12 := blk_frozen BK252.out 12
                     go_wp2_with (first | ((with_reducible refine gate_dst (N := 48) rfl ?_); refine Kd.R_lit (Kd.int .u8) _ 5 ?hg (N := 48) ?hd (xs := ([a0_10] : List Int)) (inner := [.int .u8 a0_10]) (ok := fun _ => True) (okp := fun _ => True) ?hr ?hp (fun _ hk => hk) trivial (Below.refl _ _) (Nat.le_refl _) (by simp) ?_; (case hd => rfl); (case hg => rfl); (case hr => first | (go_simp; done) | (go_simp; rfl)); (case hp => exact (Reps.one (show Kd.M (Kd.int .u8) _ _ _ a0_10 [.int .u8 a0_10] from rfl) (Reps.none _ _))); intro v285 w83 ho84 hb hg_ hnew_; clear hg_ hnew_; (first | rw [← Ny284.out] at ho84 | (simp only [Int.reduceToNat] at ho84; rw [← Ny284.out] at ho84)); have n0_ := Aside0.mk (Kd.R_lower ho84 (below_size (by repeat (first | (with_reducible first | exact HB.out | apply below_alloc | apply pw_below_drewN | apply below_drew1 | refine below_set ?_ GE252.out) | exact HB.out)))); have n1_ := Aside0.mk (blk_below (g := gb252) (o := .cells #[.int .u64 a0_0, .int .u64 a0_1, .int .u8 a0_2, .int .u8 a0_3, .int .u8 a0_4, .int .u8 a0_5, .int .u8 a0_6, .int .u8 a0_7, .int .u8 a0_8, .int .u8 a0_9, .int .u8 a0_10, .int .u8 a0_11, .string a0_12] 27 (0, 0)) (by (with_reducible repeat (first | refine blk_drewN ?_ _ | refine blk_drew ?_ | refine blk_alloc ?_ _)); exact BK252.out) hb); have n2_ := Aside0.mk (below_step (by repeat (first | (with_reducible first | exact HB.out | apply below_alloc | apply pw_below_drewN | apply below_drew1 | refine below_set ?_ GE252.out) | exact HB.out)) hb); clear BK252; clear HB; have HO286 := n0_; have BK252 := n1_; have HB := n2_; clear n0_ n1_ n2_; clear hb ho84; have hcv85 := own_string (P := Try.prog) Try.underlying33 Try.underlying5 Try.underlying9 (Kd.own_of_R HO286.out)))
                     go_roundg k2
                     case measure => have := HJ7.out; have := HK2.out; omega
                     case rel => exact ⟨(x3_2 ++ (strOfNums y284)), (wrap64 (x4_2 + 1)), (by first | (with_reducible rfl) | (simp; done) | (simp [*]; done) | (refine congrArg (Value.int _) ?_; unfold wrap64; omega) | rfl), (by first | (with_reducible rfl) | (simp; done) | (simp [*]; done) | (refine congrArg (Value.int _) ?_; unfold wrap64; omega) | rfl), H', ⟨by have := HJ7.out; have := HK2.out; omega⟩, ⟨by (with_reducible repeat (first | refine blk_drewN ?_ _ | refine blk_drew ?_ | refine blk_alloc ?_ _)); exact BK252.out⟩, ⟨by repeat (first | (with_reducible first | exact HB.out | apply below_alloc | apply pw_below_drewN | apply below_drew1 | refine below_set ?_ GE252.out) | exact HB.out)⟩⟩
                    ·rw [if_neg c81] at H
                     exact absurd H (by simp)
                   ·rw [if_neg c79] at H
                    have c79b0 : (x4_2 == 6) = false := beq_eq_false_iff_ne.mpr c79
                    have c79b1 : (x4_2 != 6) = true := bne_iff_ne.mpr c79
                    by_cases c86 : x4_2 = 7
                    ·rw [if_pos c86] at H
                     have c86b0 : (x4_2 == 7) = true := beq_iff_eq.mpr c86
                     have c86b1 : (x4_2 != 7) = false := bne_eq_false_iff_eq.mpr c86
                     clear c86
                     have c87e : x4_2 = 7 := by first | omega | (have h_ := eq_of_beq (show ((x4_2) == 7) = true from by first | assumption | (with_reducible assumption)); omega)
                     have c87l : x4_2 ≤ 7 := by omega
                     have c87g : 7 ≤ x4_2 := by omega
                     have c87t : (x4_2 : Int).toNat = 7 := by omega
                     clear c87e
                     obtain ⟨y287, hy287⟩ : ∃ y_ : List Int, y_ = (([a0_11] : List Int)) := ⟨_, rfl⟩
                     replace H : (if x3_2.size + (strOfNums y287).size ≤ 9223372036854775807 then (wapentakeref04_Write.l0 k2 (x3_2 ++ (strOfNums y287)) (wrap64 (x4_2 + 1)) a0_0 a0_1 a0_2 a0_3 a0_4 a0_5 a0_6 a0_7 a0_8 a0_9 a0_10 a0_11 a0_12) else (none)) = some r := by first | (rw [hy287]; with_reducible exact H) | (have H2_ := (Option.bind_some _ _).symm.trans H; rw [hy287]; with_reducible exact H2_) | (have H2_ := (Option.bind_some _ _).symm.trans H; with_reducible exact H2_) | with_reducible exact H | (rw [hy287]; exact H) | exact H
                     have Ny287 := Aside0.mk hy287
                     clear hy287
                     by_cases c88 : x3_2.size + (strOfNums y287).size ≤ 9223372036854775807
                     ·rw [if_pos c88] at H
                      have c88b0 := eq_true c88
                      have c88b1 : decide (x3_2.size + (strOfNums y287).size ≤ 9223372036854775807) = true := decide_eq_true c88
                      try have c88b2 : (9223372036854775807 < x3_2.size + (strOfNums y287).size) = False := eq_false (Nat.not_lt.2 c88)
                      have H' := Aside0.mk H
                      clear H
                      have hcz89_0 : wr.cell? ⟨gb252, 0, none⟩ = some (.int .u64 a0_0) := (blk_cell BK252.out 0).trans rfl
                      have hcz89_1 : wr.cell? ⟨gb252, 1, none⟩ = some (.int .u64 a0_1) := (blk_cell BK252.out 1).trans rfl
                      have hcz89_2 : wr.cell? ⟨gb252, 2, none⟩ = some (.int .u8 a0_2) := (blk_cell BK252.out 2).trans rfl
                      have hcz89_3 : wr.cell? ⟨gb252, 3, none⟩ = some (.int .u8 a0_3) := (blk_cell BK252.out 3).trans rfl
                      have hcz89_4 : wr.cell? ⟨gb252, 4, none⟩ = some (.int .u8 a0_4) := (blk_cell BK252.out 4).trans rfl
                      have hcz89_5 : wr.cell? ⟨gb252, 5, none⟩ = some (.int .u8 a0_5) := (blk_cell BK252.out 5).trans rfl
                      have hcz89_6 : wr.cell? ⟨gb252, 6, none⟩ = some (.int .u8 a0_6) := (blk_cell BK252.out 6).trans rfl
                      have hcz89_7 : wr.cell? ⟨gb252, 7, none⟩ = some (.int .u8 a0_7) := (blk_cell BK252.out 7).trans rfl
                      have hcz89_8 : wr.cell? ⟨gb252, 8, none⟩ = some (.int .u8 a0_8) := (blk_cell BK252.out 8).trans rfl
                      have hcz89_9 : wr.cell? ⟨gb252, 9, none⟩ = some (.int .u8 a0_9) := (blk_cell BK252.out 9).trans rfl
                      have hcz89_10 : wr.cell? ⟨gb252, 10, none⟩ = some (.int .u8 a0_10) := (blk_cell BK252.out 10).trans rfl
                      have hcz89_11 : wr.cell? ⟨gb252, 11, none⟩ = some (.int .u8 a0_11) := (blk_cell BK252.out 11).trans rfl
                      have hcz89_12 : wr.cell? ⟨gb252, 12, none⟩ = some (.string a0_12) := (blk_cell BK252.out 12).trans rfl
                      have hfz89_0 := blk_frozen BK252.out 0
                      have hfz89_1 := blk_frozen BK252.out 1
                      have hfz89_2 := blk_frozen BK252.out 2
                      have hfz89_3 := blk_frozen BK252.out 3
                      have hfz89_4 := blk_frozen BK252.out 4
                      have hfz89_5 := blk_frozen BK252.out 5
                      have hfz89_6 := blk_frozen BK252.out 6
                      have hfz89_7 := blk_frozen BK252.out 7
                      have hfz89_8 := blk_frozen BK252.out 8
                      have hfz89_9 := blk_frozen BK252.out 9
                      have hfz89_10 := blk_frozen BK252.out 10
                      have hfz89_11 := blk_frozen BK252.out 11
                      have hfz89_12 := blk_frozen BK252.out 12
                      go_wp2_with (first | ((with_reducible refine gate_dst (N := 48) rfl ?_); refine Kd.R_lit (Kd.int .u8) _ 5 ?hg (N := 48) ?hd (xs := ([a0_11] : List Int)) (inner := [.int .u8 a0_11]) (ok := fun _ => True) (okp := fun _ => True) ?hr ?hp (fun _ hk => hk) trivial (Below.refl _ _) (Nat.le_refl _) (by simp) ?_; (case hd => rfl); (case hg => rfl); (case hr => first | (go_simp; done) | (go_simp; rfl)); (case hp => exact (Reps.one (show Kd.M (Kd.int .u8) _ _ _ a0_11 [.int .u8 a0_11] from rfl) (Reps.none _ _))); intro v288 w90 ho91 hb hg_ hnew_; clear hg_ hnew_; (first | rw [← Ny287.out] at ho91 | (simp only [Int.reduceToNat] at ho91; rw [← Ny287.out] at ho91)); have n0_ := Aside0.mk (Kd.R_lower ho91 (below_size (by repeat (first | (with_reducible first | exact HB.out | apply below_alloc | apply pw_below_drewN | apply below_drew1 | refine below_set ?_ GE252.out) | exact HB.out)))); have n1_ := Aside0.mk (blk_below (g := gb252) (o := .cells #[.int .u64 a0_0, .int .u64 a0_1, .int .u8 a0_2, .int .u8 a0_3, .int .u8 a0_4, .int .u8 a0_5, .int .u8 a0_6, .int .u8 a0_7, .int .u8 a0_8, .int .u8 a0_9, .int .u8 a0_10, .int .u8 a0_11, .string a0_12] 27 (0, 0)) (by (with_reducible repeat (first | refine blk_drewN ?_ _ | refine blk_drew ?_ | refine blk_alloc ?_ _)); exact BK252.out) hb); have n2_ := Aside0.mk (below_step (by repeat (first | (with_reducible first | exact HB.out | apply below_alloc | apply pw_below_drewN | apply below_drew1 | refine below_set ?_ GE252.out) | exact HB.out)) hb); clear BK252; clear HB; have HO289 := n0_; have BK252 := n1_; have HB := n2_; clear n0_ n1_ n2_; clear hb ho91; have hcv92 := own_string (P := Try.prog) Try.underlying33 Try.underlying5 Try.underlying9 (Kd.own_of_R HO289.out)))
                      go_roundg k2
                      case measure => have := HJ7.out; have := HK2.out; omega
                      case rel => exact ⟨(x3_2 ++ (strOfNums y287)), (wrap64 (x4_2 + 1)), (by first | (with_reducible rfl) | (simp; done) | (simp [*]; done) | (refine congrArg (Value.int _) ?_; unfold wrap64; omega) | rfl), (by first | (with_reducible rfl) | (simp; done) | (simp [*]; done) | (refine congrArg (Value.int _) ?_; unfold wrap64; omega) | rfl), H', ⟨by have := HJ7.out; have := HK2.out; omega⟩, ⟨by (with_reducible repeat (first | refine blk_drewN ?_ _ | refine blk_drew ?_ | refine blk_alloc ?_ _)); exact BK252.out⟩, ⟨by repeat (first | (with_reducible first | exact HB.out | apply below_alloc | apply pw_below_drewN | apply below_drew1 | refine below_set ?_ GE252.out) | exact HB.out)⟩⟩
                     ·rw [if_neg c88] at H
                      exact absurd H (by simp)
                    ·rw [if_neg c86] at H
                     exact absurd H (by simp)
            ·rw [if_neg c36] at H
             exact absurd H (by simp)
           ·rw [if_neg c35] at H
            have c35b0 : decide (x4_2 < 8) = false := decide_eq_false c35
            clear c35
            obtain ⟨y290, hy290⟩ : ∃ y_ : List ByteArray, y_ = (([a0_12] : List ByteArray)) := ⟨_, rfl⟩
            replace H : ((wapentakeref01_S.f k2 y290).bind fun t293 => (if x3_2.size + t293.size ≤ 9223372036854775807 then (some (x3_2 ++ t293)) else (none))) = some r := by first | (rw [hy290]; with_reducible exact H) | (have H2_ := (Option.bind_some _ _).symm.trans H; rw [hy290]; with_reducible exact H2_) | (have H2_ := (Option.bind_some _ _).symm.trans H; with_reducible exact H2_) | with_reducible exact H | (rw [hy290]; exact H) | exact H
            have Ny290 := Aside0.mk hy290
            clear hy290
            replace H := Option.bind_eq_some_iff.mp H
            obtain ⟨t293, A930, H⟩ := H
            replace H : (if x3_2.size + t293.size ≤ 9223372036854775807 then (some (x3_2 ++ t293)) else (none)) = some r := H
            have A93 := Aside0.mk A930
            clear A930
            by_cases c94 : x3_2.size + t293.size ≤ 9223372036854775807
            ·rw [if_pos c94] at H
             have c94b0 := eq_true c94
             have c94b1 : decide (x3_2.size + t293.size ≤ 9223372036854775807) = true := decide_eq_true c94
             try have c94b2 : (9223372036854775807 < x3_2.size + t293.size) = False := eq_false (Nat.not_lt.2 c94)
             obtain rfl := Option.some.inj H
             have hcz95_0 : wr.cell? ⟨gb252, 0, none⟩ = some (.int .u64 a0_0) := (blk_cell BK252.out 0).trans rfl
             have hcz95_1 : wr.cell? ⟨gb252, 1, none⟩ = some (.int .u64 a0_1) := (blk_cell BK252.out 1).trans rfl
             have hcz95_2 : wr.cell? ⟨gb252, 2, none⟩ = some (.int .u8 a0_2) := (blk_cell BK252.out 2).trans rfl
             have hcz95_3 : wr.cell? ⟨gb252, 3, none⟩ = some (.int .u8 a0_3) := (blk_cell BK252.out 3).trans rfl
             have hcz95_4 : wr.cell? ⟨gb252, 4, none⟩ = some (.int .u8 a0_4) := (blk_cell BK252.out 4).trans rfl
             have hcz95_5 : wr.cell? ⟨gb252, 5, none⟩ = some (.int .u8 a0_5) := (blk_cell BK252.out 5).trans rfl
             have hcz95_6 : wr.cell? ⟨gb252, 6, none⟩ = some (.int .u8 a0_6) := (blk_cell BK252.out 6).trans rfl
             have hcz95_7 : wr.cell? ⟨gb252, 7, none⟩ = some (.int .u8 a0_7) := (blk_cell BK252.out 7).trans rfl
             have hcz95_8 : wr.cell? ⟨gb252, 8, none⟩ = some (.int .u8 a0_8) := (blk_cell BK252.out 8).trans rfl
             have hcz95_9 : wr.cell? ⟨gb252, 9, none⟩ = some (.int .u8 a0_9) := (blk_cell BK252.out 9).trans rfl
             have hcz95_10 : wr.cell? ⟨gb252, 10, none⟩ = some (.int .u8 a0_10) := (blk_cell BK252.out 10).trans rfl
             have hcz95_11 : wr.cell? ⟨gb252, 11, none⟩ = some (.int .u8 a0_11) := (blk_cell BK252.out 11).trans rfl
             have hcz95_12 : wr.cell? ⟨gb252, 12, none⟩ = some (.string a0_12) := (blk_cell BK252.out 12).trans rfl
             have hfz95_0 := blk_frozen BK252.out 0
             have hfz95_1 := blk_frozen BK252.out 1
             have hfz95_2 := blk_frozen BK252.out 2
             have hfz95_3 := blk_frozen BK252.out 3
             have hfz95_4 := blk_frozen BK252.out 4
             have hfz95_5 := blk_frozen BK252.out 5
             have hfz95_6 := blk_frozen BK252.out 6
             have hfz95_7 := blk_frozen BK252.out 7
             have hfz95_8 := blk_frozen BK252.out 8
             have hfz95_9 := blk_frozen BK252.out 9
             have hfz95_10 := blk_frozen BK252.out 10
             have hfz95_11 := blk_frozen BK252.out 11
             have hfz95_12 := blk_frozen BK252.out 12
             go_wp2_with (first | ((with_reducible refine gate_dst (N := 54) rfl ?_); refine Kd.R_lit Kd.string _ 9 ?hg (N := 54) ?hd (xs := ([a0_12] : List ByteArray)) (inner := [.string a0_12]) (ok := fun _ => True) (okp := fun _ => True) ?hr ?hp (fun _ hk => hk) trivial (Below.refl _ _) (Nat.le_refl _) (by simp) ?_; (case hd => rfl); (case hg => rfl); (case hr => first | (go_simp; done) | (go_simp; rfl)); (case hp => exact (Reps.one (show Kd.M Kd.string _ _ _ a0_12 [.string a0_12] from rfl) (Reps.none _ _))); intro v291 w96 ho97 hb hg_ hnew_; clear hg_ hnew_; (first | rw [← Ny290.out] at ho97 | (simp only [Int.reduceToNat] at ho97; rw [← Ny290.out] at ho97)); have n0_ := Aside0.mk (Kd.R_lower ho97 (below_size (by repeat (first | (with_reducible first | exact HB.out | apply below_alloc | apply pw_below_drewN | apply below_drew1 | refine below_set ?_ GE252.out) | exact HB.out)))); have n1_ := Aside0.mk (blk_below (g := gb252) (o := .cells #[.int .u64 a0_0, .int .u64 a0_1, .int .u8 a0_2, .int .u8 a0_3, .int .u8 a0_4, .int .u8 a0_5, .int .u8 a0_6, .int .u8 a0_7, .int .u8 a0_8, .int .u8 a0_9, .int .u8 a0_10, .int .u8 a0_11, .string a0_12] 27 (0, 0)) (by (with_reducible repeat (first | refine blk_drewN ?_ _ | refine blk_drew ?_ | refine blk_alloc ?_ _)); exact BK252.out) hb); have n2_ := Aside0.mk (below_step (by repeat (first | (with_reducible first | exact HB.out | apply below_alloc | apply pw_below_drewN | apply below_drew1 | refine below_set ?_ GE252.out) | exact HB.out)) hb); clear BK252; clear HB; have HO292 := n0_; have BK252 := n1_; have HB := n2_; clear n0_ n1_ n2_; clear hb ho97; obtain ⟨Ao98, co98, eo98⟩ := Kd.R_slice HO292.out; subst eo98) | ((with_reducible refine gate_callee (f := 28) rfl ?_); refine goesL_ (some 55) rfl rfl Try.func28 (by kernel_rfl) rfl #[.slice Ao98 y290.length co98] rfl (by (try simp only [List.map_toArray, List.map_cons, List.map_nil]); first | done | rfl | (simp only [List.length_drop, List.length_take]; rfl)) ?_; (with_reducible refine (wapentakeref01_S.calls k2 _ _ y290 t293 _ ?side1 ?side2 A93.out).mono ?_); (case side1 => repeat (first | exact (Kd.R_reads' HO292.out).2.2 | (with_reducible refine Kd.C_alloc ?_ _) | (with_reducible refine Kd.C_drewN ?_ _) | (with_reducible refine Kd.C_drew ?_))); (case side2 => exact (Kd.R_reads' HO292.out).2.1); rintro e w99 ⟨rfl, hb⟩; refine ⟨_, rfl, ?_⟩; have n0_ := Aside0.mk (Kd.R_below (by (with_reducible repeat (first | apply Kd.R_alloc | apply Kd.R_drewN | apply Kd.R_drew)); exact HO292.out) hb); have n1_ := Aside0.mk (blk_below (g := gb252) (o := .cells #[.int .u64 a0_0, .int .u64 a0_1, .int .u8 a0_2, .int .u8 a0_3, .int .u8 a0_4, .int .u8 a0_5, .int .u8 a0_6, .int .u8 a0_7, .int .u8 a0_8, .int .u8 a0_9, .int .u8 a0_10, .int .u8 a0_11, .string a0_12] 27 (0, 0)) (by (with_reducible repeat (first | refine blk_drewN ?_ _ | refine blk_drew ?_ | refine blk_alloc ?_ _)); exact BK252.out) hb); have n2_ := Aside0.mk (below_step (by repeat (first | (with_reducible first | exact HB.out | apply below_alloc | apply pw_below_drewN | apply below_drew1 | refine below_set ?_ GE252.out) | exact HB.out)) hb); clear HO292; clear BK252; clear HB; have HO292 := n0_; have BK252 := n1_; have HB := n2_; clear n0_ n1_ n2_; (try clear hb); (try clear hb2); (try clear hk); (try clear hi)))
             go_ret
             exact ⟨by first | rfl | (simp [errW_none, errW_some] <;> rfl) | (simp [*, errW_none, errW_some] <;> rfl), by repeat (first | (with_reducible first | exact HB.out | apply below_alloc | apply pw_below_drewN | apply below_drew1 | refine below_set ?_ GE252.out) | exact HB.out)⟩
            ·rw [if_neg c94] at H
             exact absurd H (by simp)
        ·rw [if_neg c30] at H
         exact absurd H (by simp)
       ·rw [if_neg c29] at H
        have c29b0 : (a0_2 == 3) = false := beq_eq_false_iff_ne.mpr c29
        have c29b1 : (a0_2 != 3) = true := bne_iff_ne.mpr c29
        obtain rfl := Option.some.inj H
        go_wp2
        go_ret
        exact ⟨by first | rfl | (simp [errW_none, errW_some] <;> rfl) | (simp [*, errW_none, errW_some] <;> rfl), by repeat (first | (with_reducible first | exact HB.out | apply below_alloc | apply pw_below_drewN | apply below_drew1 | refine below_set ?_ GE252.out) | exact HB.out)⟩
   ·rw [if_neg c7] at H
    exact absurd H (by simp)
  ·rw [if_neg c5] at H
   exact absurd H (by simp)
 ·replace c3 := Bool.eq_false_iff.mpr c3
  subst c3
  have H1 : (some (⟨#[]⟩ : ByteArray)) = some r := by rw [if_neg (show ¬ (false = true) by decide)] at H; exact H
  clear H
  have H := H1
  clear H1
  obtain rfl := Option.some.inj H
  go_enter Try.func16, Try.ntmps16
  go_wp2_with (first | ((with_reducible refine gate_dst (N := 1) rfl ?_); refine box_event ?hg (N := 1) ?hd (cs := #[.int .u64 a0_0, .int .u64 a0_1, .int .u8 a0_2, .int .u8 a0_3, .int .u8 a0_4, .int .u8 a0_5, .int .u8 a0_6, .int .u8 a0_7, .int .u8 a0_8, .int .u8 a0_9, .int .u8 a0_10, .int .u8 a0_11, .string a0_12]) (t := 27) ?hr ?_; (case hd => rfl); (case hg => rfl); (case hr => first | (go_simp; done) | (go_simp; rfl)); intro gb252 hg w100 hbox hb; have n0_ := Aside0.mk (below_step (by repeat (first | (with_reducible first | exact HB.out | apply below_alloc | apply pw_below_drewN | apply below_drew1) | exact HB.out)) hb); have n1_ := Aside0.mk (hbox); have n2_ := Aside0.mk ((by rw [hg]; exact (below_size (by repeat (first | (with_reducible first | exact HB.out | apply below_alloc | apply pw_below_drewN | apply below_drew1) | exact HB.out))) : w.heap.size ≤ gb252)); have n3_ := Aside0.mk ((by rw [hg]; exact (below_size (by repeat (first | (with_reducible first | exact HB.out | apply below_alloc | apply pw_below_drewN | apply below_drew1) | exact HB.out))) : w.heap.size ≤ gb252)); clear HB; have HB := n0_; have BK252 := n1_; have GW252 := n2_; have GE252 := n3_; clear n0_ n1_ n2_ n3_; clear hb hbox hg; have hcz101_0 : w100.cell? ⟨gb252, 0, none⟩ = some (.int .u64 a0_0) := (blk_cell BK252.out 0).trans rfl; have hcz101_1 : w100.cell? ⟨gb252, 1, none⟩ = some (.int .u64 a0_1) := (blk_cell BK252.out 1).trans rfl; have hcz101_2 : w100.cell? ⟨gb252, 2, none⟩ = some (.int .u8 a0_2) := (blk_cell BK252.out 2).trans rfl; have hcz101_3 : w100.cell? ⟨gb252, 3, none⟩ = some (.int .u8 a0_3) := (blk_cell BK252.out 3).trans rfl; have hcz101_4 : w100.cell? ⟨gb252, 4, none⟩ = some (.int .u8 a0_4) := (blk_cell BK252.out 4).trans rfl; have hcz101_5 : w100.cell? ⟨gb252, 5, none⟩ = some (.int .u8 a0_5) := (blk_cell BK252.out 5).trans rfl; have hcz101_6 : w100.cell? ⟨gb252, 6, none⟩ = some (.int .u8 a0_6) := (blk_cell BK252.out 6).trans rfl; have hcz101_7 : w100.cell? ⟨gb252, 7, none⟩ = some (.int .u8 a0_7) := (blk_cell BK252.out 7).trans rfl; have hcz101_8 : w100.cell? ⟨gb252, 8, none⟩ = some (.int .u8 a0_8) := (blk_cell BK252.out 8).trans rfl; have hcz101_9 : w100.cell? ⟨gb252, 9, none⟩ = some (.int .u8 a0_9) := (blk_cell BK252.out 9).trans rfl; have hcz101_10 : w100.cell? ⟨gb252, 10, none⟩ = some (.int .u8 a0_10) := (blk_cell BK252.out 10).trans rfl; have hcz101_11 : w100.cell? ⟨gb252, 11, none⟩ = some (.int .u8 a0_11) := (blk_cell BK252.out 11).trans rfl; have hcz101_12 : w100.cell? ⟨gb252, 12, none⟩ = some (.string a0_12) := (blk_cell BK252.out 12).trans rfl; have hfz101_0 := blk_frozen BK252.out 0; have hfz101_1 := blk_frozen BK252.out 1; have hfz101_2 := blk_frozen BK252.out 2; have hfz101_3 := blk_frozen BK252.out 3; have hfz101_4 := blk_frozen BK252.out 4; have hfz101_5 := blk_frozen BK252.out 5; have hfz101_6 := blk_frozen BK252.out 6; have hfz101_7 := blk_frozen BK252.out 7; have hfz101_8 := blk_frozen BK252.out 8; have hfz101_9 := blk_frozen BK252.out 9; have hfz101_10 := blk_frozen BK252.out 10; have hfz101_11 := blk_frozen BK252.out 11; have hfz101_12 := blk_frozen BK252.out 12) | ((with_reducible refine gate_callee (f := 15) rfl ?_); refine goesL_ (some 6) rfl rfl Try.func15 (by kernel_rfl) rfl #[.agg #[.int .u64 a0_0, .int .u64 a0_1, .int .u8 a0_2, .int .u8 a0_3, .int .u8 a0_4, .int .u8 a0_5, .int .u8 a0_6, .int .u8 a0_7, .int .u8 a0_8, .int .u8 a0_9, .int .u8 a0_10, .int .u8 a0_11, .string a0_12]] rfl (by (try simp only [List.map_toArray, List.map_cons, List.map_nil]); first | done | rfl | (simp only [List.length_drop, List.length_take]; rfl)) ?_; (with_reducible refine (wapentakeref04_Right.calls k a0_0 a0_1 a0_2 a0_3 a0_4 a0_5 a0_6 a0_7 a0_8 a0_9 a0_10 a0_11 a0_12 false _ A2.out).mono ?_); rintro e w102 ⟨rfl, hb⟩; refine ⟨_, rfl, ?_⟩; have n0_ := Aside0.mk (blk_below (g := gb252) (o := .cells #[.int .u64 a0_0, .int .u64 a0_1, .int .u8 a0_2, .int .u8 a0_3, .int .u8 a0_4, .int .u8 a0_5, .int .u8 a0_6, .int .u8 a0_7, .int .u8 a0_8, .int .u8 a0_9, .int .u8 a0_10, .int .u8 a0_11, .string a0_12] 27 (0, 0)) (by (with_reducible repeat (first | refine blk_drewN ?_ _ | refine blk_drew ?_ | refine blk_alloc ?_ _)); exact BK252.out) hb); have n1_ := Aside0.mk (below_step (by repeat (first | (with_reducible first | exact HB.out | apply below_alloc | apply pw_below_drewN | apply below_drew1 | refine below_set ?_ GE252.out) | exact HB.out)) hb); clear BK252; clear HB; have BK252 := n0_; have HB := n1_; clear n0_ n1_; (try clear hb); (try clear hb2); (try clear hk); (try clear hi)))
  go_ret
  exact ⟨by first | rfl | (simp [errW_none, errW_some] <;> rfl) | (simp [*, errW_none, errW_some] <;> rfl), by repeat (first | (with_reducible first | exact HB.out | apply below_alloc | apply pw_below_drewN | apply below_drew1 | refine below_set ?_ GE252.out) | exact HB.out)⟩

end Go.Proofs.Ytimfgflcflhfcaa.P
