-- Written by wip/tools/myprint.sh out of the translation, over the kit's print with a patch. Not trusted: Lean checks it.
import Derived.Test.YtimfgflcflhfcaaPx0
import Derived.Test.YtimfgflcflhfcaaPx12
namespace Go.Proofs.Ytimfgflcflhfcaa.P
open Go.RowKit Go.Proofs.YtimfgflcflhfcaaW.PrintWords Go.Proofs.YtimfgflcflhfcaaW.PrintLast Go.Proofs.YtimfgflcflhfcaaW.PrintMore Go.Proofs.Ytimfgflcflhfcaa.Num
attribute [local go_sem] max2_int min2_int max_two min_two max_three min_three max_four min_four   -- for this text's walks alone
set_option linter.unusedVariables false
set_option linter.unusedSimpArgs false

def bq_13_ (n m : Nat) : Array Bool := ((List.range n).map fun i => m.testBit i).toArray
theorem zA13_ {α : Type} (l : List α) (i : Nat) (a : α) : l.toArray.setIfInBounds i a = (l.set i a).toArray := List.setIfInBounds_toArray ..
theorem zB13_ {α : Type} (a b : α) (l : List α) : (a :: l).set 0 b = b :: l := List.set_cons_zero ..
theorem zC13_ {α : Type} (a b : α) (l : List α) (n : Nat) : (a :: l).set (n + 1) b = a :: l.set n b := List.set_cons_succ ..
/-! ### wapentakeref04_Right: function 15 -/
mutual
def wapentakeref04_Right.j0 : Nat → Bool → Int → Int → Int → Int → Int → Int → Int → Int → Int → Int → Int → Int → ByteArray → Option (Bool)
 | 0, _, _, _, _, _, _, _, _, _, _, _, _, _, _ => none
 | k + 1, x10, x240000, x240001, x240002, x240003, x240004, x240005, x240006, x240007, x240008, x240009, x240010, x240011, x240012 => if x10 = true then (some false) else (if x240002 = 1 then (wapentakeref04_Right.j1 k x240002 (x240002 == 1) x240000 x240001 x240002 x240003 x240004 x240005 x240006 x240007 x240008 x240009 x240010 x240011 x240012) else (wapentakeref04_Right.j1 k x240002 (x240002 == 5) x240000 x240001 x240002 x240003 x240004 x240005 x240006 x240007 x240008 x240009 x240010 x240011 x240012))
def wapentakeref04_Right.j1 : Nat → Int → Bool → Int → Int → Int → Int → Int → Int → Int → Int → Int → Int → Int → Int → ByteArray → Option (Bool)
 | 0, _, _, _, _, _, _, _, _, _, _, _, _, _, _, _ => none
 | k + 1, x12, x13, x240000, x240001, x240002, x240003, x240004, x240005, x240006, x240007, x240008, x240009, x240010, x240011, x240012 => if x13 = true then ((wapentakeref04_plain.f x240000 x240001 x240002 x240003 x240004 x240005 x240006 x240007 x240008 x240009 x240010 x240011 x240012).bind fun t240 => (if t240 = true then (some ((x240012.size : Int) == 0)) else (some false))) else (if x12 = 2 then ((wapentakeref04_plain.f x240000 x240001 x240002 x240003 x240004 x240005 x240006 x240007 x240008 x240009 x240010 x240011 x240012).bind fun t241 => (if t241 = true then (if (x240012.size : Int) = 1 then (if 0 < (x240012.size : Int) then (if (bt x240012 0) > 0 then (some (decide ((bt x240012 0) < 32))) else (some false)) else (none)) else (some false)) else (some false))) else (if x12 = 3 then (some (decide (x240003 ≤ 3))) else (if x12 = 4 then ((wapentakeref04_plain.f x240000 x240001 x240002 x240003 x240004 x240005 x240006 x240007 x240008 x240009 x240010 x240011 x240012).bind fun t242 => (some t242)) else (some false))))
end
def wapentakeref04_Right.f (k : Nat) (a0_0 : Int) (a0_1 : Int) (a0_2 : Int) (a0_3 : Int) (a0_4 : Int) (a0_5 : Int) (a0_6 : Int) (a0_7 : Int) (a0_8 : Int) (a0_9 : Int) (a0_10 : Int) (a0_11 : Int) (a0_12 : ByteArray) : Option (Bool) := if a0_0 = 0 then (wapentakeref04_Right.j0 k true a0_0 a0_1 a0_2 a0_3 a0_4 a0_5 a0_6 a0_7 a0_8 a0_9 a0_10 a0_11 a0_12) else (wapentakeref04_Right.j0 k (a0_1 == 0) a0_0 a0_1 a0_2 a0_3 a0_4 a0_5 a0_6 a0_7 a0_8 a0_9 a0_10 a0_11 a0_12)
theorem wapentakeref04_Right.mono_l : ∀ k, (∀ y0 y1 y2 y3 y4 y5 y6 y7 y8 y9 y10 y11 y12 y13, LeO (wapentakeref04_Right.j0 k y0 y1 y2 y3 y4 y5 y6 y7 y8 y9 y10 y11 y12 y13) (wapentakeref04_Right.j0 (k + 1) y0 y1 y2 y3 y4 y5 y6 y7 y8 y9 y10 y11 y12 y13)) ∧ (∀ y0 y1 y2 y3 y4 y5 y6 y7 y8 y9 y10 y11 y12 y13 y14, LeO (wapentakeref04_Right.j1 k y0 y1 y2 y3 y4 y5 y6 y7 y8 y9 y10 y11 y12 y13 y14) (wapentakeref04_Right.j1 (k + 1) y0 y1 y2 y3 y4 y5 y6 y7 y8 y9 y10 y11 y12 y13 y14))
 | 0 => ⟨fun _ _ _ _ _ _ _ _ _ _ _ _ _ _ r h => by simp [wapentakeref04_Right.j0] at h, fun _ _ _ _ _ _ _ _ _ _ _ _ _ _ _ r h => by simp [wapentakeref04_Right.j1] at h⟩
 | k + 1 => by
  obtain ⟨ih0, ih1⟩ := wapentakeref04_Right.mono_l k
  refine ⟨?_, ?_⟩
  ·intro y0 y1 y2 y3 y4 y5 y6 y7 y8 y9 y10 y11 y12 y13
   unfold wapentakeref04_Right.j0
   repeat' first
   | (with_reducible exact ih0 _ _ _ _ _ _ _ _ _ _ _ _ _ _)
   | (with_reducible exact ih1 _ _ _ _ _ _ _ _ _ _ _ _ _ _ _)
   | (with_reducible exact LeO.refl _)
   | (with_reducible exact LeO.none _)
   | (with_reducible refine LeO.ite ?_ ?_)
   | (with_reducible refine LeO.bind ?_ (fun _ => ?_))
   | exact ih0 _ _ _ _ _ _ _ _ _ _ _ _ _ _
   | exact ih1 _ _ _ _ _ _ _ _ _ _ _ _ _ _ _
   | exact LeO.none _
   | refine LeO.ite ?_ ?_
   | refine LeO.bind ?_ (fun _ => ?_)
  ·intro y0 y1 y2 y3 y4 y5 y6 y7 y8 y9 y10 y11 y12 y13 y14
   unfold wapentakeref04_Right.j1
   repeat' first
   | (with_reducible exact ih0 _ _ _ _ _ _ _ _ _ _ _ _ _ _)
   | (with_reducible exact ih1 _ _ _ _ _ _ _ _ _ _ _ _ _ _ _)
   | (with_reducible exact LeO.refl _)
   | (with_reducible exact LeO.none _)
   | (with_reducible refine LeO.ite ?_ ?_)
   | (with_reducible refine LeO.bind ?_ (fun _ => ?_))
   | exact ih0 _ _ _ _ _ _ _ _ _ _ _ _ _ _
   | exact ih1 _ _ _ _ _ _ _ _ _ _ _ _ _ _ _
   | exact LeO.none _
   | refine LeO.ite ?_ ?_
   | refine LeO.bind ?_ (fun _ => ?_)
theorem wapentakeref04_Right.mono : ∀ a0 a1 a2 a3 a4 a5 a6 a7 a8 a9 a10 a11 a12 k, LeO (wapentakeref04_Right.f k a0 a1 a2 a3 a4 a5 a6 a7 a8 a9 a10 a11 a12) (wapentakeref04_Right.f (k + 1) a0 a1 a2 a3 a4 a5 a6 a7 a8 a9 a10 a11 a12) := by
 intro a0 a1 a2 a3 a4 a5 a6 a7 a8 a9 a10 a11 a12 k
 obtain ⟨ih0, ih1⟩ := wapentakeref04_Right.mono_l k
 unfold wapentakeref04_Right.f
 repeat' first
   | (with_reducible exact ih0 _ _ _ _ _ _ _ _ _ _ _ _ _ _)
   | (with_reducible exact ih1 _ _ _ _ _ _ _ _ _ _ _ _ _ _ _)
   | (with_reducible exact LeO.refl _)
   | (with_reducible exact LeO.none _)
   | (with_reducible refine LeO.ite ?_ ?_)
   | (with_reducible refine LeO.bind ?_ (fun _ => ?_))
   | exact ih0 _ _ _ _ _ _ _ _ _ _ _ _ _ _
   | exact ih1 _ _ _ _ _ _ _ _ _ _ _ _ _ _ _
   | exact LeO.none _
   | refine LeO.ite ?_ ?_
   | refine LeO.bind ?_ (fun _ => ?_)
set_option maxHeartbeats 8000000 in
set_option maxRecDepth 100000 in
theorem wapentakeref04_Right.calls (k : Nat) (a0_0 : Int) (a0_1 : Int) (a0_2 : Int) (a0_3 : Int) (a0_4 : Int) (a0_5 : Int) (a0_6 : Int) (a0_7 : Int) (a0_8 : Int) (a0_9 : Int) (a0_10 : Int) (a0_11 : Int) (a0_12 : ByteArray) (r : Bool) (w : World) (h : wapentakeref04_Right.f k a0_0 a0_1 a0_2 a0_3 a0_4 a0_5 a0_6 a0_7 a0_8 a0_9 a0_10 a0_11 a0_12 = some r) :
  Calls Try.prog 15 #[.agg #[.int .u64 a0_0, .int .u64 a0_1, .int .u8 a0_2, .int .u8 a0_3, .int .u8 a0_4, .int .u8 a0_5, .int .u8 a0_6, .int .u8 a0_7, .int .u8 a0_8, .int .u8 a0_9, .int .u8 a0_10, .int .u8 a0_11, .string a0_12]] w fun e w' => e = .returned (.bool r) ∧ Below w.heap.size w w' := by
 have hu27 := Try.underlying27
 have HB := Aside0.mk (Below.refl w.heap.size w)
 have H : (if a0_0 = 0 then (wapentakeref04_Right.j0 k true a0_0 a0_1 a0_2 a0_3 a0_4 a0_5 a0_6 a0_7 a0_8 a0_9 a0_10 a0_11 a0_12) else (wapentakeref04_Right.j0 k (a0_1 == 0) a0_0 a0_1 a0_2 a0_3 a0_4 a0_5 a0_6 a0_7 a0_8 a0_9 a0_10 a0_11 a0_12)) = some r := h
 clear h
 have HC2 := Aside0.mk H
 clear H
 go_enter Try.func15, Try.ntmps15
 go_upto_region 1 with (first | ((with_reducible refine gate_dst (N := 1) rfl ?_); (try (refine gate_guard (by rfl) ?_; dsimp only)); refine box_event ?hg (N := 1) ?hd (cs := #[.int .u64 a0_0, .int .u64 a0_1, .int .u8 a0_2, .int .u8 a0_3, .int .u8 a0_4, .int .u8 a0_5, .int .u8 a0_6, .int .u8 a0_7, .int .u8 a0_8, .int .u8 a0_9, .int .u8 a0_10, .int .u8 a0_11, .string a0_12]) (t := 27) ?hr ?_; (case hd => rfl); (case hg => rfl); (case hr => first | (go_simp; done) | (go_simp; rfl)); intro gb239 hg w3 hbox hb; have n0_ := Aside0.mk (below_step (by repeat (first | (with_reducible first | exact HB.out | apply below_alloc | apply pw_below_drewN | apply below_drew1) | exact HB.out)) hb); have n1_ := Aside0.mk (hbox); have n2_ := Aside0.mk ((by rw [hg]; exact (below_size (by repeat (first | (with_reducible first | exact HB.out | apply below_alloc | apply pw_below_drewN | apply below_drew1) | exact HB.out))) : w.heap.size ≤ gb239)); have n3_ := Aside0.mk ((by rw [hg]; exact (below_size (by repeat (first | (with_reducible first | exact HB.out | apply below_alloc | apply pw_below_drewN | apply below_drew1) | exact HB.out))) : w.heap.size ≤ gb239)); clear HB; have HB := n0_; have BK239 := n1_; have GW239 := n2_; have GE239 := n3_; clear n0_ n1_ n2_ n3_; clear hb hbox hg))
 (try simp only [Act.put, zA13_, zB13_, zC13_])
 go_cut [10] (fun v10 wc => ∃ (kq : Nat) (x10_1 : Bool), v10 = .bool x10_1 ∧ Aside0 (wapentakeref04_Right.j0 kq x10_1 a0_0 a0_1 a0_2 a0_3 a0_4 a0_5 a0_6 a0_7 a0_8 a0_9 a0_10 a0_11 a0_12 = some r) ∧ Aside0 (kq ≤ k) ∧ Aside0 (wc.heap[gb239]? = some (.cells #[.int .u64 a0_0, .int .u64 a0_1, .int .u8 a0_2, .int .u8 a0_3, .int .u8 a0_4, .int .u8 a0_5, .int .u8 a0_6, .int .u8 a0_7, .int .u8 a0_8, .int .u8 a0_9, .int .u8 a0_10, .int .u8 a0_11, .string a0_12] 27 (0, 0))) ∧ Aside0 (Below w.heap.size w wc))
 case first =>
  have H := HC2.out
  clear HC2
  by_cases c4 : a0_0 = 0
  ·rw [if_pos c4] at H
   have c4b0 : (a0_0 == 0) = true := beq_iff_eq.mpr c4
   have c4b1 : (a0_0 != 0) = false := bne_eq_false_iff_eq.mpr c4
   clear c4
   (first | rw [c4b0] | (simp only [i64_w, i32_w]; rw [c4b0]) | skip)
   have H' := Aside0.mk H
   clear H
   have hcz5_0 : w3.cell? ⟨gb239, 0, none⟩ = some (.int .u64 a0_0) := (blk_cell BK239.out 0).trans rfl
   have hcz5_1 : w3.cell? ⟨gb239, 1, none⟩ = some (.int .u64 a0_1) := (blk_cell BK239.out 1).trans rfl
   have hcz5_2 : w3.cell? ⟨gb239, 2, none⟩ = some (.int .u8 a0_2) := (blk_cell BK239.out 2).trans rfl
   have hcz5_3 : w3.cell? ⟨gb239, 3, none⟩ = some (.int .u8 a0_3) := (blk_cell BK239.out 3).trans rfl
   have hcz5_4 : w3.cell? ⟨gb239, 4, none⟩ = some (.int .u8 a0_4) := (blk_cell BK239.out 4).trans rfl
   have hcz5_5 : w3.cell? ⟨gb239, 5, none⟩ = some (.int .u8 a0_5) := (blk_cell BK239.out 5).trans rfl
   have hcz5_6 : w3.cell? ⟨gb239, 6, none⟩ = some (.int .u8 a0_6) := (blk_cell BK239.out 6).trans rfl
   have hcz5_7 : w3.cell? ⟨gb239, 7, none⟩ = some (.int .u8 a0_7) := (blk_cell BK239.out 7).trans rfl
   have hcz5_8 : w3.cell? ⟨gb239, 8, none⟩ = some (.int .u8 a0_8) := (blk_cell BK239.out 8).trans rfl
   have hcz5_9 : w3.cell? ⟨gb239, 9, none⟩ = some (.int .u8 a0_9) := (blk_cell BK239.out 9).trans rfl
   have hcz5_10 : w3.cell? ⟨gb239, 10, none⟩ = some (.int .u8 a0_10) := (blk_cell BK239.out 10).trans rfl
   have hcz5_11 : w3.cell? ⟨gb239, 11, none⟩ = some (.int .u8 a0_11) := (blk_cell BK239.out 11).trans rfl
   have hcz5_12 : w3.cell? ⟨gb239, 12, none⟩ = some (.string a0_12) := (blk_cell BK239.out 12).trans rfl
   have hfz5_0 := blk_frozen BK239.out 0
   have hfz5_1 := blk_frozen BK239.out 1
   have hfz5_2 := blk_frozen BK239.out 2
   have hfz5_3 := blk_frozen BK239.out 3
   have hfz5_4 := blk_frozen BK239.out 4
   have hfz5_5 := blk_frozen BK239.out 5
   have hfz5_6 := blk_frozen BK239.out 6
   have hfz5_7 := blk_frozen BK239.out 7
   have hfz5_8 := blk_frozen BK239.out 8
   have hfz5_9 := blk_frozen BK239.out 9
   have hfz5_10 := blk_frozen BK239.out 10
   have hfz5_11 := blk_frozen BK239.out 11
   have hfz5_12 := blk_frozen BK239.out 12
   go_wp2
   go_meet
   case rel => exact ⟨_, (true), (by first | (with_reducible rfl) | (simp; done) | (simp [*]; done) | (refine congrArg (Value.int _) ?_; unfold wrap64; omega) | rfl), H', ⟨by first | omega | exact Nat.le_refl _⟩, ⟨by (with_reducible repeat (first | refine blk_drewN ?_ _ | refine blk_drew ?_ | refine blk_alloc ?_ _)); exact BK239.out⟩, ⟨by repeat (first | (with_reducible first | exact HB.out | apply below_alloc | apply pw_below_drewN | apply below_drew1 | refine below_set ?_ GE239.out) | exact HB.out)⟩⟩
  ·rw [if_neg c4] at H
   have c4b0 : (a0_0 == 0) = false := beq_eq_false_iff_ne.mpr c4
   have c4b1 : (a0_0 != 0) = true := bne_iff_ne.mpr c4
   (first | rw [c4b0] | (simp only [i64_w, i32_w]; rw [c4b0]) | skip)
   have H' := Aside0.mk H
   clear H
   have hcz6_0 : w3.cell? ⟨gb239, 0, none⟩ = some (.int .u64 a0_0) := (blk_cell BK239.out 0).trans rfl
   have hcz6_1 : w3.cell? ⟨gb239, 1, none⟩ = some (.int .u64 a0_1) := (blk_cell BK239.out 1).trans rfl
   have hcz6_2 : w3.cell? ⟨gb239, 2, none⟩ = some (.int .u8 a0_2) := (blk_cell BK239.out 2).trans rfl
   have hcz6_3 : w3.cell? ⟨gb239, 3, none⟩ = some (.int .u8 a0_3) := (blk_cell BK239.out 3).trans rfl
   have hcz6_4 : w3.cell? ⟨gb239, 4, none⟩ = some (.int .u8 a0_4) := (blk_cell BK239.out 4).trans rfl
   have hcz6_5 : w3.cell? ⟨gb239, 5, none⟩ = some (.int .u8 a0_5) := (blk_cell BK239.out 5).trans rfl
   have hcz6_6 : w3.cell? ⟨gb239, 6, none⟩ = some (.int .u8 a0_6) := (blk_cell BK239.out 6).trans rfl
   have hcz6_7 : w3.cell? ⟨gb239, 7, none⟩ = some (.int .u8 a0_7) := (blk_cell BK239.out 7).trans rfl
   have hcz6_8 : w3.cell? ⟨gb239, 8, none⟩ = some (.int .u8 a0_8) := (blk_cell BK239.out 8).trans rfl
   have hcz6_9 : w3.cell? ⟨gb239, 9, none⟩ = some (.int .u8 a0_9) := (blk_cell BK239.out 9).trans rfl
   have hcz6_10 : w3.cell? ⟨gb239, 10, none⟩ = some (.int .u8 a0_10) := (blk_cell BK239.out 10).trans rfl
   have hcz6_11 : w3.cell? ⟨gb239, 11, none⟩ = some (.int .u8 a0_11) := (blk_cell BK239.out 11).trans rfl
   have hcz6_12 : w3.cell? ⟨gb239, 12, none⟩ = some (.string a0_12) := (blk_cell BK239.out 12).trans rfl
   have hfz6_0 := blk_frozen BK239.out 0
   have hfz6_1 := blk_frozen BK239.out 1
   have hfz6_2 := blk_frozen BK239.out 2
   have hfz6_3 := blk_frozen BK239.out 3
   have hfz6_4 := blk_frozen BK239.out 4
   have hfz6_5 := blk_frozen BK239.out 5
   have hfz6_6 := blk_frozen BK239.out 6
   have hfz6_7 := blk_frozen BK239.out 7
   have hfz6_8 := blk_frozen BK239.out 8
   have hfz6_9 := blk_frozen BK239.out 9
   have hfz6_10 := blk_frozen BK239.out 10
   have hfz6_11 := blk_frozen BK239.out 11
   have hfz6_12 := blk_frozen BK239.out 12
   go_wp2
   go_meet
   case rel => exact ⟨_, ((a0_1 == 0)), (by first | (with_reducible rfl) | (simp; done) | (simp [*]; done) | (refine congrArg (Value.int _) ?_; unfold wrap64; omega) | rfl), H', ⟨by first | omega | exact Nat.le_refl _⟩, ⟨by (with_reducible repeat (first | refine blk_drewN ?_ _ | refine blk_drew ?_ | refine blk_alloc ?_ _)); exact BK239.out⟩, ⟨by repeat (first | (with_reducible first | exact HB.out | apply below_alloc | apply pw_below_drewN | apply below_drew1 | refine below_set ?_ GE239.out) | exact HB.out)⟩⟩
 case rest =>
  clear HC2
  try clear c1
  try clear p2
  try clear c4
  try clear c4b0
  try clear c4b1
  try clear p6
  try clear hcz5_0
  try clear hcz5_1
  try clear hcz5_10
  try clear hcz5_11
  try clear hcz5_12
  try clear hcz5_2
  try clear hcz5_3
  try clear hcz5_4
  try clear hcz5_5
  try clear hcz5_6
  try clear hcz5_7
  try clear hcz5_8
  try clear hcz5_9
  try clear hcz6_0
  try clear hcz6_1
  try clear hcz6_10
  try clear hcz6_11
  try clear hcz6_12
  try clear hcz6_2
  try clear hcz6_3
  try clear hcz6_4
  try clear hcz6_5
  try clear hcz6_6
  try clear hcz6_7
  try clear hcz6_8
  try clear hcz6_9
  try clear hfz5_0
  try clear hfz5_1
  try clear hfz5_10
  try clear hfz5_11
  try clear hfz5_12
  try clear hfz5_2
  try clear hfz5_3
  try clear hfz5_4
  try clear hfz5_5
  try clear hfz5_6
  try clear hfz5_7
  try clear hfz5_8
  try clear hfz5_9
  try clear hfz6_0
  try clear hfz6_1
  try clear hfz6_10
  try clear hfz6_11
  try clear hfz6_12
  try clear hfz6_2
  try clear hfz6_3
  try clear hfz6_4
  try clear hfz6_5
  try clear hfz6_6
  try clear hfz6_7
  try clear hfz6_8
  try clear hfz6_9
  obtain ⟨kq, x10_1, rfl, HA, HJ1, BK239, HB⟩ := hcut
  cases kq with
  | zero => exact absurd HA.out (by simp [wapentakeref04_Right.j0])
  | succ kj1 =>
   have H := HA.out
   clear HA
   simp only [wapentakeref04_Right.j0] at H
   by_cases c7 : x10_1 = true
   ·subst c7
    have H1 : (some false) = some r := by rw [if_pos rfl] at H; exact H
    clear H
    have H := H1
    clear H1
    obtain rfl := Option.some.inj H
    go_wp2
    go_ret
    exact ⟨by first | rfl | (simp [errW_none, errW_some] <;> rfl) | (simp [*, errW_none, errW_some] <;> rfl), by repeat (first | (with_reducible first | exact HB.out | apply below_alloc | apply pw_below_drewN | apply below_drew1 | refine below_set ?_ GE239.out) | exact HB.out)⟩
   ·replace c7 := Bool.eq_false_iff.mpr c7
    subst c7
    have H1 : (if a0_2 = 1 then (wapentakeref04_Right.j1 kj1 a0_2 (a0_2 == 1) a0_0 a0_1 a0_2 a0_3 a0_4 a0_5 a0_6 a0_7 a0_8 a0_9 a0_10 a0_11 a0_12) else (wapentakeref04_Right.j1 kj1 a0_2 (a0_2 == 5) a0_0 a0_1 a0_2 a0_3 a0_4 a0_5 a0_6 a0_7 a0_8 a0_9 a0_10 a0_11 a0_12)) = some r := by rw [if_neg (show ¬ (false = true) by decide)] at H; exact H
    clear H
    have H := H1
    clear H1
    have HC8 := Aside0.mk H
    clear H
    have hcz9_0 : wc.cell? ⟨gb239, 0, none⟩ = some (.int .u64 a0_0) := (blk_cell BK239.out 0).trans rfl
    have hcz9_1 : wc.cell? ⟨gb239, 1, none⟩ = some (.int .u64 a0_1) := (blk_cell BK239.out 1).trans rfl
    have hcz9_2 : wc.cell? ⟨gb239, 2, none⟩ = some (.int .u8 a0_2) := (blk_cell BK239.out 2).trans rfl
    have hcz9_3 : wc.cell? ⟨gb239, 3, none⟩ = some (.int .u8 a0_3) := (blk_cell BK239.out 3).trans rfl
    have hcz9_4 : wc.cell? ⟨gb239, 4, none⟩ = some (.int .u8 a0_4) := (blk_cell BK239.out 4).trans rfl
    have hcz9_5 : wc.cell? ⟨gb239, 5, none⟩ = some (.int .u8 a0_5) := (blk_cell BK239.out 5).trans rfl
    have hcz9_6 : wc.cell? ⟨gb239, 6, none⟩ = some (.int .u8 a0_6) := (blk_cell BK239.out 6).trans rfl
    have hcz9_7 : wc.cell? ⟨gb239, 7, none⟩ = some (.int .u8 a0_7) := (blk_cell BK239.out 7).trans rfl
    have hcz9_8 : wc.cell? ⟨gb239, 8, none⟩ = some (.int .u8 a0_8) := (blk_cell BK239.out 8).trans rfl
    have hcz9_9 : wc.cell? ⟨gb239, 9, none⟩ = some (.int .u8 a0_9) := (blk_cell BK239.out 9).trans rfl
    have hcz9_10 : wc.cell? ⟨gb239, 10, none⟩ = some (.int .u8 a0_10) := (blk_cell BK239.out 10).trans rfl
    have hcz9_11 : wc.cell? ⟨gb239, 11, none⟩ = some (.int .u8 a0_11) := (blk_cell BK239.out 11).trans rfl
    have hcz9_12 : wc.cell? ⟨gb239, 12, none⟩ = some (.string a0_12) := (blk_cell BK239.out 12).trans rfl
    have hfz9_0 := blk_frozen BK239.out 0
    have hfz9_1 := blk_frozen BK239.out 1
    have hfz9_2 := blk_frozen BK239.out 2
    have hfz9_3 := blk_frozen BK239.out 3
    have hfz9_4 := blk_frozen BK239.out 4
    have hfz9_5 := blk_frozen BK239.out 5
    have hfz9_6 := blk_frozen BK239.out 6
    have hfz9_7 := blk_frozen BK239.out 7
    have hfz9_8 := blk_frozen BK239.out 8
    have hfz9_9 := blk_frozen BK239.out 9
    have hfz9_10 := blk_frozen BK239.out 10
    have hfz9_11 := blk_frozen BK239.out 11
    have hfz9_12 := blk_frozen BK239.out 12
    go_upto_if 13 with (fail)
    go_cut [13] (fun v13 wc => ∃ (kq : Nat) (x13_7 : Bool), v13 = .bool x13_7 ∧ Aside0 (wapentakeref04_Right.j1 kq a0_2 x13_7 a0_0 a0_1 a0_2 a0_3 a0_4 a0_5 a0_6 a0_7 a0_8 a0_9 a0_10 a0_11 a0_12 = some r) ∧ Aside0 (kq ≤ kj1) ∧ Aside0 (wc.heap[gb239]? = some (.cells #[.int .u64 a0_0, .int .u64 a0_1, .int .u8 a0_2, .int .u8 a0_3, .int .u8 a0_4, .int .u8 a0_5, .int .u8 a0_6, .int .u8 a0_7, .int .u8 a0_8, .int .u8 a0_9, .int .u8 a0_10, .int .u8 a0_11, .string a0_12] 27 (0, 0))) ∧ Aside0 (Below w.heap.size w wc))
    case first =>
     have H := HC8.out
     clear HC8
     by_cases c10 : a0_2 = 1
     ·rw [if_pos c10] at H
      have c10b0 : (a0_2 == 1) = true := beq_iff_eq.mpr c10
      have c10b1 : (a0_2 != 1) = false := bne_eq_false_iff_eq.mpr c10
      clear c10
      (first | rw [c10b0] | (simp only [i64_w, i32_w]; rw [c10b0]) | skip)
      have H' := Aside0.mk H
      clear H
      go_wp2
      go_meet
      case rel => exact ⟨_, ((a0_2 == 1)), (by first | (with_reducible rfl) | (simp; done) | (simp [*]; done) | (refine congrArg (Value.int _) ?_; unfold wrap64; omega) | rfl), H', ⟨by have := HJ1.out; first | omega | exact Nat.le_refl _⟩, ⟨by (with_reducible repeat (first | refine blk_drewN ?_ _ | refine blk_drew ?_ | refine blk_alloc ?_ _)); exact BK239.out⟩, ⟨by repeat (first | (with_reducible first | exact HB.out | apply below_alloc | apply pw_below_drewN | apply below_drew1 | refine below_set ?_ GE239.out) | exact HB.out)⟩⟩
     ·rw [if_neg c10] at H
      have c10b0 : (a0_2 == 1) = false := beq_eq_false_iff_ne.mpr c10
      have c10b1 : (a0_2 != 1) = true := bne_iff_ne.mpr c10
      (first | rw [c10b0] | (simp only [i64_w, i32_w]; rw [c10b0]) | skip)
      have H' := Aside0.mk H
      clear H
      go_wp2
      go_meet
      case rel => exact ⟨_, ((a0_2 == 5)), (by first | (with_reducible rfl) | (simp; done) | (simp [*]; done) | (refine congrArg (Value.int _) ?_; unfold wrap64; omega) | rfl), H', ⟨by have := HJ1.out; first | omega | exact Nat.le_refl _⟩, ⟨by (with_reducible repeat (first | refine blk_drewN ?_ _ | refine blk_drew ?_ | refine blk_alloc ?_ _)); exact BK239.out⟩, ⟨by repeat (first | (with_reducible first | exact HB.out | apply below_alloc | apply pw_below_drewN | apply below_drew1 | refine below_set ?_ GE239.out) | exact HB.out)⟩⟩
    case rest =>
     clear HC8
     try clear c1
     try clear p2
     try clear c4
     try clear c4b0
     try clear c4b1
     try clear p6
     try clear c7
     try clear c10
     try clear c10b0
     try clear c10b1
     try clear hcz5_0
     try clear hcz5_1
     try clear hcz5_10
     try clear hcz5_11
     try clear hcz5_12
     try clear hcz5_2
     try clear hcz5_3
     try clear hcz5_4
     try clear hcz5_5
     try clear hcz5_6
     try clear hcz5_7
     try clear hcz5_8
     try clear hcz5_9
     try clear hcz6_0
     try clear hcz6_1
     try clear hcz6_10
     try clear hcz6_11
     try clear hcz6_12
     try clear hcz6_2
     try clear hcz6_3
     try clear hcz6_4
     try clear hcz6_5
     try clear hcz6_6
     try clear hcz6_7
     try clear hcz6_8
     try clear hcz6_9
     try clear hcz9_0
     try clear hcz9_1
     try clear hcz9_10
     try clear hcz9_11
     try clear hcz9_12
     try clear hcz9_2
     try clear hcz9_3
     try clear hcz9_4
     try clear hcz9_5
     try clear hcz9_6
     try clear hcz9_7
     try clear hcz9_8
     try clear hcz9_9
     try clear hfz5_0
     try clear hfz5_1
     try clear hfz5_10
     try clear hfz5_11
     try clear hfz5_12
     try clear hfz5_2
     try clear hfz5_3
     try clear hfz5_4
     try clear hfz5_5
     try clear hfz5_6
     try clear hfz5_7
     try clear hfz5_8
     try clear hfz5_9
     try clear hfz6_0
     try clear hfz6_1
     try clear hfz6_10
     try clear hfz6_11
     try clear hfz6_12
     try clear hfz6_2
     try clear hfz6_3
     try clear hfz6_4
     try clear hfz6_5
     try clear hfz6_6
     try clear hfz6_7
     try clear hfz6_8
     try clear hfz6_9
     try clear hfz9_0
     try clear hfz9_1
     try clear hfz9_10
     try clear hfz9_11
     try clear hfz9_12
     try clear hfz9_2
     try clear hfz9_3
     try clear hfz9_4
     try clear hfz9_5
     try clear hfz9_6
     try clear hfz9_7
     try clear hfz9_8
     try clear hfz9_9
     try clear p2
     try clear p6
     obtain ⟨kq, x13_7, rfl, HA, HJ7, BK239, HB⟩ := hcut
     cases kq with
     | zero => exact absurd HA.out (by simp [wapentakeref04_Right.j1])
     | succ kj7 =>
      have H := HA.out
      clear HA
      simp only [wapentakeref04_Right.j1] at H
      by_cases c11 : x13_7 = true
      ·subst c11
       have H1 : ((wapentakeref04_plain.f a0_0 a0_1 a0_2 a0_3 a0_4 a0_5 a0_6 a0_7 a0_8 a0_9 a0_10 a0_11 a0_12).bind fun t240 => (if t240 = true then (some ((a0_12.size : Int) == 0)) else (some false))) = some r := by rw [if_pos rfl] at H; exact H
       clear H
       have H := H1
       clear H1
       replace H := Option.bind_eq_some_iff.mp H
       obtain ⟨t240, A120, H⟩ := H
       replace H : (if t240 = true then (some ((a0_12.size : Int) == 0)) else (some false)) = some r := H
       have A12 := Aside0.mk A120
       clear A120
       by_cases c13 : t240 = true
       ·subst c13
        have H1 : (some ((a0_12.size : Int) == 0)) = some r := by rw [if_pos rfl] at H; exact H
        clear H
        have H := H1
        clear H1
        obtain rfl := Option.some.inj H
        have hcz14_0 : wc.cell? ⟨gb239, 0, none⟩ = some (.int .u64 a0_0) := (blk_cell BK239.out 0).trans rfl
        have hcz14_1 : wc.cell? ⟨gb239, 1, none⟩ = some (.int .u64 a0_1) := (blk_cell BK239.out 1).trans rfl
        have hcz14_2 : wc.cell? ⟨gb239, 2, none⟩ = some (.int .u8 a0_2) := (blk_cell BK239.out 2).trans rfl
        have hcz14_3 : wc.cell? ⟨gb239, 3, none⟩ = some (.int .u8 a0_3) := (blk_cell BK239.out 3).trans rfl
        have hcz14_4 : wc.cell? ⟨gb239, 4, none⟩ = some (.int .u8 a0_4) := (blk_cell BK239.out 4).trans rfl
        have hcz14_5 : wc.cell? ⟨gb239, 5, none⟩ = some (.int .u8 a0_5) := (blk_cell BK239.out 5).trans rfl
        have hcz14_6 : wc.cell? ⟨gb239, 6, none⟩ = some (.int .u8 a0_6) := (blk_cell BK239.out 6).trans rfl
        have hcz14_7 : wc.cell? ⟨gb239, 7, none⟩ = some (.int .u8 a0_7) := (blk_cell BK239.out 7).trans rfl
        have hcz14_8 : wc.cell? ⟨gb239, 8, none⟩ = some (.int .u8 a0_8) := (blk_cell BK239.out 8).trans rfl
        have hcz14_9 : wc.cell? ⟨gb239, 9, none⟩ = some (.int .u8 a0_9) := (blk_cell BK239.out 9).trans rfl
        have hcz14_10 : wc.cell? ⟨gb239, 10, none⟩ = some (.int .u8 a0_10) := (blk_cell BK239.out 10).trans rfl
        have hcz14_11 : wc.cell? ⟨gb239, 11, none⟩ = some (.int .u8 a0_11) := (blk_cell BK239.out 11).trans rfl
        have hcz14_12 : wc.cell? ⟨gb239, 12, none⟩ = some (.string a0_12) := (blk_cell BK239.out 12).trans rfl
        have hfz14_0 := blk_frozen BK239.out 0
        have hfz14_1 := blk_frozen BK239.out 1
        have hfz14_2 := blk_frozen BK239.out 2
        have hfz14_3 := blk_frozen BK239.out 3
        have hfz14_4 := blk_frozen BK239.out 4
        have hfz14_5 := blk_frozen BK239.out 5
        have hfz14_6 := blk_frozen BK239.out 6
        have hfz14_7 := blk_frozen BK239.out 7
        have hfz14_8 := blk_frozen BK239.out 8
        have hfz14_9 := blk_frozen BK239.out 9
        have hfz14_10 := blk_frozen BK239.out 10
        have hfz14_11 := blk_frozen BK239.out 11
        have hfz14_12 := blk_frozen BK239.out 12
        go_wp2_with (first | ((with_reducible refine gate_callee (f := 26) rfl ?_); refine goesL_ (some 17) rfl rfl Try.func26 (by kernel_rfl) rfl #[.agg #[.int .u64 a0_0, .int .u64 a0_1, .int .u8 a0_2, .int .u8 a0_3, .int .u8 a0_4, .int .u8 a0_5, .int .u8 a0_6, .int .u8 a0_7, .int .u8 a0_8, .int .u8 a0_9, .int .u8 a0_10, .int .u8 a0_11, .string a0_12]] rfl (by (try simp only [List.map_toArray, List.map_cons, List.map_nil]); first | done | rfl | (simp only [List.length_drop, List.length_take]; rfl)) ?_; (with_reducible refine (wapentakeref04_plain.calls a0_0 a0_1 a0_2 a0_3 a0_4 a0_5 a0_6 a0_7 a0_8 a0_9 a0_10 a0_11 a0_12 true _ A12.out).mono ?_); rintro e w15 ⟨rfl, hb⟩; refine ⟨_, rfl, ?_⟩; have n0_ := Aside0.mk (blk_below (g := gb239) (o := .cells #[.int .u64 a0_0, .int .u64 a0_1, .int .u8 a0_2, .int .u8 a0_3, .int .u8 a0_4, .int .u8 a0_5, .int .u8 a0_6, .int .u8 a0_7, .int .u8 a0_8, .int .u8 a0_9, .int .u8 a0_10, .int .u8 a0_11, .string a0_12] 27 (0, 0)) (by (with_reducible repeat (first | refine blk_drewN ?_ _ | refine blk_drew ?_ | refine blk_alloc ?_ _)); exact BK239.out) hb); have n1_ := Aside0.mk (below_step (by repeat (first | (with_reducible first | exact HB.out | apply below_alloc | apply pw_below_drewN | apply below_drew1 | refine below_set ?_ GE239.out) | exact HB.out)) hb); clear BK239; clear HB; have BK239 := n0_; have HB := n1_; clear n0_ n1_; (try clear hb); (try clear hb2); (try clear hk); (try clear hi); have hcz16_0 : w15.cell? ⟨gb239, 0, none⟩ = some (.int .u64 a0_0) := (blk_cell BK239.out 0).trans rfl; have hcz16_1 : w15.cell? ⟨gb239, 1, none⟩ = some (.int .u64 a0_1) := (blk_cell BK239.out 1).trans rfl; have hcz16_2 : w15.cell? ⟨gb239, 2, none⟩ = some (.int .u8 a0_2) := (blk_cell BK239.out 2).trans rfl; have hcz16_3 : w15.cell? ⟨gb239, 3, none⟩ = some (.int .u8 a0_3) := (blk_cell BK239.out 3).trans rfl; have hcz16_4 : w15.cell? ⟨gb239, 4, none⟩ = some (.int .u8 a0_4) := (blk_cell BK239.out 4).trans rfl; have hcz16_5 : w15.cell? ⟨gb239, 5, none⟩ = some (.int .u8 a0_5) := (blk_cell BK239.out 5).trans rfl; have hcz16_6 : w15.cell? ⟨gb239, 6, none⟩ = some (.int .u8 a0_6) := (blk_cell BK239.out 6).trans rfl; have hcz16_7 : w15.cell? ⟨gb239, 7, none⟩ = some (.int .u8 a0_7) := (blk_cell BK239.out 7).trans rfl; have hcz16_8 : w15.cell? ⟨gb239, 8, none⟩ = some (.int .u8 a0_8) := (blk_cell BK239.out 8).trans rfl; have hcz16_9 : w15.cell? ⟨gb239, 9, none⟩ = some (.int .u8 a0_9) := (blk_cell BK239.out 9).trans rfl; have hcz16_10 : w15.cell? ⟨gb239, 10, none⟩ = some (.int .u8 a0_10) := (blk_cell BK239.out 10).trans rfl; have hcz16_11 : w15.cell? ⟨gb239, 11, none⟩ = some (.int .u8 a0_11) := (blk_cell BK239.out 11).trans rfl; have hcz16_12 : w15.cell? ⟨gb239, 12, none⟩ = some (.string a0_12) := (blk_cell BK239.out 12).trans rfl; have hfz16_0 := blk_frozen BK239.out 0; have hfz16_1 := blk_frozen BK239.out 1; have hfz16_2 := blk_frozen BK239.out 2; have hfz16_3 := blk_frozen BK239.out 3; have hfz16_4 := blk_frozen BK239.out 4; have hfz16_5 := blk_frozen BK239.out 5; have hfz16_6 := blk_frozen BK239.out 6; have hfz16_7 := blk_frozen BK239.out 7; have hfz16_8 := blk_frozen BK239.out 8; have hfz16_9 := blk_frozen BK239.out 9; have hfz16_10 := blk_frozen BK239.out 10; have hfz16_11 := blk_frozen BK239.out 11; have hfz16_12 := blk_frozen BK239.out 12))
        go_ret
        exact ⟨by first | rfl | (simp [errW_none, errW_some] <;> rfl) | (simp [*, errW_none, errW_some] <;> rfl), by repeat (first | (with_reducible first | exact HB.out | apply below_alloc | apply pw_below_drewN | apply below_drew1 | refine below_set ?_ GE239.out) | exact HB.out)⟩
       ·replace c13 := Bool.eq_false_iff.mpr c13
        subst c13
        have H1 : (some false) = some r := by rw [if_neg (show ¬ (false = true) by decide)] at H; exact H
        clear H
        have H := H1
        clear H1
        obtain rfl := Option.some.inj H
        have hcz17_0 : wc.cell? ⟨gb239, 0, none⟩ = some (.int .u64 a0_0) := (blk_cell BK239.out 0).trans rfl
        have hcz17_1 : wc.cell? ⟨gb239, 1, none⟩ = some (.int .u64 a0_1) := (blk_cell BK239.out 1).trans rfl
        have hcz17_2 : wc.cell? ⟨gb239, 2, none⟩ = some (.int .u8 a0_2) := (blk_cell BK239.out 2).trans rfl
        have hcz17_3 : wc.cell? ⟨gb239, 3, none⟩ = some (.int .u8 a0_3) := (blk_cell BK239.out 3).trans rfl
        have hcz17_4 : wc.cell? ⟨gb239, 4, none⟩ = some (.int .u8 a0_4) := (blk_cell BK239.out 4).trans rfl
        have hcz17_5 : wc.cell? ⟨gb239, 5, none⟩ = some (.int .u8 a0_5) := (blk_cell BK239.out 5).trans rfl
        have hcz17_6 : wc.cell? ⟨gb239, 6, none⟩ = some (.int .u8 a0_6) := (blk_cell BK239.out 6).trans rfl
        have hcz17_7 : wc.cell? ⟨gb239, 7, none⟩ = some (.int .u8 a0_7) := (blk_cell BK239.out 7).trans rfl
        have hcz17_8 : wc.cell? ⟨gb239, 8, none⟩ = some (.int .u8 a0_8) := (blk_cell BK239.out 8).trans rfl
        have hcz17_9 : wc.cell? ⟨gb239, 9, none⟩ = some (.int .u8 a0_9) := (blk_cell BK239.out 9).trans rfl
        have hcz17_10 : wc.cell? ⟨gb239, 10, none⟩ = some (.int .u8 a0_10) := (blk_cell BK239.out 10).trans rfl
        have hcz17_11 : wc.cell? ⟨gb239, 11, none⟩ = some (.int .u8 a0_11) := (blk_cell BK239.out 11).trans rfl
        have hcz17_12 : wc.cell? ⟨gb239, 12, none⟩ = some (.string a0_12) := (blk_cell BK239.out 12).trans rfl
        have hfz17_0 := blk_frozen BK239.out 0
        have hfz17_1 := blk_frozen BK239.out 1
        have hfz17_2 := blk_frozen BK239.out 2
        have hfz17_3 := blk_frozen BK239.out 3
        have hfz17_4 := blk_frozen BK239.out 4
        have hfz17_5 := blk_frozen BK239.out 5
        have hfz17_6 := blk_frozen BK239.out 6
        have hfz17_7 := blk_frozen BK239.out 7
        have hfz17_8 := blk_frozen BK239.out 8
        have hfz17_9 := blk_frozen BK239.out 9
        have hfz17_10 := blk_frozen BK239.out 10
        have hfz17_11 := blk_frozen BK239.out 11
        have hfz17_12 := blk_frozen BK239.out 12
        go_wp2_with (first | ((with_reducible refine gate_callee (f := 26) rfl ?_); refine goesL_ (some 17) rfl rfl Try.func26 (by kernel_rfl) rfl #[.agg #[.int .u64 a0_0, .int .u64 a0_1, .int .u8 a0_2, .int .u8 a0_3, .int .u8 a0_4, .int .u8 a0_5, .int .u8 a0_6, .int .u8 a0_7, .int .u8 a0_8, .int .u8 a0_9, .int .u8 a0_10, .int .u8 a0_11, .string a0_12]] rfl (by (try simp only [List.map_toArray, List.map_cons, List.map_nil]); first | done | rfl | (simp only [List.length_drop, List.length_take]; rfl)) ?_; (with_reducible refine (wapentakeref04_plain.calls a0_0 a0_1 a0_2 a0_3 a0_4 a0_5 a0_6 a0_7 a0_8 a0_9 a0_10 a0_11 a0_12 false _ A12.out).mono ?_); rintro e w18 ⟨rfl, hb⟩; refine ⟨_, rfl, ?_⟩; have n0_ := Aside0.mk (blk_below (g := gb239) (o := .cells #[.int .u64 a0_0, .int .u64 a0_1, .int .u8 a0_2, .int .u8 a0_3, .int .u8 a0_4, .int .u8 a0_5, .int .u8 a0_6, .int .u8 a0_7, .int .u8 a0_8, .int .u8 a0_9, .int .u8 a0_10, .int .u8 a0_11, .string a0_12] 27 (0, 0)) (by (with_reducible repeat (first | refine blk_drewN ?_ _ | refine blk_drew ?_ | refine blk_alloc ?_ _)); exact BK239.out) hb); have n1_ := Aside0.mk (below_step (by repeat (first | (with_reducible first | exact HB.out | apply below_alloc | apply pw_below_drewN | apply below_drew1 | refine below_set ?_ GE239.out) | exact HB.out)) hb); clear BK239; clear HB; have BK239 := n0_; have HB := n1_; clear n0_ n1_; (try clear hb); (try clear hb2); (try clear hk); (try clear hi)))
        go_ret
        exact ⟨by first | rfl | (simp [errW_none, errW_some] <;> rfl) | (simp [*, errW_none, errW_some] <;> rfl), by repeat (first | (with_reducible first | exact HB.out | apply below_alloc | apply pw_below_drewN | apply below_drew1 | refine below_set ?_ GE239.out) | exact HB.out)⟩
      ·replace c11 := Bool.eq_false_iff.mpr c11
       subst c11
       have H1 : (if a0_2 = 2 then ((wapentakeref04_plain.f a0_0 a0_1 a0_2 a0_3 a0_4 a0_5 a0_6 a0_7 a0_8 a0_9 a0_10 a0_11 a0_12).bind fun t241 => (if t241 = true then (if (a0_12.size : Int) = 1 then (if 0 < (a0_12.size : Int) then (if (bt a0_12 0) > 0 then (some (decide ((bt a0_12 0) < 32))) else (some false)) else (none)) else (some false)) else (some false))) else (if a0_2 = 3 then (some (decide (a0_3 ≤ 3))) else (if a0_2 = 4 then ((wapentakeref04_plain.f a0_0 a0_1 a0_2 a0_3 a0_4 a0_5 a0_6 a0_7 a0_8 a0_9 a0_10 a0_11 a0_12).bind fun t242 => (some t242)) else (some false)))) = some r := by rw [if_neg (show ¬ (false = true) by decide)] at H; exact H
       clear H
       have H := H1
       clear H1
       by_cases c19 : a0_2 = 2
       ·rw [if_pos c19] at H
        have c19b0 : (a0_2 == 2) = true := beq_iff_eq.mpr c19
        have c19b1 : (a0_2 != 2) = false := bne_eq_false_iff_eq.mpr c19
        clear c19
        replace H := Option.bind_eq_some_iff.mp H
        obtain ⟨t241, A200, H⟩ := H
        replace H : (if t241 = true then (if (a0_12.size : Int) = 1 then (if 0 < (a0_12.size : Int) then (if (bt a0_12 0) > 0 then (some (decide ((bt a0_12 0) < 32))) else (some false)) else (none)) else (some false)) else (some false)) = some r := H
        have A20 := Aside0.mk A200
        clear A200
        by_cases c21 : t241 = true
        ·subst c21
         have H1 : (if (a0_12.size : Int) = 1 then (if 0 < (a0_12.size : Int) then (if (bt a0_12 0) > 0 then (some (decide ((bt a0_12 0) < 32))) else (some false)) else (none)) else (some false)) = some r := by rw [if_pos rfl] at H; exact H
         clear H
         have H := H1
         clear H1
         by_cases c22 : (a0_12.size : Int) = 1
         ·rw [if_pos c22] at H
          have c22b0 : ((a0_12.size : Int) == 1) = true := beq_iff_eq.mpr c22
          have c22b1 : ((a0_12.size : Int) != 1) = false := bne_eq_false_iff_eq.mpr c22
          clear c22
          by_cases c23 : 0 < (a0_12.size : Int)
          ·rw [if_pos c23] at H
           have c23b0 : decide (0 < (a0_12.size : Int)) = true := decide_eq_true c23
           have c23b1 : decide (0 < a0_12.size) = true := decide_eq_true (by omega)
           clear c23
           by_cases c25 : (bt a0_12 0) > 0
           ·rw [if_pos c25] at H
            have c25b0 : decide (0 < (bt a0_12 0)) = true := decide_eq_true c25
            clear c25
            obtain rfl := Option.some.inj H
            have hcz27_0 : wc.cell? ⟨gb239, 0, none⟩ = some (.int .u64 a0_0) := (blk_cell BK239.out 0).trans rfl
            have hcz27_1 : wc.cell? ⟨gb239, 1, none⟩ = some (.int .u64 a0_1) := (blk_cell BK239.out 1).trans rfl
            have hcz27_2 : wc.cell? ⟨gb239, 2, none⟩ = some (.int .u8 a0_2) := (blk_cell BK239.out 2).trans rfl
            have hcz27_3 : wc.cell? ⟨gb239, 3, none⟩ = some (.int .u8 a0_3) := (blk_cell BK239.out 3).trans rfl
            have hcz27_4 : wc.cell? ⟨gb239, 4, none⟩ = some (.int .u8 a0_4) := (blk_cell BK239.out 4).trans rfl
            have hcz27_5 : wc.cell? ⟨gb239, 5, none⟩ = some (.int .u8 a0_5) := (blk_cell BK239.out 5).trans rfl
            have hcz27_6 : wc.cell? ⟨gb239, 6, none⟩ = some (.int .u8 a0_6) := (blk_cell BK239.out 6).trans rfl
            have hcz27_7 : wc.cell? ⟨gb239, 7, none⟩ = some (.int .u8 a0_7) := (blk_cell BK239.out 7).trans rfl
            have hcz27_8 : wc.cell? ⟨gb239, 8, none⟩ = some (.int .u8 a0_8) := (blk_cell BK239.out 8).trans rfl
            have hcz27_9 : wc.cell? ⟨gb239, 9, none⟩ = some (.int .u8 a0_9) := (blk_cell BK239.out 9).trans rfl
            have hcz27_10 : wc.cell? ⟨gb239, 10, none⟩ = some (.int .u8 a0_10) := (blk_cell BK239.out 10).trans rfl
            have hcz27_11 : wc.cell? ⟨gb239, 11, none⟩ = some (.int .u8 a0_11) := (blk_cell BK239.out 11).trans rfl
            have hcz27_12 : wc.cell? ⟨gb239, 12, none⟩ = some (.string a0_12) := (blk_cell BK239.out 12).trans rfl
            have hfz27_0 := blk_frozen BK239.out 0
            have hfz27_1 := blk_frozen BK239.out 1
            have hfz27_2 := blk_frozen BK239.out 2
            have hfz27_3 := blk_frozen BK239.out 3
            have hfz27_4 := blk_frozen BK239.out 4
            have hfz27_5 := blk_frozen BK239.out 5
            have hfz27_6 := blk_frozen BK239.out 6
            have hfz27_7 := blk_frozen BK239.out 7
            have hfz27_8 := blk_frozen BK239.out 8
            have hfz27_9 := blk_frozen BK239.out 9
            have hfz27_10 := blk_frozen BK239.out 10
            have hfz27_11 := blk_frozen BK239.out 11
            have hfz27_12 := blk_frozen BK239.out 12
            go_wp2_with (first | ((with_reducible refine gate_callee (f := 26) rfl ?_); refine goesL_ (some 27) rfl rfl Try.func26 (by kernel_rfl) rfl #[.agg #[.int .u64 a0_0, .int .u64 a0_1, .int .u8 a0_2, .int .u8 a0_3, .int .u8 a0_4, .int .u8 a0_5, .int .u8 a0_6, .int .u8 a0_7, .int .u8 a0_8, .int .u8 a0_9, .int .u8 a0_10, .int .u8 a0_11, .string a0_12]] rfl (by (try simp only [List.map_toArray, List.map_cons, List.map_nil]); first | done | rfl | (simp only [List.length_drop, List.length_take]; rfl)) ?_; (with_reducible refine (wapentakeref04_plain.calls a0_0 a0_1 a0_2 a0_3 a0_4 a0_5 a0_6 a0_7 a0_8 a0_9 a0_10 a0_11 a0_12 true _ A20.out).mono ?_); rintro e w28 ⟨rfl, hb⟩; refine ⟨_, rfl, ?_⟩; have n0_ := Aside0.mk (blk_below (g := gb239) (o := .cells #[.int .u64 a0_0, .int .u64 a0_1, .int .u8 a0_2, .int .u8 a0_3, .int .u8 a0_4, .int .u8 a0_5, .int .u8 a0_6, .int .u8 a0_7, .int .u8 a0_8, .int .u8 a0_9, .int .u8 a0_10, .int .u8 a0_11, .string a0_12] 27 (0, 0)) (by (with_reducible repeat (first | refine blk_drewN ?_ _ | refine blk_drew ?_ | refine blk_alloc ?_ _)); exact BK239.out) hb); have n1_ := Aside0.mk (below_step (by repeat (first | (with_reducible first | exact HB.out | apply below_alloc | apply pw_below_drewN | apply below_drew1 | refine below_set ?_ GE239.out) | exact HB.out)) hb); clear BK239; clear HB; have BK239 := n0_; have HB := n1_; clear n0_ n1_; (try clear hb); (try clear hb2); (try clear hk); (try clear hi); have hcz29_0 : w28.cell? ⟨gb239, 0, none⟩ = some (.int .u64 a0_0) := (blk_cell BK239.out 0).trans rfl; have hcz29_1 : w28.cell? ⟨gb239, 1, none⟩ = some (.int .u64 a0_1) := (blk_cell BK239.out 1).trans rfl; have hcz29_2 : w28.cell? ⟨gb239, 2, none⟩ = some (.int .u8 a0_2) := (blk_cell BK239.out 2).trans rfl; have hcz29_3 : w28.cell? ⟨gb239, 3, none⟩ = some (.int .u8 a0_3) := (blk_cell BK239.out 3).trans rfl; have hcz29_4 : w28.cell? ⟨gb239, 4, none⟩ = some (.int .u8 a0_4) := (blk_cell BK239.out 4).trans rfl; have hcz29_5 : w28.cell? ⟨gb239, 5, none⟩ = some (.int .u8 a0_5) := (blk_cell BK239.out 5).trans rfl; have hcz29_6 : w28.cell? ⟨gb239, 6, none⟩ = some (.int .u8 a0_6) := (blk_cell BK239.out 6).trans rfl; have hcz29_7 : w28.cell? ⟨gb239, 7, none⟩ = some (.int .u8 a0_7) := (blk_cell BK239.out 7).trans rfl; have hcz29_8 : w28.cell? ⟨gb239, 8, none⟩ = some (.int .u8 a0_8) := (blk_cell BK239.out 8).trans rfl; have hcz29_9 : w28.cell? ⟨gb239, 9, none⟩ = some (.int .u8 a0_9) := (blk_cell BK239.out 9).trans rfl; have hcz29_10 : w28.cell? ⟨gb239, 10, none⟩ = some (.int .u8 a0_10) := (blk_cell BK239.out 10).trans rfl; have hcz29_11 : w28.cell? ⟨gb239, 11, none⟩ = some (.int .u8 a0_11) := (blk_cell BK239.out 11).trans rfl; have hcz29_12 : w28.cell? ⟨gb239, 12, none⟩ = some (.string a0_12) := (blk_cell BK239.out 12).trans rfl; have hfz29_0 := blk_frozen BK239.out 0; have hfz29_1 := blk_frozen BK239.out 1; have hfz29_2 := blk_frozen BK239.out 2; have hfz29_3 := blk_frozen BK239.out 3; have hfz29_4 := blk_frozen BK239.out 4; have hfz29_5 := blk_frozen BK239.out 5; have hfz29_6 := blk_frozen BK239.out 6; have hfz29_7 := blk_frozen BK239.out 7; have hfz29_8 := blk_frozen BK239.out 8; have hfz29_9 := blk_frozen BK239.out 9; have hfz29_10 := blk_frozen BK239.out 10; have hfz29_11 := blk_frozen BK239.out 11; have hfz29_12 := blk_frozen BK239.out 12; have p24 : 0 ≤ (0 : Int) := (by omega); have q24 : 0 < a0_12.size := (by have : (0 : Int) < (a0_12.size : Int) := of_decide_eq_true (by first | (with_reducible assumption) | assumption); omega); have hx24 : ∀ h : 0 < a0_12.size, ((a0_12[0]'h).toNat : Int) = bt a0_12 0 := bt_at a0_12 0; clear p24; have qi24 : (0 < (a0_12.size : Int)) = True := eq_true (of_decide_eq_true (by first | (with_reducible assumption) | assumption)); replace q24 := eq_true q24; have p26 : 0 ≤ (0 : Int) := (by omega); have q26 : 0 < a0_12.size := (by have : (0 : Int) < (a0_12.size : Int) := of_decide_eq_true (by first | (with_reducible assumption) | assumption); omega); have hx26 : ∀ h : 0 < a0_12.size, ((a0_12[0]'h).toNat : Int) = bt a0_12 0 := bt_at a0_12 0; clear p26; have qi26 : (0 < (a0_12.size : Int)) = True := eq_true (of_decide_eq_true (by first | (with_reducible assumption) | assumption)); replace q26 := eq_true q26))
            go_ret
            exact ⟨by first | rfl | (simp [errW_none, errW_some] <;> rfl) | (simp [*, errW_none, errW_some] <;> rfl), by repeat (first | (with_reducible first | exact HB.out | apply below_alloc | apply pw_below_drewN | apply below_drew1 | refine below_set ?_ GE239.out) | exact HB.out)⟩
           ·rw [if_neg c25] at H
            have c25b0 : decide (0 < (bt a0_12 0)) = false := decide_eq_false c25
            clear c25
            obtain rfl := Option.some.inj H
            have hcz30_0 : wc.cell? ⟨gb239, 0, none⟩ = some (.int .u64 a0_0) := (blk_cell BK239.out 0).trans rfl
            have hcz30_1 : wc.cell? ⟨gb239, 1, none⟩ = some (.int .u64 a0_1) := (blk_cell BK239.out 1).trans rfl
            have hcz30_2 : wc.cell? ⟨gb239, 2, none⟩ = some (.int .u8 a0_2) := (blk_cell BK239.out 2).trans rfl
            have hcz30_3 : wc.cell? ⟨gb239, 3, none⟩ = some (.int .u8 a0_3) := (blk_cell BK239.out 3).trans rfl
            have hcz30_4 : wc.cell? ⟨gb239, 4, none⟩ = some (.int .u8 a0_4) := (blk_cell BK239.out 4).trans rfl
            have hcz30_5 : wc.cell? ⟨gb239, 5, none⟩ = some (.int .u8 a0_5) := (blk_cell BK239.out 5).trans rfl
            have hcz30_6 : wc.cell? ⟨gb239, 6, none⟩ = some (.int .u8 a0_6) := (blk_cell BK239.out 6).trans rfl
            have hcz30_7 : wc.cell? ⟨gb239, 7, none⟩ = some (.int .u8 a0_7) := (blk_cell BK239.out 7).trans rfl
            have hcz30_8 : wc.cell? ⟨gb239, 8, none⟩ = some (.int .u8 a0_8) := (blk_cell BK239.out 8).trans rfl
            have hcz30_9 : wc.cell? ⟨gb239, 9, none⟩ = some (.int .u8 a0_9) := (blk_cell BK239.out 9).trans rfl
            have hcz30_10 : wc.cell? ⟨gb239, 10, none⟩ = some (.int .u8 a0_10) := (blk_cell BK239.out 10).trans rfl
            have hcz30_11 : wc.cell? ⟨gb239, 11, none⟩ = some (.int .u8 a0_11) := (blk_cell BK239.out 11).trans rfl
            have hcz30_12 : wc.cell? ⟨gb239, 12, none⟩ = some (.string a0_12) := (blk_cell BK239.out 12).trans rfl
            have hfz30_0 := blk_frozen BK239.out 0
            have hfz30_1 := blk_frozen BK239.out 1
            have hfz30_2 := blk_frozen BK239.out 2
            have hfz30_3 := blk_frozen BK239.out 3
            have hfz30_4 := blk_frozen BK239.out 4
            have hfz30_5 := blk_frozen BK239.out 5
            have hfz30_6 := blk_frozen BK239.out 6
            have hfz30_7 := blk_frozen BK239.out 7
            have hfz30_8 := blk_frozen BK239.out 8
            have hfz30_9 := blk_frozen BK239.out 9
            have hfz30_10 := blk_frozen BK239.out 10
            have hfz30_11 := blk_frozen BK239.out 11
            have hfz30_12 := blk_frozen BK239.out 12
            go_wp2_with (first | ((with_reducible refine gate_callee (f := 26) rfl ?_); refine goesL_ (some 27) rfl rfl Try.func26 (by kernel_rfl) rfl #[.agg #[.int .u64 a0_0, .int .u64 a0_1, .int .u8 a0_2, .int .u8 a0_3, .int .u8 a0_4, .int .u8 a0_5, .int .u8 a0_6, .int .u8 a0_7, .int .u8 a0_8, .int .u8 a0_9, .int .u8 a0_10, .int .u8 a0_11, .string a0_12]] rfl (by (try simp only [List.map_toArray, List.map_cons, List.map_nil]); first | done | rfl | (simp only [List.length_drop, List.length_take]; rfl)) ?_; (with_reducible refine (wapentakeref04_plain.calls a0_0 a0_1 a0_2 a0_3 a0_4 a0_5 a0_6 a0_7 a0_8 a0_9 a0_10 a0_11 a0_12 true _ A20.out).mono ?_); rintro e w31 ⟨rfl, hb⟩; refine ⟨_, rfl, ?_⟩; have n0_ := Aside0.mk (blk_below (g := gb239) (o := .cells #[.int .u64 a0_0, .int .u64 a0_1, .int .u8 a0_2, .int .u8 a0_3, .int .u8 a0_4, .int .u8 a0_5, .int .u8 a0_6, .int .u8 a0_7, .int .u8 a0_8, .int .u8 a0_9, .int .u8 a0_10, .int .u8 a0_11, .string a0_12] 27 (0, 0)) (by (with_reducible repeat (first | refine blk_drewN ?_ _ | refine blk_drew ?_ | refine blk_alloc ?_ _)); exact BK239.out) hb); have n1_ := Aside0.mk (below_step (by repeat (first | (with_reducible first | exact HB.out | apply below_alloc | apply pw_below_drewN | apply below_drew1 | refine below_set ?_ GE239.out) | exact HB.out)) hb); clear BK239; clear HB; have BK239 := n0_; have HB := n1_; clear n0_ n1_; (try clear hb); (try clear hb2); (try clear hk); (try clear hi); have hcz32_0 : w31.cell? ⟨gb239, 0, none⟩ = some (.int .u64 a0_0) := (blk_cell BK239.out 0).trans rfl; have hcz32_1 : w31.cell? ⟨gb239, 1, none⟩ = some (.int .u64 a0_1) := (blk_cell BK239.out 1).trans rfl; have hcz32_2 : w31.cell? ⟨gb239, 2, none⟩ = some (.int .u8 a0_2) := (blk_cell BK239.out 2).trans rfl; have hcz32_3 : w31.cell? ⟨gb239, 3, none⟩ = some (.int .u8 a0_3) := (blk_cell BK239.out 3).trans rfl; have hcz32_4 : w31.cell? ⟨gb239, 4, none⟩ = some (.int .u8 a0_4) := (blk_cell BK239.out 4).trans rfl; have hcz32_5 : w31.cell? ⟨gb239, 5, none⟩ = some (.int .u8 a0_5) := (blk_cell BK239.out 5).trans rfl; have hcz32_6 : w31.cell? ⟨gb239, 6, none⟩ = some (.int .u8 a0_6) := (blk_cell BK239.out 6).trans rfl; have hcz32_7 : w31.cell? ⟨gb239, 7, none⟩ = some (.int .u8 a0_7) := (blk_cell BK239.out 7).trans rfl; have hcz32_8 : w31.cell? ⟨gb239, 8, none⟩ = some (.int .u8 a0_8) := (blk_cell BK239.out 8).trans rfl; have hcz32_9 : w31.cell? ⟨gb239, 9, none⟩ = some (.int .u8 a0_9) := (blk_cell BK239.out 9).trans rfl; have hcz32_10 : w31.cell? ⟨gb239, 10, none⟩ = some (.int .u8 a0_10) := (blk_cell BK239.out 10).trans rfl; have hcz32_11 : w31.cell? ⟨gb239, 11, none⟩ = some (.int .u8 a0_11) := (blk_cell BK239.out 11).trans rfl; have hcz32_12 : w31.cell? ⟨gb239, 12, none⟩ = some (.string a0_12) := (blk_cell BK239.out 12).trans rfl; have hfz32_0 := blk_frozen BK239.out 0; have hfz32_1 := blk_frozen BK239.out 1; have hfz32_2 := blk_frozen BK239.out 2; have hfz32_3 := blk_frozen BK239.out 3; have hfz32_4 := blk_frozen BK239.out 4; have hfz32_5 := blk_frozen BK239.out 5; have hfz32_6 := blk_frozen BK239.out 6; have hfz32_7 := blk_frozen BK239.out 7; have hfz32_8 := blk_frozen BK239.out 8; have hfz32_9 := blk_frozen BK239.out 9; have hfz32_10 := blk_frozen BK239.out 10; have hfz32_11 := blk_frozen BK239.out 11; have hfz32_12 := blk_frozen BK239.out 12; have p24 : 0 ≤ (0 : Int) := (by omega); have q24 : 0 < a0_12.size := (by have : (0 : Int) < (a0_12.size : Int) := of_decide_eq_true (by first | (with_reducible assumption) | assumption); omega); have hx24 : ∀ h : 0 < a0_12.size, ((a0_12[0]'h).toNat : Int) = bt a0_12 0 := bt_at a0_12 0; clear p24; have qi24 : (0 < (a0_12.size : Int)) = True := eq_true (of_decide_eq_true (by first | (with_reducible assumption) | assumption)); replace q24 := eq_true q24))
            go_ret
            exact ⟨by first | rfl | (simp [errW_none, errW_some] <;> rfl) | (simp [*, errW_none, errW_some] <;> rfl), by repeat (first | (with_reducible first | exact HB.out | apply below_alloc | apply pw_below_drewN | apply below_drew1 | refine below_set ?_ GE239.out) | exact HB.out)⟩
          ·rw [if_neg c23] at H
           exact absurd H (by simp)
         ·rw [if_neg c22] at H
          have c22b0 : ((a0_12.size : Int) == 1) = false := beq_eq_false_iff_ne.mpr c22
          have c22b1 : ((a0_12.size : Int) != 1) = true := bne_iff_ne.mpr c22
          obtain rfl := Option.some.inj H
          have hcz33_0 : wc.cell? ⟨gb239, 0, none⟩ = some (.int .u64 a0_0) := (blk_cell BK239.out 0).trans rfl
          have hcz33_1 : wc.cell? ⟨gb239, 1, none⟩ = some (.int .u64 a0_1) := (blk_cell BK239.out 1).trans rfl
          have hcz33_2 : wc.cell? ⟨gb239, 2, none⟩ = some (.int .u8 a0_2) := (blk_cell BK239.out 2).trans rfl
          have hcz33_3 : wc.cell? ⟨gb239, 3, none⟩ = some (.int .u8 a0_3) := (blk_cell BK239.out 3).trans rfl
          have hcz33_4 : wc.cell? ⟨gb239, 4, none⟩ = some (.int .u8 a0_4) := (blk_cell BK239.out 4).trans rfl
          have hcz33_5 : wc.cell? ⟨gb239, 5, none⟩ = some (.int .u8 a0_5) := (blk_cell BK239.out 5).trans rfl
          have hcz33_6 : wc.cell? ⟨gb239, 6, none⟩ = some (.int .u8 a0_6) := (blk_cell BK239.out 6).trans rfl
          have hcz33_7 : wc.cell? ⟨gb239, 7, none⟩ = some (.int .u8 a0_7) := (blk_cell BK239.out 7).trans rfl
          have hcz33_8 : wc.cell? ⟨gb239, 8, none⟩ = some (.int .u8 a0_8) := (blk_cell BK239.out 8).trans rfl
          have hcz33_9 : wc.cell? ⟨gb239, 9, none⟩ = some (.int .u8 a0_9) := (blk_cell BK239.out 9).trans rfl
          have hcz33_10 : wc.cell? ⟨gb239, 10, none⟩ = some (.int .u8 a0_10) := (blk_cell BK239.out 10).trans rfl
          have hcz33_11 : wc.cell? ⟨gb239, 11, none⟩ = some (.int .u8 a0_11) := (blk_cell BK239.out 11).trans rfl
          have hcz33_12 : wc.cell? ⟨gb239, 12, none⟩ = some (.string a0_12) := (blk_cell BK239.out 12).trans rfl
          have hfz33_0 := blk_frozen BK239.out 0
          have hfz33_1 := blk_frozen BK239.out 1
          have hfz33_2 := blk_frozen BK239.out 2
          have hfz33_3 := blk_frozen BK239.out 3
          have hfz33_4 := blk_frozen BK239.out 4
          have hfz33_5 := blk_frozen BK239.out 5
          have hfz33_6 := blk_frozen BK239.out 6
          have hfz33_7 := blk_frozen BK239.out 7
          have hfz33_8 := blk_frozen BK239.out 8
          have hfz33_9 := blk_frozen BK239.out 9
          have hfz33_10 := blk_frozen BK239.out 10
          have hfz33_11 := blk_frozen BK239.out 11
          have hfz33_12 := blk_frozen BK239.out 12
          go_wp2_with (first | ((with_reducible refine gate_callee (f := 26) rfl ?_); refine goesL_ (some 27) rfl rfl Try.func26 (by kernel_rfl) rfl #[.agg #[.int .u64 a0_0, .int .u64 a0_1, .int .u8 a0_2, .int .u8 a0_3, .int .u8 a0_4, .int .u8 a0_5, .int .u8 a0_6, .int .u8 a0_7, .int .u8 a0_8, .int .u8 a0_9, .int .u8 a0_10, .int .u8 a0_11, .string a0_12]] rfl (by (try simp only [List.map_toArray, List.map_cons, List.map_nil]); first | done | rfl | (simp only [List.length_drop, List.length_take]; rfl)) ?_; (with_reducible refine (wapentakeref04_plain.calls a0_0 a0_1 a0_2 a0_3 a0_4 a0_5 a0_6 a0_7 a0_8 a0_9 a0_10 a0_11 a0_12 true _ A20.out).mono ?_); rintro e w34 ⟨rfl, hb⟩; refine ⟨_, rfl, ?_⟩; have n0_ := Aside0.mk (blk_below (g := gb239) (o := .cells #[.int .u64 a0_0, .int .u64 a0_1, .int .u8 a0_2, .int .u8 a0_3, .int .u8 a0_4, .int .u8 a0_5, .int .u8 a0_6, .int .u8 a0_7, .int .u8 a0_8, .int .u8 a0_9, .int .u8 a0_10, .int .u8 a0_11, .string a0_12] 27 (0, 0)) (by (with_reducible repeat (first | refine blk_drewN ?_ _ | refine blk_drew ?_ | refine blk_alloc ?_ _)); exact BK239.out) hb); have n1_ := Aside0.mk (below_step (by repeat (first | (with_reducible first | exact HB.out | apply below_alloc | apply pw_below_drewN | apply below_drew1 | refine below_set ?_ GE239.out) | exact HB.out)) hb); clear BK239; clear HB; have BK239 := n0_; have HB := n1_; clear n0_ n1_; (try clear hb); (try clear hb2); (try clear hk); (try clear hi); have hcz35_0 : w34.cell? ⟨gb239, 0, none⟩ = some (.int .u64 a0_0) := (blk_cell BK239.out 0).trans rfl; have hcz35_1 : w34.cell? ⟨gb239, 1, none⟩ = some (.int .u64 a0_1) := (blk_cell BK239.out 1).trans rfl; have hcz35_2 : w34.cell? ⟨gb239, 2, none⟩ = some (.int .u8 a0_2) := (blk_cell BK239.out 2).trans rfl; have hcz35_3 : w34.cell? ⟨gb239, 3, none⟩ = some (.int .u8 a0_3) := (blk_cell BK239.out 3).trans rfl; have hcz35_4 : w34.cell? ⟨gb239, 4, none⟩ = some (.int .u8 a0_4) := (blk_cell BK239.out 4).trans rfl; have hcz35_5 : w34.cell? ⟨gb239, 5, none⟩ = some (.int .u8 a0_5) := (blk_cell BK239.out 5).trans rfl; have hcz35_6 : w34.cell? ⟨gb239, 6, none⟩ = some (.int .u8 a0_6) := (blk_cell BK239.out 6).trans rfl; have hcz35_7 : w34.cell? ⟨gb239, 7, none⟩ = some (.int .u8 a0_7) := (blk_cell BK239.out 7).trans rfl; have hcz35_8 : w34.cell? ⟨gb239, 8, none⟩ = some (.int .u8 a0_8) := (blk_cell BK239.out 8).trans rfl; have hcz35_9 : w34.cell? ⟨gb239, 9, none⟩ = some (.int .u8 a0_9) := (blk_cell BK239.out 9).trans rfl; have hcz35_10 : w34.cell? ⟨gb239, 10, none⟩ = some (.int .u8 a0_10) := (blk_cell BK239.out 10).trans rfl; have hcz35_11 : w34.cell? ⟨gb239, 11, none⟩ = some (.int .u8 a0_11) := (blk_cell BK239.out 11).trans rfl; have hcz35_12 : w34.cell? ⟨gb239, 12, none⟩ = some (.string a0_12) := (blk_cell BK239.out 12).trans rfl; have hfz35_0 := blk_frozen BK239.out 0; have hfz35_1 := blk_frozen BK239.out 1; have hfz35_2 := blk_frozen BK239.out 2; have hfz35_3 := blk_frozen BK239.out 3; have hfz35_4 := blk_frozen BK239.out 4; have hfz35_5 := blk_frozen BK239.out 5; have hfz35_6 := blk_frozen BK239.out 6; have hfz35_7 := blk_frozen BK239.out 7; have hfz35_8 := blk_frozen BK239.out 8; have hfz35_9 := blk_frozen BK239.out 9; have hfz35_10 := blk_frozen BK239.out 10; have hfz35_11 := blk_frozen BK239.out 11; have hfz35_12 := blk_frozen BK239.out 12))
          go_ret
          exact ⟨by first | rfl | (simp [errW_none, errW_some] <;> rfl) | (simp [*, errW_none, errW_some] <;> rfl), by repeat (first | (with_reducible first | exact HB.out | apply below_alloc | apply pw_below_drewN | apply below_drew1 | refine below_set ?_ GE239.out) | exact HB.out)⟩
        ·replace c21 := Bool.eq_false_iff.mpr c21
         subst c21
         have H1 : (some false) = some r := by rw [if_neg (show ¬ (false = true) by decide)] at H; exact H
         clear H
         have H := H1
         clear H1
         obtain rfl := Option.some.inj H
         have hcz36_0 : wc.cell? ⟨gb239, 0, none⟩ = some (.int .u64 a0_0) := (blk_cell BK239.out 0).trans rfl
         have hcz36_1 : wc.cell? ⟨gb239, 1, none⟩ = some (.int .u64 a0_1) := (blk_cell BK239.out 1).trans rfl
         have hcz36_2 : wc.cell? ⟨gb239, 2, none⟩ = some (.int .u8 a0_2) := (blk_cell BK239.out 2).trans rfl
         have hcz36_3 : wc.cell? ⟨gb239, 3, none⟩ = some (.int .u8 a0_3) := (blk_cell BK239.out 3).trans rfl
         have hcz36_4 : wc.cell? ⟨gb239, 4, none⟩ = some (.int .u8 a0_4) := (blk_cell BK239.out 4).trans rfl
         have hcz36_5 : wc.cell? ⟨gb239, 5, none⟩ = some (.int .u8 a0_5) := (blk_cell BK239.out 5).trans rfl
         have hcz36_6 : wc.cell? ⟨gb239, 6, none⟩ = some (.int .u8 a0_6) := (blk_cell BK239.out 6).trans rfl
         have hcz36_7 : wc.cell? ⟨gb239, 7, none⟩ = some (.int .u8 a0_7) := (blk_cell BK239.out 7).trans rfl
         have hcz36_8 : wc.cell? ⟨gb239, 8, none⟩ = some (.int .u8 a0_8) := (blk_cell BK239.out 8).trans rfl
         have hcz36_9 : wc.cell? ⟨gb239, 9, none⟩ = some (.int .u8 a0_9) := (blk_cell BK239.out 9).trans rfl
         have hcz36_10 : wc.cell? ⟨gb239, 10, none⟩ = some (.int .u8 a0_10) := (blk_cell BK239.out 10).trans rfl
         have hcz36_11 : wc.cell? ⟨gb239, 11, none⟩ = some (.int .u8 a0_11) := (blk_cell BK239.out 11).trans rfl
         have hcz36_12 : wc.cell? ⟨gb239, 12, none⟩ = some (.string a0_12) := (blk_cell BK239.out 12).trans rfl
         have hfz36_0 := blk_frozen BK239.out 0
         have hfz36_1 := blk_frozen BK239.out 1
         have hfz36_2 := blk_frozen BK239.out 2
         have hfz36_3 := blk_frozen BK239.out 3
         have hfz36_4 := blk_frozen BK239.out 4
         have hfz36_5 := blk_frozen BK239.out 5
         have hfz36_6 := blk_frozen BK239.out 6
         have hfz36_7 := blk_frozen BK239.out 7
         have hfz36_8 := blk_frozen BK239.out 8
         have hfz36_9 := blk_frozen BK239.out 9
         have hfz36_10 := blk_frozen BK239.out 10
         have hfz36_11 := blk_frozen BK239.out 11
         have hfz36_12 := blk_frozen BK239.out 12
         go_wp2_with (first | ((with_reducible refine gate_callee (f := 26) rfl ?_); refine goesL_ (some 27) rfl rfl Try.func26 (by kernel_rfl) rfl #[.agg #[.int .u64 a0_0, .int .u64 a0_1, .int .u8 a0_2, .int .u8 a0_3, .int .u8 a0_4, .int .u8 a0_5, .int .u8 a0_6, .int .u8 a0_7, .int .u8 a0_8, .int .u8 a0_9, .int .u8 a0_10, .int .u8 a0_11, .string a0_12]] rfl (by (try simp only [List.map_toArray, List.map_cons, List.map_nil]); first | done | rfl | (simp only [List.length_drop, List.length_take]; rfl)) ?_; (with_reducible refine (wapentakeref04_plain.calls a0_0 a0_1 a0_2 a0_3 a0_4 a0_5 a0_6 a0_7 a0_8 a0_9 a0_10 a0_11 a0_12 false _ A20.out).mono ?_); rintro e w37 ⟨rfl, hb⟩; refine ⟨_, rfl, ?_⟩; have n0_ := Aside0.mk (blk_below (g := gb239) (o := .cells #[.int .u64 a0_0, .int .u64 a0_1, .int .u8 a0_2, .int .u8 a0_3, .int .u8 a0_4, .int .u8 a0_5, .int .u8 a0_6, .int .u8 a0_7, .int .u8 a0_8, .int .u8 a0_9, .int .u8 a0_10, .int .u8 a0_11, .string a0_12] 27 (0, 0)) (by (with_reducible repeat (first | refine blk_drewN ?_ _ | refine blk_drew ?_ | refine blk_alloc ?_ _)); exact BK239.out) hb); have n1_ := Aside0.mk (below_step (by repeat (first | (with_reducible first | exact HB.out | apply below_alloc | apply pw_below_drewN | apply below_drew1 | refine below_set ?_ GE239.out) | exact HB.out)) hb); clear BK239; clear HB; have BK239 := n0_; have HB := n1_; clear n0_ n1_; (try clear hb); (try clear hb2); (try clear hk); (try clear hi)))
         go_ret
         exact ⟨by first | rfl | (simp [errW_none, errW_some] <;> rfl) | (simp [*, errW_none, errW_some] <;> rfl), by repeat (first | (with_reducible first | exact HB.out | apply below_alloc | apply pw_below_drewN | apply below_drew1 | refine below_set ?_ GE239.out) | exact HB.out)⟩
       ·rw [if_neg c19] at H
        have c19b0 : (a0_2 == 2) = false := beq_eq_false_iff_ne.mpr c19
        have c19b1 : (a0_2 != 2) = true := bne_iff_ne.mpr c19
        by_cases c38 : a0_2 = 3
        ·rw [if_pos c38] at H
         have c38b0 : (a0_2 == 3) = true := beq_iff_eq.mpr c38
         have c38b1 : (a0_2 != 3) = false := bne_eq_false_iff_eq.mpr c38
         clear c38
         obtain rfl := Option.some.inj H
         have hcz39_0 : wc.cell? ⟨gb239, 0, none⟩ = some (.int .u64 a0_0) := (blk_cell BK239.out 0).trans rfl
         have hcz39_1 : wc.cell? ⟨gb239, 1, none⟩ = some (.int .u64 a0_1) := (blk_cell BK239.out 1).trans rfl
         have hcz39_2 : wc.cell? ⟨gb239, 2, none⟩ = some (.int .u8 a0_2) := (blk_cell BK239.out 2).trans rfl
         have hcz39_3 : wc.cell? ⟨gb239, 3, none⟩ = some (.int .u8 a0_3) := (blk_cell BK239.out 3).trans rfl
         have hcz39_4 : wc.cell? ⟨gb239, 4, none⟩ = some (.int .u8 a0_4) := (blk_cell BK239.out 4).trans rfl
         have hcz39_5 : wc.cell? ⟨gb239, 5, none⟩ = some (.int .u8 a0_5) := (blk_cell BK239.out 5).trans rfl
         have hcz39_6 : wc.cell? ⟨gb239, 6, none⟩ = some (.int .u8 a0_6) := (blk_cell BK239.out 6).trans rfl
         have hcz39_7 : wc.cell? ⟨gb239, 7, none⟩ = some (.int .u8 a0_7) := (blk_cell BK239.out 7).trans rfl
         have hcz39_8 : wc.cell? ⟨gb239, 8, none⟩ = some (.int .u8 a0_8) := (blk_cell BK239.out 8).trans rfl
         have hcz39_9 : wc.cell? ⟨gb239, 9, none⟩ = some (.int .u8 a0_9) := (blk_cell BK239.out 9).trans rfl
         have hcz39_10 : wc.cell? ⟨gb239, 10, none⟩ = some (.int .u8 a0_10) := (blk_cell BK239.out 10).trans rfl
         have hcz39_11 : wc.cell? ⟨gb239, 11, none⟩ = some (.int .u8 a0_11) := (blk_cell BK239.out 11).trans rfl
         have hcz39_12 : wc.cell? ⟨gb239, 12, none⟩ = some (.string a0_12) := (blk_cell BK239.out 12).trans rfl
         have hfz39_0 := blk_frozen BK239.out 0
         have hfz39_1 := blk_frozen BK239.out 1
         have hfz39_2 := blk_frozen BK239.out 2
         have hfz39_3 := blk_frozen BK239.out 3
         have hfz39_4 := blk_frozen BK239.out 4
         have hfz39_5 := blk_frozen BK239.out 5
         have hfz39_6 := blk_frozen BK239.out 6
         have hfz39_7 := blk_frozen BK239.out 7
         have hfz39_8 := blk_frozen BK239.out 8
         have hfz39_9 := blk_frozen BK239.out 9
         have hfz39_10 := blk_frozen BK239.out 10
         have hfz39_11 := blk_frozen BK239.out 11
         have hfz39_12 := blk_frozen BK239.out 12
         go_wp2
         go_ret
         exact ⟨by first | rfl | (simp [errW_none, errW_some] <;> rfl) | (simp [*, errW_none, errW_some] <;> rfl), by repeat (first | (with_reducible first | exact HB.out | apply below_alloc | apply pw_below_drewN | apply below_drew1 | refine below_set ?_ GE239.out) | exact HB.out)⟩
        ·rw [if_neg c38] at H
         have c38b0 : (a0_2 == 3) = false := beq_eq_false_iff_ne.mpr c38
         have c38b1 : (a0_2 != 3) = true := bne_iff_ne.mpr c38
         by_cases c40 : a0_2 = 4
         ·rw [if_pos c40] at H
          have c40b0 : (a0_2 == 4) = true := beq_iff_eq.mpr c40
          have c40b1 : (a0_2 != 4) = false := bne_eq_false_iff_eq.mpr c40
          clear c40
          replace H := Option.bind_eq_some_iff.mp H
          obtain ⟨t242, A410, H⟩ := H
          replace H : (some t242) = some r := H
          have A41 := Aside0.mk A410
          clear A410
          obtain rfl := Option.some.inj H
          have hcz42_0 : wc.cell? ⟨gb239, 0, none⟩ = some (.int .u64 a0_0) := (blk_cell BK239.out 0).trans rfl
          have hcz42_1 : wc.cell? ⟨gb239, 1, none⟩ = some (.int .u64 a0_1) := (blk_cell BK239.out 1).trans rfl
          have hcz42_2 : wc.cell? ⟨gb239, 2, none⟩ = some (.int .u8 a0_2) := (blk_cell BK239.out 2).trans rfl
          have hcz42_3 : wc.cell? ⟨gb239, 3, none⟩ = some (.int .u8 a0_3) := (blk_cell BK239.out 3).trans rfl
          have hcz42_4 : wc.cell? ⟨gb239, 4, none⟩ = some (.int .u8 a0_4) := (blk_cell BK239.out 4).trans rfl
          have hcz42_5 : wc.cell? ⟨gb239, 5, none⟩ = some (.int .u8 a0_5) := (blk_cell BK239.out 5).trans rfl
          have hcz42_6 : wc.cell? ⟨gb239, 6, none⟩ = some (.int .u8 a0_6) := (blk_cell BK239.out 6).trans rfl
          have hcz42_7 : wc.cell? ⟨gb239, 7, none⟩ = some (.int .u8 a0_7) := (blk_cell BK239.out 7).trans rfl
          have hcz42_8 : wc.cell? ⟨gb239, 8, none⟩ = some (.int .u8 a0_8) := (blk_cell BK239.out 8).trans rfl
          have hcz42_9 : wc.cell? ⟨gb239, 9, none⟩ = some (.int .u8 a0_9) := (blk_cell BK239.out 9).trans rfl
          have hcz42_10 : wc.cell? ⟨gb239, 10, none⟩ = some (.int .u8 a0_10) := (blk_cell BK239.out 10).trans rfl
          have hcz42_11 : wc.cell? ⟨gb239, 11, none⟩ = some (.int .u8 a0_11) := (blk_cell BK239.out 11).trans rfl
          have hcz42_12 : wc.cell? ⟨gb239, 12, none⟩ = some (.string a0_12) := (blk_cell BK239.out 12).trans rfl
          have hfz42_0 := blk_frozen BK239.out 0
          have hfz42_1 := blk_frozen BK239.out 1
          have hfz42_2 := blk_frozen BK239.out 2
          have hfz42_3 := blk_frozen BK239.out 3
          have hfz42_4 := blk_frozen BK239.out 4
          have hfz42_5 := blk_frozen BK239.out 5
          have hfz42_6 := blk_frozen BK239.out 6
          have hfz42_7 := blk_frozen BK239.out 7
          have hfz42_8 := blk_frozen BK239.out 8
          have hfz42_9 := blk_frozen BK239.out 9
          have hfz42_10 := blk_frozen BK239.out 10
          have hfz42_11 := blk_frozen BK239.out 11
          have hfz42_12 := blk_frozen BK239.out 12
          go_wp2_with (first | ((with_reducible refine gate_callee (f := 26) rfl ?_); refine goesL_ (some 54) rfl rfl Try.func26 (by kernel_rfl) rfl #[.agg #[.int .u64 a0_0, .int .u64 a0_1, .int .u8 a0_2, .int .u8 a0_3, .int .u8 a0_4, .int .u8 a0_5, .int .u8 a0_6, .int .u8 a0_7, .int .u8 a0_8, .int .u8 a0_9, .int .u8 a0_10, .int .u8 a0_11, .string a0_12]] rfl (by (try simp only [List.map_toArray, List.map_cons, List.map_nil]); first | done | rfl | (simp only [List.length_drop, List.length_take]; rfl)) ?_; (with_reducible refine (wapentakeref04_plain.calls a0_0 a0_1 a0_2 a0_3 a0_4 a0_5 a0_6 a0_7 a0_8 a0_9 a0_10 a0_11 a0_12 t242 _ A41.out).mono ?_); rintro e w43 ⟨rfl, hb⟩; refine ⟨_, rfl, ?_⟩; have n0_ := Aside0.mk (blk_below (g := gb239) (o := .cells #[.int .u64 a0_0, .int .u64 a0_1, .int .u8 a0_2, .int .u8 a0_3, .int .u8 a0_4, .int .u8 a0_5, .int .u8 a0_6, .int .u8 a0_7, .int .u8 a0_8, .int .u8 a0_9, .int .u8 a0_10, .int .u8 a0_11, .string a0_12] 27 (0, 0)) (by (with_reducible repeat (first | refine blk_drewN ?_ _ | refine blk_drew ?_ | refine blk_alloc ?_ _)); exact BK239.out) hb); have n1_ := Aside0.mk (below_step (by repeat (first | (with_reducible first | exact HB.out | apply below_alloc | apply pw_below_drewN | apply below_drew1 | refine below_set ?_ GE239.out) | exact HB.out)) hb); clear BK239; clear HB; have BK239 := n0_; have HB := n1_; clear n0_ n1_; (try clear hb); (try clear hb2); (try clear hk); (try clear hi)))
          go_ret
          exact ⟨by first | rfl | (simp [errW_none, errW_some] <;> rfl) | (simp [*, errW_none, errW_some] <;> rfl), by repeat (first | (with_reducible first | exact HB.out | apply below_alloc | apply pw_below_drewN | apply below_drew1 | refine below_set ?_ GE239.out) | exact HB.out)⟩
         ·rw [if_neg c40] at H
          have c40b0 : (a0_2 == 4) = false := beq_eq_false_iff_ne.mpr c40
          have c40b1 : (a0_2 != 4) = true := bne_iff_ne.mpr c40
          obtain rfl := Option.some.inj H
          go_wp2
          go_ret
          exact ⟨by first | rfl | (simp [errW_none, errW_some] <;> rfl) | (simp [*, errW_none, errW_some] <;> rfl), by repeat (first | (with_reducible first | exact HB.out | apply below_alloc | apply pw_below_drewN | apply below_drew1 | refine below_set ?_ GE239.out) | exact HB.out)⟩

end Go.Proofs.Ytimfgflcflhfcaa.P
