-- Written by wip/tools/myprint.sh out of the translation, over the kit's print with a patch. Not trusted: Lean checks it.
import Derived.Test.YtimfgflcflhfcaaPx0
import Derived.Test.YtimfgflcflhfcaaPx5
import Derived.Test.YtimfgflcflhfcaaPx6
namespace Go.Proofs.Ytimfgflcflhfcaa.P
open Go.RowKit Go.Proofs.YtimfgflcflhfcaaW.PrintWords Go.Proofs.YtimfgflcflhfcaaW.PrintLast Go.Proofs.YtimfgflcflhfcaaW.PrintMore Go.Proofs.Ytimfgflcflhfcaa.Num
attribute [local go_sem] max2_int min2_int max_two min_two max_three min_three max_four min_four   -- for this text's walks alone
set_option linter.unusedVariables false
set_option linter.unusedSimpArgs false

def bq_7_ (n m : Nat) : Array Bool := ((List.range n).map fun i => m.testBit i).toArray
theorem zA7_ {α : Type} (l : List α) (i : Nat) (a : α) : l.toArray.setIfInBounds i a = (l.set i a).toArray := List.setIfInBounds_toArray ..
theorem zB7_ {α : Type} (a b : α) (l : List α) : (a :: l).set 0 b = b :: l := List.set_cons_zero ..
theorem zC7_ {α : Type} (a b : α) (l : List α) (n : Nat) : (a :: l).set (n + 1) b = a :: l.set n b := List.set_cons_succ ..
/-! ### entry_Read: function 11 -/
mutual
def entry_Read.j0 : Nat → ByteArray → ByteArray → Bool → Int → Int → Int → Int → Int → Int → Int → Int → Int → Int → Int → Int → ByteArray → Option (Int × Int × Int × Int × Int × Int × Int × Int × Int × Int × Int × Int × ByteArray × Bool)
 | 0, _, _, _, _, _, _, _, _, _, _, _, _, _, _, _, _ => none
 | k + 1, x0, x11, x51, x128000, x128001, x128002, x128003, x128004, x128005, x128006, x128007, x128008, x128009, x128010, x128011, x128012 => if x51 = true then (if 0 < (x11.size : Int) then (if 1 ≤ (x11.size : Int) then (if 8 ≤ ((x11.extract 1 x11.size).size : Int) then (if 9 ≤ (x11.size : Int) then (entry_Read.j1 k x0 (x11.extract 9 x11.size) x128000 x128001 x128002 (bt x11 0) (bt (x11.extract 1 x11.size) 0) (bt (x11.extract 1 x11.size) 1) (bt (x11.extract 1 x11.size) 2) (bt (x11.extract 1 x11.size) 3) (bt (x11.extract 1 x11.size) 4) (bt (x11.extract 1 x11.size) 5) (bt (x11.extract 1 x11.size) 6) (bt (x11.extract 1 x11.size) 7) x128012) else (none)) else (none)) else (none)) else (none)) else (entry_Read.j1 k x0 x11 x128000 x128001 x128002 x128003 x128004 x128005 x128006 x128007 x128008 x128009 x128010 x128011 x128012)
def entry_Read.j1 : Nat → ByteArray → ByteArray → Int → Int → Int → Int → Int → Int → Int → Int → Int → Int → Int → Int → ByteArray → Option (Int × Int × Int × Int × Int × Int × Int × Int × Int × Int × Int × Int × ByteArray × Bool)
 | 0, _, _, _, _, _, _, _, _, _, _, _, _, _, _, _ => none
 | k + 1, x0, x11, x128000, x128001, x128002, x128003, x128004, x128005, x128006, x128007, x128008, x128009, x128010, x128011, x128012 => (num_ReadS.f k x11).bind fun bt134 => ((entry_Write.f k x128000 x128001 x128002 x128003 x128004 x128005 x128006 x128007 x128008 x128009 x128010 x128011 bt134.1).bind fun t137 => (if t137.toList = x0.toList then (some (x128000, x128001, x128002, x128003, x128004, x128005, x128006, x128007, x128008, x128009, x128010, x128011, bt134.1, true)) else (some (0, 0, 0, 0, 0, 0, 0, 0, 0, 0, 0, 0, (⟨#[]⟩ : ByteArray), false))))
end
def entry_Read.f (k : Nat) (a0 : ByteArray) : Option (Int × Int × Int × Int × Int × Int × Int × Int × Int × Int × Int × Int × ByteArray × Bool) := if a0.toList = ([] : List UInt8) then (some (0, 0, 0, 0, 0, 0, 0, 0, 0, 0, 0, 0, (⟨#[]⟩ : ByteArray), false)) else (if 0 < (a0.size : Int) then (if 1 ≤ (a0.size : Int) then ((num_ReadV.f k (a0.extract 1 a0.size)).bind fun bt128 => (if 0 ≤ (wrap64 (1 + bt128.2.1)) then (if (wrap64 (1 + bt128.2.1)) ≤ (a0.size : Int) then ((num_ReadV.f k (a0.extract ((wrap64 (1 + bt128.2.1)) : Int).toNat a0.size)).bind fun bt131 => (if 0 ≤ (wrap64 ((wrap64 (1 + bt128.2.1)) + bt131.2.1)) then (if (wrap64 ((wrap64 (1 + bt128.2.1)) + bt131.2.1)) ≤ (a0.size : Int) then (if (bt a0 0) = 3 then (entry_Read.j0 k a0 (a0.extract ((wrap64 ((wrap64 (1 + bt128.2.1)) + bt131.2.1)) : Int).toNat a0.size) (decide (((a0.extract ((wrap64 ((wrap64 (1 + bt128.2.1)) + bt131.2.1)) : Int).toNat a0.size).size : Int) > 8)) bt128.1 bt131.1 (bt a0 0) 0 0 0 0 0 0 0 0 0 (⟨#[]⟩ : ByteArray)) else (entry_Read.j0 k a0 (a0.extract ((wrap64 ((wrap64 (1 + bt128.2.1)) + bt131.2.1)) : Int).toNat a0.size) false bt128.1 bt131.1 (bt a0 0) 0 0 0 0 0 0 0 0 0 (⟨#[]⟩ : ByteArray))) else (none)) else (none))) else (none)) else (none))) else (none)) else (none))
theorem entry_Read.mono_l : ∀ k, (∀ y0 y1 y2 y3 y4 y5 y6 y7 y8 y9 y10 y11 y12 y13 y14 y15, LeO (entry_Read.j0 k y0 y1 y2 y3 y4 y5 y6 y7 y8 y9 y10 y11 y12 y13 y14 y15) (entry_Read.j0 (k + 1) y0 y1 y2 y3 y4 y5 y6 y7 y8 y9 y10 y11 y12 y13 y14 y15)) ∧ (∀ y0 y1 y2 y3 y4 y5 y6 y7 y8 y9 y10 y11 y12 y13 y14, LeO (entry_Read.j1 k y0 y1 y2 y3 y4 y5 y6 y7 y8 y9 y10 y11 y12 y13 y14) (entry_Read.j1 (k + 1) y0 y1 y2 y3 y4 y5 y6 y7 y8 y9 y10 y11 y12 y13 y14))
 | 0 => ⟨fun _ _ _ _ _ _ _ _ _ _ _ _ _ _ _ _ r h => by simp [entry_Read.j0] at h, fun _ _ _ _ _ _ _ _ _ _ _ _ _ _ _ r h => by simp [entry_Read.j1] at h⟩
 | k + 1 => by
  obtain ⟨ih0, ih1⟩ := entry_Read.mono_l k
  refine ⟨?_, ?_⟩
  ·intro y0 y1 y2 y3 y4 y5 y6 y7 y8 y9 y10 y11 y12 y13 y14 y15
   unfold entry_Read.j0
   repeat' first
   | (with_reducible exact ih0 _ _ _ _ _ _ _ _ _ _ _ _ _ _ _ _)
   | (with_reducible exact ih1 _ _ _ _ _ _ _ _ _ _ _ _ _ _ _)
   | (with_reducible exact entry_Write.mono _ _ _ _ _ _ _ _ _ _ _ _ _ _)
   | (with_reducible exact num_ReadS.mono _ _)
   | (with_reducible exact num_ReadV.mono _ _)
   | (with_reducible exact LeO.refl _)
   | (with_reducible exact LeO.none _)
   | (with_reducible refine LeO.ite ?_ ?_)
   | (with_reducible refine LeO.bind ?_ (fun _ => ?_))
   | exact ih0 _ _ _ _ _ _ _ _ _ _ _ _ _ _ _ _
   | exact ih1 _ _ _ _ _ _ _ _ _ _ _ _ _ _ _
   | exact entry_Write.mono _ _ _ _ _ _ _ _ _ _ _ _ _ _
   | exact num_ReadS.mono _ _
   | exact num_ReadV.mono _ _
   | exact LeO.none _
   | refine LeO.ite ?_ ?_
   | refine LeO.bind ?_ (fun _ => ?_)
  ·intro y0 y1 y2 y3 y4 y5 y6 y7 y8 y9 y10 y11 y12 y13 y14
   unfold entry_Read.j1
   repeat' first
   | (with_reducible exact ih0 _ _ _ _ _ _ _ _ _ _ _ _ _ _ _ _)
   | (with_reducible exact ih1 _ _ _ _ _ _ _ _ _ _ _ _ _ _ _)
   | (with_reducible exact entry_Write.mono _ _ _ _ _ _ _ _ _ _ _ _ _ _)
   | (with_reducible exact num_ReadS.mono _ _)
   | (with_reducible exact num_ReadV.mono _ _)
   | (with_reducible exact LeO.refl _)
   | (with_reducible exact LeO.none _)
   | (with_reducible refine LeO.ite ?_ ?_)
   | (with_reducible refine LeO.bind ?_ (fun _ => ?_))
   | exact ih0 _ _ _ _ _ _ _ _ _ _ _ _ _ _ _ _
   | exact ih1 _ _ _ _ _ _ _ _ _ _ _ _ _ _ _
   | exact entry_Write.mono _ _ _ _ _ _ _ _ _ _ _ _ _ _
   | exact num_ReadS.mono _ _
   | exact num_ReadV.mono _ _
   | exact LeO.none _
   | refine LeO.ite ?_ ?_
   | refine LeO.bind ?_ (fun _ => ?_)
theorem entry_Read.mono : ∀ a0 k, LeO (entry_Read.f k a0) (entry_Read.f (k + 1) a0) := by
 intro a0 k
 obtain ⟨ih0, ih1⟩ := entry_Read.mono_l k
 unfold entry_Read.f
 repeat' first
   | (with_reducible exact ih0 _ _ _ _ _ _ _ _ _ _ _ _ _ _ _ _)
   | (with_reducible exact ih1 _ _ _ _ _ _ _ _ _ _ _ _ _ _ _)
   | (with_reducible exact entry_Write.mono _ _ _ _ _ _ _ _ _ _ _ _ _ _)
   | (with_reducible exact num_ReadS.mono _ _)
   | (with_reducible exact num_ReadV.mono _ _)
   | (with_reducible exact LeO.refl _)
   | (with_reducible exact LeO.none _)
   | (with_reducible refine LeO.ite ?_ ?_)
   | (with_reducible refine LeO.bind ?_ (fun _ => ?_))
   | exact ih0 _ _ _ _ _ _ _ _ _ _ _ _ _ _ _ _
   | exact ih1 _ _ _ _ _ _ _ _ _ _ _ _ _ _ _
   | exact entry_Write.mono _ _ _ _ _ _ _ _ _ _ _ _ _ _
   | exact num_ReadS.mono _ _
   | exact num_ReadV.mono _ _
   | exact LeO.none _
   | refine LeO.ite ?_ ?_
   | refine LeO.bind ?_ (fun _ => ?_)
def entry_Read.T10 : Bool × List (List Nat × List Nat) := (true, [([], []), ([], []), ([1], [1]), ([], []), ([3], [3]), ([2, 4], [2, 4]), ([5], [5]), ([0, 6], [0, 6]), ([7, 5, 0, 1, 2, 3, 4, 5, 6, 7], [0, 3, 7])])
def entry_Read.B10 : List Nat := [0, 0, 2, 0, 8, 30, 62, 127, 255]
theorem entry_Read.tab10 : rtab .any (opsOf Try.f11 10) = entry_Read.T10 := by kernel_rfl
theorem entry_Read.bits10 : waitsOk entry_Read.T10.2 entry_Read.B10 = true := by kernel_rfl
set_option maxHeartbeats 8000000 in
set_option maxRecDepth 100000 in
theorem entry_Read.calls (k : Nat) (a0 : ByteArray) (r1 : Int) (r2 : Int) (r3 : Int) (r4 : Int) (r5 : Int) (r6 : Int) (r7 : Int) (r8 : Int) (r9 : Int) (r10 : Int) (r11 : Int) (r12 : Int) (r13 : ByteArray) (r14 : Bool) (w : World) (h : entry_Read.f k a0 = some (r1, r2, r3, r4, r5, r6, r7, r8, r9, r10, r11, r12, r13, r14)) :
  Calls Try.prog 11 #[.string a0] w fun e w' => e = .returned (.tuple #[.agg #[.int .u64 r1, .int .u64 r2, .int .u8 r3, .int .u8 r4, .int .u8 r5, .int .u8 r6, .int .u8 r7, .int .u8 r8, .int .u8 r9, .int .u8 r10, .int .u8 r11, .int .u8 r12, .string r13], .bool r14]) ∧ Below w.heap.size w w' := by
 have hu27 := Try.underlying27
 have HB := Aside0.mk (Below.refl w.heap.size w)
 have H : (if a0.toList = ([] : List UInt8) then (some (0, 0, 0, 0, 0, 0, 0, 0, 0, 0, 0, 0, (⟨#[]⟩ : ByteArray), false)) else (if 0 < (a0.size : Int) then (if 1 ≤ (a0.size : Int) then ((num_ReadV.f k (a0.extract 1 a0.size)).bind fun bt128 => (if 0 ≤ (wrap64 (1 + bt128.2.1)) then (if (wrap64 (1 + bt128.2.1)) ≤ (a0.size : Int) then ((num_ReadV.f k (a0.extract ((wrap64 (1 + bt128.2.1)) : Int).toNat a0.size)).bind fun bt131 => (if 0 ≤ (wrap64 ((wrap64 (1 + bt128.2.1)) + bt131.2.1)) then (if (wrap64 ((wrap64 (1 + bt128.2.1)) + bt131.2.1)) ≤ (a0.size : Int) then (if (bt a0 0) = 3 then (entry_Read.j0 k a0 (a0.extract ((wrap64 ((wrap64 (1 + bt128.2.1)) + bt131.2.1)) : Int).toNat a0.size) (decide (((a0.extract ((wrap64 ((wrap64 (1 + bt128.2.1)) + bt131.2.1)) : Int).toNat a0.size).size : Int) > 8)) bt128.1 bt131.1 (bt a0 0) 0 0 0 0 0 0 0 0 0 (⟨#[]⟩ : ByteArray)) else (entry_Read.j0 k a0 (a0.extract ((wrap64 ((wrap64 (1 + bt128.2.1)) + bt131.2.1)) : Int).toNat a0.size) false bt128.1 bt131.1 (bt a0 0) 0 0 0 0 0 0 0 0 0 (⟨#[]⟩ : ByteArray))) else (none)) else (none))) else (none)) else (none))) else (none)) else (none))) = some (r1, r2, r3, r4, r5, r6, r7, r8, r9, r10, r11, r12, r13, r14) := h
 clear h
 by_cases c2 : a0.toList = ([] : List UInt8)
 ·rw [if_pos c2] at H
  have c2b0 : a0.toList.isEmpty = true := (by rw [c2]; rfl)
  have c2b1 : (a0.toList == ([] : List UInt8)) = true := beq_iff_eq.mpr c2
  have c2b2 : (a0.toList != ([] : List UInt8)) = false := bne_eq_false_iff_eq.mpr c2
  clear c2
  simp only [Option.some.injEq, Prod.mk.injEq] at H
  obtain ⟨rfl, rfl, rfl, rfl, rfl, rfl, rfl, rfl, rfl, rfl, rfl, rfl, rfl, rfl⟩ := H
  go_enter Try.func11, Try.ntmps11
  go_wp2_with (first | ((with_reducible refine gate_dst (N := 2) rfl ?_); (try (refine gate_guard (by rfl) ?_; dsimp only)); refine box_event ?hg (N := 2) ?hd (cs := #[.int .u64 0, .int .u64 0, .int .u8 0, .int .u8 0, .int .u8 0, .int .u8 0, .int .u8 0, .int .u8 0, .int .u8 0, .int .u8 0, .int .u8 0, .int .u8 0, .string (⟨#[]⟩ : ByteArray)]) (t := 27) ?hr ?_; (case hd => rfl); (case hg => rfl); (case hr => first | (go_simp; done) | (go_simp; rfl)); intro gb126 hg w3 hbox hb; have n0_ := Aside0.mk (below_step (by repeat (first | (with_reducible first | exact HB.out | apply below_alloc | apply pw_below_drewN | apply below_drew1) | exact HB.out)) hb); have n1_ := Aside0.mk (hbox); have n2_ := Aside0.mk ((by rw [hg]; exact (below_size (by repeat (first | (with_reducible first | exact HB.out | apply below_alloc | apply pw_below_drewN | apply below_drew1) | exact HB.out))) : w.heap.size ≤ gb126)); have n3_ := Aside0.mk ((by rw [hg]; exact (below_size (by repeat (first | (with_reducible first | exact HB.out | apply below_alloc | apply pw_below_drewN | apply below_drew1) | exact HB.out))) : w.heap.size ≤ gb126)); clear HB; have HB := n0_; have BK126 := n1_; have GW126 := n2_; have GE126 := n3_; clear n0_ n1_ n2_ n3_; clear hb hbox hg; have hcz4_0 : w3.cell? ⟨gb126, 0, none⟩ = some (.int .u64 0) := (blk_cell BK126.out 0).trans rfl; have hcz4_1 : w3.cell? ⟨gb126, 1, none⟩ = some (.int .u64 0) := (blk_cell BK126.out 1).trans rfl; have hcz4_2 : w3.cell? ⟨gb126, 2, none⟩ = some (.int .u8 0) := (blk_cell BK126.out 2).trans rfl; have hcz4_3 : w3.cell? ⟨gb126, 3, none⟩ = some (.int .u8 0) := (blk_cell BK126.out 3).trans rfl; have hcz4_4 : w3.cell? ⟨gb126, 4, none⟩ = some (.int .u8 0) := (blk_cell BK126.out 4).trans rfl; have hcz4_5 : w3.cell? ⟨gb126, 5, none⟩ = some (.int .u8 0) := (blk_cell BK126.out 5).trans rfl; have hcz4_6 : w3.cell? ⟨gb126, 6, none⟩ = some (.int .u8 0) := (blk_cell BK126.out 6).trans rfl; have hcz4_7 : w3.cell? ⟨gb126, 7, none⟩ = some (.int .u8 0) := (blk_cell BK126.out 7).trans rfl; have hcz4_8 : w3.cell? ⟨gb126, 8, none⟩ = some (.int .u8 0) := (blk_cell BK126.out 8).trans rfl; have hcz4_9 : w3.cell? ⟨gb126, 9, none⟩ = some (.int .u8 0) := (blk_cell BK126.out 9).trans rfl; have hcz4_10 : w3.cell? ⟨gb126, 10, none⟩ = some (.int .u8 0) := (blk_cell BK126.out 10).trans rfl; have hcz4_11 : w3.cell? ⟨gb126, 11, none⟩ = some (.int .u8 0) := (blk_cell BK126.out 11).trans rfl; have hcz4_12 : w3.cell? ⟨gb126, 12, none⟩ = some (.string (⟨#[]⟩ : ByteArray)) := (blk_cell BK126.out 12).trans rfl; have hfz4_0 := blk_frozen BK126.out 0; have hfz4_1 := blk_frozen BK126.out 1; have hfz4_2 := blk_frozen BK126.out 2; have hfz4_3 := blk_frozen BK126.out 3; have hfz4_4 := blk_frozen BK126.out 4; have hfz4_5 := blk_frozen BK126.out 5; have hfz4_6 := blk_frozen BK126.out 6; have hfz4_7 := blk_frozen BK126.out 7; have hfz4_8 := blk_frozen BK126.out 8; have hfz4_9 := blk_frozen BK126.out 9; have hfz4_10 := blk_frozen BK126.out 10; have hfz4_11 := blk_frozen BK126.out 11; have hfz4_12 := blk_frozen BK126.out 12))
  refine bodyPost_ret (results_ct rfl _ _ gb126 27 #[.int .u64 0, .int .u64 0, .int .u8 0, .int .u8 0, .int .u8 0, .int .u8 0, .int .u8 0, .int .u8 0, .int .u8 0, .int .u8 0, .int .u8 0, .int .u8 0, .string (⟨#[]⟩ : ByteArray)] (0, 0) _ rfl (by (with_reducible repeat (first | refine blk_drewN ?_ _ | refine blk_drew ?_ | refine blk_alloc ?_ _)); refine blk_put (cs := #[.int .u64 0, .int .u64 0, .int .u8 0, .int .u8 0, .int .u8 0, .int .u8 0, .int .u8 0, .int .u8 0, .int .u8 0, .int .u8 0, .int .u8 0, .int .u8 0, .string (⟨#[]⟩ : ByteArray)]) ?_ 12 _ rfl; (with_reducible repeat (first | refine blk_drewN ?_ _ | refine blk_drew ?_ | refine blk_alloc ?_ _)); refine blk_put (cs := #[.int .u64 0, .int .u64 0, .int .u8 0, .int .u8 0, .int .u8 0, .int .u8 0, .int .u8 0, .int .u8 0, .int .u8 0, .int .u8 0, .int .u8 0, .int .u8 0, .string (⟨#[]⟩ : ByteArray)]) ?_ 11 _ rfl; (with_reducible repeat (first | refine blk_drewN ?_ _ | refine blk_drew ?_ | refine blk_alloc ?_ _)); refine blk_put (cs := #[.int .u64 0, .int .u64 0, .int .u8 0, .int .u8 0, .int .u8 0, .int .u8 0, .int .u8 0, .int .u8 0, .int .u8 0, .int .u8 0, .int .u8 0, .int .u8 0, .string (⟨#[]⟩ : ByteArray)]) ?_ 10 _ rfl; (with_reducible repeat (first | refine blk_drewN ?_ _ | refine blk_drew ?_ | refine blk_alloc ?_ _)); refine blk_put (cs := #[.int .u64 0, .int .u64 0, .int .u8 0, .int .u8 0, .int .u8 0, .int .u8 0, .int .u8 0, .int .u8 0, .int .u8 0, .int .u8 0, .int .u8 0, .int .u8 0, .string (⟨#[]⟩ : ByteArray)]) ?_ 9 _ rfl; (with_reducible repeat (first | refine blk_drewN ?_ _ | refine blk_drew ?_ | refine blk_alloc ?_ _)); refine blk_put (cs := #[.int .u64 0, .int .u64 0, .int .u8 0, .int .u8 0, .int .u8 0, .int .u8 0, .int .u8 0, .int .u8 0, .int .u8 0, .int .u8 0, .int .u8 0, .int .u8 0, .string (⟨#[]⟩ : ByteArray)]) ?_ 8 _ rfl; (with_reducible repeat (first | refine blk_drewN ?_ _ | refine blk_drew ?_ | refine blk_alloc ?_ _)); refine blk_put (cs := #[.int .u64 0, .int .u64 0, .int .u8 0, .int .u8 0, .int .u8 0, .int .u8 0, .int .u8 0, .int .u8 0, .int .u8 0, .int .u8 0, .int .u8 0, .int .u8 0, .string (⟨#[]⟩ : ByteArray)]) ?_ 7 _ rfl; (with_reducible repeat (first | refine blk_drewN ?_ _ | refine blk_drew ?_ | refine blk_alloc ?_ _)); refine blk_put (cs := #[.int .u64 0, .int .u64 0, .int .u8 0, .int .u8 0, .int .u8 0, .int .u8 0, .int .u8 0, .int .u8 0, .int .u8 0, .int .u8 0, .int .u8 0, .int .u8 0, .string (⟨#[]⟩ : ByteArray)]) ?_ 6 _ rfl; (with_reducible repeat (first | refine blk_drewN ?_ _ | refine blk_drew ?_ | refine blk_alloc ?_ _)); refine blk_put (cs := #[.int .u64 0, .int .u64 0, .int .u8 0, .int .u8 0, .int .u8 0, .int .u8 0, .int .u8 0, .int .u8 0, .int .u8 0, .int .u8 0, .int .u8 0, .int .u8 0, .string (⟨#[]⟩ : ByteArray)]) ?_ 5 _ rfl; (with_reducible repeat (first | refine blk_drewN ?_ _ | refine blk_drew ?_ | refine blk_alloc ?_ _)); refine blk_put (cs := #[.int .u64 0, .int .u64 0, .int .u8 0, .int .u8 0, .int .u8 0, .int .u8 0, .int .u8 0, .int .u8 0, .int .u8 0, .int .u8 0, .int .u8 0, .int .u8 0, .string (⟨#[]⟩ : ByteArray)]) ?_ 4 _ rfl; (with_reducible repeat (first | refine blk_drewN ?_ _ | refine blk_drew ?_ | refine blk_alloc ?_ _)); refine blk_put (cs := #[.int .u64 0, .int .u64 0, .int .u8 0, .int .u8 0, .int .u8 0, .int .u8 0, .int .u8 0, .int .u8 0, .int .u8 0, .int .u8 0, .int .u8 0, .int .u8 0, .string (⟨#[]⟩ : ByteArray)]) ?_ 3 _ rfl; (with_reducible repeat (first | refine blk_drewN ?_ _ | refine blk_drew ?_ | refine blk_alloc ?_ _)); refine blk_put (cs := #[.int .u64 0, .int .u64 0, .int .u8 0, .int .u8 0, .int .u8 0, .int .u8 0, .int .u8 0, .int .u8 0, .int .u8 0, .int .u8 0, .int .u8 0, .int .u8 0, .string (⟨#[]⟩ : ByteArray)]) ?_ 2 _ rfl; (with_reducible repeat (first | refine blk_drewN ?_ _ | refine blk_drew ?_ | refine blk_alloc ?_ _)); refine blk_put (cs := #[.int .u64 0, .int .u64 0, .int .u8 0, .int .u8 0, .int .u8 0, .int .u8 0, .int .u8 0, .int .u8 0, .int .u8 0, .int .u8 0, .int .u8 0, .int .u8 0, .string (⟨#[]⟩ : ByteArray)]) ?_ 1 _ rfl; (with_reducible repeat (first | refine blk_drewN ?_ _ | refine blk_drew ?_ | refine blk_alloc ?_ _)); refine blk_put (cs := #[.int .u64 0, .int .u64 0, .int .u8 0, .int .u8 0, .int .u8 0, .int .u8 0, .int .u8 0, .int .u8 0, .int .u8 0, .int .u8 0, .int .u8 0, .int .u8 0, .string (⟨#[]⟩ : ByteArray)]) ?_ 0 _ rfl; (with_reducible repeat (first | refine blk_drewN ?_ _ | refine blk_drew ?_ | refine blk_alloc ?_ _)); exact BK126.out) Try.underlying27 rfl (by kernel_rfl)) rfl ?_
  exact ⟨by first | rfl | (simp [errW_none, errW_some] <;> rfl) | (simp [*, errW_none, errW_some] <;> rfl), by repeat (first | (with_reducible first | exact HB.out | apply below_alloc | apply pw_below_drewN | apply below_drew1 | refine below_set ?_ GE126.out) | exact HB.out)⟩
 ·rw [if_neg c2] at H
  have c2b0 : a0.toList.isEmpty = false := (by rw [← Bool.not_eq_true, List.isEmpty_iff]; exact c2)
  have c2b1 : (a0.toList == ([] : List UInt8)) = false := beq_eq_false_iff_ne.mpr c2
  have c2b2 : (a0.toList != ([] : List UInt8)) = true := bne_iff_ne.mpr c2
  by_cases c5 : 0 < (a0.size : Int)
  ·rw [if_pos c5] at H
   have c5b0 : decide (0 < (a0.size : Int)) = true := decide_eq_true c5
   have c5b1 : decide (0 < a0.size) = true := decide_eq_true (by omega)
   clear c5
   by_cases c7 : 1 ≤ (a0.size : Int)
   ·rw [if_pos c7] at H
    have c7b0 := eq_true c7
    have c7b1 : decide (1 ≤ (a0.size : Int)) = true := decide_eq_true c7
    clear c7
    replace H := Option.bind_eq_some_iff.mp H
    obtain ⟨⟨t128, t129, t130⟩, A80, H⟩ := H
    replace H : (if 0 ≤ (wrap64 (1 + t129)) then (if (wrap64 (1 + t129)) ≤ (a0.size : Int) then ((num_ReadV.f k (a0.extract ((wrap64 (1 + t129)) : Int).toNat a0.size)).bind fun bt131 => (if 0 ≤ (wrap64 ((wrap64 (1 + t129)) + bt131.2.1)) then (if (wrap64 ((wrap64 (1 + t129)) + bt131.2.1)) ≤ (a0.size : Int) then (if (bt a0 0) = 3 then (entry_Read.j0 k a0 (a0.extract ((wrap64 ((wrap64 (1 + t129)) + bt131.2.1)) : Int).toNat a0.size) (decide (((a0.extract ((wrap64 ((wrap64 (1 + t129)) + bt131.2.1)) : Int).toNat a0.size).size : Int) > 8)) t128 bt131.1 (bt a0 0) 0 0 0 0 0 0 0 0 0 (⟨#[]⟩ : ByteArray)) else (entry_Read.j0 k a0 (a0.extract ((wrap64 ((wrap64 (1 + t129)) + bt131.2.1)) : Int).toNat a0.size) false t128 bt131.1 (bt a0 0) 0 0 0 0 0 0 0 0 0 (⟨#[]⟩ : ByteArray))) else (none)) else (none))) else (none)) else (none)) = some (r1, r2, r3, r4, r5, r6, r7, r8, r9, r10, r11, r12, r13, r14) := H
    have A8 := Aside0.mk A80
    clear A80
    obtain ⟨ji9, hji9⟩ : ∃ j_ : Int, (wrap64 (1 + t129)) = j_ := ⟨_, rfl⟩
    replace H : (if 0 ≤ (ji9) then (if (ji9) ≤ (a0.size : Int) then ((num_ReadV.f k (a0.extract ((ji9) : Int).toNat a0.size)).bind fun bt131 => (if 0 ≤ (wrap64 ((ji9) + bt131.2.1)) then (if (wrap64 ((ji9) + bt131.2.1)) ≤ (a0.size : Int) then (if (bt a0 0) = 3 then (entry_Read.j0 k a0 (a0.extract ((wrap64 ((ji9) + bt131.2.1)) : Int).toNat a0.size) (decide (((a0.extract ((wrap64 ((ji9) + bt131.2.1)) : Int).toNat a0.size).size : Int) > 8)) t128 bt131.1 (bt a0 0) 0 0 0 0 0 0 0 0 0 (⟨#[]⟩ : ByteArray)) else (entry_Read.j0 k a0 (a0.extract ((wrap64 ((ji9) + bt131.2.1)) : Int).toNat a0.size) false t128 bt131.1 (bt a0 0) 0 0 0 0 0 0 0 0 0 (⟨#[]⟩ : ByteArray))) else (none)) else (none))) else (none)) else (none)) = some (r1, r2, r3, r4, r5, r6, r7, r8, r9, r10, r11, r12, r13, r14) := by first | (rw [hji9] at H; exact H) | (simp only [hji9] at H ⊢; exact H)
    (try rw [hji9] at A8)
    have hji9w : (IntKind.i64.wrap (1 + t129)) = ji9 := (i64_w _).trans hji9
    by_cases c10 : 0 ≤ (ji9)
    ·rw [if_pos c10] at H
     have c10b0 := eq_true c10
     have c10b1 : decide (0 ≤ (ji9)) = true := decide_eq_true c10
     clear c10
     by_cases c11 : (ji9) ≤ (a0.size : Int)
     ·rw [if_pos c11] at H
      have c11b0 := eq_true c11
      have c11b1 : decide ((ji9) ≤ (a0.size : Int)) = true := decide_eq_true c11
      clear c11
      replace H := Option.bind_eq_some_iff.mp H
      obtain ⟨⟨t131, t132, t133⟩, A120, H⟩ := H
      replace H : (if 0 ≤ (wrap64 ((ji9) + t132)) then (if (wrap64 ((ji9) + t132)) ≤ (a0.size : Int) then (if (bt a0 0) = 3 then (entry_Read.j0 k a0 (a0.extract ((wrap64 ((ji9) + t132)) : Int).toNat a0.size) (decide (((a0.extract ((wrap64 ((ji9) + t132)) : Int).toNat a0.size).size : Int) > 8)) t128 t131 (bt a0 0) 0 0 0 0 0 0 0 0 0 (⟨#[]⟩ : ByteArray)) else (entry_Read.j0 k a0 (a0.extract ((wrap64 ((ji9) + t132)) : Int).toNat a0.size) false t128 t131 (bt a0 0) 0 0 0 0 0 0 0 0 0 (⟨#[]⟩ : ByteArray))) else (none)) else (none)) = some (r1, r2, r3, r4, r5, r6, r7, r8, r9, r10, r11, r12, r13, r14) := H
      have A12 := Aside0.mk A120
      clear A120
      obtain ⟨ji13, hji13⟩ : ∃ j_ : Int, (wrap64 ((ji9) + t132)) = j_ := ⟨_, rfl⟩
      replace H : (if 0 ≤ (ji13) then (if (ji13) ≤ (a0.size : Int) then (if (bt a0 0) = 3 then (entry_Read.j0 k a0 (a0.extract ((ji13) : Int).toNat a0.size) (decide (((a0.extract ((ji13) : Int).toNat a0.size).size : Int) > 8)) t128 t131 (bt a0 0) 0 0 0 0 0 0 0 0 0 (⟨#[]⟩ : ByteArray)) else (entry_Read.j0 k a0 (a0.extract ((ji13) : Int).toNat a0.size) false t128 t131 (bt a0 0) 0 0 0 0 0 0 0 0 0 (⟨#[]⟩ : ByteArray))) else (none)) else (none)) = some (r1, r2, r3, r4, r5, r6, r7, r8, r9, r10, r11, r12, r13, r14) := by first | (rw [hji13] at H; exact H) | (simp only [hji13] at H ⊢; exact H)
      (try rw [hji13] at A8)
      (try rw [hji13] at A12)
      have hji13w : (IntKind.i64.wrap ((ji9) + t132)) = ji13 := (i64_w _).trans hji13
      by_cases c14 : 0 ≤ (ji13)
      ·rw [if_pos c14] at H
       have c14b0 := eq_true c14
       have c14b1 : decide (0 ≤ (ji13)) = true := decide_eq_true c14
       clear c14
       by_cases c15 : (ji13) ≤ (a0.size : Int)
       ·rw [if_pos c15] at H
        have c15b0 := eq_true c15
        have c15b1 : decide ((ji13) ≤ (a0.size : Int)) = true := decide_eq_true c15
        clear c15
        have HC16 := Aside0.mk H
        clear H
        go_enter Try.func11, Try.ntmps11
        go_upto_region 8 with (first | ((with_reducible refine gate_dst (N := 2) rfl ?_); (try (refine gate_guard (by rfl) ?_; dsimp only)); refine box_event ?hg (N := 2) ?hd (cs := #[.int .u64 0, .int .u64 0, .int .u8 0, .int .u8 0, .int .u8 0, .int .u8 0, .int .u8 0, .int .u8 0, .int .u8 0, .int .u8 0, .int .u8 0, .int .u8 0, .string (⟨#[]⟩ : ByteArray)]) (t := 27) ?hr ?_; (case hd => rfl); (case hg => rfl); (case hr => first | (go_simp; done) | (go_simp; rfl)); intro gb126 hg w17 hbox hb; have n0_ := Aside0.mk (below_step (by repeat (first | (with_reducible first | exact HB.out | apply below_alloc | apply pw_below_drewN | apply below_drew1) | exact HB.out)) hb); have n1_ := Aside0.mk (hbox); have n2_ := Aside0.mk ((by rw [hg]; exact (below_size (by repeat (first | (with_reducible first | exact HB.out | apply below_alloc | apply pw_below_drewN | apply below_drew1) | exact HB.out))) : w.heap.size ≤ gb126)); have n3_ := Aside0.mk ((by rw [hg]; exact (below_size (by repeat (first | (with_reducible first | exact HB.out | apply below_alloc | apply pw_below_drewN | apply below_drew1) | exact HB.out))) : w.heap.size ≤ gb126)); clear HB; have HB := n0_; have BK126 := n1_; have GW126 := n2_; have GE126 := n3_; clear n0_ n1_ n2_ n3_; clear hb hbox hg; have p6 : 0 ≤ (0 : Int) := (by omega); have q6 : 0 < a0.size := (by have : (0 : Int) < (a0.size : Int) := of_decide_eq_true (by first | (with_reducible assumption) | assumption); omega); have hx6 : ∀ h : 0 < a0.size, ((a0[0]'h).toNat : Int) = bt a0 0 := bt_at a0 0; clear p6; have qi6 : (0 < (a0.size : Int)) = True := eq_true (of_decide_eq_true (by first | (with_reducible assumption) | assumption)); replace q6 := eq_true q6) | ((with_reducible refine gate_dst (N := 4) rfl ?_); (try (refine gate_guard (by rfl) ?_; dsimp only)); refine box_event ?hg (N := 4) ?hd (cs := #[.int .u64 0, .int .u64 0, .int .u8 0, .int .u8 0, .int .u8 0, .int .u8 0, .int .u8 0, .int .u8 0, .int .u8 0, .int .u8 0, .int .u8 0, .int .u8 0, .string (⟨#[]⟩ : ByteArray)]) (t := 27) ?hr ?_; (case hd => rfl); (case hg => rfl); (case hr => first | (go_simp; done) | (go_simp; rfl)); intro gb127 hg w18 hbox hb; have n0_ := Aside0.mk (blk_below (g := gb126) (o := .cells #[.int .u64 0, .int .u64 0, .int .u8 0, .int .u8 0, .int .u8 0, .int .u8 0, .int .u8 0, .int .u8 0, .int .u8 0, .int .u8 0, .int .u8 0, .int .u8 0, .string (⟨#[]⟩ : ByteArray)] 27 (0, 0)) (by (with_reducible repeat (first | refine blk_drewN ?_ _ | refine blk_drew ?_ | refine blk_alloc ?_ _)); exact BK126.out) hb); have n1_ := Aside0.mk (below_step (by repeat (first | (with_reducible first | exact HB.out | apply below_alloc | apply pw_below_drewN | apply below_drew1 | refine below_set ?_ GE126.out) | exact HB.out)) hb); have n2_ := Aside0.mk (hbox); have n3_ := Aside0.mk ((by rw [hg]; exact (below_size (by repeat (first | (with_reducible first | exact HB.out | apply below_alloc | apply pw_below_drewN | apply below_drew1 | refine below_set ?_ GE126.out) | exact HB.out))) : w.heap.size ≤ gb127)); have n4_ := Aside0.mk ((by rw [hg]; exact (below_size (by repeat (first | (with_reducible first | exact HB.out | apply below_alloc | apply pw_below_drewN | apply below_drew1 | refine below_set ?_ GE126.out) | exact HB.out))) : w.heap.size ≤ gb127)); have n5_ := Aside0.mk ((by rw [hg]; exact Nat.ne_of_lt (blk_lt (g := gb126) (o := .cells #[.int .u64 0, .int .u64 0, .int .u8 0, .int .u8 0, .int .u8 0, .int .u8 0, .int .u8 0, .int .u8 0, .int .u8 0, .int .u8 0, .int .u8 0, .int .u8 0, .string (⟨#[]⟩ : ByteArray)] 27 (0, 0)) (by (with_reducible repeat (first | refine blk_drewN ?_ _ | refine blk_drew ?_ | refine blk_alloc ?_ _)); exact BK126.out)) : gb126 ≠ gb127)); have n6_ := Aside0.mk ((by rw [hg]; exact Nat.ne_of_gt (blk_lt (g := gb126) (o := .cells #[.int .u64 0, .int .u64 0, .int .u8 0, .int .u8 0, .int .u8 0, .int .u8 0, .int .u8 0, .int .u8 0, .int .u8 0, .int .u8 0, .int .u8 0, .int .u8 0, .string (⟨#[]⟩ : ByteArray)] 27 (0, 0)) (by (with_reducible repeat (first | refine blk_drewN ?_ _ | refine blk_drew ?_ | refine blk_alloc ?_ _)); exact BK126.out)) : gb127 ≠ gb126)); clear BK126; clear HB; have BK126 := n0_; have HB := n1_; have BK127 := n2_; have GW127 := n3_; have GE127 := n4_; have NB126_127 := n5_; have NB127_126 := n6_; clear n0_ n1_ n2_ n3_ n4_ n5_ n6_; clear hb hbox hg; have hnb19 := NB127_126.out; have hnc19 := NB126_127.out; have hcz20_0 : w18.cell? ⟨gb127, 0, none⟩ = some (.int .u64 0) := (blk_cell BK127.out 0).trans rfl; have hcz20_1 : w18.cell? ⟨gb127, 1, none⟩ = some (.int .u64 0) := (blk_cell BK127.out 1).trans rfl; have hcz20_2 : w18.cell? ⟨gb127, 2, none⟩ = some (.int .u8 0) := (blk_cell BK127.out 2).trans rfl; have hcz20_3 : w18.cell? ⟨gb127, 3, none⟩ = some (.int .u8 0) := (blk_cell BK127.out 3).trans rfl; have hcz20_4 : w18.cell? ⟨gb127, 4, none⟩ = some (.int .u8 0) := (blk_cell BK127.out 4).trans rfl; have hcz20_5 : w18.cell? ⟨gb127, 5, none⟩ = some (.int .u8 0) := (blk_cell BK127.out 5).trans rfl; have hcz20_6 : w18.cell? ⟨gb127, 6, none⟩ = some (.int .u8 0) := (blk_cell BK127.out 6).trans rfl; have hcz20_7 : w18.cell? ⟨gb127, 7, none⟩ = some (.int .u8 0) := (blk_cell BK127.out 7).trans rfl; have hcz20_8 : w18.cell? ⟨gb127, 8, none⟩ = some (.int .u8 0) := (blk_cell BK127.out 8).trans rfl; have hcz20_9 : w18.cell? ⟨gb127, 9, none⟩ = some (.int .u8 0) := (blk_cell BK127.out 9).trans rfl; have hcz20_10 : w18.cell? ⟨gb127, 10, none⟩ = some (.int .u8 0) := (blk_cell BK127.out 10).trans rfl; have hcz20_11 : w18.cell? ⟨gb127, 11, none⟩ = some (.int .u8 0) := (blk_cell BK127.out 11).trans rfl; have hcz20_12 : w18.cell? ⟨gb127, 12, none⟩ = some (.string (⟨#[]⟩ : ByteArray)) := (blk_cell BK127.out 12).trans rfl; have hfz20_0 := blk_frozen BK127.out 0; have hfz20_1 := blk_frozen BK127.out 1; have hfz20_2 := blk_frozen BK127.out 2; have hfz20_3 := blk_frozen BK127.out 3; have hfz20_4 := blk_frozen BK127.out 4; have hfz20_5 := blk_frozen BK127.out 5; have hfz20_6 := blk_frozen BK127.out 6; have hfz20_7 := blk_frozen BK127.out 7; have hfz20_8 := blk_frozen BK127.out 8; have hfz20_9 := blk_frozen BK127.out 9; have hfz20_10 := blk_frozen BK127.out 10; have hfz20_11 := blk_frozen BK127.out 11; have hfz20_12 := blk_frozen BK127.out 12) | ((with_reducible refine gate_callee (f := 22) rfl ?_); refine goesL_ (some 21) rfl rfl Try.func22 (by kernel_rfl) rfl #[.string (a0.extract 1 a0.size)] rfl (by (try simp only [List.map_toArray, List.map_cons, List.map_nil]); first | done | rfl | (simp only [List.length_drop, List.length_take]; rfl)) ?_; (with_reducible refine (num_ReadV.calls k (a0.extract 1 a0.size) t128 t129 t130 _ A8.out).mono ?_); rintro e w' ⟨rfl, ⟨nd, rfl⟩⟩; refine ⟨_, rfl, ?_⟩) | ((with_reducible refine gate_callee (f := 22) rfl ?_); refine goesL_ (some 30) rfl rfl Try.func22 (by kernel_rfl) rfl #[.string (a0.extract ((ji9) : Int).toNat a0.size)] rfl (by (try simp only [List.map_toArray, List.map_cons, List.map_nil]); first | done | (simp only [hji9]; rfl) | rfl | (simp only [List.length_drop, List.length_take]; rfl)) ?_; (with_reducible refine (num_ReadV.calls k (a0.extract ((ji9) : Int).toNat a0.size) t131 t132 t133 _ A12.out).mono ?_); rintro e w' ⟨rfl, ⟨nd, rfl⟩⟩; refine ⟨_, rfl, ?_⟩))
        (try simp only [Act.put, zA7_, zB7_, zC7_])
        go_cut [51] (fun v51 wc => ∃ (kq : Nat) (x51_15 : Bool), v51 = .bool x51_15 ∧ Aside0 (entry_Read.j0 kq a0 (a0.extract ((ji13) : Int).toNat a0.size) x51_15 t128 t131 (bt a0 0) 0 0 0 0 0 0 0 0 0 (⟨#[]⟩ : ByteArray) = some (r1, r2, r3, r4, r5, r6, r7, r8, r9, r10, r11, r12, r13, r14)) ∧ Aside0 (kq ≤ k) ∧ Aside0 (wc.heap[gb126]? = some (.cells #[.int .u64 0, .int .u64 0, .int .u8 0, .int .u8 0, .int .u8 0, .int .u8 0, .int .u8 0, .int .u8 0, .int .u8 0, .int .u8 0, .int .u8 0, .int .u8 0, .string (⟨#[]⟩ : ByteArray)] 27 (0, 0))) ∧ Aside0 (wc.heap[gb127]? = some (.cells #[.int .u64 t128, .int .u64 t131, .int .u8 (bt a0 0), .int .u8 0, .int .u8 0, .int .u8 0, .int .u8 0, .int .u8 0, .int .u8 0, .int .u8 0, .int .u8 0, .int .u8 0, .string (⟨#[]⟩ : ByteArray)] 27 (0, 0))) ∧ Aside0 (Below w.heap.size w wc))
        case first =>
         have H := HC16.out
         clear HC16
         by_cases c21 : (bt a0 0) = 3
         ·rw [if_pos c21] at H
          have c21b0 : ((bt a0 0) == 3) = true := beq_iff_eq.mpr c21
          have c21b1 : ((bt a0 0) != 3) = false := bne_eq_false_iff_eq.mpr c21
          clear c21
          (first | rw [c21b0] | (simp only [i64_w, i32_w]; rw [c21b0]) | skip)
          have H' := Aside0.mk H
          clear H
          have hnb22 := NB127_126.out
          have hnc22 := NB126_127.out
          have hcz23_0 : w18.cell? ⟨gb127, 0, none⟩ = some (.int .u64 0) := (blk_cell BK127.out 0).trans rfl
          have hcz23_1 : w18.cell? ⟨gb127, 1, none⟩ = some (.int .u64 0) := (blk_cell BK127.out 1).trans rfl
          have hcz23_2 : w18.cell? ⟨gb127, 2, none⟩ = some (.int .u8 0) := (blk_cell BK127.out 2).trans rfl
          have hcz23_3 : w18.cell? ⟨gb127, 3, none⟩ = some (.int .u8 0) := (blk_cell BK127.out 3).trans rfl
          have hcz23_4 : w18.cell? ⟨gb127, 4, none⟩ = some (.int .u8 0) := (blk_cell BK127.out 4).trans rfl
          have hcz23_5 : w18.cell? ⟨gb127, 5, none⟩ = some (.int .u8 0) := (blk_cell BK127.out 5).trans rfl
          have hcz23_6 : w18.cell? ⟨gb127, 6, none⟩ = some (.int .u8 0) := (blk_cell BK127.out 6).trans rfl
          have hcz23_7 : w18.cell? ⟨gb127, 7, none⟩ = some (.int .u8 0) := (blk_cell BK127.out 7).trans rfl
          have hcz23_8 : w18.cell? ⟨gb127, 8, none⟩ = some (.int .u8 0) := (blk_cell BK127.out 8).trans rfl
          have hcz23_9 : w18.cell? ⟨gb127, 9, none⟩ = some (.int .u8 0) := (blk_cell BK127.out 9).trans rfl
          have hcz23_10 : w18.cell? ⟨gb127, 10, none⟩ = some (.int .u8 0) := (blk_cell BK127.out 10).trans rfl
          have hcz23_11 : w18.cell? ⟨gb127, 11, none⟩ = some (.int .u8 0) := (blk_cell BK127.out 11).trans rfl
          have hcz23_12 : w18.cell? ⟨gb127, 12, none⟩ = some (.string (⟨#[]⟩ : ByteArray)) := (blk_cell BK127.out 12).trans rfl
          have hfz23_0 := blk_frozen BK127.out 0
          have hfz23_1 := blk_frozen BK127.out 1
          have hfz23_2 := blk_frozen BK127.out 2
          have hfz23_3 := blk_frozen BK127.out 3
          have hfz23_4 := blk_frozen BK127.out 4
          have hfz23_5 := blk_frozen BK127.out 5
          have hfz23_6 := blk_frozen BK127.out 6
          have hfz23_7 := blk_frozen BK127.out 7
          have hfz23_8 := blk_frozen BK127.out 8
          have hfz23_9 := blk_frozen BK127.out 9
          have hfz23_10 := blk_frozen BK127.out 10
          have hfz23_11 := blk_frozen BK127.out 11
          have hfz23_12 := blk_frozen BK127.out 12
          go_wp2
          go_meet
          case rel => exact ⟨_, (decide (((a0.extract ((ji13) : Int).toNat a0.size).size : Int) > 8)), (by first | (with_reducible rfl) | (simp; done) | (simp only [← hji13] <;> (first | rfl | simp)) | (simp [*]; done) | (refine congrArg (Value.int _) ?_; unfold wrap64; omega) | rfl), H', ⟨by first | omega | exact Nat.le_refl _⟩, ⟨by (with_reducible repeat (first | refine blk_drewN ?_ _ | refine blk_drew ?_ | refine blk_alloc ?_ _)); refine blk_far ?_ NB126_127.out _; (with_reducible repeat (first | refine blk_drewN ?_ _ | refine blk_drew ?_ | refine blk_alloc ?_ _)); refine blk_far ?_ NB126_127.out _; (with_reducible repeat (first | refine blk_drewN ?_ _ | refine blk_drew ?_ | refine blk_alloc ?_ _)); refine blk_far ?_ NB126_127.out _; (with_reducible repeat (first | refine blk_drewN ?_ _ | refine blk_drew ?_ | refine blk_alloc ?_ _)); refine blk_far ?_ NB126_127.out _; (with_reducible repeat (first | refine blk_drewN ?_ _ | refine blk_drew ?_ | refine blk_alloc ?_ _)); refine blk_far ?_ NB126_127.out _; (with_reducible repeat (first | refine blk_drewN ?_ _ | refine blk_drew ?_ | refine blk_alloc ?_ _)); refine blk_far ?_ NB126_127.out _; (with_reducible repeat (first | refine blk_drewN ?_ _ | refine blk_drew ?_ | refine blk_alloc ?_ _)); refine blk_far ?_ NB126_127.out _; (with_reducible repeat (first | refine blk_drewN ?_ _ | refine blk_drew ?_ | refine blk_alloc ?_ _)); refine blk_far ?_ NB126_127.out _; (with_reducible repeat (first | refine blk_drewN ?_ _ | refine blk_drew ?_ | refine blk_alloc ?_ _)); refine blk_far ?_ NB126_127.out _; (with_reducible repeat (first | refine blk_drewN ?_ _ | refine blk_drew ?_ | refine blk_alloc ?_ _)); refine blk_far ?_ NB126_127.out _; (with_reducible repeat (first | refine blk_drewN ?_ _ | refine blk_drew ?_ | refine blk_alloc ?_ _)); refine blk_far ?_ NB126_127.out _; (with_reducible repeat (first | refine blk_drewN ?_ _ | refine blk_drew ?_ | refine blk_alloc ?_ _)); refine blk_far ?_ NB126_127.out _; (with_reducible repeat (first | refine blk_drewN ?_ _ | refine blk_drew ?_ | refine blk_alloc ?_ _)); refine blk_far ?_ NB126_127.out _; (with_reducible repeat (first | refine blk_drewN ?_ _ | refine blk_drew ?_ | refine blk_alloc ?_ _)); refine blk_far ?_ NB126_127.out _; (with_reducible repeat (first | refine blk_drewN ?_ _ | refine blk_drew ?_ | refine blk_alloc ?_ _)); refine blk_far ?_ NB126_127.out _; (with_reducible repeat (first | refine blk_drewN ?_ _ | refine blk_drew ?_ | refine blk_alloc ?_ _)); exact BK126.out⟩, ⟨by (with_reducible repeat (first | refine blk_drewN ?_ _ | refine blk_drew ?_ | refine blk_alloc ?_ _)); refine blk_put (cs := #[.int .u64 t128, .int .u64 0, .int .u8 (bt a0 0), .int .u8 0, .int .u8 0, .int .u8 0, .int .u8 0, .int .u8 0, .int .u8 0, .int .u8 0, .int .u8 0, .int .u8 0, .string (⟨#[]⟩ : ByteArray)]) ?_ 1 _ rfl; (with_reducible repeat (first | refine blk_drewN ?_ _ | refine blk_drew ?_ | refine blk_alloc ?_ _)); refine blk_put (cs := #[.int .u64 0, .int .u64 0, .int .u8 (bt a0 0), .int .u8 0, .int .u8 0, .int .u8 0, .int .u8 0, .int .u8 0, .int .u8 0, .int .u8 0, .int .u8 0, .int .u8 0, .string (⟨#[]⟩ : ByteArray)]) ?_ 0 _ rfl; (with_reducible repeat (first | refine blk_drewN ?_ _ | refine blk_drew ?_ | refine blk_alloc ?_ _)); refine blk_put (cs := #[.int .u64 0, .int .u64 0, .int .u8 (bt a0 0), .int .u8 0, .int .u8 0, .int .u8 0, .int .u8 0, .int .u8 0, .int .u8 0, .int .u8 0, .int .u8 0, .int .u8 0, .string (⟨#[]⟩ : ByteArray)]) ?_ 12 _ rfl; (with_reducible repeat (first | refine blk_drewN ?_ _ | refine blk_drew ?_ | refine blk_alloc ?_ _)); refine blk_put (cs := #[.int .u64 0, .int .u64 0, .int .u8 (bt a0 0), .int .u8 0, .int .u8 0, .int .u8 0, .int .u8 0, .int .u8 0, .int .u8 0, .int .u8 0, .int .u8 0, .int .u8 0, .string (⟨#[]⟩ : ByteArray)]) ?_ 11 _ rfl; (with_reducible repeat (first | refine blk_drewN ?_ _ | refine blk_drew ?_ | refine blk_alloc ?_ _)); refine blk_put (cs := #[.int .u64 0, .int .u64 0, .int .u8 (bt a0 0), .int .u8 0, .int .u8 0, .int .u8 0, .int .u8 0, .int .u8 0, .int .u8 0, .int .u8 0, .int .u8 0, .int .u8 0, .string (⟨#[]⟩ : ByteArray)]) ?_ 10 _ rfl; (with_reducible repeat (first | refine blk_drewN ?_ _ | refine blk_drew ?_ | refine blk_alloc ?_ _)); refine blk_put (cs := #[.int .u64 0, .int .u64 0, .int .u8 (bt a0 0), .int .u8 0, .int .u8 0, .int .u8 0, .int .u8 0, .int .u8 0, .int .u8 0, .int .u8 0, .int .u8 0, .int .u8 0, .string (⟨#[]⟩ : ByteArray)]) ?_ 9 _ rfl; (with_reducible repeat (first | refine blk_drewN ?_ _ | refine blk_drew ?_ | refine blk_alloc ?_ _)); refine blk_put (cs := #[.int .u64 0, .int .u64 0, .int .u8 (bt a0 0), .int .u8 0, .int .u8 0, .int .u8 0, .int .u8 0, .int .u8 0, .int .u8 0, .int .u8 0, .int .u8 0, .int .u8 0, .string (⟨#[]⟩ : ByteArray)]) ?_ 8 _ rfl; (with_reducible repeat (first | refine blk_drewN ?_ _ | refine blk_drew ?_ | refine blk_alloc ?_ _)); refine blk_put (cs := #[.int .u64 0, .int .u64 0, .int .u8 (bt a0 0), .int .u8 0, .int .u8 0, .int .u8 0, .int .u8 0, .int .u8 0, .int .u8 0, .int .u8 0, .int .u8 0, .int .u8 0, .string (⟨#[]⟩ : ByteArray)]) ?_ 7 _ rfl; (with_reducible repeat (first | refine blk_drewN ?_ _ | refine blk_drew ?_ | refine blk_alloc ?_ _)); refine blk_put (cs := #[.int .u64 0, .int .u64 0, .int .u8 (bt a0 0), .int .u8 0, .int .u8 0, .int .u8 0, .int .u8 0, .int .u8 0, .int .u8 0, .int .u8 0, .int .u8 0, .int .u8 0, .string (⟨#[]⟩ : ByteArray)]) ?_ 6 _ rfl; (with_reducible repeat (first | refine blk_drewN ?_ _ | refine blk_drew ?_ | refine blk_alloc ?_ _)); refine blk_put (cs := #[.int .u64 0, .int .u64 0, .int .u8 (bt a0 0), .int .u8 0, .int .u8 0, .int .u8 0, .int .u8 0, .int .u8 0, .int .u8 0, .int .u8 0, .int .u8 0, .int .u8 0, .string (⟨#[]⟩ : ByteArray)]) ?_ 5 _ rfl; (with_reducible repeat (first | refine blk_drewN ?_ _ | refine blk_drew ?_ | refine blk_alloc ?_ _)); refine blk_put (cs := #[.int .u64 0, .int .u64 0, .int .u8 (bt a0 0), .int .u8 0, .int .u8 0, .int .u8 0, .int .u8 0, .int .u8 0, .int .u8 0, .int .u8 0, .int .u8 0, .int .u8 0, .string (⟨#[]⟩ : ByteArray)]) ?_ 4 _ rfl; (with_reducible repeat (first | refine blk_drewN ?_ _ | refine blk_drew ?_ | refine blk_alloc ?_ _)); refine blk_put (cs := #[.int .u64 0, .int .u64 0, .int .u8 (bt a0 0), .int .u8 0, .int .u8 0, .int .u8 0, .int .u8 0, .int .u8 0, .int .u8 0, .int .u8 0, .int .u8 0, .int .u8 0, .string (⟨#[]⟩ : ByteArray)]) ?_ 3 _ rfl; (with_reducible repeat (first | refine blk_drewN ?_ _ | refine blk_drew ?_ | refine blk_alloc ?_ _)); refine blk_put (cs := #[.int .u64 0, .int .u64 0, .int .u8 0, .int .u8 0, .int .u8 0, .int .u8 0, .int .u8 0, .int .u8 0, .int .u8 0, .int .u8 0, .int .u8 0, .int .u8 0, .string (⟨#[]⟩ : ByteArray)]) ?_ 2 _ rfl; (with_reducible repeat (first | refine blk_drewN ?_ _ | refine blk_drew ?_ | refine blk_alloc ?_ _)); refine blk_put (cs := #[.int .u64 0, .int .u64 0, .int .u8 0, .int .u8 0, .int .u8 0, .int .u8 0, .int .u8 0, .int .u8 0, .int .u8 0, .int .u8 0, .int .u8 0, .int .u8 0, .string (⟨#[]⟩ : ByteArray)]) ?_ 1 _ rfl; (with_reducible repeat (first | refine blk_drewN ?_ _ | refine blk_drew ?_ | refine blk_alloc ?_ _)); refine blk_put (cs := #[.int .u64 0, .int .u64 0, .int .u8 0, .int .u8 0, .int .u8 0, .int .u8 0, .int .u8 0, .int .u8 0, .int .u8 0, .int .u8 0, .int .u8 0, .int .u8 0, .string (⟨#[]⟩ : ByteArray)]) ?_ 0 _ rfl; (with_reducible repeat (first | refine blk_drewN ?_ _ | refine blk_drew ?_ | refine blk_alloc ?_ _)); exact BK127.out⟩, ⟨by repeat (first | (with_reducible first | exact HB.out | apply below_alloc | apply pw_below_drewN | apply below_drew1 | refine below_set ?_ GE126.out | refine below_set ?_ GE127.out) | exact HB.out)⟩⟩
         ·rw [if_neg c21] at H
          have c21b0 : ((bt a0 0) == 3) = false := beq_eq_false_iff_ne.mpr c21
          have c21b1 : ((bt a0 0) != 3) = true := bne_iff_ne.mpr c21
          (first | rw [c21b0] | (simp only [i64_w, i32_w]; rw [c21b0]) | skip)
          have H' := Aside0.mk H
          clear H
          have hnb24 := NB127_126.out
          have hnc24 := NB126_127.out
          have hcz25_0 : w18.cell? ⟨gb127, 0, none⟩ = some (.int .u64 0) := (blk_cell BK127.out 0).trans rfl
          have hcz25_1 : w18.cell? ⟨gb127, 1, none⟩ = some (.int .u64 0) := (blk_cell BK127.out 1).trans rfl
          have hcz25_2 : w18.cell? ⟨gb127, 2, none⟩ = some (.int .u8 0) := (blk_cell BK127.out 2).trans rfl
          have hcz25_3 : w18.cell? ⟨gb127, 3, none⟩ = some (.int .u8 0) := (blk_cell BK127.out 3).trans rfl
          have hcz25_4 : w18.cell? ⟨gb127, 4, none⟩ = some (.int .u8 0) := (blk_cell BK127.out 4).trans rfl
          have hcz25_5 : w18.cell? ⟨gb127, 5, none⟩ = some (.int .u8 0) := (blk_cell BK127.out 5).trans rfl
          have hcz25_6 : w18.cell? ⟨gb127, 6, none⟩ = some (.int .u8 0) := (blk_cell BK127.out 6).trans rfl
          have hcz25_7 : w18.cell? ⟨gb127, 7, none⟩ = some (.int .u8 0) := (blk_cell BK127.out 7).trans rfl
          have hcz25_8 : w18.cell? ⟨gb127, 8, none⟩ = some (.int .u8 0) := (blk_cell BK127.out 8).trans rfl
          have hcz25_9 : w18.cell? ⟨gb127, 9, none⟩ = some (.int .u8 0) := (blk_cell BK127.out 9).trans rfl
          have hcz25_10 : w18.cell? ⟨gb127, 10, none⟩ = some (.int .u8 0) := (blk_cell BK127.out 10).trans rfl
          have hcz25_11 : w18.cell? ⟨gb127, 11, none⟩ = some (.int .u8 0) := (blk_cell BK127.out 11).trans rfl
          have hcz25_12 : w18.cell? ⟨gb127, 12, none⟩ = some (.string (⟨#[]⟩ : ByteArray)) := (blk_cell BK127.out 12).trans rfl
          have hfz25_0 := blk_frozen BK127.out 0
          have hfz25_1 := blk_frozen BK127.out 1
          have hfz25_2 := blk_frozen BK127.out 2
          have hfz25_3 := blk_frozen BK127.out 3
          have hfz25_4 := blk_frozen BK127.out 4
          have hfz25_5 := blk_frozen BK127.out 5
          have hfz25_6 := blk_frozen BK127.out 6
          have hfz25_7 := blk_frozen BK127.out 7
          have hfz25_8 := blk_frozen BK127.out 8
          have hfz25_9 := blk_frozen BK127.out 9
          have hfz25_10 := blk_frozen BK127.out 10
          have hfz25_11 := blk_frozen BK127.out 11
          have hfz25_12 := blk_frozen BK127.out 12
          go_wp2
          go_meet
          case rel => exact ⟨_, (false), (by first | (with_reducible rfl) | (simp; done) | (simp [*]; done) | (refine congrArg (Value.int _) ?_; unfold wrap64; omega) | rfl), H', ⟨by first | omega | exact Nat.le_refl _⟩, ⟨by (with_reducible repeat (first | refine blk_drewN ?_ _ | refine blk_drew ?_ | refine blk_alloc ?_ _)); refine blk_far ?_ NB126_127.out _; (with_reducible repeat (first | refine blk_drewN ?_ _ | refine blk_drew ?_ | refine blk_alloc ?_ _)); refine blk_far ?_ NB126_127.out _; (with_reducible repeat (first | refine blk_drewN ?_ _ | refine blk_drew ?_ | refine blk_alloc ?_ _)); refine blk_far ?_ NB126_127.out _; (with_reducible repeat (first | refine blk_drewN ?_ _ | refine blk_drew ?_ | refine blk_alloc ?_ _)); refine blk_far ?_ NB126_127.out _; (with_reducible repeat (first | refine blk_drewN ?_ _ | refine blk_drew ?_ | refine blk_alloc ?_ _)); refine blk_far ?_ NB126_127.out _; (with_reducible repeat (first | refine blk_drewN ?_ _ | refine blk_drew ?_ | refine blk_alloc ?_ _)); refine blk_far ?_ NB126_127.out _; (with_reducible repeat (first | refine blk_drewN ?_ _ | refine blk_drew ?_ | refine blk_alloc ?_ _)); refine blk_far ?_ NB126_127.out _; (with_reducible repeat (first | refine blk_drewN ?_ _ | refine blk_drew ?_ | refine blk_alloc ?_ _)); refine blk_far ?_ NB126_127.out _; (with_reducible repeat (first | refine blk_drewN ?_ _ | refine blk_drew ?_ | refine blk_alloc ?_ _)); refine blk_far ?_ NB126_127.out _; (with_reducible repeat (first | refine blk_drewN ?_ _ | refine blk_drew ?_ | refine blk_alloc ?_ _)); refine blk_far ?_ NB126_127.out _; (with_reducible repeat (first | refine blk_drewN ?_ _ | refine blk_drew ?_ | refine blk_alloc ?_ _)); refine blk_far ?_ NB126_127.out _; (with_reducible repeat (first | refine blk_drewN ?_ _ | refine blk_drew ?_ | refine blk_alloc ?_ _)); refine blk_far ?_ NB126_127.out _; (with_reducible repeat (first | refine blk_drewN ?_ _ | refine blk_drew ?_ | refine blk_alloc ?_ _)); refine blk_far ?_ NB126_127.out _; (with_reducible repeat (first | refine blk_drewN ?_ _ | refine blk_drew ?_ | refine blk_alloc ?_ _)); refine blk_far ?_ NB126_127.out _; (with_reducible repeat (first | refine blk_drewN ?_ _ | refine blk_drew ?_ | refine blk_alloc ?_ _)); refine blk_far ?_ NB126_127.out _; (with_reducible repeat (first | refine blk_drewN ?_ _ | refine blk_drew ?_ | refine blk_alloc ?_ _)); exact BK126.out⟩, ⟨by (with_reducible repeat (first | refine blk_drewN ?_ _ | refine blk_drew ?_ | refine blk_alloc ?_ _)); refine blk_put (cs := #[.int .u64 t128, .int .u64 0, .int .u8 (bt a0 0), .int .u8 0, .int .u8 0, .int .u8 0, .int .u8 0, .int .u8 0, .int .u8 0, .int .u8 0, .int .u8 0, .int .u8 0, .string (⟨#[]⟩ : ByteArray)]) ?_ 1 _ rfl; (with_reducible repeat (first | refine blk_drewN ?_ _ | refine blk_drew ?_ | refine blk_alloc ?_ _)); refine blk_put (cs := #[.int .u64 0, .int .u64 0, .int .u8 (bt a0 0), .int .u8 0, .int .u8 0, .int .u8 0, .int .u8 0, .int .u8 0, .int .u8 0, .int .u8 0, .int .u8 0, .int .u8 0, .string (⟨#[]⟩ : ByteArray)]) ?_ 0 _ rfl; (with_reducible repeat (first | refine blk_drewN ?_ _ | refine blk_drew ?_ | refine blk_alloc ?_ _)); refine blk_put (cs := #[.int .u64 0, .int .u64 0, .int .u8 (bt a0 0), .int .u8 0, .int .u8 0, .int .u8 0, .int .u8 0, .int .u8 0, .int .u8 0, .int .u8 0, .int .u8 0, .int .u8 0, .string (⟨#[]⟩ : ByteArray)]) ?_ 12 _ rfl; (with_reducible repeat (first | refine blk_drewN ?_ _ | refine blk_drew ?_ | refine blk_alloc ?_ _)); refine blk_put (cs := #[.int .u64 0, .int .u64 0, .int .u8 (bt a0 0), .int .u8 0, .int .u8 0, .int .u8 0, .int .u8 0, .int .u8 0, .int .u8 0, .int .u8 0, .int .u8 0, .int .u8 0, .string (⟨#[]⟩ : ByteArray)]) ?_ 11 _ rfl; (with_reducible repeat (first | refine blk_drewN ?_ _ | refine blk_drew ?_ | refine blk_alloc ?_ _)); refine blk_put (cs := #[.int .u64 0, .int .u64 0, .int .u8 (bt a0 0), .int .u8 0, .int .u8 0, .int .u8 0, .int .u8 0, .int .u8 0, .int .u8 0, .int .u8 0, .int .u8 0, .int .u8 0, .string (⟨#[]⟩ : ByteArray)]) ?_ 10 _ rfl; (with_reducible repeat (first | refine blk_drewN ?_ _ | refine blk_drew ?_ | refine blk_alloc ?_ _)); refine blk_put (cs := #[.int .u64 0, .int .u64 0, .int .u8 (bt a0 0), .int .u8 0, .int .u8 0, .int .u8 0, .int .u8 0, .int .u8 0, .int .u8 0, .int .u8 0, .int .u8 0, .int .u8 0, .string (⟨#[]⟩ : ByteArray)]) ?_ 9 _ rfl; (with_reducible repeat (first | refine blk_drewN ?_ _ | refine blk_drew ?_ | refine blk_alloc ?_ _)); refine blk_put (cs := #[.int .u64 0, .int .u64 0, .int .u8 (bt a0 0), .int .u8 0, .int .u8 0, .int .u8 0, .int .u8 0, .int .u8 0, .int .u8 0, .int .u8 0, .int .u8 0, .int .u8 0, .string (⟨#[]⟩ : ByteArray)]) ?_ 8 _ rfl; (with_reducible repeat (first | refine blk_drewN ?_ _ | refine blk_drew ?_ | refine blk_alloc ?_ _)); refine blk_put (cs := #[.int .u64 0, .int .u64 0, .int .u8 (bt a0 0), .int .u8 0, .int .u8 0, .int .u8 0, .int .u8 0, .int .u8 0, .int .u8 0, .int .u8 0, .int .u8 0, .int .u8 0, .string (⟨#[]⟩ : ByteArray)]) ?_ 7 _ rfl; (with_reducible repeat (first | refine blk_drewN ?_ _ | refine blk_drew ?_ | refine blk_alloc ?_ _)); refine blk_put (cs := #[.int .u64 0, .int .u64 0, .int .u8 (bt a0 0), .int .u8 0, .int .u8 0, .int .u8 0, .int .u8 0, .int .u8 0, .int .u8 0, .int .u8 0, .int .u8 0, .int .u8 0, .string (⟨#[]⟩ : ByteArray)]) ?_ 6 _ rfl; (with_reducible repeat (first | refine blk_drewN ?_ _ | refine blk_drew ?_ | refine blk_alloc ?_ _)); refine blk_put (cs := #[.int .u64 0, .int .u64 0, .int .u8 (bt a0 0), .int .u8 0, .int .u8 0, .int .u8 0, .int .u8 0, .int .u8 0, .int .u8 0, .int .u8 0, .int .u8 0, .int .u8 0, .string (⟨#[]⟩ : ByteArray)]) ?_ 5 _ rfl; (with_reducible repeat (first | refine blk_drewN ?_ _ | refine blk_drew ?_ | refine blk_alloc ?_ _)); refine blk_put (cs := #[.int .u64 0, .int .u64 0, .int .u8 (bt a0 0), .int .u8 0, .int .u8 0, .int .u8 0, .int .u8 0, .int .u8 0, .int .u8 0, .int .u8 0, .int .u8 0, .int .u8 0, .string (⟨#[]⟩ : ByteArray)]) ?_ 4 _ rfl; (with_reducible repeat (first | refine blk_drewN ?_ _ | refine blk_drew ?_ | refine blk_alloc ?_ _)); refine blk_put (cs := #[.int .u64 0, .int .u64 0, .int .u8 (bt a0 0), .int .u8 0, .int .u8 0, .int .u8 0, .int .u8 0, .int .u8 0, .int .u8 0, .int .u8 0, .int .u8 0, .int .u8 0, .string (⟨#[]⟩ : ByteArray)]) ?_ 3 _ rfl; (with_reducible repeat (first | refine blk_drewN ?_ _ | refine blk_drew ?_ | refine blk_alloc ?_ _)); refine blk_put (cs := #[.int .u64 0, .int .u64 0, .int .u8 0, .int .u8 0, .int .u8 0, .int .u8 0, .int .u8 0, .int .u8 0, .int .u8 0, .int .u8 0, .int .u8 0, .int .u8 0, .string (⟨#[]⟩ : ByteArray)]) ?_ 2 _ rfl; (with_reducible repeat (first | refine blk_drewN ?_ _ | refine blk_drew ?_ | refine blk_alloc ?_ _)); refine blk_put (cs := #[.int .u64 0, .int .u64 0, .int .u8 0, .int .u8 0, .int .u8 0, .int .u8 0, .int .u8 0, .int .u8 0, .int .u8 0, .int .u8 0, .int .u8 0, .int .u8 0, .string (⟨#[]⟩ : ByteArray)]) ?_ 1 _ rfl; (with_reducible repeat (first | refine blk_drewN ?_ _ | refine blk_drew ?_ | refine blk_alloc ?_ _)); refine blk_put (cs := #[.int .u64 0, .int .u64 0, .int .u8 0, .int .u8 0, .int .u8 0, .int .u8 0, .int .u8 0, .int .u8 0, .int .u8 0, .int .u8 0, .int .u8 0, .int .u8 0, .string (⟨#[]⟩ : ByteArray)]) ?_ 0 _ rfl; (with_reducible repeat (first | refine blk_drewN ?_ _ | refine blk_drew ?_ | refine blk_alloc ?_ _)); exact BK127.out⟩, ⟨by repeat (first | (with_reducible first | exact HB.out | apply below_alloc | apply pw_below_drewN | apply below_drew1 | refine below_set ?_ GE126.out | refine below_set ?_ GE127.out) | exact HB.out)⟩⟩
        case rest =>
         clear HC16
         try clear c1
         try clear c2
         try clear c2b0
         try clear c2b1
         try clear c2b2
         try clear p2
         try clear c5
         try clear c5b0
         try clear c5b1
         try clear p6
         try clear q6
         try clear hx6
         try clear qi6
         try clear c7
         try clear c7b0
         try clear c7b1
         try clear c10
         try clear c10b0
         try clear c10b1
         try clear c11
         try clear c11b0
         try clear c11b1
         try clear c14
         try clear c14b0
         try clear c14b1
         try clear c15
         try clear c15b0
         try clear c15b1
         try clear c19
         try clear c21
         try clear c21b0
         try clear c21b1
         try clear c22
         try clear c24
         try clear hcz20_0
         try clear hcz20_1
         try clear hcz20_10
         try clear hcz20_11
         try clear hcz20_12
         try clear hcz20_2
         try clear hcz20_3
         try clear hcz20_4
         try clear hcz20_5
         try clear hcz20_6
         try clear hcz20_7
         try clear hcz20_8
         try clear hcz20_9
         try clear hcz23_0
         try clear hcz23_1
         try clear hcz23_10
         try clear hcz23_11
         try clear hcz23_12
         try clear hcz23_2
         try clear hcz23_3
         try clear hcz23_4
         try clear hcz23_5
         try clear hcz23_6
         try clear hcz23_7
         try clear hcz23_8
         try clear hcz23_9
         try clear hcz25_0
         try clear hcz25_1
         try clear hcz25_10
         try clear hcz25_11
         try clear hcz25_12
         try clear hcz25_2
         try clear hcz25_3
         try clear hcz25_4
         try clear hcz25_5
         try clear hcz25_6
         try clear hcz25_7
         try clear hcz25_8
         try clear hcz25_9
         try clear hcz4_0
         try clear hcz4_1
         try clear hcz4_10
         try clear hcz4_11
         try clear hcz4_12
         try clear hcz4_2
         try clear hcz4_3
         try clear hcz4_4
         try clear hcz4_5
         try clear hcz4_6
         try clear hcz4_7
         try clear hcz4_8
         try clear hcz4_9
         try clear hfz20_0
         try clear hfz20_1
         try clear hfz20_10
         try clear hfz20_11
         try clear hfz20_12
         try clear hfz20_2
         try clear hfz20_3
         try clear hfz20_4
         try clear hfz20_5
         try clear hfz20_6
         try clear hfz20_7
         try clear hfz20_8
         try clear hfz20_9
         try clear hfz23_0
         try clear hfz23_1
         try clear hfz23_10
         try clear hfz23_11
         try clear hfz23_12
         try clear hfz23_2
         try clear hfz23_3
         try clear hfz23_4
         try clear hfz23_5
         try clear hfz23_6
         try clear hfz23_7
         try clear hfz23_8
         try clear hfz23_9
         try clear hfz25_0
         try clear hfz25_1
         try clear hfz25_10
         try clear hfz25_11
         try clear hfz25_12
         try clear hfz25_2
         try clear hfz25_3
         try clear hfz25_4
         try clear hfz25_5
         try clear hfz25_6
         try clear hfz25_7
         try clear hfz25_8
         try clear hfz25_9
         try clear hfz4_0
         try clear hfz4_1
         try clear hfz4_10
         try clear hfz4_11
         try clear hfz4_12
         try clear hfz4_2
         try clear hfz4_3
         try clear hfz4_4
         try clear hfz4_5
         try clear hfz4_6
         try clear hfz4_7
         try clear hfz4_8
         try clear hfz4_9
         try clear p6
         try clear q6
         obtain ⟨kq, x51_15, rfl, HA, HJ15, BK126, BK127, HB⟩ := hcut
         cases kq with
         | zero => exact absurd HA.out (by simp [entry_Read.j0])
         | succ kj15 =>
          have H := HA.out
          clear HA
          simp only [entry_Read.j0] at H
          have HC26 := Aside0.mk H
          clear H
          go_upto_if 51 with (fail)
          go_cut [11] (fun v11 wc => ∃ (kq : Nat) (x11_25 : ByteArray) (x128003_25 : Int) (x128004_25 : Int) (x128005_25 : Int) (x128006_25 : Int) (x128007_25 : Int) (x128008_25 : Int) (x128009_25 : Int) (x128010_25 : Int) (x128011_25 : Int), v11 = .string x11_25 ∧ Aside0 (entry_Read.j1 kq a0 x11_25 t128 t131 (bt a0 0) x128003_25 x128004_25 x128005_25 x128006_25 x128007_25 x128008_25 x128009_25 x128010_25 x128011_25 (⟨#[]⟩ : ByteArray) = some (r1, r2, r3, r4, r5, r6, r7, r8, r9, r10, r11, r12, r13, r14)) ∧ Aside0 (kq ≤ kj15) ∧ Aside0 (wc.heap[gb126]? = some (.cells #[.int .u64 0, .int .u64 0, .int .u8 0, .int .u8 0, .int .u8 0, .int .u8 0, .int .u8 0, .int .u8 0, .int .u8 0, .int .u8 0, .int .u8 0, .int .u8 0, .string (⟨#[]⟩ : ByteArray)] 27 (0, 0))) ∧ Aside0 (wc.heap[gb127]? = some (.cells #[.int .u64 t128, .int .u64 t131, .int .u8 (bt a0 0), .int .u8 x128003_25, .int .u8 x128004_25, .int .u8 x128005_25, .int .u8 x128006_25, .int .u8 x128007_25, .int .u8 x128008_25, .int .u8 x128009_25, .int .u8 x128010_25, .int .u8 x128011_25, .string (⟨#[]⟩ : ByteArray)] 27 (0, 0))) ∧ Aside0 (Below w.heap.size w wc))
          case first =>
           have H := HC26.out
           clear HC26
           by_cases c27 : x51_15 = true
           ·subst c27
            have H1 : (if 0 < ((a0.extract ((ji13) : Int).toNat a0.size).size : Int) then (if 1 ≤ ((a0.extract ((ji13) : Int).toNat a0.size).size : Int) then (if 8 ≤ (((a0.extract ((ji13) : Int).toNat a0.size).extract 1 (a0.extract ((ji13) : Int).toNat a0.size).size).size : Int) then (if 9 ≤ ((a0.extract ((ji13) : Int).toNat a0.size).size : Int) then (entry_Read.j1 kj15 a0 ((a0.extract ((ji13) : Int).toNat a0.size).extract 9 (a0.extract ((ji13) : Int).toNat a0.size).size) t128 t131 (bt a0 0) (bt (a0.extract ((ji13) : Int).toNat a0.size) 0) (bt ((a0.extract ((ji13) : Int).toNat a0.size).extract 1 (a0.extract ((ji13) : Int).toNat a0.size).size) 0) (bt ((a0.extract ((ji13) : Int).toNat a0.size).extract 1 (a0.extract ((ji13) : Int).toNat a0.size).size) 1) (bt ((a0.extract ((ji13) : Int).toNat a0.size).extract 1 (a0.extract ((ji13) : Int).toNat a0.size).size) 2) (bt ((a0.extract ((ji13) : Int).toNat a0.size).extract 1 (a0.extract ((ji13) : Int).toNat a0.size).size) 3) (bt ((a0.extract ((ji13) : Int).toNat a0.size).extract 1 (a0.extract ((ji13) : Int).toNat a0.size).size) 4) (bt ((a0.extract ((ji13) : Int).toNat a0.size).extract 1 (a0.extract ((ji13) : Int).toNat a0.size).size) 5) (bt ((a0.extract ((ji13) : Int).toNat a0.size).extract 1 (a0.extract ((ji13) : Int).toNat a0.size).size) 6) (bt ((a0.extract ((ji13) : Int).toNat a0.size).extract 1 (a0.extract ((ji13) : Int).toNat a0.size).size) 7) (⟨#[]⟩ : ByteArray)) else (none)) else (none)) else (none)) else (none)) = some (r1, r2, r3, r4, r5, r6, r7, r8, r9, r10, r11, r12, r13, r14) := by rw [if_pos rfl] at H; exact H
            clear H
            have H := H1
            clear H1
            by_cases c28 : 0 < ((a0.extract ((ji13) : Int).toNat a0.size).size : Int)
            ·rw [if_pos c28] at H
             have c28z : (0 < (((a0.size - ((ji13) : Int).toNat) : Nat) : Int)) := by simpa only [ByteArray.size_extract, Nat.min_self] using c28
             have c28zb := eq_true c28z
             have c28zd := decide_eq_true c28z
             have c28zn : (0 < (a0.size - ((ji13) : Int).toNat)) = True := eq_true (by omega)
             clear c28z
             have c28b0 : decide (0 < ((a0.extract ((ji13) : Int).toNat a0.size).size : Int)) = true := decide_eq_true c28
             have c28b1 : decide (0 < (a0.extract ((ji13) : Int).toNat a0.size).size) = true := decide_eq_true (by omega)
             clear c28
             (first | rw [c28b0] | (simp only [i64_w, i32_w]; rw [c28b0]) | skip)
             have tk30 := tok_slice (P := Try.prog) (T := 25) (e := 5) (n := 8) Try.underlying24 (by kernel_rfl) (by kernel_rfl) (by kernel_rfl) (by decide) 4
             by_cases c31 : 1 ≤ ((a0.extract ((ji13) : Int).toNat a0.size).size : Int)
             ·rw [if_pos c31] at H
              have c31z : (1 ≤ (((a0.size - ((ji13) : Int).toNat) : Nat) : Int)) := by simpa only [ByteArray.size_extract, Nat.min_self] using c31
              have c31zb := eq_true c31z
              have c31zd := decide_eq_true c31z
              have c31zn : (1 ≤ (a0.size - ((ji13) : Int).toNat)) = True := eq_true (by omega)
              clear c31z
              have c31b0 := eq_true c31
              have c31b1 : decide (1 ≤ ((a0.extract ((ji13) : Int).toNat a0.size).size : Int)) = true := decide_eq_true c31
              clear c31
              by_cases c32 : 8 ≤ (((a0.extract ((ji13) : Int).toNat a0.size).extract 1 (a0.extract ((ji13) : Int).toNat a0.size).size).size : Int)
              ·rw [if_pos c32] at H
               have TFc32 := Aside0.mk c32
               clear c32
               have tk33 : wrap64 9 = 9 := by unfold wrap64; omega
               by_cases c34 : 9 ≤ ((a0.extract ((ji13) : Int).toNat a0.size).size : Int)
               ·rw [if_pos c34] at H
                have c34z : (9 ≤ (((a0.size - ((ji13) : Int).toNat) : Nat) : Int)) := by simpa only [ByteArray.size_extract, Nat.min_self] using c34
                have c34zb := eq_true c34z
                have c34zd := decide_eq_true c34z
                have c34zn : (9 ≤ (a0.size - ((ji13) : Int).toNat)) = True := eq_true (by omega)
                clear c34z
                have c34b0 := eq_true c34
                have c34b1 : decide (9 ≤ ((a0.extract ((ji13) : Int).toNat a0.size).size : Int)) = true := decide_eq_true c34
                clear c34
                have H' := Aside0.mk H
                clear H
                have p29 : 0 ≤ (0 : Int) := (by omega)
                have q29 : 0 < (a0.extract ((ji13) : Int).toNat a0.size).size := (by have : (0 : Int) < ((a0.extract ((ji13) : Int).toNat a0.size).size : Int) := of_decide_eq_true (by first | (with_reducible assumption) | assumption); omega)
                have hx29 : ∀ h : 0 < (a0.extract ((ji13) : Int).toNat a0.size).size, (((a0.extract ((ji13) : Int).toNat a0.size)[0]'h).toNat : Int) = bt (a0.extract ((ji13) : Int).toNat a0.size) 0 := bt_at (a0.extract ((ji13) : Int).toNat a0.size) 0
                clear p29
                have qi29 : (0 < ((a0.extract ((ji13) : Int).toNat a0.size).size : Int)) = True := eq_true (of_decide_eq_true (by first | (with_reducible assumption) | assumption))
                replace q29 := eq_true q29
                have hnb35 := NB127_126.out
                have hnc35 := NB126_127.out
                have hcz36_0 : wc.cell? ⟨gb127, 0, none⟩ = some (.int .u64 t128) := (blk_cell BK127.out 0).trans rfl
                have hcz36_1 : wc.cell? ⟨gb127, 1, none⟩ = some (.int .u64 t131) := (blk_cell BK127.out 1).trans rfl
                have hcz36_2 : wc.cell? ⟨gb127, 2, none⟩ = some (.int .u8 (bt a0 0)) := (blk_cell BK127.out 2).trans rfl
                have hcz36_3 : wc.cell? ⟨gb127, 3, none⟩ = some (.int .u8 0) := (blk_cell BK127.out 3).trans rfl
                have hcz36_4 : wc.cell? ⟨gb127, 4, none⟩ = some (.int .u8 0) := (blk_cell BK127.out 4).trans rfl
                have hcz36_5 : wc.cell? ⟨gb127, 5, none⟩ = some (.int .u8 0) := (blk_cell BK127.out 5).trans rfl
                have hcz36_6 : wc.cell? ⟨gb127, 6, none⟩ = some (.int .u8 0) := (blk_cell BK127.out 6).trans rfl
                have hcz36_7 : wc.cell? ⟨gb127, 7, none⟩ = some (.int .u8 0) := (blk_cell BK127.out 7).trans rfl
                have hcz36_8 : wc.cell? ⟨gb127, 8, none⟩ = some (.int .u8 0) := (blk_cell BK127.out 8).trans rfl
                have hcz36_9 : wc.cell? ⟨gb127, 9, none⟩ = some (.int .u8 0) := (blk_cell BK127.out 9).trans rfl
                have hcz36_10 : wc.cell? ⟨gb127, 10, none⟩ = some (.int .u8 0) := (blk_cell BK127.out 10).trans rfl
                have hcz36_11 : wc.cell? ⟨gb127, 11, none⟩ = some (.int .u8 0) := (blk_cell BK127.out 11).trans rfl
                have hcz36_12 : wc.cell? ⟨gb127, 12, none⟩ = some (.string (⟨#[]⟩ : ByteArray)) := (blk_cell BK127.out 12).trans rfl
                have hfz36_0 := blk_frozen BK127.out 0
                have hfz36_1 := blk_frozen BK127.out 1
                have hfz36_2 := blk_frozen BK127.out 2
                have hfz36_3 := blk_frozen BK127.out 3
                have hfz36_4 := blk_frozen BK127.out 4
                have hfz36_5 := blk_frozen BK127.out 5
                have hfz36_6 := blk_frozen BK127.out 6
                have hfz36_7 := blk_frozen BK127.out 7
                have hfz36_8 := blk_frozen BK127.out 8
                have hfz36_9 := blk_frozen BK127.out 9
                have hfz36_10 := blk_frozen BK127.out 10
                have hfz36_11 := blk_frozen BK127.out 11
                have hfz36_12 := blk_frozen BK127.out 12
                try go_wp2
                have n0_ : Aside0 ((wc.setCell ⟨gb127, 3, none⟩ (.int .u8 (bt (a0.extract ((ji13) : Int).toNat a0.size) 0))).heap[gb126]? = some (.cells #[.int .u64 0, .int .u64 0, .int .u8 0, .int .u8 0, .int .u8 0, .int .u8 0, .int .u8 0, .int .u8 0, .int .u8 0, .int .u8 0, .int .u8 0, .int .u8 0, .string (⟨#[]⟩ : ByteArray)] 27 (0, 0))) := ⟨by (with_reducible repeat (first | refine blk_drewN ?_ _ | refine blk_drew ?_ | refine blk_alloc ?_ _)); refine blk_far ?_ NB126_127.out _; (with_reducible repeat (first | refine blk_drewN ?_ _ | refine blk_drew ?_ | refine blk_alloc ?_ _)); exact BK126.out⟩
                have n1_ : Aside0 ((wc.setCell ⟨gb127, 3, none⟩ (.int .u8 (bt (a0.extract ((ji13) : Int).toNat a0.size) 0))).heap[gb127]? = some (.cells #[.int .u64 t128, .int .u64 t131, .int .u8 (bt a0 0), .int .u8 (bt (a0.extract ((ji13) : Int).toNat a0.size) 0), .int .u8 0, .int .u8 0, .int .u8 0, .int .u8 0, .int .u8 0, .int .u8 0, .int .u8 0, .int .u8 0, .string (⟨#[]⟩ : ByteArray)] 27 (0, 0))) := ⟨by (with_reducible repeat (first | refine blk_drewN ?_ _ | refine blk_drew ?_ | refine blk_alloc ?_ _)); refine blk_put (cs := #[.int .u64 t128, .int .u64 t131, .int .u8 (bt a0 0), .int .u8 0, .int .u8 0, .int .u8 0, .int .u8 0, .int .u8 0, .int .u8 0, .int .u8 0, .int .u8 0, .int .u8 0, .string (⟨#[]⟩ : ByteArray)]) ?_ 3 _ rfl; (with_reducible repeat (first | refine blk_drewN ?_ _ | refine blk_drew ?_ | refine blk_alloc ?_ _)); exact BK127.out⟩
                have n2_ : Aside0 (Below w.heap.size w (wc.setCell ⟨gb127, 3, none⟩ (.int .u8 (bt (a0.extract ((ji13) : Int).toNat a0.size) 0)))) := ⟨by repeat (first | (with_reducible first | exact HB.out | apply below_alloc | apply pw_below_drewN | apply below_drew1 | refine below_set ?_ GE126.out | refine below_set ?_ GE127.out) | exact HB.out)⟩
                (try clear BK126)
                (try clear BK127)
                (try clear HB)
                generalize (wc.setCell ⟨gb127, 3, none⟩ (.int .u8 (bt (a0.extract ((ji13) : Int).toNat a0.size) 0))) = w37 at n0_ n1_ n2_ ⊢
                have BK126 := n0_
                have BK127 := n1_
                have HB := n2_
                clear n0_ n1_ n2_
                have n0_ := Aside0.mk (blk_drew BK126.out)
                have n1_ := Aside0.mk (blk_drew BK127.out)
                have n2_ := Aside0.mk (below_drew1 HB.out)
                clear BK126
                clear BK127
                clear HB
                have BK126 := n0_
                have BK127 := n1_
                have HB := n2_
                clear n0_ n1_ n2_
                refine start_ (n := 9) (S := fun w' => True) (ds := []) #[false, false, false, false, false, false, false, false, false] (by kernel_rfl) rfl rfl trivial (fun hHeld => ?_); refine with_tabW entry_Read.tab10 entry_Read.bits10 (fun HT_ HW_ => ?_)
                generalize w37.drew = w38 at BK126 BK127 HB hHeld ⊢
                refine pure_ (i := 0) (N := some 55) (v := ?_) (a' := ?_) (bq_7_ 9 1) rfl rfl (any_of HT_.out (by kernel_rfl)) (fun _ _ _ h => h) (Or.inl ⟨by rfl, ?_⟩) ?_ ?_
                rotate_left
                ·intro w'
                 go_simp
                 with_reducible rfl
                rotate_left
                ·simp only [Act.put, zA7_, zB7_, zC7_, i64_w, i32_w]
                 rfl
                refine pure_ (i := 1) (N := some 56) (v := ?_) (a' := ?_) (bq_7_ 9 3) rfl rfl (any_of HT_.out (by kernel_rfl)) (fun _ _ _ h => h) (Or.inl ⟨by rfl, ?_⟩) ?_ ?_
                rotate_left
                ·intro w'
                 go_simp
                 with_reducible rfl
                rotate_left
                ·simp only [Act.put, zA7_, zB7_, zC7_, i64_w, i32_w]
                 rfl
                refine pure_ (i := 2) (N := some 57) (v := ?_) (a' := ?_) (bq_7_ 9 7) rfl rfl (any_of HT_.out (by kernel_rfl)) (fun _ _ _ h => h) (Or.inl ⟨by rfl, ?_⟩) ?_ ?_
                rotate_left
                ·intro w'
                 go_simp
                 with_reducible rfl
                rotate_left
                ·simp only [Act.put, zA7_, zB7_, zC7_, i64_w, i32_w]
                 rfl
                refine pure_ (i := 3) (N := some 58) (v := ?_) (a' := ?_) (bq_7_ 9 15) rfl rfl (any_of HT_.out (by kernel_rfl)) (fun _ _ _ h => h) (Or.inl ⟨by rfl, ?_⟩) ?_ ?_
                rotate_left
                ·intro w'
                 go_simp
                 with_reducible rfl
                rotate_left
                ·simp only [Act.put, zA7_, zB7_, zC7_, i64_w, i32_w]
                 rfl
                refine pure_ (i := 4) (N := some 59) (v := ?_) (a' := ?_) (bq_7_ 9 31) rfl rfl (any_of HT_.out (by kernel_rfl)) (fun _ _ _ h => h) (Or.inl ⟨by rfl, ?_⟩) ?_ ?_
                rotate_left
                ·intro w'
                 go_simp
                 with_reducible rfl
                rotate_left
                ·simp only [Act.put, zA7_, zB7_, zC7_, i64_w, i32_w]
                 rfl
                refine one_ (i := 5) (N := some 60) (bq_7_ 9 63) rfl rfl (one_of HT_.out (by kernel_rfl)) (by decide) (fun K hK => ?_)
                have hcp_ := Aside0.mk (fun (s_ : ByteArray) (e_ : s_ = ((a0.extract ((ji13) : Int).toNat a0.size).extract 1 (a0.extract ((ji13) : Int).toNat a0.size).size)) => (congrArg (fun z_ => (Builtin.copy_ #[33, 9] 3 #[.slice (some ⟨gb127, 4, none⟩) 8 8, .string z_]).run Try.prog w38) e_).trans (tok_copy8 (P := Try.prog) w38 33 9 3 5 gb127 4 5 6 7 8 9 10 11 rfl rfl rfl rfl rfl rfl rfl ((a0.extract ((ji13) : Int).toNat a0.size).extract 1 (a0.extract ((ji13) : Int).toNat a0.size).size) Try.underlying33 (by kernel_rfl) (by have h_ := (show Aside0 (8 ≤ (((a0.extract ((ji13) : Int).toNat a0.size).extract 1 (a0.extract ((ji13) : Int).toNat a0.size).size).size : Int)) from by assumption).out; omega) _ _ BK127.out (by simp)))
                refine value_ (w1 := ?_) (v := ?_) (by rfl) rfl ?_ ?_
                rotate_left 2
                ·go_simp
                 rw [hcp_.out]
                 ·rfl
                 ·first | with_reducible rfl | simp only [ByteArray.size_extract, Nat.min_self]
                refine hK.out _ _ trivial (fun hHeld => ?_)
                clear hK K
                refine norm_ (a' := ?_) ?_ ?_
                rotate_left
                ·show Act.put _ (some 60) _ = _
                 simp only [Act.put, zA7_, zB7_, zC7_, i64_w, i32_w]
                 rfl
                refine pure_ (i := 6) (N := some 61) (v := ?_) (a' := ?_) (bq_7_ 9 127) rfl rfl (any_of HT_.out (by kernel_rfl)) (fun _ _ _ h => h) (Or.inl ⟨by rfl, ?_⟩) ?_ ?_
                rotate_left
                ·intro w'
                 go_simp
                 with_reducible rfl
                rotate_left
                ·simp only [Act.put, zA7_, zB7_, zC7_, i64_w, i32_w]
                 rfl
                refine pure_ (i := 7) (N := some 62) (v := ?_) (a' := ?_) (bq_7_ 9 255) rfl rfl (any_of HT_.out (by kernel_rfl)) (fun _ _ _ h => h) (Or.inl ⟨by rfl, ?_⟩) ?_ ?_
                rotate_left
                ·intro w'
                 go_simp
                 with_reducible rfl
                rotate_left
                ·simp only [Act.put, zA7_, zB7_, zC7_, i64_w, i32_w]
                 rfl
                refine pure_ (i := 8) (N := some 11) (v := ?_) (a' := ?_) (bq_7_ 9 511) rfl rfl (any_of HT_.out (by kernel_rfl)) (fun _ _ _ h => h) (Or.inl ⟨by rfl, ?_⟩) ?_ ?_
                rotate_left
                ·intro w'
                 go_simp
                 with_reducible rfl
                rotate_left
                ·simp only [Act.put, zA7_, zB7_, zC7_, i64_w, i32_w]
                 rfl
                refine done_ (done_of HT_.out (by kernel_rfl)) ?_
                try go_wp2
                go_meet
                case rel => exact ⟨_, ((a0.extract ((ji13) : Int).toNat a0.size).extract 9 (a0.extract ((ji13) : Int).toNat a0.size).size), (bt (a0.extract ((ji13) : Int).toNat a0.size) 0), (bt ((a0.extract ((ji13) : Int).toNat a0.size).extract 1 (a0.extract ((ji13) : Int).toNat a0.size).size) 0), (bt ((a0.extract ((ji13) : Int).toNat a0.size).extract 1 (a0.extract ((ji13) : Int).toNat a0.size).size) 1), (bt ((a0.extract ((ji13) : Int).toNat a0.size).extract 1 (a0.extract ((ji13) : Int).toNat a0.size).size) 2), (bt ((a0.extract ((ji13) : Int).toNat a0.size).extract 1 (a0.extract ((ji13) : Int).toNat a0.size).size) 3), (bt ((a0.extract ((ji13) : Int).toNat a0.size).extract 1 (a0.extract ((ji13) : Int).toNat a0.size).size) 4), (bt ((a0.extract ((ji13) : Int).toNat a0.size).extract 1 (a0.extract ((ji13) : Int).toNat a0.size).size) 5), (bt ((a0.extract ((ji13) : Int).toNat a0.size).extract 1 (a0.extract ((ji13) : Int).toNat a0.size).size) 6), (bt ((a0.extract ((ji13) : Int).toNat a0.size).extract 1 (a0.extract ((ji13) : Int).toNat a0.size).size) 7), (by first | (with_reducible rfl) | (simp; done) | (simp only [← hji13] <;> (first | rfl | simp)) | (simp [*]; done) | (refine congrArg (Value.int _) ?_; unfold wrap64; omega) | rfl), H', ⟨by have := HJ15.out; first | omega | exact Nat.le_refl _⟩, ⟨by (with_reducible repeat (first | refine blk_drewN ?_ _ | refine blk_drew ?_ | refine blk_alloc ?_ _)); refine blk_far ?_ NB126_127.out _; (with_reducible repeat (first | refine blk_drewN ?_ _ | refine blk_drew ?_ | refine blk_alloc ?_ _)); refine blk_far ?_ NB126_127.out _; (with_reducible repeat (first | refine blk_drewN ?_ _ | refine blk_drew ?_ | refine blk_alloc ?_ _)); refine blk_far ?_ NB126_127.out _; (with_reducible repeat (first | refine blk_drewN ?_ _ | refine blk_drew ?_ | refine blk_alloc ?_ _)); refine blk_far ?_ NB126_127.out _; (with_reducible repeat (first | refine blk_drewN ?_ _ | refine blk_drew ?_ | refine blk_alloc ?_ _)); refine blk_far ?_ NB126_127.out _; (with_reducible repeat (first | refine blk_drewN ?_ _ | refine blk_drew ?_ | refine blk_alloc ?_ _)); refine blk_far ?_ NB126_127.out _; (with_reducible repeat (first | refine blk_drewN ?_ _ | refine blk_drew ?_ | refine blk_alloc ?_ _)); refine blk_far ?_ NB126_127.out _; (with_reducible repeat (first | refine blk_drewN ?_ _ | refine blk_drew ?_ | refine blk_alloc ?_ _)); refine blk_far ?_ NB126_127.out _; (with_reducible repeat (first | refine blk_drewN ?_ _ | refine blk_drew ?_ | refine blk_alloc ?_ _)); exact BK126.out⟩, ⟨by (with_reducible repeat (first | refine blk_drewN ?_ _ | refine blk_drew ?_ | refine blk_alloc ?_ _)); refine blk_put (cs := #[.int .u64 t128, .int .u64 t131, .int .u8 (bt a0 0), .int .u8 (bt (a0.extract ((ji13) : Int).toNat a0.size) 0), .int .u8 (bt ((a0.extract ((ji13) : Int).toNat a0.size).extract 1 (a0.extract ((ji13) : Int).toNat a0.size).size) 0), .int .u8 (bt ((a0.extract ((ji13) : Int).toNat a0.size).extract 1 (a0.extract ((ji13) : Int).toNat a0.size).size) 1), .int .u8 (bt ((a0.extract ((ji13) : Int).toNat a0.size).extract 1 (a0.extract ((ji13) : Int).toNat a0.size).size) 2), .int .u8 (bt ((a0.extract ((ji13) : Int).toNat a0.size).extract 1 (a0.extract ((ji13) : Int).toNat a0.size).size) 3), .int .u8 (bt ((a0.extract ((ji13) : Int).toNat a0.size).extract 1 (a0.extract ((ji13) : Int).toNat a0.size).size) 4), .int .u8 (bt ((a0.extract ((ji13) : Int).toNat a0.size).extract 1 (a0.extract ((ji13) : Int).toNat a0.size).size) 5), .int .u8 (bt ((a0.extract ((ji13) : Int).toNat a0.size).extract 1 (a0.extract ((ji13) : Int).toNat a0.size).size) 6), .int .u8 0, .string (⟨#[]⟩ : ByteArray)]) ?_ 11 _ rfl; (with_reducible repeat (first | refine blk_drewN ?_ _ | refine blk_drew ?_ | refine blk_alloc ?_ _)); refine blk_put (cs := #[.int .u64 t128, .int .u64 t131, .int .u8 (bt a0 0), .int .u8 (bt (a0.extract ((ji13) : Int).toNat a0.size) 0), .int .u8 (bt ((a0.extract ((ji13) : Int).toNat a0.size).extract 1 (a0.extract ((ji13) : Int).toNat a0.size).size) 0), .int .u8 (bt ((a0.extract ((ji13) : Int).toNat a0.size).extract 1 (a0.extract ((ji13) : Int).toNat a0.size).size) 1), .int .u8 (bt ((a0.extract ((ji13) : Int).toNat a0.size).extract 1 (a0.extract ((ji13) : Int).toNat a0.size).size) 2), .int .u8 (bt ((a0.extract ((ji13) : Int).toNat a0.size).extract 1 (a0.extract ((ji13) : Int).toNat a0.size).size) 3), .int .u8 (bt ((a0.extract ((ji13) : Int).toNat a0.size).extract 1 (a0.extract ((ji13) : Int).toNat a0.size).size) 4), .int .u8 (bt ((a0.extract ((ji13) : Int).toNat a0.size).extract 1 (a0.extract ((ji13) : Int).toNat a0.size).size) 5), .int .u8 0, .int .u8 0, .string (⟨#[]⟩ : ByteArray)]) ?_ 10 _ rfl; (with_reducible repeat (first | refine blk_drewN ?_ _ | refine blk_drew ?_ | refine blk_alloc ?_ _)); refine blk_put (cs := #[.int .u64 t128, .int .u64 t131, .int .u8 (bt a0 0), .int .u8 (bt (a0.extract ((ji13) : Int).toNat a0.size) 0), .int .u8 (bt ((a0.extract ((ji13) : Int).toNat a0.size).extract 1 (a0.extract ((ji13) : Int).toNat a0.size).size) 0), .int .u8 (bt ((a0.extract ((ji13) : Int).toNat a0.size).extract 1 (a0.extract ((ji13) : Int).toNat a0.size).size) 1), .int .u8 (bt ((a0.extract ((ji13) : Int).toNat a0.size).extract 1 (a0.extract ((ji13) : Int).toNat a0.size).size) 2), .int .u8 (bt ((a0.extract ((ji13) : Int).toNat a0.size).extract 1 (a0.extract ((ji13) : Int).toNat a0.size).size) 3), .int .u8 (bt ((a0.extract ((ji13) : Int).toNat a0.size).extract 1 (a0.extract ((ji13) : Int).toNat a0.size).size) 4), .int .u8 0, .int .u8 0, .int .u8 0, .string (⟨#[]⟩ : ByteArray)]) ?_ 9 _ rfl; (with_reducible repeat (first | refine blk_drewN ?_ _ | refine blk_drew ?_ | refine blk_alloc ?_ _)); refine blk_put (cs := #[.int .u64 t128, .int .u64 t131, .int .u8 (bt a0 0), .int .u8 (bt (a0.extract ((ji13) : Int).toNat a0.size) 0), .int .u8 (bt ((a0.extract ((ji13) : Int).toNat a0.size).extract 1 (a0.extract ((ji13) : Int).toNat a0.size).size) 0), .int .u8 (bt ((a0.extract ((ji13) : Int).toNat a0.size).extract 1 (a0.extract ((ji13) : Int).toNat a0.size).size) 1), .int .u8 (bt ((a0.extract ((ji13) : Int).toNat a0.size).extract 1 (a0.extract ((ji13) : Int).toNat a0.size).size) 2), .int .u8 (bt ((a0.extract ((ji13) : Int).toNat a0.size).extract 1 (a0.extract ((ji13) : Int).toNat a0.size).size) 3), .int .u8 0, .int .u8 0, .int .u8 0, .int .u8 0, .string (⟨#[]⟩ : ByteArray)]) ?_ 8 _ rfl; (with_reducible repeat (first | refine blk_drewN ?_ _ | refine blk_drew ?_ | refine blk_alloc ?_ _)); refine blk_put (cs := #[.int .u64 t128, .int .u64 t131, .int .u8 (bt a0 0), .int .u8 (bt (a0.extract ((ji13) : Int).toNat a0.size) 0), .int .u8 (bt ((a0.extract ((ji13) : Int).toNat a0.size).extract 1 (a0.extract ((ji13) : Int).toNat a0.size).size) 0), .int .u8 (bt ((a0.extract ((ji13) : Int).toNat a0.size).extract 1 (a0.extract ((ji13) : Int).toNat a0.size).size) 1), .int .u8 (bt ((a0.extract ((ji13) : Int).toNat a0.size).extract 1 (a0.extract ((ji13) : Int).toNat a0.size).size) 2), .int .u8 0, .int .u8 0, .int .u8 0, .int .u8 0, .int .u8 0, .string (⟨#[]⟩ : ByteArray)]) ?_ 7 _ rfl; (with_reducible repeat (first | refine blk_drewN ?_ _ | refine blk_drew ?_ | refine blk_alloc ?_ _)); refine blk_put (cs := #[.int .u64 t128, .int .u64 t131, .int .u8 (bt a0 0), .int .u8 (bt (a0.extract ((ji13) : Int).toNat a0.size) 0), .int .u8 (bt ((a0.extract ((ji13) : Int).toNat a0.size).extract 1 (a0.extract ((ji13) : Int).toNat a0.size).size) 0), .int .u8 (bt ((a0.extract ((ji13) : Int).toNat a0.size).extract 1 (a0.extract ((ji13) : Int).toNat a0.size).size) 1), .int .u8 0, .int .u8 0, .int .u8 0, .int .u8 0, .int .u8 0, .int .u8 0, .string (⟨#[]⟩ : ByteArray)]) ?_ 6 _ rfl; (with_reducible repeat (first | refine blk_drewN ?_ _ | refine blk_drew ?_ | refine blk_alloc ?_ _)); refine blk_put (cs := #[.int .u64 t128, .int .u64 t131, .int .u8 (bt a0 0), .int .u8 (bt (a0.extract ((ji13) : Int).toNat a0.size) 0), .int .u8 (bt ((a0.extract ((ji13) : Int).toNat a0.size).extract 1 (a0.extract ((ji13) : Int).toNat a0.size).size) 0), .int .u8 0, .int .u8 0, .int .u8 0, .int .u8 0, .int .u8 0, .int .u8 0, .int .u8 0, .string (⟨#[]⟩ : ByteArray)]) ?_ 5 _ rfl; (with_reducible repeat (first | refine blk_drewN ?_ _ | refine blk_drew ?_ | refine blk_alloc ?_ _)); refine blk_put (cs := #[.int .u64 t128, .int .u64 t131, .int .u8 (bt a0 0), .int .u8 (bt (a0.extract ((ji13) : Int).toNat a0.size) 0), .int .u8 0, .int .u8 0, .int .u8 0, .int .u8 0, .int .u8 0, .int .u8 0, .int .u8 0, .int .u8 0, .string (⟨#[]⟩ : ByteArray)]) ?_ 4 _ rfl; (with_reducible repeat (first | refine blk_drewN ?_ _ | refine blk_drew ?_ | refine blk_alloc ?_ _)); exact BK127.out⟩, ⟨by repeat (first | (with_reducible first | exact HB.out | apply below_alloc | apply pw_below_drewN | apply below_drew1 | refine below_set ?_ GE126.out | refine below_set ?_ GE127.out) | exact HB.out)⟩⟩
               ·rw [if_neg c34] at H
                exact absurd H (by simp)
              ·rw [if_neg c32] at H
               exact absurd H (by simp)
             ·rw [if_neg c31] at H
              exact absurd H (by simp)
            ·rw [if_neg c28] at H
             exact absurd H (by simp)
           ·replace c27 := Bool.eq_false_iff.mpr c27
            subst c27
            have H1 : (entry_Read.j1 kj15 a0 (a0.extract ((ji13) : Int).toNat a0.size) t128 t131 (bt a0 0) 0 0 0 0 0 0 0 0 0 (⟨#[]⟩ : ByteArray)) = some (r1, r2, r3, r4, r5, r6, r7, r8, r9, r10, r11, r12, r13, r14) := by rw [if_neg (show ¬ (false = true) by decide)] at H; exact H
            clear H
            have H := H1
            clear H1
            have H' := Aside0.mk H
            clear H
            go_wp2
            go_meet
            case rel => exact ⟨_, ((a0.extract ((ji13) : Int).toNat a0.size)), (0), (0), (0), (0), (0), (0), (0), (0), (0), (by first | (with_reducible rfl) | (simp; done) | (simp only [← hji13] <;> (first | rfl | simp)) | (simp [*]; done) | (refine congrArg (Value.int _) ?_; unfold wrap64; omega) | rfl), H', ⟨by have := HJ15.out; first | omega | exact Nat.le_refl _⟩, ⟨by (with_reducible repeat (first | refine blk_drewN ?_ _ | refine blk_drew ?_ | refine blk_alloc ?_ _)); exact BK126.out⟩, ⟨by (with_reducible repeat (first | refine blk_drewN ?_ _ | refine blk_drew ?_ | refine blk_alloc ?_ _)); exact BK127.out⟩, ⟨by repeat (first | (with_reducible first | exact HB.out | apply below_alloc | apply pw_below_drewN | apply below_drew1 | refine below_set ?_ GE126.out | refine below_set ?_ GE127.out) | exact HB.out)⟩⟩
          case rest =>
           clear HC26
           try clear c1
           try clear c2
           try clear c2b0
           try clear c2b1
           try clear c2b2
           try clear p2
           try clear q2
           try clear hx2
           try clear qi2
           try clear c3
           try clear c5
           try clear c5b0
           try clear c5b1
           try clear p6
           try clear q6
           try clear hx6
           try clear qi6
           try clear c7
           try clear c7b0
           try clear c7b1
           try clear c10
           try clear c10b0
           try clear c10b1
           try clear c11
           try clear c11b0
           try clear c11b1
           try clear c14
           try clear c14b0
           try clear c14b1
           try clear c15
           try clear c15b0
           try clear c15b1
           try clear c19
           try clear c21
           try clear c21b0
           try clear c21b1
           try clear c22
           try clear c24
           try clear c27
           try clear c28
           try clear c28b0
           try clear c28b1
           try clear p29
           try clear q29
           try clear hx29
           try clear qi29
           try clear c31
           try clear c31b0
           try clear c31b1
           try clear c32
           try clear c34
           try clear c34b0
           try clear c34b1
           try clear c35
           try clear hcz20_0
           try clear hcz20_1
           try clear hcz20_10
           try clear hcz20_11
           try clear hcz20_12
           try clear hcz20_2
           try clear hcz20_3
           try clear hcz20_4
           try clear hcz20_5
           try clear hcz20_6
           try clear hcz20_7
           try clear hcz20_8
           try clear hcz20_9
           try clear hcz23_0
           try clear hcz23_1
           try clear hcz23_10
           try clear hcz23_11
           try clear hcz23_12
           try clear hcz23_2
           try clear hcz23_3
           try clear hcz23_4
           try clear hcz23_5
           try clear hcz23_6
           try clear hcz23_7
           try clear hcz23_8
           try clear hcz23_9
           try clear hcz25_0
           try clear hcz25_1
           try clear hcz25_10
           try clear hcz25_11
           try clear hcz25_12
           try clear hcz25_2
           try clear hcz25_3
           try clear hcz25_4
           try clear hcz25_5
           try clear hcz25_6
           try clear hcz25_7
           try clear hcz25_8
           try clear hcz25_9
           try clear hcz36_0
           try clear hcz36_1
           try clear hcz36_10
           try clear hcz36_11
           try clear hcz36_12
           try clear hcz36_2
           try clear hcz36_3
           try clear hcz36_4
           try clear hcz36_5
           try clear hcz36_6
           try clear hcz36_7
           try clear hcz36_8
           try clear hcz36_9
           try clear hcz4_0
           try clear hcz4_1
           try clear hcz4_10
           try clear hcz4_11
           try clear hcz4_12
           try clear hcz4_2
           try clear hcz4_3
           try clear hcz4_4
           try clear hcz4_5
           try clear hcz4_6
           try clear hcz4_7
           try clear hcz4_8
           try clear hcz4_9
           try clear hfz20_0
           try clear hfz20_1
           try clear hfz20_10
           try clear hfz20_11
           try clear hfz20_12
           try clear hfz20_2
           try clear hfz20_3
           try clear hfz20_4
           try clear hfz20_5
           try clear hfz20_6
           try clear hfz20_7
           try clear hfz20_8
           try clear hfz20_9
           try clear hfz23_0
           try clear hfz23_1
           try clear hfz23_10
           try clear hfz23_11
           try clear hfz23_12
           try clear hfz23_2
           try clear hfz23_3
           try clear hfz23_4
           try clear hfz23_5
           try clear hfz23_6
           try clear hfz23_7
           try clear hfz23_8
           try clear hfz23_9
           try clear hfz25_0
           try clear hfz25_1
           try clear hfz25_10
           try clear hfz25_11
           try clear hfz25_12
           try clear hfz25_2
           try clear hfz25_3
           try clear hfz25_4
           try clear hfz25_5
           try clear hfz25_6
           try clear hfz25_7
           try clear hfz25_8
           try clear hfz25_9
           try clear hfz36_0
           try clear hfz36_1
           try clear hfz36_10
           try clear hfz36_11
           try clear hfz36_12
           try clear hfz36_2
           try clear hfz36_3
           try clear hfz36_4
           try clear hfz36_5
           try clear hfz36_6
           try clear hfz36_7
           try clear hfz36_8
           try clear hfz36_9
           try clear hfz4_0
           try clear hfz4_1
           try clear hfz4_10
           try clear hfz4_11
           try clear hfz4_12
           try clear hfz4_2
           try clear hfz4_3
           try clear hfz4_4
           try clear hfz4_5
           try clear hfz4_6
           try clear hfz4_7
           try clear hfz4_8
           try clear hfz4_9
           try clear p2
           try clear p29
           try clear p6
           try clear q29
           try clear q6
           obtain ⟨kq, x11_25, x128003_25, x128004_25, x128005_25, x128006_25, x128007_25, x128008_25, x128009_25, x128010_25, x128011_25, rfl, HA, HJ25, BK126, BK127, HB⟩ := hcut
           cases kq with
           | zero => exact absurd HA.out (by simp [entry_Read.j1])
           | succ kj25 =>
            have H := HA.out
            clear HA
            simp only [entry_Read.j1] at H
            replace H := Option.bind_eq_some_iff.mp H
            obtain ⟨⟨t134, t135, t136⟩, A470, H⟩ := H
            replace H : ((entry_Write.f kj25 t128 t131 (bt a0 0) x128003_25 x128004_25 x128005_25 x128006_25 x128007_25 x128008_25 x128009_25 x128010_25 x128011_25 t134).bind fun t137 => (if t137.toList = a0.toList then (some (t128, t131, (bt a0 0), x128003_25, x128004_25, x128005_25, x128006_25, x128007_25, x128008_25, x128009_25, x128010_25, x128011_25, t134, true)) else (some (0, 0, 0, 0, 0, 0, 0, 0, 0, 0, 0, 0, (⟨#[]⟩ : ByteArray), false)))) = some (r1, r2, r3, r4, r5, r6, r7, r8, r9, r10, r11, r12, r13, r14) := H
            have A47 := Aside0.mk A470
            clear A470
            replace H := Option.bind_eq_some_iff.mp H
            obtain ⟨t137, A480, H⟩ := H
            replace H : (if t137.toList = a0.toList then (some (t128, t131, (bt a0 0), x128003_25, x128004_25, x128005_25, x128006_25, x128007_25, x128008_25, x128009_25, x128010_25, x128011_25, t134, true)) else (some (0, 0, 0, 0, 0, 0, 0, 0, 0, 0, 0, 0, (⟨#[]⟩ : ByteArray), false))) = some (r1, r2, r3, r4, r5, r6, r7, r8, r9, r10, r11, r12, r13, r14) := H
            have A48 := Aside0.mk A480
            clear A480
            by_cases c49 : t137.toList = a0.toList
            ·rw [if_pos c49] at H
             have c49b0 : (t137.toList == a0.toList) = true := beq_iff_eq.mpr c49
             have c49b1 : (t137.toList != a0.toList) = false := bne_eq_false_iff_eq.mpr c49
             clear c49
             simp only [Option.some.injEq, Prod.mk.injEq] at H
             obtain ⟨rfl, rfl, rfl, rfl, rfl, rfl, rfl, rfl, rfl, rfl, rfl, rfl, rfl, rfl⟩ := H
             go_wp2_with (first | ((with_reducible refine gate_callee (f := 23) rfl ?_); refine goesL_ (some 65) rfl rfl Try.func23 (by kernel_rfl) rfl #[.string x11_25] rfl (by (try simp only [List.map_toArray, List.map_cons, List.map_nil]); first | done | rfl | (simp only [List.length_drop, List.length_take]; rfl)) ?_; (with_reducible refine (num_ReadS.calls kj25 x11_25 t134 t135 t136 _ A47.out).mono ?_); rintro e w' ⟨rfl, ⟨nd, rfl⟩⟩; refine ⟨_, rfl, ?_⟩; (try (rw [drewN_self wc]; generalize hq_ : World.drewN wc _ = wc; have n0_ : Aside0 (wc.heap[gb126]? = some (.cells #[.int .u64 0, .int .u64 0, .int .u8 0, .int .u8 0, .int .u8 0, .int .u8 0, .int .u8 0, .int .u8 0, .int .u8 0, .int .u8 0, .int .u8 0, .int .u8 0, .string (⟨#[]⟩ : ByteArray)] 27 (0, 0))) := ⟨by rw [← hq_]; exact (by (with_reducible repeat (first | refine blk_drewN ?_ _ | refine blk_drew ?_ | refine blk_alloc ?_ _)); exact BK126.out)⟩; have n1_ : Aside0 (wc.heap[gb127]? = some (.cells #[.int .u64 t128, .int .u64 t131, .int .u8 (bt a0 0), .int .u8 x128003_25, .int .u8 x128004_25, .int .u8 x128005_25, .int .u8 x128006_25, .int .u8 x128007_25, .int .u8 x128008_25, .int .u8 x128009_25, .int .u8 x128010_25, .int .u8 x128011_25, .string (⟨#[]⟩ : ByteArray)] 27 (0, 0))) := ⟨by rw [← hq_]; exact (by (with_reducible repeat (first | refine blk_drewN ?_ _ | refine blk_drew ?_ | refine blk_alloc ?_ _)); exact BK127.out)⟩; have n2_ : Aside0 (Below w.heap.size w wc) := ⟨by rw [← hq_]; exact (by repeat (first | (with_reducible first | exact HB.out | apply below_alloc | apply pw_below_drewN | apply below_drew1 | refine below_set ?_ GE126.out | refine below_set ?_ GE127.out) | exact HB.out))⟩; clear BK126 BK127 HB hq_; have BK126 := n0_; have BK127 := n1_; have HB := n2_; clear n0_ n1_ n2_)); have hnb50 := NB127_126.out; have hnc50 := NB126_127.out; have hcz51_0 : wc.cell? ⟨gb127, 0, none⟩ = some (.int .u64 t128) := (blk_cell BK127.out 0).trans rfl; have hcz51_1 : wc.cell? ⟨gb127, 1, none⟩ = some (.int .u64 t131) := (blk_cell BK127.out 1).trans rfl; have hcz51_2 : wc.cell? ⟨gb127, 2, none⟩ = some (.int .u8 (bt a0 0)) := (blk_cell BK127.out 2).trans rfl; have hcz51_3 : wc.cell? ⟨gb127, 3, none⟩ = some (.int .u8 x128003_25) := (blk_cell BK127.out 3).trans rfl; have hcz51_4 : wc.cell? ⟨gb127, 4, none⟩ = some (.int .u8 x128004_25) := (blk_cell BK127.out 4).trans rfl; have hcz51_5 : wc.cell? ⟨gb127, 5, none⟩ = some (.int .u8 x128005_25) := (blk_cell BK127.out 5).trans rfl; have hcz51_6 : wc.cell? ⟨gb127, 6, none⟩ = some (.int .u8 x128006_25) := (blk_cell BK127.out 6).trans rfl; have hcz51_7 : wc.cell? ⟨gb127, 7, none⟩ = some (.int .u8 x128007_25) := (blk_cell BK127.out 7).trans rfl; have hcz51_8 : wc.cell? ⟨gb127, 8, none⟩ = some (.int .u8 x128008_25) := (blk_cell BK127.out 8).trans rfl; have hcz51_9 : wc.cell? ⟨gb127, 9, none⟩ = some (.int .u8 x128009_25) := (blk_cell BK127.out 9).trans rfl; have hcz51_10 : wc.cell? ⟨gb127, 10, none⟩ = some (.int .u8 x128010_25) := (blk_cell BK127.out 10).trans rfl; have hcz51_11 : wc.cell? ⟨gb127, 11, none⟩ = some (.int .u8 x128011_25) := (blk_cell BK127.out 11).trans rfl; have hcz51_12 : wc.cell? ⟨gb127, 12, none⟩ = some (.string (⟨#[]⟩ : ByteArray)) := (blk_cell BK127.out 12).trans rfl; have hfz51_0 := blk_frozen BK127.out 0; have hfz51_1 := blk_frozen BK127.out 1; have hfz51_2 := blk_frozen BK127.out 2; have hfz51_3 := blk_frozen BK127.out 3; have hfz51_4 := blk_frozen BK127.out 4; have hfz51_5 := blk_frozen BK127.out 5; have hfz51_6 := blk_frozen BK127.out 6; have hfz51_7 := blk_frozen BK127.out 7; have hfz51_8 := blk_frozen BK127.out 8; have hfz51_9 := blk_frozen BK127.out 9; have hfz51_10 := blk_frozen BK127.out 10; have hfz51_11 := blk_frozen BK127.out 11; have hfz51_12 := blk_frozen BK127.out 12) | ((with_reducible refine gate_callee (f := 9) rfl ?_); refine goesL_ (some 71) rfl rfl Try.func9 (by kernel_rfl) rfl #[.agg #[.int .u64 t128, .int .u64 t131, .int .u8 (bt a0 0), .int .u8 x128003_25, .int .u8 x128004_25, .int .u8 x128005_25, .int .u8 x128006_25, .int .u8 x128007_25, .int .u8 x128008_25, .int .u8 x128009_25, .int .u8 x128010_25, .int .u8 x128011_25, .string t134]] rfl (by (try simp only [List.map_toArray, List.map_cons, List.map_nil]); first | done | rfl | (simp only [List.length_drop, List.length_take]; rfl)) ?_; (with_reducible refine (entry_Write.calls kj25 t128 t131 (bt a0 0) x128003_25 x128004_25 x128005_25 x128006_25 x128007_25 x128008_25 x128009_25 x128010_25 x128011_25 t134 t137 _ A48.out).mono ?_); rintro e w52 ⟨rfl, hb⟩; refine ⟨_, rfl, ?_⟩; have n0_ := Aside0.mk (blk_below (g := gb126) (o := .cells #[.int .u64 0, .int .u64 0, .int .u8 0, .int .u8 0, .int .u8 0, .int .u8 0, .int .u8 0, .int .u8 0, .int .u8 0, .int .u8 0, .int .u8 0, .int .u8 0, .string (⟨#[]⟩ : ByteArray)] 27 (0, 0)) (by (with_reducible repeat (first | refine blk_drewN ?_ _ | refine blk_drew ?_ | refine blk_alloc ?_ _)); refine blk_far ?_ NB126_127.out _; (with_reducible repeat (first | refine blk_drewN ?_ _ | refine blk_drew ?_ | refine blk_alloc ?_ _)); exact BK126.out) hb); have n1_ := Aside0.mk (blk_below (g := gb127) (o := .cells #[.int .u64 t128, .int .u64 t131, .int .u8 (bt a0 0), .int .u8 x128003_25, .int .u8 x128004_25, .int .u8 x128005_25, .int .u8 x128006_25, .int .u8 x128007_25, .int .u8 x128008_25, .int .u8 x128009_25, .int .u8 x128010_25, .int .u8 x128011_25, .string t134] 27 (0, 0)) (by (with_reducible repeat (first | refine blk_drewN ?_ _ | refine blk_drew ?_ | refine blk_alloc ?_ _)); refine blk_put (cs := #[.int .u64 t128, .int .u64 t131, .int .u8 (bt a0 0), .int .u8 x128003_25, .int .u8 x128004_25, .int .u8 x128005_25, .int .u8 x128006_25, .int .u8 x128007_25, .int .u8 x128008_25, .int .u8 x128009_25, .int .u8 x128010_25, .int .u8 x128011_25, .string (⟨#[]⟩ : ByteArray)]) ?_ 12 _ rfl; (with_reducible repeat (first | refine blk_drewN ?_ _ | refine blk_drew ?_ | refine blk_alloc ?_ _)); exact BK127.out) hb); have n2_ := Aside0.mk (below_step (by repeat (first | (with_reducible first | exact HB.out | apply below_alloc | apply pw_below_drewN | apply below_drew1 | refine below_set ?_ GE126.out | refine below_set ?_ GE127.out) | exact HB.out)) hb); clear BK126; clear BK127; clear HB; have BK126 := n0_; have BK127 := n1_; have HB := n2_; clear n0_ n1_ n2_; (try clear hb); (try clear hb2); (try clear hk); (try clear hi); have hcz53_0 : w52.cell? ⟨gb127, 0, none⟩ = some (.int .u64 t128) := (blk_cell BK127.out 0).trans rfl; have hcz53_1 : w52.cell? ⟨gb127, 1, none⟩ = some (.int .u64 t131) := (blk_cell BK127.out 1).trans rfl; have hcz53_2 : w52.cell? ⟨gb127, 2, none⟩ = some (.int .u8 (bt a0 0)) := (blk_cell BK127.out 2).trans rfl; have hcz53_3 : w52.cell? ⟨gb127, 3, none⟩ = some (.int .u8 x128003_25) := (blk_cell BK127.out 3).trans rfl; have hcz53_4 : w52.cell? ⟨gb127, 4, none⟩ = some (.int .u8 x128004_25) := (blk_cell BK127.out 4).trans rfl; have hcz53_5 : w52.cell? ⟨gb127, 5, none⟩ = some (.int .u8 x128005_25) := (blk_cell BK127.out 5).trans rfl; have hcz53_6 : w52.cell? ⟨gb127, 6, none⟩ = some (.int .u8 x128006_25) := (blk_cell BK127.out 6).trans rfl; have hcz53_7 : w52.cell? ⟨gb127, 7, none⟩ = some (.int .u8 x128007_25) := (blk_cell BK127.out 7).trans rfl; have hcz53_8 : w52.cell? ⟨gb127, 8, none⟩ = some (.int .u8 x128008_25) := (blk_cell BK127.out 8).trans rfl; have hcz53_9 : w52.cell? ⟨gb127, 9, none⟩ = some (.int .u8 x128009_25) := (blk_cell BK127.out 9).trans rfl; have hcz53_10 : w52.cell? ⟨gb127, 10, none⟩ = some (.int .u8 x128010_25) := (blk_cell BK127.out 10).trans rfl; have hcz53_11 : w52.cell? ⟨gb127, 11, none⟩ = some (.int .u8 x128011_25) := (blk_cell BK127.out 11).trans rfl; have hcz53_12 : w52.cell? ⟨gb127, 12, none⟩ = some (.string t134) := (blk_cell BK127.out 12).trans rfl; have hfz53_0 := blk_frozen BK127.out 0; have hfz53_1 := blk_frozen BK127.out 1; have hfz53_2 := blk_frozen BK127.out 2; have hfz53_3 := blk_frozen BK127.out 3; have hfz53_4 := blk_frozen BK127.out 4; have hfz53_5 := blk_frozen BK127.out 5; have hfz53_6 := blk_frozen BK127.out 6; have hfz53_7 := blk_frozen BK127.out 7; have hfz53_8 := blk_frozen BK127.out 8; have hfz53_9 := blk_frozen BK127.out 9; have hfz53_10 := blk_frozen BK127.out 10; have hfz53_11 := blk_frozen BK127.out 11; have hfz53_12 := blk_frozen BK127.out 12; have hcz54_0 : w52.cell? ⟨gb126, 0, none⟩ = some (.int .u64 0) := (blk_cell BK126.out 0).trans rfl; have hcz54_1 : w52.cell? ⟨gb126, 1, none⟩ = some (.int .u64 0) := (blk_cell BK126.out 1).trans rfl; have hcz54_2 : w52.cell? ⟨gb126, 2, none⟩ = some (.int .u8 0) := (blk_cell BK126.out 2).trans rfl; have hcz54_3 : w52.cell? ⟨gb126, 3, none⟩ = some (.int .u8 0) := (blk_cell BK126.out 3).trans rfl; have hcz54_4 : w52.cell? ⟨gb126, 4, none⟩ = some (.int .u8 0) := (blk_cell BK126.out 4).trans rfl; have hcz54_5 : w52.cell? ⟨gb126, 5, none⟩ = some (.int .u8 0) := (blk_cell BK126.out 5).trans rfl; have hcz54_6 : w52.cell? ⟨gb126, 6, none⟩ = some (.int .u8 0) := (blk_cell BK126.out 6).trans rfl; have hcz54_7 : w52.cell? ⟨gb126, 7, none⟩ = some (.int .u8 0) := (blk_cell BK126.out 7).trans rfl; have hcz54_8 : w52.cell? ⟨gb126, 8, none⟩ = some (.int .u8 0) := (blk_cell BK126.out 8).trans rfl; have hcz54_9 : w52.cell? ⟨gb126, 9, none⟩ = some (.int .u8 0) := (blk_cell BK126.out 9).trans rfl; have hcz54_10 : w52.cell? ⟨gb126, 10, none⟩ = some (.int .u8 0) := (blk_cell BK126.out 10).trans rfl; have hcz54_11 : w52.cell? ⟨gb126, 11, none⟩ = some (.int .u8 0) := (blk_cell BK126.out 11).trans rfl; have hcz54_12 : w52.cell? ⟨gb126, 12, none⟩ = some (.string (⟨#[]⟩ : ByteArray)) := (blk_cell BK126.out 12).trans rfl; have hfz54_0 := blk_frozen BK126.out 0; have hfz54_1 := blk_frozen BK126.out 1; have hfz54_2 := blk_frozen BK126.out 2; have hfz54_3 := blk_frozen BK126.out 3; have hfz54_4 := blk_frozen BK126.out 4; have hfz54_5 := blk_frozen BK126.out 5; have hfz54_6 := blk_frozen BK126.out 6; have hfz54_7 := blk_frozen BK126.out 7; have hfz54_8 := blk_frozen BK126.out 8; have hfz54_9 := blk_frozen BK126.out 9; have hfz54_10 := blk_frozen BK126.out 10; have hfz54_11 := blk_frozen BK126.out 11; have hfz54_12 := blk_frozen BK126.out 12))
             refine bodyPost_ret (results_ct rfl _ _ gb126 27 #[.int .u64 t128, .int .u64 t131, .int .u8 (bt a0 0), .int .u8 x128003_25, .int .u8 x128004_25, .int .u8 x128005_25, .int .u8 x128006_25, .int .u8 x128007_25, .int .u8 x128008_25, .int .u8 x128009_25, .int .u8 x128010_25, .int .u8 x128011_25, .string t134] (0, 0) _ rfl (by (with_reducible repeat (first | refine blk_drewN ?_ _ | refine blk_drew ?_ | refine blk_alloc ?_ _)); refine blk_put (cs := #[.int .u64 t128, .int .u64 t131, .int .u8 (bt a0 0), .int .u8 x128003_25, .int .u8 x128004_25, .int .u8 x128005_25, .int .u8 x128006_25, .int .u8 x128007_25, .int .u8 x128008_25, .int .u8 x128009_25, .int .u8 x128010_25, .int .u8 x128011_25, .string (⟨#[]⟩ : ByteArray)]) ?_ 12 _ rfl; (with_reducible repeat (first | refine blk_drewN ?_ _ | refine blk_drew ?_ | refine blk_alloc ?_ _)); refine blk_put (cs := #[.int .u64 t128, .int .u64 t131, .int .u8 (bt a0 0), .int .u8 x128003_25, .int .u8 x128004_25, .int .u8 x128005_25, .int .u8 x128006_25, .int .u8 x128007_25, .int .u8 x128008_25, .int .u8 x128009_25, .int .u8 x128010_25, .int .u8 0, .string (⟨#[]⟩ : ByteArray)]) ?_ 11 _ rfl; (with_reducible repeat (first | refine blk_drewN ?_ _ | refine blk_drew ?_ | refine blk_alloc ?_ _)); refine blk_put (cs := #[.int .u64 t128, .int .u64 t131, .int .u8 (bt a0 0), .int .u8 x128003_25, .int .u8 x128004_25, .int .u8 x128005_25, .int .u8 x128006_25, .int .u8 x128007_25, .int .u8 x128008_25, .int .u8 x128009_25, .int .u8 0, .int .u8 0, .string (⟨#[]⟩ : ByteArray)]) ?_ 10 _ rfl; (with_reducible repeat (first | refine blk_drewN ?_ _ | refine blk_drew ?_ | refine blk_alloc ?_ _)); refine blk_put (cs := #[.int .u64 t128, .int .u64 t131, .int .u8 (bt a0 0), .int .u8 x128003_25, .int .u8 x128004_25, .int .u8 x128005_25, .int .u8 x128006_25, .int .u8 x128007_25, .int .u8 x128008_25, .int .u8 0, .int .u8 0, .int .u8 0, .string (⟨#[]⟩ : ByteArray)]) ?_ 9 _ rfl; (with_reducible repeat (first | refine blk_drewN ?_ _ | refine blk_drew ?_ | refine blk_alloc ?_ _)); refine blk_put (cs := #[.int .u64 t128, .int .u64 t131, .int .u8 (bt a0 0), .int .u8 x128003_25, .int .u8 x128004_25, .int .u8 x128005_25, .int .u8 x128006_25, .int .u8 x128007_25, .int .u8 0, .int .u8 0, .int .u8 0, .int .u8 0, .string (⟨#[]⟩ : ByteArray)]) ?_ 8 _ rfl; (with_reducible repeat (first | refine blk_drewN ?_ _ | refine blk_drew ?_ | refine blk_alloc ?_ _)); refine blk_put (cs := #[.int .u64 t128, .int .u64 t131, .int .u8 (bt a0 0), .int .u8 x128003_25, .int .u8 x128004_25, .int .u8 x128005_25, .int .u8 x128006_25, .int .u8 0, .int .u8 0, .int .u8 0, .int .u8 0, .int .u8 0, .string (⟨#[]⟩ : ByteArray)]) ?_ 7 _ rfl; (with_reducible repeat (first | refine blk_drewN ?_ _ | refine blk_drew ?_ | refine blk_alloc ?_ _)); refine blk_put (cs := #[.int .u64 t128, .int .u64 t131, .int .u8 (bt a0 0), .int .u8 x128003_25, .int .u8 x128004_25, .int .u8 x128005_25, .int .u8 0, .int .u8 0, .int .u8 0, .int .u8 0, .int .u8 0, .int .u8 0, .string (⟨#[]⟩ : ByteArray)]) ?_ 6 _ rfl; (with_reducible repeat (first | refine blk_drewN ?_ _ | refine blk_drew ?_ | refine blk_alloc ?_ _)); refine blk_put (cs := #[.int .u64 t128, .int .u64 t131, .int .u8 (bt a0 0), .int .u8 x128003_25, .int .u8 x128004_25, .int .u8 0, .int .u8 0, .int .u8 0, .int .u8 0, .int .u8 0, .int .u8 0, .int .u8 0, .string (⟨#[]⟩ : ByteArray)]) ?_ 5 _ rfl; (with_reducible repeat (first | refine blk_drewN ?_ _ | refine blk_drew ?_ | refine blk_alloc ?_ _)); refine blk_put (cs := #[.int .u64 t128, .int .u64 t131, .int .u8 (bt a0 0), .int .u8 x128003_25, .int .u8 0, .int .u8 0, .int .u8 0, .int .u8 0, .int .u8 0, .int .u8 0, .int .u8 0, .int .u8 0, .string (⟨#[]⟩ : ByteArray)]) ?_ 4 _ rfl; (with_reducible repeat (first | refine blk_drewN ?_ _ | refine blk_drew ?_ | refine blk_alloc ?_ _)); refine blk_put (cs := #[.int .u64 t128, .int .u64 t131, .int .u8 (bt a0 0), .int .u8 0, .int .u8 0, .int .u8 0, .int .u8 0, .int .u8 0, .int .u8 0, .int .u8 0, .int .u8 0, .int .u8 0, .string (⟨#[]⟩ : ByteArray)]) ?_ 3 _ rfl; (with_reducible repeat (first | refine blk_drewN ?_ _ | refine blk_drew ?_ | refine blk_alloc ?_ _)); refine blk_put (cs := #[.int .u64 t128, .int .u64 t131, .int .u8 0, .int .u8 0, .int .u8 0, .int .u8 0, .int .u8 0, .int .u8 0, .int .u8 0, .int .u8 0, .int .u8 0, .int .u8 0, .string (⟨#[]⟩ : ByteArray)]) ?_ 2 _ rfl; (with_reducible repeat (first | refine blk_drewN ?_ _ | refine blk_drew ?_ | refine blk_alloc ?_ _)); refine blk_put (cs := #[.int .u64 t128, .int .u64 0, .int .u8 0, .int .u8 0, .int .u8 0, .int .u8 0, .int .u8 0, .int .u8 0, .int .u8 0, .int .u8 0, .int .u8 0, .int .u8 0, .string (⟨#[]⟩ : ByteArray)]) ?_ 1 _ rfl; (with_reducible repeat (first | refine blk_drewN ?_ _ | refine blk_drew ?_ | refine blk_alloc ?_ _)); refine blk_put (cs := #[.int .u64 0, .int .u64 0, .int .u8 0, .int .u8 0, .int .u8 0, .int .u8 0, .int .u8 0, .int .u8 0, .int .u8 0, .int .u8 0, .int .u8 0, .int .u8 0, .string (⟨#[]⟩ : ByteArray)]) ?_ 0 _ rfl; (with_reducible repeat (first | refine blk_drewN ?_ _ | refine blk_drew ?_ | refine blk_alloc ?_ _)); exact BK126.out) Try.underlying27 rfl (by kernel_rfl)) rfl ?_
             exact ⟨by first | rfl | (simp [errW_none, errW_some] <;> rfl) | (simp only [← hji9, ← hji13]; first | rfl | (simp [errW_none, errW_some] <;> rfl)) | (simp [*, errW_none, errW_some] <;> rfl), by repeat (first | (with_reducible first | exact HB.out | apply below_alloc | apply pw_below_drewN | apply below_drew1 | refine below_set ?_ GE126.out | refine below_set ?_ GE127.out) | exact HB.out)⟩
            ·rw [if_neg c49] at H
             have c49b0 : (t137.toList == a0.toList) = false := beq_eq_false_iff_ne.mpr c49
             have c49b1 : (t137.toList != a0.toList) = true := bne_iff_ne.mpr c49
             simp only [Option.some.injEq, Prod.mk.injEq] at H
             obtain ⟨rfl, rfl, rfl, rfl, rfl, rfl, rfl, rfl, rfl, rfl, rfl, rfl, rfl, rfl⟩ := H
             go_wp2_with (first | ((with_reducible refine gate_callee (f := 23) rfl ?_); refine goesL_ (some 65) rfl rfl Try.func23 (by kernel_rfl) rfl #[.string x11_25] rfl (by (try simp only [List.map_toArray, List.map_cons, List.map_nil]); first | done | rfl | (simp only [List.length_drop, List.length_take]; rfl)) ?_; (with_reducible refine (num_ReadS.calls kj25 x11_25 t134 t135 t136 _ A47.out).mono ?_); rintro e w' ⟨rfl, ⟨nd, rfl⟩⟩; refine ⟨_, rfl, ?_⟩; (try (rw [drewN_self wc]; generalize hq_ : World.drewN wc _ = wc; have n0_ : Aside0 (wc.heap[gb126]? = some (.cells #[.int .u64 0, .int .u64 0, .int .u8 0, .int .u8 0, .int .u8 0, .int .u8 0, .int .u8 0, .int .u8 0, .int .u8 0, .int .u8 0, .int .u8 0, .int .u8 0, .string (⟨#[]⟩ : ByteArray)] 27 (0, 0))) := ⟨by rw [← hq_]; exact (by (with_reducible repeat (first | refine blk_drewN ?_ _ | refine blk_drew ?_ | refine blk_alloc ?_ _)); exact BK126.out)⟩; have n1_ : Aside0 (wc.heap[gb127]? = some (.cells #[.int .u64 t128, .int .u64 t131, .int .u8 (bt a0 0), .int .u8 x128003_25, .int .u8 x128004_25, .int .u8 x128005_25, .int .u8 x128006_25, .int .u8 x128007_25, .int .u8 x128008_25, .int .u8 x128009_25, .int .u8 x128010_25, .int .u8 x128011_25, .string (⟨#[]⟩ : ByteArray)] 27 (0, 0))) := ⟨by rw [← hq_]; exact (by (with_reducible repeat (first | refine blk_drewN ?_ _ | refine blk_drew ?_ | refine blk_alloc ?_ _)); exact BK127.out)⟩; have n2_ : Aside0 (Below w.heap.size w wc) := ⟨by rw [← hq_]; exact (by repeat (first | (with_reducible first | exact HB.out | apply below_alloc | apply pw_below_drewN | apply below_drew1 | refine below_set ?_ GE126.out | refine below_set ?_ GE127.out) | exact HB.out))⟩; clear BK126 BK127 HB hq_; have BK126 := n0_; have BK127 := n1_; have HB := n2_; clear n0_ n1_ n2_)); have hnb55 := NB127_126.out; have hnc55 := NB126_127.out; have hcz56_0 : wc.cell? ⟨gb127, 0, none⟩ = some (.int .u64 t128) := (blk_cell BK127.out 0).trans rfl; have hcz56_1 : wc.cell? ⟨gb127, 1, none⟩ = some (.int .u64 t131) := (blk_cell BK127.out 1).trans rfl; have hcz56_2 : wc.cell? ⟨gb127, 2, none⟩ = some (.int .u8 (bt a0 0)) := (blk_cell BK127.out 2).trans rfl; have hcz56_3 : wc.cell? ⟨gb127, 3, none⟩ = some (.int .u8 x128003_25) := (blk_cell BK127.out 3).trans rfl; have hcz56_4 : wc.cell? ⟨gb127, 4, none⟩ = some (.int .u8 x128004_25) := (blk_cell BK127.out 4).trans rfl; have hcz56_5 : wc.cell? ⟨gb127, 5, none⟩ = some (.int .u8 x128005_25) := (blk_cell BK127.out 5).trans rfl; have hcz56_6 : wc.cell? ⟨gb127, 6, none⟩ = some (.int .u8 x128006_25) := (blk_cell BK127.out 6).trans rfl; have hcz56_7 : wc.cell? ⟨gb127, 7, none⟩ = some (.int .u8 x128007_25) := (blk_cell BK127.out 7).trans rfl; have hcz56_8 : wc.cell? ⟨gb127, 8, none⟩ = some (.int .u8 x128008_25) := (blk_cell BK127.out 8).trans rfl; have hcz56_9 : wc.cell? ⟨gb127, 9, none⟩ = some (.int .u8 x128009_25) := (blk_cell BK127.out 9).trans rfl; have hcz56_10 : wc.cell? ⟨gb127, 10, none⟩ = some (.int .u8 x128010_25) := (blk_cell BK127.out 10).trans rfl; have hcz56_11 : wc.cell? ⟨gb127, 11, none⟩ = some (.int .u8 x128011_25) := (blk_cell BK127.out 11).trans rfl; have hcz56_12 : wc.cell? ⟨gb127, 12, none⟩ = some (.string (⟨#[]⟩ : ByteArray)) := (blk_cell BK127.out 12).trans rfl; have hfz56_0 := blk_frozen BK127.out 0; have hfz56_1 := blk_frozen BK127.out 1; have hfz56_2 := blk_frozen BK127.out 2; have hfz56_3 := blk_frozen BK127.out 3; have hfz56_4 := blk_frozen BK127.out 4; have hfz56_5 := blk_frozen BK127.out 5; have hfz56_6 := blk_frozen BK127.out 6; have hfz56_7 := blk_frozen BK127.out 7; have hfz56_8 := blk_frozen BK127.out 8; have hfz56_9 := blk_frozen BK127.out 9; have hfz56_10 := blk_frozen BK127.out 10; have hfz56_11 := blk_frozen BK127.out 11; have hfz56_12 := blk_frozen BK127.out 12) | ((with_reducible refine gate_callee (f := 9) rfl ?_); refine goesL_ (some 71) rfl rfl Try.func9 (by kernel_rfl) rfl #[.agg #[.int .u64 t128, .int .u64 t131, .int .u8 (bt a0 0), .int .u8 x128003_25, .int .u8 x128004_25, .int .u8 x128005_25, .int .u8 x128006_25, .int .u8 x128007_25, .int .u8 x128008_25, .int .u8 x128009_25, .int .u8 x128010_25, .int .u8 x128011_25, .string t134]] rfl (by (try simp only [List.map_toArray, List.map_cons, List.map_nil]); first | done | rfl | (simp only [List.length_drop, List.length_take]; rfl)) ?_; (with_reducible refine (entry_Write.calls kj25 t128 t131 (bt a0 0) x128003_25 x128004_25 x128005_25 x128006_25 x128007_25 x128008_25 x128009_25 x128010_25 x128011_25 t134 t137 _ A48.out).mono ?_); rintro e w57 ⟨rfl, hb⟩; refine ⟨_, rfl, ?_⟩; have n0_ := Aside0.mk (blk_below (g := gb126) (o := .cells #[.int .u64 0, .int .u64 0, .int .u8 0, .int .u8 0, .int .u8 0, .int .u8 0, .int .u8 0, .int .u8 0, .int .u8 0, .int .u8 0, .int .u8 0, .int .u8 0, .string (⟨#[]⟩ : ByteArray)] 27 (0, 0)) (by (with_reducible repeat (first | refine blk_drewN ?_ _ | refine blk_drew ?_ | refine blk_alloc ?_ _)); refine blk_far ?_ NB126_127.out _; (with_reducible repeat (first | refine blk_drewN ?_ _ | refine blk_drew ?_ | refine blk_alloc ?_ _)); exact BK126.out) hb); have n1_ := Aside0.mk (blk_below (g := gb127) (o := .cells #[.int .u64 t128, .int .u64 t131, .int .u8 (bt a0 0), .int .u8 x128003_25, .int .u8 x128004_25, .int .u8 x128005_25, .int .u8 x128006_25, .int .u8 x128007_25, .int .u8 x128008_25, .int .u8 x128009_25, .int .u8 x128010_25, .int .u8 x128011_25, .string t134] 27 (0, 0)) (by (with_reducible repeat (first | refine blk_drewN ?_ _ | refine blk_drew ?_ | refine blk_alloc ?_ _)); refine blk_put (cs := #[.int .u64 t128, .int .u64 t131, .int .u8 (bt a0 0), .int .u8 x128003_25, .int .u8 x128004_25, .int .u8 x128005_25, .int .u8 x128006_25, .int .u8 x128007_25, .int .u8 x128008_25, .int .u8 x128009_25, .int .u8 x128010_25, .int .u8 x128011_25, .string (⟨#[]⟩ : ByteArray)]) ?_ 12 _ rfl; (with_reducible repeat (first | refine blk_drewN ?_ _ | refine blk_drew ?_ | refine blk_alloc ?_ _)); exact BK127.out) hb); have n2_ := Aside0.mk (below_step (by repeat (first | (with_reducible first | exact HB.out | apply below_alloc | apply pw_below_drewN | apply below_drew1 | refine below_set ?_ GE126.out | refine below_set ?_ GE127.out) | exact HB.out)) hb); clear BK126; clear BK127; clear HB; have BK126 := n0_; have BK127 := n1_; have HB := n2_; clear n0_ n1_ n2_; (try clear hb); (try clear hb2); (try clear hk); (try clear hi); have hcz58_0 : w57.cell? ⟨gb126, 0, none⟩ = some (.int .u64 0) := (blk_cell BK126.out 0).trans rfl; have hcz58_1 : w57.cell? ⟨gb126, 1, none⟩ = some (.int .u64 0) := (blk_cell BK126.out 1).trans rfl; have hcz58_2 : w57.cell? ⟨gb126, 2, none⟩ = some (.int .u8 0) := (blk_cell BK126.out 2).trans rfl; have hcz58_3 : w57.cell? ⟨gb126, 3, none⟩ = some (.int .u8 0) := (blk_cell BK126.out 3).trans rfl; have hcz58_4 : w57.cell? ⟨gb126, 4, none⟩ = some (.int .u8 0) := (blk_cell BK126.out 4).trans rfl; have hcz58_5 : w57.cell? ⟨gb126, 5, none⟩ = some (.int .u8 0) := (blk_cell BK126.out 5).trans rfl; have hcz58_6 : w57.cell? ⟨gb126, 6, none⟩ = some (.int .u8 0) := (blk_cell BK126.out 6).trans rfl; have hcz58_7 : w57.cell? ⟨gb126, 7, none⟩ = some (.int .u8 0) := (blk_cell BK126.out 7).trans rfl; have hcz58_8 : w57.cell? ⟨gb126, 8, none⟩ = some (.int .u8 0) := (blk_cell BK126.out 8).trans rfl; have hcz58_9 : w57.cell? ⟨gb126, 9, none⟩ = some (.int .u8 0) := (blk_cell BK126.out 9).trans rfl; have hcz58_10 : w57.cell? ⟨gb126, 10, none⟩ = some (.int .u8 0) := (blk_cell BK126.out 10).trans rfl; have hcz58_11 : w57.cell? ⟨gb126, 11, none⟩ = some (.int .u8 0) := (blk_cell BK126.out 11).trans rfl; have hcz58_12 : w57.cell? ⟨gb126, 12, none⟩ = some (.string (⟨#[]⟩ : ByteArray)) := (blk_cell BK126.out 12).trans rfl; have hfz58_0 := blk_frozen BK126.out 0; have hfz58_1 := blk_frozen BK126.out 1; have hfz58_2 := blk_frozen BK126.out 2; have hfz58_3 := blk_frozen BK126.out 3; have hfz58_4 := blk_frozen BK126.out 4; have hfz58_5 := blk_frozen BK126.out 5; have hfz58_6 := blk_frozen BK126.out 6; have hfz58_7 := blk_frozen BK126.out 7; have hfz58_8 := blk_frozen BK126.out 8; have hfz58_9 := blk_frozen BK126.out 9; have hfz58_10 := blk_frozen BK126.out 10; have hfz58_11 := blk_frozen BK126.out 11; have hfz58_12 := blk_frozen BK126.out 12))
             refine bodyPost_ret (results_ct rfl _ _ gb126 27 #[.int .u64 0, .int .u64 0, .int .u8 0, .int .u8 0, .int .u8 0, .int .u8 0, .int .u8 0, .int .u8 0, .int .u8 0, .int .u8 0, .int .u8 0, .int .u8 0, .string (⟨#[]⟩ : ByteArray)] (0, 0) _ rfl (by (with_reducible repeat (first | refine blk_drewN ?_ _ | refine blk_drew ?_ | refine blk_alloc ?_ _)); refine blk_put (cs := #[.int .u64 0, .int .u64 0, .int .u8 0, .int .u8 0, .int .u8 0, .int .u8 0, .int .u8 0, .int .u8 0, .int .u8 0, .int .u8 0, .int .u8 0, .int .u8 0, .string (⟨#[]⟩ : ByteArray)]) ?_ 12 _ rfl; (with_reducible repeat (first | refine blk_drewN ?_ _ | refine blk_drew ?_ | refine blk_alloc ?_ _)); refine blk_put (cs := #[.int .u64 0, .int .u64 0, .int .u8 0, .int .u8 0, .int .u8 0, .int .u8 0, .int .u8 0, .int .u8 0, .int .u8 0, .int .u8 0, .int .u8 0, .int .u8 0, .string (⟨#[]⟩ : ByteArray)]) ?_ 11 _ rfl; (with_reducible repeat (first | refine blk_drewN ?_ _ | refine blk_drew ?_ | refine blk_alloc ?_ _)); refine blk_put (cs := #[.int .u64 0, .int .u64 0, .int .u8 0, .int .u8 0, .int .u8 0, .int .u8 0, .int .u8 0, .int .u8 0, .int .u8 0, .int .u8 0, .int .u8 0, .int .u8 0, .string (⟨#[]⟩ : ByteArray)]) ?_ 10 _ rfl; (with_reducible repeat (first | refine blk_drewN ?_ _ | refine blk_drew ?_ | refine blk_alloc ?_ _)); refine blk_put (cs := #[.int .u64 0, .int .u64 0, .int .u8 0, .int .u8 0, .int .u8 0, .int .u8 0, .int .u8 0, .int .u8 0, .int .u8 0, .int .u8 0, .int .u8 0, .int .u8 0, .string (⟨#[]⟩ : ByteArray)]) ?_ 9 _ rfl; (with_reducible repeat (first | refine blk_drewN ?_ _ | refine blk_drew ?_ | refine blk_alloc ?_ _)); refine blk_put (cs := #[.int .u64 0, .int .u64 0, .int .u8 0, .int .u8 0, .int .u8 0, .int .u8 0, .int .u8 0, .int .u8 0, .int .u8 0, .int .u8 0, .int .u8 0, .int .u8 0, .string (⟨#[]⟩ : ByteArray)]) ?_ 8 _ rfl; (with_reducible repeat (first | refine blk_drewN ?_ _ | refine blk_drew ?_ | refine blk_alloc ?_ _)); refine blk_put (cs := #[.int .u64 0, .int .u64 0, .int .u8 0, .int .u8 0, .int .u8 0, .int .u8 0, .int .u8 0, .int .u8 0, .int .u8 0, .int .u8 0, .int .u8 0, .int .u8 0, .string (⟨#[]⟩ : ByteArray)]) ?_ 7 _ rfl; (with_reducible repeat (first | refine blk_drewN ?_ _ | refine blk_drew ?_ | refine blk_alloc ?_ _)); refine blk_put (cs := #[.int .u64 0, .int .u64 0, .int .u8 0, .int .u8 0, .int .u8 0, .int .u8 0, .int .u8 0, .int .u8 0, .int .u8 0, .int .u8 0, .int .u8 0, .int .u8 0, .string (⟨#[]⟩ : ByteArray)]) ?_ 6 _ rfl; (with_reducible repeat (first | refine blk_drewN ?_ _ | refine blk_drew ?_ | refine blk_alloc ?_ _)); refine blk_put (cs := #[.int .u64 0, .int .u64 0, .int .u8 0, .int .u8 0, .int .u8 0, .int .u8 0, .int .u8 0, .int .u8 0, .int .u8 0, .int .u8 0, .int .u8 0, .int .u8 0, .string (⟨#[]⟩ : ByteArray)]) ?_ 5 _ rfl; (with_reducible repeat (first | refine blk_drewN ?_ _ | refine blk_drew ?_ | refine blk_alloc ?_ _)); refine blk_put (cs := #[.int .u64 0, .int .u64 0, .int .u8 0, .int .u8 0, .int .u8 0, .int .u8 0, .int .u8 0, .int .u8 0, .int .u8 0, .int .u8 0, .int .u8 0, .int .u8 0, .string (⟨#[]⟩ : ByteArray)]) ?_ 4 _ rfl; (with_reducible repeat (first | refine blk_drewN ?_ _ | refine blk_drew ?_ | refine blk_alloc ?_ _)); refine blk_put (cs := #[.int .u64 0, .int .u64 0, .int .u8 0, .int .u8 0, .int .u8 0, .int .u8 0, .int .u8 0, .int .u8 0, .int .u8 0, .int .u8 0, .int .u8 0, .int .u8 0, .string (⟨#[]⟩ : ByteArray)]) ?_ 3 _ rfl; (with_reducible repeat (first | refine blk_drewN ?_ _ | refine blk_drew ?_ | refine blk_alloc ?_ _)); refine blk_put (cs := #[.int .u64 0, .int .u64 0, .int .u8 0, .int .u8 0, .int .u8 0, .int .u8 0, .int .u8 0, .int .u8 0, .int .u8 0, .int .u8 0, .int .u8 0, .int .u8 0, .string (⟨#[]⟩ : ByteArray)]) ?_ 2 _ rfl; (with_reducible repeat (first | refine blk_drewN ?_ _ | refine blk_drew ?_ | refine blk_alloc ?_ _)); refine blk_put (cs := #[.int .u64 0, .int .u64 0, .int .u8 0, .int .u8 0, .int .u8 0, .int .u8 0, .int .u8 0, .int .u8 0, .int .u8 0, .int .u8 0, .int .u8 0, .int .u8 0, .string (⟨#[]⟩ : ByteArray)]) ?_ 1 _ rfl; (with_reducible repeat (first | refine blk_drewN ?_ _ | refine blk_drew ?_ | refine blk_alloc ?_ _)); refine blk_put (cs := #[.int .u64 0, .int .u64 0, .int .u8 0, .int .u8 0, .int .u8 0, .int .u8 0, .int .u8 0, .int .u8 0, .int .u8 0, .int .u8 0, .int .u8 0, .int .u8 0, .string (⟨#[]⟩ : ByteArray)]) ?_ 0 _ rfl; (with_reducible repeat (first | refine blk_drewN ?_ _ | refine blk_drew ?_ | refine blk_alloc ?_ _)); exact BK126.out) Try.underlying27 rfl (by kernel_rfl)) rfl ?_
             exact ⟨by first | rfl | (simp [errW_none, errW_some] <;> rfl) | (simp only [← hji9, ← hji13]; first | rfl | (simp [errW_none, errW_some] <;> rfl)) | (simp [*, errW_none, errW_some] <;> rfl), by repeat (first | (with_reducible first | exact HB.out | apply below_alloc | apply pw_below_drewN | apply below_drew1 | refine below_set ?_ GE126.out | refine below_set ?_ GE127.out) | exact HB.out)⟩
       ·rw [if_neg c15] at H
        exact absurd H (by simp)
      ·rw [if_neg c14] at H
       exact absurd H (by simp)
     ·rw [if_neg c11] at H
      exact absurd H (by simp)
    ·rw [if_neg c10] at H
     exact absurd H (by simp)
   ·rw [if_neg c7] at H
    exact absurd H (by simp)
  ·rw [if_neg c5] at H
   exact absurd H (by simp)

end Go.Proofs.Ytimfgflcflhfcaa.P
