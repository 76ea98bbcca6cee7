-- Written by wip/tools/myprint.sh out of the translation, over the kit's print with a patch. Not trusted: Lean checks it.
import Derived.Test.YthdjecgiefednaaPx0
namespace Go.Proofs.Ythdjecgiefednaa.P
open Go.RowKit Go.Proofs.YthdjecgiefednaaW.PrintWords Go.Proofs.YthdjecgiefednaaW.PrintLast Go.Proofs.YthdjecgiefednaaW.PrintMore Go.Proofs.Ythdjecgiefednaa.Num
attribute [local go_sem] max2_int min2_int max_two min_two max_three min_three max_four min_four   -- for this text's walks alone
set_option linter.unusedVariables false
set_option linter.unusedSimpArgs false

/-! ### num_V: function 9, by hand -/
-- HAND making=1
theorem and127 (x : Int) (h0 : 0 ≤ x) (h1 : x < 18446744073709551616) : bits .and .u64 x 127 = x % 128 :=
  bits_mask .u64 64 (by decide) (fun n a b => by simp [IntKind.wrap, IntKind.bits, IntKind.signed]; omega) 7 (by decide) x h0 (by omega)
theorem or128 (x : Int) (h0 : 0 ≤ x) (h1 : x < 128) : bits .or .u8 x 128 = 128 + x := by
  obtain ⟨a, rfl⟩ := Int.eq_ofNat_of_zero_le h0
  have h := (bits_nat .u8 8 (by decide) wraps_u8 128 a (by decide) (by omega)).2
  have h' := (bits_nat .u8 8 (by decide) wraps_u8 a 128 (by omega) (by decide)).2
  have e := bits_join .u8 8 (by decide) wraps_u8 7 128 a (by decide) (by decide) (by decide) (by omega) (by omega) (by omega)
  rw [Nat.or_comm] at h'
  rw [← e]
  exact h'.trans h.symm
theorem num_V.snoc (l : List Int) (k : Nat) (hk : k < l.length) : numV (l.take (k + 1)) = numV (l.take k) ++ grp (rd l k).toNat := by
  have e : rd l (k : Int) = l[k] := by simp [rd, List.getD_eq_getElem?_getD, List.getElem?_eq_getElem hk]
  rw [List.take_succ_eq_append_getElem hk, e]
  simp only [numV, List.flatMap_append, List.flatMap_cons, List.flatMap_nil, List.append_nil]
theorem num_V.info : (Try.prog.info? 5).map (fun i => (i.zero, i.size, i.bytes)) = some (some (.int .u8 0), 1, 1) := by kernel_rfl
theorem num_V.al : Try.prog.arrayLen 45 = 10 := by kernel_rfl
theorem num_V.el : Try.prog.elem 45 = 5 := by kernel_rfl
theorem num_V.ut : Try.prog.underlying 45 = some (.array 10 5) := by kernel_rfl
theorem num_V.cut (g at_ : Nat) (h : at_ ≤ 9) (W : World) : (Instr.sliceAt 45 (.pointer (some ⟨g, 0, none⟩)) (some (.int .i64 (at_ : Int))) none none).run Try.prog W = .ok (.slice (some ⟨g, at_, none⟩) (10 - at_) (10 - at_)) W := by
  rw [run_sliceAt_array_l W 45 _ (by rw [num_V.al, num_V.el]; exact num_V.ut) .i64 at_ (by omega) (by rw [num_V.al]; omega), num_V.al, num_V.el]
  obtain ⟨i0, hi, hz⟩ := Option.map_eq_some_iff.1 num_V.info
  simp only [Prod.mk.injEq] at hz
  have hs := hz.2.1
  have ha : (⟨g, 0, none⟩ : Addr).add at_ = ⟨g, at_, none⟩ := by unfold Addr.add; split <;> simp_all
  simp [sizeOf, typeInfo, hi, hs, slicedAt, Result.andThen, ha]
  omega
def num_V.f (l0 : List Int) : Option ByteArray := if l0.length ≤ 10000000000000 ∧ ∀ x ∈ l0, 0 ≤ x ∧ x < 18446744073709551616 then some ⟨(numV l0).toArray⟩ else none
theorem num_V.calls (A0 : Option Addr) (c0 : Nat) (l0 : List Int) (r : ByteArray) (w : World) (hr0 : Kd.C (Kd.int .u64) w A0 l0.length l0) (hc0 : l0.length ≤ c0) (h : num_V.f l0 = some r) :
    Calls Try.prog 9 #[.slice A0 l0.length c0] w fun e w' => e = .returned (.string r) ∧ Below w.heap.size w w' := by
  have HR0 := Aside0.mk hr0
  clear hr0
  have hh : (l0.length ≤ 10000000000000 ∧ ∀ x ∈ l0, 0 ≤ x ∧ x < 18446744073709551616) ∧ r = strOfNums (bI (numV l0)) := by
    unfold num_V.f at h
    split at h
    · rename_i hc
      exact ⟨hc, by rw [strOfNums_bI]; exact (Option.some.inj h).symm⟩
    · cases h
  clear h
  obtain ⟨⟨hl, hb0⟩, hr⟩ := hh
  have HRR := Aside0.mk hr
  clear hr
  have HL := Aside0.mk hb0
  clear hb0
  go_enter Try.func9, Try.ntmps9
  go_wp2
  go_loopg [3, 10] (l0.length) (fun kq v3 v10 w' => ∃ (k : Nat), k + kq = l0.length ∧ v10 = .int .i64 k ∧ Aside0 (w'.ownsRow w.heap.size 5 1 v3 (bI (numV (l0.take k))).length (nums .u8 (bI (numV (l0.take k))))) ∧ Aside0 (Below w.heap.size w w'))
  case atStart => exact ⟨0, by omega, rfl, ⟨own_nil _ _ _ _⟩, ⟨Below.refl _ _⟩⟩
  case round =>
    obtain ⟨k, hk, rfl, HO, HB⟩ := hrel
    obtain ⟨wo, rfl⟩ : ∃ wo : World, wo = wr := ⟨_, rfl⟩
    obtain ⟨go, rfl⟩ : ∃ go : Nat, go = gk := ⟨_, rfl⟩
    by_cases hlt : k < l0.length
    · obtain ⟨g1, rfl⟩ : ∃ m, go = m + 1 := ⟨go - 1, by omega⟩
      obtain ⟨ad, e126, hx⟩ := Kd.at_int HR0.out (k : Int) (by omega) (by omega)
      cases e126
      replace hx := (HB.out.cell (World.block_lt_of_cell? w _ hx)).trans hx
      rw [Int.toNat_natCast] at hx
      have p1 : (0 ≤ (k : Int)) = True := eq_true (by omega)
      have p2 : ((k : Int) < (l0.length : Int)) = True := eq_true (by omega)
      have p3 : decide ((k : Int) < (l0.length : Int)) = true := decide_eq_true (by omega)
      obtain ⟨N, HN, hN⟩ : ∃ N : Nat, Aside0 (rd l0 (k : Int) = N) ∧ N < 18446744073709551616 := by
        have h := HL.out (rd l0 (k : Int)) (by simp [rd, List.getD_eq_getElem?_getD, List.getElem?_eq_getElem hlt])
        exact ⟨(rd l0 (k : Int)).toNat, ⟨by omega⟩, by omega⟩
      rw [HN.out] at hx
      have e1 : bits .and .u64 (N : Int) 127 % 256 = ((N % 128 : Nat) : Int) := by rw [and127 _ (by omega) (by omega)]; omega
      go_wp2
      go_loopg [5, 7] N (fun kq v5 v7 w' => ∃ (n at_ : Nat) (cs : List Int), v5 = .int .u64 n ∧ v7 = .int .i64 at_ ∧ Aside0 (VIn N n at_ cs) ∧ Aside0 (n ≤ kq ∧ kq ≤ N) ∧
        Aside0 (w'.heap[wo.heap.size]? = some (.cells (nums .u8 cs).toArray 45 (0, 0))) ∧
        Aside0 (w'.ownsRow w.heap.size 5 1 u3 (bI (numV (l0.take k))).length (nums .u8 (bI (numV (l0.take k))))) ∧ Aside0 (Below w.heap.size w w'))
      case atStart =>
        refine ⟨N / 128, 9, _, by simp, by simp, ⟨VIn.start hN⟩, ⟨Nat.div_le_self _ _, Nat.le_refl _⟩, ⟨?_⟩, ⟨?_⟩, ⟨?_⟩⟩
        · rw [heap_alloc_new]; simp [nums]; try omega
        · exact HO.out.alloc _
        · exact below_alloc HB.out _
      case round =>
        obtain ⟨n, at_, cs, rfl, rfl, HV, HK, HC, HO2, HB2⟩ := hrel
        by_cases hn : n = 0
        · subst hn
          obtain ⟨d1, d2, d3⟩ := VIn.done HV.out
          have hsl := num_V.cut wo.heap.size at_ d2
          have HR : ReadsInt wr .u8 (some ⟨wo.heap.size, at_, none⟩) (10 - at_) (bI (grp N)) := by
            refine ⟨by rw [← d3, List.length_drop, d1], by omega, fun _ => ⟨_, rfl, fun j hj => ?_⟩⟩
            rw [add_at, blk_cell HC.out, ← d3]
            simp [nums, d1, show at_ + j < 10 from by omega, List.getD_eq_getElem?_getD, List.getElem?_drop]
          have Hd := Aside0.mk d3
          have Hg := grp_len_le hN
          have Hk : (bI (numV (l0.take k))).length ≤ 10 * k := by rw [bI_length]; exact numV_length _ _ HL.out
          have Hc2 : Aside0 (((bI (numV (l0.take k))).length + (10 - at_)) * 1 ≤ 140737488355328) := ⟨by omega⟩
          clear d3
          go_wp2_with (at_builtin; go_loud (refine print_append_row (w0 := w) w.heap.size rfl (.tmp 33) (.tmp 35) 44 5 .u8 1 rfl Try.underlying44 num_V.info (by decide) u3 _ (bI (grp N)) (some ⟨wo.heap.size, at_, none⟩) (10 - at_) (10 - at_) rfl rfl HO2.out HR HB2.out HB2.out.size Hc2.out ?_); intro v1 w1 hown hB hg hat)
          go_roundg g1
          case measure => omega
          case rel =>
            refine ⟨k + 1, by omega, by go_num, ⟨?_⟩, ⟨hB⟩⟩
            have e := num_V.snoc l0 k hlt
            rw [HN.out, Int.toNat_natCast] at e
            rw [e]
            simpa [bI] using hown
        · have hpos : 0 < n := by omega
          obtain ⟨j1, hj1⟩ := VIn.next HV.out hn
          have Hj := Aside0.mk hj1
          have hV := HV.out
          have hat9 : at_ ≤ 9 := hV.2.1
          have hcl : cs.length = 10 := hV.1
          clear hV hj1
          have Hcl := Aside0.mk hcl
          obtain ⟨m, rfl⟩ : ∃ m, gk = m + 1 := ⟨gk - 1, by have := HK.out; omega⟩
          have e2 : bits .or .u8 (bits .and .u64 (n : Int) 127 % 256) 128 = 128 + ((n % 128 : Nat) : Int) := by
            rw [and127 _ (by omega) (by have := HK.out; omega), show (n : Int) % 128 % 256 = ((n % 128 : Nat) : Int) from by omega, or128 _ (by omega) (by omega)]
          have hcc : wr.cell? ⟨wo.heap.size, at_ - 1, none⟩ = some (.int .u8 (cs.getD (at_ - 1) 0)) := by
            rw [blk_cell HC.out]
            simp [nums, List.getD_eq_getElem?_getD, List.getElem?_eq_getElem (show at_ - 1 < cs.length by omega)]
          have hff := blk_frozen HC.out (at_ - 1)
          clear hcl
          go_wp2
          go_roundg m
          case measure => omega
          case rel =>
            refine ⟨n / 128, at_ - 1, _, by simp, by simp; omega, ⟨Hj.out⟩, ⟨by have := HK.out; omega⟩, ⟨?_⟩, ⟨?_⟩, ⟨?_⟩⟩
            · have h := blk_set HC.out (at_ - 1) (.int .u8 (128 + ((n % 128 : Nat) : Int)))
              simpa [nums, List.map_set] using h
            · exact own_setCell HO2.out (fun h => by
                have := own_lt HO.out _ h.symm
                simp at this) _
            · exact HB2.out.setCell HB.out.size _
    · obtain rfl : k = l0.length := by omega
      have p3 : decide ((l0.length : Int) < (l0.length : Int)) = false := decide_eq_false (by omega)
      rw [List.take_length] at HO
      have hcv := own_string (P := Try.prog) Try.underlying44 Try.underlying5 Try.underlying9 HO.out
      go_wp2
      go_ret
      exact ⟨by rw [HRR.out]; rfl, HB.out⟩

/-! ### num_U: function 15 -/
mutual
def num_U.j0 : Nat → Int → Int → Bool → Option (ByteArray)
  | 0, _, _, _ => none
  | k + 1, x0, x1, x12 => if x12 = true then (some (⟨#[]⟩ : ByteArray)) else (if 0 ≤ x1 then (if (x1 : Int).toNat ≤ 281474976710656 then (num_U.l0 k x0 (List.replicate (x1 : Int).toNat 0) (wrap64 (x1 - 1))) else (none)) else (none))
def num_U.l0 : Nat → Int → List Int → Int → Option (ByteArray)
  | 0, _, _, _ => none
  | k + 1, x0, x5, x6 => if x6 ≥ 0 then (if 0 ≤ x6 then (if x6 < (x5.length : Int) then (num_U.l0 k (x0 / 256) (x5.set (x6 : Int).toNat ((x0) % 256)) (wrap64 (x6 - 1))) else (none)) else (none)) else (some (strOfNums x5))
end
def num_U.f (k : Nat) (a0 : Int) (a1 : Int) : Option (ByteArray) := if a1 < 1 then (num_U.j0 k a0 a1 true) else (num_U.j0 k a0 a1 (decide (a1 > 8)))
theorem num_U.mono_l : ∀ k, (∀ y0 y1 y2, LeO (num_U.j0 k y0 y1 y2) (num_U.j0 (k + 1) y0 y1 y2)) ∧ (∀ y0 y1 y2, LeO (num_U.l0 k y0 y1 y2) (num_U.l0 (k + 1) y0 y1 y2))
  | 0 => ⟨fun _ _ _ r h => by simp [num_U.j0] at h, fun _ _ _ r h => by simp [num_U.l0] at h⟩
  | k + 1 => by
    obtain ⟨ih0, ih1⟩ := num_U.mono_l k
    refine ⟨?_, ?_⟩
    · intro y0 y1 y2
      unfold num_U.j0
      repeat' first
      | (with_reducible exact ih0 _ _ _)
      | (with_reducible exact ih1 _ _ _)
      | (with_reducible exact LeO.refl _)
      | (with_reducible exact LeO.none _)
      | (with_reducible refine LeO.ite ?_ ?_)
      | (with_reducible refine LeO.bind ?_ (fun _ => ?_))
      | exact ih0 _ _ _
      | exact ih1 _ _ _
      | exact LeO.none _
      | refine LeO.ite ?_ ?_
      | refine LeO.bind ?_ (fun _ => ?_)
    · intro y0 y1 y2
      unfold num_U.l0
      repeat' first
      | (with_reducible exact ih0 _ _ _)
      | (with_reducible exact ih1 _ _ _)
      | (with_reducible exact LeO.refl _)
      | (with_reducible exact LeO.none _)
      | (with_reducible refine LeO.ite ?_ ?_)
      | (with_reducible refine LeO.bind ?_ (fun _ => ?_))
      | exact ih0 _ _ _
      | exact ih1 _ _ _
      | exact LeO.none _
      | refine LeO.ite ?_ ?_
      | refine LeO.bind ?_ (fun _ => ?_)
theorem num_U.mono : ∀ a0 a1 k, LeO (num_U.f k a0 a1) (num_U.f (k + 1) a0 a1) := by
  intro a0 a1 k
  obtain ⟨ih0, ih1⟩ := num_U.mono_l k
  unfold num_U.f
  repeat' first
      | (with_reducible exact ih0 _ _ _)
      | (with_reducible exact ih1 _ _ _)
      | (with_reducible exact LeO.refl _)
      | (with_reducible exact LeO.none _)
      | (with_reducible refine LeO.ite ?_ ?_)
      | (with_reducible refine LeO.bind ?_ (fun _ => ?_))
      | exact ih0 _ _ _
      | exact ih1 _ _ _
      | exact LeO.none _
      | refine LeO.ite ?_ ?_
      | refine LeO.bind ?_ (fun _ => ?_)
set_option maxHeartbeats 8000000 in
set_option maxRecDepth 100000 in
theorem num_U.calls (k : Nat) (a0 : Int) (a1 : Int) (r : ByteArray) (w : World) (h : num_U.f k a0 a1 = some r) :
    Calls Try.prog 15 #[.int .u64 a0, .int .i64 a1] w fun e w' => e = .returned (.string r) ∧ Below w.heap.size w w' := by
  have HB := Aside0.mk (Below.refl w.heap.size w)
  have H : (if a1 < 1 then (num_U.j0 k a0 a1 true) else (num_U.j0 k a0 a1 (decide (a1 > 8)))) = some r := h
  clear h
  have HC3 := Aside0.mk H
  clear H
  go_enter Try.func15, Try.ntmps15
  go_upto_region 1 with (fail)
  go_cut [12] (fun v12 wc => ∃ (kq : Nat) (x12_2 : Bool), v12 = .bool x12_2 ∧ Aside0 (num_U.j0 kq a0 a1 x12_2 = some r) ∧ Aside0 (kq ≤ k) ∧ Aside0 (Below w.heap.size w wc))
  case first =>
    have H := HC3.out
    clear HC3
    by_cases c4 : a1 < 1
    · rw [if_pos c4] at H
      have c4b0 : decide (a1 < 1) = true := decide_eq_true c4
      clear c4
      (first | rw [c4b0] | (simp only [i64_w, i32_w]; rw [c4b0]) | skip)
      have H' := Aside0.mk H
      clear H
      go_wp2
      go_meet
      case rel => exact ⟨_, (true), (by first | rfl | (simp; done) | (simp [*]; done)), H', ⟨by first | omega | exact Nat.le_refl _⟩, ⟨by repeat (first | (with_reducible first | exact HB.out | apply below_alloc | apply pw_below_drewN | apply below_drew1) | exact HB.out)⟩⟩
    · rw [if_neg c4] at H
      have c4b0 : decide (a1 < 1) = false := decide_eq_false c4
      clear c4
      (first | rw [c4b0] | (simp only [i64_w, i32_w]; rw [c4b0]) | skip)
      have H' := Aside0.mk H
      clear H
      go_wp2
      go_meet
      case rel => exact ⟨_, (decide (a1 > 8)), (by first | rfl | (simp; done) | (simp [*]; done)), H', ⟨by first | omega | exact Nat.le_refl _⟩, ⟨by repeat (first | (with_reducible first | exact HB.out | apply below_alloc | apply pw_below_drewN | apply below_drew1) | exact HB.out)⟩⟩
  case rest =>
    clear HC3
    try clear c1
    try clear p2
    try clear c4
    try clear c4b0
    obtain ⟨kq, x12_2, rfl, HA, HJ2, HB⟩ := hcut
    cases kq with
    | zero => exact absurd HA.out (by simp [num_U.j0])
    | succ kj2 =>
      have H := HA.out
      clear HA
      simp only [num_U.j0] at H
      by_cases c5 : x12_2 = true
      · subst c5
        have H1 : (some (⟨#[]⟩ : ByteArray)) = some r := by rw [if_pos rfl] at H; exact H
        clear H
        have H := H1
        clear H1
        obtain rfl := Option.some.inj H
        go_wp2
        go_ret
        exact ⟨by first | rfl | (simp [errW_none, errW_some] <;> rfl) | (simp [*, errW_none, errW_some] <;> rfl), by repeat (first | (with_reducible first | exact HB.out | apply below_alloc | apply pw_below_drewN | apply below_drew1) | exact HB.out)⟩
      · replace c5 := Bool.eq_false_iff.mpr c5
        subst c5
        have H1 : (if 0 ≤ a1 then (if (a1 : Int).toNat ≤ 281474976710656 then (num_U.l0 kj2 a0 (List.replicate (a1 : Int).toNat 0) (wrap64 (a1 - 1))) else (none)) else (none)) = some r := by rw [if_neg (show ¬ (false = true) by decide)] at H; exact H
        clear H
        have H := H1
        clear H1
        by_cases c6 : 0 ≤ a1
        · rw [if_pos c6] at H
          have c6b0 := eq_true c6
          have c6b1 : decide (0 ≤ a1) = true := decide_eq_true c6
          clear c6
          by_cases c7 : (a1 : Int).toNat ≤ 281474976710656
          · rw [if_pos c7] at H
            have c7b0 := eq_true c7
            have c7b1 : decide ((a1 : Int).toNat ≤ 281474976710656) = true := decide_eq_true c7
            clear c7
            obtain ⟨y101, hy101⟩ : ∃ y_ : List Int, y_ = (List.replicate (a1 : Int).toNat 0) := ⟨_, rfl⟩
            replace H : (num_U.l0 kj2 a0 y101 (wrap64 (a1 - 1))) = some r := by first | (rw [hy101]; with_reducible exact H) | (have H2_ := (Option.bind_some _ _).symm.trans H; rw [hy101]; with_reducible exact H2_) | (have H2_ := (Option.bind_some _ _).symm.trans H; with_reducible exact H2_) | with_reducible exact H | (rw [hy101]; exact H) | exact H
            have Ny101 := Aside0.mk hy101
            clear hy101
            have H' := Aside0.mk H
            clear H
            go_wp2_with (first | ((with_reducible refine gate_dst (N := 14) rfl ?_); refine Kd.R_make (Kd.int .u8) _ 5 rfl (N := 14) rfl 44 _ _ rfl a1 rfl rfl Try.underlying44 (.int .u8 0) 1 info5 rfl (by decide) (by omega) 0 (ok := fun _ => True) (okp := fun _ => True) rfl (fun _ hk => hk) trivial (of_decide_eq_true (by first | (with_reducible assumption) | assumption)) (Nat.le_trans (Nat.mul_le_mul_right _ (of_decide_eq_true (by first | (with_reducible assumption) | assumption) : a1.toNat ≤ 281474976710656)) (by omega)) (Below.refl _ _) (Nat.le_refl _) ?_; intro v102 w8 ho9 hb hg_ hnew_; clear hg_ hnew_; (first | rw [← Ny101.out] at ho9 | (simp only [Int.reduceToNat] at ho9; rw [← Ny101.out] at ho9)); have n0_ := Aside0.mk (Kd.R_lower ho9 (below_size (by repeat (first | (with_reducible first | exact HB.out | apply below_alloc | apply pw_below_drewN | apply below_drew1) | exact HB.out)))); have n1_ := Aside0.mk (below_step (by repeat (first | (with_reducible first | exact HB.out | apply below_alloc | apply pw_below_drewN | apply below_drew1) | exact HB.out)) hb); clear HB; have HO103 := n0_; have HB := n1_; clear n0_ n1_; clear hb ho9))
            go_loopg [0, 6] kj2 (fun kq v0 v6 w' => ∃ (x0_2 : Int) (x5_2 : List Int) (x6_2 : Int), v0 = .int .u64 x0_2 ∧ v6 = .int .i64 x6_2 ∧ Aside0 (num_U.l0 kq x0_2 x5_2 x6_2 = some r) ∧ Aside0 (kq ≤ kj2) ∧ Aside0 (Kd.R (Kd.int .u8) 5 w' w.heap.size (fun _ => True) v102 x5_2) ∧ Aside0 (Below w.heap.size w w'))
            case atStart => exact ⟨(a0), (y101), (wrap64 (a1 - 1)), (by first | rfl | (simp; done) | (simp [*]; done)), (by first | rfl | (simp; done) | (simp [*]; done)), H', ⟨Nat.le_refl _⟩, ⟨by (with_reducible repeat (first | apply Kd.R_alloc | apply Kd.R_drewN | apply Kd.R_drew)); exact HO103.out⟩, ⟨by repeat (first | (with_reducible first | exact HB.out | apply below_alloc | apply pw_below_drewN | apply below_drew1) | exact HB.out)⟩⟩
            case round =>
              clear H'
              try clear c1
              try clear p2
              try clear c4
              try clear c4b0
              try clear c5
              try clear c6
              try clear c6b0
              try clear c6b1
              try clear p6
              try clear c7
              try clear c7b0
              try clear c7b1
              try clear p2
              obtain ⟨x0_2, x5_2, x6_2, rfl, rfl, HA, HK2, HO_5, HB⟩ := hrel
              cases gk with
              | zero => exact absurd HA.out (by simp [num_U.l0])
              | succ k2 =>
                have H := HA.out
                clear HA
                simp only [num_U.l0] at H
                by_cases c10 : x6_2 ≥ 0
                · rw [if_pos c10] at H
                  have c10b0 : decide (0 ≤ x6_2) = true := decide_eq_true c10
                  clear c10
                  by_cases c11 : 0 ≤ x6_2
                  · rw [if_pos c11] at H
                    have c11b0 : decide (0 ≤ x6_2) = true := decide_eq_true c11
                    clear c11
                    by_cases c12 : x6_2 < (x5_2.length : Int)
                    · rw [if_pos c12] at H
                      have c12b0 : decide (x6_2 < (x5_2.length : Int)) = true := decide_eq_true c12
                      clear c12
                      obtain ⟨y104, hy104⟩ : ∃ y_ : List Int, y_ = (x5_2.set (x6_2 : Int).toNat ((x0_2) % 256)) := ⟨_, rfl⟩
                      replace H : (num_U.l0 k2 (x0_2 / 256) y104 (wrap64 (x6_2 - 1))) = some r := by first | (rw [hy104]; with_reducible exact H) | (have H2_ := (Option.bind_some _ _).symm.trans H; rw [hy104]; with_reducible exact H2_) | (have H2_ := (Option.bind_some _ _).symm.trans H; with_reducible exact H2_) | with_reducible exact H | (rw [hy104]; exact H) | exact H
                      have Ny104 := Aside0.mk hy104
                      clear hy104
                      have H' := Aside0.mk H
                      clear H
                      have p13 : 0 ≤ (x6_2 : Int) := of_decide_eq_true (by first | (with_reducible assumption) | assumption)
                      have q13 : (x6_2 : Int) < ((x5_2.length : Int) : Int) := of_decide_eq_true (by first | (with_reducible assumption) | assumption)
                      obtain ⟨go13, co13, eo13, gb13, gl13, cl13, HG13⟩ := Kd.R_form HO_5.out (by omega)
                      (first | cases eo13 | (injection eo13 with ea_ en_ ec_; (first | subst ea_ | (injection ea_ with ea_; subst ea_)); subst ec_; clear en_))
                      have GB13 := Aside0.mk gb13
                      have GG13 := Aside0.mk HG13
                      clear gb13 gl13 HG13
                      obtain ⟨hx13_0, hf13_0⟩ := Kd.R_celln 0 HO_5.out (x6_2 : Int) p13 q13
                      replace p13 := eq_true p13
                      replace q13 := eq_true q13
                      have HP14 := Kd.R_putg HO_5.out (x6_2 : Int) ((x0_2) % 256)
                      go_wp2_with (first | ((with_reducible refine gate_store (t := 5) (p := 25) rfl ?_); refine store_event (t := 5) (p := 25) (v := ?vo_w15) (w1 := (wr.setCell ⟨go13, (x6_2 : Int).toNat, none⟩ (.int .u8 ((x0_2) % 256)))) ?hg ?ho ?hn ?hr ?_; (case ho => rfl); (case hg => rfl); (case hn => rfl); (case hr => first | (go_simp; done) | (go_simp; rfl)); intro w15 hw; have hg : wr.grownBy w15 (some go13) := (by rw [hw]; exact HP14.2); have hp_ : Kd.R (Kd.int .u8) 5 w15 w.heap.size (fun _ => True) (.slice (some ⟨go13, 0, none⟩) x5_2.length co13) y104 := (by rw [hw, Ny104.out]; exact HP14.1); clear HP14; have n0_ := Aside0.mk (hp_); have n1_ := Aside0.mk ((by rw [hw]; exact below_set (HB.out) GB13.out : Below w.heap.size w w15)); clear HO_5; clear HB; have HO_5 := n0_; have HB := n1_; clear n0_ n1_; clear hg hw hp_))
                      go_roundg k2
                      case measure => have := HJ2.out; have := HK2.out; omega
                      case rel => exact ⟨(x0_2 / 256), (y104), (wrap64 (x6_2 - 1)), (by first | rfl | (simp; done) | (simp [*]; done)), (by first | rfl | (simp; done) | (simp [*]; done)), H', ⟨by have := HJ2.out; have := HK2.out; omega⟩, ⟨by (with_reducible repeat (first | apply Kd.R_alloc | apply Kd.R_drewN | apply Kd.R_drew)); exact HO_5.out⟩, ⟨by repeat (first | (with_reducible first | exact HB.out | apply below_alloc | apply pw_below_drewN | apply below_drew1) | exact HB.out)⟩⟩
                    · rw [if_neg c12] at H
                      exact absurd H (by simp)
                  · rw [if_neg c11] at H
                    exact absurd H (by simp)
                · rw [if_neg c10] at H
                  have c10b0 : decide (0 ≤ x6_2) = false := decide_eq_false c10
                  clear c10
                  obtain rfl := Option.some.inj H
                  have hcv16 := own_string (P := Try.prog) Try.underlying44 Try.underlying5 Try.underlying9 (Kd.own_of_R HO_5.out)
                  go_wp2
                  go_ret
                  exact ⟨by first | rfl | (simp [errW_none, errW_some] <;> rfl) | (simp [*, errW_none, errW_some] <;> rfl), by repeat (first | (with_reducible first | exact HB.out | apply below_alloc | apply pw_below_drewN | apply below_drew1) | exact HB.out)⟩
          · rw [if_neg c7] at H
            exact absurd H (by simp)
        · rw [if_neg c6] at H
          exact absurd H (by simp)

end Go.Proofs.Ythdjecgiefednaa.P
