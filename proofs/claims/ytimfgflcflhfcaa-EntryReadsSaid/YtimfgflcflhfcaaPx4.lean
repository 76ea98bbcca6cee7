-- Written by wip/tools/myprint.sh out of the translation, over the kit's print with a patch. Not trusted: Lean checks it.
import Derived.Test.YtimfgflcflhfcaaPx0
namespace Go.Proofs.Ytimfgflcflhfcaa.P
open Go.RowKit Go.Proofs.YtimfgflcflhfcaaW.PrintWords Go.Proofs.YtimfgflcflhfcaaW.PrintLast Go.Proofs.YtimfgflcflhfcaaW.PrintMore Go.Proofs.Ytimfgflcflhfcaa.Num
attribute [local go_sem] max2_int min2_int max_two min_two max_three min_three max_four min_four   -- for this text's walks alone
set_option linter.unusedVariables false
set_option linter.unusedSimpArgs false

/-! ### num_V: function 20, by hand -/
-- HAND making=1
theorem and127 (x : Int) (h0 : 0 ≤ x) (h1 : x < 18446744073709551616) : bits .and .u64 x 127 = x % 128 :=
  bits_mask .u64 64 (by decide) (fun n a b => by simp [IntKind.wrap, IntKind.bits, IntKind.signed]; omega) 7 (by decide) x h0 (by omega)
theorem or128 (x : Int) (h0 : 0 ≤ x) (h1 : x < 128) : bits .or .u8 x 128 = 128 + x := by
  obtain ⟨a, rfl⟩ := Int.eq_ofNat_of_zero_le h0
  have h := (bits_nat .u8 8 (by decide) wraps_u8 128 a (by decide) (by omega)).2
  have h' := (bits_nat .u8 8 (by decide) wraps_u8 a 128 (by omega) (by decide)).2
  have e := bits_join .u8 8 (by decide) wraps_u8 7 128 a (by decide) (by decide) (by decide) (by omega) (by omega) (by omega)
  rw [Nat.or_comm] at h'
  rw [← e]
  exact h'.trans h.symm
theorem num_V.snoc (l : List Int) (k : Nat) (hk : k < l.length) : numV (l.take (k + 1)) = numV (l.take k) ++ grp (rd l k).toNat := by
  have e : rd l (k : Int) = l[k] := by simp [rd, List.getD_eq_getElem?_getD, List.getElem?_eq_getElem hk]
  rw [List.take_succ_eq_append_getElem hk, e]
  simp only [numV, List.flatMap_append, List.flatMap_cons, List.flatMap_nil, List.append_nil]
theorem num_V.info : (Try.prog.info? 5).map (fun i => (i.zero, i.size, i.bytes)) = some (some (.int .u8 0), 1, 1) := by kernel_rfl
theorem num_V.al : Try.prog.arrayLen 54 = 10 := by kernel_rfl
theorem num_V.el : Try.prog.elem 54 = 5 := by kernel_rfl
theorem num_V.ut : Try.prog.underlying 54 = some (.array 10 5) := by kernel_rfl
theorem num_V.cut (g at_ : Nat) (h : at_ ≤ 9) (W : World) : (Instr.sliceAt 54 (.pointer (some ⟨g, 0, none⟩)) (some (.int .i64 (at_ : Int))) none none).run Try.prog W = .ok (.slice (some ⟨g, at_, none⟩) (10 - at_) (10 - at_)) W := by
  rw [run_sliceAt_array_l W 54 _ (by rw [num_V.al, num_V.el]; exact num_V.ut) .i64 at_ (by omega) (by rw [num_V.al]; omega), num_V.al, num_V.el]
  obtain ⟨i0, hi, hz⟩ := Option.map_eq_some_iff.1 num_V.info
  simp only [Prod.mk.injEq] at hz
  have hs := hz.2.1
  have ha : (⟨g, 0, none⟩ : Addr).add at_ = ⟨g, at_, none⟩ := by unfold Addr.add; split <;> simp_all
  simp [sizeOf, typeInfo, hi, hs, slicedAt, Result.andThen, ha]
  omega
def num_V.f (l0 : List Int) : Option ByteArray := if l0.length ≤ 10000000000000 ∧ ∀ x ∈ l0, 0 ≤ x ∧ x < 18446744073709551616 then some ⟨(numV l0).toArray⟩ else none
theorem num_V.calls (A0 : Option Addr) (c0 : Nat) (l0 : List Int) (r : ByteArray) (w : World) (hr0 : Kd.C (Kd.int .u64) w A0 l0.length l0) (hc0 : l0.length ≤ c0) (h : num_V.f l0 = some r) :
    Calls Try.prog 20 #[.slice A0 l0.length c0] w fun e w' => e = .returned (.string r) ∧ Below w.heap.size w w' := by
  have HR0 := Aside0.mk hr0
  clear hr0
  have hh : (l0.length ≤ 10000000000000 ∧ ∀ x ∈ l0, 0 ≤ x ∧ x < 18446744073709551616) ∧ r = strOfNums (bI (numV l0)) := by
    unfold num_V.f at h
    split at h
    · rename_i hc
      exact ⟨hc, by rw [strOfNums_bI]; exact (Option.some.inj h).symm⟩
    · cases h
  clear h
  obtain ⟨⟨hl, hb0⟩, hr⟩ := hh
  have HRR := Aside0.mk hr
  clear hr
  have HL := Aside0.mk hb0
  clear hb0
  go_enter Try.func20, Try.ntmps20
  go_wp2
  go_loopg [3, 10] (l0.length) (fun kq v3 v10 w' => ∃ (k : Nat), k + kq = l0.length ∧ v10 = .int .i64 k ∧ Aside0 (w'.ownsRow w.heap.size 5 1 v3 (bI (numV (l0.take k))).length (nums .u8 (bI (numV (l0.take k))))) ∧ Aside0 (Below w.heap.size w w'))
  case atStart => exact ⟨0, by omega, rfl, ⟨own_nil _ _ _ _⟩, ⟨Below.refl _ _⟩⟩
  case round =>
    obtain ⟨k, hk, rfl, HO, HB⟩ := hrel
    obtain ⟨wo, rfl⟩ : ∃ wo : World, wo = wr := ⟨_, rfl⟩
    obtain ⟨go, rfl⟩ : ∃ go : Nat, go = gk := ⟨_, rfl⟩
    by_cases hlt : k < l0.length
    · obtain ⟨g1, rfl⟩ : ∃ m, go = m + 1 := ⟨go - 1, by omega⟩
      obtain ⟨ad, e126, hx⟩ := Kd.at_int HR0.out (k : Int) (by omega) (by omega)
      cases e126
      replace hx := (HB.out.cell (World.block_lt_of_cell? w _ hx)).trans hx
      rw [Int.toNat_natCast] at hx
      have p1 : (0 ≤ (k : Int)) = True := eq_true (by omega)
      have p2 : ((k : Int) < (l0.length : Int)) = True := eq_true (by omega)
      have p3 : decide ((k : Int) < (l0.length : Int)) = true := decide_eq_true (by omega)
      obtain ⟨N, HN, hN⟩ : ∃ N : Nat, Aside0 (rd l0 (k : Int) = N) ∧ N < 18446744073709551616 := by
        have h := HL.out (rd l0 (k : Int)) (by simp [rd, List.getD_eq_getElem?_getD, List.getElem?_eq_getElem hlt])
        exact ⟨(rd l0 (k : Int)).toNat, ⟨by omega⟩, by omega⟩
      rw [HN.out] at hx
      have e1 : bits .and .u64 (N : Int) 127 % 256 = ((N % 128 : Nat) : Int) := by rw [and127 _ (by omega) (by omega)]; omega
      go_wp2
      go_loopg [5, 7] N (fun kq v5 v7 w' => ∃ (n at_ : Nat) (cs : List Int), v5 = .int .u64 n ∧ v7 = .int .i64 at_ ∧ Aside0 (VIn N n at_ cs) ∧ Aside0 (n ≤ kq ∧ kq ≤ N) ∧
        Aside0 (w'.heap[wo.heap.size]? = some (.cells (nums .u8 cs).toArray 54 (0, 0))) ∧
        Aside0 (w'.ownsRow w.heap.size 5 1 u3 (bI (numV (l0.take k))).length (nums .u8 (bI (numV (l0.take k))))) ∧ Aside0 (Below w.heap.size w w'))
      case atStart =>
        refine ⟨N / 128, 9, _, by simp, by simp, ⟨VIn.start hN⟩, ⟨Nat.div_le_self _ _, Nat.le_refl _⟩, ⟨?_⟩, ⟨?_⟩, ⟨?_⟩⟩
        · rw [heap_alloc_new]; simp [nums]; try omega
        · exact HO.out.alloc _
        · exact below_alloc HB.out _
      case round =>
        obtain ⟨n, at_, cs, rfl, rfl, HV, HK, HC, HO2, HB2⟩ := hrel
        by_cases hn : n = 0
        · subst hn
          obtain ⟨d1, d2, d3⟩ := VIn.done HV.out
          have hsl := num_V.cut wo.heap.size at_ d2
          have HR : ReadsInt wr .u8 (some ⟨wo.heap.size, at_, none⟩) (10 - at_) (bI (grp N)) := by
            refine ⟨by rw [← d3, List.length_drop, d1], by omega, fun _ => ⟨_, rfl, fun j hj => ?_⟩⟩
            rw [add_at, blk_cell HC.out, ← d3]
            simp [nums, d1, show at_ + j < 10 from by omega, List.getD_eq_getElem?_getD, List.getElem?_drop]
          have Hd := Aside0.mk d3
          have Hg := grp_len_le hN
          have Hk : (bI (numV (l0.take k))).length ≤ 10 * k := by rw [bI_length]; exact numV_length _ _ HL.out
          have Hc2 : Aside0 (((bI (numV (l0.take k))).length + (10 - at_)) * 1 ≤ 140737488355328) := ⟨by omega⟩
          clear d3
          go_wp2_with (at_builtin; go_loud (refine print_append_row (w0 := w) w.heap.size rfl (.tmp 33) (.tmp 35) 33 5 .u8 1 rfl Try.underlying33 num_V.info (by decide) u3 _ (bI (grp N)) (some ⟨wo.heap.size, at_, none⟩) (10 - at_) (10 - at_) rfl rfl HO2.out HR HB2.out HB2.out.size Hc2.out ?_); intro v1 w1 hown hB hg hat)
          go_roundg g1
          case measure => omega
          case rel =>
            refine ⟨k + 1, by omega, by go_num, ⟨?_⟩, ⟨hB⟩⟩
            have e := num_V.snoc l0 k hlt
            rw [HN.out, Int.toNat_natCast] at e
            rw [e]
            simpa [bI] using hown
        · have hpos : 0 < n := by omega
          obtain ⟨j1, hj1⟩ := VIn.next HV.out hn
          have Hj := Aside0.mk hj1
          have hV := HV.out
          have hat9 : at_ ≤ 9 := hV.2.1
          have hcl : cs.length = 10 := hV.1
          clear hV hj1
          have Hcl := Aside0.mk hcl
          obtain ⟨m, rfl⟩ : ∃ m, gk = m + 1 := ⟨gk - 1, by have := HK.out; omega⟩
          have e2 : bits .or .u8 (bits .and .u64 (n : Int) 127 % 256) 128 = 128 + ((n % 128 : Nat) : Int) := by
            rw [and127 _ (by omega) (by have := HK.out; omega), show (n : Int) % 128 % 256 = ((n % 128 : Nat) : Int) from by omega, or128 _ (by omega) (by omega)]
          have hcc : wr.cell? ⟨wo.heap.size, at_ - 1, none⟩ = some (.int .u8 (cs.getD (at_ - 1) 0)) := by
            rw [blk_cell HC.out]
            simp [nums, List.getD_eq_getElem?_getD, List.getElem?_eq_getElem (show at_ - 1 < cs.length by omega)]
          have hff := blk_frozen HC.out (at_ - 1)
          clear hcl
          go_wp2
          go_roundg m
          case measure => omega
          case rel =>
            refine ⟨n / 128, at_ - 1, _, by simp, by simp; omega, ⟨Hj.out⟩, ⟨by have := HK.out; omega⟩, ⟨?_⟩, ⟨?_⟩, ⟨?_⟩⟩
            · have h := blk_set HC.out (at_ - 1) (.int .u8 (128 + ((n % 128 : Nat) : Int)))
              simpa [nums, List.map_set] using h
            · exact own_setCell HO2.out (fun h => by
                have := own_lt HO.out _ h.symm
                simp at this) _
            · exact HB2.out.setCell HB.out.size _
    · obtain rfl : k = l0.length := by omega
      have p3 : decide ((l0.length : Int) < (l0.length : Int)) = false := decide_eq_false (by omega)
      rw [List.take_length] at HO
      have hcv := own_string (P := Try.prog) Try.underlying33 Try.underlying5 Try.underlying9 HO.out
      go_wp2
      go_ret
      exact ⟨by rw [HRR.out]; rfl, HB.out⟩

/-! ### num_S: function 21 -/
def num_S.l0 : Nat → ByteArray → List ByteArray → Int → Int → Option (ByteArray)
  | 0, _, _, _, _ => none
  | k + 1, x3, x6, x7, x8 => if x8 < x7 then (if 0 ≤ x8 then (if x8 < (x6.length : Int) then ((num_V.f (([IntKind.u64.wrap (((rdOf ByteArray.empty x6 x8).size : Int))] : List Int))).bind fun t106 => (if t106.size + (rdOf ByteArray.empty x6 x8).size ≤ 9223372036854775807 then (if x3.size + (t106 ++ (rdOf ByteArray.empty x6 x8)).size ≤ 9223372036854775807 then (num_S.l0 k (x3 ++ (t106 ++ (rdOf ByteArray.empty x6 x8))) x6 x7 (wrap64 (x8 + 1))) else (none)) else (none))) else (none)) else (none)) else (some x3)
def num_S.f (k : Nat) (l0 : List ByteArray) : Option (ByteArray) := num_S.l0 k (⟨#[]⟩ : ByteArray) l0 (l0.length : Int) 0
theorem num_S.mono_l : ∀ k, (∀ y0 y1 y2 y3, LeO (num_S.l0 k y0 y1 y2 y3) (num_S.l0 (k + 1) y0 y1 y2 y3))
  | 0 => fun _ _ _ _ r h => by simp [num_S.l0] at h
  | k + 1 => by
    have ih0 := num_S.mono_l k
    · intro y0 y1 y2 y3
      unfold num_S.l0
      repeat' first
      | (with_reducible exact ih0 _ _ _ _)
      | (with_reducible exact LeO.refl _)
      | (with_reducible exact LeO.none _)
      | (with_reducible refine LeO.ite ?_ ?_)
      | (with_reducible refine LeO.bind ?_ (fun _ => ?_))
      | exact ih0 _ _ _ _
      | exact LeO.none _
      | refine LeO.ite ?_ ?_
      | refine LeO.bind ?_ (fun _ => ?_)
theorem num_S.mono : ∀ a0 k, LeO (num_S.f k a0) (num_S.f (k + 1) a0) := by
  intro a0 k
  have ih0 := num_S.mono_l k
  unfold num_S.f
  repeat' first
      | (with_reducible exact ih0 _ _ _ _)
      | (with_reducible exact LeO.refl _)
      | (with_reducible exact LeO.none _)
      | (with_reducible refine LeO.ite ?_ ?_)
      | (with_reducible refine LeO.bind ?_ (fun _ => ?_))
      | exact ih0 _ _ _ _
      | exact LeO.none _
      | refine LeO.ite ?_ ?_
      | refine LeO.bind ?_ (fun _ => ?_)
set_option maxHeartbeats 8000000 in
set_option maxRecDepth 100000 in
theorem num_S.calls (k : Nat) (A0 : Option Addr) (c0 : Nat) (l0 : List ByteArray) (r : ByteArray) (w : World) (hr0 : Kd.C Kd.string w A0 l0.length l0) (hc0 : l0.length ≤ c0) (h : num_S.f k l0 = some r) :
    Calls Try.prog 21 #[.slice A0 l0.length c0] w fun e w' => e = .returned (.string r) ∧ Below w.heap.size w w' := by
  have HR0 := Aside0.mk hr0
  have HC0 := Aside0.mk hc0
  clear hr0 hc0
  have HB := Aside0.mk (Below.refl w.heap.size w)
  have H : (num_S.l0 k (⟨#[]⟩ : ByteArray) l0 (l0.length : Int) 0) = some r := h
  clear h
  have H' := Aside0.mk H
  clear H
  go_enter Try.func21, Try.ntmps21
  go_wp2
  go_loopg [3, 8] k (fun kq v3 v8 w' => ∃ (x3_1 : ByteArray) (x8_1 : Int), v3 = .string x3_1 ∧ v8 = .int .i64 x8_1 ∧ Aside0 (num_S.l0 kq x3_1 l0 (l0.length : Int) x8_1 = some r) ∧ Aside0 (kq ≤ k) ∧ Aside0 (Below w.heap.size w w'))
  case atStart => exact ⟨((⟨#[]⟩ : ByteArray)), (0), (by first | (with_reducible rfl) | (simp; done) | (simp [*]; done) | (refine congrArg (Value.int _) ?_; unfold wrap64; omega) | rfl), (by first | (with_reducible rfl) | (simp; done) | (simp [*]; done) | (refine congrArg (Value.int _) ?_; unfold wrap64; omega) | rfl), H', ⟨Nat.le_refl _⟩, ⟨by repeat (first | (with_reducible first | exact HB.out | apply below_alloc | apply pw_below_drewN | apply below_drew1) | exact HB.out)⟩⟩
  case round =>
    clear H'
    obtain ⟨x3_1, x8_1, rfl, rfl, HA, HK1, HB⟩ := hrel
    cases gk with
    | zero => exact absurd HA.out (by simp [num_S.l0])
    | succ k1 =>
      have H := HA.out
      clear HA
      simp only [num_S.l0] at H
      by_cases c2 : x8_1 < (l0.length : Int)
      · rw [if_pos c2] at H
        have c2b0 : decide (x8_1 < (l0.length : Int)) = true := decide_eq_true c2
        clear c2
        by_cases c3 : 0 ≤ x8_1
        · rw [if_pos c3] at H
          have c3b0 : decide (0 ≤ x8_1) = true := decide_eq_true c3
          clear c3
          by_cases c4 : x8_1 < (l0.length : Int)
          · rw [if_pos c4] at H
            have c4b0 : decide (x8_1 < (l0.length : Int)) = true := decide_eq_true c4
            clear c4
            obtain ⟨y103, hy103⟩ : ∃ y_ : List Int, y_ = (([IntKind.u64.wrap (((rdOf ByteArray.empty l0 x8_1).size : Int))] : List Int)) := ⟨_, rfl⟩
            replace H : ((num_V.f y103).bind fun t106 => (if t106.size + (rdOf ByteArray.empty l0 x8_1).size ≤ 9223372036854775807 then (if x3_1.size + (t106 ++ (rdOf ByteArray.empty l0 x8_1)).size ≤ 9223372036854775807 then (num_S.l0 k1 (x3_1 ++ (t106 ++ (rdOf ByteArray.empty l0 x8_1))) l0 (l0.length : Int) (wrap64 (x8_1 + 1))) else (none)) else (none))) = some r := by first | (rw [hy103]; with_reducible exact H) | (have H2_ := (Option.bind_some _ _).symm.trans H; rw [hy103]; with_reducible exact H2_) | (have H2_ := (Option.bind_some _ _).symm.trans H; with_reducible exact H2_) | with_reducible exact H | (rw [hy103]; exact H) | exact H
            have Ny103 := Aside0.mk hy103
            clear hy103
            replace H := Option.bind_eq_some_iff.mp H
            obtain ⟨t106, A50, H⟩ := H
            replace H : (if t106.size + (rdOf ByteArray.empty l0 x8_1).size ≤ 9223372036854775807 then (if x3_1.size + (t106 ++ (rdOf ByteArray.empty l0 x8_1)).size ≤ 9223372036854775807 then (num_S.l0 k1 (x3_1 ++ (t106 ++ (rdOf ByteArray.empty l0 x8_1))) l0 (l0.length : Int) (wrap64 (x8_1 + 1))) else (none)) else (none)) = some r := H
            have A5 := Aside0.mk A50
            clear A50
            by_cases c6 : t106.size + (rdOf ByteArray.empty l0 x8_1).size ≤ 9223372036854775807
            · rw [if_pos c6] at H
              have c6b0 := eq_true c6
              have c6b1 : decide (t106.size + (rdOf ByteArray.empty l0 x8_1).size ≤ 9223372036854775807) = true := decide_eq_true c6
              try have c6b2 : (9223372036854775807 < t106.size + (rdOf ByteArray.empty l0 x8_1).size) = False := eq_false (Nat.not_lt.2 c6)
              have c6n := c6
              try simp only [ByteArray.size_append] at c6n
              try have c6b3 := eq_false (Nat.not_lt.2 c6n)
              clear c6 c6n
              by_cases c7 : x3_1.size + (t106 ++ (rdOf ByteArray.empty l0 x8_1)).size ≤ 9223372036854775807
              · rw [if_pos c7] at H
                have c7b0 := eq_true c7
                have c7b1 : decide (x3_1.size + (t106 ++ (rdOf ByteArray.empty l0 x8_1)).size ≤ 9223372036854775807) = true := decide_eq_true c7
                try have c7b2 : (9223372036854775807 < x3_1.size + (t106 ++ (rdOf ByteArray.empty l0 x8_1)).size) = False := eq_false (Nat.not_lt.2 c7)
                have c7n := c7
                try simp only [ByteArray.size_append] at c7n
                try have c7b3 := eq_false (Nat.not_lt.2 c7n)
                clear c7 c7n
                have H' := Aside0.mk H
                clear H
                have p102 : 0 ≤ (x8_1 : Int) := of_decide_eq_true (by first | (with_reducible assumption) | assumption)
                have q102 : x8_1 < (l0.length : Int) := of_decide_eq_true (by first | (with_reducible assumption) | assumption)
                obtain ⟨ad102, e102, hx102_0⟩ := Kd.at_string HR0.out x8_1 p102 q102
                cases e102
                replace hx102_0 := (HB.out.cell (World.block_lt_of_cell? w _ hx102_0)).trans hx102_0
                replace p102 := eq_true p102
                replace q102 := eq_true q102
                go_wp2_with (first | ((with_reducible refine gate_dst (N := 16) rfl ?_); refine Kd.R_lit (Kd.int .u64) _ 23 ?hg (N := 16) ?hd (xs := ([IntKind.u64.wrap (((rdOf ByteArray.empty l0 x8_1).size : Int))] : List Int)) (inner := [.int .u64 (IntKind.u64.wrap (((rdOf ByteArray.empty l0 x8_1).size : Int)))]) (ok := fun _ => True) (okp := fun _ => True) ?hr ?hp (fun _ hk => hk) trivial (Below.refl _ _) (Nat.le_refl _) (by simp) ?_; (case hd => rfl); (case hg => rfl); (case hr => first | (go_simp; done) | (go_simp; rfl)); (case hp => exact (Reps.one (show Kd.M (Kd.int .u64) _ _ _ (IntKind.u64.wrap (((rdOf ByteArray.empty l0 x8_1).size : Int))) [.int .u64 (IntKind.u64.wrap (((rdOf ByteArray.empty l0 x8_1).size : Int)))] from rfl) (Reps.none _ _))); intro v104 w8 ho9 hb hg_ hnew_; clear hg_ hnew_; (first | rw [← Ny103.out] at ho9 | (simp only [Int.reduceToNat] at ho9; rw [← Ny103.out] at ho9)); have n0_ := Aside0.mk (Kd.R_lower ho9 (below_size (by repeat (first | (with_reducible first | exact HB.out | apply below_alloc | apply pw_below_drewN | apply below_drew1) | exact HB.out)))); have n1_ := Aside0.mk (below_step (by repeat (first | (with_reducible first | exact HB.out | apply below_alloc | apply pw_below_drewN | apply below_drew1) | exact HB.out)) hb); clear HB; have HO105 := n0_; have HB := n1_; clear n0_ n1_; clear hb ho9; obtain ⟨Ao10, co10, eo10⟩ := Kd.R_slice HO105.out; subst eo10) | ((with_reducible refine gate_callee (f := 20) rfl ?_); refine goesL_ (some 17) rfl rfl Try.func20 (by kernel_rfl) rfl #[.slice Ao10 y103.length co10] rfl (by (try simp only [List.map_toArray, List.map_cons, List.map_nil]); first | done | rfl | (simp only [List.length_drop, List.length_take]; rfl)) ?_; (with_reducible refine (num_V.calls _ _ y103 t106 _ ?side1 ?side2 A5.out).mono ?_); (case side1 => repeat (first | exact (Kd.R_reads' HO105.out).2.2 | (with_reducible refine Kd.C_alloc ?_ _) | (with_reducible refine Kd.C_drewN ?_ _) | (with_reducible refine Kd.C_drew ?_))); (case side2 => exact (Kd.R_reads' HO105.out).2.1); rintro e w11 ⟨rfl, hb⟩; refine ⟨_, rfl, ?_⟩; have n0_ := Aside0.mk (Kd.R_below (by (with_reducible repeat (first | apply Kd.R_alloc | apply Kd.R_drewN | apply Kd.R_drew)); exact HO105.out) hb); have n1_ := Aside0.mk (below_step (by repeat (first | (with_reducible first | exact HB.out | apply below_alloc | apply pw_below_drewN | apply below_drew1) | exact HB.out)) hb); clear HO105; clear HB; have HO105 := n0_; have HB := n1_; clear n0_ n1_; (try clear hb); (try clear hb2); (try clear hk); (try clear hi)))
                go_roundg k1
                case measure => have := HK1.out; omega
                case rel => exact ⟨(x3_1 ++ (t106 ++ (rdOf ByteArray.empty l0 x8_1))), (wrap64 (x8_1 + 1)), (by first | (with_reducible rfl) | (simp; done) | (simp [*]; done) | (refine congrArg (Value.int _) ?_; unfold wrap64; omega) | rfl), (by first | (with_reducible rfl) | (simp; done) | (simp [*]; done) | (refine congrArg (Value.int _) ?_; unfold wrap64; omega) | rfl), H', ⟨by have := HK1.out; omega⟩, ⟨by repeat (first | (with_reducible first | exact HB.out | apply below_alloc | apply pw_below_drewN | apply below_drew1) | exact HB.out)⟩⟩
              · rw [if_neg c7] at H
                exact absurd H (by simp)
            · rw [if_neg c6] at H
              exact absurd H (by simp)
          · rw [if_neg c4] at H
            exact absurd H (by simp)
        · rw [if_neg c3] at H
          exact absurd H (by simp)
      · rw [if_neg c2] at H
        have c2b0 : decide (x8_1 < (l0.length : Int)) = false := decide_eq_false c2
        clear c2
        obtain rfl := Option.some.inj H
        go_wp2
        go_ret
        exact ⟨by first | rfl | (simp [errW_none, errW_some] <;> rfl) | (simp [*, errW_none, errW_some] <;> rfl), by repeat (first | (with_reducible first | exact HB.out | apply below_alloc | apply pw_below_drewN | apply below_drew1) | exact HB.out)⟩

end Go.Proofs.Ytimfgflcflhfcaa.P
