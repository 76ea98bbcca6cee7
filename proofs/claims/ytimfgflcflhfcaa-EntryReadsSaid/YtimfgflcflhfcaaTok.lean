/- Eight bytes in a variable's block: cut whole, made a text, and filled with a text's bytes. -/
import Derived.Test.YtimfgflcflhfcaaLex
import Derived.Laws.Slices
import Derived.Lib.SlBuf
import Derived.Lib.LazyBuf
import Derived.Laws.CopyRow
namespace Go.Proofs.Ytimfgflcflhfcaa.Num
set_option linter.unusedVariables false
set_option linter.unusedSimpArgs false
open Go.RowKit Go.Proofs.YtimfgflcflhfcaaW.PrintWords
theorem tok_slice {P : Program} {T e : TypeId} {n : Nat} (ut : P.underlying T = some (.array n e)) (al : P.arrayLen T = n) (el : P.elem T = e)
    (info : (P.info? e).map (fun i => (i.zero, i.size, i.bytes)) = some (some (.int .u8 0), 1, 1)) (hn : 0 < n) (off : Nat) :
    ∀ (W : World) (g : Nat), (Instr.sliceAt T (.pointer (some ⟨g, off, none⟩)) none none none).run P W = .ok (.slice (some ⟨g, off, none⟩) n n) W := by
  intro W g
  rw [run_sliceAt_array_all W T _ (by rw [al, el]; exact ut), al, el]
  obtain ⟨i0, hi, hz⟩ := Option.map_eq_some_iff.1 info
  simp only [Prod.mk.injEq] at hz
  have hs := hz.2.1
  have ha : (⟨g, off, none⟩ : Addr).add 0 = ⟨g, off, none⟩ := by unfold Addr.add; split <;> simp_all
  simp [sizeOf, typeInfo, hi, hs, slicedAt, Result.andThen, ha]
theorem tok_string {P : Program} {src dst e : TypeId} (hs : P.underlying src = some (.slice e)) (he : P.underlying e = some (.int .u8)) (hd : P.underlying dst = some .string)
    (o0 o1 o2 o3 o4 o5 o6 o7 : Nat) (h1 : o1 = o0 + 1) (h2 : o2 = o0 + 2) (h3 : o3 = o0 + 3) (h4 : o4 = o0 + 4) (h5 : o5 = o0 + 5) (h6 : o6 = o0 + 6) (h7 : o7 = o0 + 7) (x0 x1 x2 x3 x4 x5 x6 x7 : Int) :
    ∀ (W : World) (g : Nat), W.cell? ⟨g, o0, none⟩ = some (.int .u8 x0) → W.cell? ⟨g, o1, none⟩ = some (.int .u8 x1) → W.cell? ⟨g, o2, none⟩ = some (.int .u8 x2) → W.cell? ⟨g, o3, none⟩ = some (.int .u8 x3) →
      W.cell? ⟨g, o4, none⟩ = some (.int .u8 x4) → W.cell? ⟨g, o5, none⟩ = some (.int .u8 x5) → W.cell? ⟨g, o6, none⟩ = some (.int .u8 x6) → W.cell? ⟨g, o7, none⟩ = some (.int .u8 x7) →
      (convert src dst (.slice (some ⟨g, o0, none⟩) 8 8)).run P W = .ok (.string (strOfNums [x0, x1, x2, x3, x4, x5, x6, x7])) W := by
  intro W g c0 c1 c2 c3 c4 c5 c6 c7
  subst h1 h2 h3 h4 h5 h6 h7
  refine run_convert_bytes_arg W src e hs he g o0 8 8 [x0, x1, x2, x3, x4, x5, x6, x7] rfl (fun i hi => ?_) dst hd
  have hc : i = 0 ∨ i = 1 ∨ i = 2 ∨ i = 3 ∨ i = 4 ∨ i = 5 ∨ i = 6 ∨ i = 7 := by omega
  rcases hc with rfl | rfl | rfl | rfl | rfl | rfl | rfl | rfl <;> assumption
/-- a text's first eight bytes go into the block -/
theorem take8 (s : ByteArray) (h : 8 ≤ s.size) : (s.data.toList.take 8).map (fun b : UInt8 => Value.int .u8 (b.toNat : Int)) =
    [.int .u8 (bt s 0), .int .u8 (bt s 1), .int .u8 (bt s 2), .int .u8 (bt s 3), .int .u8 (bt s 4), .int .u8 (bt s 5), .int .u8 (bt s 6), .int .u8 (bt s 7)] := by
  have hl : s.data.toList.length = s.size := by rw [← Lib.size_eq]
  have hb : ∀ (i : Nat), i < 8 → bt s (i : Int) = ((s.data.toList.getD i 0).toNat : Int) := by
    intro i hi
    have h2 : i < s.size := by omega
    unfold bt
    rw [dif_pos (by simpa using h2), List.getD_eq_getElem?_getD, List.getElem?_eq_getElem (by omega)]
    rfl
  refine List.ext_getElem (by rw [List.length_map, List.length_take, hl]; simp; omega) (fun i h1 h2 => ?_)
  have hi : i < 8 := by simpa using h2
  rw [List.getElem_map, List.getElem_take]
  have hg : ((s.data.toList[i]'(by omega)).toNat : Int) = bt s (i : Int) := by
    rw [hb i hi, List.getD_eq_getElem?_getD, List.getElem?_eq_getElem (by omega)]
    rfl
  rw [hg]
  have hc : i = 0 ∨ i = 1 ∨ i = 2 ∨ i = 3 ∨ i = 4 ∨ i = 5 ∨ i = 6 ∨ i = 7 := by omega
  rcases hc with rfl | rfl | rfl | rfl | rfl | rfl | rfl | rfl <;> rfl
theorem tok_copy8 {P : Program} (w : World) (dT sT ty e : TypeId) (g : Nat) (o0 o1 o2 o3 o4 o5 o6 o7 : Nat) (h1 : o1 = o0 + 1) (h2 : o2 = o0 + 2) (h3 : o3 = o0 + 3) (h4 : o4 = o0 + 4) (h5 : o5 = o0 + 5) (h6 : o6 = o0 + 6) (h7 : o7 = o0 + 7)
    (s : ByteArray) (hu : P.underlying dT = some (.slice e)) (hs : (P.info? e).map (·.size) = some 1) (h8 : 8 ≤ s.size) (cur : Array Value) (t : TypeId)
    (hg : w.heap[g]? = some (.cells cur t (0, 0))) (hfit : o0 + 8 ≤ cur.size) :
    (Builtin.copy_ #[dT, sT] ty #[.slice (some ⟨g, o0, none⟩) 8 8, .string s]).run P w =
      .ok (.int .i64 8) ((((((((w.setCell ⟨g, o0, none⟩ (.int .u8 (bt s 0))).setCell ⟨g, o1, none⟩ (.int .u8 (bt s 1))).setCell ⟨g, o2, none⟩ (.int .u8 (bt s 2))).setCell ⟨g, o3, none⟩ (.int .u8 (bt s 3))).setCell
        ⟨g, o4, none⟩ (.int .u8 (bt s 4))).setCell ⟨g, o5, none⟩ (.int .u8 (bt s 5))).setCell ⟨g, o6, none⟩ (.int .u8 (bt s 6))).setCell ⟨g, o7, none⟩ (.int .u8 (bt s 7))) := by
  subst h1 h2 h3 h4 h5 h6 h7
  have hlen : ((s.data.toList.take 8).map (fun b : UInt8 => Value.int .u8 (b.toNat : Int))).length = 8 := by
    rw [List.length_map, List.length_take, ← Lib.size_eq]; omega
  have hst := run_storeCells_cells (P := P) g o0 ((s.data.toList.take 8).map (fun b : UInt8 => Value.int .u8 (b.toNat : Int))) 0 w
    (by rw [hlen]; intro j hj; rw [blk_cell hg]; simp; omega) (by rw [hlen]; intro j hj; exact blk_frozen hg _) (by
    intro v hv
    obtain ⟨x, _, rfl⟩ := List.mem_map.1 hv
    rfl)
  have hmin : Nat.min s.size 8 = 8 := Nat.min_eq_right h8
  rw [take8 s h8] at hst
  cases hq : P.info? e with
  | none => simp [hq] at hs
  | some i =>
    have hz : i.size = 1 := by simpa [hq] using hs
    simp [Builtin.copy_, run_underlying hu, Builtin.lenOf, Builtin.firstCells, sizeOf, typeInfo, hq, hmin, hz]
    rw [← List.map_take, take8 s h8, hst]
    simp [Result.andThen, World.setCells]
    rfl
end Go.Proofs.Ytimfgflcflhfcaa.Num
