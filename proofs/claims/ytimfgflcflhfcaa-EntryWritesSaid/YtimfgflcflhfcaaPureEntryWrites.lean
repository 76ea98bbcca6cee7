/- EntryWrites, the plain law: which entries may be, and their bytes, are the reference's. The bound is the statement's own (a Body of at most 4000 bytes). -/
import Derived.Test.YtimfgflcflhfcaaSpecRef04
import Derived.Test.YtimfgflcflhfcaaSpecEntA
import Derived.Test.YtimfgflcflhfcaaPx16
import Derived.OpenShut
namespace Go.Proofs.Ytimfgflcflhfcaa.Pure
set_option linter.unusedVariables false
set_option linter.unusedSimpArgs false
open Go.RowKit Go.Proofs.Ytimfgflcflhfcaa.P Go.Proofs.YtimfgflcflhfcaaW.PrintWords Go.Proofs.YtimfgflcflhfcaaW.PrintLast Go.Proofs.Ytimfgflcflhfcaa.Num
theorem wf_u64 {n : Int} (h : (Lit.int .u64 n).wf = true) : ∃ m : Nat, n = m ∧ m < 18446744073709551616 := by
  simp [Lit.wf, IntKind.min, IntKind.max, IntKind.signed, IntKind.bits] at h
  exact ⟨n.toNat, by omega, by omega⟩
theorem wf_u8 {n : Int} (h : (Lit.int .u8 n).wf = true) : ∃ m : Nat, n = m ∧ m < 256 := by
  simp [Lit.wf, IntKind.min, IntKind.max, IntKind.signed, IntKind.bits] at h
  exact ⟨n.toNat, by omega, by omega⟩
theorem wf_by {n : Int} (h : (Lit.int .u8 n).wf = true) : ∃ c : UInt8, n = (c.toNat : Int) := by
  obtain ⟨m, rfl, hm⟩ := wf_u8 h
  exact ⟨by_ m, by rw [by_toNat hm]⟩
theorem EntryWrites : wapentakelaw04_EntryWrites.Pure := by
  intro a h
  obtain ⟨f0, f1, f2, f3, ⟨t0, t1, t2, t3, t4, t5, t6, t7⟩, f5⟩ := a
  dsimp only at h ⊢
  obtain ⟨h0, h1, h2, h3, ⟨g0, g1, g2, g3, g4, g5, g6, g7⟩, h5⟩ := h
  obtain ⟨ix, rfl, hix⟩ := wf_u64 h0
  obtain ⟨tm, rfl, htm⟩ := wf_u64 h1
  obtain ⟨kd, rfl, hkd⟩ := wf_u8 h2
  obtain ⟨sl, rfl, hsl⟩ := wf_u8 h3
  obtain ⟨c0, rfl⟩ := wf_by g0
  obtain ⟨c1, rfl⟩ := wf_by g1
  obtain ⟨c2, rfl⟩ := wf_by g2
  obtain ⟨c3, rfl⟩ := wf_by g3
  obtain ⟨c4, rfl⟩ := wf_by g4
  obtain ⟨c5, rfl⟩ := wf_by g5
  obtain ⟨c6, rfl⟩ := wf_by g6
  obtain ⟨c7, rfl⟩ := wf_by g7
  obtain ⟨b, rfl⟩ := mkB_eta f5
  clear h0 h1 h2 h3 g0 g1 g2 g3 g4 g5 g6 g7 h5
  refine ⟨200, ?_⟩
  unfold wapentakelaw04_EntryWrites.f
  rw [awake04 200 (by omega), mkB_size]
  by_cases hb : (b.length : Int) > 4000
  · rw [if_pos hb]; rfl
  · rw [if_neg hb, entRight_spec ix tm kd sl c0 c1 c2 c3 c4 c5 c6 c7 b 200 (by omega), Option.bind_some, refRight_spec ix tm kd sl c0 c1 c2 c3 c4 c5 c6 c7 b 200 (by omega), Option.bind_some, if_pos (beq_self_eq_true _),
      entWrite_spec ix tm kd sl c0 c1 c2 c3 c4 c5 c6 c7 b 200 hix htm (by omega) (by omega), Option.bind_some, refWrite_spec ix tm kd sl c0 c1 c2 c3 c4 c5 c6 c7 b 200 hix htm (by omega) (by omega), Option.bind_some, if_pos rfl]
    rfl
end Go.Proofs.Ytimfgflcflhfcaa.Pure
