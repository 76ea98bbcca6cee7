/- NumKnown, the plain law: the chapter's examples. No condition. -/
import Derived.Test.YthdjecgiefednaaSpecAwake01
import Derived.Test.YthdjecgiefednaaPx12
namespace Go.Proofs.Ythdjecgiefednaa.Pure
set_option linter.unusedVariables false
set_option linter.unusedSimpArgs false
open Go.RowKit Go.Proofs.Ythdjecgiefednaa.P Go.Proofs.YthdjecgiefednaaW.PrintWords Go.Proofs.YthdjecgiefednaaW.PrintLast Go.Proofs.Ythdjecgiefednaa.Num
theorem known_end (ls : List ByteArray) (k : Nat) (hl : ls.length = 5) (hk : 100 ≤ k) : wapentakelaw01_NumKnown.l0 k 258 true false ls 5 5 = some true := by
  obtain ⟨k, rfl⟩ : ∃ m, k = m + 1 := ⟨k - 1, by omega⟩
  simp only [wapentakelaw01_NumKnown.l0]
  have h1 : num_ReadV.f k (⟨#[129, 255, 255, 255, 255, 255, 255, 255, 255, 127]⟩ : ByteArray) = some (18446744073709551615, 10, true) := readV_spec [129, 255, 255, 255, 255, 255, 255, 255, 255, 127] k (by simp; omega)
  have h2 : num_ReadS.f k (⟨#[2, 97]⟩ : ByteArray) = some (mkB [], 0, false) := readS_spec [2, 97] k (by simp) (by simp; omega)
  have h3 : num_U.f k 258 1 = some (mkB [2]) := by simpa [wideI, wide] using U_spec 258 k 1 (by omega)
  have h4 : num_U.f k 1 9 = some (mkB []) := by simpa [wideI, wide] using U_spec 1 k 9 (by omega)
  have h5 : num_U.f k 1 0 = some (mkB []) := by simpa [wideI, wide] using U_spec 1 k 0 (by omega)
  have h6 : num_V.f ([18446744073709551615] : List Int) = some (mkB [129, 255, 255, 255, 255, 255, 255, 255, 255, 127]) := by
    have e : grp 18446744073709551615 = [129, 255, 255, 255, 255, 255, 255, 255, 255, 127] := grp_of_readV rfl
    rw [← e]
    exact V_one 18446744073709551615 (by omega)
  have h7 : num_S.f k ([(⟨#[97, 98]⟩ : ByteArray), (⟨#[]⟩ : ByteArray)] : List ByteArray) = some (mkB [2, 97, 98, 0]) := by
    have h := numS_spec [[97, 98], []] k (by simp) (by simp [total]) (by simp; omega)
    have e1 : grp 2 = [2] := grp_of_readV rfl
    have e2 : grp 0 = [0] := grp_of_readV rfl
    have e : numS [[97, 98], []] = [2, 97, 98, 0] := by simp [numS, rowS, e1, e2]
    rw [e] at h
    exact h
  have h8 : num_V.f ([] : List Int) = some (mkB []) := by rw [V_spec _ (by simp) (by simp)]; rfl
  rw [if_neg (by omega), h1, h2, h3, h4, h5, h6, h7, h8, awake_spec k (by omega)]
  simp [mkB_toList]
theorem known_step (ls : List ByteArray) (i k : Nat) (s : List UInt8) (hi : i < 5) (hl : ls.length = 5) (hs : rdOf ByteArray.empty ls (i : Int) = mkB s) (hn : readV s = none) (hk : 3 * s.length + 3 ≤ k) :
    wapentakelaw01_NumKnown.l0 (k + 1) 258 true false ls 5 (i : Int) = wapentakelaw01_NumKnown.l0 k 258 true false ls 5 ((i + 1 : Nat) : Int) := by
  have e : num_ReadV.f k (mkB s) = some (0, 0, false) := by rw [readV_spec s k hk, hn]; rfl
  conv => lhs; rw [wapentakelaw01_NumKnown.l0]
  rw [if_pos (by omega), if_pos (by omega), if_pos (by omega), hs, e]
  simp only [Option.bind_some, if_true]
  rw [if_neg (by decide), wrap64_id (by omega) (by omega), show ((i : Int) + 1) = ((i + 1 : Nat) : Int) from by omega]
theorem NumKnown : wapentakelaw01_NumKnown.Pure := by
  refine ⟨200, ?_⟩
  unfold wapentakelaw01_NumKnown.f
  have h1 : num_ReadU.f 200 (⟨#[1, 2]⟩ : ByteArray) 2 = some (258, true) := ReadU_spec [1, 2] 200 2 (by omega)
  have h2 : num_ReadU.f 200 (⟨#[1]⟩ : ByteArray) 2 = some (0, false) := ReadU_spec [1] 200 2 (by omega)
  rw [h1, h2]
  simp only [Option.bind_some]
  generalize hls : ([(⟨#[]⟩ : ByteArray), (⟨#[128, 1]⟩ : ByteArray), (⟨#[129]⟩ : ByteArray), (⟨#[130, 255, 255, 255, 255, 255, 255, 255, 255, 127]⟩ : ByteArray), (⟨#[129, 128, 128, 128, 128, 128, 128, 128, 128, 128, 0]⟩ : ByteArray)] : List ByteArray) = ls
  have hl : ls.length = 5 := by rw [← hls]; rfl
  rw [show (ls.length : Int) = 5 from by omega]
  have s0 := known_step ls 0 199 [] (by omega) hl (by rw [← hls]; rfl) rfl (by simp)
  have s1 := known_step ls 1 198 [128, 1] (by omega) hl (by rw [← hls]; rfl) rfl (by simp)
  have s2 := known_step ls 2 197 [129] (by omega) hl (by rw [← hls]; rfl) rfl (by simp)
  have s3 := known_step ls 3 196 [130, 255, 255, 255, 255, 255, 255, 255, 255, 127] (by omega) hl (by rw [← hls]; rfl) rfl (by simp)
  have s4 := known_step ls 4 195 [129, 128, 128, 128, 128, 128, 128, 128, 128, 128, 0] (by omega) hl (by rw [← hls]; rfl) rfl (by simp)
  exact s0.trans (s1.trans (s2.trans (s3.trans (s4.trans (known_end ls 195 hl (by omega))))))
end Go.Proofs.Ythdjecgiefednaa.Pure
