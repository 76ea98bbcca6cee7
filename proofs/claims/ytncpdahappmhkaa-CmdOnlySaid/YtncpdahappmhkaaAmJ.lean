/- The abstract machine's operations are the model's: all of them; steps, code, calls. -/
import Derived.Test.YtncpdahappmhkaaAmI
namespace Go.Proofs.Ytncpdahappmhkaa.Am
open Go
set_option linter.unusedVariables false
set_option linter.unusedSimpArgs false
variable {P : Program} {base : Nat} {r : Rho} {h h2 : H} {w : World} {e : Env} {a : Act} {nm : Option Nat} {v : Value}

theorem compOp_sound {i : IOp} {o : Oper} (hc : compOp P o.op = some i) (R : Rel base r h w) (he : EnvR r e a.tmps) (hnm : ∀ n, nm = some n → n < h.next ∧ r n = none)
    (E : opE i e h nm = some (v, h2)) : Stp base nm r h w v h2 ((execOp a.eval o).run P w) := by
  have aggT : ∀ {t fs}, P.underlying t = some (.struct fs) → isAggB P t = true := fun q => by simp [isAggB, q]
  have aggA : ∀ {t n el}, P.underlying t = some (.array n el) → isAggB P t = true := fun q => by simp [isAggB, q]
  cases ho : o.op <;> rw [ho] at hc <;> simp only [compOp] at hc <;> try (cases hc; done)
  case move x => cases hc; exact s_mov R he hnm (.inl ho) E
  case assign x => cases hc; exact s_mov R he hnm (.inr ho) E
  case pick c x y => cases hc; exact s_pick R he hnm ho E
  case alloc t =>
    split at hc
    · rename_i z hz; cases hc; exact s_new R he hnm ho hz E
    · cases hc
  case box t x => cases hc; exact s_box R he hnm ho E
  case build t ps =>
    split at hc
    · rename_i z hz
      split at hc
      · rename_i fs ht
        split at hc
        · rename_i hf
          split at hc
          · rename_i l hl; cases hc; exact s_buildS R he hnm ho hz ht hf hl E
          · cases hc
        · cases hc
      · rename_i n el ht
        split at hc
        · rename_i s hs; cases hc; exact s_buildA R he hnm ho hz ht hs E
        · cases hc
      · cases hc
    · cases hc
  case buildSlice t n ps =>
    split at hc
    · rename_i el ht
      split at hc
      · rename_i z hz
        split at hc
        · rename_i hle; cases hc; exact s_bsl R he hnm ho hz ht hle E
        · cases hc
      · cases hc
    · cases hc
  case load t x =>
    split at hc
    · rename_i n fs hs ht; cases hc; exact s_ldN R he hnm ho hs (aggT ht) E
    · rename_i n m el hs ht; cases hc; exact s_ldN R he hnm ho hs (aggA ht) E
    · rename_i n d h1 h2 hs ht; cases hc
      refine s_ld1 R he hnm ho ht ?_ E
      unfold isAggB; rw [ht]
      cases d <;> first | rfl | (exact absurd rfl (h1 _)) | (exact absurd rfl (h2 _ _))
    · cases hc
  case store t x y =>
    split at hc
    · rename_i n hs; cases hc; exact s_st R he hnm ho hs E
    · cases hc
  case nilCheck x => cases hc; exact s_nck R he hnm ho E
  case binOp op t x y u =>
    unfold compBin at hc
    split at hc
    · cases hc; exact s_bin R he hnm ho E
    · cases hc; exact s_bin R he hnm ho E
    · rename_i ht
      split at hc
      · cases hc; exact s_eqq1 R he hnm ho (.inl ⟨rfl, rfl⟩) ⟨rfl, ht⟩ E
      · cases hc; exact s_eqq1 R he hnm ho (.inr ⟨rfl, rfl⟩) ⟨rfl, ht⟩ E
      · cases hc
    · rename_i el ht
      split at hc
      · cases hc; exact s_eqqP R he hnm ho (.inl ⟨rfl, rfl⟩) ht E
      · cases hc; exact s_eqqP R he hnm ho (.inr ⟨rfl, rfl⟩) ht E
      · cases hc
    · rename_i el ht
      split at hc
      · cases hc; exact s_eqqV R he hnm ho (.inl ⟨rfl, rfl⟩) ht E
      · cases hc; exact s_eqqV R he hnm ho (.inr ⟨rfl, rfl⟩) ht E
      · cases hc
    · rename_i fs ht
      split at hc
      · rename_i hg
        split at hc
        · rename_i l hl; cases hc; exact s_eqqA R he hnm ho (.inl ⟨rfl, rfl⟩) (aggT ht) hg hl E
        · rename_i l hl; cases hc; exact s_eqqA R he hnm ho (.inr ⟨rfl, rfl⟩) (aggT ht) hg hl E
        · cases hc
      · cases hc
    · rename_i n el ht
      split at hc
      · rename_i hg
        split at hc
        · rename_i l hl; cases hc; exact s_eqqA R he hnm ho (.inl ⟨rfl, rfl⟩) (aggA ht) hg hl E
        · rename_i l hl; cases hc; exact s_eqqA R he hnm ho (.inr ⟨rfl, rfl⟩) (aggA ht) hg hl E
        · cases hc
      · cases hc
    · cases hc
  case unOp op t x => cases hc; exact s_un R he hnm ho E
  case convert s d x =>
    unfold compCv at hc
    split at hc
    · rename_i k1 k2 h1 hd; cases hc; exact s_cvI R he hnm ho h1 hd E
    · rename_i h1 hd; cases hc; exact s_cvS R he hnm ho h1 hd E
    · rename_i el hs hd
      split at hc
      · rename_i hel; cases hc; exact s_cvB R he hnm ho hs hel hd E
      · cases hc
    · rename_i el hs hd
      split at hc
      · rename_i hel; cases hc; exact s_cvY R he hnm ho hs hel hd E
      · cases hc
    · cases hc
  case makeInterface t x =>
    split at hc
    · cases hc
    · rename_i d hn ht; cases hc; exact s_mkI R he hnm ho ht (fun m q => hn m q) E
    · cases hc
  case makeFunc fn x y => cases hc; exact s_mkF R he hnm ho E
  case makeSlice t l c =>
    split at hc
    · rename_i el ht
      split at hc
      · rename_i z b hz hb; cases hc; exact s_mkS R he hnm ho ht hz hb E
      · cases hc
    · cases hc
  case slice t x lo hi mx =>
    split at hc
    · rename_i ht
      split at hc
      · rename_i hm
        cases mx with
        | none => cases hc; exact s_slS R he hnm ho ht E
        | some m => cases hm
      · cases hc
    · rename_i el ht
      split at hc
      · rename_i s hs; cases hc; exact s_slV R he hnm ho ht hs E
      · cases hc
    · rename_i n el ht
      split at hc
      · rename_i s hs; cases hc; exact s_slA R he hnm ho ht hs E
      · cases hc
    · cases hc
  case fieldAddr t x k =>
    split at hc
    · rename_i fs ht
      split at hc
      · rename_i f hf
        split at hc
        · rename_i s hs
          split at hc
          · cases hc
          · rename_i h0; cases hc; exact s_fa R he hnm ho ht hf hs h0 E
        · cases hc
      · cases hc
    · cases hc
  case field t x k =>
    split at hc
    · rename_i fs ht
      split at hc
      · rename_i f hf
        split at hc
        · rename_i n gs hs hd; cases hc; exact s_fd R he hnm ho ht hf hs hd (.inr ⟨rfl, aggT hd⟩) E
        · rename_i n m el hs hd; cases hc; exact s_fd R he hnm ho ht hf hs hd (.inr ⟨rfl, aggA hd⟩) E
        · rename_i n d h1 h2 hs hd; cases hc
          refine s_fd R he hnm ho ht hf hs hd (.inl ⟨rfl, ?_⟩) E
          unfold isAggB; rw [hd]
          cases d <;> first | rfl | (exact absurd rfl (h1 _)) | (exact absurd rfl (h2 _ _))
        · cases hc
      · cases hc
    · cases hc
  case indexAddr t x j =>
    split at hc
    · rename_i el ht
      split at hc
      · rename_i s hs; cases hc; exact s_iaV R he hnm ho ht hs E
      · cases hc
    · rename_i n el ht
      split at hc
      · rename_i s hs; cases hc; exact s_iaA R he hnm ho ht hs E
      · cases hc
    · cases hc
  case index t x j =>
    split at hc
    · rename_i ht; cases hc; exact s_ixS R he hnm ho ht E
    · rename_i n el ht
      split at hc
      · rename_i s gs hs hd; cases hc; exact s_ixA R he hnm ho ht hs (aggT hd) hd E
      · rename_i s m el2 hs hd; cases hc; exact s_ixA R he hnm ho ht hs (aggA hd) hd E
      · rename_i s d h1 h2 hs hd; cases hc
        refine s_ixA R he hnm ho ht hs ?_ hd E
        unfold isAggB; rw [hd]
        cases d <;> first | rfl | (exact absurd rfl (h1 _)) | (exact absurd rfl (h2 _ _))
      · cases hc
    · cases hc
  case extract x k => cases hc; exact s_ext R he hnm ho E
  case call c =>
    split at hc
    · rename_i b hb
      unfold compB at hc
      split at hc
      · rename_i t x hts hx
        split at hc
        · rename_i ht; cases hc; exact s_lenS R he hnm ho hb hx hts ht E
        · rename_i el ht; cases hc; exact s_lenV R he hnm ho hb hx hts ht E
        · rename_i n el ht; cases hc; exact s_lenC R he hnm ho hb hx hts ht E
        · cases hc
      · rename_i t x hts hx
        split at hc
        · rename_i el ht; cases hc; exact s_capV R he hnm ho hb hx hts ht E
        · cases hc
      · rename_i ts x y hx; cases hc; exact s_mm (isMin := true) R he hnm ho hb hx E
      · rename_i ts x y hx; cases hc; exact s_mm (isMin := false) R he hnm ho hb hx E
      · rename_i t u x y hts hx
        split at hc
        · rename_i el ht
          split at hc
          · rename_i s b hs hb2 hz hu; cases hc; exact s_app R he hnm ho hb hx hts ht hu hs hb2 hz E
          · split at hc
            · rename_i b hb2 hz hu; cases hc; exact s_apz R he hnm ho hb hx hts ht hu hb2 hz E
            · cases hc
        · cases hc
      · rename_i t u x y hts hx
        split at hc
        · rename_i el ht
          split at hc
          · rename_i s hs; cases hc; exact s_cpy R he hnm ho hb hx hts ht hs E
          · cases hc
        · cases hc
      · rename_i t x hts hx
        split at hc
        · rename_i el ht
          split at hc
          · rename_i z hz; cases hc; exact s_clr R he hnm ho hb hx hts ht hz E
          · cases hc
        · cases hc
      · cases hc
    · cases hc
end Go.Proofs.Ytncpdahappmhkaa.Am
