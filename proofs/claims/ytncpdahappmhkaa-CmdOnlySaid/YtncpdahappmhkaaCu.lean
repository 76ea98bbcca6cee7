/- What the readers of chapter 03 read, walked. -/
import Derived.Test.YtncpdahappmhkaaCt
namespace Go.Proofs.Ytncpdahappmhkaa.Wt
open Go Go.Proofs.Ytncpdahappmhkaa.Am Go.Proofs.Ytncpdahappmhkaa.IrAll
set_option linter.unusedVariables false
set_option linter.unusedSimpArgs false
variable {h base : H} {L : List Seg} {R : List Nat}
set_option maxRecDepth 8000 in
theorem walkR_ran {r p : Nat} {s : List UInt8} (M : Mem base h ([(r, ⟨[.string (bs s), .bool false], 0, false⟩)] :: [(p, ⟨[.int .u8 0, .int .u64 0, .int .u64 0, .string (bs []), .string (bs []), .string (bs []), .string (bs []), .string (bs []), .int .u8 0, .int .u64 0, .int .u64 0, .slice none 0 0], 0, false⟩)] :: L) []) (hl : s.length ≤ 5000) :
    Cll tab0 34 [.iface 69 (.pointer (some ⟨r, 0, none⟩)), .pointer (some ⟨p, 0, none⟩)] h (fun v h2 => ∃ c V S s' b', v = .tuple #[] ∧ KPart.Own V (Cmd.ps c) S ∧ Fit c ∧ Mem base h2 (S :: [(r, ⟨[.string (bs s'), .bool b'], 0, false⟩)] :: [(p, ⟨c.cells V, 0, false⟩)] :: L) []) := by
  refine Cll.code rfl rfl ?_
  refine WC.env [(0, _), (1, _)] rfl ?_
  refine WC.seq ?_
  refine WC.draw M [] rfl ?_
  intro rb1 h2 M3
  refine WS.op rfl rfl (WS.op rfl rfl (WS.op rfl rfl (WS.op rfl rfl (WS.op rfl rfl (WS.op rfl rfl (WS.op rfl rfl ?_))))))
  refine WS.call rfl rfl rfl (r_byte_ran (s := s) (b := false) (k := 0) (old := 0) ((M3.focus 1 rfl).focus 1 rfl) rfl (by omega)) ?_
  rintro _ h4 ⟨s4_, b4_, m4_, rfl, M5, R4_⟩
  have R4_l := R4_.1
  replace M5 : Mem _ _ ([(r, _)] :: [(p, _)] :: L) _ := M5
  refine WS.nil [(0, _), (1, _)] rfl ?_
  refine WC.seq ?_
  refine WC.draw M5.bare [] rfl ?_
  intro rb6 h7 M8
  refine WS.op rfl rfl (WS.op rfl rfl (WS.op rfl rfl (WS.op rfl rfl (WS.op rfl rfl (WS.op rfl rfl (WS.op rfl rfl ?_))))))
  refine WS.call rfl rfl rfl (r_number_ran (s := s4_) (b := b4_) (k := 1) (old := 0) ((M8.focus 1 rfl).focus 1 rfl) rfl (by omega)) ?_
  rintro _ h9 ⟨s9_, b9_, m9_, rfl, M10, R9_⟩
  have R9_l := R9_.1
  replace M10 : Mem _ _ ([(r, _)] :: [(p, _)] :: L) _ := M10
  refine WS.nil [(0, _), (1, _)] rfl ?_
  refine WC.seq ?_
  refine WC.draw M10.bare [] rfl ?_
  intro rb11 h12 M13
  refine WS.op rfl rfl (WS.op rfl rfl (WS.op rfl rfl (WS.op rfl rfl (WS.op rfl rfl (WS.op rfl rfl (WS.op rfl rfl ?_))))))
  refine WS.call rfl rfl rfl (r_number_ran (s := s9_) (b := b9_) (k := 2) (old := 0) ((M13.focus 1 rfl).focus 1 rfl) rfl (by omega)) ?_
  rintro _ h14 ⟨s14_, b14_, m14_, rfl, M15, R14_⟩
  have R14_l := R14_.1
  replace M15 : Mem _ _ ([(r, _)] :: [(p, _)] :: L) _ := M15
  refine WS.nil [(0, _), (1, _)] rfl ?_
  refine WC.seq ?_
  refine WC.run ?_
  refine WS.op rfl rfl (WS.op rfl rfl (WS.op rfl rfl (WS.op rfl (op_ld (M15.bare.at 1 rfl) rfl rfl) (WS.nil [(0, _), (1, _), (31, _)] rfl ?_))))
  refine WC.block ?_
  refine WC.seq ?_
  refine WC.seq ?_
  refine WC.run ?_
  refine WS.eqlN (a := (m4_).toNat) (b := 1) rfl rfl rfl (fun e33 => ?_) (fun e33 => ?_)
  · skip
    refine WS.op rfl rfl (WS.nil [(0, _), (1, _), (31, _), (32, _)] rfl ?_)
    refine WC.condT rfl ?_
    refine WC.skip ?_
    refine WC.condT rfl ?_
    refine WC.draw M15.bare [] rfl ?_
    intro rb16 h17 M18
    refine WS.op rfl rfl (WS.op rfl rfl (WS.op rfl rfl (WS.op rfl rfl (WS.op rfl rfl (WS.op rfl rfl (WS.op rfl rfl ?_))))))
    refine WS.call rfl rfl rfl (r_number_ran (s := s14_) (b := b14_) (k := 10) (old := 0) ((M18.focus 1 rfl).focus 1 rfl) rfl (by omega)) ?_
    rintro _ h19 ⟨s19_, b19_, m19_, rfl, M20, R19_⟩
    have R19_l := R19_.1
    replace M20 : Mem _ _ ([(r, _)] :: [(p, _)] :: L) _ := M20
    refine WS.nil [] rfl ?_
    refine ⟨[], res_nil, ?_⟩
    refine ⟨(⟨m4_, m9_, m14_, ([]), ([]), ([]), ([]), ([]), 0, 0, m19_, []⟩ : Cmd), _, _, _, _, rfl, .nil, ?_, ((M20.bare)).nils⟩
    unfold Fit; dsimp only; exact ⟨by first | omega | simp, by first | omega | simp, by first | omega | simp, by first | omega | simp, by first | omega | simp, by simp, by intro p hp; cases hp⟩
  · skip
    refine WS.op rfl rfl (WS.nil [(0, _), (1, _), (31, _), (32, _)] rfl ?_)
    refine WC.condF rfl ?_
    refine WC.run ?_
    refine WS.eqlN (a := (m4_).toNat) (b := 6) rfl rfl rfl (fun e34 => ?_) (fun e34 => ?_)
    · skip
      refine WS.op rfl rfl (WS.nil [(0, _), (1, _), (31, _), (32, _)] rfl ?_)
      refine WC.condT rfl ?_
      refine WC.draw M15.bare [] rfl ?_
      intro rb21 h22 M23
      refine WS.op rfl rfl (WS.op rfl rfl (WS.op rfl rfl (WS.op rfl rfl (WS.op rfl rfl (WS.op rfl rfl (WS.op rfl rfl ?_))))))
      refine WS.call rfl rfl rfl (r_number_ran (s := s14_) (b := b14_) (k := 10) (old := 0) ((M23.focus 1 rfl).focus 1 rfl) rfl (by omega)) ?_
      rintro _ h24 ⟨s24_, b24_, m24_, rfl, M25, R24_⟩
      have R24_l := R24_.1
      replace M25 : Mem _ _ ([(r, _)] :: [(p, _)] :: L) _ := M25
      refine WS.nil [] rfl ?_
      refine ⟨[], res_nil, ?_⟩
      refine ⟨(⟨m4_, m9_, m14_, ([]), ([]), ([]), ([]), ([]), 0, 0, m24_, []⟩ : Cmd), _, _, _, _, rfl, .nil, ?_, ((M25.bare)).nils⟩
      unfold Fit; dsimp only; exact ⟨by first | omega | simp, by first | omega | simp, by first | omega | simp, by first | omega | simp, by first | omega | simp, by simp, by intro p hp; cases hp⟩
    · skip
      refine WS.op rfl rfl (WS.nil [(0, _), (1, _), (31, _), (32, _)] rfl ?_)
      refine WC.condF rfl ?_
      refine WC.seq ?_
      refine WC.run ?_
      refine WS.eqlN (a := (m4_).toNat) (b := 2) rfl rfl rfl (fun e44 => ?_) (fun e44 => ?_)
      · skip
        refine WS.op rfl rfl (WS.nil [(0, _), (1, _), (31, _), (43, _)] rfl ?_)
        refine WC.condT rfl ?_
        refine WC.seq ?_
        refine WC.draw M15.bare [] rfl ?_
        intro rb26 h27 M28
        refine WS.op rfl rfl (WS.op rfl rfl (WS.op rfl rfl (WS.op rfl rfl (WS.op rfl rfl (WS.op rfl rfl (WS.op rfl rfl ?_))))))
        refine WS.call rfl rfl rfl (r_text_ran (s := s14_) (b := b14_) (k := 3) ((M28.focus 1 rfl).focus 1 rfl) rfl (by omega) rfl) ?_
        rintro _ h29 ⟨s29_, b29_, m29_, rfl, M30, R29_⟩
        have R29_l := R29_.1
        have R29_t := R29_.2.1
        replace M30 : Mem _ _ ([(r, _)] :: [(p, _)] :: L) _ := M30
        refine WS.nil [(0, _), (1, _)] rfl ?_
        refine WC.seq ?_
        refine WC.draw M30.bare [] rfl ?_
        intro rb31 h32 M33
        refine WS.op rfl rfl (WS.op rfl rfl (WS.op rfl rfl (WS.op rfl rfl (WS.op rfl rfl (WS.op rfl rfl (WS.op rfl rfl ?_))))))
        refine WS.call rfl rfl rfl (r_text_ran (s := s29_) (b := b29_) (k := 4) ((M33.focus 1 rfl).focus 1 rfl) rfl (by omega) rfl) ?_
        rintro _ h34 ⟨s34_, b34_, m34_, rfl, M35, R34_⟩
        have R34_l := R34_.1
        have R34_t := R34_.2.1
        replace M35 : Mem _ _ ([(r, _)] :: [(p, _)] :: L) _ := M35
        refine WS.nil [(0, _), (1, _)] rfl ?_
        refine WC.draw M35.bare [] rfl ?_
        intro rb36 h37 M38
        refine WS.op rfl rfl (WS.op rfl rfl (WS.op rfl rfl (WS.op rfl rfl (WS.op rfl rfl (WS.op rfl rfl (WS.op rfl rfl ?_))))))
        refine WS.call rfl rfl rfl (r_number_ran (s := s34_) (b := b34_) (k := 9) (old := 0) ((M38.focus 1 rfl).focus 1 rfl) rfl (by omega)) ?_
        rintro _ h39 ⟨s39_, b39_, m39_, rfl, M40, R39_⟩
        have R39_l := R39_.1
        replace M40 : Mem _ _ ([(r, _)] :: [(p, _)] :: L) _ := M40
        refine WS.nil [] rfl ?_
        refine ⟨[], res_nil, ?_⟩
        refine ⟨(⟨m4_, m9_, m14_, m29_, m34_, ([]), ([]), ([]), 0, m39_, 0, []⟩ : Cmd), _, _, _, _, rfl, .nil, ?_, ((M40.bare)).nils⟩
        unfold Fit; dsimp only; exact ⟨by first | omega | simp, by first | omega | simp, by first | omega | simp, by first | omega | simp, by first | omega | simp, by simp, by intro p hp; cases hp⟩
      · skip
        refine WS.op rfl rfl (WS.nil [(0, _), (1, _), (31, _), (43, _)] rfl ?_)
        refine WC.condF rfl ?_
        refine WC.seq ?_
        refine WC.seq ?_
        refine WC.run ?_
        refine WS.eqlN (a := (m4_).toNat) (b := 3) rfl rfl rfl (fun e70 => ?_) (fun e70 => ?_)
        · skip
          refine WS.op rfl rfl (WS.nil [(0, _), (1, _), (31, _), (69, _)] rfl ?_)
          refine WC.condT rfl ?_
          refine WC.skip ?_
          refine WC.condT rfl ?_
          refine WC.draw M15.bare [] rfl ?_
          intro rb41 h42 M43
          refine WS.op rfl rfl (WS.op rfl rfl (WS.op rfl rfl (WS.op rfl rfl (WS.op rfl rfl (WS.op rfl rfl (WS.op rfl rfl ?_))))))
          refine WS.call rfl rfl rfl (r_text_ran (s := s14_) (b := b14_) (k := 3) ((M43.focus 1 rfl).focus 1 rfl) rfl (by omega) rfl) ?_
          rintro _ h44 ⟨s44_, b44_, m44_, rfl, M45, R44_⟩
          have R44_l := R44_.1
          have R44_t := R44_.2.1
          replace M45 : Mem _ _ ([(r, _)] :: [(p, _)] :: L) _ := M45
          refine WS.nil [] rfl ?_
          refine ⟨[], res_nil, ?_⟩
          refine ⟨(⟨m4_, m9_, m14_, m44_, ([]), ([]), ([]), ([]), 0, 0, 0, []⟩ : Cmd), _, _, _, _, rfl, .nil, ?_, ((M45.bare)).nils⟩
          unfold Fit; dsimp only; exact ⟨by first | omega | simp, by first | omega | simp, by first | omega | simp, by first | omega | simp, by first | omega | simp, by simp, by intro p hp; cases hp⟩
        · skip
          refine WS.op rfl rfl (WS.nil [(0, _), (1, _), (31, _), (69, _)] rfl ?_)
          refine WC.condF rfl ?_
          refine WC.run ?_
          refine WS.eqlN (a := (m4_).toNat) (b := 8) rfl rfl rfl (fun e71 => ?_) (fun e71 => ?_)
          · skip
            refine WS.op rfl rfl (WS.nil [(0, _), (1, _), (31, _), (69, _)] rfl ?_)
            refine WC.condT rfl ?_
            refine WC.draw M15.bare [] rfl ?_
            intro rb46 h47 M48
            refine WS.op rfl rfl (WS.op rfl rfl (WS.op rfl rfl (WS.op rfl rfl (WS.op rfl rfl (WS.op rfl rfl (WS.op rfl rfl ?_))))))
            refine WS.call rfl rfl rfl (r_text_ran (s := s14_) (b := b14_) (k := 3) ((M48.focus 1 rfl).focus 1 rfl) rfl (by omega) rfl) ?_
            rintro _ h49 ⟨s49_, b49_, m49_, rfl, M50, R49_⟩
            have R49_l := R49_.1
            have R49_t := R49_.2.1
            replace M50 : Mem _ _ ([(r, _)] :: [(p, _)] :: L) _ := M50
            refine WS.nil [] rfl ?_
            refine ⟨[], res_nil, ?_⟩
            refine ⟨(⟨m4_, m9_, m14_, m49_, ([]), ([]), ([]), ([]), 0, 0, 0, []⟩ : Cmd), _, _, _, _, rfl, .nil, ?_, ((M50.bare)).nils⟩
            unfold Fit; dsimp only; exact ⟨by first | omega | simp, by first | omega | simp, by first | omega | simp, by first | omega | simp, by first | omega | simp, by simp, by intro p hp; cases hp⟩
          · skip
            refine WS.op rfl rfl (WS.nil [(0, _), (1, _), (31, _), (69, _)] rfl ?_)
            refine WC.condF rfl ?_
            refine WC.seq ?_
            refine WC.run ?_
            refine WS.eqlN (a := (m4_).toNat) (b := 4) rfl rfl rfl (fun e81 => ?_) (fun e81 => ?_)
            · skip
              refine WS.op rfl rfl (WS.nil [(0, _), (1, _), (31, _), (80, _)] rfl ?_)
              refine WC.condT rfl ?_
              refine WC.seq ?_
              refine WC.draw M15.bare [] rfl ?_
              intro rb51 h52 M53
              refine WS.op rfl rfl (WS.op rfl rfl (WS.op rfl rfl (WS.op rfl rfl (WS.op rfl rfl (WS.op rfl rfl (WS.op rfl rfl ?_))))))
              refine WS.call rfl rfl rfl (r_text_ran (s := s14_) (b := b14_) (k := 3) ((M53.focus 1 rfl).focus 1 rfl) rfl (by omega) rfl) ?_
              rintro _ h54 ⟨s54_, b54_, m54_, rfl, M55, R54_⟩
              have R54_l := R54_.1
              have R54_t := R54_.2.1
              replace M55 : Mem _ _ ([(r, _)] :: [(p, _)] :: L) _ := M55
              refine WS.nil [(0, _), (1, _)] rfl ?_
              refine WC.seq ?_
              refine WC.draw M55.bare [] rfl ?_
              intro rb56 h57 M58
              refine WS.op rfl rfl (WS.op rfl rfl (WS.op rfl rfl (WS.op rfl rfl (WS.op rfl rfl (WS.op rfl rfl (WS.op rfl rfl ?_))))))
              refine WS.call rfl rfl rfl (r_text_ran (s := s54_) (b := b54_) (k := 5) ((M58.focus 1 rfl).focus 1 rfl) rfl (by omega) rfl) ?_
              rintro _ h59 ⟨s59_, b59_, m59_, rfl, M60, R59_⟩
              have R59_l := R59_.1
              have R59_t := R59_.2.1
              replace M60 : Mem _ _ ([(r, _)] :: [(p, _)] :: L) _ := M60
              refine WS.nil [(0, _), (1, _)] rfl ?_
              refine WC.draw M60.bare [] rfl ?_
              intro rb61 h62 M63
              refine WS.op rfl rfl (WS.op rfl rfl (WS.op rfl rfl (WS.op rfl rfl (WS.op rfl rfl (WS.op rfl rfl (WS.op rfl rfl ?_))))))
              refine WS.call rfl rfl rfl (r_text_ran (s := s59_) (b := b59_) (k := 4) ((M63.focus 1 rfl).focus 1 rfl) rfl (by omega) rfl) ?_
              rintro _ h64 ⟨s64_, b64_, m64_, rfl, M65, R64_⟩
              have R64_l := R64_.1
              have R64_t := R64_.2.1
              replace M65 : Mem _ _ ([(r, _)] :: [(p, _)] :: L) _ := M65
              refine WS.nil [] rfl ?_
              refine ⟨[], res_nil, ?_⟩
              refine ⟨(⟨m4_, m9_, m14_, m54_, m64_, m59_, ([]), ([]), 0, 0, 0, []⟩ : Cmd), _, _, _, _, rfl, .nil, ?_, ((M65.bare)).nils⟩
              unfold Fit; dsimp only; exact ⟨by first | omega | simp, by first | omega | simp, by first | omega | simp, by first | omega | simp, by first | omega | simp, by simp, by intro p hp; cases hp⟩
            · skip
              refine WS.op rfl rfl (WS.nil [(0, _), (1, _), (31, _), (80, _)] rfl ?_)
              refine WC.condF rfl ?_
              refine WC.seq ?_
              refine WC.run ?_
              refine WS.eqlN (a := (m4_).toNat) (b := 5) rfl rfl rfl (fun e107 => ?_) (fun e107 => ?_)
              · skip
                refine WS.op rfl rfl (WS.nil [(0, _), (1, _), (31, _), (106, _)] rfl ?_)
                refine WC.condT rfl ?_
                refine WC.run ?_
                refine WS.op rfl rfl (WS.op rfl rfl ?_)
                refine WS.call rfl rfl rfl (partsR_ran (s := s14_) (b := b14_) (c := (⟨m4_, m9_, m14_, ([]), ([]), ([]), ([]), ([]), 0, 0, 0, []⟩ : Cmd)) ((M15.bare.focus 1 rfl).focus 1 rfl) (by omega)) ?_
                rintro _ h66 ⟨sp, bp, V68, ps, S69, rfl, O70, hpl, hpf, M67⟩
                obtain ⟨P71, rfl⟩ := O70.shape
                replace M67 : Mem _ _ (S69 :: [(r, _)] :: [(p, _)] :: L) _ := M67
                refine WS.nil [] rfl ?_
                refine ⟨[], res_nil, ?_⟩
                refine ⟨(⟨m4_, m9_, m14_, ([]), ([]), ([]), ([]), ([]), 0, 0, 0, ps⟩ : Cmd), _, _, _, _, rfl, O70, ?_, M67⟩
                unfold Fit; dsimp only; exact ⟨by first | omega | simp, by first | omega | simp, by first | omega | simp, by first | omega | simp, by first | omega | simp, hpl, hpf⟩
              · skip
                refine WS.op rfl rfl (WS.nil [(0, _), (1, _), (31, _), (106, _)] rfl ?_)
                refine WC.condF rfl ?_
                refine WC.seq ?_
                refine WC.run ?_
                refine WS.eqlN (a := (m4_).toNat) (b := 7) rfl rfl rfl (fun e112 => ?_) (fun e112 => ?_)
                · skip
                  refine WS.op rfl rfl (WS.nil [(0, _), (1, _), (31, _), (111, _)] rfl ?_)
                  refine WC.condT rfl ?_
                  refine WC.draw M15.bare [] rfl ?_
                  intro rb72 h73 M74
                  refine WS.op rfl rfl (WS.op rfl rfl (WS.op rfl rfl (WS.op rfl rfl (WS.op rfl rfl (WS.op rfl rfl (WS.op rfl rfl ?_))))))
                  refine WS.call rfl rfl rfl (r_number_ran (s := s14_) (b := b14_) (k := 9) (old := 0) ((M74.focus 1 rfl).focus 1 rfl) rfl (by omega)) ?_
                  rintro _ h75 ⟨s75_, b75_, m75_, rfl, M76, R75_⟩
                  have R75_l := R75_.1
                  replace M76 : Mem _ _ ([(r, _)] :: [(p, _)] :: L) _ := M76
                  refine WS.nil [] rfl ?_
                  refine ⟨[], res_nil, ?_⟩
                  refine ⟨(⟨m4_, m9_, m14_, ([]), ([]), ([]), ([]), ([]), 0, m75_, 0, []⟩ : Cmd), _, _, _, _, rfl, .nil, ?_, ((M76.bare)).nils⟩
                  unfold Fit; dsimp only; exact ⟨by first | omega | simp, by first | omega | simp, by first | omega | simp, by first | omega | simp, by first | omega | simp, by simp, by intro p hp; cases hp⟩
                · skip
                  refine WS.op rfl rfl (WS.nil [(0, _), (1, _), (31, _), (111, _)] rfl ?_)
                  refine WC.condF rfl ?_
                  refine WC.seq ?_
                  refine WC.run ?_
                  refine WS.eqlN (a := (m4_).toNat) (b := 9) rfl rfl rfl (fun e122 => ?_) (fun e122 => ?_)
                  · skip
                    refine WS.op rfl rfl (WS.nil [(0, _), (1, _), (121, _)] rfl ?_)
                    refine WC.condT rfl ?_
                    refine WC.seq ?_
                    refine WC.draw M15.bare [] rfl ?_
                    intro rb77 h78 M79
                    refine WS.op rfl rfl (WS.op rfl rfl (WS.op rfl rfl (WS.op rfl rfl (WS.op rfl rfl (WS.op rfl rfl (WS.op rfl rfl ?_))))))
                    refine WS.call rfl rfl rfl (r_text_ran (s := s14_) (b := b14_) (k := 6) ((M79.focus 1 rfl).focus 1 rfl) rfl (by omega) rfl) ?_
                    rintro _ h80 ⟨s80_, b80_, m80_, rfl, M81, R80_⟩
                    have R80_l := R80_.1
                    have R80_t := R80_.2.1
                    replace M81 : Mem _ _ ([(r, _)] :: [(p, _)] :: L) _ := M81
                    refine WS.nil [(0, _), (1, _)] rfl ?_
                    refine WC.seq ?_
                    refine WC.draw M81.bare [] rfl ?_
                    intro rb82 h83 M84
                    refine WS.op rfl rfl (WS.op rfl rfl (WS.op rfl rfl (WS.op rfl rfl (WS.op rfl rfl (WS.op rfl rfl (WS.op rfl rfl ?_))))))
                    refine WS.call rfl rfl rfl (r_text_ran (s := s80_) (b := b80_) (k := 7) ((M84.focus 1 rfl).focus 1 rfl) rfl (by omega) rfl) ?_
                    rintro _ h85 ⟨s85_, b85_, m85_, rfl, M86, R85_⟩
                    have R85_l := R85_.1
                    have R85_t := R85_.2.1
                    replace M86 : Mem _ _ ([(r, _)] :: [(p, _)] :: L) _ := M86
                    refine WS.nil [(0, _), (1, _)] rfl ?_
                    refine WC.draw M86.bare [] rfl ?_
                    intro rb87 h88 M89
                    refine WS.op rfl rfl (WS.op rfl rfl (WS.op rfl rfl (WS.op rfl rfl (WS.op rfl rfl (WS.op rfl rfl (WS.op rfl rfl ?_))))))
                    refine WS.call rfl rfl rfl (r_byte_ran (s := s85_) (b := b85_) (k := 8) (old := 0) ((M89.focus 1 rfl).focus 1 rfl) rfl (by omega)) ?_
                    rintro _ h90 ⟨s90_, b90_, m90_, rfl, M91, R90_⟩
                    have R90_l := R90_.1
                    replace M91 : Mem _ _ ([(r, _)] :: [(p, _)] :: L) _ := M91
                    refine WS.nil [] rfl ?_
                    refine ⟨[], res_nil, ?_⟩
                    refine ⟨(⟨m4_, m9_, m14_, ([]), ([]), ([]), m80_, m85_, m90_, 0, 0, []⟩ : Cmd), _, _, _, _, rfl, .nil, ?_, ((M91.bare)).nils⟩
                    unfold Fit; dsimp only; exact ⟨by first | omega | simp, by first | omega | simp, by first | omega | simp, by first | omega | simp, by first | omega | simp, by simp, by intro p hp; cases hp⟩
                  · skip
                    refine WS.op rfl rfl (WS.nil [(0, _), (1, _), (121, _)] rfl ?_)
                    refine WC.condF rfl ?_
                    refine WC.skip ?_
                    refine ⟨[], res_nil, ?_⟩
                    refine ⟨(⟨m4_, m9_, m14_, ([]), ([]), ([]), ([]), ([]), 0, 0, 0, []⟩ : Cmd), _, _, _, _, rfl, .nil, ?_, ((M15.bare)).nils⟩
                    unfold Fit; dsimp only; exact ⟨by first | omega | simp, by first | omega | simp, by first | omega | simp, by first | omega | simp, by first | omega | simp, by simp, by intro p hp; cases hp⟩
def zeroC : Cmd := ⟨0, 0, 0, [], [], [], [], [], 0, 0, 0, []⟩
theorem fit0 : Fit zeroC := by unfold Fit zeroC FitP; simp
set_option maxRecDepth 8000 in
theorem Read_ran (W : Mem h h [] []) {s : List UInt8} (hl : s.length ≤ 5000) : Cll tab0 14 [.string (bs s)] h (fun v h2 => ∃ c V S ok, KPart.Own V (Cmd.ps c) S ∧ v = .tuple #[c.val V, .bool ok] ∧ Fit c ∧ (ok = true → (if mayB c then encC c else []) = s) ∧ (ok = false → c = zeroC) ∧ Mem h h2 [S] []) := by
  refine Cll.code rfl rfl ?_
  refine WC.env [(0, _)] rfl ?_
  refine WC.seq ?_
  refine WC.run ?_
  refine WS.new W rfl ?_
  intro p1 h2 M3
  refine WS.op rfl rfl (WS.nil [(0, _), (2, _)] rfl ?_)
  refine WC.seq ?_
  refine WC.run ?_
  refine WS.new M3 rfl ?_
  intro p4 h5 M6
  refine WS.nil [(0, _), (2, _), (4, _)] rfl ?_
  refine WC.seq ?_
  refine WC.run ?_
  refine WS.op rfl rfl (WS.opV (.agg #[(.string (bs s)), (.bool false)]) rfl rfl rfl ?_)
  refine WS.box M6 [_, _] rfl rfl rfl rfl ?_
  intro p7 h8 M9
  refine WS.op rfl rfl (WS.nil [(0, _), (2, _), (4, _), (5, _)] rfl ?_)
  refine WC.seq ?_
  refine WC.run ?_
  refine WS.op rfl rfl (WS.op rfl rfl ?_)
  refine WS.call rfl rfl rfl (walkR_ran (s := s) ((M9.focus 1 rfl).focus 1 rfl) (by omega)) ?_
  rintro _ h10 ⟨cr, V12, S13, sr, br, rfl, O14, hF, M11⟩
  obtain ⟨P15, rfl⟩ := O14.shape
  replace M11 : Mem _ _ (S13 :: [(p7, _)] :: [(p4, _)] :: [(p1, _)] :: []) _ := M11
  refine WS.nil [(0, _), (2, _), (4, _), (5, _)] rfl ?_
  refine WC.seq ?_
  refine WC.seq ?_
  refine WC.run ?_
  refine WS.op rfl rfl ?_
  refine WS.call rfl rfl rfl (well_ran M11.here (s := sr) (b := br) (M11.at 1 rfl)) ?_
  rintro _ h16 ⟨rfl, N17⟩
  have M18 := M11.trans N17
  cases hb1 : (decide (br = false ∧ sr = []))
  · skip
    refine WS.opV (.bool true) rfl rfl rfl (WS.op rfl rfl (WS.off rfl (WS.offC rfl (WS.off rfl (WS.off rfl (WS.op rfl rfl (WS.nil [(2, _), (4, _), (20, _)] rfl ?_)))))))
    refine WC.condT rfl ?_
    refine WC.seq ?_
    refine WC.run ?_
    refine WS.opV (.agg #[(.int .u8 (0 : Int)), (.int .u64 (0 : Int)), (.int .u64 (0 : Int)), (.string (bs ([]))), (.string (bs ([]))), (.string (bs ([]))), (.string (bs ([]))), (.string (bs ([]))), (.int .u8 (0 : Int)), (.int .u64 (0 : Int)), (.int .u64 (0 : Int)), (.slice none 0 0)]) rfl rfl rfl ?_
    refine WS.st1 (M18.focus 3 rfl) [_, _, _, _, _, _, _, _, _, _, _, _] [_, _, _, _, _, _, _, _, _, _, _, _] rfl rfl rfl rfl rfl (Nat.le_of_ble_eq_true rfl) (Nat.le_of_ble_eq_true rfl) rfl rfl ?_
    intro h19 M20
    replace M20 : Mem _ _ ([(p1, _)] :: S13 :: [(p7, _)] :: [(p4, _)] :: []) _ := M20
    refine WS.op rfl rfl (WS.nil [(2, _), (3, _)] rfl ?_)
    refine WC.ret ?_
    refine ⟨[_, _], (res_cellN [_, _, _, _, _, _, _, _, _, _, _, _] rfl (M20.at 0 rfl) (Nat.le_of_ble_eq_true rfl) rfl (res_tmp rfl res_nil)), ?_⟩
    exact ⟨zeroC, .slice none 0 0, [], false, .nil, rfl, fit0, (fun q => nomatch q), fun _ => rfl, (M20.bare.take 0).nils⟩
  · skip
    refine WS.opV (.bool false) rfl rfl rfl (WS.op rfl rfl (WS.op rfl (op_lds [_, _, _, _, _, _, _, _, _, _, _, _] (M18.at 2 rfl) rfl (Nat.le_of_ble_eq_true rfl) rfl) ?_))
    refine WS.call rfl rfl rfl (Write_ran M18.here (c := cr) (Row.Own.sl O14 (Mem.owni M18 0 rfl)) (by exact hF)) ?_
    rintro _ h21 ⟨rfl, N22⟩
    have M23 := M18.trans N22
    refine WS.op rfl rfl ?_
    refine WS.sneq (l := (if mayB cr then encC cr else [])) (m := s) rfl rfl rfl (fun e19 => ?_) (fun e19 => ?_)
    · skip
      refine WS.op rfl rfl (WS.nil [(2, _), (4, _), (20, _)] rfl ?_)
      refine WC.condT rfl ?_
      refine WC.seq ?_
      refine WC.run ?_
      refine WS.opV (.agg #[(.int .u8 (0 : Int)), (.int .u64 (0 : Int)), (.int .u64 (0 : Int)), (.string (bs ([]))), (.string (bs ([]))), (.string (bs ([]))), (.string (bs ([]))), (.string (bs ([]))), (.int .u8 (0 : Int)), (.int .u64 (0 : Int)), (.int .u64 (0 : Int)), (.slice none 0 0)]) rfl rfl rfl ?_
      refine WS.st1 (M23.focus 3 rfl) [_, _, _, _, _, _, _, _, _, _, _, _] [_, _, _, _, _, _, _, _, _, _, _, _] rfl rfl rfl rfl rfl (Nat.le_of_ble_eq_true rfl) (Nat.le_of_ble_eq_true rfl) rfl rfl ?_
      intro h24 M25
      replace M25 : Mem _ _ ([(p1, _)] :: S13 :: [(p7, _)] :: [(p4, _)] :: []) _ := M25
      refine WS.op rfl rfl (WS.nil [(2, _), (3, _)] rfl ?_)
      refine WC.ret ?_
      refine ⟨[_, _], (res_cellN [_, _, _, _, _, _, _, _, _, _, _, _] rfl (M25.at 0 rfl) (Nat.le_of_ble_eq_true rfl) rfl (res_tmp rfl res_nil)), ?_⟩
      exact ⟨zeroC, .slice none 0 0, [], false, .nil, rfl, fit0, (fun q => nomatch q), fun _ => rfl, (M25.bare.take 0).nils⟩
    · skip
      refine WS.op rfl rfl (WS.nil [(2, _), (4, _), (20, _)] rfl ?_)
      refine WC.condF rfl ?_
      refine WC.skip ?_
      refine WC.seq ?_
      refine WC.run ?_
      refine WS.op rfl (op_lds [_, _, _, _, _, _, _, _, _, _, _, _] (M23.at 2 rfl) rfl (Nat.le_of_ble_eq_true rfl) rfl) ?_
      refine WS.st1 (M23.focus 3 rfl) [_, _, _, _, _, _, _, _, _, _, _, _] [_, _, _, _, _, _, _, _, _, _, _, _] rfl rfl rfl rfl rfl (Nat.le_of_ble_eq_true rfl) (Nat.le_of_ble_eq_true rfl) rfl rfl ?_
      intro h26 M27
      replace M27 : Mem _ _ ([(p1, _)] :: S13 :: [(p7, _)] :: [(p4, _)] :: []) _ := M27
      refine WS.op rfl rfl (WS.nil [(2, _), (3, _)] rfl ?_)
      refine WC.ret ?_
      refine ⟨[_, _], (res_cellN [_, _, _, _, _, _, _, _, _, _, _, _] rfl (M27.at 0 rfl) (Nat.le_of_ble_eq_true rfl) rfl (res_tmp rfl res_nil)), ?_⟩
      exact ⟨cr, _, _, true, O14, rfl, hF, fun _ => by assumption, (fun q => nomatch q), ((M27.bare.focus 1 rfl).take 1)⟩
theorem walkRowR_ran {r p : Nat} {s : List UInt8} {b : Bool} (M : Mem base h ([(r, ⟨[.string (bs s), .bool b], 0, false⟩)] :: [(p, ⟨[.string (bs []), .string (bs []), .int .u64 0], 0, false⟩)] :: L) []) (hl : s.length ≤ 5000) :
    Cll tab0 48 [.iface 69 (.pointer (some ⟨r, 0, none⟩)), .pointer (some ⟨p, 0, none⟩)] h (fun v h2 => ∃ x s' b', v = .tuple #[] ∧ Mem base h2 ([(r, ⟨[.string (bs s'), .bool b'], 0, false⟩)] :: [(p, ⟨Rrow.cells x, 0, false⟩)] :: L) [] ∧ s'.length ≤ s.length ∧ (x.ky.length ≤ 5000 ∧ x.va.length ≤ 5000) ∧ (b' = false → b = false ∧ s = rowR x ++ s')) := by
  refine Cll.code rfl rfl ?_
  refine WC.env [(0, _), (1, _)] rfl ?_
  refine WC.seq ?_
  refine WC.draw M [] rfl ?_
  intro rb1 h2 M3
  refine WS.op rfl rfl (WS.op rfl rfl (WS.op rfl rfl (WS.op rfl rfl (WS.op rfl rfl (WS.op rfl rfl (WS.op rfl rfl ?_))))))
  refine WS.call rfl rfl rfl (r_text_ran (s := s) (b := b) (k := 0) ((M3.focus 1 rfl).focus 1 rfl) rfl (by omega) rfl) ?_
  rintro _ h4 ⟨s4_, b4_, m4_, rfl, M5, R4_⟩
  have R4_l := R4_.1
  have R4_t := R4_.2.1
  replace M5 : Mem _ _ ([(r, _)] :: [(p, _)] :: L) _ := M5
  refine WS.nil [(0, _), (1, _)] rfl ?_
  refine WC.seq ?_
  refine WC.draw M5.bare [] rfl ?_
  intro rb6 h7 M8
  refine WS.op rfl rfl (WS.op rfl rfl (WS.op rfl rfl (WS.op rfl rfl (WS.op rfl rfl (WS.op rfl rfl (WS.op rfl rfl ?_))))))
  refine WS.call rfl rfl rfl (r_text_ran (s := s4_) (b := b4_) (k := 1) ((M8.focus 1 rfl).focus 1 rfl) rfl (by omega) rfl) ?_
  rintro _ h9 ⟨s9_, b9_, m9_, rfl, M10, R9_⟩
  have R9_l := R9_.1
  have R9_t := R9_.2.1
  replace M10 : Mem _ _ ([(r, _)] :: [(p, _)] :: L) _ := M10
  refine WS.nil [(0, _), (1, _)] rfl ?_
  refine WC.draw M10.bare [] rfl ?_
  intro rb11 h12 M13
  refine WS.op rfl rfl (WS.op rfl rfl (WS.op rfl rfl (WS.op rfl rfl (WS.op rfl rfl (WS.op rfl rfl (WS.op rfl rfl ?_))))))
  refine WS.call rfl rfl rfl (r_number_ran (s := s9_) (b := b9_) (k := 2) (old := 0) ((M13.focus 1 rfl).focus 1 rfl) rfl (by omega)) ?_
  rintro _ h14 ⟨s14_, b14_, m14_, rfl, M15, R14_⟩
  have R14_l := R14_.1
  replace M15 : Mem _ _ ([(r, _)] :: [(p, _)] :: L) _ := M15
  refine WS.nil [] rfl ?_
  refine ⟨[], res_nil, ?_⟩
  refine ⟨(⟨m4_, m9_, m14_⟩ : Rrow), _, _, rfl, (M15.bare), by omega, ⟨by dsimp only; omega, by dsimp only; omega⟩, fun q => ?_⟩
  obtain ⟨g1, g2⟩ := R14_.2 q
  obtain ⟨g3, g4⟩ := R9_.2.2 g1
  obtain ⟨g5, g6⟩ := R4_.2.2 g3
  exact ⟨g5, by rw [g6, g4, g2]; simp [rowR]⟩
theorem walkResR_ran {r p : Nat} {s : List UInt8} {b : Bool} (M : Mem base h ([(r, ⟨[.string (bs s), .bool b], 0, false⟩)] :: [(p, ⟨[.int .u8 0, .int .u64 0, .string (bs []), .slice none 0 0], 0, false⟩)] :: L) []) (hl : s.length ≤ 5000) :
    Cll tab0 47 [.iface 69 (.pointer (some ⟨r, 0, none⟩)), .pointer (some ⟨p, 0, none⟩)] h (fun v h2 => ∃ cd n va N s' b', v = .int .u64 ((UInt64.toNat N : Nat) : Int) ∧ Mem base h2 ([(r, ⟨[.string (bs s'), .bool b'], 0, false⟩)] :: [(p, ⟨[.int .u8 ((UInt8.toNat cd : Nat) : Int), .int .u64 ((UInt64.toNat n : Nat) : Int), .string (bs va), .slice none 0 0], 0, false⟩)] :: L) [] ∧ s'.length ≤ s.length ∧ va.length ≤ 5000 ∧ (b' = false → b = false ∧ s = ((([cd] ++ vb n.toNat) ++ sb va) ++ vb N.toNat) ++ s')) := by
  refine Cll.code rfl rfl ?_
  refine WC.env [(0, _), (1, _)] rfl ?_
  refine WC.seq ?_
  refine WC.run ?_
  refine WS.op rfl rfl (WS.nil [(0, _), (1, _)] rfl ?_)
  refine WC.seq ?_
  refine WC.run ?_
  refine WS.op rfl rfl (WS.op rfl rfl (WS.op rfl rfl (WS.op rfl (op_ld (M.at 1 rfl) rfl rfl) (WS.op rfl rfl (WS.opV (.int .u64 0) rfl rfl rfl ?_)))))
  refine WS.new M rfl ?_
  intro p1 h2 M3
  refine WS.st1 (M3.focus 0 rfl) [_] [_] rfl rfl rfl rfl rfl (Nat.le_of_ble_eq_true rfl) (Nat.le_of_ble_eq_true rfl) rfl rfl ?_
  intro h4 M5
  replace M5 : Mem _ _ ([(p1, _)] :: [(r, _)] :: [(p, _)] :: L) _ := M5
  refine WS.nil [(0, _), (1, _), (5, _)] rfl ?_
  refine WC.seq ?_
  refine WC.draw M5 [] rfl ?_
  intro rb6 h7 M8
  refine WS.op rfl rfl (WS.op rfl rfl (WS.op rfl rfl (WS.op rfl rfl (WS.op rfl rfl (WS.op rfl rfl (WS.op rfl rfl ?_))))))
  refine WS.call rfl rfl rfl (r_byte_ran (s := s) (b := b) (k := 0) (old := 0) ((M8.focus 2 rfl).focus 2 rfl) rfl (by omega)) ?_
  rintro _ h9 ⟨s9_, b9_, m9_, rfl, M10, R9_⟩
  have R9_l := R9_.1
  replace M10 : Mem _ _ ([(r, _)] :: [(p, _)] :: [(p1, _)] :: L) _ := M10
  refine WS.nil [(0, _), (1, _), (5, _)] rfl ?_
  refine WC.seq ?_
  refine WC.draw M10.bare [] rfl ?_
  intro rb11 h12 M13
  refine WS.op rfl rfl (WS.op rfl rfl (WS.op rfl rfl (WS.op rfl rfl (WS.op rfl rfl (WS.op rfl rfl (WS.op rfl rfl ?_))))))
  refine WS.call rfl rfl rfl (r_number_ran (s := s9_) (b := b9_) (k := 1) (old := 0) ((M13.focus 1 rfl).focus 1 rfl) rfl (by omega)) ?_
  rintro _ h14 ⟨s14_, b14_, m14_, rfl, M15, R14_⟩
  have R14_l := R14_.1
  replace M15 : Mem _ _ ([(r, _)] :: [(p, _)] :: [(p1, _)] :: L) _ := M15
  refine WS.nil [(0, _), (1, _), (5, _)] rfl ?_
  refine WC.seq ?_
  refine WC.draw M15.bare [] rfl ?_
  intro rb16 h17 M18
  refine WS.op rfl rfl (WS.op rfl rfl (WS.op rfl rfl (WS.op rfl rfl (WS.op rfl rfl (WS.op rfl rfl (WS.op rfl rfl ?_))))))
  refine WS.call rfl rfl rfl (r_text_ran (s := s14_) (b := b14_) (k := 2) ((M18.focus 1 rfl).focus 1 rfl) rfl (by omega) rfl) ?_
  rintro _ h19 ⟨s19_, b19_, m19_, rfl, M20, R19_⟩
  have R19_l := R19_.1
  have R19_t := R19_.2.1
  replace M20 : Mem _ _ ([(r, _)] :: [(p, _)] :: [(p1, _)] :: L) _ := M20
  refine WS.nil [(0, _), (5, _)] rfl ?_
  refine WC.seq ?_
  refine WC.run ?_
  refine WS.op rfl rfl ?_
  refine WS.call rfl rfl rfl (r_number_ran (s := s19_) (b := b19_) (k := 0) (old := 0) ((M20.bare.focus 2 rfl).focus 1 rfl) rfl (by omega)) ?_
  rintro _ h21 ⟨s21_, b21_, m21_, rfl, M22, R21_⟩
  have R21_l := R21_.1
  replace M22 : Mem _ _ ([(r, _)] :: [(p1, _)] :: [(p, _)] :: L) _ := M22
  refine WS.nil [(5, _)] rfl ?_
  refine WC.seq ?_
  refine WC.run ?_
  refine WS.op rfl (op_ld (M22.at 1 rfl) rfl rfl) (WS.op rfl rfl (WS.nil [(4, _)] rfl ?_))
  refine WC.ret ?_
  refine ⟨[_], (res_tmp rfl res_nil), ?_⟩
  refine ⟨_, _, _, _, _, _, rfl, (M22.focus 1 rfl).drop, by omega, by omega, fun q => ?_⟩
  obtain ⟨g1, g2⟩ := R21_.2 q
  obtain ⟨g3, g4⟩ := R19_.2.2 g1
  obtain ⟨g5, g6⟩ := R14_.2 g3
  obtain ⟨g7, g8⟩ := R9_.2 g5
  exact ⟨g7, by rw [g8, g6, g4, g2]; simp⟩
theorem rows_min (l : List Rrow) : 3 * l.length ≤ (l.flatMap rowR).length := by
  induction l with
  | nil => simp
  | cons x l ih =>
    have h1 := List.length_pos_iff.2 (vb_ne x.vn.toNat)
    have h2 := List.length_pos_iff.2 (vb_ne x.ky.length)
    have h3 := List.length_pos_iff.2 (vb_ne x.va.length)
    rw [List.flatMap_cons, List.length_append, List.length_cons]
    simp only [rowR, sb, List.length_append]; omega
def zeroR : Res := ⟨0, 0, [], []⟩
theorem fitR0 : FitRes zeroR := by unfold FitRes zeroR FitR; simp
theorem FitR_app {l : List Rrow} {x : Rrow} (h : FitR l) (hx : x.ky.length ≤ 5000 ∧ x.va.length ≤ 5000) : FitR (l ++ [x]) := by
  intro p hp
  rcases List.mem_append.1 hp with q | q
  · exact h p q
  · rw [List.mem_singleton] at q; subst q; exact hx
set_option maxRecDepth 8000 in
theorem ReadR_ran (W : Mem h h [] []) {s : List UInt8} (hl : s.length ≤ 4500) : Cll tab0 28 [.string (bs s)] h (fun v h2 => ∃ r V S ok, KRrow.Own V (Res.rs r) S ∧ v = .tuple #[r.val V, .bool ok] ∧ FitRes r ∧ (ok = true → encR r = s) ∧ (ok = false → r = zeroR) ∧ Mem h h2 [S] []) := by
  refine Cll.code rfl rfl ?_
  refine WC.env [(0, _)] rfl ?_
  refine WC.seq ?_
  refine WC.run ?_
  refine WS.new W rfl ?_
  intro p1 h2 M3
  refine WS.op rfl rfl (WS.nil [(0, _), (2, _)] rfl ?_)
  refine WC.seq ?_
  refine WC.run ?_
  refine WS.new M3 rfl ?_
  intro p4 h5 M6
  refine WS.nil [(0, _), (2, _), (4, _)] rfl ?_
  refine WC.seq ?_
  refine WC.run ?_
  refine WS.op rfl rfl (WS.opV (.agg #[(.string (bs s)), (.bool false)]) rfl rfl rfl ?_)
  refine WS.box M6 [_, _] rfl rfl rfl rfl ?_
  intro p7 h8 M9
  refine WS.op rfl rfl (WS.nil [(2, _), (4, _), (5, _)] rfl ?_)
  refine WC.seq ?_
  refine WC.seq ?_
  refine WC.run ?_
  refine WS.op rfl rfl (WS.op rfl rfl ?_)
  refine WS.call rfl rfl rfl (walkResR_ran (s := s) (b := false) ((M9.focus 1 rfl).focus 1 rfl) (by omega)) ?_
  rintro _ h10 ⟨cd, n_, va, N_, sx, bx, rfl, M11, hx1, hx2, hx3⟩
  replace M11 : Mem _ _ ([(p7, _)] :: [(p4, _)] :: [(p1, _)] :: []) _ := M11
  refine WS.op rfl rfl (WS.nil [(2, _), (4, _), (5, _), (6, _)] rfl ?_)
  refine WC.block ?_
  obtain ⟨L12, eL14, M13⟩ := Mem.name3 ((((M11.bare.focus 1 rfl).focus 1 rfl)).nils)
  refine WC.loop (σ := List UInt8 × Bool × List Rrow × Value × Seg × Nat) (fun ((s_, b_, l, V_, S_, n)) => [(2, (.pointer (some ⟨p1, 0, none⟩))), (4, (.pointer (some ⟨p4, 0, none⟩))), (5, (.pointer (some ⟨p7, 0, none⟩))), (6, (.int .u64 ((n : Nat) : Int)))]) (fun ((s_, b_, l, V_, S_, n)) hh => Mem h hh (S_ :: [(p7, ⟨[(.string (bs s_)), (.bool b_)], 0, false⟩)] :: [(p4, ⟨[(.int .u8 (((cd).toNat : Nat) : Int)), (.int .u64 (((n_).toNat : Nat) : Int)), (.string (bs va)), V_], 0, false⟩)] :: L12) [] ∧ KRrow.Own V_ l S_ ∧ n < 18446744073709551616 ∧ s_.length ≤ s.length ∧ FitR l ∧ l.length ≤ 4501 ∧ (b_ = false → s = (((([cd] ++ vb n_.toNat) ++ sb va) ++ vb N_.toNat) ++ l.flatMap rowR) ++ s_ ∧ l.length + n = N_.toNat)) (fun ((s_, b_, l, V_, S_, n)) => n) (sx, bx, [], .slice none 0 0, [], N_.toNat) rfl ⟨(by exact M13), ?_⟩ ?_
  · exact ⟨.nil, UInt64.toNat_lt _, by omega, (by intro p hp; cases hp), by simp, fun q => ⟨by rw [(hx3 q).2]; simp, by simp⟩⟩
  · rintro ⟨s_, b_, l, V_, S_, n⟩ h15 ⟨M16, ⟨hO, hn64, hsl, hF, hll, hI⟩⟩
    subst eL14
    refine WC.env [(2, _), (4, _), (5, _), (6, _)] rfl ?_
    obtain ⟨P_, rfl⟩ := hO.shape
    refine WC.seq ?_
    refine WC.seq ?_
    refine WC.run ?_
    refine WS.op rfl rfl ?_
    refine WS.gtrN (a := n) (b := 0) rfl rfl rfl (fun e15 => ?_) (fun e15 => ?_)
    · skip
      refine WS.op rfl rfl (WS.op rfl rfl (WS.op rfl rfl (WS.op rfl rfl (WS.op rfl (op_ld (M16.at 1 rfl) rfl rfl) ?_))))
      cases b_
      · skip
        refine WS.opV (.bool true) rfl rfl rfl (WS.op rfl rfl (WS.nil [(2, _), (4, _), (5, _), (6, _), (22, _)] rfl ?_))
        refine WC.condT rfl ?_
        refine WC.skip ?_
        refine WC.seq ?_
        refine WC.block ?_
        refine WC.seq ?_
        refine WC.run ?_
        refine WS.new M16 rfl ?_
        intro p17 h18 M19
        refine WS.nil [(2, _), (4, _), (5, _), (6, _), (7, _)] rfl ?_
        refine WC.seq ?_
        refine WC.run ?_
        refine WS.op rfl rfl (WS.op rfl rfl ?_)
        refine WS.call rfl rfl rfl (walkRowR_ran (s := s_) (b := false) ((M19.focus 0 rfl).focus 2 rfl) (by omega)) ?_
        rintro _ h20 ⟨xr, sx, bx, rfl, M21, hx1, hx2, hx3⟩
        replace M21 : Mem _ _ ([(p7, _)] :: [(p17, _)] :: S_ :: [(p4, _)] :: [(p1, _)] :: []) _ := M21
        refine WS.nil [(2, _), (4, _), (5, _), (6, _), (7, _)] rfl ?_
        refine WC.run ?_
        refine WS.op rfl rfl (WS.op rfl (op_ld (M21.at 3 rfl) rfl rfl) (WS.op rfl (op_lds [_, _, _] (M21.at 1 rfl) rfl (Nat.le_of_ble_eq_true rfl) rfl) ?_))
        refine WS.bsl M21 [_, _, _] rfl rfl rfl rfl ?_
        intro p22 h23 M24
        refine WS.app (l := l) (m := [xr]) (hO) (M24.focus 3 rfl) (Row.Src.one (K := KRrow) (m := [xr]) (M24.at 0 rfl)) rfl (by simp only [List.length_cons, List.length_nil]; omega) (by simp only [List.length_cons, List.length_nil]; omega) rfl rfl rfl ?_
        intro V25 S26 h27 O28 M29
        obtain ⟨P30, rfl⟩ := Row.Own.shape O28
        refine WS.op rfl rfl ?_
        refine WS.st1 (M29.focus 4 rfl) [_] [_, _, _, _] rfl rfl rfl rfl rfl (Nat.le_of_ble_eq_true rfl) (Nat.le_of_ble_eq_true rfl) rfl rfl ?_
        intro h31 M32
        replace M32 : Mem _ _ ([(p4, _)] :: S26 :: [(p22, _)] :: [(p7, _)] :: [(p17, _)] :: [(p1, _)] :: []) _ := M32
        refine WS.nil [(2, _), (4, _), (5, _), (6, _)] rfl ?_
        refine WC.run ?_
        refine WS.op rfl rfl (WS.opV (.int .u64 (((n - 1) : Nat) : Int)) rfl rfl (sub_u64 (a := n) (b := 1) (by have := hn64; omega)) (WS.op rfl rfl (WS.nil [(2, _), (4, _), (5, _), (6, _)] rfl ?_)))
        refine ⟨(sx, bx, l ++ [xr], (.slice P30 ((l ++ [xr])).length (2 * ((l ++ [xr])).length)), S26, n - 1), rfl, ⟨(((((M32.bare.focus 5 rfl).focus 1 rfl).focus 4 rfl).focus 3 rfl).take 4), ?_⟩, ?_⟩
        · exact ⟨O28, by omega, by omega, FitR_app hF hx2, by have e_ := congrArg List.length (hI rfl).1; have := rows_min l; simp only [List.length_append] at e_; simp only [List.length_append, List.length_cons, List.length_nil]; omega, fun q => by obtain ⟨g1, g2⟩ := hx3 q; obtain ⟨g3, g4⟩ := hI rfl; exact ⟨by rw [g3, g2]; simp, by simp; omega⟩⟩
        · simp only []; omega
      · skip
        refine WS.opV (.bool false) rfl rfl rfl (WS.op rfl rfl (WS.nil [(2, _), (4, _), (5, _), (6, _), (22, _)] rfl ?_))
        refine WC.condF rfl ?_
        refine WC.exit ?_
        refine WC.seq ?_
        refine WC.seq ?_
        refine WC.run ?_
        refine WS.op rfl rfl ?_
        refine WS.call rfl rfl rfl (well_ran M16.here (s := s_) (b := true) (M16.at 1 rfl)) ?_
        rintro _ h33 ⟨rfl, N34⟩
        have M35 := M16.trans N34
        cases hb2 : (decide (true = false ∧ s_ = []))
        · skip
          refine WS.opV (.bool true) rfl rfl rfl (WS.nil [(2, _), (4, _), (36, _)] rfl ?_)
          refine WC.condT rfl ?_
          refine WC.seq ?_
          refine WC.run ?_
          refine WS.opV (.agg #[(.int .u8 (0 : Int)), (.int .u64 (0 : Int)), (.string (bs ([]))), (.slice none 0 0)]) rfl rfl rfl ?_
          refine WS.st1 (M35.focus 3 rfl) [_, _, _, _] [_, _, _, _] rfl rfl rfl rfl rfl (Nat.le_of_ble_eq_true rfl) (Nat.le_of_ble_eq_true rfl) rfl rfl ?_
          intro h36 M37
          replace M37 : Mem _ _ ([(p1, _)] :: S_ :: [(p7, _)] :: [(p4, _)] :: []) _ := M37
          refine WS.op rfl rfl (WS.nil [(2, _), (3, _)] rfl ?_)
          refine WC.ret ?_
          refine ⟨[_, _], (res_cellN [_, _, _, _] rfl (M37.at 0 rfl) (Nat.le_of_ble_eq_true rfl) rfl (res_tmp rfl res_nil)), ?_⟩
          exact ⟨zeroR, .slice none 0 0, [], false, .nil, rfl, fitR0, (fun q => nomatch q), fun _ => rfl, (M37.bare.take 0).nils⟩
        · skip
          refine WS.opV (.bool false) rfl rfl rfl (WS.nil [(2, _), (4, _), (36, _)] rfl ?_)
          refine WC.condF rfl ?_
          refine WC.skip ?_
          refine WC.seq ?_
          refine WC.run ?_
          refine WS.op rfl (op_lds [_, _, _, _] (M35.at 2 rfl) rfl (Nat.le_of_ble_eq_true rfl) rfl) ?_
          refine WS.st1 (M35.focus 3 rfl) [_, _, _, _] [_, _, _, _] rfl rfl rfl rfl rfl (Nat.le_of_ble_eq_true rfl) (Nat.le_of_ble_eq_true rfl) rfl rfl ?_
          intro h38 M39
          replace M39 : Mem _ _ ([(p1, _)] :: S_ :: [(p7, _)] :: [(p4, _)] :: []) _ := M39
          refine WS.op rfl rfl (WS.nil [(2, _), (3, _)] rfl ?_)
          refine WC.ret ?_
          refine ⟨[_, _], (res_cellN [_, _, _, _] rfl (M39.at 0 rfl) (Nat.le_of_ble_eq_true rfl) rfl (res_tmp rfl res_nil)), ?_⟩
          obtain ⟨w1, w2⟩ := of_decide_eq_true (p := true = false ∧ s_ = []) (by assumption)
          cases w1
    · skip
      refine WS.op rfl rfl (WS.off rfl (WS.off rfl (WS.off rfl (WS.off rfl (WS.off rfl (WS.op rfl rfl (WS.nil [(2, _), (4, _), (5, _), (6, _), (22, _)] rfl ?_)))))))
      refine WC.condF rfl ?_
      refine WC.exit ?_
      refine WC.seq ?_
      refine WC.seq ?_
      refine WC.run ?_
      refine WS.op rfl rfl ?_
      refine WS.call rfl rfl rfl (well_ran M16.here (s := s_) (b := b_) (M16.at 1 rfl)) ?_
      rintro _ h40 ⟨rfl, N41⟩
      have M42 := M16.trans N41
      cases hb3 : (decide (b_ = false ∧ s_ = []))
      · skip
        refine WS.opV (.bool true) rfl rfl rfl (WS.nil [(2, _), (4, _), (36, _)] rfl ?_)
        refine WC.condT rfl ?_
        refine WC.seq ?_
        refine WC.run ?_
        refine WS.opV (.agg #[(.int .u8 (0 : Int)), (.int .u64 (0 : Int)), (.string (bs ([]))), (.slice none 0 0)]) rfl rfl rfl ?_
        refine WS.st1 (M42.focus 3 rfl) [_, _, _, _] [_, _, _, _] rfl rfl rfl rfl rfl (Nat.le_of_ble_eq_true rfl) (Nat.le_of_ble_eq_true rfl) rfl rfl ?_
        intro h43 M44
        replace M44 : Mem _ _ ([(p1, _)] :: S_ :: [(p7, _)] :: [(p4, _)] :: []) _ := M44
        refine WS.op rfl rfl (WS.nil [(2, _), (3, _)] rfl ?_)
        refine WC.ret ?_
        refine ⟨[_, _], (res_cellN [_, _, _, _] rfl (M44.at 0 rfl) (Nat.le_of_ble_eq_true rfl) rfl (res_tmp rfl res_nil)), ?_⟩
        exact ⟨zeroR, .slice none 0 0, [], false, .nil, rfl, fitR0, (fun q => nomatch q), fun _ => rfl, (M44.bare.take 0).nils⟩
      · skip
        refine WS.opV (.bool false) rfl rfl rfl (WS.nil [(2, _), (4, _), (36, _)] rfl ?_)
        refine WC.condF rfl ?_
        refine WC.skip ?_
        refine WC.seq ?_
        refine WC.run ?_
        refine WS.op rfl (op_lds [_, _, _, _] (M42.at 2 rfl) rfl (Nat.le_of_ble_eq_true rfl) rfl) ?_
        refine WS.st1 (M42.focus 3 rfl) [_, _, _, _] [_, _, _, _] rfl rfl rfl rfl rfl (Nat.le_of_ble_eq_true rfl) (Nat.le_of_ble_eq_true rfl) rfl rfl ?_
        intro h45 M46
        replace M46 : Mem _ _ ([(p1, _)] :: S_ :: [(p7, _)] :: [(p4, _)] :: []) _ := M46
        refine WS.op rfl rfl (WS.nil [(2, _), (3, _)] rfl ?_)
        refine WC.ret ?_
        refine ⟨[_, _], (res_cellN [_, _, _, _] rfl (M46.at 0 rfl) (Nat.le_of_ble_eq_true rfl) rfl (res_tmp rfl res_nil)), ?_⟩
        obtain ⟨w1, w2⟩ := of_decide_eq_true (p := b_ = false ∧ s_ = []) (by assumption)
        obtain ⟨g3, g4⟩ := hI w1
        exact ⟨⟨cd, n_, va, l⟩, _, _, true, hO, rfl, ⟨hx2, by dsimp only; omega, hF⟩, fun _ => by rw [g3, w2]; unfold encR headR; dsimp only; rw [show l.length = N_.toNat by omega]; simp, (fun q => nomatch q), ((M46.bare.focus 1 rfl).take 1)⟩
end Go.Proofs.Ytncpdahappmhkaa.Wt
