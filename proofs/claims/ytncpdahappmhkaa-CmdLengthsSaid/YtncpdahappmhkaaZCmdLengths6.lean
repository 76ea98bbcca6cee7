/- The law 'CmdLengths' returns true for all arguments: what its proof stands on, part 6. -/
import Derived.Test.YtncpdahappmhkaaZCmdLengths5
namespace Go.Proofs.Ytncpdahappmhkaa.Wt
open Go Go.Proofs.Ytncpdahappmhkaa.Am Go.Proofs.Ytncpdahappmhkaa.IrAll
set_option linter.unusedVariables false
set_option linter.unusedSimpArgs false
variable {h base : H} {L : List Seg} {R : List Nat}
theorem same_sl {P : Option Addr} {n c : Nat} : sameV (.slice P n c) (.slice P n c) = true := by first | (simp [sameV, same1]; done) | (have := sameL_self (l := [.slice P n c]) rfl; simpa [sameL, sameV] using this)
theorem mm_min {k : IntKind} {a b : Nat} : Value.int k (if true = true then (if (b : Int) < (a : Int) then (b : Int) else (a : Int)) else (if (b : Int) > (a : Int) then (b : Int) else (a : Int))) = .int k ((min a b : Nat) : Int) := by
  congr 1
  rw [if_pos rfl]
  split <;> omega
def Sees (base : H) (L : List Seg) (p o : Nat) (v : Value) : Prop := ∃ B, (base.get p = some B ∨ [(p, B)] ∈ L) ∧ B.cells[o]? = some v
theorem Sees.get {p o : Nat} {v : Value} {L' : List Seg} (S : Sees base L p o v) (M : Mem base h L' R) (hs : ∀ x ∈ L, x ∈ L') : h.ld ⟨p, o, none⟩ = some v := by
  obtain ⟨B, hb, hc⟩ := S
  have : h.get p = some B := by
    rcases hb with hb | hb
    · exact M.sub _ _ hb
    · exact (M.own (p, B) (List.mem_flatten.2 ⟨_, hs _ hb, List.mem_singleton.2 rfl⟩)).1
  exact ld_at this hc
theorem At.sees {b o k : Nat} {cs : List Value} {v : Value} (A : At base b o cs) (hc : cs[k]? = some v) : Sees base L b (o + k) v := by
  obtain ⟨B, e1, e2, e3⟩ := A
  have hk := (List.getElem?_eq_some_iff.1 hc).1
  refine ⟨B, .inl e1, ?_⟩
  rw [← e3, List.getElem?_take, if_pos hk, List.getElem?_drop] at hc; exact hc
theorem w_byte_ran {w p o : Nat} {l : List UInt8} {c : UInt8} {V : Value} {S : Seg} (O : KU8.Own V l S) (M : Mem base h (S :: [(w, ⟨[V], 0, false⟩)] :: L) []) (Z : Sees base L p o (.int .u8 ((c.toNat : Nat) : Int))) (hl : l.length + 1 ≤ 1000000000000) : Cll tab0 86 [.pointer (some ⟨w, 0, none⟩), .pointer (some ⟨p, o, none⟩)] h (fun v h2 => ∃ V2 S2, KU8.Own V2 (l ++ [c]) S2 ∧ v = .tuple #[] ∧ Mem base h2 (S2 :: [(w, ⟨[V2], 0, false⟩)] :: L) []) := by
  obtain ⟨P, rfl⟩ := O.shape
  refine Cll.code rfl rfl ?_
  refine WC.env [(0, _), (1, _)] rfl ?_
  refine WC.draw M [8] rfl ?_
  intro rb1 h2 M3
  refine WS.op rfl rfl (WS.op rfl rfl (WS.op rfl rfl (WS.op rfl rfl (WS.op rfl (op_ld (M3.at 1 rfl) rfl rfl) (WS.op rfl rfl (WS.op rfl rfl (WS.op rfl (op_ldH rfl (Sees.get Z M3 (by intro x hx; simp [hx]))) ?_)))))))
  refine WS.bslA M3 [_] 0 rfl rfl rfl rfl rfl ?_
  intro h5 M6
  refine WS.app (l := l) (m := [c]) (O) (M6.focus 1 rfl) (Row.Src.one (K := KU8) (m := [c]) (M6.at 0 rfl)) rfl (by simp only [List.length_cons, List.length_nil]; omega) (by simp only [List.length_cons, List.length_nil]; omega) rfl rfl rfl ?_
  intro V7 S8 h9 O10 M11
  obtain ⟨P12, rfl⟩ := Row.Own.shape O10
  refine WS.op rfl rfl (WS.op rfl rfl ?_)
  refine WS.st1 (M11.focus 2 rfl) [_] [_] rfl rfl rfl rfl rfl (Nat.le_of_ble_eq_true rfl) (Nat.le_of_ble_eq_true rfl) rfl rfl ?_
  intro h13 M14
  replace M14 : Mem _ _ ([(w, _)] :: S8 :: [((rb1 + 8), _)] :: L) _ := M14
  refine WS.nil [] rfl ?_
  refine ⟨[], res_nil, ?_⟩
  exact ⟨_, _, O10, rfl, ((((M14.bare.focus 2 rfl).drop).focus 0 rfl).focus 1 rfl)⟩
theorem w_number_ran {w p o : Nat} {l : List UInt8} {c : UInt64} {V : Value} {S : Seg} (O : KU8.Own V l S) (M : Mem base h (S :: [(w, ⟨[V], 0, false⟩)] :: L) []) (Z : Sees base L p o (.int .u64 ((c.toNat : Nat) : Int))) (hl : l.length + 10 ≤ 1000000000000) : Cll tab0 87 [.pointer (some ⟨w, 0, none⟩), .pointer (some ⟨p, o, none⟩)] h (fun v h2 => ∃ V2 S2, KU8.Own V2 (l ++ vb c.toNat) S2 ∧ v = .tuple #[] ∧ Mem base h2 (S2 :: [(w, ⟨[V2], 0, false⟩)] :: L) []) := by
  obtain ⟨P, rfl⟩ := O.shape
  have hc := c.toNat_lt
  have hv := vb_len hc
  refine Cll.code rfl rfl ?_
  refine WC.env [(0, _), (1, _)] rfl ?_
  refine WC.draw M [8] rfl ?_
  intro rb1 h2 M3
  refine WS.op rfl rfl (WS.op rfl rfl (WS.op rfl rfl (WS.op rfl rfl (WS.op rfl (op_ld (M3.at 1 rfl) rfl rfl) (WS.op rfl rfl (WS.op rfl rfl (WS.op rfl (op_ldH rfl (Sees.get Z M3 (by intro x hx; simp [hx]))) ?_)))))))
  refine WS.bslA M3 [_] 0 rfl rfl rfl rfl rfl ?_
  intro h5 M6
  refine WS.call rfl rfl rfl (num_V_ran M6.here (Row.Sl.own (K := KNat) (l := [(c).toNat]) (M6.at 0 rfl)) (by intro n hn; simp only [List.mem_cons, List.mem_nil_iff, or_false] at hn; omega) (by simp) (r := (vb ((c).toNat))) (by simp [List.flatMap])) ?_
  rintro _ h7 ⟨rfl, N8⟩
  have M9 := M6.trans N8
  refine WS.chk rfl (op_ld (M9.at 2 rfl) rfl rfl) rfl same_sl ?_
  refine WS.app (l := l) (m := (vb ((c).toNat))) (O) (M9.focus 1 rfl) (src_string (vb ((c).toNat))) rfl (by omega) (by omega) rfl rfl rfl ?_
  intro V10 S11 h12 O13 M14
  obtain ⟨P15, rfl⟩ := Row.Own.shape O13
  refine WS.op rfl rfl (WS.op rfl rfl ?_)
  refine WS.st1 (M14.focus 2 rfl) [_] [_] rfl rfl rfl rfl rfl (Nat.le_of_ble_eq_true rfl) (Nat.le_of_ble_eq_true rfl) rfl rfl ?_
  intro h16 M17
  replace M17 : Mem _ _ ([(w, _)] :: S11 :: [((rb1 + 8), _)] :: L) _ := M17
  refine WS.nil [] rfl ?_
  refine ⟨[], res_nil, ?_⟩
  exact ⟨_, _, O13, rfl, ((((M17.bare.focus 2 rfl).drop).focus 0 rfl).focus 1 rfl)⟩
theorem w_text_ran {w p o : Nat} {l c : List UInt8} {V : Value} {S : Seg} (O : KU8.Own V l S) (M : Mem base h (S :: [(w, ⟨[V], 0, false⟩)] :: L) []) (Z : Sees base L p o (.string (bs c))) (hl : l.length + c.length + 10 ≤ 1000000000000) : Cll tab0 88 [.pointer (some ⟨w, 0, none⟩), .pointer (some ⟨p, o, none⟩)] h (fun v h2 => ∃ V2 S2, KU8.Own V2 (l ++ sb c) S2 ∧ v = .tuple #[] ∧ Mem base h2 (S2 :: [(w, ⟨[V2], 0, false⟩)] :: L) []) := by
  obtain ⟨P, rfl⟩ := O.shape
  have hv := sb_len (t := c) (by omega)
  refine Cll.code rfl rfl ?_
  refine WC.env [(0, _), (1, _)] rfl ?_
  refine WC.draw M [8] rfl ?_
  intro rb1 h2 M3
  refine WS.op rfl rfl (WS.op rfl rfl (WS.op rfl rfl (WS.op rfl rfl (WS.op rfl (op_ld (M3.at 1 rfl) rfl rfl) (WS.op rfl rfl (WS.op rfl rfl (WS.op rfl (op_ldH rfl (Sees.get Z M3 (by intro x hx; simp [hx]))) ?_)))))))
  refine WS.bslA M3 [_] 0 rfl rfl rfl rfl rfl ?_
  intro h5 M6
  refine WS.call rfl rfl rfl (num_S_ran M6.here (Row.Sl.own (K := KStr) (l := [c]) (M6.at 0 rfl)) (by simp only [List.map_cons, List.map_nil, List.sum_cons, List.sum_nil, List.length_cons, List.length_nil]; omega) (r := (sb c)) (by simp [List.flatMap])) ?_
  rintro _ h7 ⟨rfl, N8⟩
  have M9 := M6.trans N8
  refine WS.chk rfl (op_ld (M9.at 2 rfl) rfl rfl) rfl same_sl ?_
  refine WS.app (l := l) (m := (sb c)) (O) (M9.focus 1 rfl) (src_string (sb c)) rfl (by omega) (by omega) rfl rfl rfl ?_
  intro V10 S11 h12 O13 M14
  obtain ⟨P15, rfl⟩ := Row.Own.shape O13
  refine WS.op rfl rfl (WS.op rfl rfl ?_)
  refine WS.st1 (M14.focus 2 rfl) [_] [_] rfl rfl rfl rfl rfl (Nat.le_of_ble_eq_true rfl) (Nat.le_of_ble_eq_true rfl) rfl rfl ?_
  intro h16 M17
  replace M17 : Mem _ _ ([(w, _)] :: S11 :: [((rb1 + 8), _)] :: L) _ := M17
  refine WS.nil [] rfl ?_
  refine ⟨[], res_nil, ?_⟩
  exact ⟨_, _, O13, rfl, ((((M17.bare.focus 2 rfl).drop).focus 0 rfl).focus 1 rfl)⟩
def partsB (c : Cmd) : List UInt8 := [UInt8.ofNat c.ps.length] ++ c.ps.flatMap partB
set_option maxRecDepth 8000 in
theorem partsW_ran {w p : Nat} {l : List UInt8} {c : Cmd} {V Vp : Value} {S : Seg} (A : KPart.Sl base Vp c.ps) (hf : Fit c) (h5 : c.op.toNat = 5 → c.ps.length ≤ 4) (hop : c.op.toNat = 5) (O : KU8.Own V l S) (M : Mem base h (S :: [(w, ⟨[V], 0, false⟩)] :: [(p, ⟨c.cells Vp, 0, false⟩)] :: L) []) (hl : l.length ≤ 500000000000) : Cll tab0 59 [.iface 64 (.pointer (some ⟨w, 0, none⟩)), .pointer (some ⟨p, 0, none⟩)] h (fun v h2 => ∃ V2 S2, KU8.Own V2 (l ++ partsB c) S2 ∧ v = .tuple #[] ∧ Mem base h2 (S2 :: [(w, ⟨[V2], 0, false⟩)] :: [(p, ⟨c.cells Vp, 0, false⟩)] :: L) []) := by
  obtain ⟨P, rfl⟩ := O.shape
  obtain ⟨Pp, n, rfl⟩ := A.shape
  have h4 := h5 hop
  have hn : (UInt8.ofNat c.ps.length).toNat = c.ps.length := toNat_ofNat (by omega)
  obtain ⟨f1, f2, f3, f4, f5, f6, f7⟩ := hf
  refine Cll.code rfl rfl ?_
  refine WC.env [(0, _), (1, _)] rfl ?_
  refine WC.seq ?_
  refine WC.run ?_
  refine WS.op rfl rfl (WS.op rfl rfl (WS.op rfl rfl (WS.op rfl (op_ld (M.at 2 rfl) rfl rfl) (WS.op rfl (op_lenVS A rfl) (WS.opV (.int .u8 (((UInt8.ofNat ((c.ps).length)).toNat : Nat) : Int)) rfl rfl (u8_ofNat (n := (c.ps).length)) ?_)))))
  refine WS.new M rfl ?_
  intro p1 h2 M3
  refine WS.st1 (M3.focus 0 rfl) [_] [_] rfl rfl rfl rfl rfl (Nat.le_of_ble_eq_true rfl) (Nat.le_of_ble_eq_true rfl) rfl rfl ?_
  intro h4 M5
  replace M5 : Mem _ _ ([(p1, _)] :: S :: [(w, _)] :: [(p, _)] :: L) _ := M5
  refine WS.nil [(0, _), (1, _), (4, _)] rfl ?_
  refine WC.seq ?_
  refine WC.run ?_
  refine WS.op rfl rfl ?_
  refine WS.call rfl rfl rfl (w_byte_ran (c := UInt8.ofNat ((c.ps).length)) O ((M5.focus 2 rfl).focus 2 rfl) ⟨_, .inr (List.Mem.head _), rfl⟩ (by omega)) ?_
  rintro _ h6 ⟨V8, S9, O10, rfl, M7⟩
  obtain ⟨P11, rfl⟩ := O10.shape
  replace M7 : Mem _ _ (S9 :: [(w, _)] :: [(p1, _)] :: [(p, _)] :: L) _ := M7
  refine WS.nil [(0, _), (1, _), (4, _)] rfl ?_
  refine WC.seq ?_
  refine WC.run ?_
  refine WS.op rfl (op_ld (M7.at 2 rfl) rfl rfl) (WS.opV (.int .i64 (((UInt8.ofNat ((c.ps).length)).toNat : Nat) : Int)) rfl rfl (cv_i64 (n := (UInt8.ofNat ((c.ps).length)).toNat) (by have := UInt8.toNat_lt (UInt8.ofNat ((c.ps).length)); omega)) (WS.opV (.int .i64 (((min ((UInt8.ofNat ((c.ps).length)).toNat) 4) : Nat) : Int)) rfl rfl (mm_min (a := (UInt8.ofNat ((c.ps).length)).toNat) (b := 4)) (WS.op rfl rfl (WS.nil [(0, _), (1, _), (17, _), (18, _)] rfl ?_))))
  refine WC.block ?_
  obtain ⟨L12, eL14, M13⟩ := Mem.name2 ((M7.bare.focus 1 rfl).focus 1 rfl)
  refine WC.loop (σ := Value × Seg × List UInt8 × Nat) (fun ((V_, S_, out, i)) => [(0, (.iface 64 (.pointer (some ⟨w, 0, none⟩)))), (1, (.pointer (some ⟨p, 0, none⟩))), (17, (.int .i64 (((min ((UInt8.ofNat ((c.ps).length)).toNat) 4) : Nat) : Int))), (18, (.int .i64 ((i : Nat) : Int)))]) (fun ((V_, S_, out, i)) hh => Mem base hh (S_ :: [(w, ⟨[V_], 0, false⟩)] :: L12) [] ∧ KU8.Own V_ out S_ ∧ out = (l ++ [UInt8.ofNat c.ps.length]) ++ (c.ps.take i).flatMap partB ∧ i ≤ c.ps.length ∧ out.length ≤ l.length + 1 + 610000 * i) (fun ((V_, S_, out, i)) => c.ps.length - i) ((.slice P11 ((l ++ [UInt8.ofNat ((c.ps).length)])).length (2 * ((l ++ [UInt8.ofNat ((c.ps).length)])).length)), S9, (l ++ [UInt8.ofNat ((c.ps).length)]), 0) rfl ⟨(by exact M13), ?_⟩ ?_
  · exact ⟨by assumption, by simp, by omega, by simp⟩
  ·rintro ⟨V_, S_, out, i⟩ h15 ⟨M16, ⟨hO, hE, hi1, hol⟩⟩
   subst eL14
   refine WC.env [(0, _), (1, _), (17, _), (18, _)] rfl ?_
   obtain ⟨P_, rfl⟩ := hO.shape
   refine WC.seq ?_
   refine WC.run ?_
   refine WS.lssN (a := i) (b := (min ((UInt8.ofNat ((c.ps).length)).toNat) 4)) rfl rfl rfl (fun e19 => ?_) (fun e19 => ?_)
   ·
    refine WS.nil [(0, _), (1, _), (17, _), (18, _), (19, _)] rfl ?_
    refine WC.seq ?_
    refine WC.condT rfl ?_
    refine WC.skip ?_
    refine WC.seq ?_
    refine WC.block ?_
    refine WC.seq ?_
    refine WC.run ?_
    refine WS.op rfl rfl (WS.op rfl rfl (WS.nil [(0, _), (1, _), (5, _), (17, _), (18, _)] rfl ?_))
    refine WC.seq ?_
    refine WC.seq ?_
    refine WC.run ?_
    refine WS.op rfl rfl (WS.op rfl rfl (WS.op rfl rfl (WS.op rfl rfl (WS.op rfl (op_ld (M16.at 3 rfl) rfl rfl) (WS.op rfl (op_lenVS A rfl) ?_)))))
    refine WS.eqlN (a := i) (b := (c.ps).length) rfl rfl rfl (fun e27 => ?_) (fun e27 => ?_)
    ·
     exact absurd e27 (by omega)
    ·
     refine WS.nil [(0, _), (1, _), (5, _), (17, _), (18, _), (27, _)] rfl ?_
     refine WC.condF rfl ?_
     refine WC.skip ?_
     refine WC.seq ?_
     refine WC.run ?_
     refine WS.op rfl rfl (WS.op rfl rfl (WS.op rfl rfl (WS.op rfl (op_ld (M16.at 3 rfl) rfl rfl) (WS.op rfl rfl ?_))))
     obtain ⟨y43, hy43⟩ : ∃ y, (c.ps)[i]? = some y := ⟨_, List.getElem?_eq_getElem (show i < (c.ps).length by omega)⟩
     refine WS.iaVS A i hy43 rfl rfl rfl rfl ?_
     intro b43_ o43_ ha43
     refine WS.op rfl rfl (WS.nil [(0, _), (1, _), (6, _), (17, _), (18, _)] rfl ?_)
     refine WC.seq ?_
     refine WC.draw M16 [] rfl ?_
     intro rb17 h18 M19
     refine WS.op rfl rfl (WS.op rfl rfl (WS.op rfl rfl (WS.op rfl rfl (WS.op rfl rfl (WS.op rfl rfl (WS.op rfl rfl ?_))))))
     have t0 := f7 _ (List.mem_of_getElem? hy43)
     have t1 := sb_len3 t0.1
     have t2 := sb_len3 t0.2
     have t3 := flatMap_take_succ partB hy43
     refine WS.call rfl rfl rfl (w_byte_ran (c := y43.op) hO ((M19.focus 1 rfl).focus 1 rfl) (At.sees ha43 (k := 0) rfl) (by omega)) ?_
     rintro _ h20 ⟨V22, S23, O24, rfl, M21⟩
     obtain ⟨P25, rfl⟩ := O24.shape
     replace M21 : Mem _ _ (S23 :: [(w, _)] :: [(p1, _)] :: [(p, _)] :: L) _ := M21
     refine WS.nil [(0, _), (1, _), (6, _), (17, _), (18, _)] rfl ?_
     refine WC.seq ?_
     refine WC.draw M21.bare [] rfl ?_
     intro rb26 h27 M28
     refine WS.op rfl rfl (WS.op rfl rfl (WS.op rfl rfl (WS.op rfl rfl (WS.op rfl rfl (WS.op rfl rfl (WS.op rfl rfl ?_))))))
     refine WS.call rfl rfl rfl (w_text_ran (c := y43.ky) O24 ((M28.focus 1 rfl).focus 1 rfl) (At.sees ha43 (k := 1) rfl) (by simp only [List.length_append, List.length_cons, List.length_nil]; omega)) ?_
     rintro _ h29 ⟨V31, S32, O33, rfl, M30⟩
     obtain ⟨P34, rfl⟩ := O33.shape
     replace M30 : Mem _ _ (S32 :: [(w, _)] :: [(p1, _)] :: [(p, _)] :: L) _ := M30
     refine WS.nil [(0, _), (1, _), (6, _), (17, _), (18, _)] rfl ?_
     refine WC.seq ?_
     refine WC.run ?_
     refine WS.op rfl rfl (WS.op rfl rfl (WS.op rfl rfl (WS.op rfl (op_ldH rfl (At.ld0 (ha43.mono M30.bare.sub) rfl)) ?_)))
     refine WS.eqlN (a := (y43.op).toNat) (b := 2) rfl rfl rfl (fun e64 => ?_) (fun e64 => ?_)
     ·
      refine WS.nil [(0, _), (1, _), (6, _), (17, _), (18, _), (64, _)] rfl ?_
      refine WC.condT rfl ?_
      refine WC.draw M30.bare [] rfl ?_
      intro rb35 h36 M37
      refine WS.op rfl rfl (WS.op rfl rfl (WS.op rfl rfl (WS.op rfl rfl (WS.op rfl rfl (WS.op rfl rfl (WS.op rfl rfl ?_))))))
      refine WS.call rfl rfl rfl (w_text_ran (c := y43.va) O33 ((M37.focus 1 rfl).focus 1 rfl) (At.sees ha43 (k := 2) rfl) (by simp only [List.length_append, List.length_cons, List.length_nil]; omega)) ?_
      rintro _ h38 ⟨V40, S41, O42, rfl, M39⟩
      obtain ⟨P43, rfl⟩ := O42.shape
      replace M39 : Mem _ _ (S41 :: [(w, _)] :: [(p1, _)] :: [(p, _)] :: L) _ := M39
      refine WS.nil [(0, _), (1, _), (17, _), (18, _)] rfl ?_
      refine WC.run ?_
      refine WS.opV (.int .i64 (((i + 1) : Nat) : Int)) rfl rfl (add_i64 (a := i) (b := 1) (by omega)) (WS.op rfl rfl (WS.nil [(0, _), (1, _), (17, _), (18, _)] rfl ?_))
      refine ⟨((.slice P43 ((((out ++ [y43.op]) ++ (sb y43.ky)) ++ (sb y43.va))).length (2 * ((((out ++ [y43.op]) ++ (sb y43.ky)) ++ (sb y43.va))).length)), S41, (((out ++ [y43.op]) ++ (sb y43.ky)) ++ (sb y43.va)), i + 1), rfl, ⟨(M39.bare), ?_⟩, ?_⟩
      · exact ⟨by assumption, by rw [t3, hE]; unfold partB; first | (rw [if_pos (by assumption)]; simp; done) | (rw [if_neg (by assumption)]; simp; done), by omega, by simp only [List.length_append, List.length_cons, List.length_nil]; omega⟩
      · simp only []; omega
     ·
      refine WS.nil [(0, _), (1, _), (6, _), (17, _), (18, _), (64, _)] rfl ?_
      refine WC.condF rfl ?_
      refine WC.skip ?_
      refine WC.run ?_
      refine WS.opV (.int .i64 (((i + 1) : Nat) : Int)) rfl rfl (add_i64 (a := i) (b := 1) (by omega)) (WS.op rfl rfl (WS.nil [(0, _), (1, _), (17, _), (18, _)] rfl ?_))
      refine ⟨((.slice P34 (((out ++ [y43.op]) ++ (sb y43.ky))).length (2 * (((out ++ [y43.op]) ++ (sb y43.ky))).length)), S32, ((out ++ [y43.op]) ++ (sb y43.ky)), i + 1), rfl, ⟨(M30.bare), ?_⟩, ?_⟩
      · exact ⟨by assumption, by rw [t3, hE]; unfold partB; first | (rw [if_pos (by assumption)]; simp; done) | (rw [if_neg (by assumption)]; simp; done), by omega, by simp only [List.length_append, List.length_cons, List.length_nil]; omega⟩
      · simp only []; omega
   ·
    refine WS.nil [(0, _), (1, _), (17, _), (18, _), (19, _)] rfl ?_
    refine WC.seq ?_
    refine WC.condF rfl ?_
    refine WC.exit ?_
    refine ⟨[], res_nil, ?_⟩
    rw [List.take_of_length_le (by omega)] at hE
    exact ⟨_, _, by rw [show l ++ partsB c = out by rw [hE]; simp [partsB]]; exact hO, rfl, (M16.focus 2 rfl).drop⟩
set_option maxRecDepth 8000 in
theorem walkW_ran {w p : Nat} {l : List UInt8} {c : Cmd} {V Vp : Value} {S : Seg} (A : KPart.Sl base Vp c.ps) (hf : Fit c) (h5 : c.op.toNat = 5 → c.ps.length ≤ 4) (O : KU8.Own V l S) (M : Mem base h (S :: [(w, ⟨[V], 0, false⟩)] :: [(p, ⟨c.cells Vp, 0, false⟩)] :: L) []) (hl : l.length ≤ 10000) : Cll tab0 34 [.iface 64 (.pointer (some ⟨w, 0, none⟩)), .pointer (some ⟨p, 0, none⟩)] h (fun v h2 => ∃ V2 S2, KU8.Own V2 (l ++ encC c) S2 ∧ v = .tuple #[] ∧ Mem base h2 (S2 :: [(w, ⟨[V2], 0, false⟩)] :: [(p, ⟨c.cells Vp, 0, false⟩)] :: L) []) := by
  obtain ⟨P, rfl⟩ := O.shape
  obtain ⟨Pp, n, rfl⟩ := A.shape
  obtain ⟨f1, f2, f3, f4, f5, f6, f7⟩ := id hf
  have v1 := vb_len c.se.toNat_lt
  have v2 := vb_len c.sq.toNat_lt
  have v3 := vb_len c.tt.toNat_lt
  have v4 := vb_len c.le.toNat_lt
  have s1 := sb_len3 f1
  have s2 := sb_len3 f2
  have s3 := sb_len3 f3
  have s4 := sb_len3 f4
  have s5 := sb_len3 f5
  refine Cll.code rfl rfl ?_
  refine WC.env [(0, _), (1, _)] rfl ?_
  refine WC.seq ?_
  refine WC.draw M [] rfl ?_
  intro rb1 h2 M3
  refine WS.op rfl rfl (WS.op rfl rfl (WS.op rfl rfl (WS.op rfl rfl (WS.op rfl rfl (WS.op rfl rfl (WS.op rfl rfl ?_))))))
  refine WS.call rfl rfl rfl (w_byte_ran (c := c.op) O ((M3.focus 1 rfl).focus 1 rfl) ⟨_, .inr (List.Mem.head _), rfl⟩ (by first | omega | (simp only [List.length_append, List.length_cons, List.length_nil]; omega))) ?_
  rintro _ h4 ⟨V6, S7, O8, rfl, M5⟩
  obtain ⟨P9, rfl⟩ := O8.shape
  replace M5 : Mem _ _ (S7 :: [(w, _)] :: [(p, _)] :: L) _ := M5
  refine WS.nil [(0, _), (1, _)] rfl ?_
  refine WC.seq ?_
  refine WC.draw M5.bare [] rfl ?_
  intro rb10 h11 M12
  refine WS.op rfl rfl (WS.op rfl rfl (WS.op rfl rfl (WS.op rfl rfl (WS.op rfl rfl (WS.op rfl rfl (WS.op rfl rfl ?_))))))
  refine WS.call rfl rfl rfl (w_number_ran (c := c.se) O8 ((M12.focus 1 rfl).focus 1 rfl) ⟨_, .inr (List.Mem.head _), rfl⟩ (by first | omega | (simp only [List.length_append, List.length_cons, List.length_nil]; omega))) ?_
  rintro _ h13 ⟨V15, S16, O17, rfl, M14⟩
  obtain ⟨P18, rfl⟩ := O17.shape
  replace M14 : Mem _ _ (S16 :: [(w, _)] :: [(p, _)] :: L) _ := M14
  refine WS.nil [(0, _), (1, _)] rfl ?_
  refine WC.seq ?_
  refine WC.draw M14.bare [] rfl ?_
  intro rb19 h20 M21
  refine WS.op rfl rfl (WS.op rfl rfl (WS.op rfl rfl (WS.op rfl rfl (WS.op rfl rfl (WS.op rfl rfl (WS.op rfl rfl ?_))))))
  refine WS.call rfl rfl rfl (w_number_ran (c := c.sq) O17 ((M21.focus 1 rfl).focus 1 rfl) ⟨_, .inr (List.Mem.head _), rfl⟩ (by first | omega | (simp only [List.length_append, List.length_cons, List.length_nil]; omega))) ?_
  rintro _ h22 ⟨V24, S25, O26, rfl, M23⟩
  obtain ⟨P27, rfl⟩ := O26.shape
  replace M23 : Mem _ _ (S25 :: [(w, _)] :: [(p, _)] :: L) _ := M23
  refine WS.nil [(0, _), (1, _)] rfl ?_
  refine WC.seq ?_
  refine WC.run ?_
  refine WS.op rfl rfl (WS.op rfl rfl (WS.op rfl rfl (WS.op rfl (op_ld (M23.bare.at 2 rfl) rfl rfl) (WS.nil [(0, _), (1, _), (31, _)] rfl ?_))))
  refine WC.block ?_
  refine WC.seq ?_
  refine WC.seq ?_
  refine WC.run ?_
  refine WS.eqlN (a := (c.op).toNat) (b := 1) rfl rfl rfl (fun e33 => ?_) (fun e33 => ?_)
  ·
   refine WS.op rfl rfl (WS.nil [(0, _), (1, _), (31, _), (32, _)] rfl ?_)
   refine WC.condT rfl ?_
   refine WC.skip ?_
   refine WC.condT rfl ?_
   refine WC.draw M23.bare [] rfl ?_
   intro rb28 h29 M30
   refine WS.op rfl rfl (WS.op rfl rfl (WS.op rfl rfl (WS.op rfl rfl (WS.op rfl rfl (WS.op rfl rfl (WS.op rfl rfl ?_))))))
   refine WS.call rfl rfl rfl (w_number_ran (c := c.tt) O26 ((M30.focus 1 rfl).focus 1 rfl) ⟨_, .inr (List.Mem.head _), rfl⟩ (by first | omega | (simp only [List.length_append, List.length_cons, List.length_nil]; omega))) ?_
   rintro _ h31 ⟨V33, S34, O35, rfl, M32⟩
   obtain ⟨P36, rfl⟩ := O35.shape
   replace M32 : Mem _ _ (S34 :: [(w, _)] :: [(p, _)] :: L) _ := M32
   refine WS.nil [] rfl ?_
   refine ⟨[], res_nil, ?_⟩
   obtain ⟨q1, q2⟩ := enc_1 (c := c) (by omega)
   have q3 : l ++ encC c = ((((l ++ [c.op]) ++ (vb c.se.toNat)) ++ (vb c.sq.toNat)) ++ (vb c.tt.toNat)) := by unfold encC; rw [q2]; simp [headB, partsB]
   rw [q3]
   exact ⟨_, _, O35, rfl, (M32.bare)⟩
  ·
   refine WS.op rfl rfl (WS.nil [(0, _), (1, _), (31, _), (32, _)] rfl ?_)
   refine WC.condF rfl ?_
   refine WC.run ?_
   refine WS.eqlN (a := (c.op).toNat) (b := 6) rfl rfl rfl (fun e34 => ?_) (fun e34 => ?_)
   ·
    refine WS.op rfl rfl (WS.nil [(0, _), (1, _), (31, _), (32, _)] rfl ?_)
    refine WC.condT rfl ?_
    refine WC.draw M23.bare [] rfl ?_
    intro rb37 h38 M39
    refine WS.op rfl rfl (WS.op rfl rfl (WS.op rfl rfl (WS.op rfl rfl (WS.op rfl rfl (WS.op rfl rfl (WS.op rfl rfl ?_))))))
    refine WS.call rfl rfl rfl (w_number_ran (c := c.tt) O26 ((M39.focus 1 rfl).focus 1 rfl) ⟨_, .inr (List.Mem.head _), rfl⟩ (by first | omega | (simp only [List.length_append, List.length_cons, List.length_nil]; omega))) ?_
    rintro _ h40 ⟨V42, S43, O44, rfl, M41⟩
    obtain ⟨P45, rfl⟩ := O44.shape
    replace M41 : Mem _ _ (S43 :: [(w, _)] :: [(p, _)] :: L) _ := M41
    refine WS.nil [] rfl ?_
    refine ⟨[], res_nil, ?_⟩
    obtain ⟨q1, q2⟩ := enc_1 (c := c) (by omega)
    have q3 : l ++ encC c = ((((l ++ [c.op]) ++ (vb c.se.toNat)) ++ (vb c.sq.toNat)) ++ (vb c.tt.toNat)) := by unfold encC; rw [q2]; simp [headB, partsB]
    rw [q3]
    exact ⟨_, _, O44, rfl, (M41.bare)⟩
   ·
    refine WS.op rfl rfl (WS.nil [(0, _), (1, _), (31, _), (32, _)] rfl ?_)
    refine WC.condF rfl ?_
    refine WC.seq ?_
    refine WC.run ?_
    refine WS.eqlN (a := (c.op).toNat) (b := 2) rfl rfl rfl (fun e44 => ?_) (fun e44 => ?_)
    ·
     refine WS.op rfl rfl (WS.nil [(0, _), (1, _), (31, _), (43, _)] rfl ?_)
     refine WC.condT rfl ?_
     refine WC.seq ?_
     refine WC.draw M23.bare [] rfl ?_
     intro rb46 h47 M48
     refine WS.op rfl rfl (WS.op rfl rfl (WS.op rfl rfl (WS.op rfl rfl (WS.op rfl rfl (WS.op rfl rfl (WS.op rfl rfl ?_))))))
     refine WS.call rfl rfl rfl (w_text_ran (c := c.ky) O26 ((M48.focus 1 rfl).focus 1 rfl) ⟨_, .inr (List.Mem.head _), rfl⟩ (by first | omega | (simp only [List.length_append, List.length_cons, List.length_nil]; omega))) ?_
     rintro _ h49 ⟨V51, S52, O53, rfl, M50⟩
     obtain ⟨P54, rfl⟩ := O53.shape
     replace M50 : Mem _ _ (S52 :: [(w, _)] :: [(p, _)] :: L) _ := M50
     refine WS.nil [(0, _), (1, _)] rfl ?_
     refine WC.seq ?_
     refine WC.draw M50.bare [] rfl ?_
     intro rb55 h56 M57
     refine WS.op rfl rfl (WS.op rfl rfl (WS.op rfl rfl (WS.op rfl rfl (WS.op rfl rfl (WS.op rfl rfl (WS.op rfl rfl ?_))))))
     refine WS.call rfl rfl rfl (w_text_ran (c := c.va) O53 ((M57.focus 1 rfl).focus 1 rfl) ⟨_, .inr (List.Mem.head _), rfl⟩ (by first | omega | (simp only [List.length_append, List.length_cons, List.length_nil]; omega))) ?_
     rintro _ h58 ⟨V60, S61, O62, rfl, M59⟩
     obtain ⟨P63, rfl⟩ := O62.shape
     replace M59 : Mem _ _ (S61 :: [(w, _)] :: [(p, _)] :: L) _ := M59
     refine WS.nil [(0, _), (1, _)] rfl ?_
     refine WC.draw M59.bare [] rfl ?_
     intro rb64 h65 M66
     refine WS.op rfl rfl (WS.op rfl rfl (WS.op rfl rfl (WS.op rfl rfl (WS.op rfl rfl (WS.op rfl rfl (WS.op rfl rfl ?_))))))
     refine WS.call rfl rfl rfl (w_number_ran (c := c.le) O62 ((M66.focus 1 rfl).focus 1 rfl) ⟨_, .inr (List.Mem.head _), rfl⟩ (by first | omega | (simp only [List.length_append, List.length_cons, List.length_nil]; omega))) ?_
     rintro _ h67 ⟨V69, S70, O71, rfl, M68⟩
     obtain ⟨P72, rfl⟩ := O71.shape
     replace M68 : Mem _ _ (S70 :: [(w, _)] :: [(p, _)] :: L) _ := M68
     refine WS.nil [] rfl ?_
     refine ⟨[], res_nil, ?_⟩
     obtain ⟨q1, q2⟩ := enc_2 (c := c) (by omega)
     have q3 : l ++ encC c = ((((((l ++ [c.op]) ++ (vb c.se.toNat)) ++ (vb c.sq.toNat)) ++ (sb c.ky)) ++ (sb c.va)) ++ (vb c.le.toNat)) := by unfold encC; rw [q2]; simp [headB, partsB]
     rw [q3]
     exact ⟨_, _, O71, rfl, (M68.bare)⟩
    ·
     refine WS.op rfl rfl (WS.nil [(0, _), (1, _), (31, _), (43, _)] rfl ?_)
     refine WC.condF rfl ?_
     refine WC.seq ?_
     refine WC.seq ?_
     refine WC.run ?_
     refine WS.eqlN (a := (c.op).toNat) (b := 3) rfl rfl rfl (fun e70 => ?_) (fun e70 => ?_)
     ·
      refine WS.op rfl rfl (WS.nil [(0, _), (1, _), (31, _), (69, _)] rfl ?_)
      refine WC.condT rfl ?_
      refine WC.skip ?_
      refine WC.condT rfl ?_
      refine WC.draw M23.bare [] rfl ?_
      intro rb73 h74 M75
      refine WS.op rfl rfl (WS.op rfl rfl (WS.op rfl rfl (WS.op rfl rfl (WS.op rfl rfl (WS.op rfl rfl (WS.op rfl rfl ?_))))))
      refine WS.call rfl rfl rfl (w_text_ran (c := c.ky) O26 ((M75.focus 1 rfl).focus 1 rfl) ⟨_, .inr (List.Mem.head _), rfl⟩ (by first | omega | (simp only [List.length_append, List.length_cons, List.length_nil]; omega))) ?_
      rintro _ h76 ⟨V78, S79, O80, rfl, M77⟩
      obtain ⟨P81, rfl⟩ := O80.shape
      replace M77 : Mem _ _ (S79 :: [(w, _)] :: [(p, _)] :: L) _ := M77
      refine WS.nil [] rfl ?_
      refine ⟨[], res_nil, ?_⟩
      obtain ⟨q1, q2⟩ := enc_3 (c := c) (by omega)
      have q3 : l ++ encC c = ((((l ++ [c.op]) ++ (vb c.se.toNat)) ++ (vb c.sq.toNat)) ++ (sb c.ky)) := by unfold encC; rw [q2]; simp [headB, partsB]
      rw [q3]
      exact ⟨_, _, O80, rfl, (M77.bare)⟩
     ·
      refine WS.op rfl rfl (WS.nil [(0, _), (1, _), (31, _), (69, _)] rfl ?_)
      refine WC.condF rfl ?_
      refine WC.run ?_
      refine WS.eqlN (a := (c.op).toNat) (b := 8) rfl rfl rfl (fun e71 => ?_) (fun e71 => ?_)
      ·
       refine WS.op rfl rfl (WS.nil [(0, _), (1, _), (31, _), (69, _)] rfl ?_)
       refine WC.condT rfl ?_
       refine WC.draw M23.bare [] rfl ?_
       intro rb82 h83 M84
       refine WS.op rfl rfl (WS.op rfl rfl (WS.op rfl rfl (WS.op rfl rfl (WS.op rfl rfl (WS.op rfl rfl (WS.op rfl rfl ?_))))))
       refine WS.call rfl rfl rfl (w_text_ran (c := c.ky) O26 ((M84.focus 1 rfl).focus 1 rfl) ⟨_, .inr (List.Mem.head _), rfl⟩ (by first | omega | (simp only [List.length_append, List.length_cons, List.length_nil]; omega))) ?_
       rintro _ h85 ⟨V87, S88, O89, rfl, M86⟩
       obtain ⟨P90, rfl⟩ := O89.shape
       replace M86 : Mem _ _ (S88 :: [(w, _)] :: [(p, _)] :: L) _ := M86
       refine WS.nil [] rfl ?_
       refine ⟨[], res_nil, ?_⟩
       obtain ⟨q1, q2⟩ := enc_3 (c := c) (by omega)
       have q3 : l ++ encC c = ((((l ++ [c.op]) ++ (vb c.se.toNat)) ++ (vb c.sq.toNat)) ++ (sb c.ky)) := by unfold encC; rw [q2]; simp [headB, partsB]
       rw [q3]
       exact ⟨_, _, O89, rfl, (M86.bare)⟩
      ·
       refine WS.op rfl rfl (WS.nil [(0, _), (1, _), (31, _), (69, _)] rfl ?_)
       refine WC.condF rfl ?_
       refine WC.seq ?_
       refine WC.run ?_
       refine WS.eqlN (a := (c.op).toNat) (b := 4) rfl rfl rfl (fun e81 => ?_) (fun e81 => ?_)
       ·
        refine WS.op rfl rfl (WS.nil [(0, _), (1, _), (31, _), (80, _)] rfl ?_)
        refine WC.condT rfl ?_
        refine WC.seq ?_
        refine WC.draw M23.bare [] rfl ?_
        intro rb91 h92 M93
        refine WS.op rfl rfl (WS.op rfl rfl (WS.op rfl rfl (WS.op rfl rfl (WS.op rfl rfl (WS.op rfl rfl (WS.op rfl rfl ?_))))))
        refine WS.call rfl rfl rfl (w_text_ran (c := c.ky) O26 ((M93.focus 1 rfl).focus 1 rfl) ⟨_, .inr (List.Mem.head _), rfl⟩ (by first | omega | (simp only [List.length_append, List.length_cons, List.length_nil]; omega))) ?_
        rintro _ h94 ⟨V96, S97, O98, rfl, M95⟩
        obtain ⟨P99, rfl⟩ := O98.shape
        replace M95 : Mem _ _ (S97 :: [(w, _)] :: [(p, _)] :: L) _ := M95
        refine WS.nil [(0, _), (1, _)] rfl ?_
        refine WC.seq ?_
        refine WC.draw M95.bare [] rfl ?_
        intro rb100 h101 M102
        refine WS.op rfl rfl (WS.op rfl rfl (WS.op rfl rfl (WS.op rfl rfl (WS.op rfl rfl (WS.op rfl rfl (WS.op rfl rfl ?_))))))
        refine WS.call rfl rfl rfl (w_text_ran (c := c.ex) O98 ((M102.focus 1 rfl).focus 1 rfl) ⟨_, .inr (List.Mem.head _), rfl⟩ (by first | omega | (simp only [List.length_append, List.length_cons, List.length_nil]; omega))) ?_
        rintro _ h103 ⟨V105, S106, O107, rfl, M104⟩
        obtain ⟨P108, rfl⟩ := O107.shape
        replace M104 : Mem _ _ (S106 :: [(w, _)] :: [(p, _)] :: L) _ := M104
        refine WS.nil [(0, _), (1, _)] rfl ?_
        refine WC.draw M104.bare [] rfl ?_
        intro rb109 h110 M111
        refine WS.op rfl rfl (WS.op rfl rfl (WS.op rfl rfl (WS.op rfl rfl (WS.op rfl rfl (WS.op rfl rfl (WS.op rfl rfl ?_))))))
        refine WS.call rfl rfl rfl (w_text_ran (c := c.va) O107 ((M111.focus 1 rfl).focus 1 rfl) ⟨_, .inr (List.Mem.head _), rfl⟩ (by first | omega | (simp only [List.length_append, List.length_cons, List.length_nil]; omega))) ?_
        rintro _ h112 ⟨V114, S115, O116, rfl, M113⟩
        obtain ⟨P117, rfl⟩ := O116.shape
        replace M113 : Mem _ _ (S115 :: [(w, _)] :: [(p, _)] :: L) _ := M113
        refine WS.nil [] rfl ?_
        refine ⟨[], res_nil, ?_⟩
        obtain ⟨q1, q2⟩ := enc_4 (c := c) (by omega)
        have q3 : l ++ encC c = ((((((l ++ [c.op]) ++ (vb c.se.toNat)) ++ (vb c.sq.toNat)) ++ (sb c.ky)) ++ (sb c.ex)) ++ (sb c.va)) := by unfold encC; rw [q2]; simp [headB, partsB]
        rw [q3]
        exact ⟨_, _, O116, rfl, (M113.bare)⟩
       ·
        refine WS.op rfl rfl (WS.nil [(0, _), (1, _), (31, _), (80, _)] rfl ?_)
        refine WC.condF rfl ?_
        refine WC.seq ?_
        refine WC.run ?_
        refine WS.eqlN (a := (c.op).toNat) (b := 5) rfl rfl rfl (fun e107 => ?_) (fun e107 => ?_)
        ·
         refine WS.op rfl rfl (WS.nil [(0, _), (1, _), (31, _), (106, _)] rfl ?_)
         refine WC.condT rfl ?_
         refine WC.run ?_
         refine WS.op rfl rfl (WS.op rfl rfl ?_)
         refine WS.call rfl rfl rfl (partsW_ran (c := c) A hf h5 (by omega) O26 (((M23.bare.focus 2 rfl).focus 2 rfl).focus 2 rfl) (by first | omega | (simp only [List.length_append, List.length_cons, List.length_nil]; omega))) ?_
         rintro _ h118 ⟨V120, S121, O122, rfl, M119⟩
         obtain ⟨P123, rfl⟩ := O122.shape
         replace M119 : Mem _ _ (S121 :: [(w, _)] :: [(p, _)] :: L) _ := M119
         refine WS.nil [] rfl ?_
         refine ⟨[], res_nil, ?_⟩
         obtain ⟨q1, q2⟩ := enc_5 (c := c) (by omega)
         have q3 : l ++ encC c = ((((l ++ [c.op]) ++ (vb c.se.toNat)) ++ (vb c.sq.toNat)) ++ (partsB c)) := by unfold encC; rw [q2]; simp [headB, partsB]
         rw [q3]
         exact ⟨_, _, O122, rfl, M119⟩
        ·
         refine WS.op rfl rfl (WS.nil [(0, _), (1, _), (31, _), (106, _)] rfl ?_)
         refine WC.condF rfl ?_
         refine WC.seq ?_
         refine WC.run ?_
         refine WS.eqlN (a := (c.op).toNat) (b := 7) rfl rfl rfl (fun e112 => ?_) (fun e112 => ?_)
         ·
          refine WS.op rfl rfl (WS.nil [(0, _), (1, _), (31, _), (111, _)] rfl ?_)
          refine WC.condT rfl ?_
          refine WC.draw M23.bare [] rfl ?_
          intro rb124 h125 M126
          refine WS.op rfl rfl (WS.op rfl rfl (WS.op rfl rfl (WS.op rfl rfl (WS.op rfl rfl (WS.op rfl rfl (WS.op rfl rfl ?_))))))
          refine WS.call rfl rfl rfl (w_number_ran (c := c.le) O26 ((M126.focus 1 rfl).focus 1 rfl) ⟨_, .inr (List.Mem.head _), rfl⟩ (by first | omega | (simp only [List.length_append, List.length_cons, List.length_nil]; omega))) ?_
          rintro _ h127 ⟨V129, S130, O131, rfl, M128⟩
          obtain ⟨P132, rfl⟩ := O131.shape
          replace M128 : Mem _ _ (S130 :: [(w, _)] :: [(p, _)] :: L) _ := M128
          refine WS.nil [] rfl ?_
          refine ⟨[], res_nil, ?_⟩
          obtain ⟨q1, q2⟩ := enc_7 (c := c) (by omega)
          have q3 : l ++ encC c = ((((l ++ [c.op]) ++ (vb c.se.toNat)) ++ (vb c.sq.toNat)) ++ (vb c.le.toNat)) := by unfold encC; rw [q2]; simp [headB, partsB]
          rw [q3]
          exact ⟨_, _, O131, rfl, (M128.bare)⟩
         ·
          refine WS.op rfl rfl (WS.nil [(0, _), (1, _), (31, _), (111, _)] rfl ?_)
          refine WC.condF rfl ?_
          refine WC.seq ?_
          refine WC.run ?_
          refine WS.eqlN (a := (c.op).toNat) (b := 9) rfl rfl rfl (fun e122 => ?_) (fun e122 => ?_)
          ·
           refine WS.op rfl rfl (WS.nil [(0, _), (1, _), (121, _)] rfl ?_)
           refine WC.condT rfl ?_
           refine WC.seq ?_
           refine WC.draw M23.bare [] rfl ?_
           intro rb133 h134 M135
           refine WS.op rfl rfl (WS.op rfl rfl (WS.op rfl rfl (WS.op rfl rfl (WS.op rfl rfl (WS.op rfl rfl (WS.op rfl rfl ?_))))))
           refine WS.call rfl rfl rfl (w_text_ran (c := c.fr) O26 ((M135.focus 1 rfl).focus 1 rfl) ⟨_, .inr (List.Mem.head _), rfl⟩ (by first | omega | (simp only [List.length_append, List.length_cons, List.length_nil]; omega))) ?_
           rintro _ h136 ⟨V138, S139, O140, rfl, M137⟩
           obtain ⟨P141, rfl⟩ := O140.shape
           replace M137 : Mem _ _ (S139 :: [(w, _)] :: [(p, _)] :: L) _ := M137
           refine WS.nil [(0, _), (1, _)] rfl ?_
           refine WC.seq ?_
           refine WC.draw M137.bare [] rfl ?_
           intro rb142 h143 M144
           refine WS.op rfl rfl (WS.op rfl rfl (WS.op rfl rfl (WS.op rfl rfl (WS.op rfl rfl (WS.op rfl rfl (WS.op rfl rfl ?_))))))
           refine WS.call rfl rfl rfl (w_text_ran (c := c.to) O140 ((M144.focus 1 rfl).focus 1 rfl) ⟨_, .inr (List.Mem.head _), rfl⟩ (by first | omega | (simp only [List.length_append, List.length_cons, List.length_nil]; omega))) ?_
           rintro _ h145 ⟨V147, S148, O149, rfl, M146⟩
           obtain ⟨P150, rfl⟩ := O149.shape
           replace M146 : Mem _ _ (S148 :: [(w, _)] :: [(p, _)] :: L) _ := M146
           refine WS.nil [(0, _), (1, _)] rfl ?_
           refine WC.draw M146.bare [] rfl ?_
           intro rb151 h152 M153
           refine WS.op rfl rfl (WS.op rfl rfl (WS.op rfl rfl (WS.op rfl rfl (WS.op rfl rfl (WS.op rfl rfl (WS.op rfl rfl ?_))))))
           refine WS.call rfl rfl rfl (w_byte_ran (c := c.li) O149 ((M153.focus 1 rfl).focus 1 rfl) ⟨_, .inr (List.Mem.head _), rfl⟩ (by first | omega | (simp only [List.length_append, List.length_cons, List.length_nil]; omega))) ?_
           rintro _ h154 ⟨V156, S157, O158, rfl, M155⟩
           obtain ⟨P159, rfl⟩ := O158.shape
           replace M155 : Mem _ _ (S157 :: [(w, _)] :: [(p, _)] :: L) _ := M155
           refine WS.nil [] rfl ?_
           refine ⟨[], res_nil, ?_⟩
           obtain ⟨q1, q2⟩ := enc_9 (c := c) (by omega)
           have q3 : l ++ encC c = ((((((l ++ [c.op]) ++ (vb c.se.toNat)) ++ (vb c.sq.toNat)) ++ (sb c.fr)) ++ (sb c.to)) ++ [c.li]) := by unfold encC; rw [q2]; simp [headB, partsB]
           rw [q3]
           exact ⟨_, _, O158, rfl, (M155.bare)⟩
          ·
           refine WS.op rfl rfl (WS.nil [(0, _), (1, _), (121, _)] rfl ?_)
           refine WC.condF rfl ?_
           refine WC.skip ?_
           refine ⟨[], res_nil, ?_⟩
           obtain ⟨q1, q2⟩ := enc_0 (c := c) (by omega)
           have q3 : l ++ encC c = (((l ++ [c.op]) ++ (vb c.se.toNat)) ++ (vb c.sq.toNat)) := by unfold encC; rw [q2]; simp [headB, partsB]
           rw [q3]
           exact ⟨_, _, O26, rfl, (M23.bare)⟩
theorem Write_ran (W : Mem h h [] []) {c : Cmd} {V : Value} (A : KPart.Sl h V c.ps) (hf : Fit c) : Cll tab0 13 [c.val V] h (fun v h2 => v = .string (bs (if mayB c then encC c else [])) ∧ Mem h h2 [] []) := by
  obtain ⟨P, n, rfl⟩ := A.shape
  refine Cll.code rfl rfl ?_
  refine WC.env [(0, _)] rfl ?_
  refine WC.seq ?_
  refine WC.run ?_
  refine WS.box W [_, _, _, _, _, _, _, _, _, _, _, _] rfl rfl rfl rfl ?_
  intro p1 h2 M3
  refine WS.op rfl rfl (WS.nil [(1, _)] rfl ?_)
  refine WC.seq ?_
  refine WC.seq ?_
  refine WC.run ?_
  refine WS.op rfl (op_lds [_, _, _, _, _, _, _, _, _, _, _, _] (M3.at 0 rfl) rfl (Nat.le_of_ble_eq_true rfl) rfl) ?_
  refine WS.call rfl rfl rfl (may_ran M3.here (c := c) (A.mono M3.sub) (by assumption)) ?_
  rintro _ h4 ⟨rfl, N5⟩
  have M6 := M3.trans N5
  cases hb1 : (mayB c)
  ·
   refine WS.opV (.bool true) rfl rfl rfl (WS.nil [(1, _), (6, _)] rfl ?_)
   refine WC.condT rfl ?_
   refine WC.seq ?_
   refine WC.run ?_
   refine WS.op rfl rfl (WS.nil [(2, _)] rfl ?_)
   refine WC.ret ?_
   refine ⟨[_], (res_tmp rfl res_nil), ?_⟩
   exact ⟨rfl, M6.bare.take 0⟩
  ·
   refine WS.opV (.bool false) rfl rfl rfl (WS.nil [(1, _), (6, _)] rfl ?_)
   refine WC.condF rfl ?_
   refine WC.skip ?_
   refine WC.seq ?_
   refine WC.run ?_
   refine WS.opV (.agg #[(.slice none 0 0)]) rfl rfl rfl ?_
   refine WS.box M6 [_] rfl rfl rfl rfl ?_
   intro p7 h8 M9
   refine WS.op rfl rfl (WS.nil [(1, _), (3, _)] rfl ?_)
   refine WC.seq ?_
   refine WC.run ?_
   have hm := of_decide_eq_true (p := MayC c) hb1
   have h5 : c.op.toNat = 5 → c.ps.length ≤ 4 := fun q => (hm.2.2.1 q).2
   refine WS.op rfl rfl (WS.op rfl rfl ?_)
   refine WS.call rfl rfl rfl (walkW_ran (c := c) A hf h5 (Row.Own.nil (K := KU8)) ((M9.focus 1 rfl).focus 1 rfl).nils (by simp)) ?_
   rintro _ h10 ⟨V12, S13, O14, rfl, M11⟩
   rw [List.nil_append] at O14
   obtain ⟨P15, rfl⟩ := O14.shape
   replace M11 : Mem _ _ (S13 :: [(p7, _)] :: [(p1, _)] :: []) _ := M11
   refine WS.nil [(3, _)] rfl ?_
   refine WC.seq ?_
   refine WC.run ?_
   refine WS.op rfl rfl (WS.op rfl rfl (WS.op rfl rfl (WS.op rfl (op_ld (M11.at 1 rfl) rfl rfl) (WS.op rfl (op_cvBO O14 (Mem.owni M11 0 rfl) rfl) (WS.op rfl rfl (WS.nil [(2, _)] rfl ?_))))))
   refine WC.ret ?_
   refine ⟨[_], (res_tmp rfl res_nil), ?_⟩
   exact ⟨rfl, M11.bare.take 0⟩
end Go.Proofs.Ytncpdahappmhkaa.Wt
namespace Go.Proofs.Ytncpdahappmhkaa.Wt
open Go Go.Proofs.Ytncpdahappmhkaa.Am Go.Proofs.Ytncpdahappmhkaa.IrAll
set_option linter.unusedVariables false
set_option linter.unusedSimpArgs false
structure Oper where
  op : UInt8
  sl : UInt8
  t0 : UInt8
  t1 : UInt8
  t2 : UInt8
  t3 : UInt8
  t4 : UInt8
  t5 : UInt8
  t6 : UInt8
  t7 : UInt8
  ro : UInt8
  ks : Int64
  bt : Int64
  ra : Int64
  bu : Int64
  nd : UInt8
  deriving DecidableEq
def Sm (n : Int) : Prop := 0 ≤ n ∧ n ≤ 2147483647
instance (n : Int) : Decidable (Sm n) := by unfold Sm; infer_instance
variable {h base : H} {L : List Seg} {R : List Nat}
end Go.Proofs.Ytncpdahappmhkaa.Wt
namespace Go.Proofs.Ytncpdahappmhkaa.Wt
open Go Go.Proofs.Ytncpdahappmhkaa.Am Go.Proofs.Ytncpdahappmhkaa.IrAll
set_option linter.unusedVariables false
set_option linter.unusedSimpArgs false
variable {h base : H} {L : List Seg} {R : List Nat}
def nu (x : Int64) : UInt64 := UInt64.ofNat x.toInt.toNat
theorem nu_nat {x : Int64} (h : Sm x.toInt) : ((nu x).toNat : Int) = x.toInt := by
  unfold Sm at h
  have e : ∀ n : Nat, n < 18446744073709551616 → (UInt64.ofNat n).toNat = n := fun n hn => by simp [UInt64.toNat_ofNat']; omega
  unfold nu; rw [e _ (by omega)]; omega
theorem cvB {x : Int64} (h : Sm x.toInt) : Value.int .i64 (IntKind.i64.wrap ((min (nu x).toNat 4294967296 : Nat) : Int)) = .int .i64 x.toInt := by
  have hn := nu_nat h
  have h2 := h
  unfold Sm at h2
  have : min (nu x).toNat 4294967296 = (nu x).toNat := by omega
  rw [this, ← hn]; exact cv_i64 (n := (nu x).toNat) (by omega)
end Go.Proofs.Ytncpdahappmhkaa.Wt
