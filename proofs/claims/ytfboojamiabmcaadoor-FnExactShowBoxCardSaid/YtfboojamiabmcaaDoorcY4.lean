/- Boxes, shown: ShowBox of both. -/
import Derived.Test.YtfboojamiabmcaaDoorcY3
import Derived.Test.YtfboojamiabmcaaDoorcP0
import Derived.Test.YtfboojamiabmcaaDoorcD6
import Derived.Test.YtfboojamiabmcaaDoorcD7
import Derived.Test.YtfboojamiabmcaaDoorcW1
set_option linter.unusedSectionVars false
set_option linter.all false
set_option linter.unusedVariables false
set_option linter.unusedSimpArgs false
set_option maxRecDepth 100000
namespace Go.Proofs.YtfboojamiabmcaaDoor
open Go.Lft

def mline (m : Mail) : S := Go.Lib.decDigits m.uid.toNat ++ 32 :: (flT m.flags.toNat ++ 32 :: (Go.Lib.decDigits m.mod.toNat ++ [10]))
def bline (b : Box) : S := b.name ++ 32 :: (Go.Lib.decDigits b.valid.toNat ++ 32 :: (Go.Lib.decDigits b.next.toNat ++ 32 :: (Go.Lib.decDigits b.mod.toNat ++ [10])))
def linesU (b : Box) (i : Nat) : S := ((b.mails.take i).map mline).flatten
noncomputable def showB (b : Box) : S := if boxOk b = true then bline b ++ linesU b b.mails.length else []
theorem linesU_next (b : Box) (i : Nat) (h : i < b.mails.length) : linesU b (i + 1) = linesU b i ++ mline b.mails[i] := by
  unfold linesU
  rw [List.take_succ_eq_append_getElem h, List.map_append, List.flatten_append]
  simp only [List.map_cons, List.map_nil, List.flatten_cons, List.flatten_nil, List.append_nil]
theorem mline_len {m : Mail} (h1 : m.uid ≤ 100000) (h2 : m.flags < 32) (h3 : m.mod ≤ 100000) : (mline m).length ≤ 80 := by
  have e1 := dec_len8 m.uid.toNat (by omega)
  have e2 := dec_len8 m.mod.toNat (by omega)
  have e3 := flT_len m.flags.toNat (by omega)
  simp [mline, flT]
  omega
theorem fine_nums {b : Box} (hb : boxOk b = true) {m : Mail} (hm : m ∈ b.mails) : (0 ≤ m.uid ∧ m.uid ≤ 9999) ∧ (0 ≤ m.flags ∧ m.flags < 32) ∧ 0 ≤ m.mod ∧ m.mod ≤ 100000 := by
  rw [boxOk_iff] at hb
  obtain ⟨_, _, _, _, _, hq, _⟩ := hb
  have h := hq m hm
  unfold MailFine at h
  obtain ⟨h1, h2, h3, h4, h5, _⟩ := h
  simp [within] at h3
  omega
theorem linesU_len {b : Box} (hb : boxOk b = true) : ∀ i, (linesU b i).length ≤ 80 * i := by
  intro i
  induction i with
  | zero => simp [linesU]
  | succ i ih =>
    rcases Nat.lt_or_ge i b.mails.length with h | h
    · rw [linesU_next b i h]
      have := fine_nums hb (List.getElem_mem h)
      have h2 := mline_len (m := b.mails[i]) (by omega) (by omega) (by omega)
      simp only [List.length_append]
      omega
    · have : linesU b (i + 1) = linesU b i := by unfold linesU; rw [List.take_of_length_le (by omega), List.take_of_length_le h]
      rw [this]; omega
set_option maxHeartbeats 4000000 in
theorem eq_ShowBox (b : Box) (hs : szBox b ≤ 1048576) : lim E 8 [encBox false false b] = some (.str (showB b), []) := by
  have w := eq_BoxOk b (by omega)
  try simp at w
  cases hok : boxOk b
  · rw [hok] at w
    refine lim_run (E := E) rfl Tryd.func8 rfl (by kernel_rfl) (by kernel_rfl) ?_
    simp [Tryd.f8, tmpAt, w]
    simp [showB, hok]
  · rw [hok] at w
    have hn := fun m hm => fine_nums hok (m := m) hm
    have hU := linesU_len hok
    have hS : showB b = bline b ++ linesU b b.mails.length := by unfold showB; rw [if_pos hok]
    have hb := hok
    rw [boxOk_iff] at hb
    obtain ⟨_, ⟨v1, v2⟩, ⟨n1, n2⟩, ⟨m1, m2⟩, _, _, _, hl, _⟩ := hb
    have hnl : b.name.length ≤ 1048576 := by have : szBox b = b.name.length + (b.mails.length + tot (fun (y : Mail) => szMail y) b.mails) + b.tombs.length := rfl; omega
    obtain ⟨v, hv⟩ : ∃ v : Nat, b.valid = v := ⟨b.valid.toNat, by omega⟩
    obtain ⟨n, hnx⟩ : ∃ v : Nat, b.next = v := ⟨b.next.toNat, by omega⟩
    obtain ⟨md, hmd⟩ : ∃ v : Nat, b.mod = v := ⟨b.mod.toNat, by omega⟩
    have wv := eq_DecimalAll v (by omega)
    have wn := eq_DecimalAll n (by omega)
    have wm := eq_DecimalAll md (by omega)
    have lv := dec_len8 v (by omega)
    have ln := dec_len8 n (by omega)
    have lm := dec_len8 md (by omega)
    have hB : bline b = b.name ++ 32 :: (Go.Lib.decDigits v ++ 32 :: (Go.Lib.decDigits n ++ 32 :: (Go.Lib.decDigits md ++ [10]))) := by unfold bline; rw [hv, hnx, hmd]; rfl
    have hBl : (bline b).length ≤ 1048676 := by rw [hB]; simp; omega
    generalize hbl : bline b = B at *
    rw [hv, hnx, hmd] at w
    refine lim_run (E := E) rfl Tryd.func8 rfl (by kernel_rfl) (by kernel_rfl) ?_
    simp [Tryd.f8, tmpAt, w, hv, hnx, hmd, wv, wn, wm]
    refine ⟨by simp [strMax]; omega, by simp [strMax]; omega, by simp [strMax]; omega, by simp [strMax]; omega, by simp [strMax]; omega, by simp [strMax]; omega, by simp [strMax]; omega, ?_⟩
    rw [← hB]
    refine loop_fr [28, 29] [] (fun m st => ∃ (i : Nat), i + m = b.mails.length ∧ st.env 3 = .str (B ++ linesU b i) ∧ st.env 30 = .int .i64 i) (b.mails.length) _ ?_ ?_
    · exact ⟨0, by simp [linesU, hv, hnx, hmd]⟩
    rintro m0 ⟨env, rs⟩ hU0 hV0 ⟨i, hi, e0_3, e0_30⟩ ih0; simp at hU0 e0_3 e0_30; clear hV0
    have hu := wrap_up (show i < 4611686018427387904 by omega)
    have hUi := hU i
    simp [hU0, e0_3, e0_30]
    refine RB_dec ?_ ?_ <;> intro h
    · have hq := hn _ (List.getElem_mem h)
      have hnext := linesU_next b i h
      obtain ⟨u, hu1⟩ : ∃ v : Nat, b.mails[i].uid = v := ⟨b.mails[i].uid.toNat, by omega⟩
      obtain ⟨f, hf1⟩ : ∃ v : Nat, b.mails[i].flags = v := ⟨b.mails[i].flags.toNat, by omega⟩
      obtain ⟨d, hd1⟩ : ∃ v : Nat, b.mails[i].mod = v := ⟨b.mails[i].mod.toNat, by omega⟩
      have wu := eq_DecimalAll u (by omega)
      have wf := eq_FlagsText f (by omega)
      have wd := eq_DecimalAll d (by omega)
      have lu := dec_len8 u (by omega)
      have lf := flT_len f (by omega)
      have ld := dec_len8 d (by omega)
      have lF : (flT f).length ≤ 42 := by simp [flT]; omega
      have hM : mline b.mails[i] = Go.Lib.decDigits u ++ 32 :: (flT f ++ 32 :: (Go.Lib.decDigits d ++ [10])) := by unfold mline; rw [hu1, hf1, hd1]; rfl
      rw [hM] at hnext
      simp [hU0, e0_3, e0_30, h, hu1, hf1, hd1, wu, wf, wd]
      refine ⟨by simp [strMax]; omega, by simp [strMax]; omega, by simp [strMax]; omega, by simp [strMax]; omega, by simp [strMax]; omega, by simp [strMax]; omega, ?_⟩
      refine ih0 (m0 - 1) _ (by omega) ?_ ?_ ⟨i + 1, by omega, ?_⟩
      · simp [hU0, e0_3, e0_30]
      · simp [hU0, e0_3, e0_30]
      simp [hU0, e0_3, e0_30, hu, hnext]
    · obtain rfl : i = b.mails.length := by omega
      simp [hU0, e0_3, e0_30, hS]
set_option maxHeartbeats 4000000 in
theorem eq_sShowBox (b : Box) (hs : szBox b ≤ 1048576) : lim E 6 [encBox false false b] = some (.str (showB b), []) := by
  have w := eq_sBoxOk b (by omega)
  try simp at w
  cases hok : boxOk b
  · rw [hok] at w
    refine lim_run (E := E) rfl Tryd.func6 rfl (by kernel_rfl) (by kernel_rfl) ?_
    simp [Tryd.f6, tmpAt, w]
    simp [showB, hok]
  · rw [hok] at w
    have hn := fun m hm => fine_nums hok (m := m) hm
    have hU := linesU_len hok
    have hS : showB b = bline b ++ linesU b b.mails.length := by unfold showB; rw [if_pos hok]
    have hb := hok
    rw [boxOk_iff] at hb
    obtain ⟨_, ⟨v1, v2⟩, ⟨n1, n2⟩, ⟨m1, m2⟩, _, _, _, hl, _⟩ := hb
    have hnl : b.name.length ≤ 1048576 := by have : szBox b = b.name.length + (b.mails.length + tot (fun (y : Mail) => szMail y) b.mails) + b.tombs.length := rfl; omega
    obtain ⟨v, hv⟩ : ∃ v : Nat, b.valid = v := ⟨b.valid.toNat, by omega⟩
    obtain ⟨n, hnx⟩ : ∃ v : Nat, b.next = v := ⟨b.next.toNat, by omega⟩
    obtain ⟨md, hmd⟩ : ∃ v : Nat, b.mod = v := ⟨b.mod.toNat, by omega⟩
    have wv := eq_sDecimal v (by omega)
    have wn := eq_sDecimal n (by omega)
    have wm := eq_sDecimal md (by omega)
    have lv := dec_len8 v (by omega)
    have ln := dec_len8 n (by omega)
    have lm := dec_len8 md (by omega)
    have hB : bline b = b.name ++ 32 :: (Go.Lib.decDigits v ++ 32 :: (Go.Lib.decDigits n ++ 32 :: (Go.Lib.decDigits md ++ [10]))) := by unfold bline; rw [hv, hnx, hmd]; rfl
    have hBl : (bline b).length ≤ 1048676 := by rw [hB]; simp; omega
    generalize hbl : bline b = B at *
    rw [hv, hnx, hmd] at w
    refine lim_run (E := E) rfl Tryd.func6 rfl (by kernel_rfl) (by kernel_rfl) ?_
    simp [Tryd.f6, tmpAt, w, hv, hnx, hmd, wv, wn, wm]
    refine ⟨by simp [strMax]; omega, by simp [strMax]; omega, by simp [strMax]; omega, by simp [strMax]; omega, by simp [strMax]; omega, by simp [strMax]; omega, by simp [strMax]; omega, ?_⟩
    rw [← hB]
    refine loop_fr [1] [(1,0)] (fun m st => ∃ (i : Nat), i + m = b.mails.length ∧ st.env 3 = .str (B ++ linesU b i) ∧ st.env 4 = .int .i64 i) (b.mails.length) _ ?_ ?_
    · exact ⟨0, by simp [linesU, hv, hnx, hmd]⟩
    rintro m0 ⟨env, rs⟩ hU0 hV0 ⟨i, hi, e0_3, e0_4⟩ ih0; simp at hU0 hV0 e0_3 e0_4
    have hu := wrap_up (show i < 4611686018427387904 by omega)
    have hUi := hU i
    simp [hU0, hV0, e0_3, e0_4]
    refine RB_dec ?_ ?_ <;> intro h
    · have hq := hn _ (List.getElem_mem h)
      have hnext := linesU_next b i h
      obtain ⟨u, hu1⟩ : ∃ v : Nat, b.mails[i].uid = v := ⟨b.mails[i].uid.toNat, by omega⟩
      obtain ⟨f, hf1⟩ : ∃ v : Nat, b.mails[i].flags = v := ⟨b.mails[i].flags.toNat, by omega⟩
      obtain ⟨d, hd1⟩ : ∃ v : Nat, b.mails[i].mod = v := ⟨b.mails[i].mod.toNat, by omega⟩
      have wu := eq_sDecimal u (by omega)
      have wf := eq_sFlagsText f (by omega)
      have wd := eq_sDecimal d (by omega)
      have lu := dec_len8 u (by omega)
      have lf := flT_len f (by omega)
      have ld := dec_len8 d (by omega)
      have lF : (flT f).length ≤ 42 := by simp [flT]; omega
      have hM : mline b.mails[i] = Go.Lib.decDigits u ++ 32 :: (flT f ++ 32 :: (Go.Lib.decDigits d ++ [10])) := by unfold mline; rw [hu1, hf1, hd1]; rfl
      rw [hM] at hnext
      simp [hU0, hV0, e0_3, e0_4, h, hu1, hf1, hd1, wu, wf, wd]
      refine ⟨by simp [strMax]; omega, by simp [strMax]; omega, by simp [strMax]; omega, by simp [strMax]; omega, by simp [strMax]; omega, by simp [strMax]; omega, ?_⟩
      refine ih0 (m0 - 1) _ (by omega) ?_ ?_ ⟨i + 1, by omega, ?_⟩
      · simp [hU0, hV0, e0_3, e0_4]
      · simp [hU0, hV0, e0_3, e0_4]
      simp [hU0, hV0, e0_3, e0_4, hu, hnext]
    · obtain rfl : i = b.mails.length := by omega
      simp [hU0, hV0, e0_3, e0_4, hS]
end Go.Proofs.YtfboojamiabmcaaDoor
