/- The words of a copy: CacheWords of both. -/
import Derived.Test.YtbcgldeleankcaaDoorcY1
import Derived.Test.YtbcgldeleankcaaDoorcA3
set_option linter.unusedSectionVars false
set_option linter.all false
set_option linter.unusedVariables false
set_option linter.unusedSimpArgs false
set_option maxRecDepth 100000
namespace Go.Proofs.YtbcgldeleankcaaDoor
open Go.Lft

noncomputable def cacheW (c : Cache) : List S := if cacheOk c = true then (if 0 < c.valid then [[115, 101, 108, 101, 99, 116], c.box, Go.Lib.decDigits c.valid.toNat, Go.Lib.decDigits c.mod.toNat] else [[115, 101, 108, 101, 99, 116], c.box]) else []
theorem cacheOk_nums {c : Cache} (h : cacheOk c = true) : (0 ≤ c.valid ∧ c.valid ≤ 9999) ∧ (0 ≤ c.mod ∧ c.mod ≤ 100000) ∧ c.seens.length ≤ 30 := by
  simp [cacheOk, within] at h
  omega
theorem cacheW_len (c : Cache) : (cacheW c).length ≤ 4 := by
  unfold cacheW
  split
  · split <;> simp
  · simp
set_option maxHeartbeats 1000000 in
theorem eq_CacheWords (c : Cache) (hc : szCache c ≤ 1048576) : lim E 20 [encCache false false c] = some (.lst true 9 1 ((cacheW c).map .str), []) := by
  have w := eq_CacheOk c (by omega)
  try simp at w
  cases hok : cacheOk c
  · rw [hok] at w
    refine lim_run (E := E) rfl Tryd.func20 rfl (by kernel_rfl) (by kernel_rfl) ?_
    simp [Tryd.f20, tmpAt, w]
    simp [cacheW, hok]
  · rw [hok] at w
    obtain ⟨h1, h2, h3⟩ := cacheOk_nums hok
    have hW : cacheW c = if 0 < c.valid then [[115, 101, 108, 101, 99, 116], c.box, Go.Lib.decDigits c.valid.toNat, Go.Lib.decDigits c.mod.toNat] else [[115, 101, 108, 101, 99, 116], c.box] := by unfold cacheW; rw [if_pos hok]
    rw [hW]
    clear hW hok hc
    obtain ⟨box, valid, mod, seens⟩ := c
    simp only at h1 h2 h3 w ⊢
    obtain ⟨v, rfl⟩ : ∃ v : Nat, valid = v := ⟨valid.toNat, by omega⟩
    obtain ⟨m, rfl⟩ : ∃ v : Nat, mod = v := ⟨mod.toNat, by omega⟩
    have wv := eq_DecimalAll v (by omega)
    have wm := eq_DecimalAll m (by omega)
    by_cases hv : 0 < v
    · refine lim_run (E := E) rfl Tryd.func20 rfl (by kernel_rfl) (by kernel_rfl) ?_
      simp [Tryd.f20, tmpAt, w, wv, wm, hv]
      exact trOk_unord (L := [(0, 1), (0, 2), (0, 3), (0, 4), (0, 5), (0, 6), (0, 7), (1, 4), (1, 5), (2, 4), (2, 5), (3, 4), (3, 5)]) (by kernel_rfl) (by simp) (by simp [indepAt, indep, spares, around, aside, pre, isSlc, Tr.feels, Tr.all, moves, bare, opData, isExt, cmpOf, Op.operands, Call.operands, mentL, ment, D.noUndefL, D.noUndef, pureE, w, wv, wm, hv])
    · refine lim_run (E := E) rfl Tryd.func20 rfl (by kernel_rfl) (by kernel_rfl) ?_
      simp [Tryd.f20, tmpAt, w, wv, wm, hv]
set_option maxHeartbeats 1000000 in
theorem eq_sCacheWords (c : Cache) (hc : szCache c ≤ 1048576) : lim E 18 [encCache false false c] = some (.lst true 9 1 ((cacheW c).map .str), []) := by
  have w := eq_sCacheOk c (by omega)
  try simp at w
  cases hok : cacheOk c
  · rw [hok] at w
    refine lim_run (E := E) rfl Tryd.func18 rfl (by kernel_rfl) (by kernel_rfl) ?_
    simp [Tryd.f18, tmpAt, w]
    simp [cacheW, hok]
  · rw [hok] at w
    obtain ⟨h1, h2, h3⟩ := cacheOk_nums hok
    have hW : cacheW c = if 0 < c.valid then [[115, 101, 108, 101, 99, 116], c.box, Go.Lib.decDigits c.valid.toNat, Go.Lib.decDigits c.mod.toNat] else [[115, 101, 108, 101, 99, 116], c.box] := by unfold cacheW; rw [if_pos hok]
    rw [hW]
    clear hW hok hc
    obtain ⟨box, valid, mod, seens⟩ := c
    simp only at h1 h2 h3 w ⊢
    obtain ⟨v, rfl⟩ : ∃ v : Nat, valid = v := ⟨valid.toNat, by omega⟩
    obtain ⟨m, rfl⟩ : ∃ v : Nat, mod = v := ⟨mod.toNat, by omega⟩
    have wv := eq_sDecimal v (by omega)
    have wm := eq_sDecimal m (by omega)
    by_cases hv : v = 0
    · subst hv
      try simp at w
      refine lim_run (E := E) rfl Tryd.func18 rfl (by kernel_rfl) (by kernel_rfl) ?_
      simp [Tryd.f18, tmpAt, w, wv, wm]
    · have hv' : 0 < v := by omega
      refine lim_run (E := E) rfl Tryd.func18 rfl (by kernel_rfl) (by kernel_rfl) ?_
      simp [Tryd.f18, tmpAt, w, wv, wm, hv, hv']
      exact trOk_unord (L := [(0, 2), (0, 3), (0, 4), (0, 5), (0, 6), (0, 7), (1, 2), (1, 3), (1, 4), (1, 5), (1, 6), (1, 7), (2, 5), (2, 6), (3, 5), (3, 6), (4, 5), (4, 6)]) (by kernel_rfl) (by simp) (by simp [indepAt, indep, spares, around, aside, pre, isSlc, Tr.feels, Tr.all, moves, bare, opData, isExt, cmpOf, Op.operands, Call.operands, mentL, ment, D.noUndefL, D.noUndef, pureE, w, wv, wm, hv, hv'])
end Go.Proofs.YtbcgldeleankcaaDoor
