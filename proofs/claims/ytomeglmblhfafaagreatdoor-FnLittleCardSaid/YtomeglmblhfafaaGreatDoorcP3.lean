/- Plain law: one number after the other, in whatever order, is the set of the sorted list. -/
import Derived.Test.YtomeglmblhfafaaGreatDoorcH7
import Derived.Test.YtomeglmblhfafaaGreatDoorcSV1
import Derived.Test.YtomeglmblhfafaaGreatDoorcP2
import Derived.Test.YtomeglmblhfafaaGreatDoorLfd
set_option linter.unusedSectionVars false
set_option linter.all false
set_option linter.unusedVariables false
set_option linter.unusedSimpArgs false
set_option maxRecDepth 100000
namespace Go.Proofs.YtomeglmblhfafaaGreatDoor
open Go.Lft

end Go.Proofs.YtomeglmblhfafaaGreatDoor

set_option linter.unusedVariables false
set_option linter.unusedSimpArgs false
set_option maxRecDepth 100000
namespace Go.Proofs.YtomeglmblhfafaaGreatDoor
open Go.Lft

set_option maxHeartbeats 1000000 in
theorem eq_askedSelect {s : Store} (x : Session) (n : S) (hok : storeOk s = true) (hb : (boxAt s n).2 = true) : lim E 53 [encStore false false s, encSession false x, .lst false 9 1 [.str [115, 101, 108, 101, 99, 116], .str n]] = some (.tup [encSession true ⟨true, viewOf (boxAt s n).1⟩, .lst true 48 7 ((selLines (boxAt s n).1).map (encLine false true)), .bool true], []) := by
  have w := eq_selected x n hok hb
  generalize (boxAt s n).1 = b at *
  try simp at w
  refine lim_run (E := E) rfl Tryz.func53 rfl (by kernel_rfl) (by kernel_rfl) ?_
  simp [Tryz.f53, tmpAt, w]
set_option maxHeartbeats 1000000 in
theorem eq_askedClose (s : Store) (x : Session) : lim E 53 [encStore false false s, encSession false x, .lst false 9 1 [.str [99, 108, 111, 115, 101]]] = some (.tup [encSession true zeroSession, .lst true 48 7 ([lnOk].map (encLine false true)), .bool true], []) := by
  refine lim_run (E := E) rfl Tryz.func53 rfl (by kernel_rfl) (by kernel_rfl) ?_
  simp [Tryz.f53, tmpAt]
  simp [lnOk]
set_option maxHeartbeats 1000000 in
theorem eq_ServeSelect {s : Store} (x : Session) (n : S) (hok : storeOk s = true) (hb : (boxAt s n).2 = true) : lim E 11 [encStore false false s, encSession false x, .lst false 9 1 [.str [115, 101, 108, 101, 99, 116], .str n]] = some (.tup [encStore false true s, encSession true ⟨true, viewOf (boxAt s n).1⟩, .lst true 48 7 ((selLines (boxAt s n).1).map (encLine false true)), .lst true 65 8 []], []) := by
  have w := eq_askedSelect x n hok hb
  have hs := storeOk_sz hok
  have wo := eq_StoreOk s (by omega)
  rw [hok] at wo
  have wc := eq_copyStore s (by omega)
  generalize (boxAt s n).1 = b at *
  try simp at w
  try simp at wo
  try simp at wc
  refine lim_run (E := E) rfl Tryz.func11 rfl (by kernel_rfl) (by kernel_rfl) ?_
  simp [Tryz.f11, tmpAt, w, wo, wc]
  exact trOk_unord (L := [(0, 2), (0, 3), (1, 2), (1, 3), (2, 3), (2, 4), (3, 4), (3, 5)]) (by kernel_rfl) (by simp) (by simp [indepAt, indep, spares, around, aside, pre, isSlc, Tr.feels, Tr.all, moves, bare, opData, isExt, cmpOf, Op.operands, Call.operands, mentL, ment, D.noUndefL, D.noUndef, pureE, w, wo, wc])
set_option maxHeartbeats 1000000 in
theorem eq_ServeClose {s : Store} (x : Session) (hok : storeOk s = true) : lim E 11 [encStore false false s, encSession false x, .lst false 9 1 [.str [99, 108, 111, 115, 101]]] = some (.tup [encStore false true s, encSession true zeroSession, .lst true 48 7 ([lnOk].map (encLine false true)), .lst true 65 8 []], []) := by
  have w := eq_askedClose s x
  have hs := storeOk_sz hok
  have wo := eq_StoreOk s (by omega)
  rw [hok] at wo
  have wc := eq_copyStore s (by omega)
  try simp at w
  try simp at wo
  try simp at wc
  refine lim_run (E := E) rfl Tryz.func11 rfl (by kernel_rfl) (by kernel_rfl) ?_
  simp [Tryz.f11, tmpAt, w, wo, wc]
  exact trOk_unord (L := [(0, 2), (0, 3), (1, 2), (1, 3), (2, 3), (2, 4), (3, 4), (3, 5)]) (by kernel_rfl) (by simp) (by simp [indepAt, indep, spares, around, aside, pre, isSlc, Tr.feels, Tr.all, moves, bare, opData, isExt, cmpOf, Op.operands, Call.operands, mentL, ment, D.noUndefL, D.noUndef, pureE, w, wo, wc])
end Go.Proofs.YtomeglmblhfafaaGreatDoor

set_option linter.unusedVariables false
set_option linter.unusedSimpArgs false
set_option maxRecDepth 100000
namespace Go.Proofs.YtomeglmblhfafaaGreatDoor
open Go.Lft

theorem sortL_mem (us : List Int) (n : Int) : n ∈ sortL us ↔ n ∈ us := (List.mergeSort_perm us _).mem_iff
theorem sortL_up {us : List Int} (h : us.Nodup) : (sortL us).Pairwise (· < ·) := by
  have h1 : (sortL us).Pairwise (fun a b => decide (a ≤ b) = true) := List.pairwise_mergeSort (fun a b c h1 h2 => by simp at *; omega) (fun a b => by simp; omega) us
  have h2 : (sortL us).Nodup := (List.mergeSort_perm us _).nodup_iff.2 h
  have h3 := h1.and h2
  exact h3.imp fun {a b} h => by simp at h; omega
theorem sAdds_sort : ∀ (us : List Int), us.Nodup → (∀ u ∈ us, 1 ≤ u ∧ u ≤ 9999) → us.length ≤ 40 → sAdds us = setOfL (sortL us) := by
  intro us
  rcases last_dec us with rfl | ⟨l, u, rfl⟩
  · intro _ _ _; simp [sortL, setOfL]
  · intro hn hb hl
    have hlen : l.length < (l ++ [u]).length := by simp
    have hn' : l.Nodup := (List.nodup_append.1 hn).1
    have hb' : ∀ x ∈ l, 1 ≤ x ∧ x ≤ 9999 := fun x hx => hb x (by simp [hx])
    have ih := sAdds_sort l hn' hb' (by simp at hl; omega)
    rw [sAdds_snoc, ih]
    obtain ⟨i1, i2, i3⟩ := setOfL_ok (sortL l) (sortL_up hn') (fun x hx => hb' x ((sortL_mem l x).1 hx))
    obtain ⟨k1, k2, k3⟩ := setOfL_ok (sortL (l ++ [u])) (sortL_up hn) (fun x hx => hb x ((sortL_mem _ x).1 hx))
    have hu := hb u (by simp)
    have hlen1 := setOfL_len (sortL l)
    have hlen2 := setOfL_len (sortL (l ++ [u]))
    rw [sortL_len] at hlen1 hlen2
    have hok : setOk (setOfL (sortL l)) = true := by simp [setOk, i1]; simp at hl; omega
    have hok2 : setOk (setOfL (sortL (l ++ [u]))) = true := by simp [setOk, k1]; omega
    have h0 : ∀ n : Int, (n < 1 ∨ 9999 < n) → setHas (setOfL (sortL (l ++ [u]))) n = false := by
      intro n hn
      cases hc : setHas (setOfL (sortL (l ++ [u]))) n
      · rfl
      · have := setHas_range k1 hc; omega
    have hf : ∀ n : Int, (setHas (setOfL (sortL l)) n || within n u u) = setHas (setOfL (sortL (l ++ [u]))) n := by
      intro n
      rw [i3 n, k3 n, Bool.eq_iff_iff]
      simp only [Bool.or_eq_true, decide_eq_true_eq, sortL_mem, List.mem_append, List.mem_singleton]
      simp [within]
      constructor
      · rintro (h | h)
        · exact .inl h
        · right; omega
      · rintro (h | h)
        · exact .inl h
        · right; omega
    have hz : (fun n : Nat => setHas (setOfL (sortL l)) n || within n u u) = fun n : Nat => setHas (setOfL (sortL (l ++ [u]))) n := by funext n; exact hf n
    have hU := setUpto_ok (fun n : Nat => setHas (setOfL (sortL (l ++ [u]))) n) (h0 0 (by omega)) 9999 (by omega)
    have he : setUpto (fun n : Nat => setHas (setOfL (sortL (l ++ [u]))) n) 9999 = setOfL (sortL (l ++ [u])) := by
      refine setOkL_ext hU.1 k1 fun n => ?_
      by_cases hn : 0 ≤ n
      · have := hU.2.2.2 n.toNat
        rw [show ((n.toNat : Nat) : Int) = n by omega] at this
        rw [this]
        by_cases h9 : n.toNat ≤ 9999
        · simp [h9]
        · rw [h0 n (by omega)]; simp
      · rw [h0 n (by omega)]
        cases hc : setHas (setUpto (fun n : Nat => setHas (setOfL (sortL (l ++ [u]))) n) 9999) n
        · rfl
        · have := setHas_range hU.1 hc; omega
    unfold setAdd
    rw [if_pos ⟨hok, hu.1, Int.le_refl _, hu.2⟩, hz, he, if_pos hok2]
  termination_by us => us.length
end Go.Proofs.YtomeglmblhfafaaGreatDoor
