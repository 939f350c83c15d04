/- Plain law: a mirror that takes what is told. -/
import Derived.Test.YtoeadcefgpkdcaaGreatcP6
import Derived.Test.YtoeadcefgpkdcaaGreatcF3
import Derived.Test.YtoeadcefgpkdcaaGreatcG1
set_option linter.unusedSectionVars false
set_option linter.all false
set_option linter.unusedVariables false
set_option linter.unusedSimpArgs false
set_option maxRecDepth 100000
namespace Go.Proofs.YtoeadcefgpkdcaaGreat
open Go.Lft

theorem later_tells {v : View} {b : Box} {n : Int} (hok : boxOk b = true) (h : Later v b n) : tells v b := by
  obtain ⟨a, b1, b2, b3, b4, c1, c2, c3, d1, d2, d3, d4⟩ := (boxOk_iff b).1 hok
  refine ⟨?_, hok, h.box, h.valid⟩
  rw [viewOk_iff]
  have hn := h.next
  have hm := h.mod
  have hm1 := h.mod1
  exact ⟨fun u hu => by have := h.uids u hu; omega, h.up, by rw [h.box]; exact a, by rw [h.valid]; exact b1, h.len, hm1, by omega⟩
theorem view_tells {b : Box} (hok : boxOk b = true) : tellView (viewOf b) b = (viewOf b, []) := by
  have h := later_tells hok (later_view hok)
  unfold tellView
  rw [if_pos h]
  congr 1
  have h1 : ∀ (us : List Int) (n : Nat), (∀ u ∈ us, hasUid b.mails u = true) → goneLines b n us = [] := by
    intro us
    induction us with
    | nil => intro n _; rfl
    | cons u us ih =>
      intro n hu
      simp only [goneLines]
      rw [if_pos (hu u (by simp))]
      exact ih _ fun x hx => hu x (List.mem_cons_of_mem _ hx)
  have h2 : ∀ u ∈ uidsL b, hasUid b.mails u = true := fun u hu => hasUid_iff.2 hu
  have h3 : keptU b (uidsL b) = uidsL b := List.filter_eq_self.2 h2
  have h4 : ∀ (ms : List Mail) (k : Nat), (∀ m ∈ ms, m.mod ≤ b.mod) → fetchLines b.mod k ms = [] := by
    intro ms
    induction ms with
    | nil => intro k _; rfl
    | cons m ms ih =>
      intro k hm
      simp only [fetchLines]
      have := hm m (by simp)
      rw [if_neg (by omega)]
      exact ih _ fun x hx => hm x (List.mem_cons_of_mem _ hx)
  obtain ⟨a, b1, b2, b3, b4, c1, c2, c3, d1, d2, d3, d4⟩ := (boxOk_iff b).1 hok
  unfold told
  show goneLines b 0 (uidsL b) ++ (if keptU b (uidsL b) = uidsL b then [] else _) ++ fetchLines b.mod 0 b.mails = []
  rw [h1 _ _ h2, if_pos h3, h4 _ _ fun m hm => (c1 m hm).2.2.2.2.1]
  rfl
/-- What was seen first comes first. -/
theorem kept_prefix {v : View} {b : Box} {n : Int} (hok : boxOk b = true) (h : Later v b n) : uidsL b = keptU b v.uids ++ (uidsL b).filter fun u => decide (u ∉ v.uids) := by
  have hp := uidsL_up hok
  refine up_ext hp ?_ fun u => ?_
  · rw [List.pairwise_append]
    refine ⟨h.up.filter _, hp.filter _, fun x hx y hy => ?_⟩
    have h1 := (h.uids x (List.mem_filter.1 hx).1).2
    obtain ⟨y1, y2⟩ := List.mem_filter.1 hy
    obtain ⟨m, hm, rfl⟩ := List.mem_map.1 y1
    rcases h.new m hm with q | q
    · simp [q] at y2
    · omega
  · rw [List.mem_append, keptU, List.mem_filter, List.mem_filter]
    constructor
    · intro hu
      by_cases hv : u ∈ v.uids
      · exact .inl ⟨hv, hasUid_iff.2 hu⟩
      · exact .inr ⟨hu, by simpa using hv⟩
    · rintro (q | q)
      · exact hasUid_iff.1 q.2
      · exact q.1
end Go.Proofs.YtoeadcefgpkdcaaGreat
