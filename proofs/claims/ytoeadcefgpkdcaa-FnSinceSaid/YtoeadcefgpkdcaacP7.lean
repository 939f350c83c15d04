/- Plain law: what changed since and what is gone since, put onto what was. -/
import Derived.Test.YtoeadcefgpkdcaacC6
set_option linter.unusedSectionVars false
set_option linter.all false
set_option linter.unusedVariables false
set_option linter.unusedSimpArgs false
set_option maxRecDepth 100000
namespace Go.Proofs.Ytoeadcefgpkdcaa
open Go.Lft

def addNew (l : List Int) (ms : List Mail) : List Int := ms.foldl (fun l m => if m.uid ∈ l then l else l ++ [m.uid]) l
theorem addNew_next (l : List Int) (ms : List Mail) (i : Nat) (h : i < ms.length) : addNew l (ms.take (i + 1)) = if ms[i].uid ∈ addNew l (ms.take i) then addNew l (ms.take i) else addNew l (ms.take i) ++ [ms[i].uid] := by
  rw [List.take_succ_eq_append_getElem h]
  unfold addNew
  rw [List.foldl_append]
  rfl
theorem addNew_len : ∀ (ms : List Mail) (l : List Int), (addNew l ms).length ≤ l.length + ms.length
  | [], l => by simp [addNew]
  | m :: ms, l => by
    simp only [addNew, List.foldl_cons]
    have h1 := addNew_len ms l
    have h2 := addNew_len ms (l ++ [m.uid])
    unfold addNew at h1 h2
    split
    · simp; omega
    · simp at h2 ⊢; omega
theorem addNew_eq : ∀ (ms : List Mail) (l : List Int), ms.Pairwise (fun a c => a.uid < c.uid) → addNew l ms = l ++ (ms.filter fun m => decide (m.uid ∉ l)).map (·.uid)
  | [], l, _ => by simp [addNew]
  | m :: ms, l, hp => by
    rw [List.pairwise_cons] at hp
    have e : addNew l (m :: ms) = addNew (if m.uid ∈ l then l else l ++ [m.uid]) ms := rfl
    rw [e]
    by_cases h : m.uid ∈ l
    · rw [if_pos h, addNew_eq ms l hp.2, List.filter_cons_of_neg (by simp [h])]
    · rw [if_neg h, addNew_eq ms _ hp.2, List.filter_cons_of_pos (by simp [h]), List.append_assoc]
      congr 1
      simp only [List.map_cons, List.cons_append, List.nil_append]
      congr 2
      refine List.filter_congr fun x hx => ?_
      have := hp.1 x hx
      have hne : ¬ x.uid = m.uid := by omega
      simp [hne]
theorem vanished_ok {b : Box} {since : Int} (h : (vanished b since).2 = true) (hok : boxOk b = true) : b.horizon ≤ since ∧ ∀ u, setHas (vanished b since).1 u = decide (u ∈ laterU since b.tombs) := by
  obtain ⟨u1, u2, u3⟩ := laterU_ok hok since
  unfold vanished at h ⊢
  split at h
  · rename_i hc
    rw [if_pos hc]
    refine ⟨hc.2, fun u => ?_⟩
    have := (setOfL_ok (sortL (laterU since b.tombs)) (sortL_up u1) (fun x hx => u2 x ((sortL_mem _ x).1 hx))).2.2 u
    simp only [this, sortL_mem]
  · simp at h
theorem vanished_len {b : Box} (hok : boxOk b = true) (since : Int) : (vanished b since).1.length ≤ 40 := by
  obtain ⟨u1, u2, u3⟩ := laterU_ok hok since
  unfold vanished
  split
  · have h2 := setOfL_len (sortL (laterU since b.tombs))
    rw [sortL_len] at h2
    simp only; omega
  · simp
theorem since_left {v : View} {b : Box} {n : Int} (hok : boxOk b = true) (h : Later v b n) (hv : (vanished b v.mod).2 = true) : addNew (v.uids.filter fun u => !setHas (vanished b v.mod).1 u) (changed b v.mod) = uidsL b := by
  obtain ⟨h1, h2⟩ := vanished_ok hv hok
  obtain ⟨a, b1, b2, b3, b4, c1, c2, c3, d1, d2, d3, d4⟩ := (boxOk_iff b).1 hok
  have hg := h.gone h1
  have hc : (changed b v.mod).Pairwise (fun a c => a.uid < c.uid) := c2.filter _
  rw [addNew_eq _ _ hc]
  have hL : ∀ u, u ∈ v.uids.filter (fun u => !setHas (vanished b v.mod).1 u) ↔ u ∈ v.uids ∧ u ∈ uidsL b := by
    intro u
    rw [List.mem_filter, h2 u]
    constructor
    · rintro ⟨q1, q2⟩
      exact ⟨q1, (hg u q1).2 (by simpa using q2)⟩
    · rintro ⟨q1, q2⟩
      exact ⟨q1, by simpa using (hg u q1).1 q2⟩
  have hLp : (v.uids.filter fun u => !setHas (vanished b v.mod).1 u).Pairwise (· < ·) := h.up.filter _
  generalize v.uids.filter (fun u => !setHas (vanished b v.mod).1 u) = L at *
  have hb : (uidsL b).Pairwise (· < ·) := by unfold uidsL; rw [List.pairwise_map]; exact c2
  refine up_ext ?_ hb ?_
  · rw [List.pairwise_append]
    refine ⟨hLp, ?_, ?_⟩
    · rw [List.pairwise_map]; exact hc.filter _
    · intro x hx y hy
      obtain ⟨m, hm, rfl⟩ := List.mem_map.1 hy
      simp only [List.mem_filter, decide_eq_true_eq] at hm
      obtain ⟨hm1, hm2⟩ := hm
      have hm3 : m ∈ b.mails := (List.mem_filter.1 hm1).1
      have hx1 := (h.uids x ((hL x).1 hx).1).2
      rcases h.new m hm3 with q | q
      · exact absurd ((hL m.uid).2 ⟨q, List.mem_map.2 ⟨m, hm3, rfl⟩⟩) hm2
      · omega
  · intro u
    rw [List.mem_append]
    constructor
    · rintro (q | q)
      · exact ((hL u).1 q).2
      · obtain ⟨m, hm, rfl⟩ := List.mem_map.1 q
        exact List.mem_map.2 ⟨m, (List.mem_filter.1 (List.mem_filter.1 hm).1).1, rfl⟩
    · intro q
      obtain ⟨m, hm, rfl⟩ := List.mem_map.1 q
      by_cases hmL : m.uid ∈ L
      · exact .inl hmL
      · right
        rcases h.new m hm with r | r
        · exact absurd ((hL m.uid).2 ⟨r, q⟩) hmL
        · refine List.mem_map.2 ⟨m, ?_, rfl⟩
          rw [List.mem_filter]
          exact ⟨List.mem_filter.2 ⟨hm, by simp; omega⟩, by simpa using hmL⟩
end Go.Proofs.Ytoeadcefgpkdcaa
