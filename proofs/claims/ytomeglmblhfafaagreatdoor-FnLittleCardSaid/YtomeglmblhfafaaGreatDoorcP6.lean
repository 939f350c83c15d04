/- Plain laws: a box, and who looked at it a while ago. -/
import Derived.Test.YtomeglmblhfafaaGreatDoorcP5
set_option linter.unusedSectionVars false
set_option linter.all false
set_option linter.unusedVariables false
set_option linter.unusedSimpArgs false
set_option maxRecDepth 100000
namespace Go.Proofs.YtomeglmblhfafaaGreatDoor
open Go.Lft

/-- The box b is what has become of that which the view v saw. -/
structure Later (v : View) (b : Box) (n : Int) : Prop where
  box : v.box = b.name
  valid : v.valid = b.valid
  mod1 : 1 ≤ v.mod
  mod : v.mod ≤ b.mod
  up : v.uids.Pairwise (· < ·)
  len : v.uids.length ≤ 30
  uids : ∀ u ∈ v.uids, 1 ≤ u ∧ u < n
  next : n ≤ b.next
  new : ∀ m ∈ b.mails, m.uid ∈ v.uids ∨ (n ≤ m.uid ∧ v.mod < m.mod)
  gone : b.horizon ≤ v.mod → ∀ u ∈ v.uids, (u ∈ uidsL b ↔ u ∉ laterU v.mod b.tombs)
theorem later_view {b : Box} (hok : boxOk b = true) : Later (viewOf b) b b.next := by
  obtain ⟨a, b1, b2, b3, b4, c1, c2, c3, d1, d2, d3, d4⟩ := (boxOk_iff b).1 hok
  refine ⟨rfl, rfl, b3.1, Int.le_refl _, ?_, ?_, ?_, Int.le_refl _, ?_, ?_⟩
  · show (uidsL b).Pairwise _
    unfold uidsL
    rw [List.pairwise_map]
    exact c2
  · show (uidsL b).length ≤ 30
    rw [uidsL_len]; exact c3
  · intro u hu
    obtain ⟨m, hm, rfl⟩ := List.mem_map.1 hu
    have := c1 m hm
    unfold MailFine at this
    omega
  · intro m hm
    exact .inl (List.mem_map.2 ⟨m, hm, rfl⟩)
  · intro _ u hu
    have : laterU b.mod b.tombs = [] := laterU_none fun x hx => by have := d1 x hx; unfold TombFine at this; omega
    show u ∈ uidsL b ↔ u ∉ laterU b.mod b.tombs
    rw [this]
    exact ⟨fun _ h => (by simp at h), fun _ => hu⟩
theorem later_add {v : View} {b : Box} {n : Int} (h : Later v b n) (f : Int) (t : S) : Later v (addMail b f t).1 n := by
  unfold addMail
  split
  · refine ⟨h.box, h.valid, h.mod1, ?_, h.up, h.len, h.uids, ?_, ?_, ?_⟩
    · show v.mod ≤ b.mod + 1
      have := h.mod; omega
    · show n ≤ b.next + 1
      have := h.next; omega
    · intro m hm
      rcases List.mem_append.1 hm with hm | hm
      · exact h.new m hm
      · obtain rfl := List.mem_singleton.1 hm
        right
        have := h.next; have := h.mod
        exact ⟨by simp only; omega, by simp only; omega⟩
    · intro hh u hu
      show u ∈ (b.mails ++ _).map (·.uid) ↔ _
      rw [List.map_append, List.mem_append]
      have h1 := h.gone hh u hu
      have h2 := (h.uids u hu).2
      have h3 := h.next
      have h4 : ¬ u = b.next := by omega
      show (u ∈ uidsL b ∨ u ∈ [b.next]) ↔ _
      rw [List.mem_singleton]
      simp only [h4, or_false]
      exact h1
  · exact h
theorem later_flags {v : View} {b : Box} {n : Int} (h : Later v b n) (s : List Range) (how bits since : Int) : Later v (setFlags b s how bits since).1 n := by
  unfold setFlags
  split
  · have hm : b.mod ≤ modAfter b s how bits since b.mails := by unfold modAfter; split <;> omega
    refine ⟨h.box, h.valid, h.mod1, ?_, h.up, h.len, h.uids, h.next, ?_, ?_⟩
    · show v.mod ≤ modAfter b s how bits since b.mails
      have := h.mod; omega
    · intro m hm
      obtain ⟨x, hx, rfl⟩ := List.mem_map.1 hm
      have h1 := h.new x hx
      have h2 := h.mod
      unfold flagged
      split
      · rcases h1 with h1 | h1
        · exact .inl h1
        · exact .inr ⟨h1.1, by simp only; omega⟩
      · exact h1
    · intro hh u hu
      have h1 := h.gone hh u hu
      show u ∈ (b.mails.map (flagged b s how bits since)).map (·.uid) ↔ _
      have : (b.mails.map (flagged b s how bits since)).map (·.uid) = uidsL b := by
        unfold uidsL
        rw [List.map_map]
        refine List.map_congr_left fun m _ => ?_
        simp only [Function.comp, flagged]
        split <;> rfl
      rw [this]
      exact h1
  · exact h
theorem later_exp {v : View} {b : Box} {n : Int} (hok : boxOk b = true) (h : Later v b n) (s : List Range) : Later v (expunge b s).1 n := by
  unfold expunge
  split
  · obtain ⟨t1, ⟨r, t2, t3⟩, t4, t5, t6⟩ := exp_trim hok s
    refine ⟨h.box, h.valid, h.mod1, ?_, h.up, h.len, h.uids, h.next, ?_, ?_⟩
    · show v.mod ≤ b.mod + 1
      have := h.mod; omega
    · intro m hm
      exact h.new m ((List.mem_filter.1 hm).1)
    · intro hh u hu
      have hh' : (expBox b s).horizon ≤ v.mod := hh
      have h1 := h.gone (by omega) u hu
      have h2 : laterU v.mod (expBox b s).tombs = laterU v.mod b.tombs ++ goneU s b.mails := by
        have e1 : laterU v.mod (b.tombs ++ goneT b s b.mails) = laterU v.mod (expBox b s).tombs := by
          rw [t2]
          have : laterU v.mod r = [] := laterU_none fun x hx => by have := t3 x hx; omega
          unfold laterU at *
          rw [List.filter_append, List.map_append, this, List.nil_append]
        rw [← e1]
        have e2 : laterU v.mod (b.tombs ++ goneT b s b.mails) = laterU v.mod b.tombs ++ laterU v.mod (goneT b s b.mails) := by
          unfold laterU; rw [List.filter_append, List.map_append]
        rw [e2]
        congr 1
        unfold laterU goneT goneU
        rw [List.filter_eq_self.2]
        · rw [List.map_map]; rfl
        · intro x hx
          obtain ⟨m, _, rfl⟩ := List.mem_map.1 hx
          have := h.mod
          simp; omega
      show u ∈ (keptM s b.mails).map (·.uid) ↔ u ∉ laterU v.mod (expBox b s).tombs
      rw [h2, List.mem_append, not_or, ← h1]
      constructor
      · intro hk
        obtain ⟨m, hm, rfl⟩ := List.mem_map.1 hk
        have hm' : m ∈ b.mails := (List.mem_filter.1 hm).1
        refine ⟨List.mem_map.2 ⟨m, hm', rfl⟩, fun hg => ?_⟩
        have := (gone_has hok s hm').1 hg
        have hk2 := (kept_has hok s hm').1 hk
        rw [this] at hk2
        exact Bool.noConfusion hk2
      · rintro ⟨hu1, hu2⟩
        obtain ⟨m, hm, rfl⟩ := List.mem_map.1 hu1
        rw [kept_has hok s hm]
        cases hg : isGone s m
        · rfl
        · exact absurd ((gone_has hok s hm).2 hg) hu2
  · exact h
/-- Two rising lists with the same members are one. -/
theorem up_ext : ∀ {xs ys : List Int}, xs.Pairwise (· < ·) → ys.Pairwise (· < ·) → (∀ u, u ∈ xs ↔ u ∈ ys) → xs = ys
  | [], [], _, _, _ => rfl
  | [], y :: ys, _, _, h => by have := (h y).2 (by simp); simp at this
  | x :: xs, [], _, _, h => by have := (h x).1 (by simp); simp at this
  | x :: xs, y :: ys, hx, hy, h => by
    rw [List.pairwise_cons] at hx hy
    have e : x = y := by
      have h1 := (h x).1 (by simp)
      have h2 := (h y).2 (by simp)
      rcases List.mem_cons.1 h1 with h1 | h1
      · exact h1
      · rcases List.mem_cons.1 h2 with h2 | h2
        · exact h2.symm
        · have := hy.1 x h1; have := hx.1 y h2; omega
    subst e
    congr 1
    refine up_ext hx.2 hy.2 fun u => ?_
    constructor
    · intro hu
      have := (h u).1 (List.mem_cons_of_mem _ hu)
      rcases List.mem_cons.1 this with rfl | h1
      · have := hx.1 u hu; omega
      · exact h1
    · intro hu
      have := (h u).2 (List.mem_cons_of_mem _ hu)
      rcases List.mem_cons.1 this with rfl | h1
      · have := hy.1 u hu; omega
      · exact h1
end Go.Proofs.YtomeglmblhfafaaGreatDoor
