/- What is told of a view: short, and with no sets. -/
import Derived.Test.YtfboojamiabmcaacF2
set_option linter.unusedSectionVars false
set_option linter.all false
set_option linter.unusedVariables false
set_option linter.unusedSimpArgs false
set_option maxRecDepth 100000
namespace Go.Proofs.Ytfboojamiabmcaa
open Go.Lft

theorem tn_nil {v : View} {b : Box} : ∀ x ∈ told v b, x.set_ = [] := by
  have h1 : ∀ (us : List Int) (n : Nat), ∀ x ∈ goneLines b n us, x.set_ = [] := by
    intro us
    induction us with
    | nil => intro n x hx; simp [goneLines] at hx
    | cons u us ih =>
      intro n x hx
      simp only [goneLines] at hx
      split at hx
      · exact ih _ x hx
      · rcases List.mem_cons.1 hx with rfl | hx
        · rfl
        · exact ih _ x hx
  have h2 : ∀ (ms : List Mail) (k : Nat), ∀ x ∈ fetchLines v.mod k ms, x.set_ = [] := by
    intro ms
    induction ms with
    | nil => intro k x hx; simp [fetchLines] at hx
    | cons m ms ih =>
      intro k x hx
      simp only [fetchLines] at hx
      split at hx
      · rcases List.mem_cons.1 hx with rfl | hx
        · rfl
        · exact ih _ x hx
      · exact ih _ x hx
  intro x hx
  unfold told at hx
  rcases List.mem_append.1 hx with hx | hx
  · rcases List.mem_append.1 hx with hx | hx
    · exact h1 _ _ x hx
    · split at hx
      · simp at hx
      · obtain rfl := List.mem_singleton.1 hx; rfl
  · exact h2 _ _ x hx
theorem tn_len {v : View} {b : Box} (hv : v.uids.length ≤ 30) (hb : b.mails.length ≤ 30) : (told v b).length ≤ 61 := by
  have h1 := goneLines_len b v.uids 0
  have h2 := fetchLines_len v.mod b.mails 0
  unfold told
  rw [List.length_append, List.length_append]
  split <;> simp <;> omega
theorem tn_view (v : View) (b : Box) : (∀ x ∈ (tellView v b).2, x.set_ = []) ∧ (tellView v b).2.length ≤ 61 ∧ szView (tellView v b).1 ≤ 100 := by
  unfold tellView
  split
  · rename_i h
    obtain ⟨h1, h2, h3, h4⟩ := h
    have hul : v.uids.length ≤ 30 := by simp [viewOk] at h1; omega
    have hml := boxOk_lens h2
    refine ⟨tn_nil, tn_len hul hml.1, ?_⟩
    have : b.name.length ≤ 8 := by
      unfold boxOk at h2
      have := (of_decide_eq_true h2).1
      simp [boxName, within] at this
      omega
    show b.name.length + (uidsL b).length ≤ 100
    rw [uidsL_len]
    omega
  · refine ⟨fun x hx => ?_, by simp, by simp [szView]⟩
    obtain rfl := List.mem_singleton.1 hx
    rfl
theorem tot_nil : ∀ (xs : List Line), (∀ x ∈ xs, x.set_ = []) → tot (fun (y : Line) => szLine y) xs = 0
  | [], h => rfl
  | x :: xs, h => by
    have h1 := h x (by simp)
    have h2 := tot_nil xs fun y hy => h y (by simp [hy])
    simp [tot, szLine, h1] at h2 ⊢
    exact h2
end Go.Proofs.Ytfboojamiabmcaa
