/- Draws of boxes. -/
import Derived.Test.YtomeglmblhfafaaGreatDoorcC2
set_option linter.unusedSectionVars false
set_option linter.all false
set_option linter.unusedVariables false
set_option linter.unusedSimpArgs false
set_option maxRecDepth 100000
namespace Go.Proofs.YtomeglmblhfafaaGreatDoor
open Go.Lft

/-- Right, and of a size. -/
theorem boxOk_sz {b : Box} (h : boxOk b = true) : szBox b ≤ 10000 := by
  have hl := boxOk_lens h
  unfold boxOk at h
  obtain ⟨hn, _, ⟨hm, _⟩, _⟩ := of_decide_eq_true h
  have hnl : b.name.length ≤ 8 := by simp [boxName, within] at hn; omega
  have ht : tot (fun (y : Mail) => szMail y) b.mails ≤ b.mails.length * 200 := by
    have key : ∀ ms : List Mail, (∀ m ∈ ms, szMail m ≤ 200) → tot (fun (y : Mail) => szMail y) ms ≤ ms.length * 200 := by
      intro ms
      induction ms with
      | nil => intro _; simp [tot]
      | cons m ms ih =>
        intro h
        have h1 := h m (List.mem_cons_self ..)
        have h2 := ih fun x hx => h x (List.mem_cons_of_mem _ hx)
        simp only [tot, List.length_cons, Nat.succ_mul]; omega
    refine key _ fun m hmm => ?_
    obtain ⟨k, hk, rfl⟩ := List.getElem_of_mem hmm
    have := hm k b.mails[k] hk (List.getElem?_eq_getElem hk)
    simp only [mailsGood, mailGood, Bool.and_eq_true] at this
    have h5 := this.2
    simp [mailOk, within] at h5
    show b.mails[k].text.length ≤ 200
    omega
  have e : szBox b = b.name.length + (b.mails.length + tot (fun (y : Mail) => szMail y) b.mails) + b.tombs.length := rfl
  omega
theorem addMail_ok {b : Box} {f : Int} {t : S} (h : boxOk b = true) : boxOk (addMail b f t).1 = true := by
  unfold addMail; split
  · rename_i h2; exact h2.2
  · exact h
theorem setFlags_ok {b : Box} {s : List Range} {a c d : Int} (h : boxOk b = true) : boxOk (setFlags b s a c d).1 = true := by
  unfold setFlags; split
  · rename_i h2; exact h2.2
  · exact h
theorem expunge_ok {b : Box} {s : List Range} (h : boxOk b = true) : boxOk (expunge b s).1 = true := by
  unfold expunge; split
  · rename_i h2; exact h2.2.2.2
  · exact h
theorem upto_filter {α : Type} (p : α → Bool) {xs : List α} : (xs.filter p).length ≤ xs.length := List.length_filter_le ..
end Go.Proofs.YtomeglmblhfafaaGreatDoor
