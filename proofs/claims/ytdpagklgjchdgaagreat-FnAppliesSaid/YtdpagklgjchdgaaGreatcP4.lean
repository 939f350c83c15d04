/- Plain law: what is expunged of all. -/
import Derived.Test.YtdpagklgjchdgaaGreatcE4
import Derived.Test.YtdpagklgjchdgaaGreatcV1
import Derived.Test.YtdpagklgjchdgaaGreatcD16
set_option linter.unusedSectionVars false
set_option linter.all false
set_option linter.unusedVariables false
set_option linter.unusedSimpArgs false
set_option maxRecDepth 100000
namespace Go.Proofs.YtdpagklgjchdgaaGreat
open Go.Lft

theorem bit8_fin : ∀ a : Fin 32, decide (0 < andI (a.val : Int) 8) = decide (((a.val : Int).tdiv 8).tmod 2 = 1) := of_decide_eq_true (by kernel_rfl)
theorem gone_all {m : Mail} (h1 : 1 ≤ m.uid) (h2 : m.uid ≤ 9999) (hf : within m.flags 0 31 = true) : isGone [⟨1, 9999⟩] m = decide ((m.flags.tdiv 8).tmod 2 = 1) := by
  obtain ⟨n, hn⟩ := within31 hf
  have := bit8_fin n
  rw [← hn] at this
  unfold isGone
  rw [this]
  have : setHas [⟨1, 9999⟩] m.uid = true := by simp [setHas, within, h1, h2]
  rw [this, Bool.true_and]
theorem sumS_snoc_one (s : List Range) (n : Int) (h : lastHi none s ≠ some n) : sumS (setSnoc s n) = sumS s + 1 := by
  rcases last_dec s with rfl | ⟨l, r, rfl⟩
  · simp [setSnoc_nil, sumS]
  · rw [setSnoc_snoc]
    split
    · rename_i hc
      rw [sumS_snoc, sumS_snoc]; simp only; omega
    · rw [sumS_snoc]; simp only; omega
theorem sumS_ofL : ∀ us : List Int, us.Pairwise (· < ·) → (∀ u ∈ us, 1 ≤ u ∧ u ≤ 9999) → sumS (setOfL us) = us.length := by
  intro us
  rcases last_dec us with rfl | ⟨l, u, rfl⟩
  · intro _ _; rfl
  · intro hp hb
    have hlen : l.length < (l ++ [u]).length := by simp
    have hp' := (List.pairwise_append.1 hp).1
    have hb' : ∀ x ∈ l, 1 ≤ x ∧ x ≤ 9999 := fun x hx => hb x (by simp [hx])
    have ih := sumS_ofL l hp' hb'
    have hl := (setOfL_ok l hp' hb').2.1
    rw [setOfL_snoc, sumS_snoc_one, ih]
    · simp
    · rw [hl]
      intro hc
      have h1 : u ∈ l := List.mem_of_getLast? hc
      have := (List.pairwise_append.1 hp).2.2 u h1 u (by simp)
      omega
  termination_by us => us.length
end Go.Proofs.YtdpagklgjchdgaaGreat
