/- Plain law: what is expunged of all. -/
import Derived.Test.YtomeglmblhfafaaGreatDoorcD15
import Derived.Test.YtomeglmblhfafaaGreatDoorcE4
import Derived.Test.YtomeglmblhfafaaGreatDoorcV1
set_option linter.unusedSectionVars false
set_option linter.all false
set_option linter.unusedVariables false
set_option linter.unusedSimpArgs false
set_option maxRecDepth 100000
namespace Go.Proofs.YtomeglmblhfafaaGreatDoor
open Go.Lft

theorem and_fin : ∀ a b : Fin 32, Go.Lft.Set.bAnd .i64 (a.val : Int) (b.val : Int) = andI (a.val : Int) (b.val : Int) := of_decide_eq_true (by kernel_rfl)
theorem and8 {a : Int} (h : within a 0 31 = true) : Go.Lft.Set.bAnd .i64 a 8 = andI a 8 := by
  obtain ⟨n, rfl⟩ := within31 h
  exact and_fin n 8
theorem andI_nn (a b : Int) : 0 ≤ andI a b := by unfold andI; omega
@[simp] theorem isAgg_ptr (r : Rid) (p : List Stp) : Go.Lft.isAgg (.ptr r p) = false := rfl
/-! ### What is given up -/
theorem up_drop {t : Tomb} : ∀ {r : List Tomb}, r.Pairwise (fun a c => a.mod ≤ c.mod) → (∀ x ∈ r, t.mod ≤ x.mod) → r.filter (fun x => !decide (x.mod = t.mod)) = r.dropWhile (fun x => decide (x.mod ≤ t.mod))
  | [], _, _ => rfl
  | x :: r, hp, hx => by
    rw [List.pairwise_cons] at hp
    have h1 := hx x (List.mem_cons_self ..)
    by_cases h : x.mod = t.mod
    · rw [List.filter_cons_of_neg (by simp [h]), List.dropWhile_cons_of_pos (by simp [h])]
      exact up_drop hp.2 fun y hy => hx y (List.mem_cons_of_mem _ hy)
    · rw [List.filter_cons_of_pos (by simp [h]), List.dropWhile_cons_of_neg (by simp; omega)]
      congr 1
      rw [List.filter_eq_self]
      intro y hy
      have := hp.1 y hy
      simp; omega
theorem up_drop' {t : Tomb} {r : List Tomb} (h : (t :: r).Pairwise (fun a c => a.mod ≤ c.mod)) : (t :: r).filter (fun x => !decide (x.mod = t.mod)) = (t :: r).dropWhile (fun x => decide (x.mod ≤ t.mod)) := by
  refine up_drop h fun x hx => ?_
  rcases List.mem_cons.1 hx with rfl | hx
  · exact Int.le_refl _
  · exact (List.pairwise_cons.1 h).1 x hx
theorem tombs_up {b : Box} (hok : boxOk b = true) (s : List Range) : (b.tombs ++ goneT b s b.mails).Pairwise (fun a c => a.mod ≤ c.mod) := by
  obtain ⟨_, _, _, _, _, _, _, _, d1, d2, _, _⟩ := (boxOk_iff b).1 hok
  rw [List.pairwise_append]
  have hg : ∀ x ∈ goneT b s b.mails, x.mod = b.mod + 1 := by
    intro x hx
    simp only [goneT, List.mem_map] at hx
    obtain ⟨m, _, rfl⟩ := hx
    rfl
  refine ⟨d2.imp fun {a c} h => by unfold tombLt at h; omega, ?_, fun a ha c hc => ?_⟩
  · have : ∀ l : List Tomb, (∀ x ∈ l, x.mod = b.mod + 1) → l.Pairwise (fun a c => a.mod ≤ c.mod) := by
      intro l
      induction l with
      | nil => intro _; exact List.Pairwise.nil
      | cons x l ih =>
        intro h
        refine List.Pairwise.cons (fun y hy => ?_) (ih fun y hy => h y (List.mem_cons_of_mem _ hy))
        have := h x (List.mem_cons_self ..); have := h y (List.mem_cons_of_mem _ hy); omega
    exact this _ hg
  · have := hg c hc
    have := (d1 a ha).2.2.2.1
    omega
theorem setOfL_nil {us : List Int} (hp : us.Pairwise (· < ·)) (hb : ∀ u ∈ us, 1 ≤ u ∧ u ≤ 9999) : setOfL us = [] ↔ us = [] := by
  constructor
  · intro h
    have := (setOfL_ok us hp hb).2.1
    rw [h] at this
    simp only [lastHi] at this
    exact List.getLast?_eq_none_iff.1 this.symm
  · rintro rfl; rfl
end Go.Proofs.YtomeglmblhfafaaGreatDoor

set_option linter.unusedVariables false
set_option linter.unusedSimpArgs false
set_option maxRecDepth 100000
namespace Go.Proofs.YtomeglmblhfafaaGreatDoor
open Go.Lft

theorem bit8_fin : ∀ a : Fin 32, decide (0 < andI (a.val : Int) 8) = decide (((a.val : Int).tdiv 8).tmod 2 = 1) := of_decide_eq_true (by kernel_rfl)
theorem gone_all {m : Mail} (h1 : 1 ≤ m.uid) (h2 : m.uid ≤ 9999) (hf : within m.flags 0 31 = true) : isGone [⟨1, 9999⟩] m = decide ((m.flags.tdiv 8).tmod 2 = 1) := by
  obtain ⟨n, hn⟩ := within31 hf
  have := bit8_fin n
  rw [← hn] at this
  unfold isGone
  rw [this]
  have : setHas [⟨1, 9999⟩] m.uid = true := by simp [setHas, within, h1, h2]
  rw [this, Bool.true_and]
theorem sumS_snoc_one (s : List Range) (n : Int) (h : lastHi none s ≠ some n) : sumS (setSnoc s n) = sumS s + 1 := by
  rcases last_dec s with rfl | ⟨l, r, rfl⟩
  · simp [setSnoc_nil, sumS]
  · rw [setSnoc_snoc]
    split
    · rename_i hc
      rw [sumS_snoc, sumS_snoc]; simp only; omega
    · rw [sumS_snoc]; simp only; omega
theorem sumS_ofL : ∀ us : List Int, us.Pairwise (· < ·) → (∀ u ∈ us, 1 ≤ u ∧ u ≤ 9999) → sumS (setOfL us) = us.length := by
  intro us
  rcases last_dec us with rfl | ⟨l, u, rfl⟩
  · intro _ _; rfl
  · intro hp hb
    have hlen : l.length < (l ++ [u]).length := by simp
    have hp' := (List.pairwise_append.1 hp).1
    have hb' : ∀ x ∈ l, 1 ≤ x ∧ x ≤ 9999 := fun x hx => hb x (by simp [hx])
    have ih := sumS_ofL l hp' hb'
    have hl := (setOfL_ok l hp' hb').2.1
    rw [setOfL_snoc, sumS_snoc_one, ih]
    · simp
    · rw [hl]
      intro hc
      have h1 : u ∈ l := List.mem_of_getLast? hc
      have := (List.pairwise_append.1 hp).2.2 u h1 u (by simp)
      omega
  termination_by us => us.length
end Go.Proofs.YtomeglmblhfafaaGreatDoor
