/- Flags, numbers, names of boxes, CacheOk: of the program and of the reference. -/
import Derived.Test.YtomeglmblhfafaaGreatDoorcA1
set_option linter.unusedSectionVars false
set_option linter.all false
set_option linter.unusedVariables false
set_option linter.unusedSimpArgs false
set_option maxRecDepth 100000
namespace Go.Proofs.YtomeglmblhfafaaGreatDoor
open Go.Lft

/-- The one ahead. -/
def prevOf {α : Type} (xs : List α) (i : Nat) : Option α := if i = 0 then none else xs[i - 1]?

@[simp] theorem eq_isUid (a : Int) : lim E 89 [.int .i64 a] = some (.bool (within a 1 9999), []) := by
  refine lim_run (E := E) rfl Tryz.func89 rfl (by kernel_rfl) (by kernel_rfl) ?_
  simp [Tryz.f89, tmpAt]
@[simp] theorem eq_FlagsOk (a : Int) : lim E 90 [.int .i64 a] = some (.bool (within a 0 31), []) := by
  refine lim_run (E := E) rfl Tryz.func90 rfl (by kernel_rfl) (by kernel_rfl) ?_
  simp [Tryz.f90, tmpAt]
@[simp] theorem eq_sFlagsOk (a : Int) : lim E 92 [.int .i64 a] = some (.bool (within a 0 31), []) := by
  refine lim_run (E := E) rfl Tryz.func92 rfl (by kernel_rfl) (by kernel_rfl) ?_
  simp [Tryz.f92, tmpAt]
def lower (b : UInt8) : Bool := decide (97 ≤ b.toNat) && decide (b.toNat ≤ 122)
def boxName (s : S) : Bool := s.all lower && within s.length 1 8
theorem wrap_byte (b : UInt8) : IntKind.i64.wrap (b.toNat : Int) = b.toNat := by
  have := b.toNat_lt
  exact wrap_in (by omega) (by omega)
theorem lower_within (b : UInt8) : within (b.toNat : Int) 97 122 = lower b := by
  unfold within lower
  congr 1 <;> simp <;> omega
theorem eq_BoxName (s : S) (hl : s.length ≤ 16777216) : lim E 65 [.str s] = some (.bool (boxName s), []) := by
  refine lim_run (E := E) rfl Tryz.func65 rfl (by kernel_rfl) (by kernel_rfl) ?_
  simp [Tryz.f65, tmpAt]
  refine loop_ind (fun m st => ∃ i : Nat, i + m = s.length ∧ (s.take i).all lower = true ∧ st.env 0 = .str s ∧ st.env 5 = .int .i64 s.length ∧ st.env 6 = .int .i64 i) s.length _ ?_ ?_
  · exact ⟨0, by simp⟩
  rintro m ⟨env, rs⟩ ⟨i, hi, ha, e0, e5, e6⟩ ih
  have hu := wrap_up (show i < 4611686018427387904 by omega)
  simp at e0 e5 e6
  simp [e0, e5, e6]
  refine RB_dec ?_ ?_ <;> intro h
  · simp [e0, e5, e6, h, wrap_byte, lower_within]
    cases hb : lower s[i]
    · have hb := all_bad (f := lower) h hb
      simp [boxName, hb]
    · simp [e0, e5, e6, h, hu]
      refine ih (m - 1) _ (by omega) ⟨i + 1, by omega, all_next h ha hb, ?_⟩
      simp [e0, e5, e6]
  · have hb := all_take h ha
    simp [e0, e5, e6, h, boxName, hb]
theorem eq_sBoxName (s : S) (hl : s.length ≤ 16777216) : lim E 93 [.str s] = some (.bool (boxName s), []) := by
  refine lim_run (E := E) rfl Tryz.func93 rfl (by kernel_rfl) (by kernel_rfl) ?_
  simp [Tryz.f93, tmpAt]
  refine loop_ind (fun m st => ∃ i : Nat, i + m = s.length ∧ (s.take i).all lower = true ∧ st.env 0 = .str s ∧ st.env 3 = .int .i64 i) s.length _ ?_ ?_
  · exact ⟨0, by simp⟩
  rintro m ⟨env, rs⟩ ⟨i, hi, ha, e0, e3⟩ ih
  have hu := wrap_up (show i < 4611686018427387904 by omega)
  simp at e0 e3
  simp [e0, e3]
  refine RB_dec ?_ ?_ <;> intro h
  · simp [e0, e3, h, tmpAt]
    cases hb : lower s[i]
    · have hx := hb
      simp [lower] at hx
      have hb := all_bad (f := lower) h hb
      refine RG_dec ?_ ?_ <;> intro h1 <;> simp [tmpAt, h1, e0, e3, h]
      · simp [boxName, hb]
      · have : ((122 : Int) < (s[i].toNat : Int)) := by omega
        simp [this, boxName, hb]
    · have hx := hb
      simp [lower] at hx
      have h1 : ¬ ((s[i].toNat : Int) < 97) := by omega
      have h2 : ¬ ((122 : Int) < (s[i].toNat : Int)) := by omega
      refine RG_dec ?_ ?_ <;> intro h3 <;> simp [tmpAt, h1, h2, e0, e3, h, hu]
      · exact absurd h3 h1
      refine ih (m - 1) _ (by omega) ⟨i + 1, by omega, all_next h ha hb, ?_⟩
      simp [e0, e3]
  · have hb := all_take h ha
    simp [e0, e3, h, boxName, hb]
end Go.Proofs.YtomeglmblhfafaaGreatDoor
