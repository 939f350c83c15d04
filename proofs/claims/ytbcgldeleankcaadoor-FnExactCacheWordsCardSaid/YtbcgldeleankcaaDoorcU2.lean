/- Commands: pieces of Go's library that lists of words lean on: CutPrefix, CutSuffix, Index, Count, Split at a blank. -/
import Derived.Test.YtbcgldeleankcaaDoorcU1
set_option linter.unusedSectionVars false
set_option linter.all false
set_option linter.unusedVariables false
set_option linter.unusedSimpArgs false
set_option maxRecDepth 100000
namespace Go.Proofs.YtbcgldeleankcaaDoor
open Go.Lft

def splitL : S → List S
  | [] => [[]]
  | b :: l => if b = 32 then [] :: splitL l else match splitL l with
    | p :: ps => (b :: p) :: ps
    | [] => [[b]]
theorem splitL_ne (l : S) : ∃ p ps, splitL l = p :: ps := by
  induction l with
  | nil => exact ⟨[], [], rfl⟩
  | cons b l ih =>
    obtain ⟨p, ps, h⟩ := ih
    simp only [splitL]
    split
    · exact ⟨_, _, rfl⟩
    · rw [h]; exact ⟨_, _, rfl⟩
/-! ### Where the first blank stands -/
theorem index_at : ∀ (l : S), 0 ≤ Go.Lib.indexByte l 32 → Go.Lib.indexByte l 32 < l.length ∧ splitL l = l.take (Go.Lib.indexByte l 32).toNat :: splitL (l.drop ((Go.Lib.indexByte l 32).toNat + 1)) ∧ l.count 32 = (l.drop ((Go.Lib.indexByte l 32).toNat + 1)).count 32 + 1 := by
  intro l
  induction l with
  | nil => intro h; simp [Go.Lib.indexByte] at h
  | cons b l ih =>
    intro h
    unfold Go.Lib.indexByte at h ⊢
    by_cases hb : (b == 32) = true
    · simp only [hb, if_true]
      have : b = 32 := by simpa using hb
      subst this
      refine ⟨by simp, by simp [splitL], by simp⟩
    · simp only [hb, Bool.false_eq_true, if_false] at h ⊢
      by_cases h1 : (Go.Lib.indexByte l 32 == -1) = true
      · simp only [h1, if_true] at h; omega
      · simp only [h1, Bool.false_eq_true, if_false] at h ⊢
        have h2 := Go.Lib.indexByte_ge l 32
        have h3 : Go.Lib.indexByte l 32 ≠ -1 := by simpa using h1
        obtain ⟨i1, i2, i3⟩ := ih (by omega)
        have hne : ¬ b = 32 := by simpa using hb
        have e : (Go.Lib.indexByte l 32 + 1).toNat = (Go.Lib.indexByte l 32).toNat + 1 := by omega
        rw [e]
        refine ⟨by simp; omega, ?_, ?_⟩
        · simp only [splitL, hne, if_false, List.take_succ_cons, List.drop_succ_cons]
          rw [i2]
        · rw [List.count_cons, List.drop_succ_cons, i3]; simp [hne]
theorem index_none : ∀ (l : S), Go.Lib.indexByte l 32 < 0 → l.count 32 = 0 := by
  intro l
  induction l with
  | nil => intro _; rfl
  | cons b l ih =>
    intro h
    unfold Go.Lib.indexByte at h
    by_cases hb : (b == 32) = true
    · simp only [hb, if_true] at h; omega
    · simp only [hb, Bool.false_eq_true, if_false] at h
      have h2 := Go.Lib.indexByte_ge l 32
      by_cases h1 : (Go.Lib.indexByte l 32 == -1) = true
      · have : Go.Lib.indexByte l 32 = -1 := by simpa using h1
        rw [List.count_cons, ih (by omega)]; simp; simpa using hb
      · simp only [h1, Bool.false_eq_true, if_false] at h
        have h3 : Go.Lib.indexByte l 32 ≠ -1 := by simpa using h1
        omega
theorem split_none : ∀ (l : S), l.count 32 = 0 → splitL l = [l] := by
  intro l
  induction l with
  | nil => intro _; rfl
  | cons b l ih =>
    intro h
    have hb : ¬ b = 32 := by rintro rfl; simp at h
    have hl : l.count 32 = 0 := by rw [List.count_cons] at h; omega
    simp [splitL, hb, ih hl]
theorem split_len : ∀ (l : S), (splitL l).length = l.count 32 + 1 := by
  intro l
  induction l with
  | nil => rfl
  | cons b l ih =>
    obtain ⟨p, ps, h⟩ := splitL_ne l
    by_cases hb : b = 32
    · subst hb; simp [splitL, ih]
    · rw [h] at ih
      simp only [splitL, hb, if_false, h, List.count_cons]
      simp [hb] at ih ⊢
      exact ih
@[simp] theorem eq_HasPrefix (s : S) (b : UInt8) : lim E 99 [.str s, .str [b]] = some (.bool (decide (s.head? = some b)), []) := by
  rcases s with _ | ⟨x, l⟩
  · refine lim_run (E := E) rfl Tryd.func99 rfl (by kernel_rfl) (by kernel_rfl) ?_
    simp [Tryd.f99, tmpAt]
  · have h1 : (1 : Int) ≤ (l.length : Int) + 1 := by omega
    refine lim_run (E := E) rfl Tryd.func99 rfl (by kernel_rfl) (by kernel_rfl) ?_
    simp [Tryd.f99, tmpAt, h1]
@[simp] theorem eq_HasSuffix (s : S) (b : UInt8) (hl : s.length ≤ 1048576) : lim E 100 [.str s, .str [b]] = some (.bool (decide (s.getLast? = some b)), []) := by
  rcases List.eq_nil_or_concat s with rfl | ⟨l, x, rfl⟩
  · refine lim_run (E := E) rfl Tryd.func100 rfl (by kernel_rfl) (by kernel_rfl) ?_
    simp [Tryd.f100, tmpAt]
  · have h1 : (1 : Int) ≤ (l.length : Int) + 1 := by omega
    have hw : IntKind.i64.wrap (l.length : Int) = (l.length : Int) := by rw [wrap_in (by omega) (by simp at hl; omega)]
    refine lim_run (E := E) rfl Tryd.func100 rfl (by kernel_rfl) (by kernel_rfl) ?_
    simp [Tryd.f100, tmpAt, h1, hw]
theorem eq_slIndex (s : S) : lim E 112 [.str s, .str [32]] = some (.int .i64 (Go.Lib.indexByte s 32), []) := by
  by_cases h : [32] = s
  · subst h
    refine lim_run (E := E) rfl Tryd.func112 rfl (by kernel_rfl) (by kernel_rfl) ?_
    simp [Tryd.f112, tmpAt]
    decide
  · refine lim_run (E := E) rfl Tryd.func112 rfl (by kernel_rfl) (by kernel_rfl) ?_
    simp [Tryd.f112, tmpAt, h]
theorem eq_Index (s : S) : lim E 103 [.str s, .str [32]] = some (.int .i64 (Go.Lib.indexByte s 32), []) := by
  have w := eq_slIndex s
  refine lim_run (E := E) rfl Tryd.func103 rfl (by kernel_rfl) (by kernel_rfl) ?_
  simp [Tryd.f103, tmpAt, w]
theorem eq_CountString (s : S) (c : Int) : lim E 111 [.str s, .int .u8 c] = some (.int .i64 (Go.Lib.countByte s c.toNat.toUInt8), []) := by
  rw [lim_ext ext111]
  simp [extCount]
theorem eq_Count (s : S) : lim E 102 [.str s, .str [32]] = some (.int .i64 (s.count 32 : Nat), []) := by
  have w := eq_CountString s 32
  try simp at w
  refine lim_run (E := E) rfl Tryd.func102 rfl (by kernel_rfl) (by kernel_rfl) ?_
  simp [Tryd.f102, tmpAt, w]
  rfl
end Go.Proofs.YtbcgldeleankcaaDoor
