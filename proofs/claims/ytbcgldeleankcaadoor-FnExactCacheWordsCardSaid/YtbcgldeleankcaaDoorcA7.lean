/- Marks in strings. -/
import Derived.Test.YtbcgldeleankcaaDoorcHlp
import Derived.Test.YtbcgldeleankcaaDoorcA1
set_option linter.unusedSectionVars false
set_option linter.all false
set_option linter.unusedVariables false
set_option linter.unusedSimpArgs false
set_option maxRecDepth 100000
namespace Go.Proofs.YtbcgldeleankcaaDoor
open Go.Lft

def markByte (k : Nat) : UInt8 := UInt8.ofNat (48 + k % 10)
def markOut : Nat → Nat → S → S
  | 0, _, out => out
  | f + 1, k, out => if k = 0 then out else markOut f (k / 10) (markByte k :: out)
def markT (k : Nat) : S := 109 :: markOut k k []
theorem eq_markText (k : Nat) (h0 : 0 < k) (hk : k ≤ 4194304) : lim E 48 [.int .i64 k] = some (.str (markT k), []) := by
  have h0' : ¬ (k : Int) ≤ 0 := by omega
  refine lim_run (E := E) rfl Tryd.func48 rfl (by kernel_rfl) (by kernel_rfl) ?_
  simp [Tryd.f48, tmpAt]
  refine RB_dec ?_ ?_ <;> intro hz
  · omega
  simp
  refine loop_ind (fun m st => ∃ (j : Nat) (out : S), j ≤ m ∧ m ≤ k ∧ out.length + m ≤ k ∧ markOut m j out = markOut k k [] ∧ st.env 0 = .int .i64 j ∧ st.env 3 = .str out) k _ ?_ ?_
  · exact ⟨k, [], by simp⟩
  rintro m ⟨env, rs⟩ ⟨j, out, hj, hmk, ho, hm, e0, e3⟩ ih
  simp at e0 e3
  simp [e0, e3]
  by_cases hj0 : 0 < j
  · obtain ⟨m, rfl⟩ : ∃ m', m = m' + 1 := ⟨m - 1, by omega⟩
    simp only [markOut] at hm
    rw [if_neg (by omega)] at hm
    have tm : ((j : Int).tmod 10) = (j : Int) % 10 := Int.tmod_eq_emod_of_nonneg (by omega)
    have td : ((j : Int).tdiv 10) = (j : Int) / 10 := Int.tdiv_eq_ediv_of_nonneg (by omega)
    have w1 : IntKind.i64.wrap (48 + (j : Int) % 10) = 48 + (j : Int) % 10 := wrap_in (by omega) (by omega)
    have w2 : IntKind.u8.wrap (48 + (j : Int) % 10) = 48 + (j : Int) % 10 := by
      show (48 + (j : Int) % 10) % 256 = _
      omega
    have w3 : IntKind.i64.wrap ((j : Int) / 10) = (j : Int) / 10 := wrap_in (by omega) (by omega)
    have w4 : (48 + (j : Int) % 10).toNat = 48 + j % 10 := by omega
    have w5 : (UInt8.ofNat (48 + j % 10)) = markByte j := rfl
    simp [e0, e3, hj0, tm, td, w1, w2, w3, w4, w5]
    refine ⟨by simp [strMax]; omega, ih m _ (by omega) ⟨j / 10, markByte j :: out, by omega, by omega, by simp; omega, hm, ?_⟩⟩
    simp [e0, e3, tm, td, w1, w2, w3, w4, w5]
  · obtain rfl : j = 0 := by omega
    have hm : out = markOut k k [] := by rw [← hm]; cases m <;> simp [markOut]
    simp [e0, e3, markT, ← hm]
    simp [strMax]; omega
def marksL (n k : Nat) : List S := (List.range n).map fun i => markT (k + i)
theorem marksL_get (n k i : Nat) (h : i < (marksL n k).length) : (marksL n k)[i] = markT (k + i) := by simp [marksL]
@[simp] theorem marksL_length (n k : Nat) : (marksL n k).length = n := by simp [marksL]
theorem eq_markStringS (xs : List S) (k : Nat) (h0 : 0 < k) (hk : k ≤ 2097152) (hx : xs.length ≤ 1048576) : lim E 23 [.lst true 9 1 (xs.map .str), .int .i64 k] = some (.int .i64 (k + xs.length : Nat), [.lst true 9 1 ((marksL xs.length k).map .str)]) := by
  refine lim_run (E := E) rfl Tryd.func23 rfl (by kernel_rfl) (by kernel_rfl) ?_
  simp [Tryd.f23, tmpAt]
  refine loop_ind (fun m st => ∃ (i : Nat) (L : List S), i + m = xs.length ∧ L.length = xs.length ∧ (∀ j (h : j < L.length), j < i → L[j] = markT (k + j)) ∧ st.env 0 = .slc (0, 99) [] 0 xs.length ∧ st.env 1 = .int .i64 ↑(k + i) ∧ st.env 5 = .int .i64 i ∧ st.rs (0, 99) = some ⟨false, .lst true 9 1 (L.map .str)⟩) xs.length _ ?_ ?_
  · exact ⟨0, xs, by simp⟩
  rintro m ⟨env, rs⟩ ⟨i, L, hi, hL, hm, e0, e1, e5, r0⟩ ih
  simp at e0 e1 e5 r0
  have hu := wrap_up (show i < 4611686018427387904 by omega)
  have hw : IntKind.i64.wrap ((k : Int) + i + 1) = k + i + 1 := wrap_in (by omega) (by omega)
  have wm := eq_markText (k + i) (by omega) (by omega)
  simp at wm
  by_cases h : i < xs.length
  · simp [e0, e1, e5, r0, h, hL, hu, hw, wm]
    refine ih (m - 1) _ (by omega) ⟨i + 1, L.set i (markT (k + i)), by omega, by simp [hL], ?_, ?_⟩
    · intro j h1 h2
      by_cases hj : i = j
      · subst hj; simp
      · rw [List.getElem_set_ne hj]
        exact hm j _ (by omega)
    · simp [e0, e1, e5, r0, List.map_set]
      omega
  · have hLL : L = marksL xs.length k := by
      apply List.ext_getElem
      · simp [hL]
      · intro j h1 h2
        rw [marksL_get]
        exact hm j h1 (by omega)
    simp [e0, e1, e5, r0, h, hL, hLL]
    omega
theorem eq_heldStringS (n k : Nat) (b : Bool) (h0 : 0 < k) (hk : k ≤ 2097152) (hx : n ≤ 1048576) : lim E 24 [.lst false 9 1 ((marksL n k).map .str), .int .i64 k] = some (.int .i64 (k + n : Nat), []) := by
  refine lim_run (E := E) rfl Tryd.func24 rfl (by kernel_rfl) (by kernel_rfl) ?_
  simp [Tryd.f24, tmpAt]
  refine loop_ind (fun m st => ∃ (i : Nat), i + m = n ∧ st.env 0 = .lst false 9 1 ((marksL n k).map .str) ∧ st.env 1 = .int .i64 ↑(k + i) ∧ st.env 5 = .int .i64 i) n _ ?_ ?_
  · exact ⟨0, by simp⟩
  rintro m ⟨env, rs⟩ ⟨i, hi, e0, e1, e5⟩ ih
  simp at e0 e1 e5
  have hu := wrap_up (show i < 4611686018427387904 by omega)
  have hw : IntKind.i64.wrap ((k : Int) + i + 1) = k + i + 1 := wrap_in (by omega) (by omega)
  have wm := eq_markText (k + i) (by omega) (by omega)
  simp at wm
  by_cases h : i < n
  · simp [e0, e1, e5, h, hu, hw, wm, marksL_get]
    refine ih (m - 1) _ (by omega) ⟨i + 1, by omega, ?_⟩
    simp [e0, e1, e5]
    omega
  · obtain rfl : i = n := by omega
    simp [e0, e1, e5, h]
theorem eq_eqStringS' (xs ys : List S) (h1 : xs.length ≤ 1048576) : lim E 16 [.lst false 9 1 (xs.map .str), .lst false 9 1 (ys.map .str)] = some (.bool (decide (xs = ys)), []) := by
  refine lim_run (E := E) rfl Tryd.func16 rfl (by kernel_rfl) (by kernel_rfl) ?_
  simp [Tryd.f16, tmpAt]
  refine RB_ndec ?_ ?_ <;> intro hl
  · simp
    intro hc; subst hc; exact hl rfl
  · simp
    have hl : xs.length = ys.length := by omega
    refine loop_ind (fun m st => ∃ (i : Nat), i + m = xs.length ∧ xs.take i = ys.take i ∧ st.env 0 = .lst false 9 1 (xs.map .str) ∧ st.env 1 = .lst false 9 1 (ys.map .str) ∧ st.env 5 = .int .i64 i) xs.length _ ?_ ?_
    · exact ⟨0, by simp⟩
    rintro m ⟨env, rs⟩ ⟨i, hi, hs, e0, e1, e5⟩ ih
    simp at e0 e1 e5
    simp [e0, e1, e5]
    have hw := wrap_up (show i < 4611686018427387904 by omega)
    refine RB_dec ?_ ?_ <;> intro h
    · have h' : i < ys.length := by omega
      simp [e0, e1, e5, h, h']
      refine RB_ndec ?_ ?_ <;> intro h2 <;> simp [e0, e1, e5]
      · intro hc; subst hc; exact h2 rfl
      · refine ih (m - 1) _ (by omega) ⟨i + 1, ?_⟩
        simp [e0, e1, e5, hw]
        exact ⟨by omega, take_eq hs h h' h2⟩
    · simp [e0, e1, e5, h]
      exact take_all hs h hl
end Go.Proofs.YtbcgldeleankcaaDoor
