/- Commands: the reference's steps. -/
import Derived.Test.YtoeadcefgpkdcaaDoorcB3
set_option linter.unusedSectionVars false
set_option linter.all false
set_option linter.unusedVariables false
set_option linter.unusedSimpArgs false
set_option maxRecDepth 100000
namespace Go.Proofs.YtoeadcefgpkdcaaDoor
open Go.Lft

/-- The place behind a list: 0: more is to come, -1: there is none. -/
def sl : S → Nat → Nat → Bool → Int
  | [], _, _, _ => 0
  | b :: l, i, n, first =>
    if b = 41 then (if n = 0 ∧ first = false then -1 else i + 1)
    else if b = 32 then (if n = 0 then -1 else sl l (i + 1) 0 false)
    else if plainByte b = false ∨ n = 60 then -1
    else sl l (i + 1) (n + 1) false
theorem byteEq (b : UInt8) (k : Nat) (hk : k < 256) : b = UInt8.ofNat k ↔ (b.toNat : Int) = k := byte_val b k hk
set_option maxHeartbeats 2000000 in
theorem eq_l15List (t : S) (a : Nat) (ha : a < t.length) (ht : t.length ≤ 1048576) : lim E 42 [.str t, .int .i64 a] = some (.int .i64 (sl (t.drop (a + 1)) (a + 1) 0 true), []) := by
  have hv := wrap_up (show a < 4611686018427387904 by omega)
  refine lim_run (E := E) rfl Tryd.func42 rfl (by kernel_rfl) (by kernel_rfl) ?_
  simp [Tryd.f42, tmpAt, hv]
  refine loop_ind (fun m st => ∃ (p n : Nat), a + 1 ≤ p ∧ p + m = t.length ∧ n ≤ 60 ∧ sl (t.drop p) p n (decide (p = a + 1)) = sl (t.drop (a + 1)) (a + 1) 0 true ∧ st.env 0 = .str t ∧ st.env 1 = .int .i64 a ∧ st.env 5 = .int .i64 n ∧ st.env 6 = .int .i64 p) (t.length - (a + 1)) _ ?_ ?_
  · exact ⟨a + 1, 0, by simp; omega⟩
  rintro m ⟨env, rs⟩ ⟨p, n, hap, hpm, hn, hm, e0, e1, e5, e6⟩ ih
  simp at e0 e1 e5 e6
  have hw := wrap_up (show p < 4611686018427387904 by omega)
  have hwn := wrap_up (show n < 4611686018427387904 by omega)
  by_cases h : p < t.length
  · rw [drop_cons h] at hm
    simp only [sl] at hm
    have b41 := byteEq t[p] 41 (by omega)
    have b32 := byteEq t[p] 32 (by omega)
    simp at b41 b32
    have wp := eq_l15Byte t[p]
    by_cases h1 : t[p] = 41
    · have h1' := b41.1 h1
      rw [if_pos h1] at hm
      simp [e0, e1, e5, e6, h, h1', tmpAt]
      by_cases h2 : n = 0
      · subst h2
        by_cases h3 : p = a + 1
        · simp [h3] at hm
          simp [e0, e1, e5, e6, h, h3, tmpAt, hv]
          rw [← hm]
          exact wrap_in (by omega) (by omega)
        · simp [h3] at hm
          have h4 : (a : Int) + 1 < p := by omega
          simp [e0, e1, e5, e6, h, h4, tmpAt, hv, hm]
      · simp [h2] at hm
        simp [e0, e1, e5, e6, h, h2, tmpAt, hv, hw, ← hm]
    rw [if_neg h1] at hm
    have h1' : ¬ (t[p].toNat : Int) = 41 := fun h => h1 (b41.2 h)
    by_cases h5 : t[p] = 32
    · have h5' := b32.1 h5
      rw [if_pos h5] at hm
      by_cases h2 : n = 0
      · simp [h2] at hm
        simp [e0, e1, e5, e6, h, h1', h5', h2, tmpAt, hv, hw, ← hm]
      · simp [h2] at hm
        simp [e0, e1, e5, e6, h, h1', h5', h2, tmpAt, hv, hw]
        refine ih (m - 1) _ (by omega) ⟨p + 1, 0, by omega, by omega, by omega, ?_, ?_⟩
        · rw [← hm]; congr 1; simp; omega
        · simp [e0, e1, e5, e6]
    rw [if_neg h5] at hm
    have h5' : ¬ (t[p].toNat : Int) = 32 := fun h => h5 (b32.2 h)
    cases hb : plainByte t[p]
    · simp [hb] at hm
      simp [e0, e1, e5, e6, h, h1', h5', tmpAt, wp, hb, hv, hw, ← hm]
    · by_cases h60 : n = 60
      · simp [hb, h60] at hm
        simp [e0, e1, e5, e6, h, h1', h5', tmpAt, wp, hb, h60, hv, hw, ← hm]
      · simp [hb, h60] at hm
        have h60' : ¬ (n : Int) = 60 := by omega
        simp [e0, e1, e5, e6, h, h1', h5', tmpAt, wp, hb, h60, h60', hv, hw, hwn]
        refine ih (m - 1) _ (by omega) ⟨p + 1, n + 1, by omega, by omega, by omega, ?_, ?_⟩
        · rw [← hm]; congr 1; simp; omega
        · simp [e0, e1, e5, e6]
  · rw [List.drop_eq_nil_of_le (by omega)] at hm
    simp [sl] at hm
    simp [e0, e1, e5, e6, h, ← hm]
/-- The text in marks, as the reference reads it. -/
def st (t : S) : Nat → Nat → S → S × Int
  | 0, _, _ => ([], 0)
  | f + 1, i, out => match t[i]? with
    | none => ([], 0)
    | some b =>
      if b = 34 then (out, i + 1)
      else if within b.toNat 32 126 = false then ([], -1)
      else if b = 92 then (match t[i + 1]? with
        | none => ([], 0)
        | some c => if c = 34 ∨ c = 92 then st t f (i + 2) (out ++ [c]) else ([], -1))
      else st t f (i + 1) (out ++ [b])
theorem within_def (b : UInt8) : within b.toNat 32 126 = false ↔ ((b.toNat : Int) < 32 ∨ (126 : Int) < b.toNat) := by
  simp [within]; omega
/-- A literal's head, as the reference reads it. -/
def slitEnd (t : S) (n i : Nat) (r : Nat × Int) : Int × Int := if r.2 = 0 then ((n : Int), (i : Int) + 3) else (0, if r.2 = 1 then 0 else -1)
def slit (t : S) (a : Nat) : Int × Int :=
  if (litL t 3 (a + 1) 0).1 < t.length ∧ (litL t 3 (a + 1) 0).1 = a + 1 then (0, -1) else
  slitEnd t (litL t 3 (a + 1) 0).2 (litL t 3 (a + 1) 0).1 (wantM t [125, 13, 10] (litL t 3 (a + 1) 0).1 0)
end Go.Proofs.YtoeadcefgpkdcaaDoor
