/- Commands: the reference's words. -/
import Derived.Test.YtoeadcefgpkdcaaDoorcB5
set_option linter.unusedSectionVars false
set_option linter.all false
set_option linter.unusedVariables false
set_option linter.unusedSimpArgs false
set_option maxRecDepth 100000
namespace Go.Proofs.YtoeadcefgpkdcaaDoor
open Go.Lft

theorem endCode_ne (t : S) (a : Nat) : ¬ endCode t a = 0 := by unfold endCode; split <;> simp
theorem wantM_ok (t : S) : ∀ (w : S) (a : Nat), (wantM t w a 0).2 = 0 → (wantM t w a 0).1 = a + w.length := by
  intro w
  induction w with
  | nil => intro a h; simp [wantM]
  | cons b w ih =>
    intro a h
    simp only [wantM, if_true] at h ⊢
    split at h
    · rename_i hb
      rw [if_pos hb, ih _ h]
      simp; omega
    · exact absurd h (endCode_ne t a)
/-- So many bytes stand as they are. -/
def tw : S → Nat
  | [] => 0
  | b :: l => if plainByte b = true then tw l + 1 else 0
theorem tw_le : ∀ l : S, tw l ≤ l.length := by
  intro l
  induction l with
  | nil => simp [tw]
  | cons b l ih => simp only [tw]; split <;> simp <;> omega
def snextLit (t : S) (r : Int × Int) : S × Int :=
  if r.2 ≤ 0 then ([], r.2) else if 300 < r.2 + r.1 + 2 then ([], -1) else if (t.length : Int) - r.2 < r.1 then ([], 0) else ((t.drop r.2.toNat).take r.1.toNat, r.2 + r.1)
def snextList (t : S) (a : Nat) (n : Int) : S × Int := if n ≤ 0 then ([], n) else ((t.drop a).take (n.toNat - a), n)
def snextPlain (t : S) (a : Nat) : S × Int := if tw (t.drop a) = 0 ∨ 60 < tw (t.drop a) then ([], -1) else ((t.drop a).take (tw (t.drop a)), ((a + tw (t.drop a) : Nat) : Int))
def snextM (t : S) (a : Nat) : S × Int :=
  if t.length ≤ a then ([], 0) else
  if isB t a 123 = true then snextLit t (slit t a) else
  if isB t a 34 = true then st t t.length (a + 1) [] else
  if isB t a 40 = true then snextList t a (sl (t.drop (a + 1)) (a + 1) 0 true) else snextPlain t a
theorem slit_le (t : S) (a : Nat) (ha : a < t.length) : 0 ≤ (slit t a).1 ∧ (slit t a).1 ≤ 999 ∧ -1 ≤ (slit t a).2 ∧ (slit t a).2 ≤ t.length := by
  unfold slit slitEnd
  have h1 := litL_num t 3 (a + 1) 0 (by simp) (by omega)
  have h2 := litL_le t 3 (a + 1) 0 (by omega)
  split
  · simp
  · split
    · rename_i h
      have h3 := wantM_ok t _ _ h
      have h4 := wantM_le t [125, 13, 10] (litL t 3 (a + 1) 0).1 0 h2.2
      simp at h3
      simp
      omega
    · split <;> simp
theorem sl_le : ∀ (l : S) (i n : Nat) (f : Bool), -1 ≤ sl l i n f ∧ sl l i n f ≤ i + l.length ∧ (0 < sl l i n f → (i : Int) < sl l i n f) := by
  intro l
  induction l with
  | nil => intro i n f; simp [sl]
  | cons b l ih =>
    intro i n f
    simp only [sl]
    split
    · split <;> simp <;> omega
    split
    · split
      · simp; omega
      · have := ih (i + 1) 0 false
        simp at this ⊢
        omega
    split
    · simp; omega
    · have := ih (i + 1) (n + 1) false
      simp at this ⊢
      omega
end Go.Proofs.YtoeadcefgpkdcaaDoor
