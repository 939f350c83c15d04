/- Commands: the program's ReadCommand. -/
import Derived.Test.YtbcgldeleankcaaDoorcB3
set_option linter.unusedSectionVars false
set_option linter.all false
set_option linter.unusedVariables false
set_option linter.unusedSimpArgs false
set_option maxRecDepth 100000
namespace Go.Proofs.YtbcgldeleankcaaDoor
open Go.Lft

theorem wordM_le (t : S) (a : Nat) (k : Int) (h : a ≤ t.length) : a ≤ (wordM t a k).2.1 ∧ (wordM t a k).2.1 ≤ t.length := by
  unfold wordM
  split
  · have h1 := listAll_le t a k h
    have h2 := wantM_le t [41] (listAll t a k).1 (listAll t a k).2 h1.2
    unfold listM
    split <;> simp <;> omega
  split
  · have h1 := wantM_le t [34] a k h
    have key : ∀ (f p : Nat) (out : S) (k : Int), p ≤ t.length → p ≤ (markM t k f p out).2.1 ∧ (markM t k f p out).2.1 ≤ t.length := by
      intro f
      induction f with
      | zero => intro p out k hp; simp [markM, hp]
      | succ f ih =>
        intro p out k hp
        simp only [markM]
        split
        · rename_i h3
          have := isB_lt h3
          simp; omega
        split
        · rename_i h3
          have h4 := isB_lt h3
          split
          · rename_i h5
            have h6 := isB_lt h5
            have := ih (p + 2) (out ++ [34]) k (by omega)
            omega
          split
          · rename_i h5
            have h6 := isB_lt h5
            have := ih (p + 2) (out ++ [92]) k (by omega)
            omega
          · simp; omega
        split
        · rename_i b hb
          have h1 := (List.getElem?_eq_some_iff.1 hb).1
          split
          · have := ih (p + 1) (out ++ [b]) k (by omega)
            omega
          · simp; omega
        · simp; omega
    have := key (t.length + 1) (wantM t [34] a k).1 [] (wantM t [34] a k).2 h1.2
    unfold markedM
    omega
  split
  · have h1 := wantM_le t [123] a k h
    have h2 := litL_le t 3 (wantM t [123] a k).1 0 h1.2
    have h3 := wantM_le t [125, 13, 10] (litL t 3 (wantM t [123] a k).1 0).1 (wantM t [123] a k).2 h2.2
    unfold litM litTail
    split
    · simp; omega
    split
    · split
      · simp; omega
      split
      · simp; omega
      · simp; omega
    · simp; omega
  · exact plainM_le t a k h
def readPos (t : S) (ws : List S) (a : Nat) : Nat := if isB t a 32 = true ∧ 0 < ws.length then a + 1 else a
def readLoop (t : S) : Nat → List S → Nat → Int → Bool → List S × Nat × Int
  | 0, ws, a, k, _ => (ws, a, k)
  | f + 1, ws, a, k, more =>
    if more = true ∧ k = 0 then
      (if ws.length = 12 then (ws, a, 2) else
        readLoop t f (ws ++ [(wordM t (readPos t ws a) 0).1]) (wordM t (readPos t ws a) 0).2.1 (wordM t (readPos t ws a) 0).2.2 (isB t (wordM t (readPos t ws a) 0).2.1 32))
    else (ws, a, k)
def readEnd (t : S) (r : List S × Nat × Int) : Nat × Int := if r.2.2 = 0 then wantM t [13, 10] r.2.1 0 else r.2
def readCode (t : S) (r : Nat × Int) : Int := if (r.2 = 1 ∧ 300 ≤ t.length) ∨ (r.2 = 0 ∧ 300 < r.1) then 2 else r.2
def readM (t : S) : List S × Nat × Int :=
  if readCode t (readEnd t (readLoop t 13 [] 0 0 true)) = 0 then ((readLoop t 13 [] 0 0 true).1, (readEnd t (readLoop t 13 [] 0 0 true)).1, 0) else ([], 0, readCode t (readEnd t (readLoop t 13 [] 0 0 true)))
set_option maxHeartbeats 4000000 in
theorem eq_ReadCommand (t : S) (ht : t.length ≤ 1048576) : lim E 8 [.str t] = some (.tup [.lst true 9 1 ((readM t).1.map .str), .int .i64 (readM t).2.1, .int .i64 (readM t).2.2], []) := by
  refine lim_run (E := E) rfl Tryd.func8 rfl (by kernel_rfl) (by kernel_rfl) ?_
  simp [Tryd.f8, tmpAt]
  refine loop_ind (fun m st => ∃ (ws : List S) (p : Nat) (j : Int) (more : Bool) (r : Nat), p ≤ t.length ∧ ws.length + m = 13 ∧ ws.length ≤ 12 ∧ readLoop t m ws p j more = readLoop t 13 [] 0 0 true ∧ (r = 12 ∨ r = 48) ∧ st.env 0 = .str t ∧ st.env 5 = .ptr (11, 0) [] ∧ st.env 6 = .slc (r, 0) [] 0 ws.length ∧ st.env 7 = .bool more ∧ st.rs (11, 0) = some ⟨true, .agg [.str t, .int .i64 p, .int .i64 j]⟩ ∧ st.rs (r, 0) = some ⟨false, .lst true 9 1 (ws.map .str)⟩) 13 _ ?_ ?_
  · exact ⟨[], 0, 0, true, 12, by simp⟩
  rintro m ⟨env, rs⟩ ⟨ws, p, j, more, r, hpt, hwm, hw12, hm, hr, e0, e5, e6, e7, r0, r1⟩ ih
  simp at e0 e5 e6 e7 r0 r1
  have hv := wrap_up (show p < 4611686018427387904 by omega)
  simp [e0, e5, e6, e7, r0, r1, tmpAt]
  obtain ⟨m, rfl⟩ : ∃ m', m = m' + 1 := ⟨m - 1, by omega⟩
  simp only [readLoop] at hm
  have tail : ∀ j' : Int, (ws, p, j') = readLoop t 13 [] 0 0 true → readM t = if readCode t (readEnd t (ws, p, j')) = 0 then (ws, (readEnd t (ws, p, j')).1, 0) else ([], 0, readCode t (readEnd t (ws, p, j'))) := by
    intro j' h
    unfold readM
    rw [← h]
  by_cases hgo : more = true ∧ j = 0
  · obtain ⟨rfl, rfl⟩ := hgo
    have wi := eq_is t p 0 32 (by omega) ht
    simp [cmd] at wi
    by_cases h12 : ws.length = 12
    · have h13 : (ws.length : Int) = 12 := by omega
      simp [h12] at hm
      have tl := tail 2 hm
      simp [readEnd, readCode] at tl
      rcases hr with rfl | rfl
      all_goals
        simp [e0, e5, e6, e7, r0, r1, tmpAt, h12, h13, wi, tl]
    · have h13 : ¬ (ws.length : Int) = 12 := by omega
      simp only [h12, if_false, true_and, if_true] at hm
      have l1 : readPos t ws p ≤ t.length := by
        unfold readPos; split
        · rename_i h; have := isB_lt h.1; omega
        · omega
      have ww := eq_word t (readPos t ws p) 0 l1 ht
      have l2 := wordM_le t (readPos t ws p) 0 l1
      have wj := eq_is t (wordM t (readPos t ws p) 0).2.1 (wordM t (readPos t ws p) 0).2.2 32 (by omega) ht
      simp [cmd] at ww wj
      by_cases hsp : isB t p 32 = true ∧ 0 < ws.length
      · have hp : readPos t ws p = p + 1 := by unfold readPos; rw [if_pos hsp]
        rw [hp] at ww wj hm l2 l1
        simp at ww
        have h14 : ¬ ws = [] := by intro h; subst h; simp at hsp
        rcases hr with rfl | rfl
        all_goals
          simp [e0, e5, e6, e7, r0, r1, tmpAt, h12, h13, wi, hsp, hv, ww, wj, h14]
          refine ⟨by omega, ih m _ (by omega) ⟨ws ++ [(wordM t (p + 1) 0).1], (wordM t (p + 1) 0).2.1, (wordM t (p + 1) 0).2.2, isB t (wordM t (p + 1) 0).2.1 32, 48, l2.2, by simp; omega, by simp; omega, hm, Or.inr rfl, ?_⟩⟩
          simp [e0, e5, e6, e7, r0, r1, tmpAt]
      · have hp : readPos t ws p = p := by unfold readPos; rw [if_neg hsp]
        rw [hp] at ww wj hm l2 l1
        rcases hr with rfl | rfl
        all_goals
          cases hb : isB t p 32
          · simp [e0, e5, e6, e7, r0, r1, tmpAt, h12, h13, wi, hb, ww, wj]
            refine ⟨by omega, ih m _ (by omega) ⟨ws ++ [(wordM t p 0).1], (wordM t p 0).2.1, (wordM t p 0).2.2, isB t (wordM t p 0).2.1 32, 48, l2.2, by simp; omega, by simp; omega, hm, Or.inr rfl, ?_⟩⟩
            simp [e0, e5, e6, e7, r0, r1, tmpAt]
          · have h14 : ¬ 0 < ws.length := fun h => hsp ⟨hb, h⟩
            simp [e0, e5, e6, e7, r0, r1, tmpAt, h12, h13, wi, hb, ww, wj, h14]
            refine ⟨by omega, ih m _ (by omega) ⟨ws ++ [(wordM t p 0).1], (wordM t p 0).2.1, (wordM t p 0).2.2, isB t (wordM t p 0).2.1 32, 48, l2.2, by simp; omega, by simp; omega, hm, Or.inr rfl, ?_⟩⟩
            simp [e0, e5, e6, e7, r0, r1, tmpAt]
  · rw [if_neg (by simpa using hgo)] at hm
    have tl := tail j hm
    have hmj : more = false ∨ (more = true ∧ ¬ j = 0) := by cases more <;> simp at hgo <;> simp [hgo]
    have wt := eq_want t [13, 10] p 0 (by omega) ht (by simp)
    simp [cmd] at wt
    clear ih hm tail hgo
    have fin : ∀ q c, readM t = (if readCode t (q, c) = 0 then (ws, q, 0) else ([], 0, readCode t (q, c))) → (c = 1 ∧ 300 ≤ t.length ∧ readM t = ([], 0, 2)) ∨ (c = 1 ∧ ¬ 300 ≤ t.length ∧ readM t = ([], 0, 1)) ∨ (c = 0 ∧ 300 < q ∧ readM t = ([], 0, 2)) ∨ (c = 0 ∧ ¬ 300 < q ∧ readM t = (ws, q, 0)) ∨ (¬ c = 0 ∧ ¬ c = 1 ∧ readM t = ([], 0, c)) := by
      intro q c h
      rw [h]
      unfold readCode
      by_cases h1 : c = 1
      · subst h1; by_cases h2 : 300 ≤ t.length <;> simp [h2]
      by_cases h0 : c = 0
      · subst h0; by_cases h2 : 300 < q <;> simp [h2]
      · simp [h0, h1]
    by_cases hj : j = 0
    · subst hj
      have hmf : more = false := by simpa using hmj
      subst hmf
      have tl : readM t = if readCode t (wantM t [13, 10] p 0) = 0 then (ws, (wantM t [13, 10] p 0).1, 0) else ([], 0, readCode t (wantM t [13, 10] p 0)) := by simpa [readEnd] using tl
      generalize wantM t [13, 10] p 0 = qc at tl wt
      obtain ⟨q, c⟩ := qc
      simp only at wt
      have tl := fin q c tl
      rcases tl with ⟨h1, h2, h3⟩ | ⟨h1, h2, h3⟩ | ⟨h1, h2, h3⟩ | ⟨h1, h2, h3⟩ | ⟨h1, h2, h3⟩
      all_goals
        rcases hr with rfl | rfl
        all_goals
          simp [e0, e5, e6, e7, r0, r1, tmpAt, wt, h1, h2, h3, show (300 : Int) ≤ t.length ↔ 300 ≤ t.length by omega, show (300 : Int) < q ↔ 300 < q by omega]
    · have tl' := fin p j (by simpa [readEnd, hj] using tl)
      rcases tl' with ⟨h1, h2, h3⟩ | ⟨h1, h2, h3⟩ | ⟨h1, h2, h3⟩ | ⟨h1, h2, h3⟩ | ⟨h1, h2, h3⟩
      all_goals try exact absurd h1 hj
      all_goals
        rcases hmj with rfl | ⟨rfl, hjj⟩
        all_goals
          rcases hr with rfl | rfl
          all_goals
            simp [e0, e5, e6, e7, r0, r1, tmpAt, h1, h2, h3, show (300 : Int) ≤ t.length ↔ 300 ≤ t.length by omega, show (300 : Int) < p ↔ 300 < p by omega]
end Go.Proofs.YtbcgldeleankcaaDoor
