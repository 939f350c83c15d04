/- Commands: lists, texts in marks, literals, words. -/
import Derived.Test.YtbcgldeleankcaaDoorcB1
set_option linter.unusedSectionVars false
set_option linter.all false
set_option linter.unusedVariables false
set_option linter.unusedSimpArgs false
set_option maxRecDepth 100000
namespace Go.Proofs.YtbcgldeleankcaaDoor
open Go.Lft

theorem isB_lt {t : S} {a : Nat} {b : UInt8} (h : isB t a b = true) : a < t.length := by
  unfold isB at h
  by_cases hl : a < t.length
  · exact hl
  · rw [List.getElem?_eq_none (by omega)] at h
    simp at h
theorem isB_get {t : S} {a : Nat} {b : UInt8} (h : isB t a b = true) : t[a]? = some b := by simpa [isB] using h
theorem wantM_le (t : S) : ∀ (w : S) (a : Nat) (k : Int), a ≤ t.length → a ≤ (wantM t w a k).1 ∧ (wantM t w a k).1 ≤ t.length := by
  intro w
  induction w with
  | nil => intro a k h; simp [wantM, h]
  | cons b w ih =>
    intro a k h
    simp only [wantM]
    split
    · split
      · rename_i h2
        have := ih (a + 1) k (isB_lt h2)
        omega
      · simp [h]
    · simp [h]
theorem plainM_le (t : S) (a : Nat) (k : Int) (h : a ≤ t.length) : a ≤ (plainM t a k).2.1 ∧ (plainM t a k).2.1 ≤ t.length := by
  have := (pl_le 60 (t.drop a)).2
  simp at this
  unfold plainM
  split <;> simp <;> omega
def listTail (t : S) : Nat → Nat → Int → Nat × Int
  | 0, a, k => (a, k)
  | f + 1, a, k => if k = 0 ∧ isB t a 32 = true then listTail t f (plainM t (a + 1) k).2.1 (plainM t (a + 1) k).2.2 else (a, k)
theorem listTail_le (t : S) : ∀ (f a : Nat) (k : Int), a ≤ t.length → a ≤ (listTail t f a k).1 ∧ (listTail t f a k).1 ≤ t.length := by
  intro f
  induction f with
  | zero => intro a k h; simp [listTail, h]
  | succ f ih =>
    intro a k h
    simp only [listTail]
    split
    · rename_i h2
      have h3 := plainM_le t (a + 1) k (isB_lt h2.2)
      have h4 := ih (plainM t (a + 1) k).2.1 (plainM t (a + 1) k).2.2 h3.2
      omega
    · simp [h]
def listHead (t : S) (a : Nat) (k : Int) : Nat × Int := if isB t (wantM t [40] a k).1 41 = true then wantM t [40] a k else (plainM t (wantM t [40] a k).1 (wantM t [40] a k).2).2
def listAll (t : S) (a : Nat) (k : Int) : Nat × Int := listTail t (t.length + 1) (listHead t a k).1 (listHead t a k).2
def listM (t : S) (a : Nat) (k : Int) : S × Nat × Int :=
  if (wantM t [41] (listAll t a k).1 (listAll t a k).2).2 = 0 then ((t.drop a).take ((wantM t [41] (listAll t a k).1 (listAll t a k).2).1 - a), wantM t [41] (listAll t a k).1 (listAll t a k).2) else ([], wantM t [41] (listAll t a k).1 (listAll t a k).2)
theorem listHead_le (t : S) (a : Nat) (k : Int) (h : a ≤ t.length) : a ≤ (listHead t a k).1 ∧ (listHead t a k).1 ≤ t.length := by
  have h1 := wantM_le t [40] a k h
  have h2 := plainM_le t (wantM t [40] a k).1 (wantM t [40] a k).2 h1.2
  unfold listHead
  split <;> omega
theorem listAll_le (t : S) (a : Nat) (k : Int) (h : a ≤ t.length) : a ≤ (listAll t a k).1 ∧ (listAll t a k).1 ≤ t.length := by
  have h1 := listHead_le t a k h
  have h2 := listTail_le t (t.length + 1) (listHead t a k).1 (listHead t a k).2 h1.2
  unfold listAll
  omega
theorem eq_list (t : S) (a : Nat) (k : Int) (ha : a ≤ t.length) (ht : t.length ≤ 1048576) : lim E 52 [cmd t a k] = some (.str (listM t a k).1, [cmd t (listM t a k).2.1 (listM t a k).2.2]) := by
  have w1 := eq_want t [40] a k (by omega) ht (by simp)
  have l1 := wantM_le t [40] a k ha
  have w2 := eq_is t (wantM t [40] a k).1 (wantM t [40] a k).2 41 (by omega) ht
  have w3 := eq_plain t (wantM t [40] a k).1 (wantM t [40] a k).2 (by omega) ht
  have l2 := listHead_le t a k ha
  have l3 := listAll_le t a k ha
  have w4 := eq_want t [41] (listAll t a k).1 (listAll t a k).2 (by omega) ht (by simp)
  have l4 := wantM_le t [41] (listAll t a k).1 (listAll t a k).2 l3.2
  simp [cmd] at w1 w2 w3 w4
  unfold cmd
  have hr : listM t a k = if (wantM t [41] (listAll t a k).1 (listAll t a k).2).2 = 0 then ((t.drop a).take ((wantM t [41] (listAll t a k).1 (listAll t a k).2).1 - a), wantM t [41] (listAll t a k).1 (listAll t a k).2) else ([], wantM t [41] (listAll t a k).1 (listAll t a k).2) := rfl
  refine lim_run (E := E) rfl Tryd.func52 rfl (by kernel_rfl) (by kernel_rfl) ?_
  simp [Tryd.f52, tmpAt, w1, w2]
  have hh : listHead t a k = if isB t (wantM t [40] a k).1 41 = true then wantM t [40] a k else (plainM t (wantM t [40] a k).1 (wantM t [40] a k).2).2 := rfl
  cases h : isB t (wantM t [40] a k).1 41 <;> simp [h] at hh <;> simp [h, w3]
  all_goals rw [← hh]
  all_goals
    refine loop_ind (fun m st => ∃ (p : Nat) (j : Int), a ≤ p ∧ p ≤ t.length ∧ t.length + 1 ≤ p + m ∧ listTail t m p j = listAll t a k ∧ st.env 0 = .ptr (0, 99) [] ∧ st.env 3 = .int .i64 a ∧ st.rs (0, 99) = some ⟨true, .agg [.str t, .int .i64 p, .int .i64 j]⟩) (t.length + 1) _ ?_ ?_
    · exact ⟨(listHead t a k).1, (listHead t a k).2, by simp [l2, listAll]⟩
    rintro m ⟨env, rs⟩ ⟨p, j, hap, hpt, hpm, hm, e0, e3, r0⟩ ih
    simp at e0 e3 r0
    have hv := wrap_up (show p < 4611686018427387904 by omega)
    have wi := eq_is t p j 32 (by omega) ht
    simp [cmd] at wi
    obtain ⟨m, rfl⟩ : ∃ m', m = m' + 1 := ⟨m - 1, by omega⟩
    simp only [listTail] at hm
    by_cases hj : j = 0 ∧ isB t p 32 = true
    · have l5 := isB_lt hj.2
      have wp := eq_plain t (p + 1) 0 (by omega) ht
      have l6 := plainM_le t (p + 1) j l5
      rw [if_pos hj] at hm
      obtain ⟨rfl, hj⟩ := hj
      simp [cmd] at wp wi
      simp [e0, e3, r0, tmpAt, wi, hj, hv, wp]
      refine ih m _ (by omega) ⟨(plainM t (p + 1) 0).2.1, (plainM t (p + 1) 0).2.2, ?_⟩
      simp [e0, e3, r0, hm]
      omega
    · rw [if_neg hj] at hm
      rw [← hm] at w4 l4 hr
      simp at w4 l4 hr
      have : (j = 0 ∧ isB t p 32 = false) ∨ ¬ j = 0 := by
        by_cases h0 : j = 0
        · left; simp [h0] at hj; exact ⟨h0, hj⟩
        · exact Or.inr h0
      rcases this with ⟨rfl, h2⟩ | h2
      all_goals
        simp [e0, e3, r0, tmpAt, wi, h2, w4]
        split at hr <;> rename_i h3
        · simp [e0, e3, r0, tmpAt, wi, h2, w4, h3, hr]
          omega
        · simp [e0, e3, r0, tmpAt, wi, h2, w4, h3, hr]
/-- The text in marks, from a place on. -/
def markM (t : S) (k : Int) : Nat → Nat → S → S × Nat × Int
  | 0, a, _ => ([], a, k)
  | f + 1, a, out =>
    if isB t a 34 = true then (out, a + 1, k) else
    if isB t a 92 = true then
      (if isB t (a + 1) 34 = true then markM t k f (a + 2) (out ++ [34]) else if isB t (a + 1) 92 = true then markM t k f (a + 2) (out ++ [92]) else ([], a + 1, endCode t (a + 1)))
    else match t[a]? with
      | some b => if within b.toNat 32 126 = true then markM t k f (a + 1) (out ++ [b]) else ([], a, endCode t a)
      | none => ([], a, endCode t a)
def markedM (t : S) (a : Nat) (k : Int) : S × Nat × Int := markM t (wantM t [34] a k).2 (t.length + 1) (wantM t [34] a k).1 []
set_option maxHeartbeats 2000000 in
theorem eq_marked (t : S) (a : Nat) (k : Int) (ha : a ≤ t.length) (ht : t.length ≤ 1048576) : lim E 53 [cmd t a k] = some (.str (markedM t a k).1, [cmd t (markedM t a k).2.1 (markedM t a k).2.2]) := by
  have w1 := eq_want t [34] a k (by omega) ht (by simp)
  have l1 := wantM_le t [34] a k ha
  simp [cmd] at w1
  unfold cmd
  refine lim_run (E := E) rfl Tryd.func53 rfl (by kernel_rfl) (by kernel_rfl) ?_
  simp [Tryd.f53, tmpAt, w1]
  refine loop_ind (fun m st => ∃ (p : Nat) (out : S) (r : Nat), p ≤ t.length ∧ out.length ≤ p ∧ t.length + 1 ≤ p + m ∧ markM t (wantM t [34] a k).2 m p out = markedM t a k ∧ (r = 6 ∨ r = 74) ∧ st.env 0 = .ptr (0, 99) [] ∧ st.env 3 = .slc (r, 0) [] 0 out.length ∧ st.rs (r, 0) = some ⟨false, .lst true 5 1 (ofBytes out)⟩ ∧ st.rs (0, 99) = some ⟨true, .agg [.str t, .int .i64 p, .int .i64 (wantM t [34] a k).2]⟩) (t.length + 1) _ ?_ ?_
  · refine ⟨(wantM t [34] a k).1, [], 6, ?_⟩
    simp [l1, markedM]
  rintro m ⟨env, rs⟩ ⟨p, out, r, hpt, hol, hpm, hm, hr, e0, e3, r1, r0⟩ ih
  simp at e0 e3 r0 r1
  have hv := wrap_up (show p < 4611686018427387904 by omega)
  have hv2 := wrap_up (show p + 1 < 4611686018427387904 by omega)
  generalize hk : (wantM t [34] a k).2 = k' at *
  have wi := eq_is t p k' 34 (by omega) ht
  have wj := eq_is t p k' 92 (by omega) ht
  have wi' := eq_is t (p + 1) k' 34 (by omega) ht
  have wj' := eq_is t (p + 1) k' 92 (by omega) ht
  have wf := eq_fail t p k' (by omega) ht
  have wf' := eq_fail t (p + 1) k' (by omega) ht
  simp [cmd] at wi wj wi' wj' wf wf'
  obtain ⟨m, rfl⟩ : ∃ m', m = m' + 1 := ⟨m - 1, by omega⟩
  simp only [markM] at hm
  split at hm
  · rename_i h1
    simp [e0, e3, r0, r1, tmpAt, wi, h1, hv]
    simp [← hm]
  rename_i h1
  split at hm
  · rename_i h2
    have h3 := isB_lt h2
    simp [e0, e3, r0, r1, tmpAt, wi, wj, h1, h2, hv]
    have hw34 : IntKind.i64.wrap 34 = 34 := wrap_in (by omega) (by omega)
    have hw92 : IntKind.i64.wrap 92 = 92 := wrap_in (by omega) (by omega)
    have hi34 : within 34 32 126 = true := by decide
    have hi92 : within 92 32 126 = true := by decide
    split at hm
    · rename_i h4
      have h5 := isB_lt h4
      have h7 : t[p + 1] = 34 := by have := isB_get h4; rw [List.getElem?_eq_getElem h5] at this; exact Option.some.inj this
      rcases hr with rfl | rfl
      all_goals
        simp [e0, e3, r0, r1, tmpAt, wi', wj', h4, hv, h5, h7, hw34, hi34, show ¬ (t.length : Int) ≤ p + 1 by omega, show (0 : Int) ≤ p + 1 by omega]
        refine ⟨by omega, trOk_unord (L := [(0, 1), (0, 2), (0, 3), (0, 4), (0, 5), (0, 6), (0, 7), (0, 8), (0, 9), (0, 10), (1, 5), (1, 6), (1, 7), (1, 8), (2, 5), (2, 6), (2, 7), (2, 8), (3, 5), (3, 6), (3, 7), (3, 8), (4, 5), (4, 6), (4, 7), (4, 8)]) (by kernel_rfl) (by simp) (by simp [indepAt, indep, spares, around, aside, pre, isSlc, Tr.feels, Tr.all, moves, bare, opData, isExt, cmpOf, Op.operands, Call.operands, mentL, ment, D.noUndefL, D.noUndef, pureE, e0, e3]), ?_⟩
        refine ih m _ (by omega) ⟨p + 2, out ++ [34], 74, by omega, by simp; omega, by omega, by simpa using hm, Or.inr rfl, ?_⟩
        simp [e0, e3, r0, r1]
        rw [show (p : Int) + 1 + 1 = p + 2 by omega]
        exact wrap_in (by omega) (by omega)
    rename_i h4
    split at hm
    · rename_i h6
      have h5 := isB_lt h6
      have h7 : t[p + 1] = 92 := by have := isB_get h6; rw [List.getElem?_eq_getElem h5] at this; exact Option.some.inj this
      rcases hr with rfl | rfl
      all_goals
        simp [e0, e3, r0, r1, tmpAt, wi', wj', h4, h6, hv, h5, h7, hw92, hi92, show ¬ (t.length : Int) ≤ p + 1 by omega, show (0 : Int) ≤ p + 1 by omega]
        refine ⟨by omega, trOk_unord (L := [(0, 1), (0, 2), (0, 3), (0, 4), (0, 5), (0, 6), (0, 7), (0, 8), (0, 9), (0, 10), (1, 5), (1, 6), (1, 7), (1, 8), (2, 5), (2, 6), (2, 7), (2, 8), (3, 5), (3, 6), (3, 7), (3, 8), (4, 5), (4, 6), (4, 7), (4, 8)]) (by kernel_rfl) (by simp) (by simp [indepAt, indep, spares, around, aside, pre, isSlc, Tr.feels, Tr.all, moves, bare, opData, isExt, cmpOf, Op.operands, Call.operands, mentL, ment, D.noUndefL, D.noUndef, pureE, e0, e3]), ?_⟩
        refine ih m _ (by omega) ⟨p + 2, out ++ [92], 74, by omega, by simp; omega, by omega, by simpa using hm, Or.inr rfl, ?_⟩
        simp [e0, e3, r0, r1]
        rw [show (p : Int) + 1 + 1 = p + 2 by omega]
        exact wrap_in (by omega) (by omega)
    · rename_i h6
      simp [e0, e3, r0, r1, tmpAt, wi', wj', wf', h4, h6, hv, ← hm]
  · rename_i h2
    split at hm
    · rename_i b hb
      have h3' : ¬ t.length ≤ p := by have := (List.getElem?_eq_some_iff.1 hb).1; omega
      obtain ⟨h3, rfl⟩ := List.getElem?_eq_some_iff.1 hb
      split at hm
      · rename_i h4
        rcases hr with rfl | rfl
        all_goals
          simp [e0, e3, r0, r1, tmpAt, wi, wj, h1, h2, h3, h3', h4, hv, wrap_byte]
          refine ⟨by omega, trOk_unord (L := [(0, 1), (0, 2), (0, 3), (0, 4), (0, 5), (0, 6), (0, 7), (0, 8), (0, 9), (0, 10), (1, 5), (1, 6), (1, 7), (1, 8), (2, 5), (2, 6), (2, 7), (2, 8), (3, 5), (3, 6), (3, 7), (3, 8), (4, 5), (4, 6), (4, 7), (4, 8)]) (by kernel_rfl) (by simp) (by simp [indepAt, indep, spares, around, aside, pre, isSlc, Tr.feels, Tr.all, moves, bare, opData, isExt, cmpOf, Op.operands, Call.operands, mentL, ment, D.noUndefL, D.noUndef, pureE, e0, e3]), ?_⟩
          refine ih m _ (by omega) ⟨p + 1, out ++ [t[p]], 74, by omega, by simp; omega, by omega, hm, Or.inr rfl, ?_⟩
          simp [e0, e3, r0, r1]
      · rename_i h4
        simp [e0, e3, r0, r1, tmpAt, wi, wj, wf, h1, h2, h3, h3', h4, hv, wrap_byte, ← hm]
    · rename_i hb
      have h3 : ¬ p < t.length := by simpa using hb
      have h3' : t.length ≤ p := by omega
      simp [e0, e3, r0, r1, tmpAt, wi, wj, wf, h1, h2, h3, h3', hv, ← hm]
end Go.Proofs.YtbcgldeleankcaaDoor
