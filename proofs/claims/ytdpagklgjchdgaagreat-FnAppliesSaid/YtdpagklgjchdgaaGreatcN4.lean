/- Edits: EditOk of the reference. -/
import Derived.Test.YtdpagklgjchdgaaGreatcN1
set_option linter.unusedSectionVars false
set_option linter.all false
set_option linter.unusedVariables false
set_option linter.unusedSimpArgs false
set_option maxRecDepth 100000
namespace Go.Proofs.YtdpagklgjchdgaaGreat
open Go.Lft

def useTo (e : Edit) : Bool := decide (e.kind = 6 ∨ e.kind = 7)
def useSet (e : Edit) : Bool := decide (e.kind = 6 ∨ e.kind = 7) || decide (e.kind = 4 ∨ e.kind = 5)
def useSince (e : Edit) : Bool := decide (e.kind = 4 ∨ e.kind = 8)
def editUses (e : Edit) : Bool :=
  (useTo e || decide (e.to = [])) && ((useSet e || decide (e.set_ = [])) && ((decide (e.kind = 4) || decide (e.how = 0)) && ((decide (e.kind = 4 ∨ e.kind = 3) || decide (e.bits = 0)) && ((useSince e || decide (e.since = 0)) && (decide (e.kind = 3) || decide (e.text = []))))))
set_option maxHeartbeats 8000000 in
theorem eq_l10Uses (e : Edit) : lim E 104 [encEdit false false e] = some (.bool (editUses e), []) := by
  refine lim_run (E := E) rfl Tryz.func104 rfl (by kernel_rfl) (by kernel_rfl) ?_
  simp [Tryz.f104, tmpAt]
  refine RG_cut (R := fun st' => st'.env 1 = .ptr (1,0) [] ∧ st'.env 3 = .bool (useTo e) ∧ st'.rs (1,0) = some ⟨true, encEdit false false e⟩) ?_ ?_
  · by_cases c6 : e.kind = 6 <;> by_cases c7 : e.kind = 7 <;> simp [tmpAt, c6, c7, useTo]
  rintro ⟨env, rs⟩ ⟨e1, e3, r1⟩
  simp at e1 e3 r1
  simp [e1, e3, r1]
  refine RG_cut (R := fun st' => st'.env 1 = .ptr (1,0) [] ∧ st'.env 3 = .bool (useTo e) ∧ st'.env 4 = .bool (useSet e) ∧ st'.rs (1,0) = some ⟨true, encEdit false false e⟩) ?_ ?_
  · cases c3 : useTo e <;> by_cases c6 : e.kind = 4 <;> by_cases c7 : e.kind = 5 <;> simp [tmpAt, e1, e3, r1, c3, c6, c7, useSet] <;> (simp [useTo] at c3; omega)
  clear e1 e3 r1
  rintro ⟨env, rs⟩ ⟨e1, e3, e4, r1⟩
  simp at e1 e3 e4 r1
  simp [e1, e3, e4, r1]
  refine RG_cut (R := fun st' => st'.env 1 = .ptr (1,0) [] ∧ st'.env 3 = .bool (useTo e) ∧ st'.env 4 = .bool (useSet e) ∧ st'.env 5 = .bool (decide (e.kind = 4)) ∧ st'.env 6 = .bool (decide (e.kind = 3)) ∧ st'.env 7 = .bool (useSince e) ∧ st'.rs (1,0) = some ⟨true, encEdit false false e⟩) ?_ ?_
  · by_cases c6 : e.kind = 4 <;> by_cases c7 : e.kind = 8 <;> simp [tmpAt, e1, e3, e4, r1, c6, c7, useSince]
  clear e1 e3 e4 r1
  rintro ⟨env, rs⟩ ⟨e1, e3, e4, e5, e6, e7, r1⟩
  simp at e1 e3 e4 e5 e6 e7 r1
  simp [e1, e3, e4, e5, e6, e7, r1]
  have hcl : (useTo e = true ∧ useSet e = true ∧ e.kind ≠ 4 ∧ e.kind ≠ 3 ∧ useSince e = false) ∨ (useTo e = false ∧ useSet e = true ∧ e.kind = 4 ∧ e.kind ≠ 3 ∧ useSince e = true) ∨ (useTo e = false ∧ useSet e = true ∧ e.kind ≠ 4 ∧ e.kind ≠ 3 ∧ useSince e = false) ∨ (useTo e = false ∧ useSet e = false ∧ e.kind ≠ 4 ∧ e.kind = 3 ∧ useSince e = false) ∨ (useTo e = false ∧ useSet e = false ∧ e.kind ≠ 4 ∧ e.kind ≠ 3 ∧ useSince e = true) ∨ (useTo e = false ∧ useSet e = false ∧ e.kind ≠ 4 ∧ e.kind ≠ 3 ∧ useSince e = false) := by
    simp only [useTo, useSet, useSince, Bool.or_eq_true, Bool.or_eq_false_iff, decide_eq_true_eq, decide_eq_false_iff_not]
    omega
  rcases hcl with ⟨u1, u2, u3, u4, u5⟩ | ⟨u1, u2, u3, u4, u5⟩ | ⟨u1, u2, u3, u4, u5⟩ | ⟨u1, u2, u3, u4, u5⟩ | ⟨u1, u2, u3, u4, u5⟩ | ⟨u1, u2, u3, u4, u5⟩
  all_goals
    simp only [u1, u2, u3, u4, u5] at e3 e4 e5 e6 e7
    try simp at e5 e6
    simp [tmpAt, e1, e3, e4, e5, e6, e7, r1, u1, u2, u3, u4, u5]
    repeat' first | (refine RT_dec ?_ ?_ <;> intro hg <;> try simp [tmpAt, hg, e1, e3, e4, e5, e6, e7, r1, u1, u2, u3, u4, u5]) | (refine RT_split ?_ ?_ <;> intro hg <;> (try simp at hg) <;> try simp [tmpAt, hg, e1, e3, e4, e5, e6, e7, r1, u1, u2, u3, u4, u5]) | (refine RB_dec ?_ ?_ <;> intro hg <;> try simp [tmpAt, hg, e1, e3, e4, e5, e6, e7, r1, u1, u2, u3, u4, u5]) | (refine RB_ndec ?_ ?_ <;> intro hg <;> try simp [tmpAt, hg, e1, e3, e4, e5, e6, e7, r1, u1, u2, u3, u4, u5]) | (refine RB_split ?_ ?_ <;> intro hg <;> (try simp at hg) <;> try simp [tmpAt, hg, e1, e3, e4, e5, e6, e7, r1, u1, u2, u3, u4, u5]) | (refine RG_dec ?_ ?_ <;> intro hg <;> try simp [tmpAt, hg, e1, e3, e4, e5, e6, e7, r1, u1, u2, u3, u4, u5]) | (refine RG_split ?_ ?_ <;> intro hg <;> (try simp at hg) <;> try simp [tmpAt, hg, e1, e3, e4, e5, e6, e7, r1, u1, u2, u3, u4, u5])
    all_goals simp_all [editUses]
set_option maxHeartbeats 8000000 in
theorem eq_sEditOk' (e : Edit) (h : szEdit e ≤ 1048576) : lim E 68 [encEdit false false e] = some (.bool (within e.kind 1 8 && (boxName e.box && (editUses e && (setOk e.set_ && (within e.bits 0 31 && (if e.kind = 6 ∨ e.kind = 7 then boxName e.to else if e.kind = 4 then within e.how 1 3 && within e.since (-1) 100000 else if e.kind = 8 then within e.since 0 100000 else if e.kind = 3 then mailOk e.text else true)))))), []) := by
  have hz : szEdit e = e.box.length + e.to.length + e.set_.length + e.text.length := rfl
  have w0 := eq_l10Uses e
  try simp at w0
  have w1 := eq_sBoxName e.box (by omega)
  have w2 := eq_sBoxName e.to (by omega)
  have w3 := eq_sSetOk e.set_ (by omega)
  try simp at w3
  have w4 := eq_sMailOk e.text (by omega)
  cases q0 : within e.kind 1 8
  · refine lim_run (E := E) rfl Tryz.func68 rfl (by kernel_rfl) (by kernel_rfl) ?_
    simp [Tryz.f68, tmpAt, q0]
  cases q1 : boxName e.box
  · refine lim_run (E := E) rfl Tryz.func68 rfl (by kernel_rfl) (by kernel_rfl) ?_
    simp [Tryz.f68, tmpAt, q0, w1, q1]
  cases q2 : editUses e
  · refine lim_run (E := E) rfl Tryz.func68 rfl (by kernel_rfl) (by kernel_rfl) ?_
    simp [Tryz.f68, tmpAt, q0, w0, w1, q1, q2]
  cases q3 : setOk e.set_
  · refine lim_run (E := E) rfl Tryz.func68 rfl (by kernel_rfl) (by kernel_rfl) ?_
    simp [Tryz.f68, tmpAt, q0, w0, w1, q1, q2, w3, q3]
  cases q4 : within e.bits 0 31
  · refine lim_run (E := E) rfl Tryz.func68 rfl (by kernel_rfl) (by kernel_rfl) ?_
    simp [Tryz.f68, tmpAt, q0, w0, w1, q1, q2, w3, q3, q4]
  by_cases k6 : e.kind = 6
  · rw [k6] at w0 q0
    refine lim_run (E := E) rfl Tryz.func68 rfl (by kernel_rfl) (by kernel_rfl) ?_
    simp [Tryz.f68, tmpAt, q0, w0, w1, w2, q1, q2, w3, q3, q4, k6]
  by_cases k7 : e.kind = 7
  · rw [k7] at w0 q0
    refine lim_run (E := E) rfl Tryz.func68 rfl (by kernel_rfl) (by kernel_rfl) ?_
    simp [Tryz.f68, tmpAt, q0, w0, w1, w2, q1, q2, w3, q3, q4, k6, k7]
  by_cases k4 : e.kind = 4
  · rw [k4] at w0 q0
    cases q5 : within e.how 1 3
    · refine lim_run (E := E) rfl Tryz.func68 rfl (by kernel_rfl) (by kernel_rfl) ?_
      simp [Tryz.f68, tmpAt, q0, w0, w1, w2, q1, q2, w3, q3, q4, k6, k7, k4, q5]
    · refine lim_run (E := E) rfl Tryz.func68 rfl (by kernel_rfl) (by kernel_rfl) ?_
      simp [Tryz.f68, tmpAt, q0, w0, w1, w2, q1, q2, w3, q3, q4, k6, k7, k4, q5]
  by_cases k8 : e.kind = 8
  · rw [k8] at w0 q0
    refine lim_run (E := E) rfl Tryz.func68 rfl (by kernel_rfl) (by kernel_rfl) ?_
    simp [Tryz.f68, tmpAt, q0, w0, w1, w2, q1, q2, w3, q3, q4, k6, k7, k4, k8]
  by_cases k3 : e.kind = 3
  · rw [k3] at w0 q0
    refine lim_run (E := E) rfl Tryz.func68 rfl (by kernel_rfl) (by kernel_rfl) ?_
    simp [Tryz.f68, tmpAt, q0, w0, w1, w2, q1, q2, w3, w4, q3, q4, k6, k7, k4, k8, k3]
  refine lim_run (E := E) rfl Tryz.func68 rfl (by kernel_rfl) (by kernel_rfl) ?_
  simp [Tryz.f68, tmpAt, q0, w0, w1, w2, q1, q2, w3, q3, q4, k6, k7, k4, k8, k3]
def editOk (e : Edit) : Bool := within e.kind 1 8 && (boxName e.box && (sinceGood e && (toGood e && (setGood e && (howGood e && (bitsGood e && textGood e))))))
theorem eq_pEditOk (e : Edit) (h : szEdit e ≤ 1048576) : lim E 66 [encEdit false false e] = some (.bool (editOk e), []) := eq_EditOk e h
theorem eq_sEditOk (e : Edit) (h : szEdit e ≤ 1048576) : lim E 68 [encEdit false false e] = some (.bool (editOk e), []) := by
  rw [eq_sEditOk' e h]
  have n1 : boxName [] = false := by decide
  have n2 : setOk [] = true := by decide
  have n3 : within 0 0 31 = true := by decide
  have n5 : within 0 (-1) 100000 = true := by decide
  have n6 : within 0 0 100000 = true := by decide
  congr 3
  unfold editOk
  cases q0 : within e.kind 1 8
  · rfl
  have hk : e.kind = 1 ∨ e.kind = 2 ∨ e.kind = 3 ∨ e.kind = 4 ∨ e.kind = 5 ∨ e.kind = 6 ∨ e.kind = 7 ∨ e.kind = 8 := by simp [within] at q0; omega
  obtain ⟨k, bx, to, st, how, bits, since, tx⟩ := e
  simp only at hk ⊢
  simp only [editUses, useTo, useSet, useSince, sinceGood, toGood, setGood, howGood, bitsGood, textGood]
  have m1 : within 1 4 7 = false := by decide
  have m2 : within 2 4 7 = false := by decide
  have m3 : within 3 4 7 = false := by decide
  have m4 : within 4 4 7 = true := by decide
  have m5 : within 5 4 7 = true := by decide
  have m6 : within 6 4 7 = true := by decide
  have m7 : within 7 4 7 = true := by decide
  have m8 : within 8 4 7 = false := by decide
  rcases Classical.em (st = []) with rfl | a2 <;> rcases Classical.em (bits = 0) with rfl | a4
  all_goals
    rcases hk with rfl | rfl | rfl | rfl | rfl | rfl | rfl | rfl
    all_goals
      rw [Bool.eq_iff_iff]
      simp [*]
      try grind
end Go.Proofs.YtdpagklgjchdgaaGreat
