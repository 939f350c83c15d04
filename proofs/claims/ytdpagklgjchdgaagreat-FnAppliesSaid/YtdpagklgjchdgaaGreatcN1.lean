/- Edits: EditOk of both. -/
import Derived.Test.YtdpagklgjchdgaaGreatcH7
set_option linter.unusedSectionVars false
set_option linter.all false
set_option linter.unusedVariables false
set_option linter.unusedSimpArgs false
set_option maxRecDepth 100000
namespace Go.Proofs.YtdpagklgjchdgaaGreat
open Go.Lft

@[simp] theorem eq_usesTo (k : Int) : lim E 100 [.int .i64 k] = some (.bool (decide (k = 6 ∨ k = 7)), []) := by
  refine lim_run (E := E) rfl Tryz.func100 rfl (by kernel_rfl) (by kernel_rfl) ?_
  simp [Tryz.f100, tmpAt]
  by_cases h1 : k = 6 <;> by_cases h2 : k = 7 <;> simp [tmpAt, h1, h2]
@[simp] theorem eq_usesSet (k : Int) : lim E 101 [.int .i64 k] = some (.bool (within k 4 7), []) := by
  refine lim_run (E := E) rfl Tryz.func101 rfl (by kernel_rfl) (by kernel_rfl) ?_
  simp [Tryz.f101, tmpAt]
def sinceGood (e : Edit) : Bool := if e.kind = 4 then within e.since (-1) 100000 else if e.kind = 8 then within e.since 0 100000 else decide (e.since = 0)
@[simp] theorem eq_sinceOk (e : Edit) : lim E 99 [encEdit false false e] = some (.bool (sinceGood e), []) := by
  refine lim_run (E := E) rfl Tryz.func99 rfl (by kernel_rfl) (by kernel_rfl) ?_
  simp [Tryz.f99, tmpAt]
  by_cases h1 : e.kind = 4 <;> by_cases h2 : e.kind = 8 <;> simp [tmpAt, h1, h2, sinceGood]
theorem RG_cut {E : En} {Q : Out → St → Prop} {R : St → Prop} {ks : List KI} {st : St} {ops : Array Oper} {o : Oper} {l : List Oper} {want : Bool} {c : D} (h1 : RG E (fun o st' => o = .normal ∧ R st') ops o l want [] st c) (h2 : ∀ st', R st' → RK E Q ks .normal st') : RG E Q ops o l want ks st c := by
  have hl : ∀ (l : List Oper) (st : St), RL E (fun o st' => o = .normal ∧ R st') ops l [] st → RL E Q ops l ks st := by
    rintro l st ⟨st', g1, g2⟩
    exact ⟨st', g1, h2 _ g2.2⟩
  unfold RG at h1 ⊢
  split at h1
  · split at h1
    · rename_i hc; simp only [hc, if_true]; exact hl _ _ h1
    · rename_i hc; simp only [hc, if_false]; exact hl _ _ h1
  all_goals first | exact hl _ _ h1 | exact h1
def toGood (e : Edit) : Bool := if e.kind = 6 ∨ e.kind = 7 then boxName e.to else decide (e.to = [])
def setGood (e : Edit) : Bool := decide (e.set_ = []) || (within e.kind 4 7 && setOk e.set_)
def howGood (e : Edit) : Bool := if e.kind = 4 then within e.how 1 3 else decide (e.how = 0)
def bitsGood (e : Edit) : Bool := decide (e.bits = 0) || (decide (e.kind = 3 ∨ e.kind = 4) && within e.bits 0 31)
def textGood (e : Edit) : Bool := if e.kind = 3 then mailOk e.text else decide (e.text = [])
set_option maxHeartbeats 8000000 in
theorem eq_EditOk (e : Edit) (h : szEdit e ≤ 1048576) : lim E 66 [encEdit false false e] = some (.bool (within e.kind 1 8 && (boxName e.box && (sinceGood e && (toGood e && (setGood e && (howGood e && (bitsGood e && textGood e))))))), []) := by
  have hz : szEdit e = e.box.length + e.to.length + e.set_.length + e.text.length := rfl
  have w0 := eq_sinceOk e
  try simp at w0
  have w1 := eq_BoxName e.box (by omega)
  have w2 := eq_BoxName e.to (by omega)
  have w3 := eq_SetOk e.set_ (by omega)
  try simp at w3
  have w4 := eq_MailOk e.text
  have w2n := eq_BoxName [] (by simp)
  have w4n := eq_MailOk []
  have n1 : boxName [] = false := by decide
  have n4 : within 0 1 3 = false := by decide
  cases q0 : within e.kind 1 8
  · refine lim_run (E := E) rfl Tryz.func66 rfl (by kernel_rfl) (by kernel_rfl) ?_
    simp [Tryz.f66, tmpAt, q0]
  cases q1 : boxName e.box
  · refine lim_run (E := E) rfl Tryz.func66 rfl (by kernel_rfl) (by kernel_rfl) ?_
    simp [Tryz.f66, tmpAt, q0, w1, q1]
  cases q2 : sinceGood e
  · rw [q2] at w0
    refine lim_run (E := E) rfl Tryz.func66 rfl (by kernel_rfl) (by kernel_rfl) ?_
    simp [Tryz.f66, tmpAt, q0, w0, w1, q1]
  rw [q2] at w0
  refine lim_run (E := E) rfl Tryz.func66 rfl (by kernel_rfl) (by kernel_rfl) ?_
  simp [Tryz.f66, tmpAt, q0, w0, w1, q1]
  refine RG_cut (R := fun st' => st'.env 1 = .ptr (1,0) [] ∧ st'.env 3 = .bool (toGood e) ∧ st'.rs (1,0) = some ⟨true, encEdit false false e⟩) ?_ ?_
  · by_cases a : e.to = [] <;> by_cases c6 : e.kind = 6 <;> by_cases c7 : e.kind = 7 <;> simp [tmpAt, a, c6, c7, w2, w2n, n1, toGood]
  rintro ⟨env, rs⟩ ⟨e1, e3, r1⟩
  simp at e1 e3 r1
  simp [e1, e3, r1]
  refine RG_cut (R := fun st' => st'.env 1 = .ptr (1,0) [] ∧ st'.env 3 = .bool (toGood e) ∧ st'.env 4 = .bool (setGood e) ∧ st'.rs (1,0) = some ⟨true, encEdit false false e⟩) ?_ ?_
  · by_cases a : e.set_ = [] <;> cases c6 : within e.kind 4 7 <;> cases c7 : setOk e.set_ <;> simp [tmpAt, e1, e3, r1, a, c6, w3, c7, setGood]
  clear e1 e3 r1
  rintro ⟨env, rs⟩ ⟨e1, e3, e4, r1⟩
  simp at e1 e3 e4 r1
  simp [e1, e3, e4, r1]
  refine RG_cut (R := fun st' => st'.env 1 = .ptr (1,0) [] ∧ st'.env 3 = .bool (toGood e) ∧ st'.env 4 = .bool (setGood e) ∧ st'.env 5 = .bool (howGood e) ∧ st'.rs (1,0) = some ⟨true, encEdit false false e⟩) ?_ ?_
  · by_cases a : e.how = 0 <;> by_cases c6 : e.kind = 4 <;> cases c7 : within e.how 1 3 <;> simp [tmpAt, e1, e3, e4, r1, a, c6, c7, n4, howGood]
  clear e1 e3 e4 r1
  rintro ⟨env, rs⟩ ⟨e1, e3, e4, e5, r1⟩
  simp at e1 e3 e4 e5 r1
  simp [e1, e3, e4, e5, r1]
  refine RG_cut (R := fun st' => st'.env 1 = .ptr (1,0) [] ∧ st'.env 3 = .bool (toGood e) ∧ st'.env 4 = .bool (setGood e) ∧ st'.env 5 = .bool (howGood e) ∧ st'.env 6 = .bool (bitsGood e) ∧ st'.rs (1,0) = some ⟨true, encEdit false false e⟩) ?_ ?_
  · by_cases a : e.bits = 0 <;> by_cases c6 : e.kind = 3 <;> by_cases c7 : e.kind = 4 <;> cases c8 : within e.bits 0 31 <;> simp [tmpAt, e1, e3, e4, e5, r1, a, c6, c7, c8, bitsGood]
  clear e1 e3 e4 e5 r1
  rintro ⟨env, rs⟩ ⟨e1, e3, e4, e5, e6, r1⟩
  simp at e1 e3 e4 e5 e6 r1
  simp [e1, e3, e4, e5, e6, r1]
  refine RG_cut (R := fun st' => st'.env 1 = .ptr (1,0) [] ∧ st'.env 3 = .bool (toGood e) ∧ st'.env 4 = .bool (setGood e) ∧ st'.env 5 = .bool (howGood e) ∧ st'.env 6 = .bool (bitsGood e) ∧ st'.env 7 = .bool (textGood e) ∧ st'.rs (1,0) = some ⟨true, encEdit false false e⟩) ?_ ?_
  · by_cases a : e.text = [] <;> by_cases c6 : e.kind = 3 <;> cases c7 : mailOk e.text <;> simp [tmpAt, e1, e3, e4, e5, e6, r1, a, c6, c7, w4, w4n, textGood]
  clear e1 e3 e4 e5 e6 r1
  rintro ⟨env, rs⟩ ⟨e1, e3, e4, e5, e6, e7, r1⟩
  simp at e1 e3 e4 e5 e6 e7 r1
  simp [e1, e3, e4, e5, e6, e7, r1]
  cases b3 : toGood e
  · simp [tmpAt, e1, e3, e4, e5, e6, e7, r1, b3]
  cases b4 : setGood e
  · simp [tmpAt, e1, e3, e4, e5, e6, e7, r1, b3, b4]
  cases b5 : howGood e
  · simp [tmpAt, e1, e3, e4, e5, e6, e7, r1, b3, b4, b5]
  cases b6 : bitsGood e
  · simp [tmpAt, e1, e3, e4, e5, e6, e7, r1, b3, b4, b5, b6]
  simp [tmpAt, e1, e3, e4, e5, e6, e7, r1, b3, b4, b5, b6]
end Go.Proofs.YtdpagklgjchdgaaGreat
