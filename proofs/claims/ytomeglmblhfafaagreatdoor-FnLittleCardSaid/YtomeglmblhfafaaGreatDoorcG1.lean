/- The mirror: the program's TakeLine; sameView, sameLines of a thing and itself. -/
import Derived.Test.YtomeglmblhfafaaGreatDoorcA2
import Derived.Test.YtomeglmblhfafaaGreatDoorcC4
set_option linter.unusedSectionVars false
set_option linter.all false
set_option linter.unusedVariables false
set_option linter.unusedSimpArgs false
set_option maxRecDepth 100000
namespace Go.Proofs.YtomeglmblhfafaaGreatDoor
open Go.Lft

theorem mail_eq (x y : Mail) : (x.uid = y.uid ∧ x.flags = y.flags ∧ x.mod = y.mod ∧ x.text = y.text) ↔ x = y := by cases x; cases y; simp
theorem tomb_eq (x y : Tomb) : (x.uid = y.uid ∧ x.mod = y.mod) ↔ x = y := by cases x; cases y; simp
theorem box_eq (x y : Box) : (x.name = y.name ∧ x.valid = y.valid ∧ x.next = y.next ∧ x.mod = y.mod ∧ x.mails = y.mails ∧ x.tombs = y.tombs ∧ x.horizon = y.horizon) ↔ x = y := by cases x; cases y; simp
theorem store_eq (x y : Store) : (x.boxes = y.boxes ∧ x.valid = y.valid) ↔ x = y := by cases x; cases y; simp
end Go.Proofs.YtomeglmblhfafaaGreatDoor

set_option linter.unusedVariables false
set_option linter.unusedSimpArgs false
set_option maxRecDepth 100000
namespace Go.Proofs.YtomeglmblhfafaaGreatDoor
open Go.Lft

theorem has_u8 : ∀ d, (Sh.int .u8).has d → ∃ a : UInt8, d = .int .u8 a.toNat ∧ True ∧ True := by
  intro d h
  cases d <;> simp only [Sh.has] at h
  obtain ⟨rfl, h⟩ := h
  rename_i n
  simp [Lit.wf, IntKind.min, IntKind.max, IntKind.bits, IntKind.signed] at h
  refine ⟨UInt8.ofNat n.toNat, ?_, trivial, trivial⟩
  have : (UInt8.ofNat n.toNat).toNat = n.toNat := by simp; omega
  rw [this]
  congr 1
  omega
theorem has_code (te : Nat) : ∀ d, (Sh.slice te 1 (.int .u8)).has d → ∃ code : S, d = .lst false te 1 (ofBytes code) := by
  intro d h
  obtain ⟨l, rfl, _, _⟩ := has_list has_u8 d h
  exact ⟨l, rfl⟩
@[simp] theorem ofBytes_len (s : S) : (ofBytes s).length = s.length := by simp [ofBytes]
@[simp] theorem eq_big (code : S) : lim E 9 [.lst false 5 1 (ofBytes code)] = some (.bool (decide (1048576 < code.length)), []) := by
  refine lim_run (E := E) rfl Tryz.func9 rfl (by kernel_rfl) (by kernel_rfl) ?_
  simp [Tryz.f9, tmpAt]
  omega
noncomputable def drawBox (code : S) (hc : code.length ≤ 1048576) : Box := (boxDraw (newCur code hc)).1
theorem eq_DrawBox (code : S) (hc : code.length ≤ 1048576) : lim E 40 [.lst false 5 1 (ofBytes code)] = some (encBox false true (drawBox code hc), []) := by
  have w := eq_l01New code hc
  refine lim_run (E := E) rfl Tryz.func40 rfl (by kernel_rfl) (by kernel_rfl) ?_
  simp [Tryz.f40, tmpAt, w]
  simp [drawBox]
noncomputable def drawMail (code : S) (hc : code.length ≤ 1048576) : S := (mailDraw (newCur code hc)).1
theorem eq_DrawMail (code : S) (hc : code.length ≤ 1048576) : lim E 24 [.lst false 5 1 (ofBytes code)] = some (.str (drawMail code hc), []) := by
  have w := eq_l01New code hc
  refine lim_run (E := E) rfl Tryz.func24 rfl (by kernel_rfl) (by kernel_rfl) ?_
  simp [Tryz.f24, tmpAt, w]
  simp [drawMail]
end Go.Proofs.YtomeglmblhfafaaGreatDoor

set_option linter.unusedVariables false
set_option linter.unusedSimpArgs false
set_option maxRecDepth 100000
namespace Go.Proofs.YtomeglmblhfafaaGreatDoor
open Go.Lft

theorem range_eq (x y : Range) : (x.lo = y.lo ∧ x.hi = y.hi) ↔ x = y := by cases x; cases y; simp
theorem eq_sameInts (xs ys : List Int) (h1 : xs.length ≤ 16777216) : lim E 60 [.lst false 3 1 (xs.map (.int .i64)), .lst false 3 1 (ys.map (.int .i64))] = some (.bool (decide (xs = ys)), []) := by
  refine lim_run (E := E) rfl Tryz.func60 rfl (by kernel_rfl) (by kernel_rfl) ?_
  simp [Tryz.f60, tmpAt]
  refine RB_ndec ?_ ?_ <;> intro hl
  · simp
    intro hc; subst hc; exact hl rfl
  · simp
    have hl : xs.length = ys.length := by omega
    refine loop_fr [0, 1] [] (fun m st => ∃ (i : Nat), i + m = xs.length ∧ xs.take i = ys.take i ∧ st.env 5 = .int .i64 i) (xs.length) _ ?_ ?_
    · exact ⟨0, by simp⟩
    rintro m0 ⟨env, rs⟩ hU0 hV0 ⟨i, hi, hs, e0_5⟩ ih0; simp at hU0 e0_5; clear hV0
    have hw := wrap_up (show i < 4611686018427387904 by omega)
    simp [hU0, e0_5]
    refine RB_dec ?_ ?_ <;> intro h
    · have h' : i < ys.length := by omega
      simp [hU0, e0_5, h, h']
      refine RB_split ?_ ?_ <;> intro h2 <;> simp [hU0, e0_5]
      · intro hc; subst hc; simp at h2
      · refine ih0 (m0 - 1) _ (by omega) ?_ ?_ ⟨i + 1, by omega, take_eq hs h h' (by simpa using h2), ?_⟩
        · simp [hU0, e0_5]
        · simp [hU0, e0_5]
        simp [hU0, e0_5, hw]
    · simp [hU0, e0_5, h]
      exact take_all hs h hl
end Go.Proofs.YtomeglmblhfafaaGreatDoor

set_option linter.unusedVariables false
set_option linter.unusedSimpArgs false
set_option maxRecDepth 100000
namespace Go.Proofs.YtomeglmblhfafaaGreatDoor
open Go.Lft

theorem eq_sameView (a : View) (h : a.uids.length ≤ 16777216) : lim E 14 [encView false a, encView false a] = some (.bool true, []) := by
  have w := eq_sameInts a.uids a.uids h
  simp at w
  refine lim_run (E := E) rfl Tryz.func14 rfl (by kernel_rfl) (by kernel_rfl) ?_
  simp [Tryz.f14, tmpAt, w]
theorem eq_copySeens (l : List Seen) (h : l.length ≤ 16777216) : lim E 57 [.lst false 104 3 (l.map encSeen)] = some (.lst true 104 3 (l.map encSeen), []) := by
  have h1 : l.length * 24 ≤ 140737488351232 := by omega
  refine lim_run (E := E) rfl Tryz.func57 rfl (by kernel_rfl) (by kernel_rfl) ?_
  simp [Tryz.f57, tmpAt, h1]
def takeLine (l : List Seen) (x : Line) : List Seen :=
  if x.kind = 1 ∧ within x.num 0 30 = true then (l ++ List.replicate (x.num.toNat - l.length) (⟨0, 0, 0⟩ : Seen)).take x.num.toNat
  else if x.kind = 2 ∧ within x.num 1 l.length = true then l.take (x.num.toNat - 1) ++ l.drop x.num.toNat
  else if x.kind = 3 ∧ within x.num 1 l.length = true then l.set (x.num.toNat - 1) ⟨x.uid, x.flags, x.mod⟩
  else if x.kind = 9 then [] else l
end Go.Proofs.YtomeglmblhfafaaGreatDoor
