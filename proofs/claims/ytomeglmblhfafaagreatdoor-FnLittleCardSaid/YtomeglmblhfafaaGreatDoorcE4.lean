/- Small functions of the laws: Uids, in, all. -/
import Derived.Test.YtomeglmblhfafaaGreatDoorcH2
import Derived.Test.YtomeglmblhfafaaGreatDoorcD9
import Derived.Test.YtomeglmblhfafaaGreatDoorcD14
import Derived.Test.YtomeglmblhfafaaGreatDoorcC4
import Derived.Test.YtomeglmblhfafaaGreatDoorcG1
import Derived.Test.YtomeglmblhfafaaGreatDoorcF1
set_option linter.unusedSectionVars false
set_option linter.all false
set_option linter.unusedVariables false
set_option linter.unusedSimpArgs false
set_option maxRecDepth 100000
namespace Go.Proofs.YtomeglmblhfafaaGreatDoor
open Go.Lft

noncomputable def addAll (b : Box) : List Mail → Option Box
  | [] => some b
  | m :: ms => if (addMail b m.flags m.text).2 = 0 then none else addAll (addMail b m.flags m.text).1 ms
theorem addAll_append : ∀ (xs ys : List Mail) (b : Box), addAll b (xs ++ ys) = (addAll b xs).bind fun c => addAll c ys
  | [], ys, b => rfl
  | x :: xs, ys, b => by
    simp only [List.cons_append, addAll]
    split
    · rfl
    · exact addAll_append xs ys _
theorem addAll_ok : ∀ (ms : List Mail) {b c : Box}, boxOk b = true → addAll b ms = some c → boxOk c = true ∧ c.name = b.name ∧ c.valid = b.valid
  | [], b, c, hb, h => by obtain rfl := Option.some.inj h; exact ⟨hb, rfl, rfl⟩
  | m :: ms, b, c, hb, h => by
    simp only [addAll] at h
    split at h
    · cases h
    · obtain ⟨h1, h2, h3⟩ := addAll_ok ms (addMail_ok hb) h
      refine ⟨h1, h2.trans ?_, h3.trans ?_⟩ <;> (unfold addMail; split <;> rfl)
noncomputable def copyMails (s : Store) (a : S) (set_ : List Range) (z : S) : Store × Int :=
  if storeOk s = true ∧ setOk set_ = true then
    if (boxAt s a).2 = true ∧ (boxAt s z).2 = true then
      match addAll (boxAt s z).1 ((boxAt s a).1.mails.filter fun m => setHas set_ m.uid) with
      | some b => (putBox s b, 0)
      | none => (s, 3)
    else (s, 1)
  else (s, 4)
theorem boxAt_mem {s : Store} {n : S} (h : (boxAt s n).2 = true) : (boxAt s n).1 ∈ s.boxes ∧ (boxAt s n).1.name = n := by
  unfold boxAt at h ⊢
  split at h
  · rename_i b hb
    have h1 := List.mem_of_find?_eq_some hb
    have h2 := List.find?_some hb
    exact ⟨h1, by simpa [isNamed] using h2⟩
  · cases h
end Go.Proofs.YtomeglmblhfafaaGreatDoor

set_option linter.unusedVariables false
set_option linter.unusedSimpArgs false
set_option maxRecDepth 100000
namespace Go.Proofs.YtomeglmblhfafaaGreatDoor
open Go.Lft

/-! ### How many -/
def sumS : List Range → Int
  | [] => 0
  | r :: l => r.hi - r.lo + 1 + sumS l
def sizeS (s : List Range) : Int := if setOk s = true then sumS s else 0
theorem sumS_snoc : ∀ (l : List Range) (r : Range), sumS (l ++ [r]) = sumS l + (r.hi - r.lo + 1)
  | [], r => by simp [sumS]
  | x :: l, r => by simp only [List.cons_append, sumS, sumS_snoc l r]; omega
theorem sumS_in : ∀ {s : List Range}, (∀ r ∈ s, 1 ≤ r.lo ∧ r.lo ≤ r.hi ∧ r.hi ≤ 9999) → 0 ≤ sumS s ∧ sumS s ≤ 9999 * s.length
  | [], _ => by simp [sumS]
  | r :: s, h => by
    have h1 := h r (by simp)
    have h2 := sumS_in (s := s) fun x hx => h x (by simp [hx])
    simp only [sumS, List.length_cons]
    omega
theorem eq_sSetSize (s : List Range) (hl : s.length ≤ 16777216) : lim E 224 [.lst false 161 2 (s.map encRange)] = some (.int .i64 (sizeS s), []) := by
  have w1 := eq_sSetOk s hl
  cases hk : setOk s
  · rw [hk] at w1
    refine lim_run (E := E) rfl Tryz.func224 rfl (by kernel_rfl) (by kernel_rfl) ?_
    simp [Tryz.f224, tmpAt, w1]
    simp [sizeS, hk]
  rw [hk] at w1
  have h40 := setOk_40 hk
  have hk2 : setOkL none s = true := by simp [setOk] at hk; exact hk.1
  have hmem := setOkL_mem hk2
  refine lim_run (E := E) rfl Tryz.func224 rfl (by kernel_rfl) (by kernel_rfl) ?_
  simp [Tryz.f224, tmpAt, w1]
  refine loop_fr [0] [] (fun m st => ∃ (i : Nat) (n : Int), i + m = s.length ∧ n = sumS (s.take i) ∧ st.env 3 = .int .i64 n ∧ st.env 4 = .int .i64 i) (s.length) _ ?_ ?_
  · exact ⟨0, 0, by simp [sumS]⟩
  rintro m0 ⟨env, rs⟩ hU0 hV0 ⟨i, n, hi, hn, e0_3, e0_4⟩ ih0; simp at hU0 e0_3 e0_4; clear hV0
  have hw := wrap_up (show i < 4611686018427387904 by omega)
  have hb := sumS_in (s := s.take i) fun x hx => hmem x (List.mem_of_mem_take hx)
  rw [← hn, List.length_take] at hb
  simp [hU0, e0_3, e0_4]
  refine RB_dec ?_ ?_ <;> intro h
  · have hx := hmem s[i] (List.getElem_mem h)
    have c1 : IntKind.i64.wrap (n + s[i].hi) = n + s[i].hi := wrap_in (by omega) (by omega)
    have c2 : IntKind.i64.wrap (n + s[i].hi - s[i].lo) = n + s[i].hi - s[i].lo := wrap_in (by omega) (by omega)
    have c3 : IntKind.i64.wrap (n + s[i].hi - s[i].lo + 1) = n + s[i].hi - s[i].lo + 1 := wrap_in (by omega) (by omega)
    simp [hU0, e0_3, e0_4, h, tmpAt, c1, c2, c3]
    refine ih0 (m0 - 1) _ (by omega) ?_ ?_ ⟨i + 1, n + s[i].hi - s[i].lo + 1, by omega, by rw [List.take_succ_eq_append_getElem h, sumS_snoc, ← hn]; omega, ?_⟩
    · simp [hU0, e0_3, e0_4]
    · simp [hU0, e0_3, e0_4]
    simp [hU0, e0_3, e0_4, hw]
  · rw [List.take_of_length_le (by omega)] at hn
    simp [hU0, e0_3, e0_4, h, sizeS, hk, hn]
end Go.Proofs.YtomeglmblhfafaaGreatDoor
