/- The laws' own helpers, for all data: what is left of a size, copies, equality. (By program: gen_dat.py.) -/
import Derived.Test.YtbcgldeleankcaaDoorcDat
set_option linter.unusedSectionVars false
set_option linter.all false
set_option linter.unusedVariables false
set_option linter.unusedSimpArgs false
set_option maxRecDepth 100000
namespace Go.Proofs.YtbcgldeleankcaaDoor
open Go.Lft

theorem eq_szStringS (xs : List S) (left : Int) (hw : (xs.length ≤ 9223372036854775807 ∧ ∀ y ∈ xs, y.length ≤ 9223372036854775807)) (h3 : 0 ≤ left) (h4 : left ≤ 1048576) : lim E 14 [.lst false 9 1 (xs.map .str), .int .i64 left] = some (.int .i64 (cut (left - ((xs.length + tot (fun (y : S) => y.length) xs) : Nat))), []) := by
  refine lim_run (E := E) rfl Tryd.func14 rfl (by kernel_rfl) (by kernel_rfl) ?_
  simp [Tryd.f14, tmpAt]
  have hl : xs.length ≤ 9223372036854775807 := hw.1
  have w0 : IntKind.i64.wrap (left - (xs.length : Int)) = left - xs.length := wrap_in (by omega) (by omega)
  simp [w0]
  refine RB_dec ?_ ?_ <;> intro h0 <;> simp
  · unfold cut; split <;> omega
  refine loop_ind (fun m st => ∃ (i : Nat) (n : Int), i + m = xs.length ∧ 0 ≤ n ∧ n ≤ left ∧ n - (tot (fun (y : S) => y.length) (xs.drop i) : Nat) = left - ((xs.length + tot (fun (y : S) => y.length) xs : Nat) : Int) ∧ st.env 0 = .lst false 9 1 (xs.map .str) ∧ st.env 1 = .int .i64 n ∧ st.env 5 = .int .i64 i) xs.length _ ?_ ?_
  · exact ⟨0, left - xs.length, by simp; omega⟩
  rintro m ⟨env, rs⟩ ⟨i, n, hi, hn, hn2, hs, e0, e1, e5⟩ ih
  simp at e0 e1 e5
  simp [e0, e1, e5]
  have hu := wrap_up (show i < 4611686018427387904 by omega)
  refine RB_dec ?_ ?_ <;> intro h
  · have hx := hw.2 xs[i] (List.getElem_mem h)
    have hd := tot_drop (fun (y : S) => y.length) h
    have hsz : n - ((xs[i].length : Nat) : Int) = left - ((xs.length + tot (fun (y : S) => y.length) xs : Nat) : Int) + (tot (fun (y : S) => y.length) (xs.drop (i + 1)) : Nat) := by omega
    have w1 : IntKind.i64.wrap (n - (xs[i].length : Int)) = n - xs[i].length := wrap_in (by omega) (by omega)
    simp [e0, e1, e5, h, w1]
    refine RB_dec ?_ ?_ <;> intro h1
    · simp; unfold cut; split <;> omega
    · simp [e0, e1, e5, hu]
      refine ih (m - 1) _ (by omega) ⟨i + 1, n - xs[i].length, ?_⟩
      simp [e0, e1, e5]
      omega
  · have hd : xs.drop i = [] := List.drop_eq_nil_of_le (by omega)
    rw [hd] at hs
    simp only [tot] at hs
    simp [e1, h]
    unfold cut; split <;> omega
theorem eq_toStringS (xs : List S) (h1 : (xs.length + tot (fun (y : S) => y.length) xs) ≤ 1048576) : lim E 15 [.lst false 9 1 (xs.map .str)] = some (.lst true 9 1 (xs.map .str), []) := by
  refine lim_run (E := E) rfl Tryd.func15 rfl (by kernel_rfl) (by kernel_rfl) ?_
  simp [Tryd.f15, tmpAt]
  refine ⟨by omega, ?_⟩
  refine loop_ind (fun m st => ∃ (i : Nat) (ys : List S), i + m = xs.length ∧ ys.length = xs.length ∧ xs.take i = ys.take i ∧ st.env 0 = .lst false 9 1 (xs.map .str) ∧ st.env 3 = .slc (7, 0) [] 0 xs.length ∧ st.env 4 = .int .i64 i ∧ st.rs (7, 0) = some ⟨false, .lst true 9 1 (ys.map .str)⟩) xs.length _ ?_ ?_
  · exact ⟨0, List.replicate xs.length [], by simp⟩
  rintro m ⟨env, rs⟩ ⟨i, ys, hi, hl, hs, e0, e3, e4, r⟩ ih
  simp at e0 e3 e4 r
  simp [e0, e3, e4, r]
  have hw := wrap_up (show i < 4611686018427387904 by omega)
  refine RB_dec ?_ ?_ <;> intro h
  · have h' : i < ys.length := by omega
    simp [e0, e3, e4, r, h, h', hl]
    refine ih (m - 1) _ (by omega) ⟨i + 1, ys.set i xs[i], ?_⟩
    simp [e0, e3, e4, hw, hl]
    exact ⟨by omega, take_next hs h h'⟩
  · have he := take_all hs h hl.symm
    subst he
    simp [e0, e3, e4, r, h, hl]
theorem eq_eqStringS (xs ys : List S) (h1 : (xs.length + tot (fun (y : S) => y.length) xs) ≤ 1048576) : lim E 16 [.lst false 9 1 (xs.map .str), .lst false 9 1 (ys.map .str)] = some (.bool (decide (xs = ys)), []) := by
  refine lim_run (E := E) rfl Tryd.func16 rfl (by kernel_rfl) (by kernel_rfl) ?_
  simp [Tryd.f16, tmpAt]
  refine RB_ndec ?_ ?_ <;> intro hl
  · simp
    intro hc; subst hc; exact hl rfl
  · simp
    have hl : xs.length = ys.length := by omega
    refine loop_ind (fun m st => ∃ (i : Nat), i + m = xs.length ∧ xs.take i = ys.take i ∧ st.env 0 = .lst false 9 1 (xs.map .str) ∧ st.env 1 = .lst false 9 1 (ys.map .str) ∧ st.env 5 = .int .i64 i) xs.length _ ?_ ?_
    · exact ⟨0, by simp⟩
    rintro m ⟨env, rs⟩ ⟨i, hi, hs, e0, e1, e5⟩ ih
    simp at e0 e1 e5
    simp [e0, e1, e5]
    have hw := wrap_up (show i < 4611686018427387904 by omega)
    refine RB_dec ?_ ?_ <;> intro h
    · have h' : i < ys.length := by omega
      simp [e0, e1, e5, h, h']
      refine RB_ndec ?_ ?_ <;> intro h2 <;> simp [e0, e1, e5]
      · intro hc; subst hc; exact h2 rfl
      · refine ih (m - 1) _ (by omega) ⟨i + 1, ?_⟩
        simp [e0, e1, e5, hw]
        exact ⟨by omega, take_eq hs h h' h2⟩
    · simp [e0, e1, e5, h]
      exact take_all hs h hl
theorem eq_toSeen (x : Seen) : lim E 71 [encSeen x] = some (encSeen x, []) := by
  refine lim_run (E := E) rfl Tryd.func71 rfl (by kernel_rfl) (by kernel_rfl) ?_
  simp [Tryd.f71, tmpAt]
theorem eq_eqSeen (x y : Seen) : lim E 76 [encSeen x, encSeen y] = some (.bool (decide (x = y)), []) := by
  refine lim_run (E := E) rfl Tryd.func76 rfl (by kernel_rfl) (by kernel_rfl) ?_
  simp [Tryd.f76, tmpAt]
  refine RB_ndec ?_ ?_ <;> intro h10
  · simp; intro hc; exact h10 (by rw [hc])
  simp
  refine RB_ndec ?_ ?_ <;> intro h11
  · simp; intro hc; exact h11 (by rw [hc])
  simp
  refine RB_ndec ?_ ?_ <;> intro h12
  · simp; intro hc; exact h12 (by rw [hc])
  simp
  cases x; cases y; simp_all
theorem eq_szSeenS (xs : List Seen) (left : Int) (hw : xs.length ≤ 9223372036854775807) (h3 : 0 ≤ left) (h4 : left ≤ 1048576) : lim E 40 [.lst false (teSeen true) 3 (xs.map encSeen), .int .i64 left] = some (.int .i64 (cut (left - (xs.length : Nat))), []) := by
  refine lim_run (E := E) rfl Tryd.func40 rfl (by kernel_rfl) (by kernel_rfl) ?_
  simp [Tryd.f40, tmpAt]
  have hl : xs.length ≤ 9223372036854775807 := hw
  have w0 : IntKind.i64.wrap (left - (xs.length : Int)) = left - xs.length := wrap_in (by omega) (by omega)
  simp [w0]
  refine RB_dec ?_ ?_ <;> intro h0 <;> simp
  · unfold cut; split <;> omega
  · unfold cut; split <;> omega
theorem eq_toSeenS (xs : List Seen) (h1 : xs.length ≤ 1048576) : lim E 43 [.lst false (teSeen true) 3 (xs.map encSeen)] = some (.lst true (teSeen false) 3 (xs.map encSeen), []) := by
  refine lim_run (E := E) rfl Tryd.func43 rfl (by kernel_rfl) (by kernel_rfl) ?_
  simp [Tryd.f43, tmpAt]
  refine ⟨by omega, ?_⟩
  refine loop_ind (fun m st => ∃ (i : Nat) (ys : List Seen), i + m = xs.length ∧ ys.length = xs.length ∧ xs.take i = ys.take i ∧ st.env 0 = .lst false (teSeen true) 3 (xs.map encSeen) ∧ st.env 3 = .slc (7, 0) [] 0 xs.length ∧ st.env 4 = .int .i64 i ∧ st.rs (7, 0) = some ⟨false, .lst true (teSeen false) 3 (ys.map encSeen)⟩) xs.length _ ?_ ?_
  · exact ⟨0, List.replicate xs.length zeroSeen, by simp⟩
  rintro m ⟨env, rs⟩ ⟨i, ys, hi, hl, hs, e0, e3, e4, r⟩ ih
  simp at e0 e3 e4 r
  simp [e0, e3, e4, r]
  have hw := wrap_up (show i < 4611686018427387904 by omega)
  refine RB_dec ?_ ?_ <;> intro h
  · have h' : i < ys.length := by omega
    have w1 := eq_toSeen xs[i]
    try simp at w1
    simp [e0, e3, e4, r, h, h', hl, w1]
    refine ih (m - 1) _ (by omega) ⟨i + 1, ys.set i xs[i], ?_⟩
    simp [e0, e3, e4, hw, hl]
    exact ⟨by omega, take_next hs h h'⟩
  · have he := take_all hs h hl.symm
    subst he
    simp [e0, e3, e4, r, h, hl]
theorem eq_eqSeenS (xs ys : List Seen) (h1 : xs.length ≤ 1048576) : lim E 46 [.lst false (teSeen false) 3 (xs.map encSeen), .lst false (teSeen false) 3 (ys.map encSeen)] = some (.bool (decide (xs = ys)), []) := by
  refine lim_run (E := E) rfl Tryd.func46 rfl (by kernel_rfl) (by kernel_rfl) ?_
  simp [Tryd.f46, tmpAt]
  refine RB_ndec ?_ ?_ <;> intro hl
  · simp
    intro hc; subst hc; exact hl rfl
  · simp
    have hl : xs.length = ys.length := by omega
    refine loop_ind (fun m st => ∃ (i : Nat), i + m = xs.length ∧ xs.take i = ys.take i ∧ st.env 0 = .lst false (teSeen false) 3 (xs.map encSeen) ∧ st.env 1 = .lst false (teSeen false) 3 (ys.map encSeen) ∧ st.env 5 = .int .i64 i) xs.length _ ?_ ?_
    · exact ⟨0, by simp⟩
    rintro m ⟨env, rs⟩ ⟨i, hi, hs, e0, e1, e5⟩ ih
    simp at e0 e1 e5
    simp [e0, e1, e5]
    have hw := wrap_up (show i < 4611686018427387904 by omega)
    refine RB_dec ?_ ?_ <;> intro h
    · have h' : i < ys.length := by omega
      have w1 := eq_eqSeen xs[i] ys[i]
      try simp at w1
      simp [e0, e1, e5, h, h', w1]
      refine RB_ndec ?_ ?_ <;> intro h2 <;> simp [e0, e1, e5]
      · intro hc; subst hc; exact h2 rfl
      · refine ih (m - 1) _ (by omega) ⟨i + 1, ?_⟩
        simp [e0, e1, e5, hw]
        exact ⟨by omega, take_eq hs h h' h2⟩
    · simp [e0, e1, e5, h]
      exact take_all hs h hl
theorem eq_szCache (x : Cache) (left : Int) (hw : wfCache x) (h3 : 0 ≤ left) (h4 : left ≤ 1048576) : lim E 17 [encCache true false x, .int .i64 left] = some (.int .i64 (cut (left - (szCache x : Nat))), []) := by
  have hz : szCache x = x.box.length + x.seens.length := rfl
  obtain ⟨f0, f1⟩ := hw
  refine lim_run (E := E) rfl Tryd.func17 rfl (by kernel_rfl) (by kernel_rfl) ?_
  simp [Tryd.f17, tmpAt]
  have w0 : IntKind.i64.wrap (left - (x.box.length : Int)) = left - x.box.length := wrap_in (by omega) (by omega)
  simp [w0]
  refine RB_dec ?_ ?_ <;> intro h0
  · simp; unfold cut; split <;> omega
  have w1 := eq_szSeenS x.seens (left - (x.box.length : Nat)) f1 (by omega) (by omega)
  try simp at w1
  simp [w1]
  refine RB_dec ?_ ?_ <;> intro h1
  · have := cut_neg h1; simp; unfold cut; split <;> omega
  obtain ⟨c1, d1⟩ := cut_pos h1
  simp [c1]
  unfold cut; split <;> omega
theorem eq_toCache (x : Cache) (h1 : szCache x ≤ 1048576) : lim E 19 [encCache true false x] = some (encCache false true x, []) := by
  have hz : szCache x = x.box.length + x.seens.length := rfl
  have w3 := eq_toSeenS x.seens (by omega)
  try simp at w3
  refine lim_run (E := E) rfl Tryd.func19 rfl (by kernel_rfl) (by kernel_rfl) ?_
  simp [Tryd.f19, tmpAt, w3]
theorem eq_eqCache (x y : Cache) (h1 : szCache x ≤ 1048576) : lim E 21 [encCache false false x, encCache false false y] = some (.bool (decide (x = y)), []) := by
  have hz : szCache x = x.box.length + x.seens.length := rfl
  refine lim_run (E := E) rfl Tryd.func21 rfl (by kernel_rfl) (by kernel_rfl) ?_
  simp [Tryd.f21, tmpAt]
  refine RB_ndec ?_ ?_ <;> intro h10
  · simp; intro hc; exact h10 (by rw [hc])
  simp
  refine RB_ndec ?_ ?_ <;> intro h11
  · simp; intro hc; exact h11 (by rw [hc])
  simp
  refine RB_ndec ?_ ?_ <;> intro h12
  · simp; intro hc; exact h12 (by rw [hc])
  have w3 := eq_eqSeenS x.seens y.seens (by omega)
  try simp at w3
  simp [w3]
  refine RB_ndec ?_ ?_ <;> intro h13
  · simp; intro hc; exact h13 (by rw [hc])
  simp
  cases x; cases y; simp_all
end Go.Proofs.YtbcgldeleankcaaDoor
