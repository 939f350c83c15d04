/- The laws' own helpers, for all data: what is left of a size, copies, equality. (By program: gen_dat.py.) -/
import Derived.Test.YtoahalaodhcjhaacDat
set_option linter.unusedSectionVars false
set_option linter.all false
set_option linter.unusedVariables false
set_option linter.unusedSimpArgs false
set_option maxRecDepth 100000
namespace Go.Proofs.Ytoahalaodhcjhaa
open Go.Lft

theorem eq_szStringS (xs : List S) (left : Int) (hw : (xs.length ≤ 9223372036854775807 ∧ ∀ y ∈ xs, y.length ≤ 9223372036854775807)) (h3 : 0 ≤ left) (h4 : left ≤ 1048576) : lim E 33 [.lst false 9 1 (xs.map .str), .int .i64 left] = some (.int .i64 (cut (left - ((xs.length + tot (fun (y : S) => y.length) xs) : Nat))), []) := by
  refine lim_run (E := E) rfl Try.func33 rfl (by kernel_rfl) (by kernel_rfl) ?_
  simp [Try.f33, tmpAt]
  have hl : xs.length ≤ 9223372036854775807 := hw.1
  have w0 : IntKind.i64.wrap (left - (xs.length : Int)) = left - xs.length := wrap_in (by omega) (by omega)
  simp [w0]
  refine RB_dec ?_ ?_ <;> intro h0 <;> simp
  · unfold cut; split <;> omega
  refine loop_ind (fun m st => ∃ (i : Nat) (n : Int), i + m = xs.length ∧ 0 ≤ n ∧ n ≤ left ∧ n - (tot (fun (y : S) => y.length) (xs.drop i) : Nat) = left - ((xs.length + tot (fun (y : S) => y.length) xs : Nat) : Int) ∧ st.env 0 = .lst false 9 1 (xs.map .str) ∧ st.env 1 = .int .i64 n ∧ st.env 5 = .int .i64 i) xs.length _ ?_ ?_
  · exact ⟨0, left - xs.length, by simp; omega⟩
  rintro m ⟨env, rs⟩ ⟨i, n, hi, hn, hn2, hs, e0, e1, e5⟩ ih
  simp at e0 e1 e5
  simp [e0, e1, e5]
  have hu := wrap_up (show i < 4611686018427387904 by omega)
  refine RB_dec ?_ ?_ <;> intro h
  · have hx := hw.2 xs[i] (List.getElem_mem h)
    have hd := tot_drop (fun (y : S) => y.length) h
    have hsz : n - ((xs[i].length : Nat) : Int) = left - ((xs.length + tot (fun (y : S) => y.length) xs : Nat) : Int) + (tot (fun (y : S) => y.length) (xs.drop (i + 1)) : Nat) := by omega
    have w1 : IntKind.i64.wrap (n - (xs[i].length : Int)) = n - xs[i].length := wrap_in (by omega) (by omega)
    simp [e0, e1, e5, h, w1]
    refine RB_dec ?_ ?_ <;> intro h1
    · simp; unfold cut; split <;> omega
    · simp [e0, e1, e5, hu]
      refine ih (m - 1) _ (by omega) ⟨i + 1, n - xs[i].length, ?_⟩
      simp [e0, e1, e5]
      omega
  · have hd : xs.drop i = [] := List.drop_eq_nil_of_le (by omega)
    rw [hd] at hs
    simp only [tot] at hs
    simp [e1, h]
    unfold cut; split <;> omega
theorem eq_toStringS (xs : List S) (h1 : (xs.length + tot (fun (y : S) => y.length) xs) ≤ 1048576) : lim E 36 [.lst false 9 1 (xs.map .str)] = some (.lst true 9 1 (xs.map .str), []) := by
  refine lim_run (E := E) rfl Try.func36 rfl (by kernel_rfl) (by kernel_rfl) ?_
  simp [Try.f36, tmpAt]
  refine ⟨by omega, ?_⟩
  refine loop_ind (fun m st => ∃ (i : Nat) (ys : List S), i + m = xs.length ∧ ys.length = xs.length ∧ xs.take i = ys.take i ∧ st.env 0 = .lst false 9 1 (xs.map .str) ∧ st.env 3 = .slc (7, 0) [] 0 xs.length ∧ st.env 4 = .int .i64 i ∧ st.rs (7, 0) = some ⟨false, .lst true 9 1 (ys.map .str)⟩) xs.length _ ?_ ?_
  · exact ⟨0, List.replicate xs.length [], by simp⟩
  rintro m ⟨env, rs⟩ ⟨i, ys, hi, hl, hs, e0, e3, e4, r⟩ ih
  simp at e0 e3 e4 r
  simp [e0, e3, e4, r]
  have hw := wrap_up (show i < 4611686018427387904 by omega)
  refine RB_dec ?_ ?_ <;> intro h
  · have h' : i < ys.length := by omega
    simp [e0, e3, e4, r, h, h', hl]
    refine ih (m - 1) _ (by omega) ⟨i + 1, ys.set i xs[i], ?_⟩
    simp [e0, e3, e4, hw, hl]
    exact ⟨by omega, take_next hs h h'⟩
  · have he := take_all hs h hl.symm
    subst he
    simp [e0, e3, e4, r, h, hl]
theorem eq_eqStringS (xs ys : List S) (h1 : (xs.length + tot (fun (y : S) => y.length) xs) ≤ 1048576) : lim E 30 [.lst false 9 1 (xs.map .str), .lst false 9 1 (ys.map .str)] = some (.bool (decide (xs = ys)), []) := by
  refine lim_run (E := E) rfl Try.func30 rfl (by kernel_rfl) (by kernel_rfl) ?_
  simp [Try.f30, tmpAt]
  refine RB_ndec ?_ ?_ <;> intro hl
  · simp
    intro hc; subst hc; exact hl rfl
  · simp
    have hl : xs.length = ys.length := by omega
    refine loop_ind (fun m st => ∃ (i : Nat), i + m = xs.length ∧ xs.take i = ys.take i ∧ st.env 0 = .lst false 9 1 (xs.map .str) ∧ st.env 1 = .lst false 9 1 (ys.map .str) ∧ st.env 5 = .int .i64 i) xs.length _ ?_ ?_
    · exact ⟨0, by simp⟩
    rintro m ⟨env, rs⟩ ⟨i, hi, hs, e0, e1, e5⟩ ih
    simp at e0 e1 e5
    simp [e0, e1, e5]
    have hw := wrap_up (show i < 4611686018427387904 by omega)
    refine RB_dec ?_ ?_ <;> intro h
    · have h' : i < ys.length := by omega
      simp [e0, e1, e5, h, h']
      refine RB_ndec ?_ ?_ <;> intro h2 <;> simp [e0, e1, e5]
      · intro hc; subst hc; exact h2 rfl
      · refine ih (m - 1) _ (by omega) ⟨i + 1, ?_⟩
        simp [e0, e1, e5, hw]
        exact ⟨by omega, take_eq hs h h' h2⟩
    · simp [e0, e1, e5, h]
      exact take_all hs h hl
theorem eq_szIntS (xs : List Int) (left : Int) (hw : xs.length ≤ 9223372036854775807) (h3 : 0 ≤ left) (h4 : left ≤ 1048576) : lim E 34 [.lst false 3 1 (xs.map (.int .i64)), .int .i64 left] = some (.int .i64 (cut (left - (xs.length : Nat))), []) := by
  refine lim_run (E := E) rfl Try.func34 rfl (by kernel_rfl) (by kernel_rfl) ?_
  simp [Try.f34, tmpAt]
  have hl : xs.length ≤ 9223372036854775807 := hw
  have w0 : IntKind.i64.wrap (left - (xs.length : Int)) = left - xs.length := wrap_in (by omega) (by omega)
  simp [w0]
  refine RB_dec ?_ ?_ <;> intro h0 <;> simp
  · unfold cut; split <;> omega
  · unfold cut; split <;> omega
theorem eq_toIntS (xs : List Int) (h1 : xs.length ≤ 1048576) : lim E 37 [.lst false 3 1 (xs.map (.int .i64))] = some (.lst true 3 1 (xs.map (.int .i64)), []) := by
  refine lim_run (E := E) rfl Try.func37 rfl (by kernel_rfl) (by kernel_rfl) ?_
  simp [Try.f37, tmpAt]
  refine ⟨by omega, ?_⟩
  refine loop_ind (fun m st => ∃ (i : Nat) (ys : List Int), i + m = xs.length ∧ ys.length = xs.length ∧ xs.take i = ys.take i ∧ st.env 0 = .lst false 3 1 (xs.map (.int .i64)) ∧ st.env 3 = .slc (7, 0) [] 0 xs.length ∧ st.env 4 = .int .i64 i ∧ st.rs (7, 0) = some ⟨false, .lst true 3 1 (ys.map (.int .i64))⟩) xs.length _ ?_ ?_
  · exact ⟨0, List.replicate xs.length 0, by simp⟩
  rintro m ⟨env, rs⟩ ⟨i, ys, hi, hl, hs, e0, e3, e4, r⟩ ih
  simp at e0 e3 e4 r
  simp [e0, e3, e4, r]
  have hw := wrap_up (show i < 4611686018427387904 by omega)
  refine RB_dec ?_ ?_ <;> intro h
  · have h' : i < ys.length := by omega
    simp [e0, e3, e4, r, h, h', hl]
    refine ih (m - 1) _ (by omega) ⟨i + 1, ys.set i xs[i], ?_⟩
    simp [e0, e3, e4, hw, hl]
    exact ⟨by omega, take_next hs h h'⟩
  · have he := take_all hs h hl.symm
    subst he
    simp [e0, e3, e4, r, h, hl]
theorem eq_eqIntS (xs ys : List Int) (h1 : xs.length ≤ 1048576) : lim E 39 [.lst false 3 1 (xs.map (.int .i64)), .lst false 3 1 (ys.map (.int .i64))] = some (.bool (decide (xs = ys)), []) := by
  refine lim_run (E := E) rfl Try.func39 rfl (by kernel_rfl) (by kernel_rfl) ?_
  simp [Try.f39, tmpAt]
  refine RB_ndec ?_ ?_ <;> intro hl
  · simp
    intro hc; subst hc; exact hl rfl
  · simp
    have hl : xs.length = ys.length := by omega
    refine loop_ind (fun m st => ∃ (i : Nat), i + m = xs.length ∧ xs.take i = ys.take i ∧ st.env 0 = .lst false 3 1 (xs.map (.int .i64)) ∧ st.env 1 = .lst false 3 1 (ys.map (.int .i64)) ∧ st.env 5 = .int .i64 i) xs.length _ ?_ ?_
    · exact ⟨0, by simp⟩
    rintro m ⟨env, rs⟩ ⟨i, hi, hs, e0, e1, e5⟩ ih
    simp at e0 e1 e5
    simp [e0, e1, e5]
    have hw := wrap_up (show i < 4611686018427387904 by omega)
    refine RB_dec ?_ ?_ <;> intro h
    · have h' : i < ys.length := by omega
      simp [e0, e1, e5, h, h']
      refine RB_ndec ?_ ?_ <;> intro h2 <;> simp [e0, e1, e5]
      · intro hc; subst hc; exact h2 rfl
      · refine ih (m - 1) _ (by omega) ⟨i + 1, ?_⟩
        simp [e0, e1, e5, hw]
        exact ⟨by omega, take_eq hs h h' h2⟩
    · simp [e0, e1, e5, h]
      exact take_all hs h hl
theorem eq_szMail (x : Mail) (left : Int) (hw : wfMail x) (h3 : 0 ≤ left) (h4 : left ≤ 1048576) : lim E 69 [encMail x, .int .i64 left] = some (.int .i64 (cut (left - (szMail x : Nat))), []) := by
  have hz : szMail x = x.text.length := rfl
  have f0 := hw
  simp only [wfMail] at f0
  refine lim_run (E := E) rfl Try.func69 rfl (by kernel_rfl) (by kernel_rfl) ?_
  simp [Try.f69, tmpAt]
  have w0 : IntKind.i64.wrap (left - (x.text.length : Int)) = left - x.text.length := wrap_in (by omega) (by omega)
  simp [w0]
  refine RB_dec ?_ ?_ <;> intro h0
  · simp; unfold cut; split <;> omega
  simp
  unfold cut; split <;> omega
theorem eq_toMail (x : Mail) (h1 : szMail x ≤ 1048576) : lim E 70 [encMail x] = some (encMail x, []) := by
  have hz : szMail x = x.text.length := rfl
  refine lim_run (E := E) rfl Try.func70 rfl (by kernel_rfl) (by kernel_rfl) ?_
  simp [Try.f70, tmpAt]
theorem eq_eqMail (x y : Mail) (h1 : szMail x ≤ 1048576) : lim E 72 [encMail x, encMail y] = some (.bool (decide (x = y)), []) := by
  have hz : szMail x = x.text.length := rfl
  refine lim_run (E := E) rfl Try.func72 rfl (by kernel_rfl) (by kernel_rfl) ?_
  simp [Try.f72, tmpAt]
  refine RB_ndec ?_ ?_ <;> intro h10
  · simp; intro hc; exact h10 (by rw [hc])
  simp
  refine RB_ndec ?_ ?_ <;> intro h11
  · simp; intro hc; exact h11 (by rw [hc])
  simp
  refine RB_ndec ?_ ?_ <;> intro h12
  · simp; intro hc; exact h12 (by rw [hc])
  simp
  refine RB_ndec ?_ ?_ <;> intro h13
  · simp; intro hc; exact h13 (by rw [hc])
  simp
  cases x; cases y; simp_all
theorem eq_toTomb (x : Tomb) : lim E 71 [encTomb x] = some (encTomb x, []) := by
  refine lim_run (E := E) rfl Try.func71 rfl (by kernel_rfl) (by kernel_rfl) ?_
  simp [Try.f71, tmpAt]
theorem eq_eqTomb (x y : Tomb) : lim E 73 [encTomb x, encTomb y] = some (.bool (decide (x = y)), []) := by
  refine lim_run (E := E) rfl Try.func73 rfl (by kernel_rfl) (by kernel_rfl) ?_
  simp [Try.f73, tmpAt]
  refine RB_ndec ?_ ?_ <;> intro h10
  · simp; intro hc; exact h10 (by rw [hc])
  simp
  refine RB_ndec ?_ ?_ <;> intro h11
  · simp; intro hc; exact h11 (by rw [hc])
  simp
  cases x; cases y; simp_all
theorem eq_szMailS (xs : List Mail) (left : Int) (hw : (xs.length ≤ 9223372036854775807 ∧ ∀ y ∈ xs, wfMail y)) (h3 : 0 ≤ left) (h4 : left ≤ 1048576) : lim E 48 [.lst false (teMail true) 4 (xs.map encMail), .int .i64 left] = some (.int .i64 (cut (left - ((xs.length + tot (fun (y : Mail) => szMail y) xs) : Nat))), []) := by
  refine lim_run (E := E) rfl Try.func48 rfl (by kernel_rfl) (by kernel_rfl) ?_
  simp [Try.f48, tmpAt]
  have hl : xs.length ≤ 9223372036854775807 := hw.1
  have w0 : IntKind.i64.wrap (left - (xs.length : Int)) = left - xs.length := wrap_in (by omega) (by omega)
  simp [w0]
  refine RB_dec ?_ ?_ <;> intro h0 <;> simp
  · unfold cut; split <;> omega
  refine loop_ind (fun m st => ∃ (i : Nat) (n : Int), i + m = xs.length ∧ 0 ≤ n ∧ n ≤ left ∧ n - (tot (fun (y : Mail) => szMail y) (xs.drop i) : Nat) = left - ((xs.length + tot (fun (y : Mail) => szMail y) xs : Nat) : Int) ∧ st.env 0 = .lst false (teMail true) 4 (xs.map encMail) ∧ st.env 1 = .int .i64 n ∧ st.env 5 = .int .i64 i) xs.length _ ?_ ?_
  · exact ⟨0, left - xs.length, by simp; omega⟩
  rintro m ⟨env, rs⟩ ⟨i, n, hi, hn, hn2, hs, e0, e1, e5⟩ ih
  simp at e0 e1 e5
  simp [e0, e1, e5]
  have hu := wrap_up (show i < 4611686018427387904 by omega)
  refine RB_dec ?_ ?_ <;> intro h
  · have hx := hw.2 xs[i] (List.getElem_mem h)
    have hd := tot_drop (fun (y : Mail) => szMail y) h
    have hsz : n - ((szMail xs[i] : Nat) : Int) = left - ((xs.length + tot (fun (y : Mail) => szMail y) xs : Nat) : Int) + (tot (fun (y : Mail) => szMail y) (xs.drop (i + 1)) : Nat) := by omega
    have w1 := eq_szMail xs[i] n hx hn (by omega)
    try simp at w1
    simp [e0, e1, e5, h, w1]
    refine RB_dec ?_ ?_ <;> intro h1
    · have := cut_neg h1; simp; unfold cut; split <;> omega
    · obtain ⟨c1, c2⟩ := cut_pos h1
      simp [e0, e1, e5, hu, c1]
      refine ih (m - 1) _ (by omega) ⟨i + 1, n - (szMail xs[i] : Nat), ?_⟩
      simp [e0, e1, e5]
      omega
  · have hd : xs.drop i = [] := List.drop_eq_nil_of_le (by omega)
    rw [hd] at hs
    simp only [tot] at hs
    simp [e1, h]
    unfold cut; split <;> omega
theorem eq_toMailS (xs : List Mail) (h1 : (xs.length + tot (fun (y : Mail) => szMail y) xs) ≤ 1048576) : lim E 50 [.lst false (teMail true) 4 (xs.map encMail)] = some (.lst true (teMail false) 4 (xs.map encMail), []) := by
  refine lim_run (E := E) rfl Try.func50 rfl (by kernel_rfl) (by kernel_rfl) ?_
  simp [Try.f50, tmpAt]
  refine ⟨by omega, ?_⟩
  refine loop_ind (fun m st => ∃ (i : Nat) (ys : List Mail), i + m = xs.length ∧ ys.length = xs.length ∧ xs.take i = ys.take i ∧ st.env 0 = .lst false (teMail true) 4 (xs.map encMail) ∧ st.env 3 = .slc (7, 0) [] 0 xs.length ∧ st.env 4 = .int .i64 i ∧ st.rs (7, 0) = some ⟨false, .lst true (teMail false) 4 (ys.map encMail)⟩) xs.length _ ?_ ?_
  · exact ⟨0, List.replicate xs.length zeroMail, by simp⟩
  rintro m ⟨env, rs⟩ ⟨i, ys, hi, hl, hs, e0, e3, e4, r⟩ ih
  simp at e0 e3 e4 r
  simp [e0, e3, e4, r]
  have hw := wrap_up (show i < 4611686018427387904 by omega)
  refine RB_dec ?_ ?_ <;> intro h
  · have h' : i < ys.length := by omega
    have hz := tot_mem (fun (y : Mail) => szMail y) (List.getElem_mem h)
    have w1 := eq_toMail xs[i] (by omega)
    try simp at w1
    simp [e0, e3, e4, r, h, h', hl, w1]
    refine ih (m - 1) _ (by omega) ⟨i + 1, ys.set i xs[i], ?_⟩
    simp [e0, e3, e4, hw, hl]
    exact ⟨by omega, take_next hs h h'⟩
  · have he := take_all hs h hl.symm
    subst he
    simp [e0, e3, e4, r, h, hl]
theorem eq_eqMailS (xs ys : List Mail) (h1 : (xs.length + tot (fun (y : Mail) => szMail y) xs) ≤ 1048576) : lim E 54 [.lst false (teMail false) 4 (xs.map encMail), .lst false (teMail false) 4 (ys.map encMail)] = some (.bool (decide (xs = ys)), []) := by
  refine lim_run (E := E) rfl Try.func54 rfl (by kernel_rfl) (by kernel_rfl) ?_
  simp [Try.f54, tmpAt]
  refine RB_ndec ?_ ?_ <;> intro hl
  · simp
    intro hc; subst hc; exact hl rfl
  · simp
    have hl : xs.length = ys.length := by omega
    refine loop_ind (fun m st => ∃ (i : Nat), i + m = xs.length ∧ xs.take i = ys.take i ∧ st.env 0 = .lst false (teMail false) 4 (xs.map encMail) ∧ st.env 1 = .lst false (teMail false) 4 (ys.map encMail) ∧ st.env 5 = .int .i64 i) xs.length _ ?_ ?_
    · exact ⟨0, by simp⟩
    rintro m ⟨env, rs⟩ ⟨i, hi, hs, e0, e1, e5⟩ ih
    simp at e0 e1 e5
    simp [e0, e1, e5]
    have hw := wrap_up (show i < 4611686018427387904 by omega)
    refine RB_dec ?_ ?_ <;> intro h
    · have h' : i < ys.length := by omega
      have hz := tot_mem (fun (y : Mail) => szMail y) (List.getElem_mem h)
      have w1 := eq_eqMail xs[i] ys[i] (by omega)
      try simp at w1
      simp [e0, e1, e5, h, h', w1]
      refine RB_ndec ?_ ?_ <;> intro h2 <;> simp [e0, e1, e5]
      · intro hc; subst hc; exact h2 rfl
      · refine ih (m - 1) _ (by omega) ⟨i + 1, ?_⟩
        simp [e0, e1, e5, hw]
        exact ⟨by omega, take_eq hs h h' h2⟩
    · simp [e0, e1, e5, h]
      exact take_all hs h hl
theorem eq_szTombS (xs : List Tomb) (left : Int) (hw : xs.length ≤ 9223372036854775807) (h3 : 0 ≤ left) (h4 : left ≤ 1048576) : lim E 49 [.lst false (teTomb true) 2 (xs.map encTomb), .int .i64 left] = some (.int .i64 (cut (left - (xs.length : Nat))), []) := by
  refine lim_run (E := E) rfl Try.func49 rfl (by kernel_rfl) (by kernel_rfl) ?_
  simp [Try.f49, tmpAt]
  have hl : xs.length ≤ 9223372036854775807 := hw
  have w0 : IntKind.i64.wrap (left - (xs.length : Int)) = left - xs.length := wrap_in (by omega) (by omega)
  simp [w0]
  refine RB_dec ?_ ?_ <;> intro h0 <;> simp
  · unfold cut; split <;> omega
  · unfold cut; split <;> omega
theorem eq_toTombS (xs : List Tomb) (h1 : xs.length ≤ 1048576) : lim E 51 [.lst false (teTomb true) 2 (xs.map encTomb)] = some (.lst true (teTomb false) 2 (xs.map encTomb), []) := by
  refine lim_run (E := E) rfl Try.func51 rfl (by kernel_rfl) (by kernel_rfl) ?_
  simp [Try.f51, tmpAt]
  refine ⟨by omega, ?_⟩
  refine loop_ind (fun m st => ∃ (i : Nat) (ys : List Tomb), i + m = xs.length ∧ ys.length = xs.length ∧ xs.take i = ys.take i ∧ st.env 0 = .lst false (teTomb true) 2 (xs.map encTomb) ∧ st.env 3 = .slc (7, 0) [] 0 xs.length ∧ st.env 4 = .int .i64 i ∧ st.rs (7, 0) = some ⟨false, .lst true (teTomb false) 2 (ys.map encTomb)⟩) xs.length _ ?_ ?_
  · exact ⟨0, List.replicate xs.length zeroTomb, by simp⟩
  rintro m ⟨env, rs⟩ ⟨i, ys, hi, hl, hs, e0, e3, e4, r⟩ ih
  simp at e0 e3 e4 r
  simp [e0, e3, e4, r]
  have hw := wrap_up (show i < 4611686018427387904 by omega)
  refine RB_dec ?_ ?_ <;> intro h
  · have h' : i < ys.length := by omega
    have w1 := eq_toTomb xs[i]
    try simp at w1
    simp [e0, e3, e4, r, h, h', hl, w1]
    refine ih (m - 1) _ (by omega) ⟨i + 1, ys.set i xs[i], ?_⟩
    simp [e0, e3, e4, hw, hl]
    exact ⟨by omega, take_next hs h h'⟩
  · have he := take_all hs h hl.symm
    subst he
    simp [e0, e3, e4, r, h, hl]
theorem eq_eqTombS (xs ys : List Tomb) (h1 : xs.length ≤ 1048576) : lim E 55 [.lst false (teTomb false) 2 (xs.map encTomb), .lst false (teTomb false) 2 (ys.map encTomb)] = some (.bool (decide (xs = ys)), []) := by
  refine lim_run (E := E) rfl Try.func55 rfl (by kernel_rfl) (by kernel_rfl) ?_
  simp [Try.f55, tmpAt]
  refine RB_ndec ?_ ?_ <;> intro hl
  · simp
    intro hc; subst hc; exact hl rfl
  · simp
    have hl : xs.length = ys.length := by omega
    refine loop_ind (fun m st => ∃ (i : Nat), i + m = xs.length ∧ xs.take i = ys.take i ∧ st.env 0 = .lst false (teTomb false) 2 (xs.map encTomb) ∧ st.env 1 = .lst false (teTomb false) 2 (ys.map encTomb) ∧ st.env 5 = .int .i64 i) xs.length _ ?_ ?_
    · exact ⟨0, by simp⟩
    rintro m ⟨env, rs⟩ ⟨i, hi, hs, e0, e1, e5⟩ ih
    simp at e0 e1 e5
    simp [e0, e1, e5]
    have hw := wrap_up (show i < 4611686018427387904 by omega)
    refine RB_dec ?_ ?_ <;> intro h
    · have h' : i < ys.length := by omega
      have w1 := eq_eqTomb xs[i] ys[i]
      try simp at w1
      simp [e0, e1, e5, h, h', w1]
      refine RB_ndec ?_ ?_ <;> intro h2 <;> simp [e0, e1, e5]
      · intro hc; subst hc; exact h2 rfl
      · refine ih (m - 1) _ (by omega) ⟨i + 1, ?_⟩
        simp [e0, e1, e5, hw]
        exact ⟨by omega, take_eq hs h h' h2⟩
    · simp [e0, e1, e5, h]
      exact take_all hs h hl
theorem eq_szBox (x : Box) (left : Int) (hw : wfBox x) (h3 : 0 ≤ left) (h4 : left ≤ 1048576) : lim E 18 [encBox true false x, .int .i64 left] = some (.int .i64 (cut (left - (szBox x : Nat))), []) := by
  have hz : szBox x = x.name.length + (x.mails.length + tot (fun (y : Mail) => szMail y) x.mails) + x.tombs.length := rfl
  obtain ⟨f0, f1, f2⟩ := hw
  refine lim_run (E := E) rfl Try.func18 rfl (by kernel_rfl) (by kernel_rfl) ?_
  simp [Try.f18, tmpAt]
  have w0 : IntKind.i64.wrap (left - (x.name.length : Int)) = left - x.name.length := wrap_in (by omega) (by omega)
  simp [w0]
  refine RB_dec ?_ ?_ <;> intro h0
  · simp; unfold cut; split <;> omega
  have w1 := eq_szMailS x.mails (left - (x.name.length : Nat)) f1 (by omega) (by omega)
  try simp at w1
  simp [w1]
  refine RB_dec ?_ ?_ <;> intro h1
  · have := cut_neg h1; simp; unfold cut; split <;> omega
  obtain ⟨c1, d1⟩ := cut_pos h1
  have w2 := eq_szTombS x.tombs (left - (x.name.length : Nat) - ((x.mails.length + tot (fun (y : Mail) => szMail y) x.mails) : Nat)) f2 (by omega) (by omega)
  try simp at w2
  simp [w2, c1]
  refine RB_dec ?_ ?_ <;> intro h2
  · have := cut_neg h2; simp; unfold cut; split <;> omega
  obtain ⟨c2, d2⟩ := cut_pos h2
  simp [c1, c2]
  unfold cut; split <;> omega
theorem eq_toBox (x : Box) (h1 : szBox x ≤ 1048576) : lim E 20 [encBox true false x] = some (encBox false true x, []) := by
  have hz : szBox x = x.name.length + (x.mails.length + tot (fun (y : Mail) => szMail y) x.mails) + x.tombs.length := rfl
  have w4 := eq_toMailS x.mails (by omega)
  try simp at w4
  have w5 := eq_toTombS x.tombs (by omega)
  try simp at w5
  refine lim_run (E := E) rfl Try.func20 rfl (by kernel_rfl) (by kernel_rfl) ?_
  simp [Try.f20, tmpAt, w4, w5]
theorem eq_eqBox (x y : Box) (h1 : szBox x ≤ 1048576) : lim E 22 [encBox false false x, encBox false false y] = some (.bool (decide (x = y)), []) := by
  have hz : szBox x = x.name.length + (x.mails.length + tot (fun (y : Mail) => szMail y) x.mails) + x.tombs.length := rfl
  refine lim_run (E := E) rfl Try.func22 rfl (by kernel_rfl) (by kernel_rfl) ?_
  simp [Try.f22, tmpAt]
  refine RB_ndec ?_ ?_ <;> intro h10
  · simp; intro hc; exact h10 (by rw [hc])
  simp
  refine RB_ndec ?_ ?_ <;> intro h11
  · simp; intro hc; exact h11 (by rw [hc])
  simp
  refine RB_ndec ?_ ?_ <;> intro h12
  · simp; intro hc; exact h12 (by rw [hc])
  simp
  refine RB_ndec ?_ ?_ <;> intro h13
  · simp; intro hc; exact h13 (by rw [hc])
  have w4 := eq_eqMailS x.mails y.mails (by omega)
  try simp at w4
  simp [w4]
  refine RB_ndec ?_ ?_ <;> intro h14
  · simp; intro hc; exact h14 (by rw [hc])
  have w5 := eq_eqTombS x.tombs y.tombs (by omega)
  try simp at w5
  simp [w5]
  refine RB_ndec ?_ ?_ <;> intro h15
  · simp; intro hc; exact h15 (by rw [hc])
  simp
  refine RB_ndec ?_ ?_ <;> intro h16
  · simp; intro hc; exact h16 (by rw [hc])
  simp
  cases x; cases y; simp_all
theorem eq_szBoxS (xs : List Box) (left : Int) (hw : (xs.length ≤ 9223372036854775807 ∧ ∀ y ∈ xs, wfBox y)) (h3 : 0 ≤ left) (h4 : left ≤ 1048576) : lim E 56 [.lst false (teBox true) 7 (xs.map (encBox true false)), .int .i64 left] = some (.int .i64 (cut (left - ((xs.length + tot (fun (y : Box) => szBox y) xs) : Nat))), []) := by
  refine lim_run (E := E) rfl Try.func56 rfl (by kernel_rfl) (by kernel_rfl) ?_
  simp [Try.f56, tmpAt]
  have hl : xs.length ≤ 9223372036854775807 := hw.1
  have w0 : IntKind.i64.wrap (left - (xs.length : Int)) = left - xs.length := wrap_in (by omega) (by omega)
  simp [w0]
  refine RB_dec ?_ ?_ <;> intro h0 <;> simp
  · unfold cut; split <;> omega
  refine loop_ind (fun m st => ∃ (i : Nat) (n : Int), i + m = xs.length ∧ 0 ≤ n ∧ n ≤ left ∧ n - (tot (fun (y : Box) => szBox y) (xs.drop i) : Nat) = left - ((xs.length + tot (fun (y : Box) => szBox y) xs : Nat) : Int) ∧ st.env 0 = .lst false (teBox true) 7 (xs.map (encBox true false)) ∧ st.env 1 = .int .i64 n ∧ st.env 5 = .int .i64 i) xs.length _ ?_ ?_
  · exact ⟨0, left - xs.length, by simp; omega⟩
  rintro m ⟨env, rs⟩ ⟨i, n, hi, hn, hn2, hs, e0, e1, e5⟩ ih
  simp at e0 e1 e5
  simp [e0, e1, e5]
  have hu := wrap_up (show i < 4611686018427387904 by omega)
  refine RB_dec ?_ ?_ <;> intro h
  · have hx := hw.2 xs[i] (List.getElem_mem h)
    have hd := tot_drop (fun (y : Box) => szBox y) h
    have hsz : n - ((szBox xs[i] : Nat) : Int) = left - ((xs.length + tot (fun (y : Box) => szBox y) xs : Nat) : Int) + (tot (fun (y : Box) => szBox y) (xs.drop (i + 1)) : Nat) := by omega
    have w1 := eq_szBox xs[i] n hx hn (by omega)
    try simp at w1
    simp [e0, e1, e5, h, w1]
    refine RB_dec ?_ ?_ <;> intro h1
    · have := cut_neg h1; simp; unfold cut; split <;> omega
    · obtain ⟨c1, c2⟩ := cut_pos h1
      simp [e0, e1, e5, hu, c1]
      refine ih (m - 1) _ (by omega) ⟨i + 1, n - (szBox xs[i] : Nat), ?_⟩
      simp [e0, e1, e5]
      omega
  · have hd : xs.drop i = [] := List.drop_eq_nil_of_le (by omega)
    rw [hd] at hs
    simp only [tot] at hs
    simp [e1, h]
    unfold cut; split <;> omega
theorem eq_toBoxS (xs : List Box) (h1 : (xs.length + tot (fun (y : Box) => szBox y) xs) ≤ 1048576) : lim E 58 [.lst false (teBox true) 7 (xs.map (encBox true false))] = some (.lst true (teBox false) 7 (xs.map (encBox false true)), []) := by
  refine lim_run (E := E) rfl Try.func58 rfl (by kernel_rfl) (by kernel_rfl) ?_
  simp [Try.f58, tmpAt]
  refine ⟨by omega, ?_⟩
  refine loop_ind (fun m st => ∃ (i : Nat) (ys : List Box), i + m = xs.length ∧ ys.length = xs.length ∧ xs.take i = ys.take i ∧ st.env 0 = .lst false (teBox true) 7 (xs.map (encBox true false)) ∧ st.env 3 = .slc (7, 0) [] 0 xs.length ∧ st.env 4 = .int .i64 i ∧ st.rs (7, 0) = some ⟨false, .lst true (teBox false) 7 (ys.map (encBox false true))⟩) xs.length _ ?_ ?_
  · exact ⟨0, List.replicate xs.length zeroBox, by simp⟩
  rintro m ⟨env, rs⟩ ⟨i, ys, hi, hl, hs, e0, e3, e4, r⟩ ih
  simp at e0 e3 e4 r
  simp [e0, e3, e4, r]
  have hw := wrap_up (show i < 4611686018427387904 by omega)
  refine RB_dec ?_ ?_ <;> intro h
  · have h' : i < ys.length := by omega
    have hz := tot_mem (fun (y : Box) => szBox y) (List.getElem_mem h)
    have w1 := eq_toBox xs[i] (by omega)
    try simp at w1
    simp [e0, e3, e4, r, h, h', hl, w1]
    refine ih (m - 1) _ (by omega) ⟨i + 1, ys.set i xs[i], ?_⟩
    simp [e0, e3, e4, hw, hl]
    exact ⟨by omega, take_next hs h h'⟩
  · have he := take_all hs h hl.symm
    subst he
    simp [e0, e3, e4, r, h, hl]
theorem eq_eqBoxS (xs ys : List Box) (h1 : (xs.length + tot (fun (y : Box) => szBox y) xs) ≤ 1048576) : lim E 61 [.lst false (teBox false) 7 (xs.map (encBox false false)), .lst false (teBox false) 7 (ys.map (encBox false false))] = some (.bool (decide (xs = ys)), []) := by
  refine lim_run (E := E) rfl Try.func61 rfl (by kernel_rfl) (by kernel_rfl) ?_
  simp [Try.f61, tmpAt]
  refine RB_ndec ?_ ?_ <;> intro hl
  · simp
    intro hc; subst hc; exact hl rfl
  · simp
    have hl : xs.length = ys.length := by omega
    refine loop_ind (fun m st => ∃ (i : Nat), i + m = xs.length ∧ xs.take i = ys.take i ∧ st.env 0 = .lst false (teBox false) 7 (xs.map (encBox false false)) ∧ st.env 1 = .lst false (teBox false) 7 (ys.map (encBox false false)) ∧ st.env 5 = .int .i64 i) xs.length _ ?_ ?_
    · exact ⟨0, by simp⟩
    rintro m ⟨env, rs⟩ ⟨i, hi, hs, e0, e1, e5⟩ ih
    simp at e0 e1 e5
    simp [e0, e1, e5]
    have hw := wrap_up (show i < 4611686018427387904 by omega)
    refine RB_dec ?_ ?_ <;> intro h
    · have h' : i < ys.length := by omega
      have hz := tot_mem (fun (y : Box) => szBox y) (List.getElem_mem h)
      have w1 := eq_eqBox xs[i] ys[i] (by omega)
      try simp at w1
      simp [e0, e1, e5, h, h', w1]
      refine RB_ndec ?_ ?_ <;> intro h2 <;> simp [e0, e1, e5]
      · intro hc; subst hc; exact h2 rfl
      · refine ih (m - 1) _ (by omega) ⟨i + 1, ?_⟩
        simp [e0, e1, e5, hw]
        exact ⟨by omega, take_eq hs h h' h2⟩
    · simp [e0, e1, e5, h]
      exact take_all hs h hl
theorem eq_szStore (x : Store) (left : Int) (hw : wfStore x) (h3 : 0 ≤ left) (h4 : left ≤ 1048576) : lim E 23 [encStore true false x, .int .i64 left] = some (.int .i64 (cut (left - (szStore x : Nat))), []) := by
  have hz : szStore x = (x.boxes.length + tot (fun (y : Box) => szBox y) x.boxes) := rfl
  have f0 := hw
  simp only [wfStore] at f0
  refine lim_run (E := E) rfl Try.func23 rfl (by kernel_rfl) (by kernel_rfl) ?_
  simp [Try.f23, tmpAt]
  have w0 := eq_szBoxS x.boxes (left) f0 (by omega) (by omega)
  try simp at w0
  simp [w0]
  refine RB_dec ?_ ?_ <;> intro h0
  · have := cut_neg h0; simp; unfold cut; split <;> omega
  obtain ⟨c0, d0⟩ := cut_pos h0
  simp [c0]
  unfold cut; split <;> omega
theorem eq_toStore (x : Store) (h1 : szStore x ≤ 1048576) : lim E 25 [encStore true false x] = some (encStore false true x, []) := by
  have hz : szStore x = (x.boxes.length + tot (fun (y : Box) => szBox y) x.boxes) := rfl
  have w0 := eq_toBoxS x.boxes (by omega)
  try simp at w0
  refine lim_run (E := E) rfl Try.func25 rfl (by kernel_rfl) (by kernel_rfl) ?_
  simp [Try.f25, tmpAt, w0]
theorem eq_eqStore (x y : Store) (h1 : szStore x ≤ 1048576) : lim E 27 [encStore false false x, encStore false false y] = some (.bool (decide (x = y)), []) := by
  have hz : szStore x = (x.boxes.length + tot (fun (y : Box) => szBox y) x.boxes) := rfl
  refine lim_run (E := E) rfl Try.func27 rfl (by kernel_rfl) (by kernel_rfl) ?_
  simp [Try.f27, tmpAt]
  have w0 := eq_eqBoxS x.boxes y.boxes (by omega)
  try simp at w0
  simp [w0]
  refine RB_ndec ?_ ?_ <;> intro h10
  · simp; intro hc; exact h10 (by rw [hc])
  simp
  refine RB_ndec ?_ ?_ <;> intro h11
  · simp; intro hc; exact h11 (by rw [hc])
  simp
  cases x; cases y; simp_all
theorem eq_toSeen (x : Seen) : lim E 67 [encSeen x] = some (encSeen x, []) := by
  refine lim_run (E := E) rfl Try.func67 rfl (by kernel_rfl) (by kernel_rfl) ?_
  simp [Try.f67, tmpAt]
theorem eq_eqSeen (x y : Seen) : lim E 68 [encSeen x, encSeen y] = some (.bool (decide (x = y)), []) := by
  refine lim_run (E := E) rfl Try.func68 rfl (by kernel_rfl) (by kernel_rfl) ?_
  simp [Try.f68, tmpAt]
  refine RB_ndec ?_ ?_ <;> intro h10
  · simp; intro hc; exact h10 (by rw [hc])
  simp
  refine RB_ndec ?_ ?_ <;> intro h11
  · simp; intro hc; exact h11 (by rw [hc])
  simp
  refine RB_ndec ?_ ?_ <;> intro h12
  · simp; intro hc; exact h12 (by rw [hc])
  simp
  cases x; cases y; simp_all
theorem eq_szSeenS (xs : List Seen) (left : Int) (hw : xs.length ≤ 9223372036854775807) (h3 : 0 ≤ left) (h4 : left ≤ 1048576) : lim E 40 [.lst false (teSeen true) 3 (xs.map encSeen), .int .i64 left] = some (.int .i64 (cut (left - (xs.length : Nat))), []) := by
  refine lim_run (E := E) rfl Try.func40 rfl (by kernel_rfl) (by kernel_rfl) ?_
  simp [Try.f40, tmpAt]
  have hl : xs.length ≤ 9223372036854775807 := hw
  have w0 : IntKind.i64.wrap (left - (xs.length : Int)) = left - xs.length := wrap_in (by omega) (by omega)
  simp [w0]
  refine RB_dec ?_ ?_ <;> intro h0 <;> simp
  · unfold cut; split <;> omega
  · unfold cut; split <;> omega
theorem eq_toSeenS (xs : List Seen) (h1 : xs.length ≤ 1048576) : lim E 43 [.lst false (teSeen true) 3 (xs.map encSeen)] = some (.lst true (teSeen false) 3 (xs.map encSeen), []) := by
  refine lim_run (E := E) rfl Try.func43 rfl (by kernel_rfl) (by kernel_rfl) ?_
  simp [Try.f43, tmpAt]
  refine ⟨by omega, ?_⟩
  refine loop_ind (fun m st => ∃ (i : Nat) (ys : List Seen), i + m = xs.length ∧ ys.length = xs.length ∧ xs.take i = ys.take i ∧ st.env 0 = .lst false (teSeen true) 3 (xs.map encSeen) ∧ st.env 3 = .slc (7, 0) [] 0 xs.length ∧ st.env 4 = .int .i64 i ∧ st.rs (7, 0) = some ⟨false, .lst true (teSeen false) 3 (ys.map encSeen)⟩) xs.length _ ?_ ?_
  · exact ⟨0, List.replicate xs.length zeroSeen, by simp⟩
  rintro m ⟨env, rs⟩ ⟨i, ys, hi, hl, hs, e0, e3, e4, r⟩ ih
  simp at e0 e3 e4 r
  simp [e0, e3, e4, r]
  have hw := wrap_up (show i < 4611686018427387904 by omega)
  refine RB_dec ?_ ?_ <;> intro h
  · have h' : i < ys.length := by omega
    have w1 := eq_toSeen xs[i]
    try simp at w1
    simp [e0, e3, e4, r, h, h', hl, w1]
    refine ih (m - 1) _ (by omega) ⟨i + 1, ys.set i xs[i], ?_⟩
    simp [e0, e3, e4, hw, hl]
    exact ⟨by omega, take_next hs h h'⟩
  · have he := take_all hs h hl.symm
    subst he
    simp [e0, e3, e4, r, h, hl]
theorem eq_eqSeenS (xs ys : List Seen) (h1 : xs.length ≤ 1048576) : lim E 47 [.lst false (teSeen false) 3 (xs.map encSeen), .lst false (teSeen false) 3 (ys.map encSeen)] = some (.bool (decide (xs = ys)), []) := by
  refine lim_run (E := E) rfl Try.func47 rfl (by kernel_rfl) (by kernel_rfl) ?_
  simp [Try.f47, tmpAt]
  refine RB_ndec ?_ ?_ <;> intro hl
  · simp
    intro hc; subst hc; exact hl rfl
  · simp
    have hl : xs.length = ys.length := by omega
    refine loop_ind (fun m st => ∃ (i : Nat), i + m = xs.length ∧ xs.take i = ys.take i ∧ st.env 0 = .lst false (teSeen false) 3 (xs.map encSeen) ∧ st.env 1 = .lst false (teSeen false) 3 (ys.map encSeen) ∧ st.env 5 = .int .i64 i) xs.length _ ?_ ?_
    · exact ⟨0, by simp⟩
    rintro m ⟨env, rs⟩ ⟨i, hi, hs, e0, e1, e5⟩ ih
    simp at e0 e1 e5
    simp [e0, e1, e5]
    have hw := wrap_up (show i < 4611686018427387904 by omega)
    refine RB_dec ?_ ?_ <;> intro h
    · have h' : i < ys.length := by omega
      have w1 := eq_eqSeen xs[i] ys[i]
      try simp at w1
      simp [e0, e1, e5, h, h', w1]
      refine RB_ndec ?_ ?_ <;> intro h2 <;> simp [e0, e1, e5]
      · intro hc; subst hc; exact h2 rfl
      · refine ih (m - 1) _ (by omega) ⟨i + 1, ?_⟩
        simp [e0, e1, e5, hw]
        exact ⟨by omega, take_eq hs h h' h2⟩
    · simp [e0, e1, e5, h]
      exact take_all hs h hl
theorem eq_szCache (x : Cache) (left : Int) (hw : wfCache x) (h3 : 0 ≤ left) (h4 : left ≤ 1048576) : lim E 13 [encCache true false x, .int .i64 left] = some (.int .i64 (cut (left - (szCache x : Nat))), []) := by
  have hz : szCache x = x.box.length + x.seens.length := rfl
  obtain ⟨f0, f1⟩ := hw
  refine lim_run (E := E) rfl Try.func13 rfl (by kernel_rfl) (by kernel_rfl) ?_
  simp [Try.f13, tmpAt]
  have w0 : IntKind.i64.wrap (left - (x.box.length : Int)) = left - x.box.length := wrap_in (by omega) (by omega)
  simp [w0]
  refine RB_dec ?_ ?_ <;> intro h0
  · simp; unfold cut; split <;> omega
  have w1 := eq_szSeenS x.seens (left - (x.box.length : Nat)) f1 (by omega) (by omega)
  try simp at w1
  simp [w1]
  refine RB_dec ?_ ?_ <;> intro h1
  · have := cut_neg h1; simp; unfold cut; split <;> omega
  obtain ⟨c1, d1⟩ := cut_pos h1
  simp [c1]
  unfold cut; split <;> omega
theorem eq_toCache (x : Cache) (h1 : szCache x ≤ 1048576) : lim E 15 [encCache true false x] = some (encCache false true x, []) := by
  have hz : szCache x = x.box.length + x.seens.length := rfl
  have w3 := eq_toSeenS x.seens (by omega)
  try simp at w3
  refine lim_run (E := E) rfl Try.func15 rfl (by kernel_rfl) (by kernel_rfl) ?_
  simp [Try.f15, tmpAt, w3]
theorem eq_eqCache (x y : Cache) (h1 : szCache x ≤ 1048576) : lim E 17 [encCache false false x, encCache false false y] = some (.bool (decide (x = y)), []) := by
  have hz : szCache x = x.box.length + x.seens.length := rfl
  refine lim_run (E := E) rfl Try.func17 rfl (by kernel_rfl) (by kernel_rfl) ?_
  simp [Try.f17, tmpAt]
  refine RB_ndec ?_ ?_ <;> intro h10
  · simp; intro hc; exact h10 (by rw [hc])
  simp
  refine RB_ndec ?_ ?_ <;> intro h11
  · simp; intro hc; exact h11 (by rw [hc])
  simp
  refine RB_ndec ?_ ?_ <;> intro h12
  · simp; intro hc; exact h12 (by rw [hc])
  have w3 := eq_eqSeenS x.seens y.seens (by omega)
  try simp at w3
  simp [w3]
  refine RB_ndec ?_ ?_ <;> intro h13
  · simp; intro hc; exact h13 (by rw [hc])
  simp
  cases x; cases y; simp_all
theorem eq_szEvent (x : Event) (left : Int) (hw : wfEvent x) (h3 : 0 ≤ left) (h4 : left ≤ 1048576) : lim E 8 [encEvent false x, .int .i64 left] = some (.int .i64 (cut (left - (szEvent x : Nat))), []) := by
  have hz : szEvent x = (x.words.length + tot (fun (y : S) => y.length) x.words) + x.left_.length := rfl
  obtain ⟨f0, f1⟩ := hw
  refine lim_run (E := E) rfl Try.func8 rfl (by kernel_rfl) (by kernel_rfl) ?_
  simp [Try.f8, tmpAt]
  have w0 := eq_szStringS x.words (left) f0 (by omega) (by omega)
  try simp at w0
  simp [w0]
  refine RB_dec ?_ ?_ <;> intro h0
  · have := cut_neg h0; simp; unfold cut; split <;> omega
  obtain ⟨c0, d0⟩ := cut_pos h0
  have w1 := eq_szIntS x.left_ (left - ((x.words.length + tot (fun (y : S) => y.length) x.words) : Nat)) f1 (by omega) (by omega)
  try simp at w1
  simp [w1, c0]
  refine RB_dec ?_ ?_ <;> intro h1
  · have := cut_neg h1; simp; unfold cut; split <;> omega
  obtain ⟨c1, d1⟩ := cut_pos h1
  simp [c0, c1]
  unfold cut; split <;> omega
theorem eq_toEvent (x : Event) (h1 : szEvent x ≤ 1048576) : lim E 10 [encEvent false x] = some (encEvent true x, []) := by
  have hz : szEvent x = (x.words.length + tot (fun (y : S) => y.length) x.words) + x.left_.length := rfl
  have w2 := eq_toStringS x.words (by omega)
  try simp at w2
  have w4 := eq_toIntS x.left_ (by omega)
  try simp at w4
  refine lim_run (E := E) rfl Try.func10 rfl (by kernel_rfl) (by kernel_rfl) ?_
  simp [Try.f10, tmpAt, w2, w4]
theorem eq_eqEvent (x y : Event) (h1 : szEvent x ≤ 1048576) : lim E 12 [encEvent false x, encEvent false y] = some (.bool (decide (x = y)), []) := by
  have hz : szEvent x = (x.words.length + tot (fun (y : S) => y.length) x.words) + x.left_.length := rfl
  refine lim_run (E := E) rfl Try.func12 rfl (by kernel_rfl) (by kernel_rfl) ?_
  simp [Try.f12, tmpAt]
  refine RB_ndec ?_ ?_ <;> intro h10
  · simp; intro hc; exact h10 (by rw [hc])
  simp
  refine RB_ndec ?_ ?_ <;> intro h11
  · simp; intro hc; exact h11 (by rw [hc])
  have w2 := eq_eqStringS x.words y.words (by omega)
  try simp at w2
  simp [w2]
  refine RB_ndec ?_ ?_ <;> intro h12
  · simp; intro hc; exact h12 (by rw [hc])
  simp
  refine RB_ndec ?_ ?_ <;> intro h13
  · simp; intro hc; exact h13 (by rw [hc])
  have w4 := eq_eqIntS x.left_ y.left_ (by omega)
  try simp at w4
  simp [w4]
  refine RB_ndec ?_ ?_ <;> intro h14
  · simp; intro hc; exact h14 (by rw [hc])
  simp
  cases x; cases y; simp_all
end Go.Proofs.Ytoahalaodhcjhaa
