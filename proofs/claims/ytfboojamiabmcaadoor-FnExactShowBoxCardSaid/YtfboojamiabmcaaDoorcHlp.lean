/- The laws' own helpers, for all data: what is left of a size, copies, equality. (By program: gen_dat.py.) -/
import Derived.Test.YtfboojamiabmcaaDoorcDat
set_option linter.unusedSectionVars false
set_option linter.all false
set_option linter.unusedVariables false
set_option linter.unusedSimpArgs false
set_option maxRecDepth 100000
namespace Go.Proofs.YtfboojamiabmcaaDoor
open Go.Lft

theorem eq_eqStringS (xs ys : List S) (h1 : (xs.length + tot (fun (y : S) => y.length) xs) ≤ 1048576) : lim E 64 [.lst false 9 1 (xs.map .str), .lst false 9 1 (ys.map .str)] = some (.bool (decide (xs = ys)), []) := by
  refine lim_run (E := E) rfl Tryd.func64 rfl (by kernel_rfl) (by kernel_rfl) ?_
  simp [Tryd.f64, tmpAt]
  refine RB_ndec ?_ ?_ <;> intro hl
  · simp
    intro hc; subst hc; exact hl rfl
  · simp
    have hl : xs.length = ys.length := by omega
    refine loop_ind (fun m st => ∃ (i : Nat), i + m = xs.length ∧ xs.take i = ys.take i ∧ st.env 0 = .lst false 9 1 (xs.map .str) ∧ st.env 1 = .lst false 9 1 (ys.map .str) ∧ st.env 5 = .int .i64 i) xs.length _ ?_ ?_
    · exact ⟨0, by simp⟩
    rintro m ⟨env, rs⟩ ⟨i, hi, hs, e0, e1, e5⟩ ih
    simp at e0 e1 e5
    simp [e0, e1, e5]
    have hw := wrap_up (show i < 4611686018427387904 by omega)
    refine RB_dec ?_ ?_ <;> intro h
    · have h' : i < ys.length := by omega
      simp [e0, e1, e5, h, h']
      refine RB_ndec ?_ ?_ <;> intro h2 <;> simp [e0, e1, e5]
      · intro hc; subst hc; exact h2 rfl
      · refine ih (m - 1) _ (by omega) ⟨i + 1, ?_⟩
        simp [e0, e1, e5, hw]
        exact ⟨by omega, take_eq hs h h' h2⟩
    · simp [e0, e1, e5, h]
      exact take_all hs h hl
theorem eq_eqIntS (xs ys : List Int) (h1 : xs.length ≤ 1048576) : lim E 65 [.lst false 3 1 (xs.map (.int .i64)), .lst false 3 1 (ys.map (.int .i64))] = some (.bool (decide (xs = ys)), []) := by
  refine lim_run (E := E) rfl Tryd.func65 rfl (by kernel_rfl) (by kernel_rfl) ?_
  simp [Tryd.f65, tmpAt]
  refine RB_ndec ?_ ?_ <;> intro hl
  · simp
    intro hc; subst hc; exact hl rfl
  · simp
    have hl : xs.length = ys.length := by omega
    refine loop_ind (fun m st => ∃ (i : Nat), i + m = xs.length ∧ xs.take i = ys.take i ∧ st.env 0 = .lst false 3 1 (xs.map (.int .i64)) ∧ st.env 1 = .lst false 3 1 (ys.map (.int .i64)) ∧ st.env 5 = .int .i64 i) xs.length _ ?_ ?_
    · exact ⟨0, by simp⟩
    rintro m ⟨env, rs⟩ ⟨i, hi, hs, e0, e1, e5⟩ ih
    simp at e0 e1 e5
    simp [e0, e1, e5]
    have hw := wrap_up (show i < 4611686018427387904 by omega)
    refine RB_dec ?_ ?_ <;> intro h
    · have h' : i < ys.length := by omega
      simp [e0, e1, e5, h, h']
      refine RB_ndec ?_ ?_ <;> intro h2 <;> simp [e0, e1, e5]
      · intro hc; subst hc; exact h2 rfl
      · refine ih (m - 1) _ (by omega) ⟨i + 1, ?_⟩
        simp [e0, e1, e5, hw]
        exact ⟨by omega, take_eq hs h h' h2⟩
    · simp [e0, e1, e5, h]
      exact take_all hs h hl
theorem eq_szMail (x : Mail) (left : Int) (hw : wfMail x) (h3 : 0 ≤ left) (h4 : left ≤ 1048576) : lim E 39 [encMail x, .int .i64 left] = some (.int .i64 (cut (left - (szMail x : Nat))), []) := by
  have hz : szMail x = x.text.length := rfl
  have f0 := hw
  simp only [wfMail] at f0
  refine lim_run (E := E) rfl Tryd.func39 rfl (by kernel_rfl) (by kernel_rfl) ?_
  simp [Tryd.f39, tmpAt]
  have w0 : IntKind.i64.wrap (left - (x.text.length : Int)) = left - x.text.length := wrap_in (by omega) (by omega)
  simp [w0]
  refine RB_dec ?_ ?_ <;> intro h0
  · simp; unfold cut; split <;> omega
  simp
  unfold cut; split <;> omega
theorem eq_toMail (x : Mail) (h1 : szMail x ≤ 1048576) : lim E 47 [encMail x] = some (encMail x, []) := by
  have hz : szMail x = x.text.length := rfl
  refine lim_run (E := E) rfl Tryd.func47 rfl (by kernel_rfl) (by kernel_rfl) ?_
  simp [Tryd.f47, tmpAt]
theorem eq_eqMail (x y : Mail) (h1 : szMail x ≤ 1048576) : lim E 58 [encMail x, encMail y] = some (.bool (decide (x = y)), []) := by
  have hz : szMail x = x.text.length := rfl
  refine lim_run (E := E) rfl Tryd.func58 rfl (by kernel_rfl) (by kernel_rfl) ?_
  simp [Tryd.f58, tmpAt]
  refine RB_ndec ?_ ?_ <;> intro h10
  · simp; intro hc; exact h10 (by rw [hc])
  simp
  refine RB_ndec ?_ ?_ <;> intro h11
  · simp; intro hc; exact h11 (by rw [hc])
  simp
  refine RB_ndec ?_ ?_ <;> intro h12
  · simp; intro hc; exact h12 (by rw [hc])
  simp
  refine RB_ndec ?_ ?_ <;> intro h13
  · simp; intro hc; exact h13 (by rw [hc])
  simp
  cases x; cases y; simp_all
theorem eq_toTomb (x : Tomb) : lim E 48 [encTomb x] = some (encTomb x, []) := by
  refine lim_run (E := E) rfl Tryd.func48 rfl (by kernel_rfl) (by kernel_rfl) ?_
  simp [Tryd.f48, tmpAt]
theorem eq_eqTomb (x y : Tomb) : lim E 59 [encTomb x, encTomb y] = some (.bool (decide (x = y)), []) := by
  refine lim_run (E := E) rfl Tryd.func59 rfl (by kernel_rfl) (by kernel_rfl) ?_
  simp [Tryd.f59, tmpAt]
  refine RB_ndec ?_ ?_ <;> intro h10
  · simp; intro hc; exact h10 (by rw [hc])
  simp
  refine RB_ndec ?_ ?_ <;> intro h11
  · simp; intro hc; exact h11 (by rw [hc])
  simp
  cases x; cases y; simp_all
theorem eq_szMailS (xs : List Mail) (left : Int) (hw : (xs.length ≤ 9223372036854775807 ∧ ∀ y ∈ xs, wfMail y)) (h3 : 0 ≤ left) (h4 : left ≤ 1048576) : lim E 15 [.lst false (teMail true) 4 (xs.map encMail), .int .i64 left] = some (.int .i64 (cut (left - ((xs.length + tot (fun (y : Mail) => szMail y) xs) : Nat))), []) := by
  refine lim_run (E := E) rfl Tryd.func15 rfl (by kernel_rfl) (by kernel_rfl) ?_
  simp [Tryd.f15, tmpAt]
  have hl : xs.length ≤ 9223372036854775807 := hw.1
  have w0 : IntKind.i64.wrap (left - (xs.length : Int)) = left - xs.length := wrap_in (by omega) (by omega)
  simp [w0]
  refine RB_dec ?_ ?_ <;> intro h0 <;> simp
  · unfold cut; split <;> omega
  refine loop_ind (fun m st => ∃ (i : Nat) (n : Int), i + m = xs.length ∧ 0 ≤ n ∧ n ≤ left ∧ n - (tot (fun (y : Mail) => szMail y) (xs.drop i) : Nat) = left - ((xs.length + tot (fun (y : Mail) => szMail y) xs : Nat) : Int) ∧ st.env 0 = .lst false (teMail true) 4 (xs.map encMail) ∧ st.env 1 = .int .i64 n ∧ st.env 5 = .int .i64 i) xs.length _ ?_ ?_
  · exact ⟨0, left - xs.length, by simp; omega⟩
  rintro m ⟨env, rs⟩ ⟨i, n, hi, hn, hn2, hs, e0, e1, e5⟩ ih
  simp at e0 e1 e5
  simp [e0, e1, e5]
  have hu := wrap_up (show i < 4611686018427387904 by omega)
  refine RB_dec ?_ ?_ <;> intro h
  · have hx := hw.2 xs[i] (List.getElem_mem h)
    have hd := tot_drop (fun (y : Mail) => szMail y) h
    have hsz : n - ((szMail xs[i] : Nat) : Int) = left - ((xs.length + tot (fun (y : Mail) => szMail y) xs : Nat) : Int) + (tot (fun (y : Mail) => szMail y) (xs.drop (i + 1)) : Nat) := by omega
    have w1 := eq_szMail xs[i] n hx hn (by omega)
    try simp at w1
    simp [e0, e1, e5, h, w1]
    refine RB_dec ?_ ?_ <;> intro h1
    · have := cut_neg h1; simp; unfold cut; split <;> omega
    · obtain ⟨c1, c2⟩ := cut_pos h1
      simp [e0, e1, e5, hu, c1]
      refine ih (m - 1) _ (by omega) ⟨i + 1, n - (szMail xs[i] : Nat), ?_⟩
      simp [e0, e1, e5]
      omega
  · have hd : xs.drop i = [] := List.drop_eq_nil_of_le (by omega)
    rw [hd] at hs
    simp only [tot] at hs
    simp [e1, h]
    unfold cut; split <;> omega
theorem eq_toMailS (xs : List Mail) (h1 : (xs.length + tot (fun (y : Mail) => szMail y) xs) ≤ 1048576) : lim E 20 [.lst false (teMail true) 4 (xs.map encMail)] = some (.lst true (teMail false) 4 (xs.map encMail), []) := by
  refine lim_run (E := E) rfl Tryd.func20 rfl (by kernel_rfl) (by kernel_rfl) ?_
  simp [Tryd.f20, tmpAt]
  refine ⟨by omega, ?_⟩
  refine loop_ind (fun m st => ∃ (i : Nat) (ys : List Mail), i + m = xs.length ∧ ys.length = xs.length ∧ xs.take i = ys.take i ∧ st.env 0 = .lst false (teMail true) 4 (xs.map encMail) ∧ st.env 3 = .slc (7, 0) [] 0 xs.length ∧ st.env 4 = .int .i64 i ∧ st.rs (7, 0) = some ⟨false, .lst true (teMail false) 4 (ys.map encMail)⟩) xs.length _ ?_ ?_
  · exact ⟨0, List.replicate xs.length zeroMail, by simp⟩
  rintro m ⟨env, rs⟩ ⟨i, ys, hi, hl, hs, e0, e3, e4, r⟩ ih
  simp at e0 e3 e4 r
  simp [e0, e3, e4, r]
  have hw := wrap_up (show i < 4611686018427387904 by omega)
  refine RB_dec ?_ ?_ <;> intro h
  · have h' : i < ys.length := by omega
    have hz := tot_mem (fun (y : Mail) => szMail y) (List.getElem_mem h)
    have w1 := eq_toMail xs[i] (by omega)
    try simp at w1
    simp [e0, e3, e4, r, h, h', hl, w1]
    refine ih (m - 1) _ (by omega) ⟨i + 1, ys.set i xs[i], ?_⟩
    simp [e0, e3, e4, hw, hl]
    exact ⟨by omega, take_next hs h h'⟩
  · have he := take_all hs h hl.symm
    subst he
    simp [e0, e3, e4, r, h, hl]
theorem eq_eqMailS (xs ys : List Mail) (h1 : (xs.length + tot (fun (y : Mail) => szMail y) xs) ≤ 1048576) : lim E 25 [.lst false (teMail false) 4 (xs.map encMail), .lst false (teMail false) 4 (ys.map encMail)] = some (.bool (decide (xs = ys)), []) := by
  refine lim_run (E := E) rfl Tryd.func25 rfl (by kernel_rfl) (by kernel_rfl) ?_
  simp [Tryd.f25, tmpAt]
  refine RB_ndec ?_ ?_ <;> intro hl
  · simp
    intro hc; subst hc; exact hl rfl
  · simp
    have hl : xs.length = ys.length := by omega
    refine loop_ind (fun m st => ∃ (i : Nat), i + m = xs.length ∧ xs.take i = ys.take i ∧ st.env 0 = .lst false (teMail false) 4 (xs.map encMail) ∧ st.env 1 = .lst false (teMail false) 4 (ys.map encMail) ∧ st.env 5 = .int .i64 i) xs.length _ ?_ ?_
    · exact ⟨0, by simp⟩
    rintro m ⟨env, rs⟩ ⟨i, hi, hs, e0, e1, e5⟩ ih
    simp at e0 e1 e5
    simp [e0, e1, e5]
    have hw := wrap_up (show i < 4611686018427387904 by omega)
    refine RB_dec ?_ ?_ <;> intro h
    · have h' : i < ys.length := by omega
      have hz := tot_mem (fun (y : Mail) => szMail y) (List.getElem_mem h)
      have w1 := eq_eqMail xs[i] ys[i] (by omega)
      try simp at w1
      simp [e0, e1, e5, h, h', w1]
      refine RB_ndec ?_ ?_ <;> intro h2 <;> simp [e0, e1, e5]
      · intro hc; subst hc; exact h2 rfl
      · refine ih (m - 1) _ (by omega) ⟨i + 1, ?_⟩
        simp [e0, e1, e5, hw]
        exact ⟨by omega, take_eq hs h h' h2⟩
    · simp [e0, e1, e5, h]
      exact take_all hs h hl
theorem eq_szTombS (xs : List Tomb) (left : Int) (hw : xs.length ≤ 9223372036854775807) (h3 : 0 ≤ left) (h4 : left ≤ 1048576) : lim E 16 [.lst false (teTomb true) 2 (xs.map encTomb), .int .i64 left] = some (.int .i64 (cut (left - (xs.length : Nat))), []) := by
  refine lim_run (E := E) rfl Tryd.func16 rfl (by kernel_rfl) (by kernel_rfl) ?_
  simp [Tryd.f16, tmpAt]
  have hl : xs.length ≤ 9223372036854775807 := hw
  have w0 : IntKind.i64.wrap (left - (xs.length : Int)) = left - xs.length := wrap_in (by omega) (by omega)
  simp [w0]
  refine RB_dec ?_ ?_ <;> intro h0 <;> simp
  · unfold cut; split <;> omega
  · unfold cut; split <;> omega
theorem eq_toTombS (xs : List Tomb) (h1 : xs.length ≤ 1048576) : lim E 21 [.lst false (teTomb true) 2 (xs.map encTomb)] = some (.lst true (teTomb false) 2 (xs.map encTomb), []) := by
  refine lim_run (E := E) rfl Tryd.func21 rfl (by kernel_rfl) (by kernel_rfl) ?_
  simp [Tryd.f21, tmpAt]
  refine ⟨by omega, ?_⟩
  refine loop_ind (fun m st => ∃ (i : Nat) (ys : List Tomb), i + m = xs.length ∧ ys.length = xs.length ∧ xs.take i = ys.take i ∧ st.env 0 = .lst false (teTomb true) 2 (xs.map encTomb) ∧ st.env 3 = .slc (7, 0) [] 0 xs.length ∧ st.env 4 = .int .i64 i ∧ st.rs (7, 0) = some ⟨false, .lst true (teTomb false) 2 (ys.map encTomb)⟩) xs.length _ ?_ ?_
  · exact ⟨0, List.replicate xs.length zeroTomb, by simp⟩
  rintro m ⟨env, rs⟩ ⟨i, ys, hi, hl, hs, e0, e3, e4, r⟩ ih
  simp at e0 e3 e4 r
  simp [e0, e3, e4, r]
  have hw := wrap_up (show i < 4611686018427387904 by omega)
  refine RB_dec ?_ ?_ <;> intro h
  · have h' : i < ys.length := by omega
    have w1 := eq_toTomb xs[i]
    try simp at w1
    simp [e0, e3, e4, r, h, h', hl, w1]
    refine ih (m - 1) _ (by omega) ⟨i + 1, ys.set i xs[i], ?_⟩
    simp [e0, e3, e4, hw, hl]
    exact ⟨by omega, take_next hs h h'⟩
  · have he := take_all hs h hl.symm
    subst he
    simp [e0, e3, e4, r, h, hl]
theorem eq_eqTombS (xs ys : List Tomb) (h1 : xs.length ≤ 1048576) : lim E 26 [.lst false (teTomb false) 2 (xs.map encTomb), .lst false (teTomb false) 2 (ys.map encTomb)] = some (.bool (decide (xs = ys)), []) := by
  refine lim_run (E := E) rfl Tryd.func26 rfl (by kernel_rfl) (by kernel_rfl) ?_
  simp [Tryd.f26, tmpAt]
  refine RB_ndec ?_ ?_ <;> intro hl
  · simp
    intro hc; subst hc; exact hl rfl
  · simp
    have hl : xs.length = ys.length := by omega
    refine loop_ind (fun m st => ∃ (i : Nat), i + m = xs.length ∧ xs.take i = ys.take i ∧ st.env 0 = .lst false (teTomb false) 2 (xs.map encTomb) ∧ st.env 1 = .lst false (teTomb false) 2 (ys.map encTomb) ∧ st.env 5 = .int .i64 i) xs.length _ ?_ ?_
    · exact ⟨0, by simp⟩
    rintro m ⟨env, rs⟩ ⟨i, hi, hs, e0, e1, e5⟩ ih
    simp at e0 e1 e5
    simp [e0, e1, e5]
    have hw := wrap_up (show i < 4611686018427387904 by omega)
    refine RB_dec ?_ ?_ <;> intro h
    · have h' : i < ys.length := by omega
      have w1 := eq_eqTomb xs[i] ys[i]
      try simp at w1
      simp [e0, e1, e5, h, h', w1]
      refine RB_ndec ?_ ?_ <;> intro h2 <;> simp [e0, e1, e5]
      · intro hc; subst hc; exact h2 rfl
      · refine ih (m - 1) _ (by omega) ⟨i + 1, ?_⟩
        simp [e0, e1, e5, hw]
        exact ⟨by omega, take_eq hs h h' h2⟩
    · simp [e0, e1, e5, h]
      exact take_all hs h hl
theorem eq_szBox (x : Box) (left : Int) (hw : wfBox x) (h3 : 0 ≤ left) (h4 : left ≤ 1048576) : lim E 5 [encBox true false x, .int .i64 left] = some (.int .i64 (cut (left - (szBox x : Nat))), []) := by
  have hz : szBox x = x.name.length + (x.mails.length + tot (fun (y : Mail) => szMail y) x.mails) + x.tombs.length := rfl
  obtain ⟨f0, f1, f2⟩ := hw
  refine lim_run (E := E) rfl Tryd.func5 rfl (by kernel_rfl) (by kernel_rfl) ?_
  simp [Tryd.f5, tmpAt]
  have w0 : IntKind.i64.wrap (left - (x.name.length : Int)) = left - x.name.length := wrap_in (by omega) (by omega)
  simp [w0]
  refine RB_dec ?_ ?_ <;> intro h0
  · simp; unfold cut; split <;> omega
  have w1 := eq_szMailS x.mails (left - (x.name.length : Nat)) f1 (by omega) (by omega)
  try simp at w1
  simp [w1]
  refine RB_dec ?_ ?_ <;> intro h1
  · have := cut_neg h1; simp; unfold cut; split <;> omega
  obtain ⟨c1, d1⟩ := cut_pos h1
  have w2 := eq_szTombS x.tombs (left - (x.name.length : Nat) - ((x.mails.length + tot (fun (y : Mail) => szMail y) x.mails) : Nat)) f2 (by omega) (by omega)
  try simp at w2
  simp [w2, c1]
  refine RB_dec ?_ ?_ <;> intro h2
  · have := cut_neg h2; simp; unfold cut; split <;> omega
  obtain ⟨c2, d2⟩ := cut_pos h2
  simp [c1, c2]
  unfold cut; split <;> omega
theorem eq_toBox (x : Box) (h1 : szBox x ≤ 1048576) : lim E 7 [encBox true false x] = some (encBox false true x, []) := by
  have hz : szBox x = x.name.length + (x.mails.length + tot (fun (y : Mail) => szMail y) x.mails) + x.tombs.length := rfl
  have w4 := eq_toMailS x.mails (by omega)
  try simp at w4
  have w5 := eq_toTombS x.tombs (by omega)
  try simp at w5
  refine lim_run (E := E) rfl Tryd.func7 rfl (by kernel_rfl) (by kernel_rfl) ?_
  simp [Tryd.f7, tmpAt, w4, w5]
theorem eq_eqBox (x y : Box) (h1 : szBox x ≤ 1048576) : lim E 9 [encBox false false x, encBox false false y] = some (.bool (decide (x = y)), []) := by
  have hz : szBox x = x.name.length + (x.mails.length + tot (fun (y : Mail) => szMail y) x.mails) + x.tombs.length := rfl
  refine lim_run (E := E) rfl Tryd.func9 rfl (by kernel_rfl) (by kernel_rfl) ?_
  simp [Tryd.f9, tmpAt]
  refine RB_ndec ?_ ?_ <;> intro h10
  · simp; intro hc; exact h10 (by rw [hc])
  simp
  refine RB_ndec ?_ ?_ <;> intro h11
  · simp; intro hc; exact h11 (by rw [hc])
  simp
  refine RB_ndec ?_ ?_ <;> intro h12
  · simp; intro hc; exact h12 (by rw [hc])
  simp
  refine RB_ndec ?_ ?_ <;> intro h13
  · simp; intro hc; exact h13 (by rw [hc])
  have w4 := eq_eqMailS x.mails y.mails (by omega)
  try simp at w4
  simp [w4]
  refine RB_ndec ?_ ?_ <;> intro h14
  · simp; intro hc; exact h14 (by rw [hc])
  have w5 := eq_eqTombS x.tombs y.tombs (by omega)
  try simp at w5
  simp [w5]
  refine RB_ndec ?_ ?_ <;> intro h15
  · simp; intro hc; exact h15 (by rw [hc])
  simp
  refine RB_ndec ?_ ?_ <;> intro h16
  · simp; intro hc; exact h16 (by rw [hc])
  simp
  cases x; cases y; simp_all
theorem eq_eqEvent (x y : Event) (h1 : szEvent x ≤ 1048576) : lim E 34 [encEvent false x, encEvent false y] = some (.bool (decide (x = y)), []) := by
  have hz : szEvent x = (x.words.length + tot (fun (y : S) => y.length) x.words) + x.left_.length := rfl
  refine lim_run (E := E) rfl Tryd.func34 rfl (by kernel_rfl) (by kernel_rfl) ?_
  simp [Tryd.f34, tmpAt]
  refine RB_ndec ?_ ?_ <;> intro h10
  · simp; intro hc; exact h10 (by rw [hc])
  simp
  refine RB_ndec ?_ ?_ <;> intro h11
  · simp; intro hc; exact h11 (by rw [hc])
  have w2 := eq_eqStringS x.words y.words (by omega)
  try simp at w2
  simp [w2]
  refine RB_ndec ?_ ?_ <;> intro h12
  · simp; intro hc; exact h12 (by rw [hc])
  simp
  refine RB_ndec ?_ ?_ <;> intro h13
  · simp; intro hc; exact h13 (by rw [hc])
  have w4 := eq_eqIntS x.left_ y.left_ (by omega)
  try simp at w4
  simp [w4]
  refine RB_ndec ?_ ?_ <;> intro h14
  · simp; intro hc; exact h14 (by rw [hc])
  simp
  cases x; cases y; simp_all
theorem eq_eqEventS (xs ys : List Event) (h1 : (xs.length + tot (fun (y : Event) => szEvent y) xs) ≤ 1048576) : lim E 12 [.lst false (teEvent false) 5 (xs.map (encEvent false)), .lst false (teEvent false) 5 (ys.map (encEvent false))] = some (.bool (decide (xs = ys)), []) := by
  refine lim_run (E := E) rfl Tryd.func12 rfl (by kernel_rfl) (by kernel_rfl) ?_
  simp [Tryd.f12, tmpAt]
  refine RB_ndec ?_ ?_ <;> intro hl
  · simp
    intro hc; subst hc; exact hl rfl
  · simp
    have hl : xs.length = ys.length := by omega
    refine loop_ind (fun m st => ∃ (i : Nat), i + m = xs.length ∧ xs.take i = ys.take i ∧ st.env 0 = .lst false (teEvent false) 5 (xs.map (encEvent false)) ∧ st.env 1 = .lst false (teEvent false) 5 (ys.map (encEvent false)) ∧ st.env 5 = .int .i64 i) xs.length _ ?_ ?_
    · exact ⟨0, by simp⟩
    rintro m ⟨env, rs⟩ ⟨i, hi, hs, e0, e1, e5⟩ ih
    simp at e0 e1 e5
    simp [e0, e1, e5]
    have hw := wrap_up (show i < 4611686018427387904 by omega)
    refine RB_dec ?_ ?_ <;> intro h
    · have h' : i < ys.length := by omega
      have hz := tot_mem (fun (y : Event) => szEvent y) (List.getElem_mem h)
      have w1 := eq_eqEvent xs[i] ys[i] (by omega)
      try simp at w1
      simp [e0, e1, e5, h, h', w1]
      refine RB_ndec ?_ ?_ <;> intro h2 <;> simp [e0, e1, e5]
      · intro hc; subst hc; exact h2 rfl
      · refine ih (m - 1) _ (by omega) ⟨i + 1, ?_⟩
        simp [e0, e1, e5, hw]
        exact ⟨by omega, take_eq hs h h' h2⟩
    · simp [e0, e1, e5, h]
      exact take_all hs h hl
end Go.Proofs.YtfboojamiabmcaaDoor
