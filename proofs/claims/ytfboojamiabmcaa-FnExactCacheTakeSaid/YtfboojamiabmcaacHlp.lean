/- The laws' own helpers, for all data: what is left of a size, copies, equality. (By program: gen_dat.py.) -/
import Derived.Test.YtfboojamiabmcaacDat
set_option linter.unusedSectionVars false
set_option linter.all false
set_option linter.unusedVariables false
set_option linter.unusedSimpArgs false
set_option maxRecDepth 100000
namespace Go.Proofs.Ytfboojamiabmcaa
open Go.Lft

theorem eq_szIntS (xs : List Int) (left : Int) (hw : xs.length ≤ 9223372036854775807) (h3 : 0 ≤ left) (h4 : left ≤ 1048576) : lim E 43 [.lst false 3 1 (xs.map (.int .i64)), .int .i64 left] = some (.int .i64 (cut (left - (xs.length : Nat))), []) := by
  refine lim_run (E := E) rfl Try.func43 rfl (by kernel_rfl) (by kernel_rfl) ?_
  simp [Try.f43, tmpAt]
  have hl : xs.length ≤ 9223372036854775807 := hw
  have w0 : IntKind.i64.wrap (left - (xs.length : Int)) = left - xs.length := wrap_in (by omega) (by omega)
  simp [w0]
  refine RB_dec ?_ ?_ <;> intro h0 <;> simp
  · unfold cut; split <;> omega
  · unfold cut; split <;> omega
theorem eq_toIntS (xs : List Int) (h1 : xs.length ≤ 1048576) : lim E 50 [.lst false 3 1 (xs.map (.int .i64))] = some (.lst true 3 1 (xs.map (.int .i64)), []) := by
  refine lim_run (E := E) rfl Try.func50 rfl (by kernel_rfl) (by kernel_rfl) ?_
  simp [Try.f50, tmpAt]
  refine ⟨by omega, ?_⟩
  refine loop_ind (fun m st => ∃ (i : Nat) (ys : List Int), i + m = xs.length ∧ ys.length = xs.length ∧ xs.take i = ys.take i ∧ st.env 0 = .lst false 3 1 (xs.map (.int .i64)) ∧ st.env 3 = .slc (7, 0) [] 0 xs.length ∧ st.env 4 = .int .i64 i ∧ st.rs (7, 0) = some ⟨false, .lst true 3 1 (ys.map (.int .i64))⟩) xs.length _ ?_ ?_
  · exact ⟨0, List.replicate xs.length 0, by simp⟩
  rintro m ⟨env, rs⟩ ⟨i, ys, hi, hl, hs, e0, e3, e4, r⟩ ih
  simp at e0 e3 e4 r
  simp [e0, e3, e4, r]
  have hw := wrap_up (show i < 4611686018427387904 by omega)
  refine RB_dec ?_ ?_ <;> intro h
  · have h' : i < ys.length := by omega
    simp [e0, e3, e4, r, h, h', hl]
    refine ih (m - 1) _ (by omega) ⟨i + 1, ys.set i xs[i], ?_⟩
    simp [e0, e3, e4, hw, hl]
    exact ⟨by omega, take_next hs h h'⟩
  · have he := take_all hs h hl.symm
    subst he
    simp [e0, e3, e4, r, h, hl]
theorem eq_eqIntS (xs ys : List Int) (h1 : xs.length ≤ 1048576) : lim E 59 [.lst false 3 1 (xs.map (.int .i64)), .lst false 3 1 (ys.map (.int .i64))] = some (.bool (decide (xs = ys)), []) := by
  refine lim_run (E := E) rfl Try.func59 rfl (by kernel_rfl) (by kernel_rfl) ?_
  simp [Try.f59, tmpAt]
  refine RB_ndec ?_ ?_ <;> intro hl
  · simp
    intro hc; subst hc; exact hl rfl
  · simp
    have hl : xs.length = ys.length := by omega
    refine loop_ind (fun m st => ∃ (i : Nat), i + m = xs.length ∧ xs.take i = ys.take i ∧ st.env 0 = .lst false 3 1 (xs.map (.int .i64)) ∧ st.env 1 = .lst false 3 1 (ys.map (.int .i64)) ∧ st.env 5 = .int .i64 i) xs.length _ ?_ ?_
    · exact ⟨0, by simp⟩
    rintro m ⟨env, rs⟩ ⟨i, hi, hs, e0, e1, e5⟩ ih
    simp at e0 e1 e5
    simp [e0, e1, e5]
    have hw := wrap_up (show i < 4611686018427387904 by omega)
    refine RB_dec ?_ ?_ <;> intro h
    · have h' : i < ys.length := by omega
      simp [e0, e1, e5, h, h']
      refine RB_ndec ?_ ?_ <;> intro h2 <;> simp [e0, e1, e5]
      · intro hc; subst hc; exact h2 rfl
      · refine ih (m - 1) _ (by omega) ⟨i + 1, ?_⟩
        simp [e0, e1, e5, hw]
        exact ⟨by omega, take_eq hs h h' h2⟩
    · simp [e0, e1, e5, h]
      exact take_all hs h hl
theorem eq_toRange (x : Range) : lim E 98 [encRange x] = some (encRange x, []) := by
  refine lim_run (E := E) rfl Try.func98 rfl (by kernel_rfl) (by kernel_rfl) ?_
  simp [Try.f98, tmpAt]
theorem eq_eqRange (x y : Range) : lim E 102 [encRange x, encRange y] = some (.bool (decide (x = y)), []) := by
  refine lim_run (E := E) rfl Try.func102 rfl (by kernel_rfl) (by kernel_rfl) ?_
  simp [Try.f102, tmpAt]
  refine RB_ndec ?_ ?_ <;> intro h10
  · simp; intro hc; exact h10 (by rw [hc])
  simp
  refine RB_ndec ?_ ?_ <;> intro h11
  · simp; intro hc; exact h11 (by rw [hc])
  simp
  cases x; cases y; simp_all
theorem eq_szMail (x : Mail) (left : Int) (hw : wfMail x) (h3 : 0 ≤ left) (h4 : left ≤ 1048576) : lim E 85 [encMail x, .int .i64 left] = some (.int .i64 (cut (left - (szMail x : Nat))), []) := by
  have hz : szMail x = x.text.length := rfl
  have f0 := hw
  simp only [wfMail] at f0
  refine lim_run (E := E) rfl Try.func85 rfl (by kernel_rfl) (by kernel_rfl) ?_
  simp [Try.f85, tmpAt]
  have w0 : IntKind.i64.wrap (left - (x.text.length : Int)) = left - x.text.length := wrap_in (by omega) (by omega)
  simp [w0]
  refine RB_dec ?_ ?_ <;> intro h0
  · simp; unfold cut; split <;> omega
  simp
  unfold cut; split <;> omega
theorem eq_toMail (x : Mail) (h1 : szMail x ≤ 1048576) : lim E 87 [encMail x] = some (encMail x, []) := by
  have hz : szMail x = x.text.length := rfl
  refine lim_run (E := E) rfl Try.func87 rfl (by kernel_rfl) (by kernel_rfl) ?_
  simp [Try.f87, tmpAt]
theorem eq_eqMail (x y : Mail) (h1 : szMail x ≤ 1048576) : lim E 95 [encMail x, encMail y] = some (.bool (decide (x = y)), []) := by
  have hz : szMail x = x.text.length := rfl
  refine lim_run (E := E) rfl Try.func95 rfl (by kernel_rfl) (by kernel_rfl) ?_
  simp [Try.f95, tmpAt]
  refine RB_ndec ?_ ?_ <;> intro h10
  · simp; intro hc; exact h10 (by rw [hc])
  simp
  refine RB_ndec ?_ ?_ <;> intro h11
  · simp; intro hc; exact h11 (by rw [hc])
  simp
  refine RB_ndec ?_ ?_ <;> intro h12
  · simp; intro hc; exact h12 (by rw [hc])
  simp
  refine RB_ndec ?_ ?_ <;> intro h13
  · simp; intro hc; exact h13 (by rw [hc])
  simp
  cases x; cases y; simp_all
theorem eq_toTomb (x : Tomb) : lim E 88 [encTomb x] = some (encTomb x, []) := by
  refine lim_run (E := E) rfl Try.func88 rfl (by kernel_rfl) (by kernel_rfl) ?_
  simp [Try.f88, tmpAt]
theorem eq_eqTomb (x y : Tomb) : lim E 96 [encTomb x, encTomb y] = some (.bool (decide (x = y)), []) := by
  refine lim_run (E := E) rfl Try.func96 rfl (by kernel_rfl) (by kernel_rfl) ?_
  simp [Try.f96, tmpAt]
  refine RB_ndec ?_ ?_ <;> intro h10
  · simp; intro hc; exact h10 (by rw [hc])
  simp
  refine RB_ndec ?_ ?_ <;> intro h11
  · simp; intro hc; exact h11 (by rw [hc])
  simp
  cases x; cases y; simp_all
theorem eq_szMailS (xs : List Mail) (left : Int) (hw : (xs.length ≤ 9223372036854775807 ∧ ∀ y ∈ xs, wfMail y)) (h3 : 0 ≤ left) (h4 : left ≤ 1048576) : lim E 44 [.lst false (teMail true) 4 (xs.map encMail), .int .i64 left] = some (.int .i64 (cut (left - ((xs.length + tot (fun (y : Mail) => szMail y) xs) : Nat))), []) := by
  refine lim_run (E := E) rfl Try.func44 rfl (by kernel_rfl) (by kernel_rfl) ?_
  simp [Try.f44, tmpAt]
  have hl : xs.length ≤ 9223372036854775807 := hw.1
  have w0 : IntKind.i64.wrap (left - (xs.length : Int)) = left - xs.length := wrap_in (by omega) (by omega)
  simp [w0]
  refine RB_dec ?_ ?_ <;> intro h0 <;> simp
  · unfold cut; split <;> omega
  refine loop_ind (fun m st => ∃ (i : Nat) (n : Int), i + m = xs.length ∧ 0 ≤ n ∧ n ≤ left ∧ n - (tot (fun (y : Mail) => szMail y) (xs.drop i) : Nat) = left - ((xs.length + tot (fun (y : Mail) => szMail y) xs : Nat) : Int) ∧ st.env 0 = .lst false (teMail true) 4 (xs.map encMail) ∧ st.env 1 = .int .i64 n ∧ st.env 5 = .int .i64 i) xs.length _ ?_ ?_
  · exact ⟨0, left - xs.length, by simp; omega⟩
  rintro m ⟨env, rs⟩ ⟨i, n, hi, hn, hn2, hs, e0, e1, e5⟩ ih
  simp at e0 e1 e5
  simp [e0, e1, e5]
  have hu := wrap_up (show i < 4611686018427387904 by omega)
  refine RB_dec ?_ ?_ <;> intro h
  · have hx := hw.2 xs[i] (List.getElem_mem h)
    have hd := tot_drop (fun (y : Mail) => szMail y) h
    have hsz : n - ((szMail xs[i] : Nat) : Int) = left - ((xs.length + tot (fun (y : Mail) => szMail y) xs : Nat) : Int) + (tot (fun (y : Mail) => szMail y) (xs.drop (i + 1)) : Nat) := by omega
    have w1 := eq_szMail xs[i] n hx hn (by omega)
    try simp at w1
    simp [e0, e1, e5, h, w1]
    refine RB_dec ?_ ?_ <;> intro h1
    · have := cut_neg h1; simp; unfold cut; split <;> omega
    · obtain ⟨c1, c2⟩ := cut_pos h1
      simp [e0, e1, e5, hu, c1]
      refine ih (m - 1) _ (by omega) ⟨i + 1, n - (szMail xs[i] : Nat), ?_⟩
      simp [e0, e1, e5]
      omega
  · have hd : xs.drop i = [] := List.drop_eq_nil_of_le (by omega)
    rw [hd] at hs
    simp only [tot] at hs
    simp [e1, h]
    unfold cut; split <;> omega
theorem eq_toMailS (xs : List Mail) (h1 : (xs.length + tot (fun (y : Mail) => szMail y) xs) ≤ 1048576) : lim E 51 [.lst false (teMail true) 4 (xs.map encMail)] = some (.lst true (teMail false) 4 (xs.map encMail), []) := by
  refine lim_run (E := E) rfl Try.func51 rfl (by kernel_rfl) (by kernel_rfl) ?_
  simp [Try.f51, tmpAt]
  refine ⟨by omega, ?_⟩
  refine loop_ind (fun m st => ∃ (i : Nat) (ys : List Mail), i + m = xs.length ∧ ys.length = xs.length ∧ xs.take i = ys.take i ∧ st.env 0 = .lst false (teMail true) 4 (xs.map encMail) ∧ st.env 3 = .slc (7, 0) [] 0 xs.length ∧ st.env 4 = .int .i64 i ∧ st.rs (7, 0) = some ⟨false, .lst true (teMail false) 4 (ys.map encMail)⟩) xs.length _ ?_ ?_
  · exact ⟨0, List.replicate xs.length zeroMail, by simp⟩
  rintro m ⟨env, rs⟩ ⟨i, ys, hi, hl, hs, e0, e3, e4, r⟩ ih
  simp at e0 e3 e4 r
  simp [e0, e3, e4, r]
  have hw := wrap_up (show i < 4611686018427387904 by omega)
  refine RB_dec ?_ ?_ <;> intro h
  · have h' : i < ys.length := by omega
    have hz := tot_mem (fun (y : Mail) => szMail y) (List.getElem_mem h)
    have w1 := eq_toMail xs[i] (by omega)
    try simp at w1
    simp [e0, e3, e4, r, h, h', hl, w1]
    refine ih (m - 1) _ (by omega) ⟨i + 1, ys.set i xs[i], ?_⟩
    simp [e0, e3, e4, hw, hl]
    exact ⟨by omega, take_next hs h h'⟩
  · have he := take_all hs h hl.symm
    subst he
    simp [e0, e3, e4, r, h, hl]
theorem eq_eqMailS (xs ys : List Mail) (h1 : (xs.length + tot (fun (y : Mail) => szMail y) xs) ≤ 1048576) : lim E 60 [.lst false (teMail false) 4 (xs.map encMail), .lst false (teMail false) 4 (ys.map encMail)] = some (.bool (decide (xs = ys)), []) := by
  refine lim_run (E := E) rfl Try.func60 rfl (by kernel_rfl) (by kernel_rfl) ?_
  simp [Try.f60, tmpAt]
  refine RB_ndec ?_ ?_ <;> intro hl
  · simp
    intro hc; subst hc; exact hl rfl
  · simp
    have hl : xs.length = ys.length := by omega
    refine loop_ind (fun m st => ∃ (i : Nat), i + m = xs.length ∧ xs.take i = ys.take i ∧ st.env 0 = .lst false (teMail false) 4 (xs.map encMail) ∧ st.env 1 = .lst false (teMail false) 4 (ys.map encMail) ∧ st.env 5 = .int .i64 i) xs.length _ ?_ ?_
    · exact ⟨0, by simp⟩
    rintro m ⟨env, rs⟩ ⟨i, hi, hs, e0, e1, e5⟩ ih
    simp at e0 e1 e5
    simp [e0, e1, e5]
    have hw := wrap_up (show i < 4611686018427387904 by omega)
    refine RB_dec ?_ ?_ <;> intro h
    · have h' : i < ys.length := by omega
      have hz := tot_mem (fun (y : Mail) => szMail y) (List.getElem_mem h)
      have w1 := eq_eqMail xs[i] ys[i] (by omega)
      try simp at w1
      simp [e0, e1, e5, h, h', w1]
      refine RB_ndec ?_ ?_ <;> intro h2 <;> simp [e0, e1, e5]
      · intro hc; subst hc; exact h2 rfl
      · refine ih (m - 1) _ (by omega) ⟨i + 1, ?_⟩
        simp [e0, e1, e5, hw]
        exact ⟨by omega, take_eq hs h h' h2⟩
    · simp [e0, e1, e5, h]
      exact take_all hs h hl
theorem eq_szTombS (xs : List Tomb) (left : Int) (hw : xs.length ≤ 9223372036854775807) (h3 : 0 ≤ left) (h4 : left ≤ 1048576) : lim E 45 [.lst false (teTomb true) 2 (xs.map encTomb), .int .i64 left] = some (.int .i64 (cut (left - (xs.length : Nat))), []) := by
  refine lim_run (E := E) rfl Try.func45 rfl (by kernel_rfl) (by kernel_rfl) ?_
  simp [Try.f45, tmpAt]
  have hl : xs.length ≤ 9223372036854775807 := hw
  have w0 : IntKind.i64.wrap (left - (xs.length : Int)) = left - xs.length := wrap_in (by omega) (by omega)
  simp [w0]
  refine RB_dec ?_ ?_ <;> intro h0 <;> simp
  · unfold cut; split <;> omega
  · unfold cut; split <;> omega
theorem eq_toTombS (xs : List Tomb) (h1 : xs.length ≤ 1048576) : lim E 52 [.lst false (teTomb true) 2 (xs.map encTomb)] = some (.lst true (teTomb false) 2 (xs.map encTomb), []) := by
  refine lim_run (E := E) rfl Try.func52 rfl (by kernel_rfl) (by kernel_rfl) ?_
  simp [Try.f52, tmpAt]
  refine ⟨by omega, ?_⟩
  refine loop_ind (fun m st => ∃ (i : Nat) (ys : List Tomb), i + m = xs.length ∧ ys.length = xs.length ∧ xs.take i = ys.take i ∧ st.env 0 = .lst false (teTomb true) 2 (xs.map encTomb) ∧ st.env 3 = .slc (7, 0) [] 0 xs.length ∧ st.env 4 = .int .i64 i ∧ st.rs (7, 0) = some ⟨false, .lst true (teTomb false) 2 (ys.map encTomb)⟩) xs.length _ ?_ ?_
  · exact ⟨0, List.replicate xs.length zeroTomb, by simp⟩
  rintro m ⟨env, rs⟩ ⟨i, ys, hi, hl, hs, e0, e3, e4, r⟩ ih
  simp at e0 e3 e4 r
  simp [e0, e3, e4, r]
  have hw := wrap_up (show i < 4611686018427387904 by omega)
  refine RB_dec ?_ ?_ <;> intro h
  · have h' : i < ys.length := by omega
    have w1 := eq_toTomb xs[i]
    try simp at w1
    simp [e0, e3, e4, r, h, h', hl, w1]
    refine ih (m - 1) _ (by omega) ⟨i + 1, ys.set i xs[i], ?_⟩
    simp [e0, e3, e4, hw, hl]
    exact ⟨by omega, take_next hs h h'⟩
  · have he := take_all hs h hl.symm
    subst he
    simp [e0, e3, e4, r, h, hl]
theorem eq_eqTombS (xs ys : List Tomb) (h1 : xs.length ≤ 1048576) : lim E 61 [.lst false (teTomb false) 2 (xs.map encTomb), .lst false (teTomb false) 2 (ys.map encTomb)] = some (.bool (decide (xs = ys)), []) := by
  refine lim_run (E := E) rfl Try.func61 rfl (by kernel_rfl) (by kernel_rfl) ?_
  simp [Try.f61, tmpAt]
  refine RB_ndec ?_ ?_ <;> intro hl
  · simp
    intro hc; subst hc; exact hl rfl
  · simp
    have hl : xs.length = ys.length := by omega
    refine loop_ind (fun m st => ∃ (i : Nat), i + m = xs.length ∧ xs.take i = ys.take i ∧ st.env 0 = .lst false (teTomb false) 2 (xs.map encTomb) ∧ st.env 1 = .lst false (teTomb false) 2 (ys.map encTomb) ∧ st.env 5 = .int .i64 i) xs.length _ ?_ ?_
    · exact ⟨0, by simp⟩
    rintro m ⟨env, rs⟩ ⟨i, hi, hs, e0, e1, e5⟩ ih
    simp at e0 e1 e5
    simp [e0, e1, e5]
    have hw := wrap_up (show i < 4611686018427387904 by omega)
    refine RB_dec ?_ ?_ <;> intro h
    · have h' : i < ys.length := by omega
      have w1 := eq_eqTomb xs[i] ys[i]
      try simp at w1
      simp [e0, e1, e5, h, h', w1]
      refine RB_ndec ?_ ?_ <;> intro h2 <;> simp [e0, e1, e5]
      · intro hc; subst hc; exact h2 rfl
      · refine ih (m - 1) _ (by omega) ⟨i + 1, ?_⟩
        simp [e0, e1, e5, hw]
        exact ⟨by omega, take_eq hs h h' h2⟩
    · simp [e0, e1, e5, h]
      exact take_all hs h hl
theorem eq_szBox (x : Box) (left : Int) (hw : wfBox x) (h3 : 0 ≤ left) (h4 : left ≤ 1048576) : lim E 17 [encBox true false x, .int .i64 left] = some (.int .i64 (cut (left - (szBox x : Nat))), []) := by
  have hz : szBox x = x.name.length + (x.mails.length + tot (fun (y : Mail) => szMail y) x.mails) + x.tombs.length := rfl
  obtain ⟨f0, f1, f2⟩ := hw
  refine lim_run (E := E) rfl Try.func17 rfl (by kernel_rfl) (by kernel_rfl) ?_
  simp [Try.f17, tmpAt]
  have w0 : IntKind.i64.wrap (left - (x.name.length : Int)) = left - x.name.length := wrap_in (by omega) (by omega)
  simp [w0]
  refine RB_dec ?_ ?_ <;> intro h0
  · simp; unfold cut; split <;> omega
  have w1 := eq_szMailS x.mails (left - (x.name.length : Nat)) f1 (by omega) (by omega)
  try simp at w1
  simp [w1]
  refine RB_dec ?_ ?_ <;> intro h1
  · have := cut_neg h1; simp; unfold cut; split <;> omega
  obtain ⟨c1, d1⟩ := cut_pos h1
  have w2 := eq_szTombS x.tombs (left - (x.name.length : Nat) - ((x.mails.length + tot (fun (y : Mail) => szMail y) x.mails) : Nat)) f2 (by omega) (by omega)
  try simp at w2
  simp [w2, c1]
  refine RB_dec ?_ ?_ <;> intro h2
  · have := cut_neg h2; simp; unfold cut; split <;> omega
  obtain ⟨c2, d2⟩ := cut_pos h2
  simp [c1, c2]
  unfold cut; split <;> omega
theorem eq_toBox (x : Box) (h1 : szBox x ≤ 1048576) : lim E 20 [encBox true false x] = some (encBox false true x, []) := by
  have hz : szBox x = x.name.length + (x.mails.length + tot (fun (y : Mail) => szMail y) x.mails) + x.tombs.length := rfl
  have w4 := eq_toMailS x.mails (by omega)
  try simp at w4
  have w5 := eq_toTombS x.tombs (by omega)
  try simp at w5
  refine lim_run (E := E) rfl Try.func20 rfl (by kernel_rfl) (by kernel_rfl) ?_
  simp [Try.f20, tmpAt, w4, w5]
theorem eq_eqBox (x y : Box) (h1 : szBox x ≤ 1048576) : lim E 23 [encBox false false x, encBox false false y] = some (.bool (decide (x = y)), []) := by
  have hz : szBox x = x.name.length + (x.mails.length + tot (fun (y : Mail) => szMail y) x.mails) + x.tombs.length := rfl
  refine lim_run (E := E) rfl Try.func23 rfl (by kernel_rfl) (by kernel_rfl) ?_
  simp [Try.f23, tmpAt]
  refine RB_ndec ?_ ?_ <;> intro h10
  · simp; intro hc; exact h10 (by rw [hc])
  simp
  refine RB_ndec ?_ ?_ <;> intro h11
  · simp; intro hc; exact h11 (by rw [hc])
  simp
  refine RB_ndec ?_ ?_ <;> intro h12
  · simp; intro hc; exact h12 (by rw [hc])
  simp
  refine RB_ndec ?_ ?_ <;> intro h13
  · simp; intro hc; exact h13 (by rw [hc])
  have w4 := eq_eqMailS x.mails y.mails (by omega)
  try simp at w4
  simp [w4]
  refine RB_ndec ?_ ?_ <;> intro h14
  · simp; intro hc; exact h14 (by rw [hc])
  have w5 := eq_eqTombS x.tombs y.tombs (by omega)
  try simp at w5
  simp [w5]
  refine RB_ndec ?_ ?_ <;> intro h15
  · simp; intro hc; exact h15 (by rw [hc])
  simp
  refine RB_ndec ?_ ?_ <;> intro h16
  · simp; intro hc; exact h16 (by rw [hc])
  simp
  cases x; cases y; simp_all
theorem eq_szRangeS (xs : List Range) (left : Int) (hw : xs.length ≤ 9223372036854775807) (h3 : 0 ≤ left) (h4 : left ≤ 1048576) : lim E 67 [.lst false (teRange true) 2 (xs.map encRange), .int .i64 left] = some (.int .i64 (cut (left - (xs.length : Nat))), []) := by
  refine lim_run (E := E) rfl Try.func67 rfl (by kernel_rfl) (by kernel_rfl) ?_
  simp [Try.f67, tmpAt]
  have hl : xs.length ≤ 9223372036854775807 := hw
  have w0 : IntKind.i64.wrap (left - (xs.length : Int)) = left - xs.length := wrap_in (by omega) (by omega)
  simp [w0]
  refine RB_dec ?_ ?_ <;> intro h0 <;> simp
  · unfold cut; split <;> omega
  · unfold cut; split <;> omega
theorem eq_toRangeS (xs : List Range) (h1 : xs.length ≤ 1048576) : lim E 73 [.lst false (teRange true) 2 (xs.map encRange)] = some (.lst true (teRange false) 2 (xs.map encRange), []) := by
  refine lim_run (E := E) rfl Try.func73 rfl (by kernel_rfl) (by kernel_rfl) ?_
  simp [Try.f73, tmpAt]
  refine ⟨by omega, ?_⟩
  refine loop_ind (fun m st => ∃ (i : Nat) (ys : List Range), i + m = xs.length ∧ ys.length = xs.length ∧ xs.take i = ys.take i ∧ st.env 0 = .lst false (teRange true) 2 (xs.map encRange) ∧ st.env 3 = .slc (7, 0) [] 0 xs.length ∧ st.env 4 = .int .i64 i ∧ st.rs (7, 0) = some ⟨false, .lst true (teRange false) 2 (ys.map encRange)⟩) xs.length _ ?_ ?_
  · exact ⟨0, List.replicate xs.length zeroRange, by simp⟩
  rintro m ⟨env, rs⟩ ⟨i, ys, hi, hl, hs, e0, e3, e4, r⟩ ih
  simp at e0 e3 e4 r
  simp [e0, e3, e4, r]
  have hw := wrap_up (show i < 4611686018427387904 by omega)
  refine RB_dec ?_ ?_ <;> intro h
  · have h' : i < ys.length := by omega
    have w1 := eq_toRange xs[i]
    try simp at w1
    simp [e0, e3, e4, r, h, h', hl, w1]
    refine ih (m - 1) _ (by omega) ⟨i + 1, ys.set i xs[i], ?_⟩
    simp [e0, e3, e4, hw, hl]
    exact ⟨by omega, take_next hs h h'⟩
  · have he := take_all hs h hl.symm
    subst he
    simp [e0, e3, e4, r, h, hl]
theorem eq_eqRangeS (xs ys : List Range) (h1 : xs.length ≤ 1048576) : lim E 84 [.lst false (teRange false) 2 (xs.map encRange), .lst false (teRange false) 2 (ys.map encRange)] = some (.bool (decide (xs = ys)), []) := by
  refine lim_run (E := E) rfl Try.func84 rfl (by kernel_rfl) (by kernel_rfl) ?_
  simp [Try.f84, tmpAt]
  refine RB_ndec ?_ ?_ <;> intro hl
  · simp
    intro hc; subst hc; exact hl rfl
  · simp
    have hl : xs.length = ys.length := by omega
    refine loop_ind (fun m st => ∃ (i : Nat), i + m = xs.length ∧ xs.take i = ys.take i ∧ st.env 0 = .lst false (teRange false) 2 (xs.map encRange) ∧ st.env 1 = .lst false (teRange false) 2 (ys.map encRange) ∧ st.env 5 = .int .i64 i) xs.length _ ?_ ?_
    · exact ⟨0, by simp⟩
    rintro m ⟨env, rs⟩ ⟨i, hi, hs, e0, e1, e5⟩ ih
    simp at e0 e1 e5
    simp [e0, e1, e5]
    have hw := wrap_up (show i < 4611686018427387904 by omega)
    refine RB_dec ?_ ?_ <;> intro h
    · have h' : i < ys.length := by omega
      have w1 := eq_eqRange xs[i] ys[i]
      try simp at w1
      simp [e0, e1, e5, h, h', w1]
      refine RB_ndec ?_ ?_ <;> intro h2 <;> simp [e0, e1, e5]
      · intro hc; subst hc; exact h2 rfl
      · refine ih (m - 1) _ (by omega) ⟨i + 1, ?_⟩
        simp [e0, e1, e5, hw]
        exact ⟨by omega, take_eq hs h h' h2⟩
    · simp [e0, e1, e5, h]
      exact take_all hs h hl
theorem eq_toSeen (x : Seen) : lim E 72 [encSeen x] = some (encSeen x, []) := by
  refine lim_run (E := E) rfl Try.func72 rfl (by kernel_rfl) (by kernel_rfl) ?_
  simp [Try.f72, tmpAt]
theorem eq_eqSeen (x y : Seen) : lim E 83 [encSeen x, encSeen y] = some (.bool (decide (x = y)), []) := by
  refine lim_run (E := E) rfl Try.func83 rfl (by kernel_rfl) (by kernel_rfl) ?_
  simp [Try.f83, tmpAt]
  refine RB_ndec ?_ ?_ <;> intro h10
  · simp; intro hc; exact h10 (by rw [hc])
  simp
  refine RB_ndec ?_ ?_ <;> intro h11
  · simp; intro hc; exact h11 (by rw [hc])
  simp
  refine RB_ndec ?_ ?_ <;> intro h12
  · simp; intro hc; exact h12 (by rw [hc])
  simp
  cases x; cases y; simp_all
theorem eq_szLine (x : Line) (left : Int) (hw : wfLine x) (h3 : 0 ≤ left) (h4 : left ≤ 1048576) : lim E 29 [encLine true false x, .int .i64 left] = some (.int .i64 (cut (left - (szLine x : Nat))), []) := by
  have hz : szLine x = x.set_.length := rfl
  have f0 := hw
  simp only [wfLine] at f0
  refine lim_run (E := E) rfl Try.func29 rfl (by kernel_rfl) (by kernel_rfl) ?_
  simp [Try.f29, tmpAt]
  have w0 := eq_szRangeS x.set_ (left) f0 (by omega) (by omega)
  try simp at w0
  simp [w0]
  refine RB_dec ?_ ?_ <;> intro h0
  · have := cut_neg h0; simp; unfold cut; split <;> omega
  obtain ⟨c0, d0⟩ := cut_pos h0
  simp [c0]
  unfold cut; split <;> omega
theorem eq_toLine (x : Line) (h1 : szLine x ≤ 1048576) : lim E 34 [encLine true false x] = some (encLine false true x, []) := by
  have hz : szLine x = x.set_.length := rfl
  have w5 := eq_toRangeS x.set_ (by omega)
  try simp at w5
  refine lim_run (E := E) rfl Try.func34 rfl (by kernel_rfl) (by kernel_rfl) ?_
  simp [Try.f34, tmpAt, w5]
theorem eq_eqLine (x y : Line) (h1 : szLine x ≤ 1048576) : lim E 39 [encLine false false x, encLine false false y] = some (.bool (decide (x = y)), []) := by
  have hz : szLine x = x.set_.length := rfl
  refine lim_run (E := E) rfl Try.func39 rfl (by kernel_rfl) (by kernel_rfl) ?_
  simp [Try.f39, tmpAt]
  refine RB_ndec ?_ ?_ <;> intro h10
  · simp; intro hc; exact h10 (by rw [hc])
  simp
  refine RB_ndec ?_ ?_ <;> intro h11
  · simp; intro hc; exact h11 (by rw [hc])
  simp
  refine RB_ndec ?_ ?_ <;> intro h12
  · simp; intro hc; exact h12 (by rw [hc])
  simp
  refine RB_ndec ?_ ?_ <;> intro h13
  · simp; intro hc; exact h13 (by rw [hc])
  simp
  refine RB_ndec ?_ ?_ <;> intro h14
  · simp; intro hc; exact h14 (by rw [hc])
  have w5 := eq_eqRangeS x.set_ y.set_ (by omega)
  try simp at w5
  simp [w5]
  refine RB_ndec ?_ ?_ <;> intro h15
  · simp; intro hc; exact h15 (by rw [hc])
  simp
  refine RB_ndec ?_ ?_ <;> intro h16
  · simp; intro hc; exact h16 (by rw [hc])
  simp
  cases x; cases y; simp_all
theorem eq_szLineS (xs : List Line) (left : Int) (hw : (xs.length ≤ 9223372036854775807 ∧ ∀ y ∈ xs, wfLine y)) (h3 : 0 ≤ left) (h4 : left ≤ 1048576) : lim E 6 [.lst false (teLine true) 7 (xs.map (encLine true false)), .int .i64 left] = some (.int .i64 (cut (left - ((xs.length + tot (fun (y : Line) => szLine y) xs) : Nat))), []) := by
  refine lim_run (E := E) rfl Try.func6 rfl (by kernel_rfl) (by kernel_rfl) ?_
  simp [Try.f6, tmpAt]
  have hl : xs.length ≤ 9223372036854775807 := hw.1
  have w0 : IntKind.i64.wrap (left - (xs.length : Int)) = left - xs.length := wrap_in (by omega) (by omega)
  simp [w0]
  refine RB_dec ?_ ?_ <;> intro h0 <;> simp
  · unfold cut; split <;> omega
  refine loop_ind (fun m st => ∃ (i : Nat) (n : Int), i + m = xs.length ∧ 0 ≤ n ∧ n ≤ left ∧ n - (tot (fun (y : Line) => szLine y) (xs.drop i) : Nat) = left - ((xs.length + tot (fun (y : Line) => szLine y) xs : Nat) : Int) ∧ st.env 0 = .lst false (teLine true) 7 (xs.map (encLine true false)) ∧ st.env 1 = .int .i64 n ∧ st.env 5 = .int .i64 i) xs.length _ ?_ ?_
  · exact ⟨0, left - xs.length, by simp; omega⟩
  rintro m ⟨env, rs⟩ ⟨i, n, hi, hn, hn2, hs, e0, e1, e5⟩ ih
  simp at e0 e1 e5
  simp [e0, e1, e5]
  have hu := wrap_up (show i < 4611686018427387904 by omega)
  refine RB_dec ?_ ?_ <;> intro h
  · have hx := hw.2 xs[i] (List.getElem_mem h)
    have hd := tot_drop (fun (y : Line) => szLine y) h
    have hsz : n - ((szLine xs[i] : Nat) : Int) = left - ((xs.length + tot (fun (y : Line) => szLine y) xs : Nat) : Int) + (tot (fun (y : Line) => szLine y) (xs.drop (i + 1)) : Nat) := by omega
    have w1 := eq_szLine xs[i] n hx hn (by omega)
    try simp at w1
    simp [e0, e1, e5, h, w1]
    refine RB_dec ?_ ?_ <;> intro h1
    · have := cut_neg h1; simp; unfold cut; split <;> omega
    · obtain ⟨c1, c2⟩ := cut_pos h1
      simp [e0, e1, e5, hu, c1]
      refine ih (m - 1) _ (by omega) ⟨i + 1, n - (szLine xs[i] : Nat), ?_⟩
      simp [e0, e1, e5]
      omega
  · have hd : xs.drop i = [] := List.drop_eq_nil_of_le (by omega)
    rw [hd] at hs
    simp only [tot] at hs
    simp [e1, h]
    unfold cut; split <;> omega
theorem eq_toLineS (xs : List Line) (h1 : (xs.length + tot (fun (y : Line) => szLine y) xs) ≤ 1048576) : lim E 9 [.lst false (teLine true) 7 (xs.map (encLine true false))] = some (.lst true (teLine false) 7 (xs.map (encLine false true)), []) := by
  refine lim_run (E := E) rfl Try.func9 rfl (by kernel_rfl) (by kernel_rfl) ?_
  simp [Try.f9, tmpAt]
  refine ⟨by omega, ?_⟩
  refine loop_ind (fun m st => ∃ (i : Nat) (ys : List Line), i + m = xs.length ∧ ys.length = xs.length ∧ xs.take i = ys.take i ∧ st.env 0 = .lst false (teLine true) 7 (xs.map (encLine true false)) ∧ st.env 3 = .slc (7, 0) [] 0 xs.length ∧ st.env 4 = .int .i64 i ∧ st.rs (7, 0) = some ⟨false, .lst true (teLine false) 7 (ys.map (encLine false true))⟩) xs.length _ ?_ ?_
  · exact ⟨0, List.replicate xs.length zeroLine, by simp⟩
  rintro m ⟨env, rs⟩ ⟨i, ys, hi, hl, hs, e0, e3, e4, r⟩ ih
  simp at e0 e3 e4 r
  simp [e0, e3, e4, r]
  have hw := wrap_up (show i < 4611686018427387904 by omega)
  refine RB_dec ?_ ?_ <;> intro h
  · have h' : i < ys.length := by omega
    have hz := tot_mem (fun (y : Line) => szLine y) (List.getElem_mem h)
    have w1 := eq_toLine xs[i] (by omega)
    try simp at w1
    simp [e0, e3, e4, r, h, h', hl, w1]
    refine ih (m - 1) _ (by omega) ⟨i + 1, ys.set i xs[i], ?_⟩
    simp [e0, e3, e4, hw, hl]
    exact ⟨by omega, take_next hs h h'⟩
  · have he := take_all hs h hl.symm
    subst he
    simp [e0, e3, e4, r, h, hl]
theorem eq_eqLineS (xs ys : List Line) (h1 : (xs.length + tot (fun (y : Line) => szLine y) xs) ≤ 1048576) : lim E 12 [.lst false (teLine false) 7 (xs.map (encLine false false)), .lst false (teLine false) 7 (ys.map (encLine false false))] = some (.bool (decide (xs = ys)), []) := by
  refine lim_run (E := E) rfl Try.func12 rfl (by kernel_rfl) (by kernel_rfl) ?_
  simp [Try.f12, tmpAt]
  refine RB_ndec ?_ ?_ <;> intro hl
  · simp
    intro hc; subst hc; exact hl rfl
  · simp
    have hl : xs.length = ys.length := by omega
    refine loop_ind (fun m st => ∃ (i : Nat), i + m = xs.length ∧ xs.take i = ys.take i ∧ st.env 0 = .lst false (teLine false) 7 (xs.map (encLine false false)) ∧ st.env 1 = .lst false (teLine false) 7 (ys.map (encLine false false)) ∧ st.env 5 = .int .i64 i) xs.length _ ?_ ?_
    · exact ⟨0, by simp⟩
    rintro m ⟨env, rs⟩ ⟨i, hi, hs, e0, e1, e5⟩ ih
    simp at e0 e1 e5
    simp [e0, e1, e5]
    have hw := wrap_up (show i < 4611686018427387904 by omega)
    refine RB_dec ?_ ?_ <;> intro h
    · have h' : i < ys.length := by omega
      have hz := tot_mem (fun (y : Line) => szLine y) (List.getElem_mem h)
      have w1 := eq_eqLine xs[i] ys[i] (by omega)
      try simp at w1
      simp [e0, e1, e5, h, h', w1]
      refine RB_ndec ?_ ?_ <;> intro h2 <;> simp [e0, e1, e5]
      · intro hc; subst hc; exact h2 rfl
      · refine ih (m - 1) _ (by omega) ⟨i + 1, ?_⟩
        simp [e0, e1, e5, hw]
        exact ⟨by omega, take_eq hs h h' h2⟩
    · simp [e0, e1, e5, h]
      exact take_all hs h hl
theorem eq_szView (x : View) (left : Int) (hw : wfView x) (h3 : 0 ≤ left) (h4 : left ≤ 1048576) : lim E 16 [encView false x, .int .i64 left] = some (.int .i64 (cut (left - (szView x : Nat))), []) := by
  have hz : szView x = x.box.length + x.uids.length := rfl
  obtain ⟨f0, f1⟩ := hw
  refine lim_run (E := E) rfl Try.func16 rfl (by kernel_rfl) (by kernel_rfl) ?_
  simp [Try.f16, tmpAt]
  have w0 : IntKind.i64.wrap (left - (x.box.length : Int)) = left - x.box.length := wrap_in (by omega) (by omega)
  simp [w0]
  refine RB_dec ?_ ?_ <;> intro h0
  · simp; unfold cut; split <;> omega
  have w1 := eq_szIntS x.uids (left - (x.box.length : Nat)) f1 (by omega) (by omega)
  try simp at w1
  simp [w1]
  refine RB_dec ?_ ?_ <;> intro h1
  · have := cut_neg h1; simp; unfold cut; split <;> omega
  obtain ⟨c1, d1⟩ := cut_pos h1
  simp [c1]
  unfold cut; split <;> omega
theorem eq_toView (x : View) (h1 : szView x ≤ 1048576) : lim E 19 [encView false x] = some (encView true x, []) := by
  have hz : szView x = x.box.length + x.uids.length := rfl
  have w2 := eq_toIntS x.uids (by omega)
  try simp at w2
  refine lim_run (E := E) rfl Try.func19 rfl (by kernel_rfl) (by kernel_rfl) ?_
  simp [Try.f19, tmpAt, w2]
theorem eq_eqView (x y : View) (h1 : szView x ≤ 1048576) : lim E 22 [encView false x, encView false y] = some (.bool (decide (x = y)), []) := by
  have hz : szView x = x.box.length + x.uids.length := rfl
  refine lim_run (E := E) rfl Try.func22 rfl (by kernel_rfl) (by kernel_rfl) ?_
  simp [Try.f22, tmpAt]
  refine RB_ndec ?_ ?_ <;> intro h10
  · simp; intro hc; exact h10 (by rw [hc])
  simp
  refine RB_ndec ?_ ?_ <;> intro h11
  · simp; intro hc; exact h11 (by rw [hc])
  have w2 := eq_eqIntS x.uids y.uids (by omega)
  try simp at w2
  simp [w2]
  refine RB_ndec ?_ ?_ <;> intro h12
  · simp; intro hc; exact h12 (by rw [hc])
  simp
  refine RB_ndec ?_ ?_ <;> intro h13
  · simp; intro hc; exact h13 (by rw [hc])
  simp
  cases x; cases y; simp_all
theorem eq_szSeenS (xs : List Seen) (left : Int) (hw : xs.length ≤ 9223372036854775807) (h3 : 0 ≤ left) (h4 : left ≤ 1048576) : lim E 28 [.lst false (teSeen true) 3 (xs.map encSeen), .int .i64 left] = some (.int .i64 (cut (left - (xs.length : Nat))), []) := by
  refine lim_run (E := E) rfl Try.func28 rfl (by kernel_rfl) (by kernel_rfl) ?_
  simp [Try.f28, tmpAt]
  have hl : xs.length ≤ 9223372036854775807 := hw
  have w0 : IntKind.i64.wrap (left - (xs.length : Int)) = left - xs.length := wrap_in (by omega) (by omega)
  simp [w0]
  refine RB_dec ?_ ?_ <;> intro h0 <;> simp
  · unfold cut; split <;> omega
  · unfold cut; split <;> omega
theorem eq_toSeenS (xs : List Seen) (h1 : xs.length ≤ 1048576) : lim E 33 [.lst false (teSeen true) 3 (xs.map encSeen)] = some (.lst true (teSeen false) 3 (xs.map encSeen), []) := by
  refine lim_run (E := E) rfl Try.func33 rfl (by kernel_rfl) (by kernel_rfl) ?_
  simp [Try.f33, tmpAt]
  refine ⟨by omega, ?_⟩
  refine loop_ind (fun m st => ∃ (i : Nat) (ys : List Seen), i + m = xs.length ∧ ys.length = xs.length ∧ xs.take i = ys.take i ∧ st.env 0 = .lst false (teSeen true) 3 (xs.map encSeen) ∧ st.env 3 = .slc (7, 0) [] 0 xs.length ∧ st.env 4 = .int .i64 i ∧ st.rs (7, 0) = some ⟨false, .lst true (teSeen false) 3 (ys.map encSeen)⟩) xs.length _ ?_ ?_
  · exact ⟨0, List.replicate xs.length zeroSeen, by simp⟩
  rintro m ⟨env, rs⟩ ⟨i, ys, hi, hl, hs, e0, e3, e4, r⟩ ih
  simp at e0 e3 e4 r
  simp [e0, e3, e4, r]
  have hw := wrap_up (show i < 4611686018427387904 by omega)
  refine RB_dec ?_ ?_ <;> intro h
  · have h' : i < ys.length := by omega
    have w1 := eq_toSeen xs[i]
    try simp at w1
    simp [e0, e3, e4, r, h, h', hl, w1]
    refine ih (m - 1) _ (by omega) ⟨i + 1, ys.set i xs[i], ?_⟩
    simp [e0, e3, e4, hw, hl]
    exact ⟨by omega, take_next hs h h'⟩
  · have he := take_all hs h hl.symm
    subst he
    simp [e0, e3, e4, r, h, hl]
theorem eq_eqSeenS (xs ys : List Seen) (h1 : xs.length ≤ 1048576) : lim E 38 [.lst false (teSeen false) 3 (xs.map encSeen), .lst false (teSeen false) 3 (ys.map encSeen)] = some (.bool (decide (xs = ys)), []) := by
  refine lim_run (E := E) rfl Try.func38 rfl (by kernel_rfl) (by kernel_rfl) ?_
  simp [Try.f38, tmpAt]
  refine RB_ndec ?_ ?_ <;> intro hl
  · simp
    intro hc; subst hc; exact hl rfl
  · simp
    have hl : xs.length = ys.length := by omega
    refine loop_ind (fun m st => ∃ (i : Nat), i + m = xs.length ∧ xs.take i = ys.take i ∧ st.env 0 = .lst false (teSeen false) 3 (xs.map encSeen) ∧ st.env 1 = .lst false (teSeen false) 3 (ys.map encSeen) ∧ st.env 5 = .int .i64 i) xs.length _ ?_ ?_
    · exact ⟨0, by simp⟩
    rintro m ⟨env, rs⟩ ⟨i, hi, hs, e0, e1, e5⟩ ih
    simp at e0 e1 e5
    simp [e0, e1, e5]
    have hw := wrap_up (show i < 4611686018427387904 by omega)
    refine RB_dec ?_ ?_ <;> intro h
    · have h' : i < ys.length := by omega
      have w1 := eq_eqSeen xs[i] ys[i]
      try simp at w1
      simp [e0, e1, e5, h, h', w1]
      refine RB_ndec ?_ ?_ <;> intro h2 <;> simp [e0, e1, e5]
      · intro hc; subst hc; exact h2 rfl
      · refine ih (m - 1) _ (by omega) ⟨i + 1, ?_⟩
        simp [e0, e1, e5, hw]
        exact ⟨by omega, take_eq hs h h' h2⟩
    · simp [e0, e1, e5, h]
      exact take_all hs h hl
theorem eq_szCache (x : Cache) (left : Int) (hw : wfCache x) (h3 : 0 ≤ left) (h4 : left ≤ 1048576) : lim E 5 [encCache true false x, .int .i64 left] = some (.int .i64 (cut (left - (szCache x : Nat))), []) := by
  have hz : szCache x = x.box.length + x.seens.length := rfl
  obtain ⟨f0, f1⟩ := hw
  refine lim_run (E := E) rfl Try.func5 rfl (by kernel_rfl) (by kernel_rfl) ?_
  simp [Try.f5, tmpAt]
  have w0 : IntKind.i64.wrap (left - (x.box.length : Int)) = left - x.box.length := wrap_in (by omega) (by omega)
  simp [w0]
  refine RB_dec ?_ ?_ <;> intro h0
  · simp; unfold cut; split <;> omega
  have w1 := eq_szSeenS x.seens (left - (x.box.length : Nat)) f1 (by omega) (by omega)
  try simp at w1
  simp [w1]
  refine RB_dec ?_ ?_ <;> intro h1
  · have := cut_neg h1; simp; unfold cut; split <;> omega
  obtain ⟨c1, d1⟩ := cut_pos h1
  simp [c1]
  unfold cut; split <;> omega
theorem eq_toCache (x : Cache) (h1 : szCache x ≤ 1048576) : lim E 8 [encCache true false x] = some (encCache false true x, []) := by
  have hz : szCache x = x.box.length + x.seens.length := rfl
  have w3 := eq_toSeenS x.seens (by omega)
  try simp at w3
  refine lim_run (E := E) rfl Try.func8 rfl (by kernel_rfl) (by kernel_rfl) ?_
  simp [Try.f8, tmpAt, w3]
theorem eq_eqCache (x y : Cache) (h1 : szCache x ≤ 1048576) : lim E 11 [encCache false false x, encCache false false y] = some (.bool (decide (x = y)), []) := by
  have hz : szCache x = x.box.length + x.seens.length := rfl
  refine lim_run (E := E) rfl Try.func11 rfl (by kernel_rfl) (by kernel_rfl) ?_
  simp [Try.f11, tmpAt]
  refine RB_ndec ?_ ?_ <;> intro h10
  · simp; intro hc; exact h10 (by rw [hc])
  simp
  refine RB_ndec ?_ ?_ <;> intro h11
  · simp; intro hc; exact h11 (by rw [hc])
  simp
  refine RB_ndec ?_ ?_ <;> intro h12
  · simp; intro hc; exact h12 (by rw [hc])
  have w3 := eq_eqSeenS x.seens y.seens (by omega)
  try simp at w3
  simp [w3]
  refine RB_ndec ?_ ?_ <;> intro h13
  · simp; intro hc; exact h13 (by rw [hc])
  simp
  cases x; cases y; simp_all
end Go.Proofs.Ytfboojamiabmcaa
