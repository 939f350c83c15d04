/- The laws' own helpers, for all data: what is left of a size, copies, equality. (By program: gen_dat.py.) -/
import Derived.Test.YtongomiihjlbcaaGreatcDat
set_option linter.unusedSectionVars false
set_option linter.all false
set_option linter.unusedVariables false
set_option linter.unusedSimpArgs false
set_option maxRecDepth 100000
namespace Go.Proofs.YtongomiihjlbcaaGreat
open Go.Lft

theorem eq_szIntS (xs : List Int) (left : Int) (hw : xs.length ≤ 9223372036854775807) (h3 : 0 ≤ left) (h4 : left ≤ 1048576) : lim E 14 [.lst false 3 1 (xs.map (.int .i64)), .int .i64 left] = some (.int .i64 (cut (left - (xs.length : Nat))), []) := by
  refine lim_run (E := E) rfl Tryz.func14 rfl (by kernel_rfl) (by kernel_rfl) ?_
  simp [Tryz.f14, tmpAt]
  have hl : xs.length ≤ 9223372036854775807 := hw
  have w0 : IntKind.i64.wrap (left - (xs.length : Int)) = left - xs.length := wrap_in (by omega) (by omega)
  simp [w0]
  refine RB_dec ?_ ?_ <;> intro h0 <;> simp
  · unfold cut; split <;> omega
  · unfold cut; split <;> omega
theorem eq_toIntS (xs : List Int) (h1 : xs.length ≤ 1048576) : lim E 24 [.lst false 3 1 (xs.map (.int .i64))] = some (.lst true 3 1 (xs.map (.int .i64)), []) := by
  refine lim_run (E := E) rfl Tryz.func24 rfl (by kernel_rfl) (by kernel_rfl) ?_
  simp [Tryz.f24, tmpAt]
  refine ⟨by omega, ?_⟩
  refine loop_ind (fun m st => ∃ (i : Nat) (ys : List Int), i + m = xs.length ∧ ys.length = xs.length ∧ xs.take i = ys.take i ∧ st.env 0 = .lst false 3 1 (xs.map (.int .i64)) ∧ st.env 3 = .slc (7, 0) [] 0 xs.length ∧ st.env 4 = .int .i64 i ∧ st.rs (7, 0) = some ⟨false, .lst true 3 1 (ys.map (.int .i64))⟩) xs.length _ ?_ ?_
  · exact ⟨0, List.replicate xs.length 0, by simp⟩
  rintro m ⟨env, rs⟩ ⟨i, ys, hi, hl, hs, e0, e3, e4, r⟩ ih
  simp at e0 e3 e4 r
  simp [e0, e3, e4, r]
  have hw := wrap_up (show i < 4611686018427387904 by omega)
  refine RB_dec ?_ ?_ <;> intro h
  · have h' : i < ys.length := by omega
    simp [e0, e3, e4, r, h, h', hl]
    refine ih (m - 1) _ (by omega) ⟨i + 1, ys.set i xs[i], ?_⟩
    simp [e0, e3, e4, hw, hl]
    exact ⟨by omega, take_next hs h h'⟩
  · have he := take_all hs h hl.symm
    subst he
    simp [e0, e3, e4, r, h, hl]
theorem eq_eqIntS (xs ys : List Int) (h1 : xs.length ≤ 1048576) : lim E 35 [.lst false 3 1 (xs.map (.int .i64)), .lst false 3 1 (ys.map (.int .i64))] = some (.bool (decide (xs = ys)), []) := by
  refine lim_run (E := E) rfl Tryz.func35 rfl (by kernel_rfl) (by kernel_rfl) ?_
  simp [Tryz.f35, tmpAt]
  refine RB_ndec ?_ ?_ <;> intro hl
  · simp
    intro hc; subst hc; exact hl rfl
  · simp
    have hl : xs.length = ys.length := by omega
    refine loop_ind (fun m st => ∃ (i : Nat), i + m = xs.length ∧ xs.take i = ys.take i ∧ st.env 0 = .lst false 3 1 (xs.map (.int .i64)) ∧ st.env 1 = .lst false 3 1 (ys.map (.int .i64)) ∧ st.env 5 = .int .i64 i) xs.length _ ?_ ?_
    · exact ⟨0, by simp⟩
    rintro m ⟨env, rs⟩ ⟨i, hi, hs, e0, e1, e5⟩ ih
    simp at e0 e1 e5
    simp [e0, e1, e5]
    have hw := wrap_up (show i < 4611686018427387904 by omega)
    refine RB_dec ?_ ?_ <;> intro h
    · have h' : i < ys.length := by omega
      simp [e0, e1, e5, h, h']
      refine RB_ndec ?_ ?_ <;> intro h2 <;> simp [e0, e1, e5]
      · intro hc; subst hc; exact h2 rfl
      · refine ih (m - 1) _ (by omega) ⟨i + 1, ?_⟩
        simp [e0, e1, e5, hw]
        exact ⟨by omega, take_eq hs h h' h2⟩
    · simp [e0, e1, e5, h]
      exact take_all hs h hl
theorem eq_szFile (x : File) (left : Int) (hw : wfFile x) (h3 : 0 ≤ left) (h4 : left ≤ 1048576) : lim E 66 [encFile x, .int .i64 left] = some (.int .i64 (cut (left - (szFile x : Nat))), []) := by
  have hz : szFile x = x.name.length + x.text.length := rfl
  obtain ⟨f0, f1⟩ := hw
  refine lim_run (E := E) rfl Tryz.func66 rfl (by kernel_rfl) (by kernel_rfl) ?_
  simp [Tryz.f66, tmpAt]
  have w0 : IntKind.i64.wrap (left - (x.name.length : Int)) = left - x.name.length := wrap_in (by omega) (by omega)
  simp [w0]
  refine RB_dec ?_ ?_ <;> intro h0
  · simp; unfold cut; split <;> omega
  have w1 : IntKind.i64.wrap (left - (x.name.length : Nat) - (x.text.length : Int)) = left - (x.name.length : Nat) - x.text.length := wrap_in (by omega) (by omega)
  simp [w1]
  refine RB_dec ?_ ?_ <;> intro h1
  · simp; unfold cut; split <;> omega
  simp
  unfold cut; split <;> omega
theorem eq_toFile (x : File) (h1 : szFile x ≤ 1048576) : lim E 72 [encFile x] = some (encFile x, []) := by
  have hz : szFile x = x.name.length + x.text.length := rfl
  refine lim_run (E := E) rfl Tryz.func72 rfl (by kernel_rfl) (by kernel_rfl) ?_
  simp [Tryz.f72, tmpAt]
theorem eq_eqFile (x y : File) (h1 : szFile x ≤ 1048576) : lim E 86 [encFile x, encFile y] = some (.bool (decide (x = y)), []) := by
  have hz : szFile x = x.name.length + x.text.length := rfl
  refine lim_run (E := E) rfl Tryz.func86 rfl (by kernel_rfl) (by kernel_rfl) ?_
  simp [Tryz.f86, tmpAt]
  refine RB_ndec ?_ ?_ <;> intro h10
  · simp; intro hc; exact h10 (by rw [hc])
  simp
  refine RB_ndec ?_ ?_ <;> intro h11
  · simp; intro hc; exact h11 (by rw [hc])
  simp
  refine RB_ndec ?_ ?_ <;> intro h12
  · simp; intro hc; exact h12 (by rw [hc])
  simp
  cases x; cases y; simp_all
theorem eq_szFileS (xs : List File) (left : Int) (hw : (xs.length ≤ 9223372036854775807 ∧ ∀ y ∈ xs, wfFile y)) (h3 : 0 ≤ left) (h4 : left ≤ 1048576) : lim E 37 [.lst false (teFile true) 3 (xs.map encFile), .int .i64 left] = some (.int .i64 (cut (left - ((xs.length + tot (fun (y : File) => szFile y) xs) : Nat))), []) := by
  refine lim_run (E := E) rfl Tryz.func37 rfl (by kernel_rfl) (by kernel_rfl) ?_
  simp [Tryz.f37, tmpAt]
  have hl : xs.length ≤ 9223372036854775807 := hw.1
  have w0 : IntKind.i64.wrap (left - (xs.length : Int)) = left - xs.length := wrap_in (by omega) (by omega)
  simp [w0]
  refine RB_dec ?_ ?_ <;> intro h0 <;> simp
  · unfold cut; split <;> omega
  refine loop_ind (fun m st => ∃ (i : Nat) (n : Int), i + m = xs.length ∧ 0 ≤ n ∧ n ≤ left ∧ n - (tot (fun (y : File) => szFile y) (xs.drop i) : Nat) = left - ((xs.length + tot (fun (y : File) => szFile y) xs : Nat) : Int) ∧ st.env 0 = .lst false (teFile true) 3 (xs.map encFile) ∧ st.env 1 = .int .i64 n ∧ st.env 5 = .int .i64 i) xs.length _ ?_ ?_
  · exact ⟨0, left - xs.length, by simp; omega⟩
  rintro m ⟨env, rs⟩ ⟨i, n, hi, hn, hn2, hs, e0, e1, e5⟩ ih
  simp at e0 e1 e5
  simp [e0, e1, e5]
  have hu := wrap_up (show i < 4611686018427387904 by omega)
  refine RB_dec ?_ ?_ <;> intro h
  · have hx := hw.2 xs[i] (List.getElem_mem h)
    have hd := tot_drop (fun (y : File) => szFile y) h
    have hsz : n - ((szFile xs[i] : Nat) : Int) = left - ((xs.length + tot (fun (y : File) => szFile y) xs : Nat) : Int) + (tot (fun (y : File) => szFile y) (xs.drop (i + 1)) : Nat) := by omega
    have w1 := eq_szFile xs[i] n hx hn (by omega)
    try simp at w1
    simp [e0, e1, e5, h, w1]
    refine RB_dec ?_ ?_ <;> intro h1
    · have := cut_neg h1; simp; unfold cut; split <;> omega
    · obtain ⟨c1, c2⟩ := cut_pos h1
      simp [e0, e1, e5, hu, c1]
      refine ih (m - 1) _ (by omega) ⟨i + 1, n - (szFile xs[i] : Nat), ?_⟩
      simp [e0, e1, e5]
      omega
  · have hd : xs.drop i = [] := List.drop_eq_nil_of_le (by omega)
    rw [hd] at hs
    simp only [tot] at hs
    simp [e1, h]
    unfold cut; split <;> omega
theorem eq_toFileS (xs : List File) (h1 : (xs.length + tot (fun (y : File) => szFile y) xs) ≤ 1048576) : lim E 47 [.lst false (teFile true) 3 (xs.map encFile)] = some (.lst true (teFile false) 3 (xs.map encFile), []) := by
  refine lim_run (E := E) rfl Tryz.func47 rfl (by kernel_rfl) (by kernel_rfl) ?_
  simp [Tryz.f47, tmpAt]
  refine ⟨by omega, ?_⟩
  refine loop_ind (fun m st => ∃ (i : Nat) (ys : List File), i + m = xs.length ∧ ys.length = xs.length ∧ xs.take i = ys.take i ∧ st.env 0 = .lst false (teFile true) 3 (xs.map encFile) ∧ st.env 3 = .slc (7, 0) [] 0 xs.length ∧ st.env 4 = .int .i64 i ∧ st.rs (7, 0) = some ⟨false, .lst true (teFile false) 3 (ys.map encFile)⟩) xs.length _ ?_ ?_
  · exact ⟨0, List.replicate xs.length zeroFile, by simp⟩
  rintro m ⟨env, rs⟩ ⟨i, ys, hi, hl, hs, e0, e3, e4, r⟩ ih
  simp at e0 e3 e4 r
  simp [e0, e3, e4, r]
  have hw := wrap_up (show i < 4611686018427387904 by omega)
  refine RB_dec ?_ ?_ <;> intro h
  · have h' : i < ys.length := by omega
    have hz := tot_mem (fun (y : File) => szFile y) (List.getElem_mem h)
    have w1 := eq_toFile xs[i] (by omega)
    try simp at w1
    simp [e0, e3, e4, r, h, h', hl, w1]
    refine ih (m - 1) _ (by omega) ⟨i + 1, ys.set i xs[i], ?_⟩
    simp [e0, e3, e4, hw, hl]
    exact ⟨by omega, take_next hs h h'⟩
  · have he := take_all hs h hl.symm
    subst he
    simp [e0, e3, e4, r, h, hl]
theorem eq_eqFileS (xs ys : List File) (h1 : (xs.length + tot (fun (y : File) => szFile y) xs) ≤ 1048576) : lim E 62 [.lst false (teFile false) 3 (xs.map encFile), .lst false (teFile false) 3 (ys.map encFile)] = some (.bool (decide (xs = ys)), []) := by
  refine lim_run (E := E) rfl Tryz.func62 rfl (by kernel_rfl) (by kernel_rfl) ?_
  simp [Tryz.f62, tmpAt]
  refine RB_ndec ?_ ?_ <;> intro hl
  · simp
    intro hc; subst hc; exact hl rfl
  · simp
    have hl : xs.length = ys.length := by omega
    refine loop_ind (fun m st => ∃ (i : Nat), i + m = xs.length ∧ xs.take i = ys.take i ∧ st.env 0 = .lst false (teFile false) 3 (xs.map encFile) ∧ st.env 1 = .lst false (teFile false) 3 (ys.map encFile) ∧ st.env 5 = .int .i64 i) xs.length _ ?_ ?_
    · exact ⟨0, by simp⟩
    rintro m ⟨env, rs⟩ ⟨i, hi, hs, e0, e1, e5⟩ ih
    simp at e0 e1 e5
    simp [e0, e1, e5]
    have hw := wrap_up (show i < 4611686018427387904 by omega)
    refine RB_dec ?_ ?_ <;> intro h
    · have h' : i < ys.length := by omega
      have hz := tot_mem (fun (y : File) => szFile y) (List.getElem_mem h)
      have w1 := eq_eqFile xs[i] ys[i] (by omega)
      try simp at w1
      simp [e0, e1, e5, h, h', w1]
      refine RB_ndec ?_ ?_ <;> intro h2 <;> simp [e0, e1, e5]
      · intro hc; subst hc; exact h2 rfl
      · refine ih (m - 1) _ (by omega) ⟨i + 1, ?_⟩
        simp [e0, e1, e5, hw]
        exact ⟨by omega, take_eq hs h h' h2⟩
    · simp [e0, e1, e5, h]
      exact take_all hs h hl
theorem eq_szDisk (x : Disk) (left : Int) (hw : wfDisk x) (h3 : 0 ≤ left) (h4 : left ≤ 1048576) : lim E 10 [encDisk true false x, .int .i64 left] = some (.int .i64 (cut (left - (szDisk x : Nat))), []) := by
  have hz : szDisk x = (x.files.length + tot (fun (y : File) => szFile y) x.files) := rfl
  have f0 := hw
  simp only [wfDisk] at f0
  refine lim_run (E := E) rfl Tryz.func10 rfl (by kernel_rfl) (by kernel_rfl) ?_
  simp [Tryz.f10, tmpAt]
  have w0 := eq_szFileS x.files (left) f0 (by omega) (by omega)
  try simp at w0
  simp [w0]
  refine RB_dec ?_ ?_ <;> intro h0
  · have := cut_neg h0; simp; unfold cut; split <;> omega
  obtain ⟨c0, d0⟩ := cut_pos h0
  simp [c0]
  unfold cut; split <;> omega
theorem eq_toDisk (x : Disk) (h1 : szDisk x ≤ 1048576) : lim E 20 [encDisk true false x] = some (encDisk false true x, []) := by
  have hz : szDisk x = (x.files.length + tot (fun (y : File) => szFile y) x.files) := rfl
  have w0 := eq_toFileS x.files (by omega)
  try simp at w0
  refine lim_run (E := E) rfl Tryz.func20 rfl (by kernel_rfl) (by kernel_rfl) ?_
  simp [Tryz.f20, tmpAt, w0]
theorem eq_eqDisk (x y : Disk) (h1 : szDisk x ≤ 1048576) : lim E 31 [encDisk false false x, encDisk false false y] = some (.bool (decide (x = y)), []) := by
  have hz : szDisk x = (x.files.length + tot (fun (y : File) => szFile y) x.files) := rfl
  refine lim_run (E := E) rfl Tryz.func31 rfl (by kernel_rfl) (by kernel_rfl) ?_
  simp [Tryz.f31, tmpAt]
  have w0 := eq_eqFileS x.files y.files (by omega)
  try simp at w0
  simp [w0]
  refine RB_ndec ?_ ?_ <;> intro h10
  · simp; intro hc; exact h10 (by rw [hc])
  simp
  cases x; cases y; simp_all
theorem eq_szMail (x : Mail) (left : Int) (hw : wfMail x) (h3 : 0 ≤ left) (h4 : left ≤ 1048576) : lim E 99 [encMail x, .int .i64 left] = some (.int .i64 (cut (left - (szMail x : Nat))), []) := by
  have hz : szMail x = x.text.length := rfl
  have f0 := hw
  simp only [wfMail] at f0
  refine lim_run (E := E) rfl Tryz.func99 rfl (by kernel_rfl) (by kernel_rfl) ?_
  simp [Tryz.f99, tmpAt]
  have w0 : IntKind.i64.wrap (left - (x.text.length : Int)) = left - x.text.length := wrap_in (by omega) (by omega)
  simp [w0]
  refine RB_dec ?_ ?_ <;> intro h0
  · simp; unfold cut; split <;> omega
  simp
  unfold cut; split <;> omega
theorem eq_toMail (x : Mail) (h1 : szMail x ≤ 1048576) : lim E 100 [encMail x] = some (encMail x, []) := by
  have hz : szMail x = x.text.length := rfl
  refine lim_run (E := E) rfl Tryz.func100 rfl (by kernel_rfl) (by kernel_rfl) ?_
  simp [Tryz.f100, tmpAt]
theorem eq_eqMail (x y : Mail) (h1 : szMail x ≤ 1048576) : lim E 104 [encMail x, encMail y] = some (.bool (decide (x = y)), []) := by
  have hz : szMail x = x.text.length := rfl
  refine lim_run (E := E) rfl Tryz.func104 rfl (by kernel_rfl) (by kernel_rfl) ?_
  simp [Tryz.f104, tmpAt]
  refine RB_ndec ?_ ?_ <;> intro h10
  · simp; intro hc; exact h10 (by rw [hc])
  simp
  refine RB_ndec ?_ ?_ <;> intro h11
  · simp; intro hc; exact h11 (by rw [hc])
  simp
  refine RB_ndec ?_ ?_ <;> intro h12
  · simp; intro hc; exact h12 (by rw [hc])
  simp
  refine RB_ndec ?_ ?_ <;> intro h13
  · simp; intro hc; exact h13 (by rw [hc])
  simp
  cases x; cases y; simp_all
theorem eq_toTomb (x : Tomb) : lim E 101 [encTomb x] = some (encTomb x, []) := by
  refine lim_run (E := E) rfl Tryz.func101 rfl (by kernel_rfl) (by kernel_rfl) ?_
  simp [Tryz.f101, tmpAt]
theorem eq_eqTomb (x y : Tomb) : lim E 105 [encTomb x, encTomb y] = some (.bool (decide (x = y)), []) := by
  refine lim_run (E := E) rfl Tryz.func105 rfl (by kernel_rfl) (by kernel_rfl) ?_
  simp [Tryz.f105, tmpAt]
  refine RB_ndec ?_ ?_ <;> intro h10
  · simp; intro hc; exact h10 (by rw [hc])
  simp
  refine RB_ndec ?_ ?_ <;> intro h11
  · simp; intro hc; exact h11 (by rw [hc])
  simp
  cases x; cases y; simp_all
theorem eq_szMailS (xs : List Mail) (left : Int) (hw : (xs.length ≤ 9223372036854775807 ∧ ∀ y ∈ xs, wfMail y)) (h3 : 0 ≤ left) (h4 : left ≤ 1048576) : lim E 89 [.lst false (teMail true) 4 (xs.map encMail), .int .i64 left] = some (.int .i64 (cut (left - ((xs.length + tot (fun (y : Mail) => szMail y) xs) : Nat))), []) := by
  refine lim_run (E := E) rfl Tryz.func89 rfl (by kernel_rfl) (by kernel_rfl) ?_
  simp [Tryz.f89, tmpAt]
  have hl : xs.length ≤ 9223372036854775807 := hw.1
  have w0 : IntKind.i64.wrap (left - (xs.length : Int)) = left - xs.length := wrap_in (by omega) (by omega)
  simp [w0]
  refine RB_dec ?_ ?_ <;> intro h0 <;> simp
  · unfold cut; split <;> omega
  refine loop_ind (fun m st => ∃ (i : Nat) (n : Int), i + m = xs.length ∧ 0 ≤ n ∧ n ≤ left ∧ n - (tot (fun (y : Mail) => szMail y) (xs.drop i) : Nat) = left - ((xs.length + tot (fun (y : Mail) => szMail y) xs : Nat) : Int) ∧ st.env 0 = .lst false (teMail true) 4 (xs.map encMail) ∧ st.env 1 = .int .i64 n ∧ st.env 5 = .int .i64 i) xs.length _ ?_ ?_
  · exact ⟨0, left - xs.length, by simp; omega⟩
  rintro m ⟨env, rs⟩ ⟨i, n, hi, hn, hn2, hs, e0, e1, e5⟩ ih
  simp at e0 e1 e5
  simp [e0, e1, e5]
  have hu := wrap_up (show i < 4611686018427387904 by omega)
  refine RB_dec ?_ ?_ <;> intro h
  · have hx := hw.2 xs[i] (List.getElem_mem h)
    have hd := tot_drop (fun (y : Mail) => szMail y) h
    have hsz : n - ((szMail xs[i] : Nat) : Int) = left - ((xs.length + tot (fun (y : Mail) => szMail y) xs : Nat) : Int) + (tot (fun (y : Mail) => szMail y) (xs.drop (i + 1)) : Nat) := by omega
    have w1 := eq_szMail xs[i] n hx hn (by omega)
    try simp at w1
    simp [e0, e1, e5, h, w1]
    refine RB_dec ?_ ?_ <;> intro h1
    · have := cut_neg h1; simp; unfold cut; split <;> omega
    · obtain ⟨c1, c2⟩ := cut_pos h1
      simp [e0, e1, e5, hu, c1]
      refine ih (m - 1) _ (by omega) ⟨i + 1, n - (szMail xs[i] : Nat), ?_⟩
      simp [e0, e1, e5]
      omega
  · have hd : xs.drop i = [] := List.drop_eq_nil_of_le (by omega)
    rw [hd] at hs
    simp only [tot] at hs
    simp [e1, h]
    unfold cut; split <;> omega
theorem eq_toMailS (xs : List Mail) (h1 : (xs.length + tot (fun (y : Mail) => szMail y) xs) ≤ 1048576) : lim E 91 [.lst false (teMail true) 4 (xs.map encMail)] = some (.lst true (teMail false) 4 (xs.map encMail), []) := by
  refine lim_run (E := E) rfl Tryz.func91 rfl (by kernel_rfl) (by kernel_rfl) ?_
  simp [Tryz.f91, tmpAt]
  refine ⟨by omega, ?_⟩
  refine loop_ind (fun m st => ∃ (i : Nat) (ys : List Mail), i + m = xs.length ∧ ys.length = xs.length ∧ xs.take i = ys.take i ∧ st.env 0 = .lst false (teMail true) 4 (xs.map encMail) ∧ st.env 3 = .slc (7, 0) [] 0 xs.length ∧ st.env 4 = .int .i64 i ∧ st.rs (7, 0) = some ⟨false, .lst true (teMail false) 4 (ys.map encMail)⟩) xs.length _ ?_ ?_
  · exact ⟨0, List.replicate xs.length zeroMail, by simp⟩
  rintro m ⟨env, rs⟩ ⟨i, ys, hi, hl, hs, e0, e3, e4, r⟩ ih
  simp at e0 e3 e4 r
  simp [e0, e3, e4, r]
  have hw := wrap_up (show i < 4611686018427387904 by omega)
  refine RB_dec ?_ ?_ <;> intro h
  · have h' : i < ys.length := by omega
    have hz := tot_mem (fun (y : Mail) => szMail y) (List.getElem_mem h)
    have w1 := eq_toMail xs[i] (by omega)
    try simp at w1
    simp [e0, e3, e4, r, h, h', hl, w1]
    refine ih (m - 1) _ (by omega) ⟨i + 1, ys.set i xs[i], ?_⟩
    simp [e0, e3, e4, hw, hl]
    exact ⟨by omega, take_next hs h h'⟩
  · have he := take_all hs h hl.symm
    subst he
    simp [e0, e3, e4, r, h, hl]
theorem eq_eqMailS (xs ys : List Mail) (h1 : (xs.length + tot (fun (y : Mail) => szMail y) xs) ≤ 1048576) : lim E 97 [.lst false (teMail false) 4 (xs.map encMail), .lst false (teMail false) 4 (ys.map encMail)] = some (.bool (decide (xs = ys)), []) := by
  refine lim_run (E := E) rfl Tryz.func97 rfl (by kernel_rfl) (by kernel_rfl) ?_
  simp [Tryz.f97, tmpAt]
  refine RB_ndec ?_ ?_ <;> intro hl
  · simp
    intro hc; subst hc; exact hl rfl
  · simp
    have hl : xs.length = ys.length := by omega
    refine loop_ind (fun m st => ∃ (i : Nat), i + m = xs.length ∧ xs.take i = ys.take i ∧ st.env 0 = .lst false (teMail false) 4 (xs.map encMail) ∧ st.env 1 = .lst false (teMail false) 4 (ys.map encMail) ∧ st.env 5 = .int .i64 i) xs.length _ ?_ ?_
    · exact ⟨0, by simp⟩
    rintro m ⟨env, rs⟩ ⟨i, hi, hs, e0, e1, e5⟩ ih
    simp at e0 e1 e5
    simp [e0, e1, e5]
    have hw := wrap_up (show i < 4611686018427387904 by omega)
    refine RB_dec ?_ ?_ <;> intro h
    · have h' : i < ys.length := by omega
      have hz := tot_mem (fun (y : Mail) => szMail y) (List.getElem_mem h)
      have w1 := eq_eqMail xs[i] ys[i] (by omega)
      try simp at w1
      simp [e0, e1, e5, h, h', w1]
      refine RB_ndec ?_ ?_ <;> intro h2 <;> simp [e0, e1, e5]
      · intro hc; subst hc; exact h2 rfl
      · refine ih (m - 1) _ (by omega) ⟨i + 1, ?_⟩
        simp [e0, e1, e5, hw]
        exact ⟨by omega, take_eq hs h h' h2⟩
    · simp [e0, e1, e5, h]
      exact take_all hs h hl
theorem eq_szTombS (xs : List Tomb) (left : Int) (hw : xs.length ≤ 9223372036854775807) (h3 : 0 ≤ left) (h4 : left ≤ 1048576) : lim E 90 [.lst false (teTomb true) 2 (xs.map encTomb), .int .i64 left] = some (.int .i64 (cut (left - (xs.length : Nat))), []) := by
  refine lim_run (E := E) rfl Tryz.func90 rfl (by kernel_rfl) (by kernel_rfl) ?_
  simp [Tryz.f90, tmpAt]
  have hl : xs.length ≤ 9223372036854775807 := hw
  have w0 : IntKind.i64.wrap (left - (xs.length : Int)) = left - xs.length := wrap_in (by omega) (by omega)
  simp [w0]
  refine RB_dec ?_ ?_ <;> intro h0 <;> simp
  · unfold cut; split <;> omega
  · unfold cut; split <;> omega
theorem eq_toTombS (xs : List Tomb) (h1 : xs.length ≤ 1048576) : lim E 92 [.lst false (teTomb true) 2 (xs.map encTomb)] = some (.lst true (teTomb false) 2 (xs.map encTomb), []) := by
  refine lim_run (E := E) rfl Tryz.func92 rfl (by kernel_rfl) (by kernel_rfl) ?_
  simp [Tryz.f92, tmpAt]
  refine ⟨by omega, ?_⟩
  refine loop_ind (fun m st => ∃ (i : Nat) (ys : List Tomb), i + m = xs.length ∧ ys.length = xs.length ∧ xs.take i = ys.take i ∧ st.env 0 = .lst false (teTomb true) 2 (xs.map encTomb) ∧ st.env 3 = .slc (7, 0) [] 0 xs.length ∧ st.env 4 = .int .i64 i ∧ st.rs (7, 0) = some ⟨false, .lst true (teTomb false) 2 (ys.map encTomb)⟩) xs.length _ ?_ ?_
  · exact ⟨0, List.replicate xs.length zeroTomb, by simp⟩
  rintro m ⟨env, rs⟩ ⟨i, ys, hi, hl, hs, e0, e3, e4, r⟩ ih
  simp at e0 e3 e4 r
  simp [e0, e3, e4, r]
  have hw := wrap_up (show i < 4611686018427387904 by omega)
  refine RB_dec ?_ ?_ <;> intro h
  · have h' : i < ys.length := by omega
    have w1 := eq_toTomb xs[i]
    try simp at w1
    simp [e0, e3, e4, r, h, h', hl, w1]
    refine ih (m - 1) _ (by omega) ⟨i + 1, ys.set i xs[i], ?_⟩
    simp [e0, e3, e4, hw, hl]
    exact ⟨by omega, take_next hs h h'⟩
  · have he := take_all hs h hl.symm
    subst he
    simp [e0, e3, e4, r, h, hl]
theorem eq_eqTombS (xs ys : List Tomb) (h1 : xs.length ≤ 1048576) : lim E 98 [.lst false (teTomb false) 2 (xs.map encTomb), .lst false (teTomb false) 2 (ys.map encTomb)] = some (.bool (decide (xs = ys)), []) := by
  refine lim_run (E := E) rfl Tryz.func98 rfl (by kernel_rfl) (by kernel_rfl) ?_
  simp [Tryz.f98, tmpAt]
  refine RB_ndec ?_ ?_ <;> intro hl
  · simp
    intro hc; subst hc; exact hl rfl
  · simp
    have hl : xs.length = ys.length := by omega
    refine loop_ind (fun m st => ∃ (i : Nat), i + m = xs.length ∧ xs.take i = ys.take i ∧ st.env 0 = .lst false (teTomb false) 2 (xs.map encTomb) ∧ st.env 1 = .lst false (teTomb false) 2 (ys.map encTomb) ∧ st.env 5 = .int .i64 i) xs.length _ ?_ ?_
    · exact ⟨0, by simp⟩
    rintro m ⟨env, rs⟩ ⟨i, hi, hs, e0, e1, e5⟩ ih
    simp at e0 e1 e5
    simp [e0, e1, e5]
    have hw := wrap_up (show i < 4611686018427387904 by omega)
    refine RB_dec ?_ ?_ <;> intro h
    · have h' : i < ys.length := by omega
      have w1 := eq_eqTomb xs[i] ys[i]
      try simp at w1
      simp [e0, e1, e5, h, h', w1]
      refine RB_ndec ?_ ?_ <;> intro h2 <;> simp [e0, e1, e5]
      · intro hc; subst hc; exact h2 rfl
      · refine ih (m - 1) _ (by omega) ⟨i + 1, ?_⟩
        simp [e0, e1, e5, hw]
        exact ⟨by omega, take_eq hs h h' h2⟩
    · simp [e0, e1, e5, h]
      exact take_all hs h hl
theorem eq_szBox (x : Box) (left : Int) (hw : wfBox x) (h3 : 0 ≤ left) (h4 : left ≤ 1048576) : lim E 65 [encBox true false x, .int .i64 left] = some (.int .i64 (cut (left - (szBox x : Nat))), []) := by
  have hz : szBox x = x.name.length + (x.mails.length + tot (fun (y : Mail) => szMail y) x.mails) + x.tombs.length := rfl
  obtain ⟨f0, f1, f2⟩ := hw
  refine lim_run (E := E) rfl Tryz.func65 rfl (by kernel_rfl) (by kernel_rfl) ?_
  simp [Tryz.f65, tmpAt]
  have w0 : IntKind.i64.wrap (left - (x.name.length : Int)) = left - x.name.length := wrap_in (by omega) (by omega)
  simp [w0]
  refine RB_dec ?_ ?_ <;> intro h0
  · simp; unfold cut; split <;> omega
  have w1 := eq_szMailS x.mails (left - (x.name.length : Nat)) f1 (by omega) (by omega)
  try simp at w1
  simp [w1]
  refine RB_dec ?_ ?_ <;> intro h1
  · have := cut_neg h1; simp; unfold cut; split <;> omega
  obtain ⟨c1, d1⟩ := cut_pos h1
  have w2 := eq_szTombS x.tombs (left - (x.name.length : Nat) - ((x.mails.length + tot (fun (y : Mail) => szMail y) x.mails) : Nat)) f2 (by omega) (by omega)
  try simp at w2
  simp [w2, c1]
  refine RB_dec ?_ ?_ <;> intro h2
  · have := cut_neg h2; simp; unfold cut; split <;> omega
  obtain ⟨c2, d2⟩ := cut_pos h2
  simp [c1, c2]
  unfold cut; split <;> omega
theorem eq_toBox (x : Box) (h1 : szBox x ≤ 1048576) : lim E 71 [encBox true false x] = some (encBox false true x, []) := by
  have hz : szBox x = x.name.length + (x.mails.length + tot (fun (y : Mail) => szMail y) x.mails) + x.tombs.length := rfl
  have w4 := eq_toMailS x.mails (by omega)
  try simp at w4
  have w5 := eq_toTombS x.tombs (by omega)
  try simp at w5
  refine lim_run (E := E) rfl Tryz.func71 rfl (by kernel_rfl) (by kernel_rfl) ?_
  simp [Tryz.f71, tmpAt, w4, w5]
theorem eq_eqBox (x y : Box) (h1 : szBox x ≤ 1048576) : lim E 85 [encBox false false x, encBox false false y] = some (.bool (decide (x = y)), []) := by
  have hz : szBox x = x.name.length + (x.mails.length + tot (fun (y : Mail) => szMail y) x.mails) + x.tombs.length := rfl
  refine lim_run (E := E) rfl Tryz.func85 rfl (by kernel_rfl) (by kernel_rfl) ?_
  simp [Tryz.f85, tmpAt]
  refine RB_ndec ?_ ?_ <;> intro h10
  · simp; intro hc; exact h10 (by rw [hc])
  simp
  refine RB_ndec ?_ ?_ <;> intro h11
  · simp; intro hc; exact h11 (by rw [hc])
  simp
  refine RB_ndec ?_ ?_ <;> intro h12
  · simp; intro hc; exact h12 (by rw [hc])
  simp
  refine RB_ndec ?_ ?_ <;> intro h13
  · simp; intro hc; exact h13 (by rw [hc])
  have w4 := eq_eqMailS x.mails y.mails (by omega)
  try simp at w4
  simp [w4]
  refine RB_ndec ?_ ?_ <;> intro h14
  · simp; intro hc; exact h14 (by rw [hc])
  have w5 := eq_eqTombS x.tombs y.tombs (by omega)
  try simp at w5
  simp [w5]
  refine RB_ndec ?_ ?_ <;> intro h15
  · simp; intro hc; exact h15 (by rw [hc])
  simp
  refine RB_ndec ?_ ?_ <;> intro h16
  · simp; intro hc; exact h16 (by rw [hc])
  simp
  cases x; cases y; simp_all
theorem eq_szBoxS (xs : List Box) (left : Int) (hw : (xs.length ≤ 9223372036854775807 ∧ ∀ y ∈ xs, wfBox y)) (h3 : 0 ≤ left) (h4 : left ≤ 1048576) : lim E 36 [.lst false (teBox true) 7 (xs.map (encBox true false)), .int .i64 left] = some (.int .i64 (cut (left - ((xs.length + tot (fun (y : Box) => szBox y) xs) : Nat))), []) := by
  refine lim_run (E := E) rfl Tryz.func36 rfl (by kernel_rfl) (by kernel_rfl) ?_
  simp [Tryz.f36, tmpAt]
  have hl : xs.length ≤ 9223372036854775807 := hw.1
  have w0 : IntKind.i64.wrap (left - (xs.length : Int)) = left - xs.length := wrap_in (by omega) (by omega)
  simp [w0]
  refine RB_dec ?_ ?_ <;> intro h0 <;> simp
  · unfold cut; split <;> omega
  refine loop_ind (fun m st => ∃ (i : Nat) (n : Int), i + m = xs.length ∧ 0 ≤ n ∧ n ≤ left ∧ n - (tot (fun (y : Box) => szBox y) (xs.drop i) : Nat) = left - ((xs.length + tot (fun (y : Box) => szBox y) xs : Nat) : Int) ∧ st.env 0 = .lst false (teBox true) 7 (xs.map (encBox true false)) ∧ st.env 1 = .int .i64 n ∧ st.env 5 = .int .i64 i) xs.length _ ?_ ?_
  · exact ⟨0, left - xs.length, by simp; omega⟩
  rintro m ⟨env, rs⟩ ⟨i, n, hi, hn, hn2, hs, e0, e1, e5⟩ ih
  simp at e0 e1 e5
  simp [e0, e1, e5]
  have hu := wrap_up (show i < 4611686018427387904 by omega)
  refine RB_dec ?_ ?_ <;> intro h
  · have hx := hw.2 xs[i] (List.getElem_mem h)
    have hd := tot_drop (fun (y : Box) => szBox y) h
    have hsz : n - ((szBox xs[i] : Nat) : Int) = left - ((xs.length + tot (fun (y : Box) => szBox y) xs : Nat) : Int) + (tot (fun (y : Box) => szBox y) (xs.drop (i + 1)) : Nat) := by omega
    have w1 := eq_szBox xs[i] n hx hn (by omega)
    try simp at w1
    simp [e0, e1, e5, h, w1]
    refine RB_dec ?_ ?_ <;> intro h1
    · have := cut_neg h1; simp; unfold cut; split <;> omega
    · obtain ⟨c1, c2⟩ := cut_pos h1
      simp [e0, e1, e5, hu, c1]
      refine ih (m - 1) _ (by omega) ⟨i + 1, n - (szBox xs[i] : Nat), ?_⟩
      simp [e0, e1, e5]
      omega
  · have hd : xs.drop i = [] := List.drop_eq_nil_of_le (by omega)
    rw [hd] at hs
    simp only [tot] at hs
    simp [e1, h]
    unfold cut; split <;> omega
theorem eq_toBoxS (xs : List Box) (h1 : (xs.length + tot (fun (y : Box) => szBox y) xs) ≤ 1048576) : lim E 46 [.lst false (teBox true) 7 (xs.map (encBox true false))] = some (.lst true (teBox false) 7 (xs.map (encBox false true)), []) := by
  refine lim_run (E := E) rfl Tryz.func46 rfl (by kernel_rfl) (by kernel_rfl) ?_
  simp [Tryz.f46, tmpAt]
  refine ⟨by omega, ?_⟩
  refine loop_ind (fun m st => ∃ (i : Nat) (ys : List Box), i + m = xs.length ∧ ys.length = xs.length ∧ xs.take i = ys.take i ∧ st.env 0 = .lst false (teBox true) 7 (xs.map (encBox true false)) ∧ st.env 3 = .slc (7, 0) [] 0 xs.length ∧ st.env 4 = .int .i64 i ∧ st.rs (7, 0) = some ⟨false, .lst true (teBox false) 7 (ys.map (encBox false true))⟩) xs.length _ ?_ ?_
  · exact ⟨0, List.replicate xs.length zeroBox, by simp⟩
  rintro m ⟨env, rs⟩ ⟨i, ys, hi, hl, hs, e0, e3, e4, r⟩ ih
  simp at e0 e3 e4 r
  simp [e0, e3, e4, r]
  have hw := wrap_up (show i < 4611686018427387904 by omega)
  refine RB_dec ?_ ?_ <;> intro h
  · have h' : i < ys.length := by omega
    have hz := tot_mem (fun (y : Box) => szBox y) (List.getElem_mem h)
    have w1 := eq_toBox xs[i] (by omega)
    try simp at w1
    simp [e0, e3, e4, r, h, h', hl, w1]
    refine ih (m - 1) _ (by omega) ⟨i + 1, ys.set i xs[i], ?_⟩
    simp [e0, e3, e4, hw, hl]
    exact ⟨by omega, take_next hs h h'⟩
  · have he := take_all hs h hl.symm
    subst he
    simp [e0, e3, e4, r, h, hl]
theorem eq_eqBoxS (xs ys : List Box) (h1 : (xs.length + tot (fun (y : Box) => szBox y) xs) ≤ 1048576) : lim E 61 [.lst false (teBox false) 7 (xs.map (encBox false false)), .lst false (teBox false) 7 (ys.map (encBox false false))] = some (.bool (decide (xs = ys)), []) := by
  refine lim_run (E := E) rfl Tryz.func61 rfl (by kernel_rfl) (by kernel_rfl) ?_
  simp [Tryz.f61, tmpAt]
  refine RB_ndec ?_ ?_ <;> intro hl
  · simp
    intro hc; subst hc; exact hl rfl
  · simp
    have hl : xs.length = ys.length := by omega
    refine loop_ind (fun m st => ∃ (i : Nat), i + m = xs.length ∧ xs.take i = ys.take i ∧ st.env 0 = .lst false (teBox false) 7 (xs.map (encBox false false)) ∧ st.env 1 = .lst false (teBox false) 7 (ys.map (encBox false false)) ∧ st.env 5 = .int .i64 i) xs.length _ ?_ ?_
    · exact ⟨0, by simp⟩
    rintro m ⟨env, rs⟩ ⟨i, hi, hs, e0, e1, e5⟩ ih
    simp at e0 e1 e5
    simp [e0, e1, e5]
    have hw := wrap_up (show i < 4611686018427387904 by omega)
    refine RB_dec ?_ ?_ <;> intro h
    · have h' : i < ys.length := by omega
      have hz := tot_mem (fun (y : Box) => szBox y) (List.getElem_mem h)
      have w1 := eq_eqBox xs[i] ys[i] (by omega)
      try simp at w1
      simp [e0, e1, e5, h, h', w1]
      refine RB_ndec ?_ ?_ <;> intro h2 <;> simp [e0, e1, e5]
      · intro hc; subst hc; exact h2 rfl
      · refine ih (m - 1) _ (by omega) ⟨i + 1, ?_⟩
        simp [e0, e1, e5, hw]
        exact ⟨by omega, take_eq hs h h' h2⟩
    · simp [e0, e1, e5, h]
      exact take_all hs h hl
theorem eq_szStore (x : Store) (left : Int) (hw : wfStore x) (h3 : 0 ≤ left) (h4 : left ≤ 1048576) : lim E 9 [encStore true false x, .int .i64 left] = some (.int .i64 (cut (left - (szStore x : Nat))), []) := by
  have hz : szStore x = (x.boxes.length + tot (fun (y : Box) => szBox y) x.boxes) := rfl
  have f0 := hw
  simp only [wfStore] at f0
  refine lim_run (E := E) rfl Tryz.func9 rfl (by kernel_rfl) (by kernel_rfl) ?_
  simp [Tryz.f9, tmpAt]
  have w0 := eq_szBoxS x.boxes (left) f0 (by omega) (by omega)
  try simp at w0
  simp [w0]
  refine RB_dec ?_ ?_ <;> intro h0
  · have := cut_neg h0; simp; unfold cut; split <;> omega
  obtain ⟨c0, d0⟩ := cut_pos h0
  simp [c0]
  unfold cut; split <;> omega
theorem eq_toStore (x : Store) (h1 : szStore x ≤ 1048576) : lim E 19 [encStore true false x] = some (encStore false true x, []) := by
  have hz : szStore x = (x.boxes.length + tot (fun (y : Box) => szBox y) x.boxes) := rfl
  have w0 := eq_toBoxS x.boxes (by omega)
  try simp at w0
  refine lim_run (E := E) rfl Tryz.func19 rfl (by kernel_rfl) (by kernel_rfl) ?_
  simp [Tryz.f19, tmpAt, w0]
theorem eq_eqStore (x y : Store) (h1 : szStore x ≤ 1048576) : lim E 30 [encStore false false x, encStore false false y] = some (.bool (decide (x = y)), []) := by
  have hz : szStore x = (x.boxes.length + tot (fun (y : Box) => szBox y) x.boxes) := rfl
  refine lim_run (E := E) rfl Tryz.func30 rfl (by kernel_rfl) (by kernel_rfl) ?_
  simp [Tryz.f30, tmpAt]
  have w0 := eq_eqBoxS x.boxes y.boxes (by omega)
  try simp at w0
  simp [w0]
  refine RB_ndec ?_ ?_ <;> intro h10
  · simp; intro hc; exact h10 (by rw [hc])
  simp
  refine RB_ndec ?_ ?_ <;> intro h11
  · simp; intro hc; exact h11 (by rw [hc])
  simp
  cases x; cases y; simp_all
theorem eq_toSeen (x : Seen) : lim E 74 [encSeen x] = some (encSeen x, []) := by
  refine lim_run (E := E) rfl Tryz.func74 rfl (by kernel_rfl) (by kernel_rfl) ?_
  simp [Tryz.f74, tmpAt]
theorem eq_eqSeen (x y : Seen) : lim E 88 [encSeen x, encSeen y] = some (.bool (decide (x = y)), []) := by
  refine lim_run (E := E) rfl Tryz.func88 rfl (by kernel_rfl) (by kernel_rfl) ?_
  simp [Tryz.f88, tmpAt]
  refine RB_ndec ?_ ?_ <;> intro h10
  · simp; intro hc; exact h10 (by rw [hc])
  simp
  refine RB_ndec ?_ ?_ <;> intro h11
  · simp; intro hc; exact h11 (by rw [hc])
  simp
  refine RB_ndec ?_ ?_ <;> intro h12
  · simp; intro hc; exact h12 (by rw [hc])
  simp
  cases x; cases y; simp_all
theorem eq_szView (x : View) (left : Int) (hw : wfView x) (h3 : 0 ≤ left) (h4 : left ≤ 1048576) : lim E 67 [encView false x, .int .i64 left] = some (.int .i64 (cut (left - (szView x : Nat))), []) := by
  have hz : szView x = x.box.length + x.uids.length := rfl
  obtain ⟨f0, f1⟩ := hw
  refine lim_run (E := E) rfl Tryz.func67 rfl (by kernel_rfl) (by kernel_rfl) ?_
  simp [Tryz.f67, tmpAt]
  have w0 : IntKind.i64.wrap (left - (x.box.length : Int)) = left - x.box.length := wrap_in (by omega) (by omega)
  simp [w0]
  refine RB_dec ?_ ?_ <;> intro h0
  · simp; unfold cut; split <;> omega
  have w1 := eq_szIntS x.uids (left - (x.box.length : Nat)) f1 (by omega) (by omega)
  try simp at w1
  simp [w1]
  refine RB_dec ?_ ?_ <;> intro h1
  · have := cut_neg h1; simp; unfold cut; split <;> omega
  obtain ⟨c1, d1⟩ := cut_pos h1
  simp [c1]
  unfold cut; split <;> omega
theorem eq_toView (x : View) (h1 : szView x ≤ 1048576) : lim E 73 [encView false x] = some (encView true x, []) := by
  have hz : szView x = x.box.length + x.uids.length := rfl
  have w2 := eq_toIntS x.uids (by omega)
  try simp at w2
  refine lim_run (E := E) rfl Tryz.func73 rfl (by kernel_rfl) (by kernel_rfl) ?_
  simp [Tryz.f73, tmpAt, w2]
theorem eq_eqView (x y : View) (h1 : szView x ≤ 1048576) : lim E 87 [encView false x, encView false y] = some (.bool (decide (x = y)), []) := by
  have hz : szView x = x.box.length + x.uids.length := rfl
  refine lim_run (E := E) rfl Tryz.func87 rfl (by kernel_rfl) (by kernel_rfl) ?_
  simp [Tryz.f87, tmpAt]
  refine RB_ndec ?_ ?_ <;> intro h10
  · simp; intro hc; exact h10 (by rw [hc])
  simp
  refine RB_ndec ?_ ?_ <;> intro h11
  · simp; intro hc; exact h11 (by rw [hc])
  have w2 := eq_eqIntS x.uids y.uids (by omega)
  try simp at w2
  simp [w2]
  refine RB_ndec ?_ ?_ <;> intro h12
  · simp; intro hc; exact h12 (by rw [hc])
  simp
  refine RB_ndec ?_ ?_ <;> intro h13
  · simp; intro hc; exact h13 (by rw [hc])
  simp
  cases x; cases y; simp_all
theorem eq_szSession (x : Session) (left : Int) (hw : wfSession x) (h3 : 0 ≤ left) (h4 : left ≤ 1048576) : lim E 38 [encSession false x, .int .i64 left] = some (.int .i64 (cut (left - (szSession x : Nat))), []) := by
  have hz : szSession x = szView x.view := rfl
  have f0 := hw
  simp only [wfSession] at f0
  refine lim_run (E := E) rfl Tryz.func38 rfl (by kernel_rfl) (by kernel_rfl) ?_
  simp [Tryz.f38, tmpAt]
  have w0 := eq_szView x.view (left) f0 (by omega) (by omega)
  try simp at w0
  simp [w0]
  refine RB_dec ?_ ?_ <;> intro h0
  · have := cut_neg h0; simp; unfold cut; split <;> omega
  obtain ⟨c0, d0⟩ := cut_pos h0
  simp [c0]
  unfold cut; split <;> omega
theorem eq_toSession (x : Session) (h1 : szSession x ≤ 1048576) : lim E 48 [encSession false x] = some (encSession true x, []) := by
  have hz : szSession x = szView x.view := rfl
  have w1 := eq_toView x.view (by omega)
  try simp at w1
  refine lim_run (E := E) rfl Tryz.func48 rfl (by kernel_rfl) (by kernel_rfl) ?_
  simp [Tryz.f48, tmpAt, w1]
theorem eq_eqSession (x y : Session) (h1 : szSession x ≤ 1048576) : lim E 63 [encSession false x, encSession false y] = some (.bool (decide (x = y)), []) := by
  have hz : szSession x = szView x.view := rfl
  refine lim_run (E := E) rfl Tryz.func63 rfl (by kernel_rfl) (by kernel_rfl) ?_
  simp [Tryz.f63, tmpAt]
  refine RB_ndec ?_ ?_ <;> intro h10
  · simp; intro hc; exact h10 (by rw [hc])
  have w1 := eq_eqView x.view y.view (by omega)
  try simp at w1
  simp [w1]
  refine RB_ndec ?_ ?_ <;> intro h11
  · simp; intro hc; exact h11 (by rw [hc])
  simp
  cases x; cases y; simp_all
theorem eq_szSeenS (xs : List Seen) (left : Int) (hw : xs.length ≤ 9223372036854775807) (h3 : 0 ≤ left) (h4 : left ≤ 1048576) : lim E 39 [.lst false (teSeen true) 3 (xs.map encSeen), .int .i64 left] = some (.int .i64 (cut (left - (xs.length : Nat))), []) := by
  refine lim_run (E := E) rfl Tryz.func39 rfl (by kernel_rfl) (by kernel_rfl) ?_
  simp [Tryz.f39, tmpAt]
  have hl : xs.length ≤ 9223372036854775807 := hw
  have w0 : IntKind.i64.wrap (left - (xs.length : Int)) = left - xs.length := wrap_in (by omega) (by omega)
  simp [w0]
  refine RB_dec ?_ ?_ <;> intro h0 <;> simp
  · unfold cut; split <;> omega
  · unfold cut; split <;> omega
theorem eq_toSeenS (xs : List Seen) (h1 : xs.length ≤ 1048576) : lim E 49 [.lst false (teSeen true) 3 (xs.map encSeen)] = some (.lst true (teSeen false) 3 (xs.map encSeen), []) := by
  refine lim_run (E := E) rfl Tryz.func49 rfl (by kernel_rfl) (by kernel_rfl) ?_
  simp [Tryz.f49, tmpAt]
  refine ⟨by omega, ?_⟩
  refine loop_ind (fun m st => ∃ (i : Nat) (ys : List Seen), i + m = xs.length ∧ ys.length = xs.length ∧ xs.take i = ys.take i ∧ st.env 0 = .lst false (teSeen true) 3 (xs.map encSeen) ∧ st.env 3 = .slc (7, 0) [] 0 xs.length ∧ st.env 4 = .int .i64 i ∧ st.rs (7, 0) = some ⟨false, .lst true (teSeen false) 3 (ys.map encSeen)⟩) xs.length _ ?_ ?_
  · exact ⟨0, List.replicate xs.length zeroSeen, by simp⟩
  rintro m ⟨env, rs⟩ ⟨i, ys, hi, hl, hs, e0, e3, e4, r⟩ ih
  simp at e0 e3 e4 r
  simp [e0, e3, e4, r]
  have hw := wrap_up (show i < 4611686018427387904 by omega)
  refine RB_dec ?_ ?_ <;> intro h
  · have h' : i < ys.length := by omega
    have w1 := eq_toSeen xs[i]
    try simp at w1
    simp [e0, e3, e4, r, h, h', hl, w1]
    refine ih (m - 1) _ (by omega) ⟨i + 1, ys.set i xs[i], ?_⟩
    simp [e0, e3, e4, hw, hl]
    exact ⟨by omega, take_next hs h h'⟩
  · have he := take_all hs h hl.symm
    subst he
    simp [e0, e3, e4, r, h, hl]
theorem eq_eqSeenS (xs ys : List Seen) (h1 : xs.length ≤ 1048576) : lim E 64 [.lst false (teSeen false) 3 (xs.map encSeen), .lst false (teSeen false) 3 (ys.map encSeen)] = some (.bool (decide (xs = ys)), []) := by
  refine lim_run (E := E) rfl Tryz.func64 rfl (by kernel_rfl) (by kernel_rfl) ?_
  simp [Tryz.f64, tmpAt]
  refine RB_ndec ?_ ?_ <;> intro hl
  · simp
    intro hc; subst hc; exact hl rfl
  · simp
    have hl : xs.length = ys.length := by omega
    refine loop_ind (fun m st => ∃ (i : Nat), i + m = xs.length ∧ xs.take i = ys.take i ∧ st.env 0 = .lst false (teSeen false) 3 (xs.map encSeen) ∧ st.env 1 = .lst false (teSeen false) 3 (ys.map encSeen) ∧ st.env 5 = .int .i64 i) xs.length _ ?_ ?_
    · exact ⟨0, by simp⟩
    rintro m ⟨env, rs⟩ ⟨i, hi, hs, e0, e1, e5⟩ ih
    simp at e0 e1 e5
    simp [e0, e1, e5]
    have hw := wrap_up (show i < 4611686018427387904 by omega)
    refine RB_dec ?_ ?_ <;> intro h
    · have h' : i < ys.length := by omega
      have w1 := eq_eqSeen xs[i] ys[i]
      try simp at w1
      simp [e0, e1, e5, h, h', w1]
      refine RB_ndec ?_ ?_ <;> intro h2 <;> simp [e0, e1, e5]
      · intro hc; subst hc; exact h2 rfl
      · refine ih (m - 1) _ (by omega) ⟨i + 1, ?_⟩
        simp [e0, e1, e5, hw]
        exact ⟨by omega, take_eq hs h h' h2⟩
    · simp [e0, e1, e5, h]
      exact take_all hs h hl
theorem eq_szCache (x : Cache) (left : Int) (hw : wfCache x) (h3 : 0 ≤ left) (h4 : left ≤ 1048576) : lim E 13 [encCache true false x, .int .i64 left] = some (.int .i64 (cut (left - (szCache x : Nat))), []) := by
  have hz : szCache x = x.box.length + x.seens.length := rfl
  obtain ⟨f0, f1⟩ := hw
  refine lim_run (E := E) rfl Tryz.func13 rfl (by kernel_rfl) (by kernel_rfl) ?_
  simp [Tryz.f13, tmpAt]
  have w0 : IntKind.i64.wrap (left - (x.box.length : Int)) = left - x.box.length := wrap_in (by omega) (by omega)
  simp [w0]
  refine RB_dec ?_ ?_ <;> intro h0
  · simp; unfold cut; split <;> omega
  have w1 := eq_szSeenS x.seens (left - (x.box.length : Nat)) f1 (by omega) (by omega)
  try simp at w1
  simp [w1]
  refine RB_dec ?_ ?_ <;> intro h1
  · have := cut_neg h1; simp; unfold cut; split <;> omega
  obtain ⟨c1, d1⟩ := cut_pos h1
  simp [c1]
  unfold cut; split <;> omega
theorem eq_toCache (x : Cache) (h1 : szCache x ≤ 1048576) : lim E 23 [encCache true false x] = some (encCache false true x, []) := by
  have hz : szCache x = x.box.length + x.seens.length := rfl
  have w3 := eq_toSeenS x.seens (by omega)
  try simp at w3
  refine lim_run (E := E) rfl Tryz.func23 rfl (by kernel_rfl) (by kernel_rfl) ?_
  simp [Tryz.f23, tmpAt, w3]
theorem eq_eqCache (x y : Cache) (h1 : szCache x ≤ 1048576) : lim E 34 [encCache false false x, encCache false false y] = some (.bool (decide (x = y)), []) := by
  have hz : szCache x = x.box.length + x.seens.length := rfl
  refine lim_run (E := E) rfl Tryz.func34 rfl (by kernel_rfl) (by kernel_rfl) ?_
  simp [Tryz.f34, tmpAt]
  refine RB_ndec ?_ ?_ <;> intro h10
  · simp; intro hc; exact h10 (by rw [hc])
  simp
  refine RB_ndec ?_ ?_ <;> intro h11
  · simp; intro hc; exact h11 (by rw [hc])
  simp
  refine RB_ndec ?_ ?_ <;> intro h12
  · simp; intro hc; exact h12 (by rw [hc])
  have w3 := eq_eqSeenS x.seens y.seens (by omega)
  try simp at w3
  simp [w3]
  refine RB_ndec ?_ ?_ <;> intro h13
  · simp; intro hc; exact h13 (by rw [hc])
  simp
  cases x; cases y; simp_all
theorem eq_szSessionS (xs : List Session) (left : Int) (hw : (xs.length ≤ 9223372036854775807 ∧ ∀ y ∈ xs, wfSession y)) (h3 : 0 ≤ left) (h4 : left ≤ 1048576) : lim E 11 [.lst false (teSession true) 5 (xs.map (encSession false)), .int .i64 left] = some (.int .i64 (cut (left - ((xs.length + tot (fun (y : Session) => szSession y) xs) : Nat))), []) := by
  refine lim_run (E := E) rfl Tryz.func11 rfl (by kernel_rfl) (by kernel_rfl) ?_
  simp [Tryz.f11, tmpAt]
  have hl : xs.length ≤ 9223372036854775807 := hw.1
  have w0 : IntKind.i64.wrap (left - (xs.length : Int)) = left - xs.length := wrap_in (by omega) (by omega)
  simp [w0]
  refine RB_dec ?_ ?_ <;> intro h0 <;> simp
  · unfold cut; split <;> omega
  refine loop_ind (fun m st => ∃ (i : Nat) (n : Int), i + m = xs.length ∧ 0 ≤ n ∧ n ≤ left ∧ n - (tot (fun (y : Session) => szSession y) (xs.drop i) : Nat) = left - ((xs.length + tot (fun (y : Session) => szSession y) xs : Nat) : Int) ∧ st.env 0 = .lst false (teSession true) 5 (xs.map (encSession false)) ∧ st.env 1 = .int .i64 n ∧ st.env 5 = .int .i64 i) xs.length _ ?_ ?_
  · exact ⟨0, left - xs.length, by simp; omega⟩
  rintro m ⟨env, rs⟩ ⟨i, n, hi, hn, hn2, hs, e0, e1, e5⟩ ih
  simp at e0 e1 e5
  simp [e0, e1, e5]
  have hu := wrap_up (show i < 4611686018427387904 by omega)
  refine RB_dec ?_ ?_ <;> intro h
  · have hx := hw.2 xs[i] (List.getElem_mem h)
    have hd := tot_drop (fun (y : Session) => szSession y) h
    have hsz : n - ((szSession xs[i] : Nat) : Int) = left - ((xs.length + tot (fun (y : Session) => szSession y) xs : Nat) : Int) + (tot (fun (y : Session) => szSession y) (xs.drop (i + 1)) : Nat) := by omega
    have w1 := eq_szSession xs[i] n hx hn (by omega)
    try simp at w1
    simp [e0, e1, e5, h, w1]
    refine RB_dec ?_ ?_ <;> intro h1
    · have := cut_neg h1; simp; unfold cut; split <;> omega
    · obtain ⟨c1, c2⟩ := cut_pos h1
      simp [e0, e1, e5, hu, c1]
      refine ih (m - 1) _ (by omega) ⟨i + 1, n - (szSession xs[i] : Nat), ?_⟩
      simp [e0, e1, e5]
      omega
  · have hd : xs.drop i = [] := List.drop_eq_nil_of_le (by omega)
    rw [hd] at hs
    simp only [tot] at hs
    simp [e1, h]
    unfold cut; split <;> omega
theorem eq_toSessionS (xs : List Session) (h1 : (xs.length + tot (fun (y : Session) => szSession y) xs) ≤ 1048576) : lim E 21 [.lst false (teSession true) 5 (xs.map (encSession false))] = some (.lst true (teSession false) 5 (xs.map (encSession true)), []) := by
  refine lim_run (E := E) rfl Tryz.func21 rfl (by kernel_rfl) (by kernel_rfl) ?_
  simp [Tryz.f21, tmpAt]
  refine ⟨by omega, ?_⟩
  refine loop_ind (fun m st => ∃ (i : Nat) (ys : List Session), i + m = xs.length ∧ ys.length = xs.length ∧ xs.take i = ys.take i ∧ st.env 0 = .lst false (teSession true) 5 (xs.map (encSession false)) ∧ st.env 3 = .slc (7, 0) [] 0 xs.length ∧ st.env 4 = .int .i64 i ∧ st.rs (7, 0) = some ⟨false, .lst true (teSession false) 5 (ys.map (encSession true))⟩) xs.length _ ?_ ?_
  · exact ⟨0, List.replicate xs.length zeroSession, by simp⟩
  rintro m ⟨env, rs⟩ ⟨i, ys, hi, hl, hs, e0, e3, e4, r⟩ ih
  simp at e0 e3 e4 r
  simp [e0, e3, e4, r]
  have hw := wrap_up (show i < 4611686018427387904 by omega)
  refine RB_dec ?_ ?_ <;> intro h
  · have h' : i < ys.length := by omega
    have hz := tot_mem (fun (y : Session) => szSession y) (List.getElem_mem h)
    have w1 := eq_toSession xs[i] (by omega)
    try simp at w1
    simp [e0, e3, e4, r, h, h', hl, w1]
    refine ih (m - 1) _ (by omega) ⟨i + 1, ys.set i xs[i], ?_⟩
    simp [e0, e3, e4, hw, hl]
    exact ⟨by omega, take_next hs h h'⟩
  · have he := take_all hs h hl.symm
    subst he
    simp [e0, e3, e4, r, h, hl]
theorem eq_eqSessionS (xs ys : List Session) (h1 : (xs.length + tot (fun (y : Session) => szSession y) xs) ≤ 1048576) : lim E 32 [.lst false (teSession false) 5 (xs.map (encSession false)), .lst false (teSession false) 5 (ys.map (encSession false))] = some (.bool (decide (xs = ys)), []) := by
  refine lim_run (E := E) rfl Tryz.func32 rfl (by kernel_rfl) (by kernel_rfl) ?_
  simp [Tryz.f32, tmpAt]
  refine RB_ndec ?_ ?_ <;> intro hl
  · simp
    intro hc; subst hc; exact hl rfl
  · simp
    have hl : xs.length = ys.length := by omega
    refine loop_ind (fun m st => ∃ (i : Nat), i + m = xs.length ∧ xs.take i = ys.take i ∧ st.env 0 = .lst false (teSession false) 5 (xs.map (encSession false)) ∧ st.env 1 = .lst false (teSession false) 5 (ys.map (encSession false)) ∧ st.env 5 = .int .i64 i) xs.length _ ?_ ?_
    · exact ⟨0, by simp⟩
    rintro m ⟨env, rs⟩ ⟨i, hi, hs, e0, e1, e5⟩ ih
    simp at e0 e1 e5
    simp [e0, e1, e5]
    have hw := wrap_up (show i < 4611686018427387904 by omega)
    refine RB_dec ?_ ?_ <;> intro h
    · have h' : i < ys.length := by omega
      have hz := tot_mem (fun (y : Session) => szSession y) (List.getElem_mem h)
      have w1 := eq_eqSession xs[i] ys[i] (by omega)
      try simp at w1
      simp [e0, e1, e5, h, h', w1]
      refine RB_ndec ?_ ?_ <;> intro h2 <;> simp [e0, e1, e5]
      · intro hc; subst hc; exact h2 rfl
      · refine ih (m - 1) _ (by omega) ⟨i + 1, ?_⟩
        simp [e0, e1, e5, hw]
        exact ⟨by omega, take_eq hs h h' h2⟩
    · simp [e0, e1, e5, h]
      exact take_all hs h hl
theorem eq_szSeenSS (xs : List (List Seen)) (left : Int) (hw : (xs.length ≤ 9223372036854775807 ∧ ∀ y ∈ xs, y.length ≤ 9223372036854775807)) (h3 : 0 ≤ left) (h4 : left ≤ 1048576) : lim E 12 [.lst false (teSeens true) 1 (xs.map (encSeens true false)), .int .i64 left] = some (.int .i64 (cut (left - ((xs.length + tot (fun (y : List Seen) => y.length) xs) : Nat))), []) := by
  refine lim_run (E := E) rfl Tryz.func12 rfl (by kernel_rfl) (by kernel_rfl) ?_
  simp [Tryz.f12, tmpAt]
  have hl : xs.length ≤ 9223372036854775807 := hw.1
  have w0 : IntKind.i64.wrap (left - (xs.length : Int)) = left - xs.length := wrap_in (by omega) (by omega)
  simp [w0]
  refine RB_dec ?_ ?_ <;> intro h0 <;> simp
  · unfold cut; split <;> omega
  refine loop_ind (fun m st => ∃ (i : Nat) (n : Int), i + m = xs.length ∧ 0 ≤ n ∧ n ≤ left ∧ n - (tot (fun (y : List Seen) => y.length) (xs.drop i) : Nat) = left - ((xs.length + tot (fun (y : List Seen) => y.length) xs : Nat) : Int) ∧ st.env 0 = .lst false (teSeens true) 1 (xs.map (encSeens true false)) ∧ st.env 1 = .int .i64 n ∧ st.env 5 = .int .i64 i) xs.length _ ?_ ?_
  · exact ⟨0, left - xs.length, by simp; omega⟩
  rintro m ⟨env, rs⟩ ⟨i, n, hi, hn, hn2, hs, e0, e1, e5⟩ ih
  simp at e0 e1 e5
  simp [e0, e1, e5]
  have hu := wrap_up (show i < 4611686018427387904 by omega)
  refine RB_dec ?_ ?_ <;> intro h
  · have hx := hw.2 xs[i] (List.getElem_mem h)
    have hd := tot_drop (fun (y : List Seen) => y.length) h
    have hsz : n - ((xs[i].length : Nat) : Int) = left - ((xs.length + tot (fun (y : List Seen) => y.length) xs : Nat) : Int) + (tot (fun (y : List Seen) => y.length) (xs.drop (i + 1)) : Nat) := by omega
    have w1 := eq_szSeenS xs[i] n hx hn (by omega)
    try simp at w1
    simp [e0, e1, e5, h, w1]
    refine RB_dec ?_ ?_ <;> intro h1
    · have := cut_neg h1; simp; unfold cut; split <;> omega
    · obtain ⟨c1, c2⟩ := cut_pos h1
      simp [e0, e1, e5, hu, c1]
      refine ih (m - 1) _ (by omega) ⟨i + 1, n - (xs[i].length : Nat), ?_⟩
      simp [e0, e1, e5]
      omega
  · have hd : xs.drop i = [] := List.drop_eq_nil_of_le (by omega)
    rw [hd] at hs
    simp only [tot] at hs
    simp [e1, h]
    unfold cut; split <;> omega
theorem eq_toSeenSS (xs : List (List Seen)) (h1 : (xs.length + tot (fun (y : List Seen) => y.length) xs) ≤ 1048576) : lim E 22 [.lst false (teSeens true) 1 (xs.map (encSeens true false))] = some (.lst true (teSeens false) 1 (xs.map (encSeens false true)), []) := by
  refine lim_run (E := E) rfl Tryz.func22 rfl (by kernel_rfl) (by kernel_rfl) ?_
  simp [Tryz.f22, tmpAt]
  refine ⟨by omega, ?_⟩
  refine loop_ind (fun m st => ∃ (i : Nat) (ys : List (List Seen)), i + m = xs.length ∧ ys.length = xs.length ∧ xs.take i = ys.take i ∧ st.env 0 = .lst false (teSeens true) 1 (xs.map (encSeens true false)) ∧ st.env 3 = .slc (7, 0) [] 0 xs.length ∧ st.env 4 = .int .i64 i ∧ st.rs (7, 0) = some ⟨false, .lst true (teSeens false) 1 (ys.map (encSeens false true))⟩) xs.length _ ?_ ?_
  · exact ⟨0, List.replicate xs.length [], by simp⟩
  rintro m ⟨env, rs⟩ ⟨i, ys, hi, hl, hs, e0, e3, e4, r⟩ ih
  simp at e0 e3 e4 r
  simp [e0, e3, e4, r]
  have hw := wrap_up (show i < 4611686018427387904 by omega)
  refine RB_dec ?_ ?_ <;> intro h
  · have h' : i < ys.length := by omega
    have hz := tot_mem (fun (y : List Seen) => y.length) (List.getElem_mem h)
    have w1 := eq_toSeenS xs[i] (by omega)
    try simp at w1
    simp [e0, e3, e4, r, h, h', hl, w1]
    refine ih (m - 1) _ (by omega) ⟨i + 1, ys.set i xs[i], ?_⟩
    simp [e0, e3, e4, hw, hl]
    exact ⟨by omega, take_next hs h h'⟩
  · have he := take_all hs h hl.symm
    subst he
    simp [e0, e3, e4, r, h, hl]
theorem eq_eqSeenSS (xs ys : List (List Seen)) (h1 : (xs.length + tot (fun (y : List Seen) => y.length) xs) ≤ 1048576) : lim E 33 [.lst false (teSeens false) 1 (xs.map (encSeens false false)), .lst false (teSeens false) 1 (ys.map (encSeens false false))] = some (.bool (decide (xs = ys)), []) := by
  refine lim_run (E := E) rfl Tryz.func33 rfl (by kernel_rfl) (by kernel_rfl) ?_
  simp [Tryz.f33, tmpAt]
  refine RB_ndec ?_ ?_ <;> intro hl
  · simp
    intro hc; subst hc; exact hl rfl
  · simp
    have hl : xs.length = ys.length := by omega
    refine loop_ind (fun m st => ∃ (i : Nat), i + m = xs.length ∧ xs.take i = ys.take i ∧ st.env 0 = .lst false (teSeens false) 1 (xs.map (encSeens false false)) ∧ st.env 1 = .lst false (teSeens false) 1 (ys.map (encSeens false false)) ∧ st.env 5 = .int .i64 i) xs.length _ ?_ ?_
    · exact ⟨0, by simp⟩
    rintro m ⟨env, rs⟩ ⟨i, hi, hs, e0, e1, e5⟩ ih
    simp at e0 e1 e5
    simp [e0, e1, e5]
    have hw := wrap_up (show i < 4611686018427387904 by omega)
    refine RB_dec ?_ ?_ <;> intro h
    · have h' : i < ys.length := by omega
      have hz := tot_mem (fun (y : List Seen) => y.length) (List.getElem_mem h)
      have w1 := eq_eqSeenS xs[i] ys[i] (by omega)
      try simp at w1
      simp [e0, e1, e5, h, h', w1]
      refine RB_ndec ?_ ?_ <;> intro h2 <;> simp [e0, e1, e5]
      · intro hc; subst hc; exact h2 rfl
      · refine ih (m - 1) _ (by omega) ⟨i + 1, ?_⟩
        simp [e0, e1, e5, hw]
        exact ⟨by omega, take_eq hs h h' h2⟩
    · simp [e0, e1, e5, h]
      exact take_all hs h hl
theorem eq_szWorld (x : World) (left : Int) (hw : wfWorld x) (h3 : 0 ≤ left) (h4 : left ≤ 1048576) : lim E 4 [encWorld true false x, .int .i64 left] = some (.int .i64 (cut (left - (szWorld x : Nat))), []) := by
  have hz : szWorld x = szStore x.store + szDisk x.disk + (x.sessions.length + tot (fun (y : Session) => szSession y) x.sessions) + (x.mirrors.length + tot (fun (y : List Seen) => y.length) x.mirrors) + szCache x.cache + x.codes.length := rfl
  obtain ⟨f0, f1, f2, f3, f4, f5⟩ := hw
  refine lim_run (E := E) rfl Tryz.func4 rfl (by kernel_rfl) (by kernel_rfl) ?_
  simp [Tryz.f4, tmpAt]
  have w0 := eq_szStore x.store (left) f0 (by omega) (by omega)
  try simp at w0
  simp [w0]
  refine RB_dec ?_ ?_ <;> intro h0
  · have := cut_neg h0; simp; unfold cut; split <;> omega
  obtain ⟨c0, d0⟩ := cut_pos h0
  have w1 := eq_szDisk x.disk (left - (szStore x.store : Nat)) f1 (by omega) (by omega)
  try simp at w1
  simp [w1, c0]
  refine RB_dec ?_ ?_ <;> intro h1
  · have := cut_neg h1; simp; unfold cut; split <;> omega
  obtain ⟨c1, d1⟩ := cut_pos h1
  have w2 := eq_szSessionS x.sessions (left - (szStore x.store : Nat) - (szDisk x.disk : Nat)) f2 (by omega) (by omega)
  try simp at w2
  simp [w2, c0, c1]
  refine RB_dec ?_ ?_ <;> intro h2
  · have := cut_neg h2; simp; unfold cut; split <;> omega
  obtain ⟨c2, d2⟩ := cut_pos h2
  have w3 := eq_szSeenSS x.mirrors (left - (szStore x.store : Nat) - (szDisk x.disk : Nat) - ((x.sessions.length + tot (fun (y : Session) => szSession y) x.sessions) : Nat)) f3 (by omega) (by omega)
  try simp at w3
  simp [w3, c0, c1, c2]
  refine RB_dec ?_ ?_ <;> intro h3
  · have := cut_neg h3; simp; unfold cut; split <;> omega
  obtain ⟨c3, d3⟩ := cut_pos h3
  have w4 := eq_szCache x.cache (left - (szStore x.store : Nat) - (szDisk x.disk : Nat) - ((x.sessions.length + tot (fun (y : Session) => szSession y) x.sessions) : Nat) - ((x.mirrors.length + tot (fun (y : List Seen) => y.length) x.mirrors) : Nat)) f4 (by omega) (by omega)
  try simp at w4
  simp [w4, c0, c1, c2, c3]
  refine RB_dec ?_ ?_ <;> intro h4
  · have := cut_neg h4; simp; unfold cut; split <;> omega
  obtain ⟨c4, d4⟩ := cut_pos h4
  have w5 := eq_szIntS x.codes (left - (szStore x.store : Nat) - (szDisk x.disk : Nat) - ((x.sessions.length + tot (fun (y : Session) => szSession y) x.sessions) : Nat) - ((x.mirrors.length + tot (fun (y : List Seen) => y.length) x.mirrors) : Nat) - (szCache x.cache : Nat)) f5 (by omega) (by omega)
  try simp at w5
  simp [w5, c0, c1, c2, c3, c4]
  refine RB_dec ?_ ?_ <;> intro h5
  · have := cut_neg h5; simp; unfold cut; split <;> omega
  obtain ⟨c5, d5⟩ := cut_pos h5
  simp [c0, c1, c2, c3, c4, c5]
  unfold cut; split <;> omega
theorem eq_toWorld (x : World) (h1 : szWorld x ≤ 1048576) : lim E 6 [encWorld true false x] = some (encWorld false true x, []) := by
  have hz : szWorld x = szStore x.store + szDisk x.disk + (x.sessions.length + tot (fun (y : Session) => szSession y) x.sessions) + (x.mirrors.length + tot (fun (y : List Seen) => y.length) x.mirrors) + szCache x.cache + x.codes.length := rfl
  have w0 := eq_toStore x.store (by omega)
  try simp at w0
  have w1 := eq_toDisk x.disk (by omega)
  try simp at w1
  have w2 := eq_toSessionS x.sessions (by omega)
  try simp at w2
  have w3 := eq_toSeenSS x.mirrors (by omega)
  try simp at w3
  have w4 := eq_toCache x.cache (by omega)
  try simp at w4
  have w5 := eq_toIntS x.codes (by omega)
  try simp at w5
  refine lim_run (E := E) rfl Tryz.func6 rfl (by kernel_rfl) (by kernel_rfl) ?_
  simp [Tryz.f6, tmpAt, w0, w1, w2, w3, w4, w5]
theorem eq_eqWorld (x y : World) (h1 : szWorld x ≤ 1048576) : lim E 8 [encWorld false false x, encWorld false false y] = some (.bool (decide (x = y)), []) := by
  have hz : szWorld x = szStore x.store + szDisk x.disk + (x.sessions.length + tot (fun (y : Session) => szSession y) x.sessions) + (x.mirrors.length + tot (fun (y : List Seen) => y.length) x.mirrors) + szCache x.cache + x.codes.length := rfl
  refine lim_run (E := E) rfl Tryz.func8 rfl (by kernel_rfl) (by kernel_rfl) ?_
  simp [Tryz.f8, tmpAt]
  have w0 := eq_eqStore x.store y.store (by omega)
  try simp at w0
  simp [w0]
  refine RB_ndec ?_ ?_ <;> intro h10
  · simp; intro hc; exact h10 (by rw [hc])
  have w1 := eq_eqDisk x.disk y.disk (by omega)
  try simp at w1
  simp [w1]
  refine RB_ndec ?_ ?_ <;> intro h11
  · simp; intro hc; exact h11 (by rw [hc])
  have w2 := eq_eqSessionS x.sessions y.sessions (by omega)
  try simp at w2
  simp [w2]
  refine RB_ndec ?_ ?_ <;> intro h12
  · simp; intro hc; exact h12 (by rw [hc])
  have w3 := eq_eqSeenSS x.mirrors y.mirrors (by omega)
  try simp at w3
  simp [w3]
  refine RB_ndec ?_ ?_ <;> intro h13
  · simp; intro hc; exact h13 (by rw [hc])
  have w4 := eq_eqCache x.cache y.cache (by omega)
  try simp at w4
  simp [w4]
  refine RB_ndec ?_ ?_ <;> intro h14
  · simp; intro hc; exact h14 (by rw [hc])
  have w5 := eq_eqIntS x.codes y.codes (by omega)
  try simp at w5
  simp [w5]
  refine RB_ndec ?_ ?_ <;> intro h15
  · simp; intro hc; exact h15 (by rw [hc])
  simp
  cases x; cases y; simp_all
end Go.Proofs.YtongomiihjlbcaaGreat
