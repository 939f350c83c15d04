/- Commands: the reference's words. -/
import Derived.Test.YtbcgldeleankcaaDoorcB5
set_option linter.unusedSectionVars false
set_option linter.all false
set_option linter.unusedVariables false
set_option linter.unusedSimpArgs false
set_option maxRecDepth 100000
namespace Go.Proofs.YtbcgldeleankcaaDoor
open Go.Lft

theorem endCode_ne (t : S) (a : Nat) : ¬ endCode t a = 0 := by unfold endCode; split <;> simp
theorem wantM_ok (t : S) : ∀ (w : S) (a : Nat), (wantM t w a 0).2 = 0 → (wantM t w a 0).1 = a + w.length := by
  intro w
  induction w with
  | nil => intro a h; simp [wantM]
  | cons b w ih =>
    intro a h
    simp only [wantM, if_true] at h ⊢
    split at h
    · rename_i hb
      rw [if_pos hb, ih _ h]
      simp; omega
    · exact absurd h (endCode_ne t a)
/-- So many bytes stand as they are. -/
def tw : S → Nat
  | [] => 0
  | b :: l => if plainByte b = true then tw l + 1 else 0
theorem tw_le : ∀ l : S, tw l ≤ l.length := by
  intro l
  induction l with
  | nil => simp [tw]
  | cons b l ih => simp only [tw]; split <;> simp <;> omega
def snextLit (t : S) (r : Int × Int) : S × Int :=
  if r.2 ≤ 0 then ([], r.2) else if 300 < r.2 + r.1 + 2 then ([], -1) else if (t.length : Int) - r.2 < r.1 then ([], 0) else ((t.drop r.2.toNat).take r.1.toNat, r.2 + r.1)
def snextList (t : S) (a : Nat) (n : Int) : S × Int := if n ≤ 0 then ([], n) else ((t.drop a).take (n.toNat - a), n)
def snextPlain (t : S) (a : Nat) : S × Int := if tw (t.drop a) = 0 ∨ 60 < tw (t.drop a) then ([], -1) else ((t.drop a).take (tw (t.drop a)), ((a + tw (t.drop a) : Nat) : Int))
def snextM (t : S) (a : Nat) : S × Int :=
  if t.length ≤ a then ([], 0) else
  if isB t a 123 = true then snextLit t (slit t a) else
  if isB t a 34 = true then st t t.length (a + 1) [] else
  if isB t a 40 = true then snextList t a (sl (t.drop (a + 1)) (a + 1) 0 true) else snextPlain t a
theorem slit_le (t : S) (a : Nat) (ha : a < t.length) : 0 ≤ (slit t a).1 ∧ (slit t a).1 ≤ 999 ∧ -1 ≤ (slit t a).2 ∧ (slit t a).2 ≤ t.length := by
  unfold slit slitEnd
  have h1 := litL_num t 3 (a + 1) 0 (by simp) (by omega)
  have h2 := litL_le t 3 (a + 1) 0 (by omega)
  split
  · simp
  · split
    · rename_i h
      have h3 := wantM_ok t _ _ h
      have h4 := wantM_le t [125, 13, 10] (litL t 3 (a + 1) 0).1 0 h2.2
      simp at h3
      simp
      omega
    · split <;> simp
theorem sl_le : ∀ (l : S) (i n : Nat) (f : Bool), -1 ≤ sl l i n f ∧ sl l i n f ≤ i + l.length ∧ (0 < sl l i n f → (i : Int) < sl l i n f) := by
  intro l
  induction l with
  | nil => intro i n f; simp [sl]
  | cons b l ih =>
    intro i n f
    simp only [sl]
    split
    · split <;> simp <;> omega
    split
    · split
      · simp; omega
      · have := ih (i + 1) 0 false
        simp at this ⊢
        omega
    split
    · simp; omega
    · have := ih (i + 1) (n + 1) false
      simp at this ⊢
      omega
set_option maxHeartbeats 2000000 in
theorem eq_l15Next1 (t : S) (a : Nat) (h : a < t.length) (ht : t.length ≤ 1048576) : lim E 57 [.str t, .int .i64 a] = some (.tup [.str (snextM t a).1, .int .i64 (snextM t a).2], []) := by
  have hd : snextM t a = if t.length ≤ a then ([], 0) else
    if isB t a 123 = true then snextLit t (slit t a) else
    if isB t a 34 = true then st t t.length (a + 1) [] else
    if isB t a 40 = true then snextList t a (sl (t.drop (a + 1)) (a + 1) 0 true) else snextPlain t a := rfl
  rw [if_neg (by omega)] at hd
  have b123 := byteEq t[a] 123 (by omega)
  have b34 := byteEq t[a] 34 (by omega)
  have b40 := byteEq t[a] 40 (by omega)
  simp at b123 b34 b40
  have i1 : ∀ c, isB t a c = decide (t[a] = c) := by intro c; rw [Bool.eq_iff_iff]; simp [isB, List.getElem?_eq_getElem h]
  simp only [i1] at hd
  have hna : ¬ t.length ≤ a := by omega
  refine lim_run (E := E) rfl Tryd.func57 rfl (by kernel_rfl) (by kernel_rfl) ?_
  simp [Tryd.f57, tmpAt, h, hna]
  by_cases h1 : t[a] = 123
  · have h1' := b123.1 h1
    simp [h1] at hd
    have w := eq_l15Literal t a h ht
    have l1 := slit_le t a h
    generalize slit t a = r at *
    obtain ⟨n, x⟩ := r
    try simp at w
    try simp at l1
    simp [h1', w, tmpAt]
    simp only [snextLit] at hd
    by_cases h2 : x ≤ 0
    · rw [if_pos h2] at hd
      simp [h2, hd, tmpAt]
    rw [if_neg h2] at hd
    have wa : IntKind.i64.wrap (x + n) = x + n := wrap_in (by omega) (by omega)
    have wb : IntKind.i64.wrap (x + n + 2) = x + n + 2 := wrap_in (by omega) (by omega)
    have wc : IntKind.i64.wrap ((t.length : Int) - x) = t.length - x := wrap_in (by omega) (by omega)
    by_cases h3 : 300 < x + n + 2
    · rw [if_pos h3] at hd
      simp [h2, h3, hd, tmpAt, wa, wb]
    rw [if_neg h3] at hd
    by_cases h4 : (t.length : Int) - x < n
    · rw [if_pos h4] at hd
      simp [h2, h3, h4, hd, tmpAt, wa, wb, wc]
    rw [if_neg h4] at hd
    have p1 : 0 ≤ x := by omega
    have p2 : 0 ≤ x + n := by omega
    have p3 : (x + n).toNat - x.toNat = n.toNat := by omega
    simp [h2, h3, h4, hd, tmpAt, wa, wb, wc, p1, p2, p3]
    omega
  have h1' : ¬ (t[a].toNat : Int) = 123 := fun h => h1 (b123.2 h)
  by_cases h2 : t[a] = 34
  · have h2' := b34.1 h2
    simp [h2] at hd
    have w := eq_l15Text t a h ht
    try simp at w
    simp [h1', h2', w, hd, tmpAt]
  have h2' : ¬ (t[a].toNat : Int) = 34 := fun h => h2 (b34.2 h)
  by_cases h3 : t[a] = 40
  · have h3' := b40.1 h3
    simp [h3] at hd
    have w := eq_l15List t a h ht
    have l1 := sl_le (t.drop (a + 1)) (a + 1) 0 true
    generalize sl (t.drop (a + 1)) (a + 1) 0 true = x at *
    try simp at l1
    simp only [snextList] at hd
    simp [h1', h2', h3', w, tmpAt]
    by_cases h4 : x ≤ 0
    · rw [if_pos h4] at hd
      simp [h4, hd, tmpAt]
    · rw [if_neg h4] at hd
      have p1 : 0 ≤ x := by omega
      simp [h4, hd, tmpAt, p1]
      omega
  have h3' : ¬ (t[a].toNat : Int) = 40 := fun h => h3 (b40.2 h)
  simp [h1, h2, h3] at hd
  simp [h1', h2', h3', tmpAt]
  refine loop_ind (fun m st => ∃ (p : Nat), a ≤ p ∧ p + m = t.length ∧ (p - a) + tw (t.drop p) = tw (t.drop a) ∧ st.env 0 = .str t ∧ st.env 1 = .int .i64 a ∧ st.env 9 = .int .i64 p) (t.length - a) _ ?_ ?_
  · exact ⟨a, by simp; omega⟩
  rintro m ⟨env, rs⟩ ⟨p, hap, hpm, hm, e0, e1, e9⟩ ih
  simp at e0 e1 e9
  have hw := wrap_up (show p < 4611686018427387904 by omega)
  have wa : IntKind.i64.wrap ((p : Int) - a) = p - a := wrap_in (by omega) (by omega)
  have hexit : ∀ q : Nat, q = tw (t.drop a) → snextM t a = if q = 0 ∨ 60 < q then ([], -1) else ((t.drop a).take q, ((a + q : Nat) : Int)) := by
    intro q hq; rw [hd, hq]; rfl
  by_cases hg : ∃ hp : p < t.length, plainByte t[p] = true
  · obtain ⟨hp, hb⟩ := hg
    have w := eq_l15Byte t[p]
    rw [drop_cons hp] at hm
    simp [tw, hb] at hm
    simp [e0, e1, e9, hp, w, hb, tmpAt, hw]
    refine ih (m - 1) _ (by omega) ⟨p + 1, by omega, by omega, by omega, ?_⟩
    simp [e0, e1, e9]
  · have hq : p - a = tw (t.drop a) := by
      by_cases hp : p < t.length
      · rw [drop_cons hp] at hm
        have hb : ¬ plainByte t[p] = true := fun hb => hg ⟨hp, hb⟩
        simp [tw, hb] at hm
        exact hm
      · rw [List.drop_eq_nil_of_le (by omega)] at hm
        simpa [tw] using hm
    have hx := hexit _ hq
    clear ih hexit hd hm
    by_cases hp : p < t.length
    · have w := eq_l15Byte t[p]
      have hb : plainByte t[p] = false := by cases hb : plainByte t[p]; rfl; exact absurd ⟨hp, hb⟩ hg
      by_cases h5 : p = a
      · rw [if_pos (by omega)] at hx
        subst h5
        simp [e0, e1, e9, hp, w, hb, tmpAt, hx]
      · have h5' : ¬ (p : Int) = a := by omega
        by_cases h6 : 60 < p - a
        · have h6' : (60 : Int) < p - a := by omega
          rw [if_pos (by omega)] at hx
          simp [e0, e1, e9, hp, w, hb, tmpAt, h5', h6', hx, wa]
        · have h6' : ¬ (60 : Int) < p - a := by omega
          rw [if_neg (by omega)] at hx
          simp [e0, e1, e9, hp, w, hb, tmpAt, h5', h6', hx, wa]
          omega
    · by_cases h5 : p = a
      · omega
      · have h5' : ¬ (p : Int) = a := by omega
        by_cases h6 : 60 < p - a
        · have h6' : (60 : Int) < p - a := by omega
          rw [if_pos (by omega)] at hx
          simp [e0, e1, e9, hp, tmpAt, h5', h6', hx, wa]
        · have h6' : ¬ (60 : Int) < p - a := by omega
          rw [if_neg (by omega)] at hx
          simp [e0, e1, e9, hp, tmpAt, h5', h6', hx, wa]
          omega
theorem eq_l15Next (t : S) (a : Nat) (ha : a ≤ t.length) (ht : t.length ≤ 1048576) : lim E 57 [.str t, .int .i64 a] = some (.tup [.str (snextM t a).1, .int .i64 (snextM t a).2], []) := by
  rcases Nat.lt_or_ge a t.length with h | h
  · exact eq_l15Next1 t a h ht
  have hd : snextM t a = ([], 0) := by unfold snextM; rw [if_pos h]
  refine lim_run (E := E) rfl Tryd.func57 rfl (by kernel_rfl) (by kernel_rfl) ?_
  simp [Tryd.f57, tmpAt, h, hd]
end Go.Proofs.YtbcgldeleankcaaDoor
