/- Commands: literals, words. -/
import Derived.Test.YtbcgldeleankcaaDoorcB2
set_option linter.unusedSectionVars false
set_option linter.all false
set_option linter.unusedVariables false
set_option linter.unusedSimpArgs false
set_option maxRecDepth 100000
namespace Go.Proofs.YtbcgldeleankcaaDoor
open Go.Lft

/-- Figures of a literal: the place behind, and the number. -/
def litL (t : S) : Nat → Nat → Nat → Nat × Nat
  | 0, a, n => (a, n)
  | f + 1, a, n => match t[a]? with
    | some b => if 48 ≤ b.toNat ∧ b.toNat ≤ 57 then litL t f (a + 1) (10 * n + (b.toNat - 48)) else (a, n)
    | none => (a, n)
theorem litL_le (t : S) : ∀ (f a n : Nat), a ≤ t.length → a ≤ (litL t f a n).1 ∧ (litL t f a n).1 ≤ t.length := by
  intro f
  induction f with
  | zero => intro a n h; simp [litL, h]
  | succ f ih =>
    intro a n h
    simp only [litL]
    split
    · rename_i b hb
      have h1 := (List.getElem?_eq_some_iff.1 hb).1
      split
      · have := ih (a + 1) (10 * n + (b.toNat - 48)) (by omega)
        omega
      · simp [h]
    · simp [h]
theorem litL_num (t : S) : ∀ (f a n : Nat), n + 1 ≤ 10 ^ (3 - f) → f ≤ 3 → (litL t f a n).2 ≤ 999 := by
  intro f
  induction f with
  | zero => intro a n h hf; simp [litL]; simp at h; omega
  | succ f ih =>
    intro a n h hf
    have hn : n ≤ 999 := by
      have : 10 ^ (3 - (f + 1)) ≤ 10 ^ 3 := Nat.pow_le_pow_right (by omega) (by omega)
      omega
    simp only [litL]
    split
    · split
      · refine ih _ _ ?_ (by omega)
        rename_i b _ hb
        have : 3 - f = (3 - (f + 1)) + 1 := by omega
        rw [this, Nat.pow_succ]
        omega
      · exact hn
    · exact hn
def litTail (t : S) (a0 a n : Nat) (k : Int) : S × Nat × Int :=
  if a = a0 then ([], a, endCode t a) else
  if (wantM t [125, 13, 10] a k).2 = 0 then
    (if 300 < (wantM t [125, 13, 10] a k).1 + n + 2 then ([], (wantM t [125, 13, 10] a k).1, 2) else
    if t.length < (wantM t [125, 13, 10] a k).1 + n then ([], (wantM t [125, 13, 10] a k).1, 1) else
    ((t.drop (wantM t [125, 13, 10] a k).1).take n, (wantM t [125, 13, 10] a k).1 + n, 0))
  else ([], wantM t [125, 13, 10] a k)
def litM (t : S) (a : Nat) (k : Int) : S × Nat × Int :=
  litTail t (wantM t [123] a k).1 (litL t 3 (wantM t [123] a k).1 0).1 (litL t 3 (wantM t [123] a k).1 0).2 (wantM t [123] a k).2
theorem within_fig (b : UInt8) : within (b.toNat : Int) 48 57 = decide (48 ≤ b.toNat ∧ b.toNat ≤ 57) := by
  rw [Bool.eq_iff_iff]; simp [within]; omega
set_option maxHeartbeats 4000000 in
theorem eq_literal (t : S) (a : Nat) (k : Int) (ha : a ≤ t.length) (ht : t.length ≤ 1048576) : lim E 54 [cmd t a k] = some (.str (litM t a k).1, [cmd t (litM t a k).2.1 (litM t a k).2.2]) := by
  have w1 := eq_want t [123] a k (by omega) ht (by simp)
  have l1 := wantM_le t [123] a k ha
  simp [cmd] at w1
  unfold cmd
  refine lim_run (E := E) rfl Tryd.func54 rfl (by kernel_rfl) (by kernel_rfl) ?_
  simp [Tryd.f54, tmpAt, w1]
  have hd : litM t a k = litTail t (wantM t [123] a k).1 (litL t 3 (wantM t [123] a k).1 0).1 (litL t 3 (wantM t [123] a k).1 0).2 (wantM t [123] a k).2 := rfl
  generalize (wantM t [123] a k).1 = a0 at *
  generalize (wantM t [123] a k).2 = k0 at *
  refine loop_ind (fun m st => ∃ (p n : Nat), a0 ≤ p ∧ p ≤ t.length ∧ p - a0 + m = 3 ∧ n + 1 ≤ 10 ^ (3 - m) ∧ litL t m p n = litL t 3 a0 0 ∧ st.env 0 = .ptr (0, 99) [] ∧ st.env 3 = .int .i64 n ∧ st.env 4 = .int .i64 (p - a0 : Nat) ∧ st.rs (0, 99) = some ⟨true, .agg [.str t, .int .i64 p, .int .i64 k0]⟩) 3 _ ?_ ?_
  · exact ⟨a0, 0, by simp [l1]⟩
  rintro m ⟨env, rs⟩ ⟨p, n, h0p, hpt, hpm, hn, hm, e0, e3, e4, r0⟩ ih
  simp at e0 e3 e4 r0
  have hn3 : n ≤ 999 := by
    have : 10 ^ (3 - m) ≤ 10 ^ 3 := Nat.pow_le_pow_right (by omega) (by omega)
    omega
  have hv := wrap_up (show p < 4611686018427387904 by omega)
  have hend : litL t m p n = (p, n) → True := by intros; trivial
  by_cases hgo : m ≠ 0 ∧ ∃ h : p < t.length, 48 ≤ t[p].toNat ∧ t[p].toNat ≤ 57
  · obtain ⟨hm0, hpl, hb⟩ := hgo
    obtain ⟨m, rfl⟩ : ∃ m', m = m' + 1 := ⟨m - 1, by omega⟩
    simp only [litL, List.getElem?_eq_getElem hpl, if_pos hb] at hm
    have h3 : ((p - a0 : Nat) : Int) < 3 := by omega
    have w10 : IntKind.i64.wrap (10 * (n : Int)) = 10 * n := wrap_in (by omega) (by omega)
    have wd : IntKind.u8.wrap ((t[p].toNat : Int) - 48) = (t[p].toNat : Int) - 48 := by
      show ((t[p].toNat : Int) - 48) % 256 = _
      omega
    have we : IntKind.i64.wrap ((t[p].toNat : Int) - 48) = (t[p].toNat : Int) - 48 := wrap_in (by omega) (by omega)
    have wf : IntKind.i64.wrap (10 * (n : Int) + ((t[p].toNat : Int) - 48)) = 10 * n + (t[p].toNat - 48) := wrap_in (by omega) (by omega)
    have wg : IntKind.i64.wrap ((↑(p - a0) : Int) + 1) = ↑(p - a0) + 1 := wrap_in (by omega) (by omega)
    simp [e0, e3, e4, r0, tmpAt, hpl, h3, wrap_byte, within_fig, hb, w10, wd, we, wf, wg, hv]
    refine ih m _ (by omega) ⟨p + 1, 10 * n + (t[p].toNat - 48), by omega, by omega, by omega, ?_, hm, ?_⟩
    · have : 3 - m = (3 - (m + 1)) + 1 := by omega
      rw [this, Nat.pow_succ]
      omega
    · simp [e0, e3, e4, r0]
      omega
  · have hm : (p, n) = litL t 3 a0 0 := by
      rw [← hm]
      cases m with
      | zero => rfl
      | succ m =>
        simp only [litL]
        by_cases hpl : p < t.length
        · rw [List.getElem?_eq_getElem hpl]
          have hb : ¬ (48 ≤ t[p].toNat ∧ t[p].toNat ≤ 57) := fun hb => hgo ⟨by omega, hpl, hb⟩
          simp only [if_neg hb]
        · rw [List.getElem?_eq_none (by omega)]
    rw [← hm] at hd
    simp only [litTail] at hd
    have wf := eq_fail t p k0 (by omega) ht
    have ww := eq_want t [125, 13, 10] p k0 (by omega) ht (by simp)
    have lw := wantM_le t [125, 13, 10] p k0 hpt
    simp [cmd] at wf ww
    have hcond : ∀ b : Bool, True := by intros; trivial
    by_cases h1 : p - a0 < 3
    · have h3 : ((p - a0 : Nat) : Int) < 3 := by omega
      by_cases hpl : p < t.length
      · have hb : ¬ (48 ≤ t[p].toNat ∧ t[p].toNat ≤ 57) := fun hb => hgo ⟨by omega, hpl, hb⟩
        have hb' : within (t[p].toNat : Int) 48 57 = false := by rw [within_fig]; simpa using hb
        simp [e0, e3, e4, r0, tmpAt, hpl, h3, wrap_byte, hb', hv]
        by_cases h4 : p = a0
        · rw [if_pos h4] at hd
          have h5 : p - a0 = 0 := by omega
          simp [e0, e3, e4, r0, tmpAt, h5, hv, hd, wf]
        rw [if_neg h4] at hd
        have h5 : ¬ p - a0 = 0 := by omega
        simp [e0, e3, e4, r0, tmpAt, h5, ww]
        generalize wantM t [125, 13, 10] p k0 = q at *
        obtain ⟨q, j⟩ := q
        simp only at lw hd
        simp
        by_cases h6 : j = 0
        · subst h6
          simp only [if_true] at hd
          have wa : IntKind.i64.wrap ((q : Int) + n) = q + n := wrap_in (by omega) (by omega)
          have wb : IntKind.i64.wrap ((q : Int) + n + 2) = q + n + 2 := wrap_in (by omega) (by omega)
          have wc : IntKind.i64.wrap ((t.length : Int) - q) = t.length - q := wrap_in (by omega) (by omega)
          have we : IntKind.i64.wrap (q : Int) = q := wrap_in (by omega) (by omega)
          simp [e0, e3, e4, r0, tmpAt, wa, wb, wc]
          by_cases h7 : 300 < q + n + 2
          · rw [if_pos h7] at hd
            have h8 : (300 : Int) < (q : Int) + n + 2 := by omega
            simp [e0, e3, e4, r0, tmpAt, h8, hd]
          · rw [if_neg h7] at hd
            have h8 : ¬ (300 : Int) < (q : Int) + n + 2 := by omega
            simp [e0, e3, e4, r0, tmpAt, h8, wc]
            by_cases h9 : t.length < q + n
            · rw [if_pos h9] at hd
              have h10 : (t.length : Int) - q < n := by omega
              simp [e0, e3, e4, r0, tmpAt, h10, hd]
            · rw [if_neg h9] at hd
              have h10 : ¬ (t.length : Int) - q < n := by omega
              have hp0 : (0 : Int) ≤ q + n := by omega
              have hp1 : ((q : Int) + n).toNat = q + n := by omega
              simp [e0, e3, e4, r0, tmpAt, h10, hd, wa, we, hp0, hp1]
              omega
        · rw [if_neg h6] at hd
          simp [e0, e3, e4, r0, tmpAt, h6, hd]
      · simp [e0, e3, e4, r0, tmpAt, hpl, h3, wrap_byte, hv]
        by_cases h4 : p = a0
        · rw [if_pos h4] at hd
          have h5 : p - a0 = 0 := by omega
          simp [e0, e3, e4, r0, tmpAt, h5, hv, hd, wf]
        rw [if_neg h4] at hd
        have h5 : ¬ p - a0 = 0 := by omega
        simp [e0, e3, e4, r0, tmpAt, h5, ww]
        generalize wantM t [125, 13, 10] p k0 = q at *
        obtain ⟨q, j⟩ := q
        simp only at lw hd
        simp
        by_cases h6 : j = 0
        · subst h6
          simp only [if_true] at hd
          have wa : IntKind.i64.wrap ((q : Int) + n) = q + n := wrap_in (by omega) (by omega)
          have wb : IntKind.i64.wrap ((q : Int) + n + 2) = q + n + 2 := wrap_in (by omega) (by omega)
          have wc : IntKind.i64.wrap ((t.length : Int) - q) = t.length - q := wrap_in (by omega) (by omega)
          have we : IntKind.i64.wrap (q : Int) = q := wrap_in (by omega) (by omega)
          simp [e0, e3, e4, r0, tmpAt, wa, wb, wc]
          by_cases h7 : 300 < q + n + 2
          · rw [if_pos h7] at hd
            have h8 : (300 : Int) < (q : Int) + n + 2 := by omega
            simp [e0, e3, e4, r0, tmpAt, h8, hd]
          · rw [if_neg h7] at hd
            have h8 : ¬ (300 : Int) < (q : Int) + n + 2 := by omega
            simp [e0, e3, e4, r0, tmpAt, h8, wc]
            by_cases h9 : t.length < q + n
            · rw [if_pos h9] at hd
              have h10 : (t.length : Int) - q < n := by omega
              simp [e0, e3, e4, r0, tmpAt, h10, hd]
            · rw [if_neg h9] at hd
              have h10 : ¬ (t.length : Int) - q < n := by omega
              have hp0 : (0 : Int) ≤ q + n := by omega
              have hp1 : ((q : Int) + n).toNat = q + n := by omega
              simp [e0, e3, e4, r0, tmpAt, h10, hd, wa, we, hp0, hp1]
              omega
        · rw [if_neg h6] at hd
          simp [e0, e3, e4, r0, tmpAt, h6, hd]
    · have h3 : ¬ ((p - a0 : Nat) : Int) < 3 := by omega
      simp [e0, e3, e4, r0, tmpAt, h3, wrap_byte, hv]
      by_cases h4 : p = a0
      · rw [if_pos h4] at hd
        have h5 : p - a0 = 0 := by omega
        simp [e0, e3, e4, r0, tmpAt, h5, hv, hd, wf]
      rw [if_neg h4] at hd
      have h5 : ¬ p - a0 = 0 := by omega
      simp [e0, e3, e4, r0, tmpAt, h5, ww]
      generalize wantM t [125, 13, 10] p k0 = q at *
      obtain ⟨q, j⟩ := q
      simp only at lw hd
      simp
      by_cases h6 : j = 0
      · subst h6
        simp only [if_true] at hd
        have wa : IntKind.i64.wrap ((q : Int) + n) = q + n := wrap_in (by omega) (by omega)
        have wb : IntKind.i64.wrap ((q : Int) + n + 2) = q + n + 2 := wrap_in (by omega) (by omega)
        have wc : IntKind.i64.wrap ((t.length : Int) - q) = t.length - q := wrap_in (by omega) (by omega)
        have we : IntKind.i64.wrap (q : Int) = q := wrap_in (by omega) (by omega)
        simp [e0, e3, e4, r0, tmpAt, wa, wb, wc]
        by_cases h7 : 300 < q + n + 2
        · rw [if_pos h7] at hd
          have h8 : (300 : Int) < (q : Int) + n + 2 := by omega
          simp [e0, e3, e4, r0, tmpAt, h8, hd]
        · rw [if_neg h7] at hd
          have h8 : ¬ (300 : Int) < (q : Int) + n + 2 := by omega
          simp [e0, e3, e4, r0, tmpAt, h8, wc]
          by_cases h9 : t.length < q + n
          · rw [if_pos h9] at hd
            have h10 : (t.length : Int) - q < n := by omega
            simp [e0, e3, e4, r0, tmpAt, h10, hd]
          · rw [if_neg h9] at hd
            have h10 : ¬ (t.length : Int) - q < n := by omega
            have hp0 : (0 : Int) ≤ q + n := by omega
            have hp1 : ((q : Int) + n).toNat = q + n := by omega
            simp [e0, e3, e4, r0, tmpAt, h10, hd, wa, we, hp0, hp1]
            omega
      · rw [if_neg h6] at hd
        simp [e0, e3, e4, r0, tmpAt, h6, hd]
def wordM (t : S) (a : Nat) (k : Int) : S × Nat × Int :=
  if isB t a 40 = true then listM t a k else if isB t a 34 = true then markedM t a k else if isB t a 123 = true then litM t a k else plainM t a k
theorem eq_word (t : S) (a : Nat) (k : Int) (ha : a ≤ t.length) (ht : t.length ≤ 1048576) : lim E 32 [cmd t a k] = some (.str (wordM t a k).1, [cmd t (wordM t a k).2.1 (wordM t a k).2.2]) := by
  have w1 := eq_is t a k 40 (by omega) ht
  have w2 := eq_is t a k 34 (by omega) ht
  have w3 := eq_is t a k 123 (by omega) ht
  have v1 := eq_list t a k ha ht
  have v2 := eq_marked t a k ha ht
  have v3 := eq_literal t a k ha ht
  have v4 := eq_plain t a k (by omega) ht
  simp [cmd] at w1 w2 w3 v1 v2 v3 v4
  unfold cmd wordM
  refine lim_run (E := E) rfl Tryd.func32 rfl (by kernel_rfl) (by kernel_rfl) ?_
  simp [Tryd.f32, tmpAt, w1, w2, w3, v1, v2, v3, v4]
  repeat' first | (refine RT_dec ?_ ?_ <;> intro hg <;> try simp [tmpAt, hg, w1, w2, w3, v1, v2, v3, v4]) | (refine RT_split ?_ ?_ <;> intro hg <;> (try simp at hg) <;> try simp [tmpAt, hg, w1, w2, w3, v1, v2, v3, v4]) | (refine RB_dec ?_ ?_ <;> intro hg <;> try simp [tmpAt, hg, w1, w2, w3, v1, v2, v3, v4]) | (refine RB_ndec ?_ ?_ <;> intro hg <;> try simp [tmpAt, hg, w1, w2, w3, v1, v2, v3, v4]) | (refine RB_split ?_ ?_ <;> intro hg <;> (try simp at hg) <;> try simp [tmpAt, hg, w1, w2, w3, v1, v2, v3, v4]) | (refine RG_dec ?_ ?_ <;> intro hg <;> try simp [tmpAt, hg, w1, w2, w3, v1, v2, v3, v4]) | (refine RG_split ?_ ?_ <;> intro hg <;> (try simp at hg) <;> try simp [tmpAt, hg, w1, w2, w3, v1, v2, v3, v4])
end Go.Proofs.YtbcgldeleankcaaDoor
