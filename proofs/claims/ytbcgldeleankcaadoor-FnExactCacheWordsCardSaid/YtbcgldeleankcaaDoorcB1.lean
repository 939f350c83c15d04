/- Commands: bytes, the commander's small steps. -/
import Derived.Test.YtbcgldeleankcaaDoorcA2
set_option linter.unusedSectionVars false
set_option linter.all false
set_option linter.unusedVariables false
set_option linter.unusedSimpArgs false
set_option maxRecDepth 100000
namespace Go.Proofs.YtbcgldeleankcaaDoor
open Go.Lft

/-- A byte that may stand in a word as it is. -/
def plainByte (b : UInt8) : Bool := decide (33 ≤ b.toNat) && decide (b.toNat ≤ 126) && !decide (b = 34) && !decide (b = 92) && !decide (b = 40) && !decide (b = 41) && !decide (b = 123)
@[simp] theorem eq_IndexByteString (s : S) (c : Int) : lim E 108 [.str s, .int .u8 c] = some (.int .i64 (Go.Lib.indexByte s c.toNat.toUInt8), []) := lim_ext ext108
@[simp] theorem eq_sIndexByte (s : S) (c : Int) : lim E 98 [.str s, .int .u8 c] = some (.int .i64 (Go.Lib.indexByte s c.toNat.toUInt8), []) := by
  refine lim_run (E := E) rfl Tryd.func98 rfl (by kernel_rfl) (by kernel_rfl) ?_
  simp [Tryd.f98, tmpAt]
@[simp] theorem eq_IndexByte (s : S) (c : Int) : lim E 91 [.str s, .int .u8 c] = some (.int .i64 (Go.Lib.indexByte s c.toNat.toUInt8), []) := by
  refine lim_run (E := E) rfl Tryd.func91 rfl (by kernel_rfl) (by kernel_rfl) ?_
  simp [Tryd.f91, tmpAt]
theorem notPlain_index (b : UInt8) : (Go.Lib.indexByte [34, 92, 40, 41, 123] b < 0) ↔ (b ≠ 34 ∧ b ≠ 92 ∧ b ≠ 40 ∧ b ≠ 41 ∧ b ≠ 123) := by
  simp only [Go.Lib.indexByte]
  by_cases h1 : b = 34
  · subst h1; simp
  by_cases h2 : b = 92
  · subst h2; decide
  by_cases h3 : b = 40
  · subst h3; decide
  by_cases h4 : b = 41
  · subst h4; decide
  by_cases h5 : b = 123
  · subst h5; decide
  simp [h1, h2, h3, h4, h5, Ne.symm h1, Ne.symm h2, Ne.symm h3, Ne.symm h4, Ne.symm h5]
theorem eq_isPlainByte (b : UInt8) : lim E 80 [.int .u8 b.toNat] = some (.bool (plainByte b), []) := by
  have hw := wrap_byte b
  have hi := notPlain_index b
  have hp : plainByte b = (within ↑b.toNat 33 126 && decide (Go.Lib.indexByte [34, 92, 40, 41, 123] b < 0)) := by
    have e1 : decide (33 ≤ b.toNat) = decide ((33 : Int) ≤ b.toNat) := by simp; omega
    have e2 : decide (b.toNat ≤ 126) = decide ((b.toNat : Int) ≤ 126) := by simp; omega
    have e3 : decide (Go.Lib.indexByte [34, 92, 40, 41, 123] b < 0) = (!decide (b = 34) && !decide (b = 92) && !decide (b = 40) && !decide (b = 41) && !decide (b = 123)) := by
      rw [Bool.eq_iff_iff]; simp [hi, and_assoc]
    rw [e3]
    simp only [plainByte, within, e1, e2, Bool.and_assoc]
  refine lim_run (E := E) rfl Tryd.func80 rfl (by kernel_rfl) (by kernel_rfl) ?_
  simp [Tryd.f80, tmpAt, hw]
  refine RG_split ?_ ?_ <;> intro h <;> simp [h, tmpAt, hp]
theorem byte_val (b : UInt8) (k : Nat) (hk : k < 256) : b = UInt8.ofNat k ↔ ((b.toNat : Int) = k) := by
  rw [← UInt8.toNat_inj]
  simp [Nat.mod_eq_of_lt hk]
  omega
theorem plain_def (b : UInt8) : plainByte b = (decide (33 ≤ (b.toNat : Int)) && decide ((b.toNat : Int) ≤ 126) && !decide ((b.toNat : Int) = 34) && !decide ((b.toNat : Int) = 92) && !decide ((b.toNat : Int) = 40) && !decide ((b.toNat : Int) = 41) && !decide ((b.toNat : Int) = 123)) := by
  have h1 := byte_val b 34 (by omega)
  have h2 := byte_val b 92 (by omega)
  have h3 := byte_val b 40 (by omega)
  have h4 := byte_val b 41 (by omega)
  have h5 := byte_val b 123 (by omega)
  simp at h1 h2 h3 h4 h5
  unfold plainByte
  rw [decide_eq_decide.2 h1, decide_eq_decide.2 h2, decide_eq_decide.2 h3, decide_eq_decide.2 h4, decide_eq_decide.2 h5]
  congr 5
  congr 1 <;> simp <;> omega
theorem eq_l15Byte (b : UInt8) : lim E 83 [.int .u8 b.toNat] = some (.bool (plainByte b), []) := by
  rw [plain_def]
  refine lim_run (E := E) rfl Tryd.func83 rfl (by kernel_rfl) (by kernel_rfl) ?_
  simp [Tryd.f83, tmpAt]
  repeat' first | (refine RT_dec ?_ ?_ <;> intro hg <;> try simp [tmpAt, hg, wrap_byte]) | (refine RT_split ?_ ?_ <;> intro hg <;> (try simp at hg) <;> try simp [tmpAt, hg, wrap_byte]) | (refine RB_dec ?_ ?_ <;> intro hg <;> try simp [tmpAt, hg, wrap_byte]) | (refine RB_ndec ?_ ?_ <;> intro hg <;> try simp [tmpAt, hg, wrap_byte]) | (refine RB_split ?_ ?_ <;> intro hg <;> (try simp at hg) <;> try simp [tmpAt, hg, wrap_byte]) | (refine RG_dec ?_ ?_ <;> intro hg <;> try simp [tmpAt, hg, wrap_byte]) | (refine RG_split ?_ ?_ <;> intro hg <;> (try simp at hg) <;> try simp [tmpAt, hg, wrap_byte])
  all_goals (try simp_all)
/-- What a commander holds. -/
def cmd (t : S) (a : Nat) (k : Int) : D := .pto (.agg [.str t, .int .i64 a, .int .i64 k])
def isB (t : S) (a : Nat) (b : UInt8) : Bool := t[a]? == some b
def endCode (t : S) (a : Nat) : Int := if t.length ≤ a then 1 else 2
theorem eq_is (t : S) (a : Nat) (k : Int) (b : UInt8) (ha : a ≤ 2097152) (ht : t.length ≤ 1048576) : lim E 31 [cmd t a k, .int .u8 b.toNat] = some (.bool (isB t a b), []) := by
  unfold cmd isB
  refine lim_run (E := E) rfl Tryd.func31 rfl (by kernel_rfl) (by kernel_rfl) ?_
  simp [Tryd.f31, tmpAt]
  repeat' first | (refine RT_dec ?_ ?_ <;> intro hg <;> try simp [tmpAt, hg]) | (refine RT_split ?_ ?_ <;> intro hg <;> (try simp at hg) <;> try simp [tmpAt, hg]) | (refine RB_dec ?_ ?_ <;> intro hg <;> try simp [tmpAt, hg]) | (refine RB_ndec ?_ ?_ <;> intro hg <;> try simp [tmpAt, hg]) | (refine RB_split ?_ ?_ <;> intro hg <;> (try simp at hg) <;> try simp [tmpAt, hg]) | (refine RG_dec ?_ ?_ <;> intro hg <;> try simp [tmpAt, hg]) | (refine RG_split ?_ ?_ <;> intro hg <;> (try simp at hg) <;> try simp [tmpAt, hg])
  rw [Bool.eq_iff_iff]; simp [← UInt8.toNat_inj]; omega
theorem eq_fail (t : S) (a : Nat) (k : Int) (ha : a ≤ 2097152) (ht : t.length ≤ 1048576) : lim E 56 [cmd t a k] = some (.str [], [cmd t a (endCode t a)]) := by
  unfold cmd endCode
  refine lim_run (E := E) rfl Tryd.func56 rfl (by kernel_rfl) (by kernel_rfl) ?_
  simp [Tryd.f56, tmpAt]
  repeat' first | (refine RT_dec ?_ ?_ <;> intro hg <;> try simp [tmpAt, hg]) | (refine RT_split ?_ ?_ <;> intro hg <;> (try simp at hg) <;> try simp [tmpAt, hg]) | (refine RB_dec ?_ ?_ <;> intro hg <;> try simp [tmpAt, hg]) | (refine RB_ndec ?_ ?_ <;> intro hg <;> try simp [tmpAt, hg]) | (refine RB_split ?_ ?_ <;> intro hg <;> (try simp at hg) <;> try simp [tmpAt, hg]) | (refine RG_dec ?_ ?_ <;> intro hg <;> try simp [tmpAt, hg]) | (refine RG_split ?_ ?_ <;> intro hg <;> (try simp at hg) <;> try simp [tmpAt, hg])
/-- 'want': the place behind, and the code. -/
def wantM (t : S) : S → Nat → Int → Nat × Int
  | [], a, k => (a, k)
  | b :: w, a, k => if k = 0 then (if isB t a b = true then wantM t w (a + 1) k else (a, endCode t a)) else (a, k)
theorem drop_cons {α : Type} {l : List α} {i : Nat} (h : i < l.length) : l.drop i = l[i] :: l.drop (i + 1) := List.drop_eq_getElem_cons h
theorem wantM_bound (t : S) : ∀ (w : S) (a : Nat) (k : Int), (wantM t w a k).1 ≤ a + w.length := by
  intro w
  induction w with
  | nil => intro a k; simp [wantM]
  | cons b w ih =>
    intro a k
    simp only [wantM]
    split
    · split
      · have := ih (a + 1) k
        simp only [List.length_cons]
        omega
      · simp
    · simp
theorem eq_want (t w : S) (a : Nat) (k : Int) (ha : a ≤ 1048577) (ht : t.length ≤ 1048576) (hw : w.length ≤ 3) : lim E 33 [cmd t a k, .str w] = some (.tup [], [cmd t (wantM t w a k).1 (wantM t w a k).2]) := by
  unfold cmd
  refine lim_run (E := E) rfl Tryd.func33 rfl (by kernel_rfl) (by kernel_rfl) ?_
  simp [Tryd.f33, tmpAt]
  refine loop_ind (fun m st => ∃ (i a' : Nat) (k' : Int), i + m = w.length ∧ wantM t (w.drop i) a' k' = wantM t w a k ∧ a' ≤ a + i ∧ st.env 0 = .ptr (0, 99) [] ∧ st.env 1 = .str w ∧ st.env 6 = .int .i64 w.length ∧ st.env 7 = .int .i64 i ∧ st.rs (0, 99) = some ⟨true, .agg [.str t, .int .i64 a', .int .i64 k']⟩) w.length _ ?_ ?_
  · exact ⟨0, a, k, by simp⟩
  rintro m ⟨env, rs⟩ ⟨i, a', k', hi, hm, hb, e0, e1, e6, e7, r0⟩ ih
  simp at e0 e1 e6 e7 r0
  have hu := wrap_up (show i < 4611686018427387904 by omega)
  have hv := wrap_up (show a' < 4611686018427387904 by omega)
  simp [e0, e1, e6, e7, r0]
  refine RB_dec ?_ ?_ <;> intro h
  · rw [drop_cons h] at hm
    simp only [wantM] at hm
    by_cases hk : k' = 0
    · subst hk
      have wi := eq_is t a' 0 w[i] (by omega) ht
      try simp [cmd] at wi
      have wf := eq_fail t a' 0 (by omega) ht
      try simp [cmd] at wf
      simp [e0, e1, e6, e7, r0, h, hu, tmpAt, wi]
      cases hb' : isB t a' w[i] <;> simp [hb'] at hm <;> simp [e0, e1, e6, e7, r0, h, hu, hv, tmpAt, wi, hb', wf]
      · simp [← hm]
      · refine ih (m - 1) _ (by omega) ⟨i + 1, a' + 1, 0, ?_⟩
        simp [e0, e1, e6, e7, r0, hm, hu]
        omega
    · simp [hk] at hm
      simp [e0, e1, e6, e7, r0, h, hu, tmpAt, hk, ← hm]
  · rw [List.drop_eq_nil_of_le (by omega)] at hm
    simp only [wantM] at hm
    simp [e0, e1, e6, e7, r0, h, ← hm]
/-- So many bytes stand as they are, at most so many. -/
def pl : Nat → S → Nat
  | 0, _ => 0
  | _, [] => 0
  | f + 1, b :: l => if plainByte b = true then pl f l + 1 else 0
theorem pl_le : ∀ (f : Nat) (l : S), pl f l ≤ f ∧ pl f l ≤ l.length := by
  intro f
  induction f with
  | zero => intro l; simp [pl]
  | succ f ih =>
    intro l
    cases l with
    | nil => simp [pl]
    | cons b l =>
      simp only [pl]
      have := ih l
      split <;> simp <;> omega
/-- 'plain': the word, the place, the code. -/
def plainM (t : S) (a : Nat) (k : Int) : S × Nat × Int :=
  if pl 60 (t.drop a) = 0 ∨ a + pl 60 (t.drop a) = t.length then ([], a + pl 60 (t.drop a), endCode t (a + pl 60 (t.drop a))) else ((t.drop a).take (pl 60 (t.drop a)), a + pl 60 (t.drop a), k)
theorem eq_plain (t : S) (a : Nat) (k : Int) (ha : a ≤ 1048577) (ht : t.length ≤ 1048576) : lim E 55 [cmd t a k] = some (.str (plainM t a k).1, [cmd t (plainM t a k).2.1 (plainM t a k).2.2]) := by
  unfold cmd
  refine lim_run (E := E) rfl Tryd.func55 rfl (by kernel_rfl) (by kernel_rfl) ?_
  simp [Tryd.f55, tmpAt]
  refine loop_ind (fun m st => ∃ (p : Nat), a ≤ p ∧ (p - a) + m = 60 ∧ (p - a) + pl m (t.drop p) = pl 60 (t.drop a) ∧ st.env 0 = .ptr (0, 99) [] ∧ st.env 3 = .int .i64 a ∧ st.rs (0, 99) = some ⟨true, .agg [.str t, .int .i64 p, .int .i64 k]⟩) 60 _ ?_ ?_
  · exact ⟨a, by simp⟩
  rintro m ⟨env, rs⟩ ⟨p, hap, hi, hm, e0, e3, r0⟩ ih
  simp at e0 e3 r0
  have hx : ((p : Int) - a) = (p - a : Nat) := by omega
  have hu : IntKind.i64.wrap ((p : Int) - ↑a) = (p - a : Nat) := by rw [hx]; exact wrap_in (by omega) (by omega)
  have hv := wrap_up (show p < 4611686018427387904 by omega)
  have hfin : p = a + pl 60 (t.drop a) → plainM t a k = if p = a ∨ p = t.length then ([], p, endCode t p) else ((t.drop a).take (p - a), p, k) := by
    intro h
    have h1 : pl 60 (t.drop a) = p - a := by omega
    unfold plainM
    rw [h1]
    have h2 : a + (p - a) = p := by omega
    rw [h2]
    congr 2
    rw [eq_iff_iff]
    omega
  have wf := eq_fail t p k (by omega) ht
  try simp [cmd] at wf
  simp [e0, e3, r0, tmpAt]
  by_cases h1 : p < t.length
  · rw [drop_cons h1] at hm
    by_cases h2 : p - a < 60
    · obtain ⟨m, rfl⟩ : ∃ m', m = m' + 1 := ⟨m - 1, by omega⟩
      have h3 : ((p - a : Nat) : Int) < 60 := by omega
      have wp := eq_isPlainByte t[p]
      cases hb : plainByte t[p]
      · simp [pl, hb] at hm
        have hf := hfin (by omega)
        simp [e0, e3, r0, tmpAt, h1, hu, h3, wp, hb]
        by_cases h4 : p = a
        · subst h4
          simp [e0, e3, r0, tmpAt, wf, hf]
        · have h5 : ¬ (p : Int) = a := by omega
          by_cases h6 : p = t.length
          have h7 : (t.length : Int) = p := by omega
          rw [if_pos (Or.inr h6)] at hf
          simp [e0, e3, r0, tmpAt, wf, hf, h5, h7]
          · have h7 : ¬ (p : Int) = t.length := by omega
            rw [if_neg (by omega)] at hf
            simp [e0, e3, r0, tmpAt, wf, hf, h5, h7]
            have := (pl_le 60 (t.drop a)).2
            simp at this
            omega
      · simp [pl, hb] at hm
        simp [e0, e3, r0, tmpAt, h1, hu, h3, hv, wp, hb]
        refine ih m _ (by omega) ⟨p + 1, ?_⟩
        simp [e0, e3, r0]
        omega
    · obtain rfl : m = 0 := by omega
      have h3 : ¬ ((p - a : Nat) : Int) < 60 := by omega
      simp [pl] at hm
      have hf := hfin (by omega)
      simp [e0, e3, r0, tmpAt, h1, hu, h3]
      by_cases h4 : p = a
      · subst h4
        simp [e0, e3, r0, tmpAt, wf, hf]
      · have h5 : ¬ (p : Int) = a := by omega
        by_cases h6 : p = t.length
        have h7 : (t.length : Int) = p := by omega
        rw [if_pos (Or.inr h6)] at hf
        simp [e0, e3, r0, tmpAt, wf, hf, h5, h7]
        · have h7 : ¬ (p : Int) = t.length := by omega
          rw [if_neg (by omega)] at hf
          simp [e0, e3, r0, tmpAt, wf, hf, h5, h7]
          have := (pl_le 60 (t.drop a)).2
          simp at this
          omega
  · rw [List.drop_eq_nil_of_le (by omega)] at hm
    have hm : p - a = pl 60 (t.drop a) := by cases m <;> simp [pl] at hm <;> omega
    have hf := hfin (by omega)
    simp [e0, e3, r0, tmpAt, h1]
    by_cases h4 : p = a
    · subst h4
      simp [e0, e3, r0, tmpAt, wf, hf]
    · have h5 : ¬ (p : Int) = a := by omega
      by_cases h6 : p = t.length
      have h7 : (t.length : Int) = p := by omega
      rw [if_pos (Or.inr h6)] at hf
      simp [e0, e3, r0, tmpAt, wf, hf, h5, h7]
      · have h7 : ¬ (p : Int) = t.length := by omega
        rw [if_neg (by omega)] at hf
        simp [e0, e3, r0, tmpAt, wf, hf, h5, h7]
        have := (pl_le 60 (t.drop a)).2
        simp at this
        omega
end Go.Proofs.YtbcgldeleankcaaDoor
