/- Commands: the reference's steps. -/
import Derived.Test.YtbcgldeleankcaaDoorcB3
set_option linter.unusedSectionVars false
set_option linter.all false
set_option linter.unusedVariables false
set_option linter.unusedSimpArgs false
set_option maxRecDepth 100000
namespace Go.Proofs.YtbcgldeleankcaaDoor
open Go.Lft

/-- The place behind a list: 0: more is to come, -1: there is none. -/
def sl : S → Nat → Nat → Bool → Int
  | [], _, _, _ => 0
  | b :: l, i, n, first =>
    if b = 41 then (if n = 0 ∧ first = false then -1 else i + 1)
    else if b = 32 then (if n = 0 then -1 else sl l (i + 1) 0 false)
    else if plainByte b = false ∨ n = 60 then -1
    else sl l (i + 1) (n + 1) false
theorem byteEq (b : UInt8) (k : Nat) (hk : k < 256) : b = UInt8.ofNat k ↔ (b.toNat : Int) = k := byte_val b k hk
set_option maxHeartbeats 2000000 in
theorem eq_l15List (t : S) (a : Nat) (ha : a < t.length) (ht : t.length ≤ 1048576) : lim E 66 [.str t, .int .i64 a] = some (.int .i64 (sl (t.drop (a + 1)) (a + 1) 0 true), []) := by
  have hv := wrap_up (show a < 4611686018427387904 by omega)
  refine lim_run (E := E) rfl Tryd.func66 rfl (by kernel_rfl) (by kernel_rfl) ?_
  simp [Tryd.f66, tmpAt, hv]
  refine loop_ind (fun m st => ∃ (p n : Nat), a + 1 ≤ p ∧ p + m = t.length ∧ n ≤ 60 ∧ sl (t.drop p) p n (decide (p = a + 1)) = sl (t.drop (a + 1)) (a + 1) 0 true ∧ st.env 0 = .str t ∧ st.env 1 = .int .i64 a ∧ st.env 5 = .int .i64 n ∧ st.env 6 = .int .i64 p) (t.length - (a + 1)) _ ?_ ?_
  · exact ⟨a + 1, 0, by simp; omega⟩
  rintro m ⟨env, rs⟩ ⟨p, n, hap, hpm, hn, hm, e0, e1, e5, e6⟩ ih
  simp at e0 e1 e5 e6
  have hw := wrap_up (show p < 4611686018427387904 by omega)
  have hwn := wrap_up (show n < 4611686018427387904 by omega)
  by_cases h : p < t.length
  · rw [drop_cons h] at hm
    simp only [sl] at hm
    have b41 := byteEq t[p] 41 (by omega)
    have b32 := byteEq t[p] 32 (by omega)
    simp at b41 b32
    have wp := eq_l15Byte t[p]
    by_cases h1 : t[p] = 41
    · have h1' := b41.1 h1
      rw [if_pos h1] at hm
      simp [e0, e1, e5, e6, h, h1', tmpAt]
      by_cases h2 : n = 0
      · subst h2
        by_cases h3 : p = a + 1
        · simp [h3] at hm
          simp [e0, e1, e5, e6, h, h3, tmpAt, hv]
          rw [← hm]
          exact wrap_in (by omega) (by omega)
        · simp [h3] at hm
          have h4 : (a : Int) + 1 < p := by omega
          simp [e0, e1, e5, e6, h, h4, tmpAt, hv, hm]
      · simp [h2] at hm
        simp [e0, e1, e5, e6, h, h2, tmpAt, hv, hw, ← hm]
    rw [if_neg h1] at hm
    have h1' : ¬ (t[p].toNat : Int) = 41 := fun h => h1 (b41.2 h)
    by_cases h5 : t[p] = 32
    · have h5' := b32.1 h5
      rw [if_pos h5] at hm
      by_cases h2 : n = 0
      · simp [h2] at hm
        simp [e0, e1, e5, e6, h, h1', h5', h2, tmpAt, hv, hw, ← hm]
      · simp [h2] at hm
        simp [e0, e1, e5, e6, h, h1', h5', h2, tmpAt, hv, hw]
        refine ih (m - 1) _ (by omega) ⟨p + 1, 0, by omega, by omega, by omega, ?_, ?_⟩
        · rw [← hm]; congr 1; simp; omega
        · simp [e0, e1, e5, e6]
    rw [if_neg h5] at hm
    have h5' : ¬ (t[p].toNat : Int) = 32 := fun h => h5 (b32.2 h)
    cases hb : plainByte t[p]
    · simp [hb] at hm
      simp [e0, e1, e5, e6, h, h1', h5', tmpAt, wp, hb, hv, hw, ← hm]
    · by_cases h60 : n = 60
      · simp [hb, h60] at hm
        simp [e0, e1, e5, e6, h, h1', h5', tmpAt, wp, hb, h60, hv, hw, ← hm]
      · simp [hb, h60] at hm
        have h60' : ¬ (n : Int) = 60 := by omega
        simp [e0, e1, e5, e6, h, h1', h5', tmpAt, wp, hb, h60, h60', hv, hw, hwn]
        refine ih (m - 1) _ (by omega) ⟨p + 1, n + 1, by omega, by omega, by omega, ?_, ?_⟩
        · rw [← hm]; congr 1; simp; omega
        · simp [e0, e1, e5, e6]
  · rw [List.drop_eq_nil_of_le (by omega)] at hm
    simp [sl] at hm
    simp [e0, e1, e5, e6, h, ← hm]
/-- The text in marks, as the reference reads it. -/
def st (t : S) : Nat → Nat → S → S × Int
  | 0, _, _ => ([], 0)
  | f + 1, i, out => match t[i]? with
    | none => ([], 0)
    | some b =>
      if b = 34 then (out, i + 1)
      else if within b.toNat 32 126 = false then ([], -1)
      else if b = 92 then (match t[i + 1]? with
        | none => ([], 0)
        | some c => if c = 34 ∨ c = 92 then st t f (i + 2) (out ++ [c]) else ([], -1))
      else st t f (i + 1) (out ++ [b])
theorem within_def (b : UInt8) : within b.toNat 32 126 = false ↔ ((b.toNat : Int) < 32 ∨ (126 : Int) < b.toNat) := by
  simp [within]; omega
set_option maxHeartbeats 2000000 in
theorem eq_l15Text (t : S) (a : Nat) (ha : a < t.length) (ht : t.length ≤ 1048576) : lim E 82 [.str t, .int .i64 a] = some (.tup [.str (st t t.length (a + 1) []).1, .int .i64 (st t t.length (a + 1) []).2], []) := by
  have hv := wrap_up (show a < 4611686018427387904 by omega)
  refine lim_run (E := E) rfl Tryd.func82 rfl (by kernel_rfl) (by kernel_rfl) ?_
  simp [Tryd.f82, tmpAt, hv]
  refine loop_ind (fun m s => ∃ (p : Nat) (out : S), p ≤ t.length ∧ t.length ≤ p + m ∧ out.length ≤ p ∧ st t m p out = st t t.length (a + 1) [] ∧ s.env 0 = .str t ∧ s.env 6 = .str out ∧ s.env 7 = .int .i64 p) t.length _ ?_ ?_
  · exact ⟨a + 1, [], by simp; omega⟩
  rintro m ⟨env, rs⟩ ⟨p, out, hpt, hpm, hol, hm, e0, e6, e7⟩ ih
  simp at e0 e6 e7
  have hw := wrap_up (show p < 4611686018427387904 by omega)
  have hw2 : IntKind.i64.wrap ((p : Int) + 1 + 1) = p + 2 := by rw [show (p : Int) + 1 + 1 = p + 2 by omega]; exact wrap_in (by omega) (by omega)
  have hw3 : IntKind.i64.wrap ((p : Int) + 2) = p + 2 := wrap_in (by omega) (by omega)
  have hwl : IntKind.i64.wrap (t.length : Int) = t.length := wrap_in (by omega) (by omega)
  have hp1 : (0 : Int) ≤ p + 1 := by omega
  have hp2 : (0 : Int) ≤ p + 2 := by omega
  have hp3 : ((p : Int) + 2).toNat = p + 2 := by omega
  have hp4 : ((p : Int) + 1).toNat = p + 1 := by omega
  have hp5 : p + 2 - (p + 1) = 1 := by omega
  have hp6 : p + 1 - p = 1 := by omega
  by_cases h : p < t.length
  · have hs1 : (t.drop p).take 1 = [t[p]] := by rw [drop_cons h]; rfl
    obtain ⟨m, rfl⟩ : ∃ m', m = m' + 1 := ⟨m - 1, by omega⟩
    simp only [st, List.getElem?_eq_getElem h] at hm
    have b34 := byteEq t[p] 34 (by omega)
    have b92 := byteEq t[p] 92 (by omega)
    simp at b34 b92
    have hwi := within_def t[p]
    by_cases h1 : t[p] = 34
    · have h1' := b34.1 h1
      rw [if_pos h1] at hm
      simp [e0, e6, e7, h, h1', tmpAt, hw, ← hm]
    rw [if_neg h1] at hm
    have h1' : ¬ (t[p].toNat : Int) = 34 := fun h => h1 (b34.2 h)
    by_cases h2 : within t[p].toNat 32 126 = false
    · rw [if_pos h2] at hm
      have h2' := hwi.1 h2
      by_cases h3 : (t[p].toNat : Int) < 32
      · simp [e0, e6, e7, h, h1', h3, tmpAt, hw, ← hm]
      · have h4 : (126 : Int) < t[p].toNat := by omega
        simp [e0, e6, e7, h, h1', h3, h4, tmpAt, hw, ← hm]
    rw [if_neg h2] at hm
    have h2' := (not_congr hwi).1 h2
    have h3 : ¬ (t[p].toNat : Int) < 32 := by omega
    have h4 : ¬ (126 : Int) < t[p].toNat := by omega
    by_cases h5 : t[p] = 92
    · have h5' := b92.1 h5
      rw [if_pos h5] at hm
      by_cases h6 : p + 1 < t.length
      · rw [List.getElem?_eq_getElem h6] at hm
        have c34 := byteEq t[p + 1] 34 (by omega)
        have c92 := byteEq t[p + 1] 92 (by omega)
        simp at c34 c92
        have h6' : ¬ (p : Int) + 1 = t.length := by omega
        have hs2 : (t.drop (p + 1)).take 1 = [t[p + 1]] := by rw [drop_cons h6]; rfl
        by_cases h7 : t[p + 1] = 34
        · have h7' := c34.1 h7
          simp [h7] at hm
          simp [e0, e6, e7, h, h1', h3, h4, h5', h6, h6', h7', tmpAt, hw, hw2, hw3, hp1, hp2, hp3, hp4, hp5, hs2, h7]
          refine ⟨by omega, by simp [strMax]; omega, ih m _ (by omega) ⟨p + 2, out ++ [34], by omega, by omega, by simp; omega, hm, ?_⟩⟩
          simp [e0, e6, e7]
        by_cases h8 : t[p + 1] = 92
        · have h7' : ¬ (t[p + 1].toNat : Int) = 34 := fun h => h7 (c34.2 h)
          have h8' := c92.1 h8
          simp [h8] at hm
          simp [e0, e6, e7, h, h1', h3, h4, h5', h6, h6', h7', h8', tmpAt, hw, hw2, hw3, hp1, hp2, hp3, hp4, hp5, hs2, h8]
          refine ⟨by omega, by simp [strMax]; omega, ih m _ (by omega) ⟨p + 2, out ++ [92], by omega, by omega, by simp; omega, hm, ?_⟩⟩
          simp [e0, e6, e7]
        · have h7' : ¬ (t[p + 1].toNat : Int) = 34 := fun h => h7 (c34.2 h)
          have h8' : ¬ (t[p + 1].toNat : Int) = 92 := fun h => h8 (c92.2 h)
          simp [h7, h8] at hm
          simp [e0, e6, e7, h, h1', h3, h4, h5', h6, h6', h7', h8', tmpAt, hw, hw2, hp1, hp4, ← hm]
      · rw [List.getElem?_eq_none (by omega)] at hm
        have h6' : (p : Int) + 1 = t.length := by omega
        simp at hm
        simp [e0, e6, e7, h, h1', h3, h4, h5', h6', tmpAt, hw, hw2, hwl, ← hm]
    · have h5' : ¬ (t[p].toNat : Int) = 92 := fun h => h5 (b92.2 h)
      rw [if_neg h5] at hm
      simp [e0, e6, e7, h, h1', h3, h4, h5', tmpAt, hw, hw2, hp1, hp4, hp6, hs1]
      refine ⟨by omega, by simp [strMax]; omega, ih m _ (by omega) ⟨p + 1, out ++ [t[p]], by omega, by omega, by simp; omega, hm, ?_⟩⟩
      simp [e0, e6, e7]
  · have hm : ([], 0) = st t t.length (a + 1) [] := by
      rw [← hm]
      cases m with
      | zero => rfl
      | succ m => simp only [st]; rw [List.getElem?_eq_none (by omega)]
    simp [e0, e6, e7, h, ← hm]
/-- A literal's head, as the reference reads it. -/
def slitEnd (t : S) (n i : Nat) (r : Nat × Int) : Int × Int := if r.2 = 0 then ((n : Int), (i : Int) + 3) else (0, if r.2 = 1 then 0 else -1)
def slit (t : S) (a : Nat) : Int × Int :=
  if (litL t 3 (a + 1) 0).1 < t.length ∧ (litL t 3 (a + 1) 0).1 = a + 1 then (0, -1) else
  slitEnd t (litL t 3 (a + 1) 0).2 (litL t 3 (a + 1) 0).1 (wantM t [125, 13, 10] (litL t 3 (a + 1) 0).1 0)
set_option maxHeartbeats 2000000 in
theorem eq_l15Literal (t : S) (a : Nat) (ha : a < t.length) (ht : t.length ≤ 1048576) : lim E 81 [.str t, .int .i64 a] = some (.tup [.int .i64 (slit t a).1, .int .i64 (slit t a).2], []) := by
  have hv := wrap_up (show a < 4611686018427387904 by omega)
  have hd : slit t a = if (litL t 3 (a + 1) 0).1 < t.length ∧ (litL t 3 (a + 1) 0).1 = a + 1 then (0, -1) else slitEnd t (litL t 3 (a + 1) 0).2 (litL t 3 (a + 1) 0).1 (wantM t [125, 13, 10] (litL t 3 (a + 1) 0).1 0) := rfl
  refine lim_run (E := E) rfl Tryd.func81 rfl (by kernel_rfl) (by kernel_rfl) ?_
  simp [Tryd.f81, tmpAt, hv]
  refine loop_ind (fun m st => ∃ (p n : Nat), a + 1 ≤ p ∧ p ≤ t.length ∧ p - (a + 1) + m = 3 ∧ n + 1 ≤ 10 ^ (3 - m) ∧ litL t m p n = litL t 3 (a + 1) 0 ∧ st.env 0 = .str t ∧ st.env 1 = .int .i64 a ∧ st.env 7 = .int .i64 n ∧ st.env 6 = .int .i64 p) 3 _ ?_ ?_
  · exact ⟨a + 1, 0, by simp; omega⟩
  rintro m ⟨env, rs⟩ ⟨p, n, h0p, hpt, hpm, hn, hm, e0, e1, e7, e6⟩ ih
  simp at e0 e1 e6 e7
  have hn3 : n ≤ 999 := by
    have : 10 ^ (3 - m) ≤ 10 ^ 3 := Nat.pow_le_pow_right (by omega) (by omega)
    omega
  have hw := wrap_up (show p < 4611686018427387904 by omega)
  have wa : IntKind.i64.wrap ((p : Int) - a) = p - a := wrap_in (by omega) (by omega)
  by_cases hgo : m ≠ 0 ∧ ∃ h : p < t.length, 48 ≤ t[p].toNat ∧ t[p].toNat ≤ 57
  · obtain ⟨hm0, hpl, hb⟩ := hgo
    obtain ⟨m, rfl⟩ : ∃ m', m = m' + 1 := ⟨m - 1, by omega⟩
    simp only [litL, List.getElem?_eq_getElem hpl, if_pos hb] at hm
    have h3 : (p : Int) - a ≤ 3 := by omega
    have h4 : (48 : Int) ≤ t[p].toNat := by omega
    have h5 : (t[p].toNat : Int) ≤ 57 := by omega
    have w10 : IntKind.i64.wrap (10 * (n : Int)) = 10 * n := wrap_in (by omega) (by omega)
    have wb : IntKind.i64.wrap (10 * (n : Int) + t[p].toNat) = 10 * n + t[p].toNat := wrap_in (by omega) (by omega)
    have wc : IntKind.i64.wrap (10 * (n : Int) + t[p].toNat - 48) = 10 * n + t[p].toNat - 48 := wrap_in (by omega) (by omega)
    simp [e0, e1, e6, e7, tmpAt, hpl, h3, h4, h5, wa, hw, w10, wb, wc, wrap_byte]
    refine ih m _ (by omega) ⟨p + 1, 10 * n + (t[p].toNat - 48), by omega, by omega, by omega, ?_, hm, ?_⟩
    · have : 3 - m = (3 - (m + 1)) + 1 := by omega
      rw [this, Nat.pow_succ]
      omega
    · simp [e0, e1, e6, e7]
      omega
  · have hm : (p, n) = litL t 3 (a + 1) 0 := by
      rw [← hm]
      cases m with
      | zero => rfl
      | succ m =>
        simp only [litL]
        by_cases hpl : p < t.length
        · rw [List.getElem?_eq_getElem hpl]
          have hb : ¬ (48 ≤ t[p].toNat ∧ t[p].toNat ≤ 57) := fun hb => hgo ⟨by omega, hpl, hb⟩
          simp only [if_neg hb]
        · rw [List.getElem?_eq_none (by omega)]
    rw [← hm] at hd
    clear ih
    simp only at hd
    have cs : (¬ p < t.length) ∨ (p < t.length ∧ m = 0) ∨ (∃ h : p < t.length, m ≠ 0 ∧ t[p].toNat < 48) ∨ (∃ h : p < t.length, m ≠ 0 ∧ 48 ≤ t[p].toNat ∧ 57 < t[p].toNat) := by
      by_cases h1 : p < t.length
      · by_cases h2 : m = 0
        · exact Or.inr (Or.inl ⟨h1, h2⟩)
        · by_cases h3 : t[p].toNat < 48
          · exact Or.inr (Or.inr (Or.inl ⟨h1, h2, h3⟩))
          · refine Or.inr (Or.inr (Or.inr ⟨h1, h2, by omega, ?_⟩))
            rcases Nat.lt_or_ge 57 t[p].toNat with h4 | h4
            · exact h4
            · exact absurd ⟨h2, h1, by omega, h4⟩ hgo
      · exact Or.inl h1
    have wa1 : IntKind.i64.wrap ((a : Int) + 1) = a + 1 := wrap_in (by omega) (by omega)
    rcases cs with hx | ⟨hx, hy⟩ | ⟨hx, hy, hz⟩ | ⟨hx, hy, hz, hz'⟩
    · rw [if_neg (by omega)] at hd
      simp [e0, e1, e6, e7, tmpAt, hx]
      generalize hW : wantM t [125, 13, 10] p 0 = W at hd
      refine loop_ind (fun m st => ∃ (k : Nat), k + m = 3 ∧ wantM t (([125, 13, 10] : S).drop k) (p + k) 0 = W ∧ st.env 0 = .str t ∧ st.env 6 = .int .i64 p ∧ st.env 7 = .int .i64 n ∧ st.env 8 = .str [125, 13, 10] ∧ st.env 9 = .int .i64 k) 3 _ ?_ ?_
      · exact ⟨0, by simp [e0, e6, e7, hW]⟩
      clear e0 e1 e6 e7 hW
      rintro m ⟨env, rs⟩ ⟨k, hkm, hk, e0, e6, e7, e8, e9⟩ ih
      simp at e0 e6 e7 e8 e9
      have wk : IntKind.i64.wrap ((k : Int) + 1) = k + 1 := wrap_in (by omega) (by omega)
      have wpk : IntKind.i64.wrap ((p : Int) + k) = p + k := wrap_in (by omega) (by omega)
      have wp3 : IntKind.i64.wrap ((p : Int) + 3) = p + 3 := wrap_in (by omega) (by omega)
      have hpk0 : (0 : Int) ≤ p + k := by omega
      have hpk1 : ((p : Int) + k).toNat = p + k := by omega
      by_cases hk3 : k < 3
      · have hk3' : (k : Int) < 3 := by omega
        rw [drop_cons (by simpa using hk3)] at hk
        simp only [wantM, if_true] at hk
        by_cases hl : p + k < t.length
        · have hl' : ¬ (t.length : Int) ≤ p + k := by omega
          by_cases hc : t[p + k] = ([125, 13, 10] : S)[k]
          · have hb : isB t (p + k) ([125, 13, 10] : S)[k] = true := by simp [isB, List.getElem?_eq_getElem hl, hc]
            rw [if_pos hb] at hk
            simp [e0, e6, e7, e8, e9, tmpAt, hk3, hk3', wpk, hl, hl', hpk0, hpk1, hc, wk]
            refine ih (m - 1) _ (by omega) ⟨k + 1, by omega, hk, ?_⟩
            simp [e0, e6, e7, e8, e9]
          · have hb : isB t (p + k) ([125, 13, 10] : S)[k] = false := by simp [isB, List.getElem?_eq_getElem hl, hc]
            have hc' : ¬ ((t[p + k].toNat : Int) = ([125, 13, 10] : S)[k].toNat) := by
              intro h; apply hc; rw [← UInt8.toNat_inj]; omega
            simp [hb] at hk
            subst hk
            simp [slitEnd, endCode, hl, show ¬ t.length ≤ p + k by omega] at hd
            simp [e0, e6, e7, e8, e9, tmpAt, hk3, hk3', wpk, hl, hl', hpk0, hpk1, hc', wk, hd]
        · have hl' : (t.length : Int) ≤ p + k := by omega
          have hb : isB t (p + k) ([125, 13, 10] : S)[k] = false := by simp [isB, List.getElem?_eq_none (by omega : t.length ≤ p + k)]
          simp [hb] at hk
          subst hk
          simp [slitEnd, endCode, show t.length ≤ p + k by omega] at hd
          simp [e0, e6, e7, e8, e9, tmpAt, hk3, hk3', wpk, hl', hd]
      · obtain rfl : k = 3 := by omega
        simp [wantM] at hk
        subst hk
        simp [slitEnd] at hd
        simp [e0, e6, e7, e8, e9, tmpAt, wp3, hd]
    · have h3 : ¬ (p : Int) - a ≤ 3 := by omega
      have h4 : ¬ (p : Int) = a + 1 := by omega
      rw [if_neg (by omega)] at hd
      simp [e0, e1, e6, e7, tmpAt, hx, wa, wa1, h3, h4]
      generalize hW : wantM t [125, 13, 10] p 0 = W at hd
      refine loop_ind (fun m st => ∃ (k : Nat), k + m = 3 ∧ wantM t (([125, 13, 10] : S).drop k) (p + k) 0 = W ∧ st.env 0 = .str t ∧ st.env 6 = .int .i64 p ∧ st.env 7 = .int .i64 n ∧ st.env 8 = .str [125, 13, 10] ∧ st.env 9 = .int .i64 k) 3 _ ?_ ?_
      · exact ⟨0, by simp [e0, e6, e7, hW]⟩
      clear e0 e1 e6 e7 hW
      rintro m ⟨env, rs⟩ ⟨k, hkm, hk, e0, e6, e7, e8, e9⟩ ih
      simp at e0 e6 e7 e8 e9
      have wk : IntKind.i64.wrap ((k : Int) + 1) = k + 1 := wrap_in (by omega) (by omega)
      have wpk : IntKind.i64.wrap ((p : Int) + k) = p + k := wrap_in (by omega) (by omega)
      have wp3 : IntKind.i64.wrap ((p : Int) + 3) = p + 3 := wrap_in (by omega) (by omega)
      have hpk0 : (0 : Int) ≤ p + k := by omega
      have hpk1 : ((p : Int) + k).toNat = p + k := by omega
      by_cases hk3 : k < 3
      · have hk3' : (k : Int) < 3 := by omega
        rw [drop_cons (by simpa using hk3)] at hk
        simp only [wantM, if_true] at hk
        by_cases hl : p + k < t.length
        · have hl' : ¬ (t.length : Int) ≤ p + k := by omega
          by_cases hc : t[p + k] = ([125, 13, 10] : S)[k]
          · have hb : isB t (p + k) ([125, 13, 10] : S)[k] = true := by simp [isB, List.getElem?_eq_getElem hl, hc]
            rw [if_pos hb] at hk
            simp [e0, e6, e7, e8, e9, tmpAt, hk3, hk3', wpk, hl, hl', hpk0, hpk1, hc, wk]
            refine ih (m - 1) _ (by omega) ⟨k + 1, by omega, hk, ?_⟩
            simp [e0, e6, e7, e8, e9]
          · have hb : isB t (p + k) ([125, 13, 10] : S)[k] = false := by simp [isB, List.getElem?_eq_getElem hl, hc]
            have hc' : ¬ ((t[p + k].toNat : Int) = ([125, 13, 10] : S)[k].toNat) := by
              intro h; apply hc; rw [← UInt8.toNat_inj]; omega
            simp [hb] at hk
            subst hk
            simp [slitEnd, endCode, hl, show ¬ t.length ≤ p + k by omega] at hd
            simp [e0, e6, e7, e8, e9, tmpAt, hk3, hk3', wpk, hl, hl', hpk0, hpk1, hc', wk, hd]
        · have hl' : (t.length : Int) ≤ p + k := by omega
          have hb : isB t (p + k) ([125, 13, 10] : S)[k] = false := by simp [isB, List.getElem?_eq_none (by omega : t.length ≤ p + k)]
          simp [hb] at hk
          subst hk
          simp [slitEnd, endCode, show t.length ≤ p + k by omega] at hd
          simp [e0, e6, e7, e8, e9, tmpAt, hk3, hk3', wpk, hl', hd]
      · obtain rfl : k = 3 := by omega
        simp [wantM] at hk
        subst hk
        simp [slitEnd] at hd
        simp [e0, e6, e7, e8, e9, tmpAt, wp3, hd]
    · have h3 : (p : Int) - a ≤ 3 := by omega
      have h5 : ¬ (48 : Int) ≤ t[p].toNat := by omega
      by_cases h6 : p = a + 1
      · have h4 : (p : Int) = a + 1 := by omega
        rw [if_pos ⟨hx, h6⟩] at hd
        simp [e0, e1, e6, e7, tmpAt, hx, wa, wa1, h3, h5]
        simp [h4, hd]
      · have h4 : ¬ (p : Int) = a + 1 := by omega
        rw [if_neg (by omega)] at hd
        simp [e0, e1, e6, e7, tmpAt, hx, wa, wa1, h3, h4, h5]
        generalize hW : wantM t [125, 13, 10] p 0 = W at hd
        refine loop_ind (fun m st => ∃ (k : Nat), k + m = 3 ∧ wantM t (([125, 13, 10] : S).drop k) (p + k) 0 = W ∧ st.env 0 = .str t ∧ st.env 6 = .int .i64 p ∧ st.env 7 = .int .i64 n ∧ st.env 8 = .str [125, 13, 10] ∧ st.env 9 = .int .i64 k) 3 _ ?_ ?_
        · exact ⟨0, by simp [e0, e6, e7, hW]⟩
        clear e0 e1 e6 e7 hW
        rintro m ⟨env, rs⟩ ⟨k, hkm, hk, e0, e6, e7, e8, e9⟩ ih
        simp at e0 e6 e7 e8 e9
        have wk : IntKind.i64.wrap ((k : Int) + 1) = k + 1 := wrap_in (by omega) (by omega)
        have wpk : IntKind.i64.wrap ((p : Int) + k) = p + k := wrap_in (by omega) (by omega)
        have wp3 : IntKind.i64.wrap ((p : Int) + 3) = p + 3 := wrap_in (by omega) (by omega)
        have hpk0 : (0 : Int) ≤ p + k := by omega
        have hpk1 : ((p : Int) + k).toNat = p + k := by omega
        by_cases hk3 : k < 3
        · have hk3' : (k : Int) < 3 := by omega
          rw [drop_cons (by simpa using hk3)] at hk
          simp only [wantM, if_true] at hk
          by_cases hl : p + k < t.length
          · have hl' : ¬ (t.length : Int) ≤ p + k := by omega
            by_cases hc : t[p + k] = ([125, 13, 10] : S)[k]
            · have hb : isB t (p + k) ([125, 13, 10] : S)[k] = true := by simp [isB, List.getElem?_eq_getElem hl, hc]
              rw [if_pos hb] at hk
              simp [e0, e6, e7, e8, e9, tmpAt, hk3, hk3', wpk, hl, hl', hpk0, hpk1, hc, wk]
              refine ih (m - 1) _ (by omega) ⟨k + 1, by omega, hk, ?_⟩
              simp [e0, e6, e7, e8, e9]
            · have hb : isB t (p + k) ([125, 13, 10] : S)[k] = false := by simp [isB, List.getElem?_eq_getElem hl, hc]
              have hc' : ¬ ((t[p + k].toNat : Int) = ([125, 13, 10] : S)[k].toNat) := by
                intro h; apply hc; rw [← UInt8.toNat_inj]; omega
              simp [hb] at hk
              subst hk
              simp [slitEnd, endCode, hl, show ¬ t.length ≤ p + k by omega] at hd
              simp [e0, e6, e7, e8, e9, tmpAt, hk3, hk3', wpk, hl, hl', hpk0, hpk1, hc', wk, hd]
          · have hl' : (t.length : Int) ≤ p + k := by omega
            have hb : isB t (p + k) ([125, 13, 10] : S)[k] = false := by simp [isB, List.getElem?_eq_none (by omega : t.length ≤ p + k)]
            simp [hb] at hk
            subst hk
            simp [slitEnd, endCode, show t.length ≤ p + k by omega] at hd
            simp [e0, e6, e7, e8, e9, tmpAt, hk3, hk3', wpk, hl', hd]
        · obtain rfl : k = 3 := by omega
          simp [wantM] at hk
          subst hk
          simp [slitEnd] at hd
          simp [e0, e6, e7, e8, e9, tmpAt, wp3, hd]
    · have h3 : (p : Int) - a ≤ 3 := by omega
      have h5 : (48 : Int) ≤ t[p].toNat := by omega
      have h7 : ¬ (t[p].toNat : Int) ≤ 57 := by omega
      by_cases h6 : p = a + 1
      · have h4 : (p : Int) = a + 1 := by omega
        rw [if_pos ⟨hx, h6⟩] at hd
        simp [e0, e1, e6, e7, tmpAt, hx, wa, wa1, h3, h5, h7]
        simp [h4, hd]
      · have h4 : ¬ (p : Int) = a + 1 := by omega
        rw [if_neg (by omega)] at hd
        simp [e0, e1, e6, e7, tmpAt, hx, wa, wa1, h3, h4, h5, h7]
        generalize hW : wantM t [125, 13, 10] p 0 = W at hd
        refine loop_ind (fun m st => ∃ (k : Nat), k + m = 3 ∧ wantM t (([125, 13, 10] : S).drop k) (p + k) 0 = W ∧ st.env 0 = .str t ∧ st.env 6 = .int .i64 p ∧ st.env 7 = .int .i64 n ∧ st.env 8 = .str [125, 13, 10] ∧ st.env 9 = .int .i64 k) 3 _ ?_ ?_
        · exact ⟨0, by simp [e0, e6, e7, hW]⟩
        clear e0 e1 e6 e7 hW
        rintro m ⟨env, rs⟩ ⟨k, hkm, hk, e0, e6, e7, e8, e9⟩ ih
        simp at e0 e6 e7 e8 e9
        have wk : IntKind.i64.wrap ((k : Int) + 1) = k + 1 := wrap_in (by omega) (by omega)
        have wpk : IntKind.i64.wrap ((p : Int) + k) = p + k := wrap_in (by omega) (by omega)
        have wp3 : IntKind.i64.wrap ((p : Int) + 3) = p + 3 := wrap_in (by omega) (by omega)
        have hpk0 : (0 : Int) ≤ p + k := by omega
        have hpk1 : ((p : Int) + k).toNat = p + k := by omega
        by_cases hk3 : k < 3
        · have hk3' : (k : Int) < 3 := by omega
          rw [drop_cons (by simpa using hk3)] at hk
          simp only [wantM, if_true] at hk
          by_cases hl : p + k < t.length
          · have hl' : ¬ (t.length : Int) ≤ p + k := by omega
            by_cases hc : t[p + k] = ([125, 13, 10] : S)[k]
            · have hb : isB t (p + k) ([125, 13, 10] : S)[k] = true := by simp [isB, List.getElem?_eq_getElem hl, hc]
              rw [if_pos hb] at hk
              simp [e0, e6, e7, e8, e9, tmpAt, hk3, hk3', wpk, hl, hl', hpk0, hpk1, hc, wk]
              refine ih (m - 1) _ (by omega) ⟨k + 1, by omega, hk, ?_⟩
              simp [e0, e6, e7, e8, e9]
            · have hb : isB t (p + k) ([125, 13, 10] : S)[k] = false := by simp [isB, List.getElem?_eq_getElem hl, hc]
              have hc' : ¬ ((t[p + k].toNat : Int) = ([125, 13, 10] : S)[k].toNat) := by
                intro h; apply hc; rw [← UInt8.toNat_inj]; omega
              simp [hb] at hk
              subst hk
              simp [slitEnd, endCode, hl, show ¬ t.length ≤ p + k by omega] at hd
              simp [e0, e6, e7, e8, e9, tmpAt, hk3, hk3', wpk, hl, hl', hpk0, hpk1, hc', wk, hd]
          · have hl' : (t.length : Int) ≤ p + k := by omega
            have hb : isB t (p + k) ([125, 13, 10] : S)[k] = false := by simp [isB, List.getElem?_eq_none (by omega : t.length ≤ p + k)]
            simp [hb] at hk
            subst hk
            simp [slitEnd, endCode, show t.length ≤ p + k by omega] at hd
            simp [e0, e6, e7, e8, e9, tmpAt, hk3, hk3', wpk, hl', hd]
        · obtain rfl : k = 3 := by omega
          simp [wantM] at hk
          subst hk
          simp [slitEnd] at hd
          simp [e0, e6, e7, e8, e9, tmpAt, wp3, hd]
end Go.Proofs.YtbcgldeleankcaaDoor
