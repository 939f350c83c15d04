/- Sets of numbers: SetAdd of the reference; the program's set of a list. -/
import Derived.Test.YtomeglmblhfafaaGreatDoorcD2
set_option linter.unusedSectionVars false
set_option linter.all false
set_option linter.unusedVariables false
set_option linter.unusedSimpArgs false
set_option maxRecDepth 100000
namespace Go.Proofs.YtomeglmblhfafaaGreatDoor
open Go.Lft

theorem setUpto_one (f : Nat → Bool) (n : Nat) (h : f (n + 1) = true) (h2 : f n = true) (h0 : f 0 = false) (hn : n ≤ 9999) : ∃ (l : List Range) (r : Range), setUpto f n = l ++ [r] ∧ r.hi = (n : Int) ∧ setUpto f (n + 1) = l ++ [⟨r.lo, (n + 1 : Nat)⟩] := by
  obtain ⟨l, r, e, hr⟩ := (setUpto_ok f h0 n hn).2.2.1 h2
  exact ⟨l, r, e, hr, by simp [setUpto, h, h2, e]⟩
theorem setUpto_new (f : Nat → Bool) (n : Nat) (h : f (n + 1) = true) (h2 : f n = false) : setUpto f (n + 1) = setUpto f n ++ [⟨(n + 1 : Nat), (n + 1 : Nat)⟩] := by simp [setUpto, h, h2]
theorem setUpto_same (f : Nat → Bool) (n : Nat) (h : f (n + 1) = false) : setUpto f (n + 1) = setUpto f n := by simp [setUpto, h]
theorem setUpto_len (f : Nat → Bool) : ∀ n : Nat, (setUpto f n).length ≤ n
  | 0 => by simp [setUpto]
  | n + 1 => by
    have ih := setUpto_len f n
    simp only [setUpto]
    split
    · split
      · simp; omega
      · simp; omega
    · omega
theorem set_last {α : Type} (l : List α) (x y : α) : (l ++ [x]).set l.length y = l ++ [y] := by simp
theorem eq_l05Set (f : Nat → Bool) (h0 : f 0 = false) : lim E 192 [.lst false 4 1 (bitsD f)] = some (if setOk (setUpto f 9999) = true then .tup [.lst true 161 2 ((setUpto f 9999).map encRange), .bool true] else .tup [.lst true 161 2 [], .bool false], []) := by
  refine lim_run (E := E) rfl Tryz.func192 rfl (by kernel_rfl) (by kernel_rfl) ?_
  simp [Tryz.f192, tmpAt]
  refine loop_fr [0] [] (fun m st => ∃ (i : Nat) (r : Nat), i + m = 9999 ∧ (r = 6 ∨ r = 26) ∧ st.env 4 = .slc (r,0) [] 0 (setUpto f i).length ∧ st.rs (r,0) = some ⟨false, .lst true 161 2 ((setUpto f i).map encRange)⟩ ∧ st.env 5 = .int .i64 ((i : Int) + 1)) (9999) _ ?_ ?_
  · exact ⟨0, 6, by simp [setUpto]⟩
  rintro m0 ⟨env, rs⟩ hU0 hV0 ⟨i, r, hi, hr, e4, q, e0_5⟩ ih0; simp at hU0 e0_5; clear hV0
  simp at e4 q
  have hw := wrap_up (show i < 4611686018427387904 by omega)
  have hw2 : IntKind.i64.wrap ((i : Int) + 1 + 1) = (i : Int) + 1 + 1 := wrap_in (by omega) (by omega)
  have hw3 : IntKind.i64.wrap (i : Int) = (i : Int) := wrap_in (by omega) (by omega)
  have hl := setUpto_len f i
  have p1 : (0 : Int) ≤ (i : Int) + 1 := by omega
  have p2 : ((i : Int) + 1).toNat = i + 1 := by omega
  simp [hU0, e0_5]
  refine RB_dec ?_ ?_ <;> intro h
  · have p3 : i + 1 < 10001 := by omega
    have p4 : i < 10001 := by omega
    simp [hU0, e0_5, p1, p2, p3, tmpAt]
    cases hf : f (i + 1)
    · simp [hU0, e0_5, hw2]
      refine ih0 (m0 - 1) _ (by omega) ?_ ?_ ⟨i + 1, r, by omega, hr, by simp [e4, upd, setUpto_same f i hf], by simp [q, upd, setUpto_same f i hf], ?_⟩
      · simp [hU0, e0_5]
      · simp [hU0, e0_5]
      simp [hU0, e0_5]
    · simp [hU0, e0_5, hw3, p4]
      cases hg : f i
      · have e := setUpto_new f i hf hg
        have hb : ((setUpto f i).length + 1) * 16 ≤ 140737488351232 := by omega
        have w4 : IntKind.i64.wrap ((setUpto f i).length : Int) = (setUpto f i).length := wrap_in (by omega) (by omega)
        rcases hr with rfl | rfl
        all_goals
          simp [hU0, e0_5, e4, q, hb, w4, hw2]
          repeat (refine And.intro (by first | omega | (simp; omega)) ?_)
          refine ih0 (m0 - 1) _ (by omega) ?_ ?_ ⟨i + 1, 26, by omega, by simp, ?_, ?_, ?_⟩
          · simp [hU0, e0_5]
          · simp [hU0, e0_5]
          · simp [e]
          · simp [e]
          · simp [hU0, e0_5]
      · obtain ⟨l, x, e1, e2, e3⟩ := setUpto_one f i hf hg h0 (by omega)
        rw [e1] at e4 q hl
        simp at hl
        have w4 : IntKind.i64.wrap (l.length : Int) = l.length := wrap_in (by omega) (by omega)
        rcases hr with rfl | rfl
        · simp [hU0, e0_5, e4, q, w4, hw2]
          repeat (refine And.intro (by first | omega | (simp; omega)) ?_)
          refine ih0 (m0 - 1) _ (by omega) ?_ ?_ ⟨i + 1, 6, by omega, by simp, ?_, ?_, ?_⟩
          · simp [hU0, e0_5]
          · simp [hU0, e0_5]
          · simp [e3, e4]
          · simp [e3]
          · simp [hU0, e0_5]
        · simp [hU0, e0_5, e4, q, w4, hw2]
          repeat (refine And.intro (by first | omega | (simp; omega)) ?_)
          refine ih0 (m0 - 1) _ (by omega) ?_ ?_ ⟨i + 1, 26, by omega, by simp, ?_, ?_, ?_⟩
          · simp [hU0, e0_5]
          · simp [hU0, e0_5]
          · simp [e3, e4]
          · simp [e3]
          · simp [hU0, e0_5]
  · obtain rfl : i = 9999 := by omega
    have w1 := eq_sSetOk (setUpto f 9999) (by omega)
    rcases hr with rfl | rfl
    all_goals
      simp [hU0, e0_5, e4, q, w1]
      cases hk : setOk (setUpto f 9999) <;> simp [hU0, e0_5, e4, q]
theorem setAdd_len (s : List Range) (lo hi : Int) (hl : s.length ≤ 16777216) : (setAdd s lo hi).1.length ≤ 16777216 := by
  unfold setAdd
  split
  · split
    · rename_i h; simp [setOk] at h; simp; omega
    · exact hl
  · exact hl
theorem eq_l05Put (s : List Range) (lo hi : Int) (hl : s.length ≤ 16777216) : lim E 119 [.lst false 161 2 (s.map encRange), .int .i64 lo, .int .i64 hi, .bool true] = some (.tup [.lst true 161 2 ((setAdd s lo hi).1.map encRange), .bool (setAdd s lo hi).2], []) := by
  have w1 := eq_sSetOk s hl
  have hb : s.length * 16 ≤ 140737488351232 := by omega
  refine lim_run (E := E) rfl Tryz.func119 rfl (by kernel_rfl) (by kernel_rfl) ?_
  simp [Tryz.f119, tmpAt, w1, hb]
  repeat' first | (refine RT_dec ?_ ?_ <;> intro hg <;> try simp [tmpAt, hg, w1]) | (refine RT_split ?_ ?_ <;> intro hg <;> (try simp at hg) <;> try simp [tmpAt, hg, w1]) | (refine RB_dec ?_ ?_ <;> intro hg <;> try simp [tmpAt, hg, w1]) | (refine RB_ndec ?_ ?_ <;> intro hg <;> try simp [tmpAt, hg, w1]) | (refine RB_split ?_ ?_ <;> intro hg <;> (try simp at hg) <;> try simp [tmpAt, hg, w1]) | (refine RG_dec ?_ ?_ <;> intro hg <;> try simp [tmpAt, hg, w1]) | (refine RG_split ?_ ?_ <;> intro hg <;> (try simp at hg) <;> try simp [tmpAt, hg, w1])
  · simp [setAdd, hg]
  · rename_i h1
    have : ¬ (setOk s = true ∧ 1 ≤ lo ∧ lo ≤ hi ∧ hi ≤ 9999) := by simp [within] at hg; omega
    simp [setAdd, this]
  · have : ¬ (setOk s = true ∧ 1 ≤ lo ∧ lo ≤ hi ∧ hi ≤ 9999) := by omega
    simp [setAdd, this]
  rename_i h1 h2
  have h1' := h1
  simp [setOk] at h1'
  simp [within] at h2
  have w2 := eq_l05Bits s hl (setOkL_mem h1'.1)
  have hd : setAdd s lo hi = if setOk (setUpto (fun n => setHas s n || within n lo hi) 9999) = true then (setUpto (fun n => setHas s n || within n lo hi) 9999, true) else (s, false) := by
    unfold setAdd; rw [if_pos ⟨h1, h2.1, h2.2, by omega⟩]
  have hz : ∀ r ∈ s, within 0 r.lo r.hi = false := by
    intro r hr
    have := setOkL_mem h1'.1 r hr
    simp [within]; omega
  have h0 : (setHas s ((0 : Nat) : Int) || within ((0 : Nat) : Int) lo hi) = false := by
    have : setHas s ((0 : Nat) : Int) = false := by
      unfold setHas; rw [List.any_eq_false]; intro r hr; simpa using hz r hr
    rw [this]; simp [within]; omega
  simp [w2]
  refine loop_fr [2, 3, 10, 11] [(17,0)] (fun m st => ∃ (k : Int), lo ≤ k ∧ k + m = hi + 1 ∧ st.env 12 = .int .i64 k ∧ st.rs (33,0) = some ⟨false, .lst true 4 1 (bitsD fun n => setHas s n || (decide (lo ≤ n) && decide ((n : Int) < k)))⟩) ((hi + 1 - lo).toNat) _ ?_ ?_
  · refine ⟨lo, by omega, by omega, ?_⟩
    simp
    exact bitsD_congr fun n _ => by
      have : (decide (lo ≤ (n : Int)) && decide ((n : Int) < lo)) = false := by simp
      rw [this, Bool.or_false]
  rintro m0 ⟨env, rs⟩ hU0 hV0 ⟨k, hk1, hk2, e0_12, r0_33_0⟩ ih0; simp at hU0 hV0 e0_12 r0_33_0
  have hwk : IntKind.i64.wrap (k + 1) = k + 1 := wrap_in (by omega) (by omega)
  simp [hU0, hV0, e0_12, r0_33_0]
  refine RB_dec ?_ ?_ <;> intro h
  · have hk0 : (0 : Int) ≤ k := by omega
    have hk9 : k.toNat < 10001 := by omega
    have hk10 : k < 10001 := by omega
    simp [hU0, hV0, e0_12, r0_33_0, hk0, hk9, hk10, bitsD_set]
    refine ih0 (m0 - 1) _ (by omega) ?_ ?_ ⟨k + 1, by omega, by omega, ?_⟩
    · simp [hU0, hV0, e0_12, r0_33_0]
    · simp [hU0, hV0, e0_12, r0_33_0]
    simp [hU0, hV0, e0_12, r0_33_0, hwk]
    refine bitsD_congr fun n _ => ?_
    by_cases hn : n = k.toNat
    · subst hn
      have e1 : decide (lo ≤ ((k.toNat : Nat) : Int)) = true := by simp; omega
      have e2 : decide (((k.toNat : Nat) : Int) < k + 1) = true := by simp; omega
      rw [e1, e2]; simp
    · rw [decide_eq_false hn, Bool.false_or]
      congr 2
      simp; omega
  · obtain rfl : k = hi + 1 := by omega
    have hf : (fun n : Nat => setHas s n || (decide (lo ≤ n) && decide ((n : Int) < hi + 1))) = (fun n : Nat => setHas s n || within n lo hi) := by
      funext n; congr 1; unfold within; congr 1; simp; omega
    rw [hf] at r0_33_0
    have w3 := eq_l05Set (fun n => setHas s n || within n lo hi) h0
    simp [hU0, hV0, e0_12, r0_33_0, w3]
    cases hk : setOk (setUpto (fun n : Nat => setHas s n || within n lo hi) 9999)
    · simp [hk] at hd
      simp [hU0, hV0, e0_12, r0_33_0, hk, hd]
    · simp [hk] at hd
      simp [hU0, hV0, e0_12, r0_33_0, hk, hd]
@[simp] theorem eq_sSetAdd (s : List Range) (lo hi : Int) (hl : s.length ≤ 16777216) : lim E 63 [.lst false 161 2 (s.map encRange), .int .i64 lo, .int .i64 hi] = some (.tup [.lst true 161 2 ((setAdd s lo hi).1.map encRange), .bool (setAdd s lo hi).2], []) := by
  have w := eq_l05Put s lo hi hl
  try simp at w
  refine lim_run (E := E) rfl Tryz.func63 rfl (by kernel_rfl) (by kernel_rfl) ?_
  simp [Tryz.f63, tmpAt, w]
/-! ### The program's set of a list -/
/-- One more of numbers that ascend. -/
def setSnoc (out : List Range) (n : Int) : List Range :=
  match out.getLast? with
  | none => out ++ [⟨n, n⟩]
  | some r => if r.hi = n - 1 then out.dropLast ++ [⟨r.lo, n⟩] else out ++ [⟨n, n⟩]
def setOfL (xs : List Int) : List Range := xs.foldl setSnoc []
theorem setSnoc_len (out : List Range) (n : Int) : (setSnoc out n).length ≤ out.length + 1 := by
  unfold setSnoc
  split
  · simp
  · split
    · simp <;> omega
    · simp
theorem setOfL_snoc (xs : List Int) (n : Int) : setOfL (xs ++ [n]) = setSnoc (setOfL xs) n := by simp [setOfL]
theorem setOfL_len (xs : List Int) : (setOfL xs).length ≤ xs.length := by
  have key : ∀ (xs : List Int) (out : List Range), (xs.foldl setSnoc out).length ≤ out.length + xs.length := by
    intro xs
    induction xs with
    | nil => intro out; simp
    | cons x xs ih => intro out; have h1 := ih (setSnoc out x); have h2 := setSnoc_len out x; simp; omega
  have := key xs []
  simpa [setOfL] using this
end Go.Proofs.YtomeglmblhfafaaGreatDoor
