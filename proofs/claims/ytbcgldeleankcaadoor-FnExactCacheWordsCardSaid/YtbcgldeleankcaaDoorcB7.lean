/- Commands: the reference's ReadCommand. -/
import Derived.Test.YtbcgldeleankcaaDoorcB6
set_option linter.unusedSectionVars false
set_option linter.all false
set_option linter.unusedVariables false
set_option linter.unusedSimpArgs false
set_option maxRecDepth 100000
namespace Go.Proofs.YtbcgldeleankcaaDoor
open Go.Lft

theorem st_le (t : S) : ∀ (f i : Nat) (out : S), i ≤ t.length + 1 → -1 ≤ (st t f i out).2 ∧ (st t f i out).2 ≤ t.length ∧ (0 < (st t f i out).2 → (i : Int) < (st t f i out).2) := by
  intro f
  induction f with
  | zero => intro i out h; simp [st]
  | succ f ih =>
    intro i out h
    simp only [st]
    split
    · simp
    · rename_i b hb
      have h1 := (List.getElem?_eq_some_iff.1 hb).1
      split
      · simp; omega
      split
      · simp
      split
      · split
        · simp
        · rename_i c hc
          have h2 := (List.getElem?_eq_some_iff.1 hc).1
          split
          · have := ih (i + 2) (out ++ [c]) (by omega)
            omega
          · simp
      · have := ih (i + 1) (out ++ [b]) (by omega)
        omega
theorem snext_le (t : S) (a : Nat) (ha : a ≤ t.length) : -1 ≤ (snextM t a).2 ∧ (snextM t a).2 ≤ t.length ∧ (0 < (snextM t a).2 → (a : Int) < (snextM t a).2) := by
  unfold snextM
  split
  · simp
  split
  · have h1 := slit_le t a (by omega)
    have h2 : 0 < (slit t a).2 → (a : Int) < (slit t a).2 := by
      unfold slit slitEnd
      have h3 := litL_le t 3 (a + 1) 0 (by omega)
      split
      · simp
      split
      · simp; omega
      · split <;> simp
    unfold snextLit
    split
    · simp; omega
    split
    · simp
    split
    · simp
    · simp; omega
  split
  · have := st_le t t.length (a + 1) [] (by omega)
    omega
  split
  · have := sl_le (t.drop (a + 1)) (a + 1) 0 true
    simp at this
    unfold snextList
    split <;> simp <;> omega
  · have := tw_le (t.drop a)
    simp at this
    unfold snextPlain
    split <;> simp <;> omega
def sread (t : S) : Nat → List S → Nat → List S × Int
  | 0, ws, _ => (ws, -1)
  | f + 1, ws, a =>
    if (snextM t a).2 ≤ 0 then (ws, (snextM t a).2)
    else if (snextM t a).2 = t.length then (ws ++ [(snextM t a).1], 0)
    else if isB t (snextM t a).2.toNat 13 = true then
      (if (snextM t a).2 + 1 = t.length then (ws ++ [(snextM t a).1], 0)
      else if isB t ((snextM t a).2.toNat + 1) 10 = true then (ws ++ [(snextM t a).1], (snextM t a).2 + 2) else (ws ++ [(snextM t a).1], -1))
    else if isB t (snextM t a).2.toNat 32 = false ∨ (ws ++ [(snextM t a).1]).length = 12 then (ws ++ [(snextM t a).1], -1)
    else sread t f (ws ++ [(snextM t a).1]) ((snextM t a).2.toNat + 1)
set_option maxHeartbeats 4000000 in
theorem eq_l15Read (t : S) (ht : t.length ≤ 1048576) : lim E 34 [.str t] = some (.tup [.lst true 9 1 ((sread t 12 [] 0).1.map .str), .int .i64 (sread t 12 [] 0).2], []) := by
  refine lim_run (E := E) rfl Tryd.func34 rfl (by kernel_rfl) (by kernel_rfl) ?_
  simp [Tryd.f34, tmpAt]
  generalize hR : sread t 12 [] 0 = R
  refine loop_ind (fun m s => ∃ (ws : List S) (p : Nat) (r : Nat), p ≤ t.length ∧ ws.length + m = 12 ∧ ws.length < 12 ∧ sread t m ws p = R ∧ (r = 8 ∨ r = 22) ∧ s.env 0 = .str t ∧ s.env 4 = .slc (r, 0) [] 0 ws.length ∧ s.env 5 = .int .i64 p ∧ s.rs (r, 0) = some ⟨false, .lst true 9 1 (ws.map .str)⟩) 12 _ ?_ ?_
  · exact ⟨[], 0, 8, by simp [hR]⟩
  rintro m ⟨env, rs⟩ ⟨ws, p, r, hpt, hwm, hw12, hm, hr, e0, e4, e5, r0⟩ ih
  simp at e0 e4 e5 r0
  obtain ⟨m, rfl⟩ : ∃ m', m = m' + 1 := ⟨m - 1, by omega⟩
  simp only [sread] at hm
  have w := eq_l15Next t p hpt ht
  have l := snext_le t p hpt
  generalize snextM t p = sn at *
  obtain ⟨wd, nx⟩ := sn
  try simp at w
  simp only at hm l
  have htk : List.take (ws.length + 1) (ws.map D.str ++ [D.str wd]) = ws.map D.str ++ [D.str wd] := List.take_of_length_le (by simp)
  have hroom : (ws.length + 1) * 16 ≤ 140737488351232 := by omega
  by_cases h1 : nx ≤ 0
  · rw [if_pos h1] at hm
    rcases hr with rfl | rfl <;> simp [e0, e4, e5, r0, w, h1, tmpAt, ← hm]
  rw [if_neg h1] at hm
  obtain ⟨n, rfl⟩ : ∃ n : Nat, nx = n := ⟨nx.toNat, by omega⟩
  have hn0 : ¬ n = 0 := by omega
  have hnl : n ≤ t.length := by omega
  by_cases h2 : t.length = n
  · rw [if_pos (by omega)] at hm
    rcases hr with rfl | rfl <;> simp [e0, e4, e5, r0, w, hn0, h2, tmpAt, ← hm, hroom, htk]
  rw [if_neg (by omega)] at hm
  have hn : n < t.length := by omega
  have n0 : (0 : Int) ≤ n := by omega
  have i1 : ∀ c, isB t n c = decide (t[n] = c) := by intro c; rw [Bool.eq_iff_iff]; simp [isB, List.getElem?_eq_getElem hn]
  have b13 := byteEq t[n] 13 (by omega)
  have b32 := byteEq t[n] 32 (by omega)
  simp at b13 b32
  simp only [Int.toNat_natCast, i1] at hm
  have h2' : ¬ (n : Int) = t.length := by omega
  have wn : IntKind.i64.wrap ((n : Int) + 1) = n + 1 := wrap_in (by omega) (by omega)
  have wn2 : IntKind.i64.wrap ((n : Int) + 2) = n + 2 := wrap_in (by omega) (by omega)
  by_cases h3 : t[n] = 13
  · have h3' := b13.1 h3
    simp [h3] at hm
    by_cases h4 : (n : Int) + 1 = t.length
    · rw [if_pos h4] at hm
      rcases hr with rfl | rfl <;> simp [e0, e4, e5, r0, w, hn0, h2', h3', h4, tmpAt, ← hm, hroom, htk, hn, wn, show IntKind.i64.wrap (t.length : Int) = t.length from wrap_in (by omega) (by omega)]
    · rw [if_neg h4] at hm
      have hn1 : n + 1 < t.length := by omega
      have n1 : (0 : Int) ≤ n + 1 := by omega
      have n2 : ((n : Int) + 1).toNat = n + 1 := by omega
      have i2 : ∀ c, isB t (n + 1) c = decide (t[n + 1] = c) := by intro c; rw [Bool.eq_iff_iff]; simp [isB, List.getElem?_eq_getElem hn1]
      have b10 := byteEq t[n + 1] 10 (by omega)
      simp at b10
      simp only [i2] at hm
      by_cases h5 : t[n + 1] = 10
      · have h5' := b10.1 h5
        simp [h5] at hm
        rcases hr with rfl | rfl <;> simp [e0, e4, e5, r0, w, hn0, h2', h3', h4, h5', tmpAt, ← hm, hroom, htk, hn, hn1, n1, n2, wn, wn2]
      · have h5' : ¬ (t[n + 1].toNat : Int) = 10 := fun h => h5 (b10.2 h)
        simp [h5] at hm
        rcases hr with rfl | rfl <;> simp [e0, e4, e5, r0, w, hn0, h2', h3', h4, h5', tmpAt, ← hm, hroom, htk, hn, hn1, n1, n2, wn, wn2]
  · have h3' : ¬ (t[n].toNat : Int) = 13 := fun h => h3 (b13.2 h)
    by_cases h6 : t[n] = 32
    · have h6' := b32.1 h6
      simp [h6] at hm
      by_cases h7 : ws.length = 11
      · have h7' : (ws.length : Int) + 1 = 12 := by omega
        simp [h7] at hm
        rcases hr with rfl | rfl <;> simp [e0, e4, e5, r0, w, hn0, h2', h3', h6', h7', tmpAt, ← hm, hroom, htk, hn, wn]
      · have h7' : ¬ (ws.length : Int) + 1 = 12 := by omega
        simp [h7] at hm
        rcases hr with rfl | rfl <;> simp [e0, e4, e5, r0, w, hn0, h2', h3', h6', h7', tmpAt, hroom, hn, wn]
        all_goals
          refine ih m _ (by omega) ⟨ws ++ [wd], n + 1, 22, by omega, by simp; omega, by simp; omega, hm, Or.inr rfl, ?_⟩
          simp [e0, e4, e5, r0]
    · have h6' : ¬ (t[n].toNat : Int) = 32 := fun h => h6 (b32.2 h)
      simp [h3, h6] at hm
      rcases hr with rfl | rfl <;> simp [e0, e4, e5, r0, w, hn0, h2', h3', h6', tmpAt, ← hm, hroom, htk, hn, wn]
def sfin (t : S) (r : List S × Int) : List S × Int × Int := if 0 < r.2 ∧ r.2 ≤ 300 then (r.1, r.2, 0) else if r.2 = 0 ∧ t.length < 300 then ([], 0, 1) else ([], 0, 2)
theorem eq_sReadCommand (t : S) (ht : t.length ≤ 1048576) : lim E 9 [.str t] = some (.tup [.lst true 9 1 ((sfin t (sread t 12 [] 0)).1.map .str), .int .i64 (sfin t (sread t 12 [] 0)).2.1, .int .i64 (sfin t (sread t 12 [] 0)).2.2], []) := by
  have w := eq_l15Read t ht
  generalize sread t 12 [] 0 = r at *
  obtain ⟨ws, n⟩ := r
  simp at w
  have l : (t.length : Int) < 300 ↔ t.length < 300 := by omega
  unfold sfin
  refine lim_run (E := E) rfl Tryd.func9 rfl (by kernel_rfl) (by kernel_rfl) ?_
  simp [Tryd.f9, tmpAt, w]
  by_cases h1 : 0 < n
  · by_cases h2 : n ≤ 300
    · simp [h1, h2, tmpAt]
    · have h3 : ¬ n = 0 := by omega
      simp [h1, h2, h3, tmpAt]
  · by_cases h3 : n = 0
    · by_cases h4 : t.length < 300
      · simp [h1, h3, h4, l, tmpAt]
      · simp [h1, h3, h4, l, tmpAt]
    · simp [h1, h3, tmpAt]
end Go.Proofs.YtbcgldeleankcaaDoor
