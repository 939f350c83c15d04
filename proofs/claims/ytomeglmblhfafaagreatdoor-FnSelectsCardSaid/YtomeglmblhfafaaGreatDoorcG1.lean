/- The mirror: the program's TakeLine; sameView, sameLines of a thing and itself. -/
import Derived.Test.YtomeglmblhfafaaGreatDoorcE2
set_option linter.unusedSectionVars false
set_option linter.all false
set_option linter.unusedVariables false
set_option linter.unusedSimpArgs false
set_option maxRecDepth 100000
namespace Go.Proofs.YtomeglmblhfafaaGreatDoor
open Go.Lft

theorem eq_sameView (a : View) (h : a.uids.length ≤ 16777216) : lim E 14 [encView false a, encView false a] = some (.bool true, []) := by
  have w := eq_sameInts a.uids a.uids h
  simp at w
  refine lim_run (E := E) rfl Tryz.func14 rfl (by kernel_rfl) (by kernel_rfl) ?_
  simp [Tryz.f14, tmpAt, w]
theorem eq_copySeens (l : List Seen) (h : l.length ≤ 16777216) : lim E 57 [.lst false 104 3 (l.map encSeen)] = some (.lst true 104 3 (l.map encSeen), []) := by
  have h1 : l.length * 24 ≤ 140737488351232 := by omega
  refine lim_run (E := E) rfl Tryz.func57 rfl (by kernel_rfl) (by kernel_rfl) ?_
  simp [Tryz.f57, tmpAt, h1]
theorem eq_DeleteSeen (xs : List Seen) (i j : Int) (h1 : 0 ≤ i) (h2 : i < j) (h3 : j ≤ xs.length) : lim E 59 [.lst true 104 3 (xs.map encSeen), .int .i64 i, .int .i64 j] = some (.lst true 104 3 ((xs.take i.toNat ++ xs.drop j.toNat).map encSeen), [.undef]) := by
  rw [lim_ext ext59]
  simp [extDelete, h1, h2, h3]
def takeLine (l : List Seen) (x : Line) : List Seen :=
  if x.kind = 1 ∧ within x.num 0 30 = true then (l ++ List.replicate (x.num.toNat - l.length) (⟨0, 0, 0⟩ : Seen)).take x.num.toNat
  else if x.kind = 2 ∧ within x.num 1 l.length = true then l.take (x.num.toNat - 1) ++ l.drop x.num.toNat
  else if x.kind = 3 ∧ within x.num 1 l.length = true then l.set (x.num.toNat - 1) ⟨x.uid, x.flags, x.mod⟩
  else if x.kind = 9 then [] else l
set_option maxHeartbeats 1000000 in
theorem eq_TakeLine (l : List Seen) (x : Line) (hl : l.length ≤ 1048576) : lim E 13 [.lst false 104 3 (l.map encSeen), encLine false false x] = some (.lst true 104 3 ((takeLine l x).map encSeen), []) := by
  have w1 := eq_copySeens l (by omega)
  obtain ⟨kind, num, uid, flags, mod, set_, all_⟩ := x
  have b1 : ∀ n : Nat, n ≤ 1048576 → (n + 1) * 24 ≤ 140737488351232 := fun n h => by omega
  by_cases k1 : kind = 1
  · subst k1
    cases hw : within num 0 30
    · refine lim_run (E := E) rfl Tryz.func13 rfl (by kernel_rfl) (by kernel_rfl) ?_
      simp [Tryz.f13, tmpAt, w1, hw]
      simp [takeLine, hw]
    · obtain ⟨n, rfl⟩ : ∃ n : Nat, num = n := ⟨num.toNat, by simp [within] at hw; omega⟩
      have hn : n ≤ 30 := by simp [within] at hw; omega
      refine lim_run (E := E) rfl Tryz.func13 rfl (by kernel_rfl) (by kernel_rfl) ?_
      simp [Tryz.f13, tmpAt, w1, hw]
      refine loop_fr [3] [(3,0)] (fun m st => ∃ (k r : Nat), k + m = n - l.length ∧ (r = 8 ∨ r = 31) ∧ st.env 5 = .slc (r,0) [] 0 (l.length + k) ∧ st.rs (r,0) = some ⟨false, .lst true 104 3 ((l ++ List.replicate k (⟨0, 0, 0⟩ : Seen)).map encSeen)⟩) ((n - l.length)) _ ?_ ?_
      · exact ⟨0, 8, by simp⟩
      rintro m0 ⟨env, rs⟩ hU0 hV0 ⟨k, r, hk, hr, e5, q5⟩ ih0; simp at hU0 hV0
      simp at e5 q5
      have b2 := b1 (l.length + k)
      simp [hU0, hV0, e5]
      refine RB_dec ?_ ?_ <;> intro h
      · have hb := b2 (by omega)
        have hrep : (l ++ List.replicate k (⟨0, 0, 0⟩ : Seen)) ++ [⟨0, 0, 0⟩] = l ++ List.replicate (k + 1) ⟨0, 0, 0⟩ := by
          rw [List.append_assoc, ← List.replicate_succ']
        rcases hr with rfl | rfl
        all_goals
          simp [hU0, hV0, e5, q5, hb]
          repeat (refine And.intro (by first | omega | (simp; omega)) ?_)
          refine ih0 (m0 - 1) _ (by omega) ?_ ?_ ⟨k + 1, 31, by omega, by simp, ?_⟩
          · simp [hU0, hV0]
          · simp [hU0, hV0]
          simp [hU0, hV0, ← hrep, Nat.add_assoc]
      · have hle : n ≤ l.length + k := by omega
        rcases hr with rfl | rfl
        all_goals
          simp [hU0, hV0, e5, q5, hle]
          obtain rfl : k = n - l.length := by omega
          simp [takeLine, hw]
  · by_cases k2 : kind = 2
    · subst k2
      cases hw : within num 1 l.length
      · refine lim_run (E := E) rfl Tryz.func13 rfl (by kernel_rfl) (by kernel_rfl) ?_
        simp [Tryz.f13, tmpAt, w1, hw]
        simp [takeLine, hw]
      · obtain ⟨n, rfl⟩ : ∃ n : Nat, num = (n : Int) + 1 := ⟨(num - 1).toNat, by simp [within] at hw; omega⟩
        have hn : n < l.length := by simp [within] at hw; omega
        have hw0 : IntKind.i64.wrap ((n : Int) + 1 - 1) = (n : Int) := by rw [wrap_in (by omega) (by omega)]; omega
        have hw1 : IntKind.i64.wrap (n : Int) = (n : Int) := wrap_in (by omega) (by omega)
        have wd := eq_DeleteSeen l (n : Int) ((n : Int) + 1) (by omega) (by omega) (by omega)
        have hn1 : ((n : Int) + 1).toNat = n + 1 := by omega
        rw [hn1] at wd
        refine lim_run (E := E) rfl Tryz.func13 rfl (by kernel_rfl) (by kernel_rfl) ?_
        simp [Tryz.f13, tmpAt, w1, hw, hw0, hw1, wd]
        simp [takeLine, hw, hn1]
    · by_cases k3 : kind = 3
      · subst k3
        cases hw : within num 1 l.length
        · refine lim_run (E := E) rfl Tryz.func13 rfl (by kernel_rfl) (by kernel_rfl) ?_
          simp [Tryz.f13, tmpAt, w1, hw]
          simp [takeLine, hw]
        · obtain ⟨n, rfl⟩ : ∃ n : Nat, num = (n : Int) + 1 := ⟨(num - 1).toNat, by simp [within] at hw; omega⟩
          have hn : n < l.length := by simp [within] at hw; omega
          have hw0 : IntKind.i64.wrap ((n : Int) + 1 - 1) = (n : Int) := by rw [wrap_in (by omega) (by omega)]; omega
          have hw1 : IntKind.i64.wrap (n : Int) = (n : Int) := wrap_in (by omega) (by omega)
          have hn1 : ((n : Int) + 1).toNat = n + 1 := by omega
          refine lim_run (E := E) rfl Tryz.func13 rfl (by kernel_rfl) (by kernel_rfl) ?_
          simp [Tryz.f13, tmpAt, w1, hw, hw0, hw1, hn]
          first | done | simp [takeLine, hw, hn1]
      · by_cases k9 : kind = 9
        · subst k9
          refine lim_run (E := E) rfl Tryz.func13 rfl (by kernel_rfl) (by kernel_rfl) ?_
          simp [Tryz.f13, tmpAt, w1]
          simp [takeLine]
        · refine lim_run (E := E) rfl Tryz.func13 rfl (by kernel_rfl) (by kernel_rfl) ?_
          simp [Tryz.f13, tmpAt, w1, k1, k2, k3, k9]
          simp [takeLine, k1, k2, k3, k9]
end Go.Proofs.YtomeglmblhfafaaGreatDoor
