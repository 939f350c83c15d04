/- MirrorsTell: of the program and of the reference. -/
import Derived.Test.YtdelcdjmiekeaaacHlp
set_option linter.unusedSectionVars false
set_option linter.all false
set_option linter.unusedVariables false
set_option linter.unusedSimpArgs false
set_option maxRecDepth 100000
namespace Go.Proofs.Ytdelcdjmiekeaaa
open Go.Lft

theorem eq_EqualInt (xs ys : List Int) (h1 : xs.length ≤ 1048576) : lim E 70 [.lst false 3 1 (xs.map (.int .i64)), .lst false 3 1 (ys.map (.int .i64))] = some (.bool (decide (xs = ys)), []) := by
  refine lim_run (E := E) rfl Try.func70 rfl (by kernel_rfl) (by kernel_rfl) ?_
  simp [Try.f70, tmpAt]
  refine RB_ndec ?_ ?_ <;> intro hl
  · simp
    intro hc; subst hc; exact hl rfl
  · simp
    have hl : xs.length = ys.length := by omega
    refine loop_ind (fun m st => ∃ (i : Nat), i + m = xs.length ∧ xs.take i = ys.take i ∧ st.env 0 = .lst false 3 1 (xs.map (.int .i64)) ∧ st.env 1 = .lst false 3 1 (ys.map (.int .i64)) ∧ st.env 12 = .int .i64 xs.length ∧ st.env 13 = .int .i64 i) xs.length _ ?_ ?_
    · exact ⟨0, by simp⟩
    rintro m ⟨env, rs⟩ ⟨i, hi, hs, e0, e1, e12, e13⟩ ih
    simp at e0 e1 e12 e13
    simp [e0, e1, e12, e13]
    have hw := wrap_up (show i < 4611686018427387904 by omega)
    refine RB_dec ?_ ?_ <;> intro h
    · have h' : i < ys.length := by omega
      simp [e0, e1, e12, e13, h, h']
      refine RB_ndec ?_ ?_ <;> intro h2 <;> simp [e0, e1, e12, e13]
      · intro hc; subst hc; exact h2 rfl
      · refine ih (m - 1) _ (by omega) ⟨i + 1, ?_⟩
        simp [e0, e1, e12, e13, hw]
        exact ⟨by omega, take_eq hs h h' h2⟩
    · simp [e0, e1, e12, e13, h]
      exact take_all hs h hl

/-- What a session's mirror must bear. -/
def uidsAt (s : Session) : List Int := if s.on = true then s.view.uids else []
def mirrorsOk (w : World) (n : Nat) : Prop := ∀ i m s, i < n → w.mirrors[i]? = some m → w.sessions[i]? = some s → uidsAt s = m.map (·.uid)
noncomputable instance (w : World) (n : Nat) : Decidable (mirrorsOk w n) := Classical.propDecidable _
noncomputable def mirrorsTell (w : World) : Bool := decide (w.mirrors.length = w.sessions.length) && decide (mirrorsOk w w.mirrors.length)
theorem mirrorsOk_next {w : World} {i : Nat} (h : i < w.mirrors.length) (h' : i < w.sessions.length) (ha : mirrorsOk w i) (hx : uidsAt w.sessions[i] = w.mirrors[i].map (·.uid)) : mirrorsOk w (i + 1) := by
  intro k m s hk hm hs
  rcases Nat.lt_or_ge k i with h1 | h1
  · exact ha k m s h1 hm hs
  · obtain rfl : k = i := by omega
    rw [List.getElem?_eq_getElem h] at hm
    rw [List.getElem?_eq_getElem h'] at hs
    obtain rfl := Option.some.inj hm
    obtain rfl := Option.some.inj hs
    exact hx
theorem mirrorsOk_bad {w : World} {i : Nat} (h : i < w.mirrors.length) (h' : i < w.sessions.length) (hx : ¬ uidsAt w.sessions[i] = w.mirrors[i].map (·.uid)) : ¬ mirrorsOk w w.mirrors.length := by
  intro ha
  exact hx (ha i _ _ h (List.getElem?_eq_getElem h) (List.getElem?_eq_getElem h'))
theorem mirrorsOk_all {w : World} {i : Nat} (h : ¬ i < w.mirrors.length) (ha : mirrorsOk w i) : mirrorsOk w w.mirrors.length := fun k m s hk hm hs => ha k m s (by omega) hm hs
theorem eq_sMirrorsTell (w : World) (hw : szWorld w ≤ 1048576) : lim E 38 [encWorld false false w] = some (.bool (mirrorsTell w), []) := by
  have hz1 : w.mirrors.length ≤ 1048576 := by unfold szWorld at hw; omega
  refine lim_run (E := E) rfl Try.func38 rfl (by kernel_rfl) (by kernel_rfl) ?_
  simp [Try.f38, tmpAt]
  refine RB_ndec ?_ ?_ <;> intro hl
  · have hl' : ¬ w.mirrors.length = w.sessions.length := by omega
    simp [mirrorsTell, hl']
  have hl' : w.mirrors.length = w.sessions.length := by omega
  simp
  refine loop_ind (fun m st => ∃ (i : Nat), i + m = w.mirrors.length ∧ mirrorsOk w i ∧ st.env 1 = .ptr (1, 0) [] ∧ st.env 3 = .int .i64 i ∧ st.rs (1, 0) = some ⟨true, encWorld false false w⟩) w.mirrors.length _ ?_ ?_
  · exact ⟨0, by simp [mirrorsOk]⟩
  rintro m ⟨env, rs⟩ ⟨i, hi, ha, e1, e3, q⟩ ih
  simp at e1 e3 q
  simp [e1, e3, q]
  have hu := wrap_up (show i < 4611686018427387904 by omega)
  refine RB_dec ?_ ?_ <;> intro h
  · have h' : i < w.mirrors.length := by omega
    have hsz := tot_mem (fun (y : List Seen) => y.length) (List.getElem_mem h')
    have hm : w.mirrors[i].length ≤ 1048576 := by unfold szWorld at hw; omega
    simp [e1, e3, q, h, h']
    cases hon : w.sessions[i].on
    · simp
      refine RB_dec ?_ ?_ <;> intro h2
      · have hb := mirrorsOk_bad h' (by omega) (by simp [uidsAt, hon]; intro hc; rw [hc] at h2; simp at h2)
        simp [mirrorsTell, hb]
      · have hnil : w.mirrors[i] = [] := by
          apply List.eq_nil_of_length_eq_zero; omega
        simp [e1, e3, q, hu]
        refine ih (m - 1) _ (by omega) ⟨i + 1, by omega, mirrorsOk_next h' (by omega) ha (by simp [uidsAt, hon, hnil]), ?_⟩
        simp [e1, e3, q, upd]
    · simp
      refine RB_ndec ?_ ?_ <;> intro h2
      · have hb := mirrorsOk_bad h' (by omega) (by simp [uidsAt, hon]; intro hc; rw [hc] at h2; simp at h2)
        simp [mirrorsTell, hb]
      have h3 : w.mirrors[i].length = w.sessions[i].view.uids.length := by omega
      simp [e1, e3, q, hu]
      refine loop_ind (fun m st => ∃ (k : Nat), k + m = w.mirrors[i].length ∧ (w.mirrors[i].map (·.uid)).take k = w.sessions[i].view.uids.take k ∧ st.env 1 = .ptr (1, 0) [] ∧ st.env 3 = .int .i64 i ∧ st.env 4 = .ptr (4, 0) [] ∧ st.env 5 = .lst false 147 3 (w.mirrors[i].map encSeen) ∧ st.env 6 = .int .i64 k ∧ st.rs (1, 0) = some ⟨true, encWorld false false w⟩ ∧ st.rs (4, 0) = some ⟨true, encSession false w.sessions[i]⟩) w.mirrors[i].length _ ?_ ?_
      · exact ⟨0, by simp [e1, e3, q, hon]⟩
      rintro m2 ⟨env2, rs2⟩ ⟨k, hk, hs, f1, f3, f4, f5, f6, p1, p4⟩ ih2
      simp at f1 f3 f4 f5 f6 p1 p4
      simp [f1, f3, f4, f5, f6, p1, p4]
      have hv := wrap_up (show k < 4611686018427387904 by omega)
      refine RB_dec ?_ ?_ <;> intro h4
      · have h5 : k < w.sessions[i].view.uids.length := by omega
        simp [f1, f3, f4, f5, f6, p1, p4, h4, h5]
        refine RB_ndec ?_ ?_ <;> intro h6 <;> simp [f1, f3, f4, f5, f6, p1, p4]
        · have hb := mirrorsOk_bad h' (by omega) (by
            simp [uidsAt, hon]
            intro hc
            have := List.getElem_of_eq hc h5
            simp at this
            exact h6 this.symm)
          simp [mirrorsTell, hb]
        · refine ih2 (m2 - 1) _ (by omega) ⟨k + 1, ?_⟩
          simp [f1, f3, f4, f5, f6, p1, p4, hv]
          refine ⟨by omega, ?_⟩
          have := take_eq hs (by simpa using h4) h5 (by simpa using h6)
          simpa using this
      · simp [f1, f3, f4, f5, f6, p1, p4, h4, hu]
        have hx := take_all hs (by simpa using h4) (by simpa using h3)
        refine ih (m - 1) _ (by omega) ⟨i + 1, by omega, mirrorsOk_next h' (by omega) ha (by simp [uidsAt, hon, hx]), ?_⟩
        simp [f1, f3, p1, upd]
  · have hb := mirrorsOk_all (by omega) ha
    rw [hl'] at hb
    simp [e1, e3, q, h, mirrorsTell, hb, hl']
theorem eq_MirrorsTell (w : World) (hw : szWorld w ≤ 1048576) : lim E 40 [encWorld false false w] = some (.bool (mirrorsTell w), []) := by
  have hz1 : w.mirrors.length ≤ 1048576 := by unfold szWorld at hw; omega
  refine lim_run (E := E) rfl Try.func40 rfl (by kernel_rfl) (by kernel_rfl) ?_
  simp [Try.f40, tmpAt]
  refine RB_ndec ?_ ?_ <;> intro hl
  · have hl' : ¬ w.mirrors.length = w.sessions.length := by omega
    simp [mirrorsTell, hl']
  have hl' : w.mirrors.length = w.sessions.length := by omega
  simp
  refine loop_ind (fun m st => ∃ (i : Nat), i + m = w.mirrors.length ∧ mirrorsOk w i ∧ st.env 1 = .ptr (1, 0) [] ∧ st.env 17 = .int .i64 w.mirrors.length ∧ st.env 18 = .int .i64 i ∧ st.rs (1, 0) = some ⟨true, encWorld false false w⟩) w.mirrors.length _ ?_ ?_
  · exact ⟨0, by simp [mirrorsOk, hl']⟩
  rintro m ⟨env, rs⟩ ⟨i, hi, ha, e1, e17, e18, q⟩ ih
  simp at e1 e17 e18 q
  simp [e1, e17, e18, q]
  have hu := wrap_up (show i < 4611686018427387904 by omega)
  refine RB_dec ?_ ?_ <;> intro h
  · have h' : i < w.sessions.length := by omega
    have hsz := tot_mem (fun (y : List Seen) => y.length) (List.getElem_mem h)
    have hm : w.mirrors[i].length ≤ 1048576 := by unfold szWorld at hw; omega
    have hsz2 := tot_mem (fun (y : Session) => szSession y) (List.getElem_mem h')
    have hm2 : (uidsAt w.sessions[i]).length ≤ 1048576 := by
      unfold szWorld at hw
      have : szSession w.sessions[i] = szView w.sessions[i].view := rfl
      have : szView w.sessions[i].view = w.sessions[i].view.box.length + w.sessions[i].view.uids.length := rfl
      unfold uidsAt
      split
      · omega
      · simp
    have w1 := eq_EqualInt (uidsAt w.sessions[i]) (w.mirrors[i].map (·.uid)) (by omega)
    try simp at w1
    simp [e1, e17, e18, q, h, h']
    cases hon : w.sessions[i].on <;> simp [e1, e17, e18, q, h, h']
    all_goals
      refine loop_ind (fun m st => ∃ (k : Nat) (r : Nat), k + m = w.mirrors[i].length ∧ (r = 35 ∨ r = 50) ∧ st.env 1 = .ptr (1, 0) [] ∧ st.env 17 = .int .i64 w.mirrors.length ∧ st.env 18 = .int .i64 i ∧ st.env 40 = .lst false 147 3 (w.mirrors[i].map encSeen) ∧ st.env 41 = .int .i64 w.mirrors[i].length ∧ st.env 42 = .int .i64 k ∧ st.env 5 = .slc (r, 0) [] 0 k ∧ st.rs (r, 0) = some ⟨false, .lst true 3 1 (((w.mirrors[i].take k).map (·.uid)).map (.int .i64))⟩ ∧ st.rs (1, 0) = some ⟨true, encWorld false false w⟩ ∧ ((w.sessions[i].on = true ∧ st.env 4 = .lst false 3 1 (w.sessions[i].view.uids.map (.int .i64))) ∨ (w.sessions[i].on = false ∧ st.env 4 = .slc (21, 0) [] 0 0 ∧ st.rs (21, 0) = some ⟨false, .lst true 3 1 []⟩))) w.mirrors[i].length _ ?_ ?_
      · exact ⟨0, 35, by simp [e1, e17, e18, q, hon]⟩
      rintro m2 ⟨env2, rs2⟩ ⟨k, r, hk, hr, f1, f17, f18, f40, f41, f42, f5, p5, p1, f4⟩ ih2
      simp at f1 f17 f18 f40 f41 f42 f5 p5 p1 f4
      simp [f1, f17, f18, f40, f41, f42, f5, p5, p1]
      have hv := wrap_up (show k < 4611686018427387904 by omega)
      refine RB_dec ?_ ?_ <;> intro h4
      · have hmn : min k w.mirrors[i].length = k := by omega
        have hb8 : (k + 1) * 8 ≤ 140737488351232 := by omega
        have ht : List.take (k + 1) (List.map (D.int .i64 ∘ fun x : Seen => x.uid) w.mirrors[i]) = List.take k (List.map (D.int .i64 ∘ fun x : Seen => x.uid) w.mirrors[i]) ++ [D.int .i64 w.mirrors[i][k].uid] := by
          rw [List.take_succ_eq_append_getElem (by simpa using h4)]; simp
        rcases hr with rfl | rfl
        all_goals
          simp [f1, f17, f18, f40, f41, f42, f5, p5, p1, h4, hmn, hb8]
          refine ih2 (m2 - 1) _ (by omega) ⟨k + 1, 50, ?_⟩
          simp [f1, f17, f18, f40, f41, f42, f5, p5, p1, hv, ht]
          refine ⟨by omega, ?_⟩
          rcases f4 with ⟨g1, g2⟩ | ⟨g1, g2, g3⟩
          · simp [g1, g2, upd]
          · simp [g1, g2, g3, upd]
      · have hke : k = w.mirrors[i].length := by omega
        subst hke
        rcases hr with rfl | rfl
        all_goals
          rcases f4 with ⟨g1, g2⟩ | ⟨g1, g2, g3⟩
        all_goals
          simp [uidsAt, g1] at w1
          try simp [hon] at g1
        all_goals
          simp [f1, f17, f18, f40, f41, f42, f5, p5, p1, g2, w1]
          try simp [g3, w1]
          refine RB_ndec ?_ ?_ <;> intro h6
          · have hb := mirrorsOk_bad h h' (by intro hc; simp [uidsAt, hon] at hc; exact h6 hc)
            simp [mirrorsTell, hb]
          · simp [f1, f17, f18, f40, f41, f42, f5, p5, p1, hu]
            refine ih (m - 1) _ (by omega) ⟨i + 1, by omega, mirrorsOk_next h h' ha (by simp [uidsAt, hon]; exact h6), ?_⟩
            simp [f1, f17, f18, p1, hl']
  · have hb := mirrorsOk_all (by omega) ha
    rw [hl'] at hb
    simp [e1, e17, e18, q, h, mirrorsTell, hb, hl']
end Go.Proofs.Ytdelcdjmiekeaaa
