/- Stores: the program's MoveMails, the same as the reference's. -/
import Derived.Test.YtdpagklgjchdgaaGreatcH6
import Derived.Test.YtdpagklgjchdgaaGreatcP4
set_option linter.unusedSectionVars false
set_option linter.all false
set_option linter.unusedVariables false
set_option linter.unusedSimpArgs false
set_option maxRecDepth 100000
namespace Go.Proofs.YtdpagklgjchdgaaGreat
open Go.Lft

theorem flags_count (b : Box) (s : List Range) (how bits since : Int) (t : List Range) : ((setFlags b s how bits since).1.mails.filter fun m => setHas t m.uid).length = (b.mails.filter fun m => setHas t m.uid).length := by
  unfold setFlags
  split
  · show ((b.mails.map (flagged b s how bits since)).filter fun m => setHas t m.uid).length = _
    rw [List.filter_map, List.length_map]
    congr 2
    funext m
    simp only [Function.comp, flagged]
    split <;> rfl
  · rfl
theorem kept_count (s : List Range) : ∀ ms : List Mail, (ms.filter fun m => setHas s m.uid).length = (goneU s ms).length + ((keptM s ms).filter fun m => setHas s m.uid).length
  | [] => rfl
  | m :: ms => by
    have ih := kept_count s ms
    unfold goneU keptM at *
    rw [List.filter_cons, List.filter_cons, List.filter_cons]
    cases hg : isGone s m
    · cases hh : setHas s m.uid
      · simp [hh]; simpa using ih
      · simp [hh]; simp at ih; omega
    · have hh : setHas s m.uid = true := by unfold isGone at hg; rw [Bool.and_eq_true] at hg; exact hg.1
      simp [hh]; simp at ih; omega
theorem any_len (s : List Range) (ms : List Mail) : ms.any (fun m => setHas s m.uid) = true ↔ ((ms.filter fun m => setHas s m.uid).length : Int) ≠ 0 := by
  rw [List.any_eq_true]
  constructor
  · rintro ⟨m, h1, h2⟩
    have := List.length_pos_of_mem ((List.mem_filter (p := fun m => setHas s m.uid)).2 ⟨h1, h2⟩)
    omega
  · intro h
    have : 0 < (ms.filter fun m => setHas s m.uid).length := by omega
    obtain ⟨m, hm⟩ := List.exists_mem_of_length_pos this
    obtain ⟨h1, h2⟩ := List.mem_filter.1 hm
    exact ⟨m, h1, h2⟩
theorem move_check {M : Box} (hok : boxOk M = true) (s : List Range) : (expunge M s).1.mails.any (fun m => setHas s m.uid) = true ↔ sizeS (sAdds (expunge M s).2) ≠ ((M.mails.filter fun m => setHas s m.uid).length : Int) := by
  rw [any_len]
  unfold expunge
  split
  · have hk := kept_count s M.mails
    obtain ⟨g1, g2, g3⟩ := uids_up hok (isGone s)
    have e1 : sAdds (goneU s M.mails) = setOfL (goneU s M.mails) := sAdds_uids hok _
    have gs : setOk (setOfL (goneU s M.mails)) = true := by
      have h1 := setOfL_ok _ g1 g2
      have h2 := setOfL_len ((M.mails.filter (isGone s)).map (·.uid))
      have h3 : goneU s M.mails = (M.mails.filter (isGone s)).map (·.uid) := rfl
      rw [h3]
      simp [setOk, h1.1]
      simp at h2 g3; omega
    have e2 : sumS (setOfL (goneU s M.mails)) = (goneU s M.mails).length := sumS_ofL _ g1 g2
    simp only [e1, sizeS, gs, if_true, e2]
    show (((keptM s M.mails).filter fun m => setHas s m.uid).length : Int) ≠ 0 ↔ _
    omega
  · have : sizeS (sAdds []) = 0 := by simp [sizeS, setOk, setOkL, sumS]
    simp only [this]
    omega
theorem move_check' {out : Store} (h : storeOk out = true) (a : S) (s : List Range) : (moveFrom out a s).1.mails.any (fun m => setHas s m.uid) = true ↔ sizeS (sAdds (moveFrom out a s).2) ≠ (((boxAt out a).1.mails.filter fun m => setHas s m.uid).length : Int) := by
  unfold moveFrom
  rcases boxAt_cases h a with ⟨_, _, _, hb⟩ | ⟨_, hb⟩
  · rw [move_check (setFlags_ok hb), flags_count]
  · rw [hb]
    have h0 : boxOk (⟨[], 0, 0, 0, [], [], 0⟩ : Box) = false := by
      cases hc : boxOk (⟨[], 0, 0, 0, [], [], 0⟩ : Box)
      · rfl
      · have := ((boxOk_iff _).1 hc).2.1
        simp at this
    have e1 : setFlags (⟨[], 0, 0, 0, [], [], 0⟩ : Box) s 2 8 (-1) = (⟨[], 0, 0, 0, [], [], 0⟩, [], []) := by
      unfold setFlags
      rw [if_neg]
      rintro ⟨h1, _⟩
      unfold setFlagsOk at h1
      rw [h0] at h1
      simp at h1
    rw [e1]
    have e2 : expunge (⟨[], 0, 0, 0, [], [], 0⟩ : Box) s = (⟨[], 0, 0, 0, [], [], 0⟩, []) := by
      unfold expunge
      rw [if_neg (fun h => by rw [h0] at h; exact Bool.noConfusion h.1)]
    rw [e2]
    simp [sizeS, setOk, setOkL, sumS]
theorem eq_ContainsFuncMail (xs : List Mail) (f : Nat) (x : D) (p : Mail → Bool) (hmd : E.md f = []) (hf : ∀ m ∈ xs, lim E f [encMail m, .pto x] = some (.bool (p m), [])) (hl : xs.length ≤ 16777216) : lim E 44 [.lst false 62 4 (xs.map encMail), .fn f [.pto x]] = some (.bool (xs.any p), []) := by
  have w := eq_IndexFuncMail xs f x p hmd hf hl
  try simp at w
  refine lim_run (E := E) rfl Tryz.func44 rfl (by kernel_rfl) (by kernel_rfl) ?_
  simp [Tryz.f44, tmpAt, w]
  rw [Bool.eq_iff_iff]
  have := idxOf_neg (p := p) (xs := xs)
  simp only [decide_eq_true_eq]
  exact this
theorem eq_MoveMails1 (m : Mail) (s : List Range) (hl : s.length ≤ 16777216) : lim E 45 [encMail m, .pto (.lst false 95 2 (s.map encRange))] = some (.bool (setHas s m.uid), []) := by
  have ws := eq_SetHas s m.uid hl
  refine lim_run (E := E) rfl Tryz.func45 rfl (by kernel_rfl) (by kernel_rfl) ?_
  simp [Tryz.f45, tmpAt, ws]
set_option maxHeartbeats 4000000 in
theorem eq_MoveMails (s : Store) (a : S) (set_ : List Range) (z : S) (hl : szStore s ≤ 1048576) (hs : set_.length ≤ 16777216) : lim E 9 [encStore false false s, .str a, .lst false 95 2 (set_.map encRange), .str z] = some (.tup [encStore false true (moveMails s a set_ z).1, .int .i64 (moveMails s a set_ z).2], []) := by
  have hz : szStore s = s.boxes.length + tot (fun (y : Box) => szBox y) s.boxes := rfl
  have wc := eq_copyStore s hl
  try simp at wc
  have wo := eq_StoreOk s (by omega)
  try simp at wo
  have wk := eq_SetOk set_ hs
  have wm := eq_CopyMails s a set_ z hl hs
  try simp at wm
  by_cases hok : storeOk s = true ∧ setOk set_ = true
  case neg =>
    have he : moveMails s a set_ z = (s, 4) := by
      unfold moveMails
      split
      · rfl
      · have : copyMails s a set_ z = (s, 4) := by unfold copyMails; rw [if_neg hok]
        rw [this]
        rfl
    rw [he]
    cases h1 : storeOk s
    · rw [h1] at wo
      refine lim_run (E := E) rfl Tryz.func9 rfl (by kernel_rfl) (by kernel_rfl) ?_
      simp [Tryz.f9, tmpAt, wc, wo, wk]
    · have h2 : setOk set_ = false := by cases hb : setOk set_; rfl; exact absurd ⟨h1, hb⟩ hok
      rw [h1] at wo
      rw [h2] at wk
      refine lim_run (E := E) rfl Tryz.func9 rfl (by kernel_rfl) (by kernel_rfl) ?_
      simp [Tryz.f9, tmpAt, wc, wo, wk]
  obtain ⟨o1, o2⟩ := hok
  rw [o1] at wo
  rw [o2] at wk
  by_cases haz : a = z
  · subst haz
    have he : moveMails s a set_ a = (s, 4) := by unfold moveMails; rw [if_pos rfl]
    rw [he]
    refine lim_run (E := E) rfl Tryz.func9 rfl (by kernel_rfl) (by kernel_rfl) ?_
    simp [Tryz.f9, tmpAt, wc, wo, wk]
  by_cases hcode : (copyMails s a set_ z).2 = 0
  case neg =>
    have he : moveMails s a set_ z = (s, (copyMails s a set_ z).2) := by unfold moveMails; rw [if_neg haz, if_pos hcode]
    rw [he]
    refine lim_run (E := E) rfl Tryz.func9 rfl (by kernel_rfl) (by kernel_rfl) ?_
    simp [Tryz.f9, tmpAt, wc, wo, wk, wm, haz, hcode]
  obtain ⟨_, _, o3, o4, b, hb, hp, p1, p2, p3⟩ := copyMails_ok hcode
  have hch := move_check' p1 a set_
  have he : moveMails s a set_ z = if sizeS (sAdds (moveFrom (copyMails s a set_ z).1 a set_).2) ≠ (((boxAt (copyMails s a set_ z).1 a).1.mails.filter fun m => setHas set_ m.uid).length : Int) then (s, 3) else (putBox (copyMails s a set_ z).1 (moveFrom (copyMails s a set_ z).1 a set_).1, 0) := by
    unfold moveMails; rw [if_neg haz, if_neg (fun h => h hcode)]
  rw [hcode] at wm
  rw [hp] at wm he
  unfold moveFrom at he hch
  generalize putBox s b = O at *
  have hO := storeOk_sz p1
  have wa := eq_BoxAt O a (by omega)
  try simp at wa
  obtain ⟨q1, q2⟩ := boxAt_small p1 a
  generalize (boxAt O a).1 = A at *
  generalize (boxAt O a).2 = fl at *
  have wf := eq_SetFlags A set_ 2 8 (-1) (by omega) hs
  try simp at wf
  have q3 := sz_setFlags' A set_ 2 8 (-1)
  generalize (setFlags A set_ 2 8 (-1)).1 = M at *
  have wx := eq_Expunge M set_ (by omega) hs
  try simp at wx
  have q4 := sz_expunge' M set_
  have wp := eq_PutBox O (expunge M set_).1 (by omega) (by omega)
  try simp at wp
  have hxz : szBox (expunge M set_).1 = (expunge M set_).1.name.length + ((expunge M set_).1.mails.length + tot (fun (y : Mail) => szMail y) (expunge M set_).1.mails) + (expunge M set_).1.tombs.length := rfl
  generalize (expunge M set_).2 = g at *
  generalize (expunge M set_).1 = X at *
  have wn := eq_ContainsFuncMail X.mails 45 (.lst false 95 2 (set_.map encRange)) (fun m => setHas set_ m.uid) rfl (fun m _ => eq_MoveMails1 m set_ hs) (by omega)
  try simp at wn
  cases hany : X.mails.any fun m => setHas set_ m.uid
  · rw [hany] at wn hch
    rw [he, if_neg (fun h => by have := hch.2 h; cases this)]
    refine lim_run (E := E) rfl Tryz.func9 rfl (by kernel_rfl) (by kernel_rfl) ?_
    simp [Tryz.f9, tmpAt, wc, wo, wk, wm, haz, wa, wf, wx, wn, wp]
  · rw [hany] at wn hch
    rw [he, if_pos (hch.1 rfl)]
    refine lim_run (E := E) rfl Tryz.func9 rfl (by kernel_rfl) (by kernel_rfl) ?_
    simp [Tryz.f9, tmpAt, wc, wo, wk, wm, haz, wa, wf, wx, wn, wp]
end Go.Proofs.YtdpagklgjchdgaaGreat
