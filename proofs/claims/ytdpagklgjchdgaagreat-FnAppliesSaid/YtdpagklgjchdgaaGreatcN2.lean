/- Edits: Apply of both, exactly. -/
import Derived.Test.YtdpagklgjchdgaaGreatcH8
import Derived.Test.YtdpagklgjchdgaaGreatcH9
import Derived.Test.YtdpagklgjchdgaaGreatcN4
set_option linter.unusedSectionVars false
set_option linter.all false
set_option linter.unusedVariables false
set_option linter.unusedSimpArgs false
set_option maxRecDepth 100000
namespace Go.Proofs.YtdpagklgjchdgaaGreat
open Go.Lft

noncomputable def boxEdit (b : Box) (e : Edit) : Box × Int :=
  if e.kind = 3 then ((addMail b e.bits e.text).1, if (addMail b e.bits e.text).2 = 0 then 3 else 0)
  else if e.kind = 4 then ((setFlags b e.set_ e.how e.bits e.since).1, 0)
  else if e.kind = 5 then ((expunge b e.set_).1, 0)
  else (forget b e.since, 0)
noncomputable def apply (s : Store) (e : Edit) : Store × Int :=
  if storeOk s = true ∧ editOk e = true then
    if e.kind = 1 then makeBox s e.box
    else if (boxAt s e.box).2 = false then (s, 1)
    else if e.kind = 2 then dropBox s e.box
    else if e.kind = 6 then copyMails s e.box e.set_ e.to
    else if e.kind = 7 then moveMails s e.box e.set_ e.to
    else if (boxEdit (boxAt s e.box).1 e).2 = 0 then (putBox s (boxEdit (boxAt s e.box).1 e).1, 0) else (s, (boxEdit (boxAt s e.box).1 e).2)
  else (s, 4)
theorem boxEdit_ok {b : Box} (e : Edit) (h : boxOk b = true) : boxOk (boxEdit b e).1 = true ∧ (boxEdit b e).1.name = b.name ∧ (boxEdit b e).1.valid = b.valid := by
  unfold boxEdit
  split
  · exact ⟨addMail_ok h, same_add ..⟩
  split
  · exact ⟨setFlags_ok h, same_flags ..⟩
  split
  · exact ⟨expunge_ok h, same_exp ..⟩
  exact ⟨forget_ok h, same_forget ..⟩
theorem editOk_kind {e : Edit} (h : editOk e = true) : 1 ≤ e.kind ∧ e.kind ≤ 8 := by
  unfold editOk at h
  have := (Bool.and_eq_true_iff.1 h).1
  simpa [within] using this
theorem copy_ok {s : Store} {a z : S} {l : List Range} (h : storeOk s = true) : storeOk (copyMails s a l z).1 = true := by
  by_cases h0 : (copyMails s a l z).2 = 0
  · obtain ⟨_, _, _, o4, b, hb, hp, p1, p2, p3⟩ := copyMails_ok h0
    rw [hp]; exact p1
  · have : (copyMails s a l z).1 = s := by
      unfold copyMails at h0 ⊢
      split
      · rename_i h1
        rw [if_pos h1] at h0
        split
        · rename_i h2
          rw [if_pos h2] at h0
          split
          · rename_i h3; rw [h3] at h0; simp at h0
          · rfl
        · rfl
      · rfl
    rw [this]; exact h
theorem move_ok {s : Store} {a z : S} {l : List Range} (h : storeOk s = true) : storeOk (moveMails s a l z).1 = true := by
  unfold moveMails
  split
  · exact h
  · split
    · exact h
    · split
      · exact h
      · rename_i h1 h2 h3
        have h2' : (copyMails s a l z).2 = 0 := by simpa using h2
        obtain ⟨_, _, o3, _, b, hb, hp, p1, p2, p3⟩ := copyMails_ok h2'
        have hg := copy_ok (a := a) (z := z) (l := l) h
        rcases boxAt_cases hg a with ⟨q1, q2, q3, q4⟩ | ⟨q1, q2⟩
        · have e1 := same_flags (boxAt (copyMails s a l z).1 a).1 l 2 8 (-1)
          have e2 := same_exp (setFlags (boxAt (copyMails s a l z).1 a).1 l 2 8 (-1)).1 l
          exact (putBox_ok hg (expunge_ok (setFlags_ok q4)) q2 (by rw [e2.1, e1.1]) (by rw [e2.2, e1.2])).1
        · exfalso
          obtain ⟨m1, m2⟩ := boxAt_mem o3
          have hm : a ∈ (copyMails s a l z).1.boxes.map (·.name) := by
            rw [hp, p2]; exact List.mem_map.2 ⟨_, m1, m2⟩
          obtain ⟨x, hx, hxn⟩ := List.mem_map.1 hm
          unfold boxAt at q1
          split at q1
          · cases q1
          · rename_i hnone
            rw [List.find?_eq_none] at hnone
            exact hnone x hx (by simp [isNamed, hxn])
theorem apply_ok {s : Store} (e : Edit) (h : storeOk s = true) : storeOk (apply s e).1 = true := by
  unfold apply
  split
  · split
    · exact make_ok h
    split
    · exact h
    rename_i hb
    split
    · exact drop_ok h
    split
    · exact copy_ok h
    split
    · exact move_ok h
    split
    · rcases boxAt_cases h e.box with ⟨q1, q2, q3, q4⟩ | ⟨q1, q2⟩
      · obtain ⟨o1, o2, o3⟩ := boxEdit_ok e q4
        exact (putBox_ok h o1 q2 o2.symm o3.symm).1
      · rw [q1] at hb; exact absurd rfl hb
    · exact h
  · exact h
theorem apply_sz (s : Store) (e : Edit) : szStore (apply s e).1 ≤ szStore s + 100000 := by
  by_cases h : storeOk s = true
  · have := storeOk_sz (apply_ok e h); omega
  · unfold apply; rw [if_neg (fun hc => h hc.1)]; simp only; omega
theorem make_same (s : Store) (n : S) : (makeBox s n).2 = 0 ∨ (makeBox s n).1 = s := by
  unfold makeBox
  repeat' split
  all_goals first | exact .inr rfl | exact .inl rfl
theorem drop_same (s : Store) (n : S) : (dropBox s n).2 = 0 ∨ (dropBox s n).1 = s := by
  unfold dropBox
  repeat' split
  all_goals first | exact .inr rfl | exact .inl rfl
theorem copy_same (s : Store) (a : S) (l : List Range) (z : S) : (copyMails s a l z).2 = 0 ∨ (copyMails s a l z).1 = s := by
  unfold copyMails
  repeat' split
  all_goals first | exact .inr rfl | exact .inl rfl
theorem move_same (s : Store) (a : S) (l : List Range) (z : S) : (moveMails s a l z).2 = 0 ∨ (moveMails s a l z).1 = s := by
  unfold moveMails
  repeat' split
  all_goals first | exact .inr rfl | exact .inl rfl
theorem apply_same (s : Store) (e : Edit) : (apply s e).2 = 0 ∨ (apply s e).1 = s := by
  unfold apply
  split
  · split
    · exact make_same ..
    split
    · exact .inr rfl
    split
    · exact drop_same ..
    split
    · exact copy_same ..
    split
    · exact move_same ..
    split
    · exact .inl rfl
    · exact .inr rfl
  · exact .inr rfl
theorem boxEdit_sz (b : Box) (e : Edit) (h : boxOk b = true) : szBox (boxEdit b e).1 ≤ 100000 := by
  have := boxOk_sz (boxEdit_ok e h).1
  omega
set_option maxHeartbeats 4000000 in
theorem eq_applyIn {b : Box} (e : Edit) (hb : boxOk b = true) (he : szEdit e ≤ 1048576) : lim E 67 [encBox false false b, encEdit false false e] = some (.tup [encBox false true (boxEdit b e).1, .int .i64 (boxEdit b e).2], []) := by
  have hz : szEdit e = e.box.length + e.to.length + e.set_.length + e.text.length := rfl
  have hbs := boxOk_sz hb
  have w1 := eq_AddMail b e.bits e.text (by omega)
  try simp at w1
  have w2 := eq_SetFlags b e.set_ e.how e.bits e.since (by omega) (by omega)
  try simp at w2
  have w3 := eq_Expunge b e.set_ (by omega) (by omega)
  try simp at w3
  have w4 := eq_ForgetTombs b e.since (by omega)
  try simp at w4
  by_cases k3 : e.kind = 3
  · by_cases hu : (addMail b e.bits e.text).2 = 0
    · refine lim_run (E := E) rfl Tryz.func67 rfl (by kernel_rfl) (by kernel_rfl) ?_
      simp [Tryz.f67, tmpAt, k3, w1, hu]
      simp [boxEdit, k3, hu]
    · refine lim_run (E := E) rfl Tryz.func67 rfl (by kernel_rfl) (by kernel_rfl) ?_
      simp [Tryz.f67, tmpAt, k3, w1, hu]
      simp [boxEdit, k3, hu]
  by_cases k4 : e.kind = 4
  · refine lim_run (E := E) rfl Tryz.func67 rfl (by kernel_rfl) (by kernel_rfl) ?_
    simp [Tryz.f67, tmpAt, k4, w2]
    simp [boxEdit, k4]
  by_cases k5 : e.kind = 5
  · refine lim_run (E := E) rfl Tryz.func67 rfl (by kernel_rfl) (by kernel_rfl) ?_
    simp [Tryz.f67, tmpAt, k5, w3]
    simp [boxEdit, k5]
  refine lim_run (E := E) rfl Tryz.func67 rfl (by kernel_rfl) (by kernel_rfl) ?_
  simp [Tryz.f67, tmpAt, k3, k4, k5, w4]
  simp [boxEdit, k3, k4, k5]
set_option maxHeartbeats 4000000 in
theorem eq_Apply (s : Store) (e : Edit) (hs : szStore s ≤ 1000000) (he : szEdit e ≤ 1000000) : lim E 24 [encStore false false s, encEdit false false e] = some (.tup [encStore false true (apply s e).1, .int .i64 (apply s e).2], []) := by
  have hz : szEdit e = e.box.length + e.to.length + e.set_.length + e.text.length := rfl
  have wc := eq_copyStore s (by omega)
  try simp at wc
  have wo := eq_StoreOk s (by omega)
  try simp at wo
  have wu := eq_pEditOk e (by omega)
  try simp at wu
  have wa := eq_BoxAt s e.box (by omega)
  try simp at wa
  cases ho : storeOk s
  · rw [ho] at wo
    refine lim_run (E := E) rfl Tryz.func24 rfl (by kernel_rfl) (by kernel_rfl) ?_
    simp [Tryz.f24, tmpAt, wc, wo]
    simp [apply, ho]
  rw [ho] at wo
  cases hu : editOk e
  · rw [hu] at wu
    refine lim_run (E := E) rfl Tryz.func24 rfl (by kernel_rfl) (by kernel_rfl) ?_
    simp [Tryz.f24, tmpAt, wc, wo, wu]
    simp [apply, ho, hu]
  rw [hu] at wu
  have hk := editOk_kind hu
  by_cases k1 : e.kind = 1
  · have wm := eq_MakeBox s e.box (by omega) (by omega)
    try simp at wm
    have ha : apply s e = makeBox s e.box := by simp [apply, ho, hu, k1]
    rw [k1] at wu
    refine lim_run (E := E) rfl Tryz.func24 rfl (by kernel_rfl) (by kernel_rfl) ?_
    simp [Tryz.f24, tmpAt, k1, wc, wo, wu, wa, wm]
    simp [ha]
  rcases boxAt_cases ho e.box with ⟨q1, q2, q3, q4⟩ | ⟨q1, q2⟩
  case inr =>
    rw [q1] at wa
    refine lim_run (E := E) rfl Tryz.func24 rfl (by kernel_rfl) (by kernel_rfl) ?_
    simp [Tryz.f24, tmpAt, k1, wc, wo, wu, wa]
    simp [apply, ho, hu, k1, q1]
  rw [q1] at wa
  by_cases k2 : e.kind = 2
  · have wm := eq_DropBox s e.box (by omega)
    try simp at wm
    have ha : apply s e = dropBox s e.box := by simp [apply, ho, hu, k2, q1]
    rw [k2] at wu
    refine lim_run (E := E) rfl Tryz.func24 rfl (by kernel_rfl) (by kernel_rfl) ?_
    simp [Tryz.f24, tmpAt, k2, wc, wo, wu, wa, wm]
    simp [ha]
  by_cases k6 : e.kind = 6
  · have wm := eq_CopyMails s e.box e.set_ e.to (by omega) (by omega)
    try simp at wm
    have ha : apply s e = copyMails s e.box e.set_ e.to := by simp [apply, ho, hu, k6, q1]
    rw [k6] at wu
    refine lim_run (E := E) rfl Tryz.func24 rfl (by kernel_rfl) (by kernel_rfl) ?_
    simp [Tryz.f24, tmpAt, k6, wc, wo, wu, wa, wm]
    simp [ha]
  by_cases k7 : e.kind = 7
  · have wm := eq_MoveMails s e.box e.set_ e.to (by omega) (by omega)
    try simp at wm
    have ha : apply s e = moveMails s e.box e.set_ e.to := by simp [apply, ho, hu, k7, q1]
    rw [k7] at wu
    refine lim_run (E := E) rfl Tryz.func24 rfl (by kernel_rfl) (by kernel_rfl) ?_
    simp [Tryz.f24, tmpAt, k7, wc, wo, wu, wa, wm]
    simp [ha]
  have wi := eq_applyIn e q4 (by omega)
  try simp at wi
  have hsz := boxEdit_sz (boxAt s e.box).1 e q4
  have wp := eq_PutBox s (boxEdit (boxAt s e.box).1 e).1 (by omega) (by omega)
  try simp at wp
  by_cases hc : (boxEdit (boxAt s e.box).1 e).2 = 0
  · have ha : apply s e = (putBox s (boxEdit (boxAt s e.box).1 e).1, 0) := by simp [apply, ho, hu, k1, k2, k6, k7, q1, hc]
    refine lim_run (E := E) rfl Tryz.func24 rfl (by kernel_rfl) (by kernel_rfl) ?_
    simp [Tryz.f24, tmpAt, k1, k2, k6, k7, wc, wo, wu, wa, wi, wp, hc]
    simp [ha]
  · have ha : apply s e = (s, (boxEdit (boxAt s e.box).1 e).2) := by simp [apply, ho, hu, k1, k2, k6, k7, q1, hc]
    refine lim_run (E := E) rfl Tryz.func24 rfl (by kernel_rfl) (by kernel_rfl) ?_
    simp [Tryz.f24, tmpAt, k1, k2, k6, k7, wc, wo, wu, wa, wi, wp, hc]
    simp [ha]
set_option maxHeartbeats 4000000 in
theorem eq_l10Box (s : Store) {b : Box} (e : Edit) (hb : boxOk b = true) (hs : szStore s ≤ 1000000) (he : szEdit e ≤ 1048576) (hk : e.kind = 3 ∨ e.kind = 4 ∨ e.kind = 5 ∨ e.kind = 8) : lim E 69 [encStore false false s, encBox false false b, encEdit false false e] = some (.tup [encStore false true (if (boxEdit b e).2 = 0 then putBox s (boxEdit b e).1 else s), .int .i64 (boxEdit b e).2], []) := by
  have hz : szEdit e = e.box.length + e.to.length + e.set_.length + e.text.length := rfl
  have hbs := boxOk_sz hb
  have wc := eq_l09Copy s (by omega)
  try simp at wc
  have w1 := eq_sAddMail b e.bits e.text (by omega)
  try simp at w1
  have w2 := eq_sSetFlags b e.set_ e.how e.bits e.since (by omega) (by omega)
  try simp at w2
  have w3 := eq_sExpunge b e.set_ (by omega) (by omega)
  try simp at w3
  have w4 := eq_sForgetTombs b e.since (by omega)
  try simp at w4
  have p1 := eq_sPutBox s (addMail b e.bits e.text).1 (by omega) (by have := boxOk_sz (addMail_ok (f := e.bits) (t := e.text) hb); omega)
  try simp at p1
  have p2 := eq_sPutBox s (setFlags b e.set_ e.how e.bits e.since).1 (by omega) (by have := sz_setFlags' b e.set_ e.how e.bits e.since; omega)
  try simp at p2
  have p3 := eq_sPutBox s (expunge b e.set_).1 (by omega) (by have := sz_expunge' b e.set_; omega)
  try simp at p3
  have p4 := eq_sPutBox s (forget b e.since) (by omega) (by have := boxOk_sz (forget_ok (u := e.since) hb); omega)
  try simp at p4
  rcases hk with k3 | k4 | k5 | k8
  · by_cases hu : (addMail b e.bits e.text).2 = 0
    · refine lim_run (E := E) rfl Tryz.func69 rfl (by kernel_rfl) (by kernel_rfl) ?_
      simp [Tryz.f69, tmpAt, k3, wc, w1, hu]
      simp [boxEdit, k3, hu]
    · refine lim_run (E := E) rfl Tryz.func69 rfl (by kernel_rfl) (by kernel_rfl) ?_
      simp [Tryz.f69, tmpAt, k3, wc, w1, hu, p1]
      simp [boxEdit, k3, hu]
  · refine lim_run (E := E) rfl Tryz.func69 rfl (by kernel_rfl) (by kernel_rfl) ?_
    simp [Tryz.f69, tmpAt, k4, wc, w2, p2]
    simp [boxEdit, k4]
  · refine lim_run (E := E) rfl Tryz.func69 rfl (by kernel_rfl) (by kernel_rfl) ?_
    simp [Tryz.f69, tmpAt, k5, wc, w3, p3]
    simp [boxEdit, k5]
  · refine lim_run (E := E) rfl Tryz.func69 rfl (by kernel_rfl) (by kernel_rfl) ?_
    simp [Tryz.f69, tmpAt, k8, wc, w4, p4]
    simp [boxEdit, k8]
set_option maxHeartbeats 4000000 in
theorem eq_sApply (s : Store) (e : Edit) (hs : szStore s ≤ 1000000) (he : szEdit e ≤ 1000000) : lim E 25 [encStore false false s, encEdit false false e] = some (.tup [encStore false true (apply s e).1, .int .i64 (apply s e).2], []) := by
  have hz : szEdit e = e.box.length + e.to.length + e.set_.length + e.text.length := rfl
  have wc := eq_l09Copy s (by omega)
  try simp at wc
  have wo := eq_sStoreOk s (by omega)
  try simp at wo
  have wu := eq_sEditOk e (by omega)
  try simp at wu
  have wa := eq_sBoxAt s e.box (by omega)
  try simp at wa
  cases ho : storeOk s
  · rw [ho] at wo
    refine lim_run (E := E) rfl Tryz.func25 rfl (by kernel_rfl) (by kernel_rfl) ?_
    simp [Tryz.f25, tmpAt, wc, wo]
    simp [apply, ho]
  rw [ho] at wo
  cases hu : editOk e
  · rw [hu] at wu
    refine lim_run (E := E) rfl Tryz.func25 rfl (by kernel_rfl) (by kernel_rfl) ?_
    simp [Tryz.f25, tmpAt, wc, wo, wu]
    simp [apply, ho, hu]
  rw [hu] at wu
  have hk := editOk_kind hu
  by_cases k1 : e.kind = 1
  · have wm := eq_sMakeBox s e.box (by omega) (by omega)
    try simp at wm
    have ha : apply s e = makeBox s e.box := by simp [apply, ho, hu, k1]
    rw [k1] at wu
    refine lim_run (E := E) rfl Tryz.func25 rfl (by kernel_rfl) (by kernel_rfl) ?_
    simp [Tryz.f25, tmpAt, k1, wc, wo, wu, wm]
    simp [ha]
  rcases boxAt_cases ho e.box with ⟨q1, q2, q3, q4⟩ | ⟨q1, q2⟩
  case inr =>
    rw [q1] at wa
    refine lim_run (E := E) rfl Tryz.func25 rfl (by kernel_rfl) (by kernel_rfl) ?_
    simp [Tryz.f25, tmpAt, k1, wc, wo, wu, wa]
    simp [apply, ho, hu, k1, q1]
  rw [q1] at wa
  by_cases k2 : e.kind = 2
  · have wm := eq_sDropBox s e.box (by omega)
    try simp at wm
    have ha : apply s e = dropBox s e.box := by simp [apply, ho, hu, k2, q1]
    rw [k2] at wu
    refine lim_run (E := E) rfl Tryz.func25 rfl (by kernel_rfl) (by kernel_rfl) ?_
    simp [Tryz.f25, tmpAt, k2, wc, wo, wu, wa, wm]
    simp [ha]
  by_cases k6 : e.kind = 6
  · have wm := eq_sCopyMails s e.box e.set_ e.to (by omega) (by omega)
    try simp at wm
    have ha : apply s e = copyMails s e.box e.set_ e.to := by simp [apply, ho, hu, k6, q1]
    rw [k6] at wu
    refine lim_run (E := E) rfl Tryz.func25 rfl (by kernel_rfl) (by kernel_rfl) ?_
    simp [Tryz.f25, tmpAt, k6, wc, wo, wu, wa, wm]
    simp [ha]
  by_cases k7 : e.kind = 7
  · have wm := eq_sMoveMails s e.box e.set_ e.to (by omega) (by omega)
    try simp at wm
    have ha : apply s e = moveMails s e.box e.set_ e.to := by simp [apply, ho, hu, k7, q1]
    rw [k7] at wu
    refine lim_run (E := E) rfl Tryz.func25 rfl (by kernel_rfl) (by kernel_rfl) ?_
    simp [Tryz.f25, tmpAt, k7, wc, wo, wu, wa, wm]
    simp [ha]
  have wi := eq_l10Box s e q4 (by omega) (by omega) (by omega)
  try simp at wi
  have ha : apply s e = (if (boxEdit (boxAt s e.box).1 e).2 = 0 then putBox s (boxEdit (boxAt s e.box).1 e).1 else s, (boxEdit (boxAt s e.box).1 e).2) := by
    by_cases hc : (boxEdit (boxAt s e.box).1 e).2 = 0 <;> simp [apply, ho, hu, k1, k2, k6, k7, q1, hc]
  refine lim_run (E := E) rfl Tryz.func25 rfl (by kernel_rfl) (by kernel_rfl) ?_
  simp [Tryz.f25, tmpAt, k1, k2, k6, k7, wc, wo, wu, wa, wi]
  simp [ha]
end Go.Proofs.YtdpagklgjchdgaaGreat
