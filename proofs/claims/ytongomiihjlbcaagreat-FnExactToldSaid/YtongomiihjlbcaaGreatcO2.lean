/- Told of the program and of the reference. -/
import Derived.Test.YtongomiihjlbcaaGreatcO1
import Derived.Test.YtongomiihjlbcaaGreatcF2
import Derived.Test.YtongomiihjlbcaaGreatcF3
import Derived.Test.YtongomiihjlbcaaGreatcA4
import Derived.Test.YtongomiihjlbcaaGreatcH1
set_option linter.unusedSectionVars false
set_option linter.all false
set_option linter.unusedVariables false
set_option linter.unusedSimpArgs false
set_option maxRecDepth 100000
namespace Go.Proofs.YtongomiihjlbcaaGreat
open Go.Lft

def takeAll (l : List Seen) (xs : List Line) : List Seen := xs.foldl takeLine l
def hasBye (xs : List Line) : Bool := xs.any (fun x => decide (x.kind = 9))
noncomputable def soundAt (s : Store) (x : Session) (m : List Seen) : Bool :=
  !x.on || (hasBye (tellView x.view (boxAt s x.view.box).1).2 || decide (takeAll m (tellView x.view (boxAt s x.view.box).1).2 = (boxAt s x.view.box).1.mails.map seenOf))
def toldUpto (w : World) (n : Nat) : Prop := ∀ i x m, i < n → w.sessions[i]? = some x → w.mirrors[i]? = some m → soundAt w.store x m = true
noncomputable instance (w : World) (n : Nat) : Decidable (toldUpto w n) := Classical.propDecidable _
noncomputable def worldTold (w : World) : Bool := decide (toldUpto w w.sessions.length)
theorem toldUpto_zero (w : World) : toldUpto w 0 := fun i x m h => absurd h (by omega)
theorem toldUpto_next {w : World} {i : Nat} (ha : toldUpto w i) (hx : ∀ x m, w.sessions[i]? = some x → w.mirrors[i]? = some m → soundAt w.store x m = true) : toldUpto w (i + 1) := by
  intro k x m hk h1 h2
  rcases Nat.lt_or_ge k i with h | h
  · exact ha k x m h h1 h2
  · obtain rfl : k = i := by omega
    exact hx x m h1 h2
theorem toldUpto_bad {w : World} {i : Nat} (h1 : i < w.sessions.length) (h2 : i < w.mirrors.length) (hx : soundAt w.store w.sessions[i] w.mirrors[i] = false) : worldTold w = false := by
  unfold worldTold
  rw [decide_eq_false_iff_not]
  intro h
  have := h i _ _ h1 (List.getElem?_eq_getElem h1) (List.getElem?_eq_getElem h2)
  rw [hx] at this; cases this
theorem toldUpto_all {w : World} {i : Nat} (ha : toldUpto w i) (h : w.sessions.length ≤ i ∨ w.mirrors.length ≤ i) : worldTold w = true := by
  unfold worldTold
  rw [decide_eq_true_iff]
  intro k x m hk h1 h2
  refine ha k x m ?_ h1 h2
  have := (List.getElem?_eq_some_iff.1 h1).1
  have := (List.getElem?_eq_some_iff.1 h2).1
  omega
theorem takeAll_next (l : List Seen) (xs : List Line) (k : Nat) (h : k < xs.length) : takeAll l (xs.take (k + 1)) = takeLine (takeAll l (xs.take k)) xs[k] := by
  rw [takeAll, List.take_succ_eq_append_getElem h, List.foldl_append]; rfl
theorem hasBye_next (xs : List Line) (k : Nat) (h : k < xs.length) : hasBye (xs.take (k + 1)) = (hasBye (xs.take k) || decide (xs[k].kind = 9)) := by
  rw [hasBye, List.take_succ_eq_append_getElem h, List.any_append]; simp [hasBye]
theorem takeAll_len (l : List Seen) (xs : List Line) : (takeAll l xs).length ≤ max l.length 30 := by
  induction xs generalizing l with
  | nil => simp [takeAll]; omega
  | cons x xs ih =>
    have h1 := ih (takeLine l x)
    have h2 := takeLine_len l x
    show (takeAll (takeLine l x) xs).length ≤ _
    omega
theorem told_len (v : View) (b : Box) : (told v b).length ≤ v.uids.length + 1 + b.mails.length := by
  have h1 := goneLines_len b v.uids 0
  have h2 := fetchLines_len v.mod b.mails 0
  unfold told
  split <;> simp <;> omega
theorem tellView_len (v : View) (b : Box) : (tellView v b).2.length ≤ v.uids.length + 1 + b.mails.length := by
  unfold tellView
  split
  · exact told_len v b
  · simp; omega
def LinesAt (ls : List Line) (k : Nat) (X : List D) : Prop := X.length = ls.length ∧ ∀ j (h : j < ls.length), X[j]? = some (encLine false (decide (k ≤ j)) ls[j])
theorem linesAt_zero (ls : List Line) : LinesAt ls 0 (ls.map (encLine false true)) := ⟨by simp, fun j h => by simp [h]⟩
theorem linesAt_next {ls : List Line} {k : Nat} {X : List D} (h : k < ls.length) (hX : LinesAt ls k X) : LinesAt ls (k + 1) (X.set k (encLine false false ls[k])) := by
  refine ⟨by rw [List.length_set]; exact hX.1, fun j hj => ?_⟩
  rw [List.getElem?_set]
  split
  · rename_i he
    subst he
    have : ¬ k + 1 ≤ k := by omega
    rw [if_pos (by rw [hX.1]; exact h)]
    simp [this]
  · rename_i he
    rw [hX.2 j hj]
    have : (k + 1 ≤ j) ↔ (k ≤ j) := by omega
    simp [this]
theorem boxAt_sz (s : Store) (n : S) : szBox (boxAt s n).1 ≤ szStore s := by
  unfold boxAt
  split
  · rename_i b hb
    exact sz_box (List.mem_of_find?_eq_some hb)
  · simp [szBox, zeroBox, tot]
set_option maxHeartbeats 8000000 in
theorem eq_Told (w : World) (hw : szWorld w ≤ 1048576) : lim E 7 [encWorld false false w] = some (.bool (worldTold w), []) := by
  have hz : szWorld w = szStore w.store + szDisk w.disk + (w.sessions.length + tot (fun (y : Session) => szSession y) w.sessions) + (w.mirrors.length + tot (fun (y : List Seen) => y.length) w.mirrors) + szCache w.cache + w.codes.length := rfl
  refine lim_run (E := E) rfl Tryz.func7 rfl (by kernel_rfl) (by kernel_rfl) ?_
  simp [Tryz.f7, tmpAt]
  refine loop_fr [1, 14, 15] [(1,0)] (fun m st => ∃ (i : Nat), i + m = w.sessions.length ∧ toldUpto w i ∧ st.env 16 = .int .i64 i) (w.sessions.length) _ ?_ ?_
  · exact ⟨0, by simp [toldUpto_zero]⟩
  rintro m0 ⟨env, rs⟩ hU0 hV0 ⟨i, hi, ha, e0_16⟩ ih0; simp at hU0 hV0 e0_16
  have hu := wrap_up (show i < 4611686018427387904 by omega)
  simp [hU0, hV0, e0_16]
  refine RB_dec ?_ ?_ <;> intro h
  · have hsz : szView w.sessions[i].view ≤ tot (fun (y : Session) => szSession y) w.sessions := tot_mem (fun (y : Session) => szSession y) (List.getElem_mem h)
    have hsv : szView w.sessions[i].view ≤ 1048576 := by omega
    cases hon : w.sessions[i].on
    · simp [hU0, hV0, e0_16, h, hon, tmpAt]
      refine ih0 (m0 - 1) _ (by omega) ?_ ?_ ⟨i + 1, by omega, toldUpto_next ha (by intro x m h1 h2; rw [List.getElem?_eq_getElem h] at h1; cases h1; simp [soundAt, hon]), ?_⟩
      · simp [hU0, hV0, e0_16]
      · simp [hU0, hV0, e0_16]
      simp [hU0, hV0, e0_16, hu]
    · simp [hU0, hV0, e0_16, h, hon, tmpAt]
      refine RB_dec ?_ ?_ <;> intro h2
      · simp [hU0, hV0, e0_16, h, hon, tmpAt]
        refine ih0 (m0 - 1) _ (by omega) ?_ ?_ ⟨i + 1, by omega, toldUpto_next ha (by intro x m h1 h3; have := (List.getElem?_eq_some_iff.1 h3).1; omega), ?_⟩
        · simp [hU0, hV0, e0_16]
        · simp [hU0, hV0, e0_16]
        simp [hU0, hV0, e0_16, hu]
      · have h2' : i < w.mirrors.length := by omega
        have hsm : w.mirrors[i].length ≤ tot (fun (y : List Seen) => y.length) w.mirrors := tot_mem (fun (y : List Seen) => y.length) (List.getElem_mem h2')
        have hm : w.mirrors[i].length ≤ 1048576 := by omega
        have hbz := boxAt_sz w.store w.sessions[i].view.box
        have wa := eq_BoxAt w.store w.sessions[i].view.box (by omega)
        have hx : soundAt w.store w.sessions[i] w.mirrors[i] = (hasBye (tellView w.sessions[i].view (boxAt w.store w.sessions[i].view.box).1).2 || decide (takeAll w.mirrors[i] (tellView w.sessions[i].view (boxAt w.store w.sessions[i].view.box).1).2 = (boxAt w.store w.sessions[i].view.box).1.mails.map seenOf)) := by simp [soundAt, hon]
        generalize boxAt w.store w.sessions[i].view.box = B at *
        obtain ⟨b, has⟩ := B
        simp only at hbz hx
        have hbz2 : szBox b = b.name.length + (b.mails.length + tot (fun (y : Mail) => szMail y) b.mails) + b.tombs.length := rfl
        have hvz2 : szView w.sessions[i].view = w.sessions[i].view.box.length + w.sessions[i].view.uids.length := rfl
        have wt := eq_TellView w.sessions[i].view b (by omega) (by omega)
        have hlen := tellView_len w.sessions[i].view b
        generalize tellView w.sessions[i].view b = T at *
        obtain ⟨v2, ls⟩ := T
        simp only at hlen hx
        try simp at wa
        try simp at wt
        simp [hU0, hV0, e0_16, h, h2', hon, tmpAt, wa, wt]
        have key : ∀ l : List Seen, l.length ≤ 1048576 → ∀ x, lim E 27 [.lst false 86 3 (l.map encSeen), encLine false false x] = some (.lst true 86 3 ((takeLine l x).map encSeen), []) := fun l hl x => eq_TakeLine l x hl
        refine loop_fr [1, 5, 14, 15, 16, 52, 53] [(1,0), (5,0)] (fun m st => ∃ (k : Nat) (l : List Seen) (X : List D), k + m = ls.length ∧ l = takeAll w.mirrors[i] (ls.take k) ∧ LinesAt ls k X ∧ st.rs (44,1) = some ⟨false, .lst true 76 7 X⟩ ∧ (st.env 9 = .lst false 86 3 (l.map encSeen) ∨ (st.env 9 = .slc (60,0) [] 0 l.length ∧ st.rs (60,0) = some ⟨false, .lst true 86 3 (l.map encSeen)⟩)) ∧ st.env 10 = .bool (hasBye (ls.take k)) ∧ st.env 54 = .int .i64 k) (ls.length) _ ?_ ?_
        · exact ⟨0, w.mirrors[i], ls.map (encLine false true), by simp [takeAll, hasBye, linesAt_zero]⟩
        rintro m1 ⟨env, rs⟩ hU1 hV1 ⟨k, l, X, hk, hl0, hX, q44, h9, e1_10, e1_54⟩ ih1; simp at hU1 hV1 e1_10 e1_54
        simp at q44
        have hXl := hX.1
        have hl1 : l.length ≤ 1048576 := by rw [hl0]; have := takeAll_len w.mirrors[i] (ls.take k); omega
        have hu2 := wrap_up (show k < 4611686018427387904 by omega)
        simp [hU0, hV0, e0_16, hU1, hV1, e1_10, e1_54]
        refine RB_dec ?_ ?_ <;> intro h4
        · have wk := key l hl1 ls[k]
          have hXk := hX.2 k h4
          have hXk' : ∀ h : k < X.length, X[k] = encLine false true ls[k] := fun h => by rw [List.getElem?_eq_getElem h] at hXk; simpa using hXk
          have hXn := linesAt_next h4 hX
          try simp at hXk
          try simp at hXk'
          try simp at hXn
          try simp at wk
          have hl2 : takeLine l ls[k] = takeAll w.mirrors[i] (ls.take (k + 1)) := by rw [takeAll_next _ _ _ h4, hl0]
          have hb2 := hasBye_next ls k h4
          rcases h9 with h9 | ⟨h9, r9⟩
          · simp at h9
            cases hby : hasBye (ls.take k)
            all_goals
              rw [hby] at hb2
              simp [hU0, hV0, e0_16, hU1, hV1, e1_10, e1_54, h9, h4, wk, hby, tmpAt, q44, hXl, hXk, hXk']
              refine ih1 (m1 - 1) _ (by omega) ?_ ?_ ⟨k + 1, takeLine l ls[k], _, by omega, hl2, hXn, ?_⟩
              · simp [hU0, hV0, e0_16, hU1, hV1, e1_10, e1_54]
              · simp [hU0, hV0, e0_16, hU1, hV1, e1_10, e1_54]
              simp [hU0, hV0, e0_16, hU1, hV1, e1_10, e1_54, hu2, hb2]
          · simp at h9 r9
            cases hby : hasBye (ls.take k)
            all_goals
              rw [hby] at hb2
              simp [hU0, hV0, e0_16, hU1, hV1, e1_10, e1_54, h9, r9, h4, wk, hby, tmpAt, q44, hXl, hXk, hXk']
              refine ih1 (m1 - 1) _ (by omega) ?_ ?_ ⟨k + 1, takeLine l ls[k], _, by omega, hl2, hXn, ?_⟩
              · simp [hU0, hV0, e0_16, hU1, hV1, e1_10, e1_54]
              · simp [hU0, hV0, e0_16, hU1, hV1, e1_10, e1_54]
              simp [hU0, hV0, e0_16, hU1, hV1, e1_10, e1_54, hu2, hb2]
        · have hkk : ls.take k = ls := List.take_of_length_le (by omega)
          rw [hkk] at hl0
          simp only [hkk] at *
          have ws := eq_seensOf b (by omega)
          try simp at ws
          have we := eq_EqualSeen l (b.mails.map seenOf) (by omega)
          try simp at we
          rcases h9 with h9 | ⟨h9, r9⟩
          · try simp at h9
            cases hby : hasBye ls
            · simp [hU0, hV0, e0_16, hU1, hV1, e1_10, e1_54, h9, h4, hby, tmpAt, ws, we]
              refine RB_ndec ?_ ?_ <;> intro h5
              · have hb := toldUpto_bad h h2' (by rw [hx, hby, ← hl0]; simp; simpa using h5)
                simp [hU0, hV0, e0_16, hU1, hV1, e1_10, e1_54, hb]
              · simp [hU0, hV0, e0_16, hU1, hV1, e1_10, e1_54]
                refine ih0 (m0 - 1) _ (by omega) ?_ ?_ ⟨i + 1, by omega, toldUpto_next ha (by intro x m h1 h3; rw [List.getElem?_eq_getElem h] at h1; rw [List.getElem?_eq_getElem h2'] at h3; cases h1; cases h3; rw [hx, hby, ← hl0]; simp; simpa using h5), ?_⟩
                · simp [hU0, hV0, e0_16, hU0, hV0, e0_16, hU1, hV1, e1_10, e1_54]
                · simp [hU0, hV0, e0_16, hU0, hV0, e0_16, hU1, hV1, e1_10, e1_54]
                simp [hU0, hV0, e0_16, hU1, hV1, e1_10, e1_54, hu]
            · simp [hU0, hV0, e0_16, hU1, hV1, e1_10, e1_54, h9, h4, hby, tmpAt]
              refine ih0 (m0 - 1) _ (by omega) ?_ ?_ ⟨i + 1, by omega, toldUpto_next ha (by intro x m h1 h3; rw [List.getElem?_eq_getElem h] at h1; rw [List.getElem?_eq_getElem h2'] at h3; cases h1; cases h3; rw [hx, hby]; rfl), ?_⟩
              · simp [hU0, hV0, e0_16, hU0, hV0, e0_16, hU1, hV1, e1_10, e1_54]
              · simp [hU0, hV0, e0_16, hU0, hV0, e0_16, hU1, hV1, e1_10, e1_54]
              simp [hU0, hV0, e0_16, hU1, hV1, e1_10, e1_54, hu]
          · try simp at h9 r9
            cases hby : hasBye ls
            · simp [hU0, hV0, e0_16, hU1, hV1, e1_10, e1_54, h9, r9, h4, hby, tmpAt, ws, we]
              refine RB_ndec ?_ ?_ <;> intro h5
              · have hb := toldUpto_bad h h2' (by rw [hx, hby, ← hl0]; simp; simpa using h5)
                simp [hU0, hV0, e0_16, hU1, hV1, e1_10, e1_54, hb]
              · simp [hU0, hV0, e0_16, hU1, hV1, e1_10, e1_54]
                refine ih0 (m0 - 1) _ (by omega) ?_ ?_ ⟨i + 1, by omega, toldUpto_next ha (by intro x m h1 h3; rw [List.getElem?_eq_getElem h] at h1; rw [List.getElem?_eq_getElem h2'] at h3; cases h1; cases h3; rw [hx, hby, ← hl0]; simp; simpa using h5), ?_⟩
                · simp [hU0, hV0, e0_16, hU0, hV0, e0_16, hU1, hV1, e1_10, e1_54]
                · simp [hU0, hV0, e0_16, hU0, hV0, e0_16, hU1, hV1, e1_10, e1_54]
                simp [hU0, hV0, e0_16, hU1, hV1, e1_10, e1_54, hu]
            · simp [hU0, hV0, e0_16, hU1, hV1, e1_10, e1_54, h9, r9, h4, hby, tmpAt]
              refine ih0 (m0 - 1) _ (by omega) ?_ ?_ ⟨i + 1, by omega, toldUpto_next ha (by intro x m h1 h3; rw [List.getElem?_eq_getElem h] at h1; rw [List.getElem?_eq_getElem h2'] at h3; cases h1; cases h3; rw [hx, hby]; rfl), ?_⟩
              · simp [hU0, hV0, e0_16, hU0, hV0, e0_16, hU1, hV1, e1_10, e1_54]
              · simp [hU0, hV0, e0_16, hU0, hV0, e0_16, hU1, hV1, e1_10, e1_54]
              simp [hU0, hV0, e0_16, hU1, hV1, e1_10, e1_54, hu]
  · have hb := toldUpto_all ha (.inl (by omega))
    simp [hU0, hV0, e0_16, h, hb]
end Go.Proofs.YtongomiihjlbcaaGreat
