/- Plain laws: a new box in a drawn store; mails added to it. -/
import Derived.Test.YtoeadcefgpkdcaacH8
import Derived.Test.YtoeadcefgpkdcaacE2
set_option linter.unusedSectionVars false
set_option linter.all false
set_option linter.unusedVariables false
set_option linter.unusedSimpArgs false
set_option maxRecDepth 100000
namespace Go.Proofs.Ytoeadcefgpkdcaa
open Go.Lft

def newN : S := [110, 101, 119]
theorem boxAt_of {s : Store} (h : storeOk s = true) {b : Box} (hb : b ∈ s.boxes) : boxAt s b.name = (b, true) := by
  obtain ⟨c1, c2, c3, c4⟩ := (storeOk_iff s).1 h
  rcases idx_find (p := isNamed b.name) (xs := s.boxes) with ⟨e1, _⟩ | ⟨i, hi, e1, _, e3, _⟩
  · rw [List.find?_eq_none] at e1
    exact absurd (by simp [isNamed]) (e1 b hb)
  · have hn : s.boxes[i].name = b.name := by simpa [isNamed] using e3
    obtain ⟨j, hj, rfl⟩ := List.getElem_of_mem hb
    have hij : i = j := by
      rw [List.pairwise_iff_getElem] at c2
      rcases Nat.lt_trichotomy i j with h | h | h
      · have := c2 i j hi hj h
        rw [hn, ltB_irrefl] at this; cases this
      · exact h
      · have := c2 j i hj hi h
        rw [hn, ltB_irrefl] at this; cases this
    subst hij
    unfold boxAt
    rw [e1]
theorem boxAt_none {s : Store} {n : S} (h : s.boxes.any (isNamed n) = false) : (boxAt s n).2 = false := by
  have : s.boxes.find? (isNamed n) = none := by
    rw [List.find?_eq_none]; rw [List.any_eq_false] at h; exact h
  simp [boxAt, this]
theorem new_none {s : Store} (hg : Good s) : s.boxes.any (isNamed newN) = false := by
  rw [List.any_eq_false]
  intro b hb hc
  have h1 := hg.names b.name (List.mem_map.2 ⟨b, hb, rfl⟩)
  have h2 : b.name = newN := by simpa [isNamed] using hc
  rw [h2] at h1
  simp [names4, newN, inboxN] at h1
theorem len_all {xs : List Box} {p q : Box → Bool} (h : ∀ x ∈ xs, (p x = true ∧ q x = false) ∨ (p x = false ∧ q x = true)) : (xs.filter p).length + (xs.filter q).length = xs.length := by
  induction xs with
  | nil => simp
  | cons x xs ih =>
    have ih' := ih fun y hy => h y (List.mem_cons_of_mem _ hy)
    rw [List.filter_cons, List.filter_cons]
    rcases h x (by simp) with ⟨h1, h2⟩ | ⟨h1, h2⟩
    · rw [h1, h2]; simp; omega
    · rw [h1, h2]; simp; omega
theorem make_new {s : Store} (hg : Good s) : (makeBox s newN = (s, 3) ∧ (boxAt s newN).2 = false) ∨
    ∃ A D : Store, makeBox s newN = (A, 0) ∧ storeOk A = true ∧ boxAt A newN = (boxNew newN s.valid, true) ∧ (∀ b ∈ s.boxes, boxAt A b.name = (b, true) ∧ b.valid < s.valid) ∧ makeBox A newN = (A, 2) ∧
      dropBox A newN = (D, 0) ∧ storeOk D = true ∧ (boxAt D newN).2 = false ∧ dropBox D newN = (D, 1) ∧ D.boxes.length = s.boxes.length ∧ D.valid = A.valid := by
  have hn := new_none hg
  have hbn : boxName newN = true := by decide
  have hok := make_ok (n := newN) hg.ok
  obtain ⟨c1, c2, c3, c4⟩ := (storeOk_iff s).1 hg.ok
  by_cases hf : s.boxes.length = 4 ∨ s.valid = 9999
  · left
    refine ⟨?_, boxAt_none hn⟩
    unfold makeBox
    rw [if_pos ⟨hg.ok, hbn⟩, if_neg (by rw [hn]; simp), if_pos hf]
  · right
    have e : makeBox s newN = (⟨s.boxes.filter (fun b => ltB b.name newN) ++ [boxNew newN s.valid] ++ s.boxes.filter (fun b => ltB newN b.name), s.valid + 1⟩, 0) := by
      unfold makeBox
      rw [if_pos ⟨hg.ok, hbn⟩, if_neg (by rw [hn]; simp), if_neg hf]
    rw [e] at hok
    simp only at hok
    have hmem : ∀ b ∈ s.boxes, b ∈ s.boxes.filter (fun b => ltB b.name newN) ++ [boxNew newN s.valid] ++ s.boxes.filter (fun b => ltB newN b.name) := by
      intro b hb
      simp only [List.mem_append, List.mem_singleton, List.mem_filter]
      have hne : ¬ b.name = newN := by
        intro hc
        rw [List.any_eq_false] at hn
        exact hn b hb (by simp [isNamed, hc])
      cases h5 : ltB b.name newN
      · cases h6 : ltB newN b.name
        · exact absurd (ltB_tri h5 h6) hne
        · exact .inr ⟨hb, rfl⟩
      · exact .inl (.inl ⟨hb, rfl⟩)
    have hlen : (s.boxes.filter (fun b => ltB b.name newN)).length + (s.boxes.filter (fun b => ltB newN b.name)).length = s.boxes.length := by
      refine len_all fun b hb => ?_
      have hne : ¬ b.name = newN := by
        intro hc
        rw [List.any_eq_false] at hn
        exact hn b hb (by simp [isNamed, hc])
      cases h5 : ltB b.name newN
      · cases h6 : ltB newN b.name
        · exact absurd (ltB_tri h5 h6) hne
        · exact .inr ⟨rfl, rfl⟩
      · exact .inl ⟨rfl, ltB_asymm h5⟩
    have hin : (boxNew newN s.valid) ∈ s.boxes.filter (fun b => ltB b.name newN) ++ [boxNew newN s.valid] ++ s.boxes.filter (fun b => ltB newN b.name) := by simp
    generalize hA : (⟨s.boxes.filter (fun b => ltB b.name newN) ++ [boxNew newN s.valid] ++ s.boxes.filter (fun b => ltB newN b.name), s.valid + 1⟩ : Store) = A at *
    have hAb : A.boxes = s.boxes.filter (fun b => ltB b.name newN) ++ [boxNew newN s.valid] ++ s.boxes.filter (fun b => ltB newN b.name) := by rw [← hA]
    rw [← hAb] at hmem hin
    have hAn : A.boxes.any (isNamed newN) = true := by
      rw [List.any_eq_true]
      exact ⟨_, hin, by simp [isNamed, boxNew]⟩
    have hAl : A.boxes.length = s.boxes.length + 1 := by rw [hAb]; simp; omega
    have hdrop : dropBox A newN = (⟨A.boxes.filter (fun b => !isNamed newN b), A.valid⟩, 0) := by
      unfold dropBox
      rw [if_pos ⟨hok, by decide⟩, if_pos hAn, if_neg (by omega)]
    have hD := drop_ok (n := newN) hok
    rw [hdrop] at hD
    have hDn : (A.boxes.filter fun b => !isNamed newN b).any (isNamed newN) = false := by
      rw [List.any_eq_false]
      intro b hb
      have := (List.mem_filter.1 hb).2
      simpa using this
    refine ⟨A, ⟨A.boxes.filter (fun b => !isNamed newN b), A.valid⟩, e, hok, ?_, fun b hb => ⟨boxAt_of hok (hmem b hb), (c1 b hb).2⟩, ?_, hdrop, hD, boxAt_none hDn, ?_, ?_, rfl⟩
    · have := boxAt_of hok hin
      exact this
    · unfold makeBox
      rw [if_pos ⟨hok, hbn⟩, if_pos hAn]
    · unfold dropBox
      rw [if_pos ⟨hD, by decide⟩, if_neg (by rw [hDn]; simp)]
    · have := drop_len hok hAn
      simp only [this]
      omega
theorem drop_inbox {s : Store} : dropBox s inboxN = (s, 4) := by
  unfold dropBox
  rw [if_neg (fun h => h.2 rfl)]
theorem make_names {s A : Store} (hg : Good s) (h : makeBox s newN = (A, 0)) : ∀ b ∈ A.boxes, b.name ∈ names4 ∨ b.name = newN := by
  intro b hb
  have e : A = (makeBox s newN).1 := by rw [h]
  rw [e] at hb
  unfold makeBox at hb h
  split at hb
  · rename_i h1
    rw [if_pos h1] at h
    split at hb
    · exact .inl (hg.names _ (List.mem_map.2 ⟨b, hb, rfl⟩))
    · split at hb
      · exact .inl (hg.names _ (List.mem_map.2 ⟨b, hb, rfl⟩))
      · simp only [List.mem_append, List.mem_singleton, List.mem_filter] at hb
        rcases hb with (hb | rfl) | hb
        · exact .inl (hg.names _ (List.mem_map.2 ⟨b, hb.1, rfl⟩))
        · exact .inr rfl
        · exact .inl (hg.names _ (List.mem_map.2 ⟨b, hb.1, rfl⟩))
  · exact .inl (hg.names _ (List.mem_map.2 ⟨b, hb, rfl⟩))
theorem added_right {c : Box} {f : Int} {t : S} (hc : boxOk c = true) (hf : within f 0 31 = true) (ht : mailOk t = true) (h1 : c.mails.length < 30) (h2 : c.next < 9999) (h3 : c.mod < 100000) : boxOk (added c f t) = true := by
  obtain ⟨a, b1, b2, b3, b4, c1, c2, c3, d1, d2, d3, d4⟩ := (boxOk_iff c).1 hc
  rw [boxOk_iff]
  refine ⟨a, b1, ⟨by show 1 ≤ c.next + 1; omega, by show c.next + 1 ≤ 9999; omega⟩, ⟨by show 1 ≤ c.mod + 1; omega, by show c.mod + 1 ≤ 100000; omega⟩, ⟨b4.1, by show c.horizon ≤ c.mod + 1; omega⟩, ?_, ?_, ?_, ?_, d2, d3, d4⟩
  · intro m hm
    rcases List.mem_append.1 hm with hm | hm
    · obtain ⟨e1, e2, e3, e4, e5, e6⟩ := c1 m hm
      exact ⟨e1, by show m.uid ≤ c.next + 1 - 1; omega, e3, e4, by show m.mod ≤ c.mod + 1; omega, e6⟩
    · obtain rfl := List.mem_singleton.1 hm
      exact ⟨b2.1, by show c.next ≤ c.next + 1 - 1; omega, hf, by show 1 ≤ c.mod + 1; omega, Int.le_refl _, ht⟩
  · show (c.mails ++ [_]).Pairwise _
    rw [List.pairwise_append]
    refine ⟨c2, List.pairwise_singleton .., fun x hx y hy => ?_⟩
    obtain rfl := List.mem_singleton.1 hy
    have := (c1 x hx).2.1
    simp only; omega
  · show (c.mails ++ [_]).length ≤ 30
    simp; omega
  · intro x hx
    obtain ⟨e1, e2, e3, e4, e5⟩ := d1 x hx
    refine ⟨e1, by show x.uid ≤ c.next + 1 - 1; omega, e3, by show x.mod ≤ c.mod + 1; omega, ?_⟩
    show hasUid (c.mails ++ [_]) x.uid = false
    unfold hasUid at e5 ⊢
    rw [List.any_append, e5]
    simp
    omega
theorem addAll_right : ∀ (ms : List Mail) {c : Box}, boxOk c = true → (∀ m ∈ ms, within m.flags 0 31 = true ∧ mailOk m.text = true) → c.mails.length + ms.length ≤ 30 → c.next + ms.length ≤ 9999 → c.mod + ms.length ≤ 100000 →
    ∃ b, addAll c ms = some b ∧ b.mails.map (fun m => (m.flags, m.text)) = c.mails.map (fun m => (m.flags, m.text)) ++ ms.map (fun m => (m.flags, m.text))
  | [], c, hc, _, _, _, _ => ⟨c, rfl, by simp⟩
  | m :: ms, c, hc, hm, h1, h2, h3 => by
    simp only [List.length_cons] at h1 h2 h3
    obtain ⟨f1, f2⟩ := hm m (by simp)
    have hok := added_right hc f1 f2 (by omega) (by omega) (by omega)
    have ha : addMail c m.flags m.text = (added c m.flags m.text, c.next) := by unfold addMail; rw [if_pos ⟨hc, hok⟩]
    have hn := boxOk_nums hc
    obtain ⟨b, hb1, hb2⟩ := addAll_right ms (c := added c m.flags m.text) hok (fun x hx => hm x (List.mem_cons_of_mem _ hx)) (by simp [added]; omega) (by simp [added]; omega) (by simp [added]; omega)
    refine ⟨b, ?_, ?_⟩
    · simp only [addAll, ha]
      rw [if_neg (by omega)]
      exact hb1
    · rw [hb2]
      simp [added]
theorem put_has {s : Store} {b b0 : Box} (hs : storeOk s = true) (hb : boxOk b = true) (h0 : b0 ∈ s.boxes) (h1 : b0.name = b.name) (h2 : b0.valid = b.valid) : boxAt (putBox s b) b.name = (b, true) ∧ ∀ x ∈ s.boxes, x.name ≠ b.name → boxAt (putBox s b) x.name = (x, true) := by
  obtain ⟨p1, p2, p3⟩ := putBox_ok hs hb h0 h1 h2
  rcases idx_find (p := isNamed b.name) (xs := s.boxes) with ⟨e1, _⟩ | ⟨i, hi, _, _, e3, e4⟩
  · exfalso
    rw [List.find?_eq_none] at e1
    exact e1 b0 h0 (by simp [isNamed, h1])
  have e := putBox_at (s := s) (b := b) hi e3 e4
  have hbx : (putBox s b).boxes = s.boxes.set i b := by rw [e]
  refine ⟨boxAt_of p1 (by rw [hbx]; exact List.mem_set hi b), fun x hx hne => boxAt_of p1 ?_⟩
  rw [hbx]
  obtain ⟨j, hj, rfl⟩ := List.getElem_of_mem hx
  have hij : i ≠ j := by
    rintro rfl
    exact hne (by simpa [isNamed] using e3)
  rw [List.mem_iff_getElem]
  exact ⟨j, by simpa using hj, by rw [List.getElem_set_ne hij]⟩
end Go.Proofs.Ytoeadcefgpkdcaa
