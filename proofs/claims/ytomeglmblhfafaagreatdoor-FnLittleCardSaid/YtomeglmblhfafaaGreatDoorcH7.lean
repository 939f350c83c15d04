/- Stores: edits of the reference; a drawn store. -/
import Derived.Test.YtomeglmblhfafaaGreatDoorcH4
import Derived.Test.YtomeglmblhfafaaGreatDoorcH6
set_option linter.unusedSectionVars false
set_option linter.all false
set_option linter.unusedVariables false
set_option linter.unusedSimpArgs false
set_option maxRecDepth 100000
namespace Go.Proofs.YtomeglmblhfafaaGreatDoor
open Go.Lft

set_option maxHeartbeats 4000000 in
theorem ex_l10Uses (e : Edit) : ∃ r : Bool, True ∧ lim E 222 [encEdit false false e] = some (.bool r, []) := by
  refine ex_split ?_
  refine lim_ex (E := E) rfl Tryz.func222 rfl (by kernel_rfl) (by kernel_rfl) ?_
  simp [Tryz.f222, tmpAt]
  repeat' first | (refine RT_dec ?_ ?_ <;> intro hg <;> try simp [tmpAt, hg]) | (refine RT_split ?_ ?_ <;> intro hg <;> (try simp at hg) <;> try simp [tmpAt, hg]) | (refine RB_dec ?_ ?_ <;> intro hg <;> try simp [tmpAt, hg]) | (refine RB_ndec ?_ ?_ <;> intro hg <;> try simp [tmpAt, hg]) | (refine RB_split ?_ ?_ <;> intro hg <;> (try simp at hg) <;> try simp [tmpAt, hg]) | (refine RG_dec ?_ ?_ <;> intro hg <;> try simp [tmpAt, hg]) | (refine RG_split ?_ ?_ <;> intro hg <;> (try simp at hg) <;> try simp [tmpAt, hg])
  all_goals first | exact ⟨_, trivial, rfl⟩ | trace_state
/-! ### Stores whose boxes have the drawn names -/
def names4 : List S := [inboxN, [119, 111, 114, 107], [111, 108, 100], [97]]
def namesOf (s : Store) : List S := s.boxes.map (·.name)
structure Good (s : Store) : Prop where
  ok : storeOk s = true
  names : ∀ n ∈ namesOf s, n ∈ names4
  inbox : inboxN ∈ namesOf s
theorem Good.put {s : Store} {b b0 : Box} (h : Good s) (hb : boxOk b = true) (h0 : b0 ∈ s.boxes) (h1 : b0.name = b.name) (h2 : b0.valid = b.valid) : Good (putBox s b) := by
  obtain ⟨p1, p2, p3⟩ := putBox_ok h.ok hb h0 h1 h2
  exact ⟨p1, by unfold namesOf; rw [p2]; exact h.names, by unfold namesOf; rw [p2]; exact h.inbox⟩
theorem len_parts {xs : List Box} {p q : Box → Bool} (h : ∀ x, p x = true → q x = false) : (xs.filter p).length + (xs.filter q).length ≤ xs.length := by
  induction xs with
  | nil => simp
  | cons x xs ih =>
    rw [List.filter_cons, List.filter_cons]
    by_cases hp : p x = true
    · rw [if_pos hp, if_neg (by rw [h x hp]; simp)]
      simp only [List.length_cons]; omega
    · rw [if_neg hp]
      split <;> simp only [List.length_cons] <;> omega
theorem make_ok {s : Store} {n : S} (h : storeOk s = true) : storeOk (makeBox s n).1 = true := by
  unfold makeBox
  split
  · rename_i h1
    split
    · exact h
    · rename_i ha
      split
      · exact h
      · rename_i hf
        obtain ⟨c1, c2, c3, c4⟩ := (storeOk_iff s).1 h
        obtain ⟨_, hnew⟩ := boxNew_right h1.1 h1.2
        have hlen := len_parts (xs := s.boxes) (p := fun b => ltB b.name n) (q := fun b => ltB n b.name) (fun x hx => ltB_asymm hx)
        have hf4 : ¬ s.boxes.length = 4 := fun h => hf (.inl h)
        have hf9 : ¬ s.valid = 9999 := fun h => hf (.inr h)
        rw [storeOk_iff]
        refine ⟨?_, ?_, ?_, ?_⟩
        · intro b hb
          simp only [List.mem_append, List.mem_singleton, List.mem_filter] at hb
          rcases hb with (hb | rfl) | hb
          · exact ⟨(c1 b hb.1).1, by have := (c1 b hb.1).2; show b.valid < s.valid + 1; omega⟩
          · exact ⟨hnew, by show s.valid < s.valid + 1; omega⟩
          · exact ⟨(c1 b hb.1).1, by have := (c1 b hb.1).2; show b.valid < s.valid + 1; omega⟩
        · show (s.boxes.filter (fun b => ltB b.name n) ++ [boxNew n s.valid] ++ s.boxes.filter (fun b => ltB n b.name)).Pairwise _
          rw [List.pairwise_append, List.pairwise_append]
          refine ⟨⟨c2.filter _, List.pairwise_singleton .., fun x hx y hy => ?_⟩, c2.filter _, fun x hx y hy => ?_⟩
          · obtain rfl := List.mem_singleton.1 hy
            exact (List.mem_filter.1 hx).2
          · have hy2 := (List.mem_filter.1 hy).2
            rcases List.mem_append.1 hx with hx | hx
            · exact ltB_trans (List.mem_filter.1 hx).2 hy2
            · obtain rfl := List.mem_singleton.1 hx
              exact hy2
        · simp only [List.length_append, List.length_singleton]
          omega
        · show 2 ≤ s.valid + 1 ∧ s.valid + 1 ≤ 9999
          omega
  · exact h
theorem Good.make {s : Store} {n : S} (h : Good s) (hn : n ∈ names4) : Good (makeBox s n).1 := by
  have key : (∀ m ∈ namesOf (makeBox s n).1, m ∈ names4) ∧ inboxN ∈ namesOf (makeBox s n).1 := by
    unfold makeBox
    split
    · rename_i h1
      split
      · exact ⟨h.names, h.inbox⟩
      · rename_i ha
        split
        · exact ⟨h.names, h.inbox⟩
        · refine ⟨?_, ?_⟩
          · intro m hm
            obtain ⟨b, hb, rfl⟩ := List.mem_map.1 hm
            simp only [List.mem_append, List.mem_singleton, List.mem_filter] at hb
            rcases hb with (hb | rfl) | hb
            · exact h.names _ (List.mem_map.2 ⟨b, hb.1, rfl⟩)
            · exact hn
            · exact h.names _ (List.mem_map.2 ⟨b, hb.1, rfl⟩)
          · obtain ⟨b, hb, hbn⟩ := List.mem_map.1 h.inbox
            refine List.mem_map.2 ⟨b, ?_, hbn⟩
            simp only [List.mem_append, List.mem_singleton, List.mem_filter]
            have hne : ¬ b.name = n := by
              intro hc
              exact ha (by rw [List.any_eq_true]; exact ⟨b, hb, by simp [isNamed, hc]⟩)
            cases h5 : ltB b.name n
            · cases h6 : ltB n b.name
              · exact absurd (ltB_tri h5 h6) hne
              · exact .inr ⟨hb, rfl⟩
            · exact .inl (.inl ⟨hb, rfl⟩)
    · exact ⟨h.names, h.inbox⟩
  exact ⟨make_ok h.ok, key.1, key.2⟩
theorem drop_len {s : Store} {n : S} (h : storeOk s = true) (ha : s.boxes.any (isNamed n) = true) : (s.boxes.filter fun b => !isNamed n b).length = s.boxes.length - 1 := by
  obtain ⟨c1, c2, c3, c4⟩ := (storeOk_iff s).1 h
  rw [List.any_eq_true] at ha
  obtain ⟨x, hx, hxn⟩ := ha
  obtain ⟨i, hi, rfl⟩ := List.getElem_of_mem hx
  rw [← named_once c2 hi hxn]; simp; omega
theorem drop_ok {s : Store} {n : S} (h : storeOk s = true) : storeOk (dropBox s n).1 = true := by
  unfold dropBox
  split
  · split
    · rename_i ha
      split
      · exact h
      · rename_i hl1
        have hlen := drop_len h ha
        obtain ⟨c1, c2, c3, c4⟩ := (storeOk_iff s).1 h
        rw [storeOk_iff]
        refine ⟨fun b hb => c1 b (List.mem_filter.1 hb).1, c2.filter _, ?_, c4⟩
        show 1 ≤ (s.boxes.filter fun b => !isNamed n b).length ∧ _
        rw [hlen]
        omega
    · exact h
  · exact h
theorem Good.drop {s : Store} {n : S} (h : Good s) : Good (dropBox s n).1 := by
  have key : (∀ m ∈ namesOf (dropBox s n).1, m ∈ names4) ∧ inboxN ∈ namesOf (dropBox s n).1 := by
    unfold dropBox
    split
    · rename_i h1
      split
      · split
        · exact ⟨h.names, h.inbox⟩
        · refine ⟨?_, ?_⟩
          · intro m hm
            obtain ⟨b, hb, rfl⟩ := List.mem_map.1 hm
            exact h.names _ (List.mem_map.2 ⟨b, (List.mem_filter.1 hb).1, rfl⟩)
          · obtain ⟨b, hb, hbn⟩ := List.mem_map.1 h.inbox
            refine List.mem_map.2 ⟨b, List.mem_filter.2 ⟨hb, ?_⟩, hbn⟩
            simp only [isNamed, Bool.not_eq_true', decide_eq_false_iff_not]
            intro hc
            exact h1.2 (by rw [← hc]; exact hbn)
      · exact ⟨h.names, h.inbox⟩
    · exact ⟨h.names, h.inbox⟩
  exact ⟨drop_ok h.ok, key.1, key.2⟩
theorem Good.copy {s : Store} {a z : S} {set_ : List Range} (h : Good s) : Good (copyMails s a set_ z).1 := by
  by_cases h0 : (copyMails s a set_ z).2 = 0
  · obtain ⟨_, _, _, o4, b, hb, hp, p1, p2, p3⟩ := copyMails_ok h0
    rw [hp]
    exact ⟨p1, by unfold namesOf; rw [p2]; exact h.names, by unfold namesOf; rw [p2]; exact h.inbox⟩
  · have : (copyMails s a set_ z).1 = s := by
      unfold copyMails at h0 ⊢
      split
      · rename_i h1
        rw [if_pos h1] at h0
        split
        · rename_i h2
          rw [if_pos h2] at h0
          split
          · rename_i b hb
            rw [hb] at h0
            exact absurd rfl h0
          · rfl
        · rfl
      · rfl
    rw [this]; exact h
theorem same_flags (b : Box) (s : List Range) (how bits since : Int) : (setFlags b s how bits since).1.name = b.name ∧ (setFlags b s how bits since).1.valid = b.valid := by
  unfold setFlags; split <;> exact ⟨rfl, rfl⟩
theorem same_exp (b : Box) (s : List Range) : (expunge b s).1.name = b.name ∧ (expunge b s).1.valid = b.valid := by
  unfold expunge; split <;> exact ⟨rfl, rfl⟩
theorem same_forget (b : Box) (u : Int) : (forget b u).name = b.name ∧ (forget b u).valid = b.valid := by
  unfold forget; split <;> exact ⟨rfl, rfl⟩
theorem same_add (b : Box) (f : Int) (t : S) : (addMail b f t).1.name = b.name ∧ (addMail b f t).1.valid = b.valid := by
  unfold addMail; split <;> exact ⟨rfl, rfl⟩
theorem Good.move {s : Store} {a z : S} {set_ : List Range} (h : Good s) : Good (moveMails s a set_ z).1 := by
  unfold moveMails
  split
  · exact h
  · split
    · exact h
    · split
      · exact h
      · rename_i h1 h2 h3
        have h2' : (copyMails s a set_ z).2 = 0 := by simpa using h2
        obtain ⟨_, _, o3, _, b, hb, hp, p1, p2, p3⟩ := copyMails_ok h2'
        have hg : Good (copyMails s a set_ z).1 := h.copy
        rcases boxAt_cases hg.ok a with ⟨q1, q2, q3, q4⟩ | ⟨q1, q2⟩
        · have e1 := same_flags (boxAt (copyMails s a set_ z).1 a).1 set_ 2 8 (-1)
          have e2 := same_exp (setFlags (boxAt (copyMails s a set_ z).1 a).1 set_ 2 8 (-1)).1 set_
          exact hg.put (expunge_ok (setFlags_ok q4)) q2 (by rw [moveFrom, e2.1, e1.1]) (by rw [moveFrom, e2.2, e1.2])
        · -- the box is there
          exfalso
          obtain ⟨m1, m2⟩ := boxAt_mem o3
          have hm : a ∈ (copyMails s a set_ z).1.boxes.map (·.name) := by
            rw [hp, p2]; exact List.mem_map.2 ⟨_, m1, m2⟩
          obtain ⟨x, hx, hxn⟩ := List.mem_map.1 hm
          unfold boxAt at q1
          split at q1
          · cases q1
          · rename_i hnone
            rw [List.find?_eq_none] at hnone
            exact hnone x hx (by simp [isNamed, hxn])
end Go.Proofs.YtomeglmblhfafaaGreatDoor
