/- Stores: the reference's MakeBox and DropBox, the same as the program's. -/
import Derived.Test.YtomeglmblhfafaaGreatDoorcH3
set_option linter.unusedSectionVars false
set_option linter.all false
set_option linter.unusedVariables false
set_option linter.unusedSimpArgs false
set_option maxRecDepth 100000
namespace Go.Proofs.YtomeglmblhfafaaGreatDoor
open Go.Lft

/-! ### A row whose first so many elements are of another make -/
def mapTo2 {α β : Type} (f g : α → β) (i : Nat) (xs : List α) : List β := (xs.take i).map f ++ (xs.drop i).map g
@[simp] theorem mapTo2_zero {α β : Type} (f g : α → β) (xs : List α) : mapTo2 f g 0 xs = xs.map g := by simp [mapTo2]
@[simp] theorem mapTo2_len {α β : Type} (f g : α → β) (i : Nat) (xs : List α) : (mapTo2 f g i xs).length = xs.length := by simp [mapTo2]; omega
@[simp] theorem mapTo2_get {α β : Type} (f g : α → β) (i : Nat) (xs : List α) (h : i < (mapTo2 f g i xs).length) : (mapTo2 f g i xs)[i] = g (xs[i]'(by simpa using h)) := by
  have h' : i < xs.length := by simpa using h
  simp [mapTo2, List.getElem_append, Nat.min_eq_left (by omega : i ≤ xs.length)]
theorem mapTo2_set {α β : Type} (f g : α → β) (i : Nat) (xs : List α) (h : i < xs.length) : (mapTo2 f g i xs).set i (f xs[i]) = mapTo2 f g (i + 1) xs := by
  have hl : ((xs.take i).map f).length = i := by simp; omega
  simp only [mapTo2]
  rw [List.set_append_right _ _ (by omega), hl, Nat.sub_self, List.take_succ_eq_append_getElem h, List.drop_eq_getElem_cons h]
  simp only [List.map_append, List.map_cons, List.map_nil, List.set_cons_zero, List.append_assoc, List.cons_append, List.nil_append]
theorem mapTo2_same {α β : Type} (f g : α → β) (i : Nat) (xs : List α) (h : i < xs.length) (hf : f xs[i] = g xs[i]) : mapTo2 f g (i + 1) xs = mapTo2 f g i xs := by
  simp only [mapTo2]
  rw [List.take_succ_eq_append_getElem h, List.drop_eq_getElem_cons h]
  simp only [List.map_append, List.map_cons, List.map_nil, List.append_assoc, List.cons_append, List.nil_append, hf]
theorem mapTo2_all {α β : Type} (f g : α → β) (i : Nat) (xs : List α) (h : ¬ i < xs.length) : mapTo2 f g i xs = xs.map f := by
  simp [mapTo2, List.take_of_length_le (by omega : xs.length ≤ i), List.drop_eq_nil_of_le (by omega : xs.length ≤ i)]
/-- A box whose rows have been taken away. -/
def hollow (b : Box) : D := .agg [.str b.name, .int .i64 b.valid, .int .i64 b.next, .int .i64 b.mod, .undef, .undef, .int .i64 b.horizon]
def holIf (p : Box → Bool) (b : Box) : D := if p b = true then hollow b else encBox false true b
set_option maxHeartbeats 4000000 in
theorem eq_sDropBox (s : Store) (n : S) (hl : szStore s ≤ 1048576) : lim E 166 [encStore false false s, .str n] = some (.tup [encStore false true (dropBox s n).1, .int .i64 (dropBox s n).2], []) := by
  have hz : szStore s = s.boxes.length + tot (fun (y : Box) => szBox y) s.boxes := rfl
  have wc := eq_l09Copy s hl
  try simp at wc
  have wo := eq_sStoreOk s (by omega)
  try simp at wo
  have wa := eq_sBoxAt s n (by omega)
  try simp at wa
  by_cases hok : storeOk s = true ∧ n ≠ inboxN
  case neg =>
    have he : dropBox s n = (s, 4) := by unfold dropBox; rw [if_neg hok]
    rw [he]
    cases h1 : storeOk s
    · rw [h1] at wo
      refine lim_run (E := E) rfl Tryz.func166 rfl (by kernel_rfl) (by kernel_rfl) ?_
      simp [Tryz.f166, tmpAt, wc, wo, wa]
    · have h2 : n = inboxN := by by_cases hb : n = inboxN; exact hb; exact absurd ⟨h1, hb⟩ hok
      subst h2
      rw [h1] at wo
      unfold inboxN at *
      refine lim_run (E := E) rfl Tryz.func166 rfl (by kernel_rfl) (by kernel_rfl) ?_
      simp [Tryz.f166, tmpAt, wc, wo, wa]
  obtain ⟨o1, o2⟩ := hok
  rw [o1] at wo
  have o2' : ¬ n = [105, 110, 98, 111, 120] := o2
  obtain ⟨c1, c2, c3, c4⟩ := (storeOk_iff s).1 o1
  rcases idx_find (p := isNamed n) (xs := s.boxes) with ⟨h1, h2⟩ | ⟨i0, hi0, h1, h2, h3, h4⟩
  · have ha : s.boxes.any (isNamed n) = false := by rw [List.any_eq_false]; intro x hx; rw [List.find?_eq_none] at h1; exact h1 x hx
    have he : dropBox s n = (s, 1) := by unfold dropBox; rw [if_pos ⟨o1, o2⟩, if_neg (by rw [ha]; simp)]
    rw [he]
    have hbx : (boxAt s n).2 = false := by simp [boxAt, h1]
    rw [hbx] at wa
    refine lim_run (E := E) rfl Tryz.func166 rfl (by kernel_rfl) (by kernel_rfl) ?_
    simp [Tryz.f166, tmpAt, wc, wo, wa, o2']
  · have ha : s.boxes.any (isNamed n) = true := by rw [List.any_eq_true]; exact ⟨_, List.getElem_mem hi0, h3⟩
    have hbx : (boxAt s n).2 = true := by simp [boxAt, h1]
    rw [hbx] at wa
    have hone : (s.boxes.filter fun b => !isNamed n b).length = s.boxes.length - 1 := by
      rw [← named_once c2 hi0 h3]; simp; omega
    refine lim_run (E := E) rfl Tryz.func166 rfl (by kernel_rfl) (by kernel_rfl) ?_
    simp [Tryz.f166, tmpAt, wc, wo, wa, o2']
    refine loop_fr [1, 4, 6, 9] [(4,0)] (fun m st => ∃ (i : Nat) (bs : List Box), i + m = s.boxes.length ∧ bs = (s.boxes.take i).filter (fun b => !isNamed n b) ∧ st.env 10 = .int .i64 i ∧ st.rs (9,0) = some ⟨true, encStore false true ⟨bs, s.valid⟩⟩ ∧ st.rs (6,0) = some ⟨true, .agg [.lst true 41 7 (mapTo2 (holIf fun b => !isNamed n b) (encBox false true) i s.boxes), .int .i64 s.valid]⟩) (s.boxes.length) _ ?_ ?_
    · exact ⟨0, [], by simp⟩
    rintro m0 ⟨env, rs⟩ hU0 hV0 ⟨i, bs, hi, hbs, e0_10, r0_9_0, r0_6_0⟩ ih0; simp at hU0 hV0 e0_10 r0_9_0 r0_6_0
    have hw := wrap_up (show i < 4611686018427387904 by omega)
    have hbl : bs.length ≤ i := by rw [hbs]; refine Nat.le_trans (List.length_filter_le ..) ?_; simp; omega
    simp [hU0, hV0, e0_10, r0_9_0, r0_6_0]
    refine RB_dec ?_ ?_ <;> intro h
    · have hn := take_filter (fun b => !isNamed n b) s.boxes i h
      rw [← hbs] at hn
      have hb : (bs.length + 1) * 96 ≤ 140737488351232 := by omega
      simp [hU0, hV0, e0_10, r0_9_0, r0_6_0, h, tmpAt]
      by_cases hnm : s.boxes[i].name = n
      · have hp : isNamed n s.boxes[i] = true := by simp [isNamed, hnm]
        simp [hp] at hn
        have hsame := mapTo2_same (holIf fun b => !isNamed n b) (encBox false true) i s.boxes h (by simp [holIf, hp])
        simp [hU0, hV0, e0_10, r0_9_0, r0_6_0, hnm]
        refine ih0 (m0 - 1) _ (by omega) ?_ ?_ ⟨i + 1, bs, by omega, hn.symm, ?_⟩
        · simp [hU0, hV0, e0_10, r0_9_0, r0_6_0, h]
        · simp [hU0, hV0, e0_10, r0_9_0, r0_6_0, h]
        simp [hU0, hV0, e0_10, r0_9_0, r0_6_0, hw, hsame]
      · have hp : isNamed n s.boxes[i] = false := by simp [isNamed, hnm]
        simp [hp] at hn
        have hset := mapTo2_set (holIf fun b => !isNamed n b) (encBox false true) i s.boxes h
        have hv : holIf (fun b => !isNamed n b) s.boxes[i] = hollow s.boxes[i] := by simp [holIf, hp]
        rw [hv] at hset
        unfold hollow at hset
        simp [hU0, hV0, e0_10, r0_9_0, r0_6_0, h, hnm, hb, tmpAt]
        refine ⟨trOk_unord (L := [(0, 2), (0, 3), (0, 4), (0, 5), (0, 6), (0, 7), (1, 2), (1, 3), (1, 4), (1, 5), (1, 6), (1, 7), (2, 4), (3, 4)]) (by kernel_rfl) (by simp) (by simp [indepAt, indep, spares, around, aside, pre, isSlc, Tr.feels, Tr.all, moves, bare, opData, isExt, cmpOf, Op.operands, Call.operands, mentL, ment, D.noUndefL, D.noUndef, pureE, hU0, hV0, e0_10, r0_9_0, r0_6_0, h]), ?_⟩
        refine ih0 (m0 - 1) _ (by omega) ?_ ?_ ⟨i + 1, bs ++ [s.boxes[i]], by omega, hn.symm, ?_⟩
        · simp [hU0, hV0, e0_10, r0_9_0, r0_6_0, h]
        · simp [hU0, hV0, e0_10, r0_9_0, r0_6_0, h]
        simp [hU0, hV0, e0_10, r0_9_0, r0_6_0, hw, hset]
    · rw [List.take_of_length_le (by omega)] at hbs
      subst hbs
      by_cases hl1 : s.boxes.length = 1
      · have he : dropBox s n = (s, 4) := by unfold dropBox; rw [if_pos ⟨o1, o2⟩, if_pos ha, if_pos hl1]
        rw [he]
        have hnil : s.boxes.filter (fun b => !isNamed n b) = [] := List.length_eq_zero_iff.1 (by omega)
        have hall := mapTo2_all (holIf fun b => !isNamed n b) (encBox false true) i s.boxes h
        simp [hU0, hV0, e0_10, r0_9_0, r0_6_0, hnil]
        rw [hall]
        refine List.map_congr_left fun x hx => ?_
        have := List.filter_eq_nil_iff.1 hnil x hx
        simp only [holIf]
        rw [if_neg this]
      · have he : dropBox s n = (⟨s.boxes.filter (fun b => !isNamed n b), s.valid⟩, 0) := by unfold dropBox; rw [if_pos ⟨o1, o2⟩, if_pos ha, if_neg hl1]
        rw [he]
        have hne : ¬ ∀ x, x ∈ s.boxes → isNamed n x = true := by
          intro hc
          have : (s.boxes.filter fun b => !isNamed n b) = [] := List.filter_eq_nil_iff.2 fun x hx => by simp [hc x hx]
          rw [this] at hone
          simp at hone
          omega
        simp [hU0, hV0, e0_10, r0_9_0, r0_6_0, hne]
theorem small_row {a b : Nat} (h1 : a ≤ 4) (h2 : b ≤ 4) : (a + 1 + b + 1) * 96 ≤ 140737488351232 ∧ (a + (b + 1) + 1) * 96 ≤ 140737488351232 := by omega
set_option maxHeartbeats 1000000 in
theorem eq_sMakeBox (s : Store) (n : S) (hl : szStore s ≤ 1048576) (hn : n.length ≤ 1048576) : lim E 165 [encStore false false s, .str n] = some (.tup [encStore false true (makeBox s n).1, .int .i64 (makeBox s n).2], []) := by
  have hz : szStore s = s.boxes.length + tot (fun (y : Box) => szBox y) s.boxes := rfl
  have wc := eq_l09Copy s hl
  try simp at wc
  have wo := eq_sStoreOk s (by omega)
  try simp at wo
  have wn := eq_sBoxName n (by omega)
  have wa := eq_sBoxAt s n (by omega)
  try simp at wa
  by_cases hok : storeOk s = true ∧ boxName n = true
  case neg =>
    have he : makeBox s n = (s, 4) := by unfold makeBox; rw [if_neg hok]
    rw [he]
    cases h1 : storeOk s
    · rw [h1] at wo
      refine lim_run (E := E) rfl Tryz.func165 rfl (by kernel_rfl) (by kernel_rfl) ?_
      simp [Tryz.f165, tmpAt, wc, wo, wn]
    · have h2 : boxName n = false := by cases hb : boxName n; rfl; exact absurd ⟨h1, hb⟩ hok
      rw [h1] at wo
      rw [h2] at wn
      refine lim_run (E := E) rfl Tryz.func165 rfl (by kernel_rfl) (by kernel_rfl) ?_
      simp [Tryz.f165, tmpAt, wc, wo, wn]
  obtain ⟨o1, o2⟩ := hok
  rw [o1] at wo
  rw [o2] at wn
  obtain ⟨c1, c2, c3, c4⟩ := (storeOk_iff s).1 o1
  rcases idx_find (p := isNamed n) (xs := s.boxes) with ⟨h1, h2⟩ | ⟨i0, hi0, h1, h2, h3, h4⟩
  case inr =>
    have ha : s.boxes.any (isNamed n) = true := by rw [List.any_eq_true]; exact ⟨_, List.getElem_mem hi0, h3⟩
    have he : makeBox s n = (s, 2) := by unfold makeBox; rw [if_pos ⟨o1, o2⟩, if_pos ha]
    rw [he]
    have hbx : (boxAt s n).2 = true := by simp [boxAt, h1]
    rw [hbx] at wa
    refine lim_run (E := E) rfl Tryz.func165 rfl (by kernel_rfl) (by kernel_rfl) ?_
    simp [Tryz.f165, tmpAt, wc, wo, wn, wa]
  have ha : s.boxes.any (isNamed n) = false := by rw [List.any_eq_false]; intro x hx; rw [List.find?_eq_none] at h1; exact h1 x hx
  have hbx : (boxAt s n).2 = false := by simp [boxAt, h1]
  rw [hbx] at wa
  by_cases hfull : s.boxes.length = 4 ∨ s.valid = 9999
  · have he : makeBox s n = (s, 3) := by unfold makeBox; rw [if_pos ⟨o1, o2⟩, if_neg (by rw [ha]; simp), if_pos hfull]
    rw [he]
    by_cases h4 : s.boxes.length = 4
    · have h4' : (4 : Int) ≤ (s.boxes.length : Int) := by omega
      have h4'' : 4 ≤ s.boxes.length := by omega
      refine lim_run (E := E) rfl Tryz.func165 rfl (by kernel_rfl) (by kernel_rfl) ?_
      simp [Tryz.f165, tmpAt, wc, wo, wn, wa, h4', h4'']
    · have h9 : (9999 : Int) ≤ s.valid := by rcases hfull with h | h; exact absurd h h4; omega
      have h4' : ¬ (4 : Int) ≤ (s.boxes.length : Int) := by omega
      have h4'' : ¬ 4 ≤ s.boxes.length := by omega
      refine lim_run (E := E) rfl Tryz.func165 rfl (by kernel_rfl) (by kernel_rfl) ?_
      simp [Tryz.f165, tmpAt, wc, wo, wn, wa, h4', h4'', h9]
  have h4 : ¬ s.boxes.length = 4 := fun h => hfull (.inl h)
  have h9 : ¬ s.valid = 9999 := fun h => hfull (.inr h)
  have he : makeBox s n = (⟨s.boxes.filter (fun b => ltB b.name n) ++ [boxNew n s.valid] ++ s.boxes.filter (fun b => ltB n b.name), s.valid + 1⟩, 0) := by unfold makeBox; rw [if_pos ⟨o1, o2⟩, if_neg (by rw [ha]; simp), if_neg hfull]
  rw [he]
  obtain ⟨hR, hnew⟩ := boxNew_right o1 o2
  have wb := eq_sBoxNew n s.valid (by omega)
  rw [hR, hnew] at wb
  generalize hB : boxNew n s.valid = B at *
  try simp at wb
  have hw2 : IntKind.i64.wrap (s.valid + 1) = s.valid + 1 := wrap_in (by omega) (by omega)
  have h4' : ¬ (4 : Int) ≤ (s.boxes.length : Int) := by omega
  have h4'' : ¬ 4 ≤ s.boxes.length := by omega
  have h9' : ¬ (9999 : Int) ≤ s.valid := by omega
  refine lim_run (E := E) rfl Tryz.func165 rfl (by kernel_rfl) (by kernel_rfl) ?_
  simp [Tryz.f165, tmpAt, wc, wo, wn, wa, h4', h4'', h9', wb, hw2]
  refine loop_fr [1, 4, 6, 9, 11] [(4,0), (9,0)] (fun m st => ∃ (i : Nat) (bs : List Box), i + m = s.boxes.length ∧ bs = (s.boxes.take i).filter (fun b => ltB b.name n) ∧ st.env 12 = .int .i64 i ∧ st.rs (11,0) = some ⟨true, encStore false true ⟨bs, s.valid + 1⟩⟩ ∧ st.rs (6,0) = some ⟨true, .agg [.lst true 41 7 (mapTo2 (holIf fun b => ltB b.name n) (encBox false true) i s.boxes), .int .i64 s.valid]⟩) (s.boxes.length) _ ?_ ?_
  · exact ⟨0, [], by simp⟩
  rintro m0 ⟨env, rs⟩ hU0 hV0 ⟨i, bs, hi, hbs, e0_12, r0_11_0, r0_6_0⟩ ih0; simp at hU0 hV0 e0_12 r0_11_0 r0_6_0
  have hw := wrap_up (show i < 4611686018427387904 by omega)
  have hbl : bs.length ≤ i := by rw [hbs]; refine Nat.le_trans (List.length_filter_le ..) ?_; simp; omega
  have hb : (bs.length + 1) * 96 ≤ 140737488351232 := by omega
  simp [hU0, hV0, e0_12, r0_11_0, r0_6_0]
  refine RB_dec ?_ ?_ <;> intro h
  · have hn := take_filter (fun b => ltB b.name n) s.boxes i h
    rw [← hbs] at hn
    cases hlt : ltB s.boxes[i].name n
    · simp [hlt] at hn
      have hsame := mapTo2_same (holIf fun b => ltB b.name n) (encBox false true) i s.boxes h (by simp [holIf, hlt])
      simp [hU0, hV0, e0_12, r0_11_0, r0_6_0, h, hlt, tmpAt]
      refine ih0 (m0 - 1) _ (by omega) ?_ ?_ ⟨i + 1, bs, by omega, hn.symm, ?_⟩
      · simp [hU0, hV0, e0_12, r0_11_0, r0_6_0, h]
      · simp [hU0, hV0, e0_12, r0_11_0, r0_6_0, h]
      simp [hU0, hV0, e0_12, r0_11_0, r0_6_0, hw, hsame]
    · simp [hlt] at hn
      have hset := mapTo2_set (holIf fun b => ltB b.name n) (encBox false true) i s.boxes h
      have hv : holIf (fun b => ltB b.name n) s.boxes[i] = hollow s.boxes[i] := by simp [holIf, hlt]
      rw [hv] at hset
      unfold hollow at hset
      simp [hU0, hV0, e0_12, r0_11_0, r0_6_0, h, hlt, hb, tmpAt]
      refine ⟨trOk_unord (L := [(0, 2), (0, 3), (0, 4), (0, 5), (0, 6), (0, 7), (1, 2), (1, 3), (1, 4), (1, 5), (1, 6), (1, 7), (2, 4), (3, 4)]) (by kernel_rfl) (by simp) (by simp [indepAt, indep, spares, around, aside, pre, isSlc, Tr.feels, Tr.all, moves, bare, opData, isExt, cmpOf, Op.operands, Call.operands, mentL, ment, D.noUndefL, D.noUndef, pureE, hU0, hV0, e0_12, r0_11_0, r0_6_0, h]), ?_⟩
      refine ih0 (m0 - 1) _ (by omega) ?_ ?_ ⟨i + 1, bs ++ [s.boxes[i]], by omega, hn.symm, ?_⟩
      · simp [hU0, hV0, e0_12, r0_11_0, r0_6_0, h]
      · simp [hU0, hV0, e0_12, r0_11_0, r0_6_0, h]
      simp [hU0, hV0, e0_12, r0_11_0, r0_6_0, hw, hset]
  · rw [List.take_of_length_le (by omega)] at hbs
    have hall := mapTo2_all (holIf fun b => ltB b.name n) (encBox false true) i s.boxes h
    have hbl : bs.length ≤ 4 := by omega
    rw [← hbs]
    rw [hall] at r0_6_0
    simp [hU0, hV0, e0_12, r0_11_0, r0_6_0, hb]
    refine loop_fr [1, 4, 6, 11] [(4,0)] (fun m st => ∃ (j : Nat) (cs : List Box), j + m = s.boxes.length ∧ cs = (s.boxes.take j).filter (fun b => ltB n b.name) ∧ st.env 13 = .int .i64 j ∧ st.rs (11,0) = some ⟨true, encStore false true ⟨bs ++ [B] ++ cs, s.valid + 1⟩⟩ ∧ st.rs (6,0) = some ⟨true, .agg [.lst true 41 7 (mapTo2 (holIf fun b => ltB b.name n || ltB n b.name) (holIf fun b => ltB b.name n) j s.boxes), .int .i64 s.valid]⟩) (s.boxes.length) _ ?_ ?_
    · exact ⟨0, [], by simp [hU0, hV0, e0_12, r0_11_0, r0_6_0]⟩
    clear hw hb
    rintro m1 ⟨env, rs⟩ hU1 hV1 ⟨j, cs, hj, hcs, e1_13, r1_11_0, r1_6_0⟩ ih1; simp at hU1 hV1 e1_13 r1_11_0 r1_6_0
    have hw := wrap_up (show j < 4611686018427387904 by omega)
    have hcl : cs.length ≤ s.boxes.length := by rw [hcs]; exact Nat.le_trans (List.length_filter_le ..) (by rw [List.length_take]; exact Nat.min_le_right ..)
    obtain ⟨hb, hb'⟩ := small_row hbl (Nat.le_trans hcl c3.2)
    simp [hU0, hV0, e0_12, r0_11_0, r0_6_0, hU1, hV1, e1_13, r1_11_0, r1_6_0]
    refine RB_dec ?_ ?_ <;> intro h
    · have hn := take_filter (fun b => ltB n b.name) s.boxes j h
      rw [← hcs] at hn
      cases hlt : ltB s.boxes[j].name n
      · have hg : holIf (fun b => ltB b.name n) s.boxes[j] = encBox false true s.boxes[j] := by simp [holIf, hlt]
        simp only [encBox] at hg
        cases hgt : ltB n s.boxes[j].name
        · simp [hgt] at hn
          have hsame := mapTo2_same (holIf fun b => ltB b.name n || ltB n b.name) (holIf fun b => ltB b.name n) j s.boxes h (by simp [holIf, hlt, hgt])
          have hnn := ltB_tri hlt hgt
          simp [hU0, hV0, e0_12, r0_11_0, r0_6_0, hU1, hV1, e1_13, r1_11_0, r1_6_0, h, hg, hlt, hgt, hnn, tmpAt]
          refine ih1 (m1 - 1) _ (by omega) ?_ ?_ ⟨j + 1, cs, by omega, hn.symm, ?_⟩
          · simp [hU0, hV0, e0_12, r0_11_0, r0_6_0, hU1, hV1, e1_13, r1_11_0, r1_6_0, h]
          · simp [hU0, hV0, e0_12, r0_11_0, r0_6_0, hU1, hV1, e1_13, r1_11_0, r1_6_0, h]
          simp [hU0, hV0, e0_12, r0_11_0, r0_6_0, hU1, hV1, e1_13, r1_11_0, r1_6_0, hw, hsame]
        · simp [hgt] at hn
          have hset := mapTo2_set (holIf fun b => ltB b.name n || ltB n b.name) (holIf fun b => ltB b.name n) j s.boxes h
          have hv : holIf (fun b => ltB b.name n || ltB n b.name) s.boxes[j] = hollow s.boxes[j] := by simp [holIf, hlt, hgt]
          rw [hv] at hset
          unfold hollow at hset
          have hnn : ¬ s.boxes[j].name = n := fun hc => by rw [hc, ltB_irrefl] at hgt; cases hgt
          simp [hU0, hV0, e0_12, r0_11_0, r0_6_0, hU1, hV1, e1_13, r1_11_0, r1_6_0, h, hg, hlt, hgt, hnn, hb, hb', tmpAt]
          refine ⟨trOk_unord (L := [(0, 2), (0, 3), (0, 4), (0, 5), (0, 6), (0, 7), (1, 2), (1, 3), (1, 4), (1, 5), (1, 6), (1, 7), (2, 4), (3, 4)]) (by kernel_rfl) (by simp) (by simp [indepAt, indep, spares, around, aside, pre, isSlc, Tr.feels, Tr.all, moves, bare, opData, isExt, cmpOf, Op.operands, Call.operands, mentL, ment, D.noUndefL, D.noUndef, pureE, hU0, hV0, e0_12, r0_11_0, r0_6_0, hU1, hV1, e1_13, r1_11_0, r1_6_0, h, hg]), ?_⟩
          refine ih1 (m1 - 1) _ (by omega) ?_ ?_ ⟨j + 1, cs ++ [s.boxes[j]], by omega, hn.symm, ?_⟩
          · simp [hU0, hV0, e0_12, r0_11_0, r0_6_0, hU1, hV1, e1_13, r1_11_0, r1_6_0, h]
          · simp [hU0, hV0, e0_12, r0_11_0, r0_6_0, hU1, hV1, e1_13, r1_11_0, r1_6_0, h]
          simp [hU0, hV0, e0_12, r0_11_0, r0_6_0, hU1, hV1, e1_13, r1_11_0, r1_6_0, hw, hset]
      · have hg : holIf (fun b => ltB b.name n) s.boxes[j] = hollow s.boxes[j] := by simp [holIf, hlt]
        unfold hollow at hg
        have hgt := ltB_asymm hlt
        simp [hgt] at hn
        have hsame := mapTo2_same (holIf fun b => ltB b.name n || ltB n b.name) (holIf fun b => ltB b.name n) j s.boxes h (by simp [holIf, hlt])
        simp [hU0, hV0, e0_12, r0_11_0, r0_6_0, hU1, hV1, e1_13, r1_11_0, r1_6_0, h, hg, hlt, hgt, tmpAt]
        refine ih1 (m1 - 1) _ (by omega) ?_ ?_ ⟨j + 1, cs, by omega, hn.symm, ?_⟩
        · simp [hU0, hV0, e0_12, r0_11_0, r0_6_0, hU1, hV1, e1_13, r1_11_0, r1_6_0, h]
        · simp [hU0, hV0, e0_12, r0_11_0, r0_6_0, hU1, hV1, e1_13, r1_11_0, r1_6_0, h]
        simp [hU0, hV0, e0_12, r0_11_0, r0_6_0, hU1, hV1, e1_13, r1_11_0, r1_6_0, hw, hsame]
    · rw [List.take_of_length_le (by omega)] at hcs
      subst hcs
      simp [hU0, hV0, e0_12, r0_11_0, r0_6_0, hU1, hV1, e1_13, r1_11_0, r1_6_0]
end Go.Proofs.YtomeglmblhfafaaGreatDoor
