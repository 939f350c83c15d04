/- Stores: right ones, their copies, where a box is. -/
import Derived.Test.YtomeglmblhfafaaGreatDoorcD9
import Derived.Test.YtomeglmblhfafaaGreatDoorcG1
set_option linter.unusedSectionVars false
set_option linter.all false
set_option linter.unusedVariables false
set_option linter.unusedSimpArgs false
set_option maxRecDepth 100000
namespace Go.Proofs.YtomeglmblhfafaaGreatDoor
open Go.Lft

def storeGood (v : Int) (q : Option Box) (b : Box) : Prop := boxOk b = true ∧ (match q with | none => True | some p => ltB p.name b.name = true) ∧ b.valid < v
noncomputable def storeGoodB (s : Store) (k : Nat) (b : Box) : Bool := @decide (storeGood s.valid (prevOf s.boxes k) b) (Classical.propDecidable _)
def StoresOK (s : Store) : Prop := upto s.boxes (fun k b => storeGoodB s k b) s.boxes.length
noncomputable instance (s : Store) : Decidable (StoresOK s) := Classical.propDecidable _
noncomputable def storeOk (s : Store) : Bool := decide (StoresOK s) && (within s.boxes.length 1 4 && within s.valid 2 9999)
theorem sz_box {s : Store} {b : Box} (h : b ∈ s.boxes) : szBox b ≤ szStore s := by
  have := tot_mem (fun (y : Box) => szBox y) h
  have hz : szStore s = s.boxes.length + tot (fun (y : Box) => szBox y) s.boxes := rfl
  omega
set_option maxHeartbeats 4000000 in
theorem eq_StoreOk (s : Store) (hl : szStore s ≤ 16777200) : lim E 49 [encStore false false s] = some (.bool (storeOk s), []) := by
  have hz : szStore s = s.boxes.length + tot (fun (y : Box) => szBox y) s.boxes := rfl
  refine lim_run (E := E) rfl Tryz.func49 rfl (by kernel_rfl) (by kernel_rfl) ?_
  simp [Tryz.f49, tmpAt]
  refine loop_fr [1, 6, 7] [(1,0)] (fun m st => ∃ (i : Nat), i + m = s.boxes.length ∧ upto s.boxes (fun k b => storeGoodB s k b) i ∧ st.env 8 = .int .i64 i) (s.boxes.length) _ ?_ ?_
  · exact ⟨0, by simp [upto_zero]⟩
  rintro m0 ⟨env, rs⟩ hU0 hV0 ⟨i, hi, ha, e0_8⟩ ih0; simp at hU0 hV0 e0_8
  have hw := wrap_up (show i < 4611686018427387904 by omega)
  simp [hU0, hV0, e0_8]
  refine RB_dec ?_ ?_ <;> intro h
  · have hszb := sz_box (List.getElem_mem h)
    have w1 := eq_BoxOk s.boxes[i] (by omega)
    try simp at w1
    by_cases hi0 : 0 < i
    · have hp : IntKind.i64.wrap ((i : Int) - 1) = ((i - 1 : Nat) : Int) := by rw [wrap_in (by omega) (by omega)]; omega
      have hlt : i - 1 < s.boxes.length := by omega
      have hi1 : i ≠ 0 := by omega
      have hmg : storeGoodB s i s.boxes[i] = @decide (boxOk s.boxes[i] = true ∧ ltB s.boxes[i-1].name s.boxes[i].name = true ∧ s.boxes[i].valid < s.valid) (Classical.propDecidable _) := by simp [storeGoodB, storeGood, prevOf, hi1, hlt]
      cases hb : boxOk s.boxes[i] <;> cases hn : ltB s.boxes[i-1].name s.boxes[i].name <;> by_cases hv : s.valid ≤ s.boxes[i].valid
      all_goals
        simp [hU0, hV0, e0_8, h, tmpAt, hi0, hp, hlt, w1, hb, hn, hv]
        first
        | (have hx : ¬ StoresOK s := upto_bad h (by clear ih0; show storeGoodB s i s.boxes[i] = false; rw [hmg]; simp [hb, hn] <;> omega)
           simp [storeOk, hx]; done)
        | (refine ih0 (m0 - 1) _ (by omega) ?_ ?_ ⟨i + 1, by omega, upto_next h ha (by clear ih0; show storeGoodB s i s.boxes[i] = true; rw [hmg]; simp [hb, hn] <;> omega), ?_⟩
           · simp [hU0, hV0, e0_8]
           · simp [hU0, hV0, e0_8]
           simp [hU0, hV0, e0_8, hw])
    · obtain rfl : i = 0 := by omega
      have hmg : storeGoodB s 0 s.boxes[0] = @decide (boxOk s.boxes[0] = true ∧ s.boxes[0].valid < s.valid) (Classical.propDecidable _) := by simp [storeGoodB, storeGood, prevOf]
      cases hb : boxOk s.boxes[0] <;> by_cases hv : s.valid ≤ s.boxes[0].valid
      all_goals
        simp [hU0, hV0, e0_8, h, tmpAt, w1, hb, hv]
        first
        | (have hx : ¬ StoresOK s := upto_bad h (by clear ih0; show storeGoodB s 0 s.boxes[0] = false; rw [hmg]; simp [hb] <;> omega)
           simp [storeOk, hx]; done)
        | (refine ih0 (m0 - 1) _ (by omega) ?_ ?_ ⟨0 + 1, by omega, upto_next h ha (by clear ih0; show storeGoodB s 0 s.boxes[0] = true; rw [hmg]; simp [hb] <;> omega), ?_⟩
           · simp [hU0, hV0, e0_8]
           · simp [hU0, hV0, e0_8]
           simp [hU0, hV0, e0_8, hw])
  · have hb : StoresOK s := upto_all h ha
    cases hq : within s.boxes.length 1 4 <;> simp [hU0, hV0, e0_8, hq, tmpAt, storeOk, hb]
set_option maxHeartbeats 4000000 in
theorem eq_sStoreOk (s : Store) (hl : szStore s ≤ 16777200) : lim E 146 [encStore false false s] = some (.bool (storeOk s), []) := by
  have hz : szStore s = s.boxes.length + tot (fun (y : Box) => szBox y) s.boxes := rfl
  refine lim_run (E := E) rfl Tryz.func146 rfl (by kernel_rfl) (by kernel_rfl) ?_
  simp [Tryz.f146, tmpAt]
  refine loop_fr [1] [(1,0)] (fun m st => ∃ (i : Nat), i + m = s.boxes.length ∧ upto s.boxes (fun k b => storeGoodB s k b) i ∧ st.env 3 = .int .i64 i) (s.boxes.length) _ ?_ ?_
  · exact ⟨0, by simp [upto_zero]⟩
  rintro m0 ⟨env, rs⟩ hU0 hV0 ⟨i, hi, ha, e0_3⟩ ih0; simp at hU0 hV0 e0_3
  have hw := wrap_up (show i < 4611686018427387904 by omega)
  simp [hU0, hV0, e0_3]
  refine RB_dec ?_ ?_ <;> intro h
  · have hszb := sz_box (List.getElem_mem h)
    have w1 := eq_sBoxOk s.boxes[i] (by omega)
    try simp at w1
    by_cases hi0 : 0 < i
    · have hp : IntKind.i64.wrap ((i : Int) - 1) = ((i - 1 : Nat) : Int) := by rw [wrap_in (by omega) (by omega)]; omega
      have hlt : i - 1 < s.boxes.length := by omega
      have hi1 : i ≠ 0 := by omega
      have hmg : storeGoodB s i s.boxes[i] = @decide (boxOk s.boxes[i] = true ∧ ltB s.boxes[i-1].name s.boxes[i].name = true ∧ s.boxes[i].valid < s.valid) (Classical.propDecidable _) := by simp [storeGoodB, storeGood, prevOf, hi1, hlt]
      cases hb : boxOk s.boxes[i] <;> cases hn : ltB s.boxes[i-1].name s.boxes[i].name <;> by_cases hv : s.valid ≤ s.boxes[i].valid
      all_goals
        simp [hU0, hV0, e0_3, h, tmpAt, hi0, hp, hlt, w1, hb, hn, hv]
        first
        | (have hx : ¬ StoresOK s := upto_bad h (by clear ih0; show storeGoodB s i s.boxes[i] = false; rw [hmg]; simp [hb, hn] <;> omega)
           simp [storeOk, hx]; done)
        | (refine ih0 (m0 - 1) _ (by omega) ?_ ?_ ⟨i + 1, by omega, upto_next h ha (by clear ih0; show storeGoodB s i s.boxes[i] = true; rw [hmg]; simp [hb, hn] <;> omega), ?_⟩
           · simp [hU0, hV0, e0_3]
           · simp [hU0, hV0, e0_3]
           simp [hU0, hV0, e0_3, hw])
    · obtain rfl : i = 0 := by omega
      have hmg : storeGoodB s 0 s.boxes[0] = @decide (boxOk s.boxes[0] = true ∧ s.boxes[0].valid < s.valid) (Classical.propDecidable _) := by simp [storeGoodB, storeGood, prevOf]
      cases hb : boxOk s.boxes[0] <;> by_cases hv : s.valid ≤ s.boxes[0].valid
      all_goals
        simp [hU0, hV0, e0_3, h, tmpAt, w1, hb, hv]
        first
        | (have hx : ¬ StoresOK s := upto_bad h (by clear ih0; show storeGoodB s 0 s.boxes[0] = false; rw [hmg]; simp [hb] <;> omega)
           simp [storeOk, hx]; done)
        | (refine ih0 (m0 - 1) _ (by omega) ?_ ?_ ⟨0 + 1, by omega, upto_next h ha (by clear ih0; show storeGoodB s 0 s.boxes[0] = true; rw [hmg]; simp [hb] <;> omega), ?_⟩
           · simp [hU0, hV0, e0_3]
           · simp [hU0, hV0, e0_3]
           simp [hU0, hV0, e0_3, hw])
  · have hb : StoresOK s := upto_all h ha
    cases hq : within s.boxes.length 1 4 <;> simp [hU0, hV0, e0_3, hq, tmpAt, storeOk, hb]
theorem eq_IndexFuncBox (xs : List Box) (f : Nat) (x : D) (p : Box → Bool) (hmd : E.md f = []) (hf : ∀ m ∈ xs, lim E f [encBox false false m, .pto x] = some (.bool (p m), [])) (hl : xs.length ≤ 16777216) : lim E 120 [.lst false 41 7 (xs.map (encBox false false)), .fn f [.pto x]] = some (.int .i64 (idxOf p xs), []) := by
  refine lim_run (E := E) rfl Tryz.func120 rfl (by kernel_rfl) (by kernel_rfl) ?_
  simp [Tryz.f120, tmpAt]
  refine loop_fr [0, 1, 7] [] (fun m st => ∃ (i : Nat), i + m = xs.length ∧ (xs.take i).any p = false ∧ st.env 8 = .int .i64 i) (xs.length) _ ?_ ?_
  · exact ⟨0, by simp⟩
  rintro m0 ⟨env, rs⟩ hU0 hV0 ⟨i, hi, hs, e0_8⟩ ih0; simp at hU0 e0_8; clear hV0
  have hw := wrap_up (show i < 4611686018427387904 by omega)
  simp [hU0, e0_8]
  refine RB_dec ?_ ?_ <;> intro h
  · have w := hf xs[i] (List.getElem_mem h)
    simp at w
    simp [hU0, e0_8, h, hmd, w]
    refine RB_split ?_ ?_ <;> intro h2 <;> simp [hU0, e0_8, h]
    · exact (idxOf_at h hs h2).symm
    · refine ih0 (m0 - 1) _ (by omega) ?_ ?_ ⟨i + 1, by omega, any_next h hs h2, ?_⟩
      · simp [hU0, e0_8]
      · simp [hU0, e0_8]
      simp [hU0, e0_8, hw]
  · simp [hU0, e0_8, h]
    exact (idxOf_none (any_take h hs)).symm
def isNamed (n : S) (b : Box) : Bool := decide (b.name = n)
theorem eq_boxAt1 (b : Box) (n : S) : lim E 121 [encBox false false b, .pto (.str n)] = some (.bool (isNamed n b), []) := by
  refine lim_run (E := E) rfl Tryz.func121 rfl (by kernel_rfl) (by kernel_rfl) ?_
  simp [Tryz.f121, tmpAt]
  rfl
theorem eq_boxAt (s : Store) (n : S) (hl : s.boxes.length ≤ 16777216) : lim E 66 [encStore false false s, .str n] = some (.int .i64 (idxOf (isNamed n) s.boxes), []) := by
  have w := eq_IndexFuncBox s.boxes 121 (.str n) (isNamed n) rfl (fun m _ => eq_boxAt1 m n) hl
  try simp at w
  refine lim_run (E := E) rfl Tryz.func66 rfl (by kernel_rfl) (by kernel_rfl) ?_
  simp [Tryz.f66, tmpAt, w]
/-! ### Where a box is -/
def boxAt (s : Store) (n : S) : Box × Bool := match s.boxes.find? (isNamed n) with | some b => (b, true) | none => (⟨[], 0, 0, 0, [], [], 0⟩, false)
theorem idx_find {α : Type} {p : α → Bool} : ∀ {xs : List α}, (xs.find? p = none ∧ idxOf p xs = -1) ∨ ∃ (i : Nat) (h : i < xs.length), xs.find? p = some xs[i] ∧ idxOf p xs = (i : Int) ∧ p xs[i] = true ∧ (xs.take i).any p = false := by
  intro xs
  cases h : xs.any p with
  | false =>
    left
    refine ⟨?_, idxOf_none h⟩
    rw [List.find?_eq_none]
    intro x hx
    rw [List.any_eq_false] at h
    exact h x hx
  | true =>
    right
    have h2 : xs.findIdx? p ≠ none := by
      intro hn
      rw [List.findIdx?_eq_none_iff] at hn
      rw [List.any_eq_true] at h
      obtain ⟨x, hx, hp⟩ := h
      rw [hn x hx] at hp; cases hp
    obtain ⟨i, hi⟩ := Option.ne_none_iff_exists'.1 h2
    obtain ⟨h3, h4, h5⟩ := List.findIdx?_eq_some_iff_getElem.1 hi
    refine ⟨i, h3, ?_, by simp [idxOf, hi], h4, ?_⟩
    · rw [List.find?_eq_some_iff_getElem]
      exact ⟨h4, i, h3, rfl, fun j hj => by simpa using h5 j hj⟩
    · rw [List.any_eq_false]
      intro x hx
      rw [List.mem_take_iff_getElem] at hx
      obtain ⟨j, hj, rfl⟩ := hx
      exact h5 j (by omega)
theorem eq_BoxAt (s : Store) (n : S) (hl : szStore s ≤ 16777200) : lim E 71 [encStore false false s, .str n] = some (.tup [encBox false true (boxAt s n).1, .bool (boxAt s n).2], []) := by
  have hz : szStore s = s.boxes.length + tot (fun (y : Box) => szBox y) s.boxes := rfl
  have w := eq_boxAt s n (by omega)
  try simp at w
  rcases idx_find (p := isNamed n) (xs := s.boxes) with ⟨h1, h2⟩ | ⟨i, hi, h1, h2, h3, h4⟩
  · rw [h2] at w
    refine lim_run (E := E) rfl Tryz.func71 rfl (by kernel_rfl) (by kernel_rfl) ?_
    simp [Tryz.f71, tmpAt, w]
    simp [boxAt, h1]
  · rw [h2] at w
    have hszb := sz_box (List.getElem_mem hi)
    have w2 := eq_copyBox s.boxes[i] (by omega)
    try simp at w2
    have hneg : ¬ (i : Int) < 0 := by omega
    simp only [boxAt, h1]
    refine lim_run (E := E) rfl Tryz.func71 rfl (by kernel_rfl) (by kernel_rfl) ?_
    simp [Tryz.f71, tmpAt, w, w2, hi, hneg]
theorem eq_sBoxAt (s : Store) (n : S) (hl : szStore s ≤ 16777200) : lim E 12 [encStore false false s, .str n] = some (.tup [encBox false true (boxAt s n).1, .bool (boxAt s n).2], []) := by
  have hz : szStore s = s.boxes.length + tot (fun (y : Box) => szBox y) s.boxes := rfl
  refine lim_run (E := E) rfl Tryz.func12 rfl (by kernel_rfl) (by kernel_rfl) ?_
  simp [Tryz.f12, tmpAt]
  refine loop_fr [1, 2, 4] [(2,0), (4,0)] (fun m st => ∃ (i : Nat), i + m = s.boxes.length ∧ (s.boxes.take i).any (isNamed n) = false ∧ st.env 6 = .int .i64 i) (s.boxes.length) _ ?_ ?_
  · exact ⟨0, by simp⟩
  rintro m0 ⟨env, rs⟩ hU0 hV0 ⟨i, hi, hs, e0_6⟩ ih0; simp at hU0 hV0 e0_6
  have hw := wrap_up (show i < 4611686018427387904 by omega)
  simp [hU0, hV0, e0_6]
  refine RB_dec ?_ ?_ <;> intro h
  · have hszb := sz_box (List.getElem_mem h)
    have w2 := eq_l08Copy s.boxes[i] (by omega)
    try simp at w2
    simp [hU0, hV0, e0_6, h, tmpAt]
    refine RB_dec ?_ ?_ <;> intro hn
    · have hf : s.boxes.find? (isNamed n) = some s.boxes[i] := by
        rw [List.find?_eq_some_iff_getElem]
        refine ⟨by simp [isNamed, hn], i, h, rfl, fun j hj => ?_⟩
        rw [List.any_eq_false] at hs
        simpa using hs s.boxes[j] (by rw [List.mem_take_iff_getElem]; exact ⟨j, by omega, rfl⟩)
      simp [hU0, hV0, e0_6, h, w2, boxAt, hf]
    · simp [hU0, hV0, e0_6]
      refine ih0 (m0 - 1) _ (by omega) ?_ ?_ ⟨i + 1, by omega, any_next h hs (by simp [isNamed, hn]), ?_⟩
      · simp [hU0, hV0, e0_6]
      · simp [hU0, hV0, e0_6]
      simp [hU0, hV0, e0_6, hw]
  · have hf : s.boxes.find? (isNamed n) = none := by
      rw [List.find?_eq_none]
      have := any_take h hs
      rw [List.any_eq_false] at this
      exact this
    simp [hU0, hV0, e0_6, boxAt, hf]
set_option maxHeartbeats 1000000 in
theorem eq_copyStore (s : Store) (hl : szStore s ≤ 1048576) : lim E 50 [encStore false false s] = some (encStore false true s, []) := by
  have hz : szStore s = s.boxes.length + tot (fun (y : Box) => szBox y) s.boxes := rfl
  refine lim_run (E := E) rfl Tryz.func50 rfl (by kernel_rfl) (by kernel_rfl) ?_
  simp [Tryz.f50, tmpAt]
  refine loop_fr [2, 3, 10, 11] [(2,0)] (fun m st => ∃ (i : Nat) (bs : List Box), i + m = s.boxes.length ∧ bs = s.boxes.take i ∧ st.env 12 = .int .i64 i ∧ st.rs (3,0) = some ⟨true, encStore false true ⟨bs, s.valid⟩⟩) (s.boxes.length) _ ?_ ?_
  · exact ⟨0, [], by simp⟩
  rintro m0 ⟨env, rs⟩ hU0 hV0 ⟨i, bs, hi, hbs, e0_12, r0_3_0⟩ ih0; simp at hU0 hV0 e0_12 r0_3_0
  have hw := wrap_up (show i < 4611686018427387904 by omega)
  have hbl : bs.length ≤ i := by rw [hbs]; simp; omega
  simp [hU0, hV0, e0_12, r0_3_0]
  refine RB_dec ?_ ?_ <;> intro h
  · have hszb := sz_box (List.getElem_mem h)
    have w2 := eq_copyBox s.boxes[i] (by omega)
    try simp at w2
    have hb : (bs.length + 1) * 96 ≤ 140737488351232 := by omega
    have hn : s.boxes.take (i + 1) = bs ++ [s.boxes[i]] := by rw [hbs, List.take_succ_eq_append_getElem h]
    simp [hU0, hV0, e0_12, r0_3_0, h, w2, hb, tmpAt]
    refine ⟨trOk_unord (L := [(0, 2), (0, 3), (0, 4), (1, 2), (1, 3), (1, 4)]) (by kernel_rfl) (by simp) (by simp [indepAt, indep, spares, around, aside, pre, isSlc, Tr.feels, Tr.all, moves, bare, opData, isExt, cmpOf, Op.operands, Call.operands, mentL, ment, D.noUndefL, D.noUndef, pureE, hU0, hV0, e0_12, r0_3_0, w2]), ?_⟩
    refine ih0 (m0 - 1) _ (by omega) ?_ ?_ ⟨i + 1, bs ++ [s.boxes[i]], by omega, hn.symm, ?_⟩
    · simp [hU0, hV0, e0_12, r0_3_0, h]
    · simp [hU0, hV0, e0_12, r0_3_0, h]
    simp [hU0, hV0, e0_12, r0_3_0, hw]
  · rw [List.take_of_length_le (by omega)] at hbs
    subst hbs
    simp [hU0, hV0, e0_12, r0_3_0]
set_option maxHeartbeats 1000000 in
theorem eq_l09Copy (s : Store) (hl : szStore s ≤ 1048576) : lim E 145 [encStore false false s] = some (encStore false true s, []) := by
  have hz : szStore s = s.boxes.length + tot (fun (y : Box) => szBox y) s.boxes := rfl
  refine lim_run (E := E) rfl Tryz.func145 rfl (by kernel_rfl) (by kernel_rfl) ?_
  simp [Tryz.f145, tmpAt]
  refine loop_fr [1, 2, 3] [(1,0), (2,0)] (fun m st => ∃ (i : Nat) (bs : List Box), i + m = s.boxes.length ∧ bs = s.boxes.take i ∧ st.env 4 = .int .i64 i ∧ st.rs (3,0) = some ⟨true, encStore false true ⟨bs, s.valid⟩⟩) (s.boxes.length) _ ?_ ?_
  · exact ⟨0, [], by simp⟩
  rintro m0 ⟨env, rs⟩ hU0 hV0 ⟨i, bs, hi, hbs, e0_4, r0_3_0⟩ ih0; simp at hU0 hV0 e0_4 r0_3_0
  have hw := wrap_up (show i < 4611686018427387904 by omega)
  have hbl : bs.length ≤ i := by rw [hbs]; simp; omega
  simp [hU0, hV0, e0_4, r0_3_0]
  refine RB_dec ?_ ?_ <;> intro h
  · have hszb := sz_box (List.getElem_mem h)
    have w2 := eq_l08Copy s.boxes[i] (by omega)
    try simp at w2
    have hb : (bs.length + 1) * 96 ≤ 140737488351232 := by omega
    have hn : s.boxes.take (i + 1) = bs ++ [s.boxes[i]] := by rw [hbs, List.take_succ_eq_append_getElem h]
    simp [hU0, hV0, e0_4, r0_3_0, h, w2, hb, tmpAt]
    refine ⟨trOk_unord (L := [(0, 2), (0, 3), (0, 4), (0, 5), (0, 6), (0, 7), (0, 8), (1, 2), (1, 3), (1, 4), (1, 5), (1, 6), (1, 7), (1, 8), (2, 4), (3, 4)]) (by kernel_rfl) (by simp) (by simp [indepAt, indep, spares, around, aside, pre, isSlc, Tr.feels, Tr.all, moves, bare, opData, isExt, cmpOf, Op.operands, Call.operands, mentL, ment, D.noUndefL, D.noUndef, pureE, hU0, hV0, e0_4, r0_3_0, w2]), ?_⟩
    refine ih0 (m0 - 1) _ (by omega) ?_ ?_ ⟨i + 1, bs ++ [s.boxes[i]], by omega, hn.symm, ?_⟩
    · simp [hU0, hV0, e0_4, r0_3_0, h]
    · simp [hU0, hV0, e0_4, r0_3_0, h]
    simp [hU0, hV0, e0_4, r0_3_0, hw]
  · rw [List.take_of_length_le (by omega)] at hbs
    subst hbs
    simp [hU0, hV0, e0_4, r0_3_0]
end Go.Proofs.YtomeglmblhfafaaGreatDoor
