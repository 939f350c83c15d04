/- Views: their Uids; whether they are right. -/
import Derived.Test.YtomeglmblhfafaaGreatDoorcD14
set_option linter.unusedSectionVars false
set_option linter.all false
set_option linter.unusedVariables false
set_option linter.unusedSimpArgs false
set_option maxRecDepth 100000
namespace Go.Proofs.YtomeglmblhfafaaGreatDoor
open Go.Lft

def uidsL (b : Box) : List Int := b.mails.map (·.uid)
def viewOf (b : Box) : View := ⟨b.name, b.valid, uidsL b, b.mod⟩
@[simp] theorem uidsL_len (b : Box) : (uidsL b).length = b.mails.length := by simp [uidsL]
theorem take_map_next {α β : Type} (f : α → β) (xs : List α) (i : Nat) (h : i < xs.length) : (xs.take (i + 1)).map f = (xs.take i).map f ++ [f xs[i]] := by
  rw [List.take_succ_eq_append_getElem h, List.map_append]; rfl
theorem eq_uidsOf (b : Box) (hl : b.mails.length ≤ 16777216) : lim E 226 [encBox false false b] = some (.lst true 3 1 ((uidsL b).map (.int .i64)), []) := by
  refine lim_run (E := E) rfl Tryz.func226 rfl (by kernel_rfl) (by kernel_rfl) ?_
  simp [Tryz.f226, tmpAt]
  refine loop_fr [8, 9] [(1,0)] (fun m st => ∃ (i r : Nat) (us : List Int), i + m = b.mails.length ∧ (r = 6 ∨ r = 18) ∧ us = (b.mails.take i).map (·.uid) ∧ st.env 3 = .slc (r,0) [] 0 us.length ∧ st.rs (r,0) = some ⟨false, .lst true 3 1 (us.map (.int .i64))⟩ ∧ st.env 10 = .int .i64 i) (b.mails.length) _ ?_ ?_
  · exact ⟨0, 6, [], by simp⟩
  rintro m0 ⟨env, rs⟩ hU0 hV0 ⟨i, r, us, hi, hr, hus, e3, q3, e0_10⟩ ih0; simp at hU0 hV0 e0_10
  simp at e3 q3
  have hw := wrap_up (show i < 4611686018427387904 by omega)
  have hul : us.length ≤ i := by rw [hus]; simp; omega
  have hb : (us.length + 1) * 8 ≤ 140737488351232 := by omega
  simp [hU0, hV0, e0_10]
  refine RB_dec ?_ ?_ <;> intro h
  · have hn := take_map_next (fun m : Mail => m.uid) b.mails i h
    rcases hr with rfl | rfl
    all_goals
      simp [hU0, hV0, e0_10, h, e3, q3, hb]
      repeat (refine And.intro (by first | omega | (simp; omega)) ?_)
      refine ih0 (m0 - 1) _ (by omega) ?_ ?_ ⟨i + 1, 18, us ++ [b.mails[i].uid], by omega, by simp, by rw [hus]; exact hn.symm, ?_⟩
      · simp [hU0, hV0, e0_10, h]
      · simp [hU0, hV0, e0_10, h]
      simp [hU0, hV0, e0_10, hw]
  · rw [List.take_of_length_le (by omega)] at hus
    rcases hr with rfl | rfl
    all_goals
      simp [hU0, hV0, e0_10, e3, q3]
      rw [hus]; rfl
theorem eq_ViewOf (b : Box) (hl : b.mails.length ≤ 16777216) : lim E 174 [encBox false false b] = some (encView true (viewOf b), []) := by
  have w := eq_uidsOf b hl
  try simp at w
  refine lim_run (E := E) rfl Tryz.func174 rfl (by kernel_rfl) (by kernel_rfl) ?_
  simp [Tryz.f174, tmpAt, w]
  refine ⟨trOk_unord (L := [(0, 2), (0, 3), (0, 4), (0, 5), (0, 6), (0, 7), (1, 2), (1, 3), (1, 4), (1, 5), (1, 6), (1, 7), (2, 4), (2, 5), (2, 6), (2, 7), (3, 4), (3, 5), (3, 6), (3, 7), (4, 6), (4, 7), (5, 6), (5, 7)]) (by kernel_rfl) (by simp) (by simp [indepAt, indep, spares, around, aside, pre, isSlc, Tr.feels, Tr.all, moves, bare, opData, isExt, cmpOf, Op.operands, Call.operands, mentL, ment, D.noUndefL, D.noUndef, pureE]), ?_⟩
  simp [viewOf]
theorem eq_fetchOf (m : Mail) (p : Int) : lim E 172 [encMail m, .int .i64 p] = some (encLine false true ⟨3, p, m.uid, m.flags, m.mod, [], false⟩, []) := by
  refine lim_run (E := E) rfl Tryz.func172 rfl (by kernel_rfl) (by kernel_rfl) ?_
  simp [Tryz.f172, tmpAt]
theorem eq_EqualInts (xs ys : List Int) (h1 : xs.length ≤ 16777216) : lim E 187 [.lst false 3 1 (xs.map (.int .i64)), .lst false 3 1 (ys.map (.int .i64))] = some (.bool (decide (xs = ys)), []) := by
  refine lim_run (E := E) rfl Tryz.func187 rfl (by kernel_rfl) (by kernel_rfl) ?_
  simp [Tryz.f187, tmpAt]
  refine RB_ndec ?_ ?_ <;> intro hl
  · simp
    intro hc; subst hc; exact hl rfl
  · simp
    have hl : xs.length = ys.length := by omega
    refine loop_fr [0, 1, 12] [] (fun m st => ∃ (i : Nat), i + m = xs.length ∧ xs.take i = ys.take i ∧ st.env 13 = .int .i64 i) (xs.length) _ ?_ ?_
    · exact ⟨0, by simp⟩
    rintro m0 ⟨env, rs⟩ hU0 hV0 ⟨i, hi, hs, e0_13⟩ ih0; simp at hU0 e0_13; clear hV0
    have hw := wrap_up (show i < 4611686018427387904 by omega)
    simp [hU0, e0_13]
    refine RB_dec ?_ ?_ <;> intro h
    · have h' : i < ys.length := by omega
      simp [hU0, e0_13, h, h']
      refine RB_ndec ?_ ?_ <;> intro h2 <;> simp [hU0, e0_13]
      · intro hc; subst hc; exact h2 rfl
      · refine ih0 (m0 - 1) _ (by omega) ?_ ?_ ⟨i + 1, by omega, take_eq hs h h' h2, ?_⟩
        · simp [hU0, e0_13]
        · simp [hU0, e0_13]
        simp [hU0, e0_13, hw]
    · simp [hU0, e0_13, h]
      exact take_all hs h hl
/-! ### Right views -/
def uidGood (q : Option Int) (u : Int) : Bool := within u 1 9999 && (match q with | none => true | some q => decide (q < u))
def UidsOK (us : List Int) : Prop := upto us (fun k u => uidGood (prevOf us k) u) us.length
noncomputable instance (us : List Int) : Decidable (UidsOK us) := Classical.propDecidable _
noncomputable def viewOk (v : View) : Bool := decide (UidsOK v.uids) && (boxName v.box && (within v.valid 1 9999 && (decide ((v.uids.length : Int) ≤ 30) && within v.mod 1 100000)))
@[simp] theorem eq_isMod (n : Int) : lim E 235 [.int .i64 n] = some (.bool (within n 1 100000), []) := by
  refine lim_run (E := E) rfl Tryz.func235 rfl (by kernel_rfl) (by kernel_rfl) ?_
  simp [Tryz.f235, tmpAt]
theorem eq_ViewOk (v : View) (hl : szView v ≤ 16777216) : lim E 185 [encView false v] = some (.bool (viewOk v), []) := by
  have hz : szView v = v.box.length + v.uids.length := rfl
  have wn := eq_BoxName v.box (by omega)
  refine lim_run (E := E) rfl Tryz.func185 rfl (by kernel_rfl) (by kernel_rfl) ?_
  simp [Tryz.f185, tmpAt]
  refine loop_fr [1, 6, 7] [(1,0)] (fun m st => ∃ (i : Nat), i + m = v.uids.length ∧ upto v.uids (fun k u => uidGood (prevOf v.uids k) u) i ∧ st.env 8 = .int .i64 i) (v.uids.length) _ ?_ ?_
  · exact ⟨0, by simp [upto_zero]⟩
  rintro m0 ⟨env, rs⟩ hU0 hV0 ⟨i, hi, ha, e0_8⟩ ih0; simp at hU0 hV0 e0_8
  have hw := wrap_up (show i < 4611686018427387904 by omega)
  simp [hU0, hV0, e0_8]
  refine RB_dec ?_ ?_ <;> intro h
  · by_cases hi0 : 0 < i
    · have hp : IntKind.i64.wrap ((i : Int) - 1) = ((i - 1 : Nat) : Int) := by rw [wrap_in (by omega) (by omega)]; omega
      have hlt : i - 1 < v.uids.length := by omega
      have hi1 : i ≠ 0 := by omega
      have hmg : uidGood (prevOf v.uids i) v.uids[i] = uidGood (some v.uids[i-1]) v.uids[i] := by simp [prevOf, hi1, hlt]
      simp [hU0, hV0, e0_8, h, tmpAt, hi0, hp, hlt]
      repeat' first | (refine RT_dec ?_ ?_ <;> intro hg <;> try simp [tmpAt, hg, hU0, hV0, e0_8, h, hw, hp, hlt, hi0]) | (refine RT_split ?_ ?_ <;> intro hg <;> (try simp at hg) <;> try simp [tmpAt, hg, hU0, hV0, e0_8, h, hw, hp, hlt, hi0]) | (refine RB_dec ?_ ?_ <;> intro hg <;> try simp [tmpAt, hg, hU0, hV0, e0_8, h, hw, hp, hlt, hi0]) | (refine RB_ndec ?_ ?_ <;> intro hg <;> try simp [tmpAt, hg, hU0, hV0, e0_8, h, hw, hp, hlt, hi0]) | (refine RB_split ?_ ?_ <;> intro hg <;> (try simp at hg) <;> try simp [tmpAt, hg, hU0, hV0, e0_8, h, hw, hp, hlt, hi0]) | (refine RG_dec ?_ ?_ <;> intro hg <;> try simp [tmpAt, hg, hU0, hV0, e0_8, h, hw, hp, hlt, hi0]) | (refine RG_split ?_ ?_ <;> intro hg <;> (try simp at hg) <;> try simp [tmpAt, hg, hU0, hV0, e0_8, h, hw, hp, hlt, hi0])
      all_goals first
        | (have hb : ¬ UidsOK v.uids := upto_bad h (by clear ih0; show uidGood (prevOf v.uids i) v.uids[i] = false; rw [hmg]; simp_all [uidGood] <;> omega)
           simp [viewOk, hb]; done)
        | (refine ih0 (m0 - 1) _ (by omega) ?_ ?_ ⟨i + 1, by omega, upto_next h ha (by clear ih0; show uidGood (prevOf v.uids i) v.uids[i] = true; rw [hmg]; simp_all [uidGood] <;> omega), ?_⟩
           · simp [hU0, hV0, e0_8]
           · simp [hU0, hV0, e0_8]
           simp [hU0, hV0, e0_8, hw])
    · obtain rfl : i = 0 := by omega
      have hmg : uidGood (prevOf v.uids 0) v.uids[0] = uidGood none v.uids[0] := by simp [prevOf]
      simp [hU0, hV0, e0_8, h, tmpAt]
      repeat' first | (refine RT_dec ?_ ?_ <;> intro hg <;> try simp [tmpAt, hg, hU0, hV0, e0_8, h, hw]) | (refine RT_split ?_ ?_ <;> intro hg <;> (try simp at hg) <;> try simp [tmpAt, hg, hU0, hV0, e0_8, h, hw]) | (refine RB_dec ?_ ?_ <;> intro hg <;> try simp [tmpAt, hg, hU0, hV0, e0_8, h, hw]) | (refine RB_ndec ?_ ?_ <;> intro hg <;> try simp [tmpAt, hg, hU0, hV0, e0_8, h, hw]) | (refine RB_split ?_ ?_ <;> intro hg <;> (try simp at hg) <;> try simp [tmpAt, hg, hU0, hV0, e0_8, h, hw]) | (refine RG_dec ?_ ?_ <;> intro hg <;> try simp [tmpAt, hg, hU0, hV0, e0_8, h, hw]) | (refine RG_split ?_ ?_ <;> intro hg <;> (try simp at hg) <;> try simp [tmpAt, hg, hU0, hV0, e0_8, h, hw])
      all_goals first
        | (have hb : ¬ UidsOK v.uids := upto_bad h (by clear ih0; show uidGood (prevOf v.uids 0) v.uids[0] = false; rw [hmg]; simp_all [uidGood] <;> omega)
           simp [viewOk, hb]; done)
        | (refine ih0 (m0 - 1) _ (by omega) ?_ ?_ ⟨0 + 1, by omega, upto_next h ha (by clear ih0; show uidGood (prevOf v.uids 0) v.uids[0] = true; rw [hmg]; simp_all [uidGood] <;> omega), ?_⟩
           · simp [hU0, hV0, e0_8]
           · simp [hU0, hV0, e0_8]
           simp [hU0, hV0, e0_8, hw])
  · have hb : UidsOK v.uids := upto_all h ha
    simp [hU0, hV0, e0_8, wn]
    repeat' first | (refine RT_dec ?_ ?_ <;> intro hg <;> try simp [tmpAt, hg, hU0, hV0, e0_8, wn]) | (refine RT_split ?_ ?_ <;> intro hg <;> (try simp at hg) <;> try simp [tmpAt, hg, hU0, hV0, e0_8, wn]) | (refine RB_dec ?_ ?_ <;> intro hg <;> try simp [tmpAt, hg, hU0, hV0, e0_8, wn]) | (refine RB_ndec ?_ ?_ <;> intro hg <;> try simp [tmpAt, hg, hU0, hV0, e0_8, wn]) | (refine RB_split ?_ ?_ <;> intro hg <;> (try simp at hg) <;> try simp [tmpAt, hg, hU0, hV0, e0_8, wn]) | (refine RG_dec ?_ ?_ <;> intro hg <;> try simp [tmpAt, hg, hU0, hV0, e0_8, wn]) | (refine RG_split ?_ ?_ <;> intro hg <;> (try simp at hg) <;> try simp [tmpAt, hg, hU0, hV0, e0_8, wn])
    all_goals (clear ih0; simp_all [viewOk] <;> (intros; omega))
theorem eq_sViewOk (v : View) (hl : szView v ≤ 16777216) : lim E 243 [encView false v] = some (.bool (viewOk v), []) := by
  have hz : szView v = v.box.length + v.uids.length := rfl
  have wn := eq_sBoxName v.box (by omega)
  refine lim_run (E := E) rfl Tryz.func243 rfl (by kernel_rfl) (by kernel_rfl) ?_
  simp [Tryz.f243, tmpAt]
  refine loop_fr [1] [(1,0)] (fun m st => ∃ (i : Nat), i + m = v.uids.length ∧ upto v.uids (fun k u => uidGood (prevOf v.uids k) u) i ∧ st.env 3 = .int .i64 i) (v.uids.length) _ ?_ ?_
  · exact ⟨0, by simp [upto_zero]⟩
  rintro m0 ⟨env, rs⟩ hU0 hV0 ⟨i, hi, ha, e0_3⟩ ih0; simp at hU0 hV0 e0_3
  have hw := wrap_up (show i < 4611686018427387904 by omega)
  simp [hU0, hV0, e0_3]
  refine RB_dec ?_ ?_ <;> intro h
  · by_cases hi0 : 0 < i
    · have hp : IntKind.i64.wrap ((i : Int) - 1) = ((i - 1 : Nat) : Int) := by rw [wrap_in (by omega) (by omega)]; omega
      have hlt : i - 1 < v.uids.length := by omega
      have hi1 : i ≠ 0 := by omega
      have hmg : uidGood (prevOf v.uids i) v.uids[i] = uidGood (some v.uids[i-1]) v.uids[i] := by simp [prevOf, hi1, hlt]
      simp [hU0, hV0, e0_3, h, tmpAt, hi0, hp, hlt]
      repeat' first | (refine RT_dec ?_ ?_ <;> intro hg <;> try simp [tmpAt, hg, hU0, hV0, e0_3, h, hw, hp, hlt, hi0]) | (refine RT_split ?_ ?_ <;> intro hg <;> (try simp at hg) <;> try simp [tmpAt, hg, hU0, hV0, e0_3, h, hw, hp, hlt, hi0]) | (refine RB_dec ?_ ?_ <;> intro hg <;> try simp [tmpAt, hg, hU0, hV0, e0_3, h, hw, hp, hlt, hi0]) | (refine RB_ndec ?_ ?_ <;> intro hg <;> try simp [tmpAt, hg, hU0, hV0, e0_3, h, hw, hp, hlt, hi0]) | (refine RB_split ?_ ?_ <;> intro hg <;> (try simp at hg) <;> try simp [tmpAt, hg, hU0, hV0, e0_3, h, hw, hp, hlt, hi0]) | (refine RG_dec ?_ ?_ <;> intro hg <;> try simp [tmpAt, hg, hU0, hV0, e0_3, h, hw, hp, hlt, hi0]) | (refine RG_split ?_ ?_ <;> intro hg <;> (try simp at hg) <;> try simp [tmpAt, hg, hU0, hV0, e0_3, h, hw, hp, hlt, hi0])
      all_goals first
        | (have hb : ¬ UidsOK v.uids := upto_bad h (by clear ih0; show uidGood (prevOf v.uids i) v.uids[i] = false; rw [hmg]; simp_all [uidGood] <;> omega)
           simp [viewOk, hb]; done)
        | (refine ih0 (m0 - 1) _ (by omega) ?_ ?_ ⟨i + 1, by omega, upto_next h ha (by clear ih0; show uidGood (prevOf v.uids i) v.uids[i] = true; rw [hmg]; simp_all [uidGood] <;> omega), ?_⟩
           · simp [hU0, hV0, e0_3]
           · simp [hU0, hV0, e0_3]
           simp [hU0, hV0, e0_3, hw])
    · obtain rfl : i = 0 := by omega
      have hmg : uidGood (prevOf v.uids 0) v.uids[0] = uidGood none v.uids[0] := by simp [prevOf]
      simp [hU0, hV0, e0_3, h, tmpAt]
      repeat' first | (refine RT_dec ?_ ?_ <;> intro hg <;> try simp [tmpAt, hg, hU0, hV0, e0_3, h, hw]) | (refine RT_split ?_ ?_ <;> intro hg <;> (try simp at hg) <;> try simp [tmpAt, hg, hU0, hV0, e0_3, h, hw]) | (refine RB_dec ?_ ?_ <;> intro hg <;> try simp [tmpAt, hg, hU0, hV0, e0_3, h, hw]) | (refine RB_ndec ?_ ?_ <;> intro hg <;> try simp [tmpAt, hg, hU0, hV0, e0_3, h, hw]) | (refine RB_split ?_ ?_ <;> intro hg <;> (try simp at hg) <;> try simp [tmpAt, hg, hU0, hV0, e0_3, h, hw]) | (refine RG_dec ?_ ?_ <;> intro hg <;> try simp [tmpAt, hg, hU0, hV0, e0_3, h, hw]) | (refine RG_split ?_ ?_ <;> intro hg <;> (try simp at hg) <;> try simp [tmpAt, hg, hU0, hV0, e0_3, h, hw])
      all_goals first
        | (have hb : ¬ UidsOK v.uids := upto_bad h (by clear ih0; show uidGood (prevOf v.uids 0) v.uids[0] = false; rw [hmg]; simp_all [uidGood] <;> omega)
           simp [viewOk, hb]; done)
        | (refine ih0 (m0 - 1) _ (by omega) ?_ ?_ ⟨0 + 1, by omega, upto_next h ha (by clear ih0; show uidGood (prevOf v.uids 0) v.uids[0] = true; rw [hmg]; simp_all [uidGood] <;> omega), ?_⟩
           · simp [hU0, hV0, e0_3]
           · simp [hU0, hV0, e0_3]
           simp [hU0, hV0, e0_3, hw])
  · have hb : UidsOK v.uids := upto_all h ha
    simp [hU0, hV0, e0_3, wn]
    repeat' first | (refine RT_dec ?_ ?_ <;> intro hg <;> try simp [tmpAt, hg, hU0, hV0, e0_3, wn]) | (refine RT_split ?_ ?_ <;> intro hg <;> (try simp at hg) <;> try simp [tmpAt, hg, hU0, hV0, e0_3, wn]) | (refine RB_dec ?_ ?_ <;> intro hg <;> try simp [tmpAt, hg, hU0, hV0, e0_3, wn]) | (refine RB_ndec ?_ ?_ <;> intro hg <;> try simp [tmpAt, hg, hU0, hV0, e0_3, wn]) | (refine RB_split ?_ ?_ <;> intro hg <;> (try simp at hg) <;> try simp [tmpAt, hg, hU0, hV0, e0_3, wn]) | (refine RG_dec ?_ ?_ <;> intro hg <;> try simp [tmpAt, hg, hU0, hV0, e0_3, wn]) | (refine RG_split ?_ ?_ <;> intro hg <;> (try simp at hg) <;> try simp [tmpAt, hg, hU0, hV0, e0_3, wn])
    all_goals (clear ih0; simp_all [viewOk] <;> (intros; omega))
theorem eq_sViewOf (b : Box) (hl : b.mails.length ≤ 16777216) : lim E 15 [encBox false false b] = some (encView true (viewOf b), []) := by
  refine lim_run (E := E) rfl Tryz.func15 rfl (by kernel_rfl) (by kernel_rfl) ?_
  simp [Tryz.f15, tmpAt]
  refine loop_fr [1, 2, 3] [(1,0), (2,0)] (fun m st => ∃ (i : Nat) (us : List Int), i + m = b.mails.length ∧ us = (b.mails.take i).map (·.uid) ∧ st.env 4 = .int .i64 i ∧ st.rs (3,0) = some ⟨true, encView true ⟨b.name, b.valid, us, b.mod⟩⟩) (b.mails.length) _ ?_ ?_
  · exact ⟨0, [], by simp⟩
  rintro m0 ⟨env, rs⟩ hU0 hV0 ⟨i, us, hi, hus, e0_4, r0_3_0⟩ ih0; simp at hU0 hV0 e0_4 r0_3_0
  have hw := wrap_up (show i < 4611686018427387904 by omega)
  have hul : us.length ≤ i := by rw [hus]; simp; omega
  have hb : (us.length + 1) * 8 ≤ 140737488351232 := by omega
  simp [hU0, hV0, e0_4, r0_3_0]
  refine RB_dec ?_ ?_ <;> intro h
  · have hn := take_map_next (fun m : Mail => m.uid) b.mails i h
    simp [hU0, hV0, e0_4, r0_3_0, h, hb]
    refine ⟨trOk_unord (L := [(0, 2), (0, 3), (0, 4), (0, 5), (0, 6), (0, 7), (0, 8), (1, 2), (1, 3), (1, 4), (1, 5), (1, 6), (1, 7), (1, 8), (2, 4), (3, 4)]) (by kernel_rfl) (by simp) (by simp [indepAt, indep, spares, around, aside, pre, isSlc, Tr.feels, Tr.all, moves, bare, opData, isExt, cmpOf, Op.operands, Call.operands, mentL, ment, D.noUndefL, D.noUndef, pureE, hU0, hV0, e0_4, r0_3_0]), ?_⟩
    refine ih0 (m0 - 1) _ (by omega) ?_ ?_ ⟨i + 1, us ++ [b.mails[i].uid], by omega, by rw [hus]; exact hn.symm, ?_⟩
    · simp [hU0, hV0, e0_4, r0_3_0, h]
    · simp [hU0, hV0, e0_4, r0_3_0, h]
    simp [hU0, hV0, e0_4, r0_3_0, hw]
  · rw [List.take_of_length_le (by omega)] at hus
    simp [hU0, hV0, e0_4, r0_3_0, viewOf]
    rw [hus]; rfl
end Go.Proofs.YtomeglmblhfafaaGreatDoor
