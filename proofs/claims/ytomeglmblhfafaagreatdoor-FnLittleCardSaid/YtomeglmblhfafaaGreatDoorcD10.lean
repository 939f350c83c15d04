/- Boxes: the reference's SetFlags. -/
import Derived.Test.YtomeglmblhfafaaGreatDoorcD3
import Derived.Test.YtomeglmblhfafaaGreatDoorcD9
set_option linter.unusedSectionVars false
set_option linter.all false
set_option linter.unusedVariables false
set_option linter.unusedSimpArgs false
set_option maxRecDepth 100000
namespace Go.Proofs.YtomeglmblhfafaaGreatDoor
open Go.Lft

/-! ### The first so many changed -/
def mapTo {α : Type} (f : α → α) (i : Nat) (xs : List α) : List α := (xs.take i).map f ++ xs.drop i
@[simp] theorem mapTo_zero {α : Type} (f : α → α) (xs : List α) : mapTo f 0 xs = xs := by simp [mapTo]
@[simp] theorem mapTo_len {α : Type} (f : α → α) (i : Nat) (xs : List α) : (mapTo f i xs).length = xs.length := by simp [mapTo]; omega
@[simp] theorem mapTo_get {α : Type} (f : α → α) (i : Nat) (xs : List α) (h : i < (mapTo f i xs).length) : (mapTo f i xs)[i] = xs[i]'(by simpa using h) := by
  have h' : i < xs.length := by simpa using h
  simp [mapTo, List.getElem_append, Nat.min_eq_left (by omega : i ≤ xs.length)]
theorem mapTo_set {α : Type} (f : α → α) (i : Nat) (xs : List α) (h : i < xs.length) : (mapTo f i xs).set i (f xs[i]) = mapTo f (i + 1) xs := by
  have hl : ((xs.take i).map f).length = i := by simp; omega
  simp only [mapTo]
  rw [List.set_append_right _ _ (by omega), hl, Nat.sub_self, List.take_succ_eq_append_getElem h, List.drop_eq_getElem_cons h]
  simp only [List.set_cons_zero, List.map_append, List.map_cons, List.map_nil, List.append_assoc, List.cons_append, List.nil_append]
theorem mapTo_same {α : Type} (f : α → α) (i : Nat) (xs : List α) (h : i < xs.length) (hf : f xs[i] = xs[i]) : mapTo f (i + 1) xs = mapTo f i xs := by
  simp only [mapTo]
  rw [List.take_succ_eq_append_getElem h, List.drop_eq_getElem_cons h]
  simp only [List.map_append, List.map_cons, List.map_nil, List.append_assoc, List.cons_append, List.nil_append, hf]
theorem mapTo_all {α : Type} (f : α → α) (i : Nat) (xs : List α) (h : ¬ i < xs.length) : mapTo f i xs = xs.map f := by
  simp [mapTo, List.take_of_length_le (by omega : xs.length ≤ i), List.drop_eq_nil_of_le (by omega : xs.length ≤ i)]
theorem map_set' {α β : Type} (f : α → β) (xs : List α) (i : Nat) (x : α) : (xs.map f).set i (f x) = (xs.set i x).map f := by rw [List.map_set]

/-! ### One number after the other -/
def sAdds (us : List Int) : List Range := us.foldl (fun s u => (setAdd s u u).1) []
@[simp] theorem sAdds_nil : sAdds [] = [] := rfl
theorem sAdds_snoc (us : List Int) (u : Int) : sAdds (us ++ [u]) = (setAdd (sAdds us) u u).1 := by simp [sAdds]
theorem setAdd_40 {s : List Range} {lo hi : Int} (h : s.length ≤ 40) : (setAdd s lo hi).1.length ≤ 40 := by
  unfold setAdd
  split
  · split
    · rename_i h; simp [setOk] at h; simp; omega
    · exact h
  · exact h
theorem sAdds_40 (us : List Int) : (sAdds us).length ≤ 40 := by
  have key : ∀ (us : List Int) (s : List Range), s.length ≤ 40 → (us.foldl (fun s u => (setAdd s u u).1) s).length ≤ 40 := by
    intro us
    induction us with
    | nil => intro s h; exact h
    | cons u us ih => intro s h; exact ih _ (setAdd_40 h)
  exact key us [] (by simp)

/-! ### Flags set -/
def isLate (s : List Range) (since : Int) (m : Mail) : Bool := setHas s m.uid && (decide (0 ≤ since) && decide (since < m.mod))
def isDone (s : List Range) (how bits since : Int) (m : Mail) : Bool := setHas s m.uid && !(decide (0 ≤ since) && decide (since < m.mod)) && decide (flagsAfter m.flags how bits ≠ m.flags)
def flagged (b : Box) (s : List Range) (how bits since : Int) (m : Mail) : Mail := if isDone s how bits since m = true then ⟨m.uid, flagsAfter m.flags how bits, b.mod + 1, m.text⟩ else m
def doneU (s : List Range) (how bits since : Int) (ms : List Mail) : List Int := (ms.filter (isDone s how bits since)).map (·.uid)
def lateU (s : List Range) (since : Int) (ms : List Mail) : List Int := (ms.filter (isLate s since)).map (·.uid)
def modAfter (b : Box) (s : List Range) (how bits since : Int) (ms : List Mail) : Int := if ms.any (isDone s how bits since) = true then b.mod + 1 else b.mod
def flagBox (b : Box) (s : List Range) (how bits since : Int) : Box := ⟨b.name, b.valid, b.next, modAfter b s how bits since b.mails, b.mails.map (flagged b s how bits since), b.tombs, b.horizon⟩
noncomputable def setFlagsOk (b : Box) (s : List Range) (how bits : Int) : Bool := boxOk b && (setOk s && (within how 1 3 && within bits 0 31))
noncomputable def setFlags (b : Box) (s : List Range) (how bits since : Int) : Box × List Int × List Int :=
  if setFlagsOk b s how bits = true ∧ boxOk (flagBox b s how bits since) = true then (flagBox b s how bits since, doneU s how bits since b.mails, lateU s since b.mails) else (b, [], [])
theorem sz_flagBox (b : Box) (s : List Range) (how bits since : Int) : szBox (flagBox b s how bits since) = szBox b := by
  have key : ∀ ms : List Mail, tot (fun y => szMail y) (ms.map (flagged b s how bits since)) = tot (fun y => szMail y) ms := by
    intro ms
    induction ms with
    | nil => rfl
    | cons m ms ih =>
      simp only [List.map_cons, tot, ih]
      congr 1
      unfold flagged szMail
      split <;> rfl
  simp [szBox, flagBox, key]
theorem take_filter {α : Type} (p : α → Bool) (xs : List α) (i : Nat) (h : i < xs.length) : (xs.take (i + 1)).filter p = (xs.take i).filter p ++ (if p xs[i] = true then [xs[i]] else []) := by
  rw [List.take_succ_eq_append_getElem h, List.filter_append]
  congr 1
  by_cases hp : p xs[i] = true <;> simp [hp]
theorem take_any {α : Type} (p : α → Bool) (xs : List α) (i : Nat) (h : i < xs.length) : (xs.take (i + 1)).any p = ((xs.take i).any p || p xs[i]) := by
  rw [List.take_succ_eq_append_getElem h, List.any_append]; simp
theorem doneU_next (s : List Range) (how bits since : Int) (ms : List Mail) (i : Nat) (h : i < ms.length) : doneU s how bits since (ms.take (i + 1)) = doneU s how bits since (ms.take i) ++ (if isDone s how bits since ms[i] = true then [ms[i].uid] else []) := by
  unfold doneU
  rw [take_filter _ _ _ h, List.map_append]
  congr 1
  split <;> rfl
theorem lateU_next (s : List Range) (since : Int) (ms : List Mail) (i : Nat) (h : i < ms.length) : lateU s since (ms.take (i + 1)) = lateU s since (ms.take i) ++ (if isLate s since ms[i] = true then [ms[i].uid] else []) := by
  unfold lateU
  rw [take_filter _ _ _ h, List.map_append]
  congr 1
  split <;> rfl
theorem modAfter_next (b : Box) (s : List Range) (how bits since : Int) (ms : List Mail) (i : Nat) (h : i < ms.length) : modAfter b s how bits since (ms.take (i + 1)) = if isDone s how bits since ms[i] = true then b.mod + 1 else modAfter b s how bits since (ms.take i) := by
  unfold modAfter
  rw [take_any _ _ _ h]
  cases isDone s how bits since ms[i] <;> simp
set_option maxHeartbeats 4000000 in
theorem eq_sSetFlags (b : Box) (s : List Range) (how bits since : Int) (hs : szBox b ≤ 16777200) (hl : s.length ≤ 16777216) : lim E 115 [encBox false false b, .lst false 161 2 (s.map encRange), .int .i64 how, .int .i64 bits, .int .i64 since] = some (.tup [encBox false true (setFlags b s how bits since).1, .lst true 161 2 ((sAdds (setFlags b s how bits since).2.1).map encRange), .lst true 161 2 ((sAdds (setFlags b s how bits since).2.2).map encRange)], []) := by
  have hz : szBox b = b.name.length + (b.mails.length + tot (fun (y : Mail) => szMail y) b.mails) + b.tombs.length := rfl
  have w1 := eq_sBoxOk b (by omega)
  try simp at w1
  have w2 := eq_l08Copy b (by omega)
  try simp at w2
  have w3 := eq_sSetOk s hl
  cases hok : setFlagsOk b s how bits
  · refine lim_run (E := E) rfl Tryz.func115 rfl (by kernel_rfl) (by kernel_rfl) ?_
    simp [Tryz.f115, tmpAt, w1, w2, w3]
    repeat' first | (refine RT_dec ?_ ?_ <;> intro hg <;> try simp [tmpAt, hg, w1, w2, w3]) | (refine RT_split ?_ ?_ <;> intro hg <;> (try simp at hg) <;> try simp [tmpAt, hg, w1, w2, w3]) | (refine RB_dec ?_ ?_ <;> intro hg <;> try simp [tmpAt, hg, w1, w2, w3]) | (refine RB_ndec ?_ ?_ <;> intro hg <;> try simp [tmpAt, hg, w1, w2, w3]) | (refine RB_split ?_ ?_ <;> intro hg <;> (try simp at hg) <;> try simp [tmpAt, hg, w1, w2, w3]) | (refine RG_dec ?_ ?_ <;> intro hg <;> try simp [tmpAt, hg, w1, w2, w3]) | (refine RG_split ?_ ?_ <;> intro hg <;> (try simp at hg) <;> try simp [tmpAt, hg, w1, w2, w3])
    all_goals (first | (exfalso; simp_all [setFlagsOk]; done) | simp [setFlags, hok])
  · have hok' := hok
    simp only [setFlagsOk, Bool.and_eq_true] at hok'
    obtain ⟨o1, o2, o3, o4⟩ := hok'
    have hn := boxOk_nums o1
    have hml := boxOk_lens o1
    have hw2 : IntKind.i64.wrap (b.mod + 1) = b.mod + 1 := wrap_in (by omega) (by omega)
    refine lim_run (E := E) rfl Tryz.func115 rfl (by kernel_rfl) (by kernel_rfl) ?_
    simp [Tryz.f115, tmpAt, w1, w2, w3, o1, o2, o3, o4]
    refine loop_fr [1, 2, 3, 4, 5, 10, 13, 16] [(5,0), (10,0), (13,0)] (fun m st => ∃ (i r q : Nat), i + m = b.mails.length ∧ (r = 21 ∨ r = 114) ∧ (q = 22 ∨ q = 77) ∧ st.env 14 = .slc (r,0) [] 0 (sAdds (doneU s how bits since (b.mails.take i))).length ∧ st.rs (r,0) = some ⟨false, .lst true 161 2 ((sAdds (doneU s how bits since (b.mails.take i))).map encRange)⟩ ∧ st.env 15 = .slc (q,0) [] 0 (sAdds (lateU s since (b.mails.take i))).length ∧ st.rs (q,0) = some ⟨false, .lst true 161 2 ((sAdds (lateU s since (b.mails.take i))).map encRange)⟩ ∧ st.env 17 = .int .i64 i ∧ st.rs (16,0) = some ⟨true, encBox false true ⟨b.name, b.valid, b.next, modAfter b s how bits since (b.mails.take i), mapTo (flagged b s how bits since) i b.mails, b.tombs, b.horizon⟩⟩) (b.mails.length) _ ?_ ?_
    · exact ⟨0, 21, 22, by simp [doneU, lateU, sAdds, modAfter]⟩
    rintro m0 ⟨env, rs⟩ hU0 hV0 ⟨i, r, q, hi, hr, hq, e14, q14, e15, q15, e0_17, r0_16_0⟩ ih0; simp at hU0 hV0 e0_17 r0_16_0
    simp at e14 q14 e15 q15
    have hw := wrap_up (show i < 4611686018427387904 by omega)
    simp [hU0, hV0, e0_17, r0_16_0]
    refine RB_dec ?_ ?_ <;> intro h
    · have ws := eq_sSetHas s b.mails[i].uid hl
      have hF : flagged b s how bits since b.mails[i] = if isDone s how bits since b.mails[i] = true then ⟨b.mails[i].uid, flagsAfter b.mails[i].flags how bits, b.mod + 1, b.mails[i].text⟩ else b.mails[i] := rfl
      have hD : isDone s how bits since b.mails[i] = (setHas s b.mails[i].uid && !(decide (0 ≤ since) && decide (since < b.mails[i].mod)) && decide (flagsAfter b.mails[i].flags how bits ≠ b.mails[i].flags)) := rfl
      have hL : isLate s since b.mails[i] = (setHas s b.mails[i].uid && (decide (0 ≤ since) && decide (since < b.mails[i].mod))) := rfl
      have n1 := doneU_next s how bits since b.mails i h
      have n2 := lateU_next s since b.mails i h
      have n3 := modAfter_next b s how bits since b.mails i h
      have a1 := eq_sSetAdd (sAdds (lateU s since (b.mails.take i))) b.mails[i].uid b.mails[i].uid (by have := sAdds_40 (lateU s since (b.mails.take i)); omega)
      have a2 := eq_sSetAdd (sAdds (doneU s how bits since (b.mails.take i))) b.mails[i].uid b.mails[i].uid (by have := sAdds_40 (doneU s how bits since (b.mails.take i)); omega)
      have s1 := sAdds_snoc (lateU s since (b.mails.take i)) b.mails[i].uid
      have s2 := sAdds_snoc (doneU s how bits since (b.mails.take i)) b.mails[i].uid
      have m1 := mapTo_same (flagged b s how bits since) i b.mails h
      have m2 := mapTo_set (flagged b s how bits since) i b.mails h
      generalize hA : sAdds (lateU s since (b.mails.take i)) = A at *
      generalize hB : sAdds (doneU s how bits since (b.mails.take i)) = B at *
      generalize hM : modAfter b s how bits since (b.mails.take i) = M at *
      generalize hmp : mapTo (flagged b s how bits since) i b.mails = mp at *
      have hmpl : mp.length = b.mails.length := by rw [← hmp]; simp
      have hmpg : ∀ h' : i < mp.length, mp[i] = b.mails[i] := by intro h'; subst hmp; simp
      have hlt : i < mp.length := by omega
      have hmg := hmpg hlt
      have k1 : ¬ r = 18 := by omega
      have k2 : ¬ q = 18 := by omega
      have k3 : ¬ r = 16 := by omega
      have k4 : ¬ q = 16 := by omega
      have k5 : ¬ r = 77 := by omega
      have k6 : ¬ q = 114 := by omega
      simp [hU0, hV0, e0_17, r0_16_0, h, hlt, hmpl, hmg, ws]
      cases h1 : setHas s b.mails[i].uid
      · simp [h1] at hD hL
        simp [hD] at hF n1 n3 m1
        simp [hL] at n2
        rw [hF] at m1
        simp at m1
        simp [hU0, hV0, e0_17, r0_16_0, h, hw]
        refine ih0 (m0 - 1) _ (by omega) ?_ ?_ ⟨i + 1, r, q, by omega, hr, hq, ?_⟩
        · simp [hU0, hV0, e0_17, r0_16_0, h]
        · simp [hU0, hV0, e0_17, r0_16_0, h]
        simp [hU0, hV0, e0_17, r0_16_0, e14, q14, e15, q15, n1, n2, n3, m1, hA, hB, hM, hmp, k1, k2, k3, k4]
      · cases h2 : (decide (0 ≤ since) && decide (since < b.mails[i].mod))
        · have h2' : ¬ (0 ≤ since ∧ since < b.mails[i].mod) := by simpa using h2
          have hL' : isLate s since b.mails[i] = false := by rw [hL, h1, h2]; rfl
          simp [hL'] at n2
          have hor : (0 ≤ since ∧ ¬ since < b.mails[i].mod) ∨ ¬ 0 ≤ since := by omega
          rcases hor with ⟨h0, h3⟩ | h0
          all_goals
            simp [hU0, hV0, e0_17, r0_16_0, h, h0, tmpAt, hlt, hmpl, hmg]
            try simp [hU0, hV0, e0_17, r0_16_0, h, h0, h3, tmpAt, hlt, hmpl, hmg]
            refine RB_ndec ?_ ?_ <;> intro hc
            · have hD' : isDone s how bits since b.mails[i] = true := by rw [hD, h1, h2]; simp [hc]
              rw [if_pos hD'] at hF n1 n3
              rw [hF] at m2
              simp [hU0, hV0, e0_17, r0_16_0, h, hlt, hmpl, hmg, hw2, e14, q14, k1, k2, k3, k4, k5, k6, a2]
              refine ih0 (m0 - 1) _ (by omega) ?_ ?_ ⟨i + 1, 114, q, by omega, by simp, hq, ?_⟩
              · simp [hU0, hV0, e0_17, r0_16_0, h]
              · simp [hU0, hV0, e0_17, r0_16_0, h]
              simp [hU0, hV0, e0_17, r0_16_0, e15, q15, n1, n2, n3, ← m2, hA, hB, hM, hmp, k1, k2, k3, k4, k5, k6, s2, hw]
            · have hD' : isDone s how bits since b.mails[i] = false := by rw [hD]; simp [hc]
              simp [hD'] at hF n1 n3 m1
              rw [hF] at m1
              simp at m1
              simp [hU0, hV0, e0_17, r0_16_0]
              refine ih0 (m0 - 1) _ (by omega) ?_ ?_ ⟨i + 1, r, q, by omega, hr, hq, ?_⟩
              · simp [hU0, hV0, e0_17, r0_16_0, h]
              · simp [hU0, hV0, e0_17, r0_16_0, h]
              simp [hU0, hV0, e0_17, r0_16_0, e14, q14, e15, q15, n1, n2, n3, m1, hA, hB, hM, hmp, k1, k2, k3, k4, k5, k6, hw]
        · simp at h2
          simp [h1, h2] at hD hL
          simp [hD] at hF n1 n3 m1
          simp [hL] at n2
          rw [hF] at m1
          simp at m1
          simp [hU0, hV0, e0_17, r0_16_0, h, hw, h2, tmpAt, e15, q15, k1, k2, k3, k4, k5, k6, a1]
          refine ih0 (m0 - 1) _ (by omega) ?_ ?_ ⟨i + 1, r, 77, by omega, hr, by simp, ?_⟩
          · simp [hU0, hV0, e0_17, r0_16_0, h]
          · simp [hU0, hV0, e0_17, r0_16_0, h]
          simp [hU0, hV0, e0_17, r0_16_0, e14, q14, n1, n2, n3, m1, hA, hB, hM, hmp, k1, k2, k3, k4, k5, k6, s1]
    · have hfull : b.mails.take i = b.mails := List.take_of_length_le (by omega)
      have hall := mapTo_all (flagged b s how bits since) i b.mails h
      have w4 := eq_sBoxOk (flagBox b s how bits since) (by rw [sz_flagBox]; omega)
      simp [flagBox] at w4
      rw [hfull] at e14 q14 e15 q15
      simp only [hfull, hall] at r0_16_0
      simp at r0_16_0
      simp [hU0, hV0, e0_17, r0_16_0, h, w4]
      rcases hr with rfl | rfl <;> rcases hq with rfl | rfl
      all_goals
        cases hb : boxOk (flagBox b s how bits since) <;> simp [flagBox] at hb <;> simp [hU0, hV0, e0_17, r0_16_0, hb, setFlags, hok, flagBox, e14, q14, e15, q15]
end Go.Proofs.YtomeglmblhfafaaGreatDoor
