/- Sets of numbers: the reference's SetOk, SetHas, SetAdd. -/
import Derived.Test.YtomeglmblhfafaaGreatDoorcD1
set_option linter.unusedSectionVars false
set_option linter.all false
set_option linter.unusedVariables false
set_option linter.unusedSimpArgs false
set_option maxRecDepth 100000
namespace Go.Proofs.YtomeglmblhfafaaGreatDoor
open Go.Lft

theorem eq_sSetOk (s : List Range) (hl : s.length ≤ 16777216) : lim E 188 [.lst false 161 2 (s.map encRange)] = some (.bool (setOk s), []) := by
  refine lim_run (E := E) rfl Tryz.func188 rfl (by kernel_rfl) (by kernel_rfl) ?_
  simp [Tryz.f188, tmpAt]
  refine loop_fr [0] [] (fun m st => ∃ (i : Nat) (p : Option Int), i + m = s.length ∧ setOkL none s = setOkL p (s.drop i) ∧ (i = 0 → p = none) ∧ (∀ (h : 0 < i) (h' : i - 1 < s.length), p = some s[i-1].hi ∧ s[i-1].hi ≤ 9999 ∧ 1 ≤ s[i-1].hi) ∧ st.env 3 = .int .i64 i) (s.length) _ ?_ ?_
  · exact ⟨0, none, by simp⟩
  rintro m0 ⟨env, rs⟩ hU0 hV0 ⟨i, p, hi, hs, hp0, hp, e0_3⟩ ih0; simp at hU0 e0_3; clear hV0
  have hw := wrap_up (show i < 4611686018427387904 by omega)
  simp [hU0, e0_3]
  refine RB_dec ?_ ?_ <;> intro h
  · rw [List.drop_eq_getElem_cons h] at hs
    simp only [setOkL] at hs
    by_cases hi0 : i = 0
    · subst hi0
      obtain rfl := hp0 rfl
      simp [hU0, e0_3, h, tmpAt]
      repeat' first | (refine RT_dec ?_ ?_ <;> intro hg <;> try simp [tmpAt, hg, hU0, e0_3, h, hw]) | (refine RT_split ?_ ?_ <;> intro hg <;> (try simp at hg) <;> try simp [tmpAt, hg, hU0, e0_3, h, hw]) | (refine RB_dec ?_ ?_ <;> intro hg <;> try simp [tmpAt, hg, hU0, e0_3, h, hw]) | (refine RB_ndec ?_ ?_ <;> intro hg <;> try simp [tmpAt, hg, hU0, e0_3, h, hw]) | (refine RB_split ?_ ?_ <;> intro hg <;> (try simp at hg) <;> try simp [tmpAt, hg, hU0, e0_3, h, hw]) | (refine RG_dec ?_ ?_ <;> intro hg <;> try simp [tmpAt, hg, hU0, e0_3, h, hw]) | (refine RG_split ?_ ?_ <;> intro hg <;> (try simp at hg) <;> try simp [tmpAt, hg, hU0, e0_3, h, hw])
      all_goals first
        | (have hb : rangeOk s[0] = false := by simp_all [rangeOk, within] <;> omega
           simp [setOk, hs, hb]; done)
        | (have hb : rangeOk s[0] = true := by simp_all [rangeOk, within] <;> omega
           simp [hb, after] at hs
           refine ih0 (m0 - 1) _ (by omega) ?_ ?_ ⟨1, some s[0].hi, by omega, by simpa using hs, by simp, ?_, ?_⟩
           · simp [hU0, e0_3]
           · simp [hU0, e0_3]
           · intro h1 h2; simp_all [within] <;> omega
           · simp [hU0, e0_3, hw])
    · obtain ⟨rfl, hp1, hp2⟩ := hp (by omega) (by omega)
      have hp : IntKind.i64.wrap ((i : Int) - 1) = ((i - 1 : Nat) : Int) := by rw [wrap_in (by omega) (by omega)]; omega
      have hq : IntKind.i64.wrap (s[i-1].hi + 1) = s[i-1].hi + 1 := wrap_in (by omega) (by omega)
      have hi0' : 0 < i := by omega
      have hlt : i - 1 < s.length := by omega
      simp [hU0, e0_3, h, tmpAt, hi0']
      repeat' first | (refine RT_dec ?_ ?_ <;> intro hg <;> try simp [tmpAt, hg, hU0, e0_3, h, hw, hp, hq, hi0', hlt]) | (refine RT_split ?_ ?_ <;> intro hg <;> (try simp at hg) <;> try simp [tmpAt, hg, hU0, e0_3, h, hw, hp, hq, hi0', hlt]) | (refine RB_dec ?_ ?_ <;> intro hg <;> try simp [tmpAt, hg, hU0, e0_3, h, hw, hp, hq, hi0', hlt]) | (refine RB_ndec ?_ ?_ <;> intro hg <;> try simp [tmpAt, hg, hU0, e0_3, h, hw, hp, hq, hi0', hlt]) | (refine RB_split ?_ ?_ <;> intro hg <;> (try simp at hg) <;> try simp [tmpAt, hg, hU0, e0_3, h, hw, hp, hq, hi0', hlt]) | (refine RG_dec ?_ ?_ <;> intro hg <;> try simp [tmpAt, hg, hU0, e0_3, h, hw, hp, hq, hi0', hlt]) | (refine RG_split ?_ ?_ <;> intro hg <;> (try simp at hg) <;> try simp [tmpAt, hg, hU0, e0_3, h, hw, hp, hq, hi0', hlt])
      all_goals first
        | (have hb : (rangeOk s[i] && after (some s[i-1].hi) s[i]) = false := by simp_all [rangeOk, within, after] <;> omega
           simp [setOk, hs, hb]; done)
        | (have hb : (rangeOk s[i] && after (some s[i-1].hi) s[i]) = true := by simp_all [rangeOk, within, after] <;> omega
           simp [hb] at hs
           refine ih0 (m0 - 1) _ (by omega) ?_ ?_ ⟨i + 1, some s[i].hi, by omega, by simpa using hs, by simp, ?_, ?_⟩
           · simp [hU0, e0_3]
           · simp [hU0, e0_3]
           · intro h1 h2; simp_all [within] <;> omega
           · simp [hU0, e0_3, hw])
  · rw [List.drop_eq_nil_of_le (by omega)] at hs
    simp [setOkL] at hs
    simp [hU0, e0_3, h, setOk, hs]
theorem eq_SetHas (s : List Range) (n : Int) (hl : s.length ≤ 16777216) : lim E 131 [.lst false 161 2 (s.map encRange), .int .i64 n] = some (.bool (setHas s n), []) := by
  refine lim_run (E := E) rfl Tryz.func131 rfl (by kernel_rfl) (by kernel_rfl) ?_
  simp [Tryz.f131, tmpAt]
  refine loop_fr [1, 7, 8] [] (fun m st => ∃ (i : Nat), i + m = s.length ∧ (s.take i).any (fun r => within n r.lo r.hi) = false ∧ st.env 9 = .int .i64 i) (s.length) _ ?_ ?_
  · exact ⟨0, by simp⟩
  rintro m0 ⟨env, rs⟩ hU0 hV0 ⟨i, hi, hs, e0_9⟩ ih0; simp at hU0 e0_9; clear hV0
  have hw := wrap_up (show i < 4611686018427387904 by omega)
  simp [hU0, e0_9]
  refine RB_dec ?_ ?_ <;> intro h
  · simp [hU0, e0_9, h, tmpAt]
    refine RB_split ?_ ?_ <;> intro h2 <;> simp [hU0, e0_9, h, tmpAt]
    · exact any_bad (f := fun r => within n r.lo r.hi) h h2
    · refine ih0 (m0 - 1) _ (by omega) ?_ ?_ ⟨i + 1, by omega, any_next h hs h2, ?_⟩
      · simp [hU0, e0_9]
      · simp [hU0, e0_9]
      simp [hU0, e0_9, hw]
  · simp [hU0, e0_9, h]
    exact any_take (f := fun r => within n r.lo r.hi) h hs
theorem eq_sSetHas (s : List Range) (n : Int) (hl : s.length ≤ 16777216) : lim E 153 [.lst false 161 2 (s.map encRange), .int .i64 n] = some (.bool (setHas s n), []) := by
  refine lim_run (E := E) rfl Tryz.func153 rfl (by kernel_rfl) (by kernel_rfl) ?_
  simp [Tryz.f153, tmpAt]
  refine loop_fr [0, 1] [] (fun m st => ∃ (i : Nat), i + m = s.length ∧ (s.take i).any (fun r => within n r.lo r.hi) = false ∧ st.env 5 = .int .i64 i) (s.length) _ ?_ ?_
  · exact ⟨0, by simp⟩
  rintro m0 ⟨env, rs⟩ hU0 hV0 ⟨i, hi, hs, e0_5⟩ ih0; simp at hU0 e0_5; clear hV0
  have hw := wrap_up (show i < 4611686018427387904 by omega)
  simp [hU0, e0_5]
  refine RB_dec ?_ ?_ <;> intro h
  · have key : ∀ b, within n s[i].lo s[i].hi = b → RC (E.at 153) (Fin E 153 [ResultVar.tmp 4] (.bool (setHas s n), [])) Code.skip [] ⟨env, rs⟩ ∨ True := fun _ _ => .inr trivial
    simp [hU0, e0_5, h, tmpAt]
    repeat' first | (refine RT_dec ?_ ?_ <;> intro hg <;> try simp [tmpAt, hg, hU0, e0_5, h]) | (refine RT_split ?_ ?_ <;> intro hg <;> (try simp at hg) <;> try simp [tmpAt, hg, hU0, e0_5, h]) | (refine RB_dec ?_ ?_ <;> intro hg <;> try simp [tmpAt, hg, hU0, e0_5, h]) | (refine RB_ndec ?_ ?_ <;> intro hg <;> try simp [tmpAt, hg, hU0, e0_5, h]) | (refine RB_split ?_ ?_ <;> intro hg <;> (try simp at hg) <;> try simp [tmpAt, hg, hU0, e0_5, h]) | (refine RG_dec ?_ ?_ <;> intro hg <;> try simp [tmpAt, hg, hU0, e0_5, h]) | (refine RG_split ?_ ?_ <;> intro hg <;> (try simp at hg) <;> try simp [tmpAt, hg, hU0, e0_5, h])
    all_goals first
      | (exact any_bad (f := fun r => within n r.lo r.hi) h (by simp_all [within]); done)
      | (refine ih0 (m0 - 1) _ (by omega) ?_ ?_ ⟨i + 1, by omega, any_next h hs (by simp_all [within] <;> omega), ?_⟩
         · simp [hU0, e0_5]
         · simp [hU0, e0_5]
         simp [hU0, e0_5, hw])
  · simp [hU0, e0_5, h]
    exact any_take (f := fun r => within n r.lo r.hi) h hs
/-! ### Marks -/
def bitsD (f : Nat → Bool) : List D := (List.range 10001).map fun n => .bool (f n)
@[simp] theorem bitsD_len (f : Nat → Bool) : (bitsD f).length = 10001 := by rw [bitsD, List.length_map, List.length_range]
@[simp] theorem fr_bitsD (f : Nat → Bool) : D.freezeL (bitsD f) = bitsD f := fr_map _ _ (by simp) _
@[simp] theorem cold_bitsD (f : Nat → Bool) : D.coldL (bitsD f) = false := cold_map _ (by simp) _
theorem bitsD_none : List.replicate 10001 (D.bool false) = bitsD (fun _ => false) := by
  rw [bitsD]
  apply List.ext_getElem
  · rw [List.length_replicate, List.length_map, List.length_range]
  · intro i h1 h2; rw [List.getElem_replicate, List.getElem_map]
@[simp] theorem bitsD_get (f : Nat → Bool) (i : Nat) (h : i < (bitsD f).length) : (bitsD f)[i] = .bool (f i) := by
  simp only [bitsD, List.getElem_map, List.getElem_range]
@[simp] theorem bitsD_take (f : Nat → Bool) : List.take 10001 (bitsD f) = bitsD f := List.take_of_length_le (by rw [bitsD_len]; exact Nat.le_refl _)
theorem bitsD_set (f : Nat → Bool) (i : Nat) (v : Bool) : (bitsD f).set i (.bool v) = bitsD (fun n => if n = i then v else f n) := by
  apply List.ext_getElem
  · rw [List.length_set, bitsD_len, bitsD_len]
  · intro j h1 h2
    rw [List.getElem_set]
    have hj : j < 10001 := by rw [bitsD_len] at h2; exact h2
    rw [bitsD_get, bitsD_get]
    by_cases h : i = j
    · subst h; simp
    · rw [if_neg h, if_neg (Ne.symm h)]
theorem bitsD_congr {f g : Nat → Bool} (h : ∀ n, n < 10001 → f n = g n) : bitsD f = bitsD g := by
  unfold bitsD
  apply List.map_congr_left
  intro n hn
  rw [h n (List.mem_range.1 hn)]
theorem eq_l05Bits (s : List Range) (hl : s.length ≤ 16777216) (hs : ∀ r ∈ s, 1 ≤ r.lo ∧ r.lo ≤ r.hi ∧ r.hi ≤ 9999) : lim E 191 [.lst false 161 2 (s.map encRange)] = some (.lst true 4 1 (bitsD fun n => setHas s n), []) := by
  refine lim_run (E := E) rfl Tryz.func191 rfl (by kernel_rfl) (by kernel_rfl) ?_
  simp [Tryz.f191, tmpAt, -List.reduceReplicate, bitsD_none]
  refine loop_fr [0, 3] [] (fun m st => ∃ (i : Nat), i + m = s.length ∧ st.env 4 = .int .i64 i ∧ st.rs (6,0) = some ⟨false, .lst true 4 1 (bitsD fun n => setHas (s.take i) n)⟩) (s.length) _ ?_ ?_
  · exact ⟨0, by simp [setHas]⟩
  rintro m0 ⟨env, rs⟩ hU0 hV0 ⟨i, hi, e0_4, r0_6_0⟩ ih0; simp at hU0 e0_4 r0_6_0; clear hV0
  have hw := wrap_up (show i < 4611686018427387904 by omega)
  simp [hU0, e0_4, r0_6_0]
  refine RB_dec ?_ ?_ <;> intro h
  · obtain ⟨r1, r2, r3⟩ := hs s[i] (List.getElem_mem h)
    simp [hU0, e0_4, r0_6_0, h, tmpAt]
    refine loop_fr [0, 3, 4] [] (fun m st => ∃ (k : Int), s[i].lo ≤ k ∧ k + m = s[i].hi + 1 ∧ st.env 5 = .int .i64 k ∧ st.rs (6,0) = some ⟨false, .lst true 4 1 (bitsD fun n => setHas (s.take i) n || (decide (s[i].lo ≤ n) && decide ((n : Int) < k)))⟩) ((s[i].hi + 1 - s[i].lo).toNat) _ ?_ ?_
    · refine ⟨s[i].lo, by omega, by omega, ?_⟩
      simp [hU0, e0_4, r0_6_0]
      exact bitsD_congr fun n _ => by
        have : (decide (s[i].lo ≤ (n : Int)) && decide ((n : Int) < s[i].lo)) = false := by simp
        rw [this, Bool.or_false]
    rintro m1 ⟨env, rs⟩ hU1 hV1 ⟨k, hk1, hk2, e1_5, r1_6_0⟩ ih1; simp at hU1 e1_5 r1_6_0; clear hV1
    have hwk : IntKind.i64.wrap (k + 1) = k + 1 := wrap_in (by omega) (by omega)
    simp [hU0, e0_4, r0_6_0, hU1, e1_5, r1_6_0, h]
    refine RB_dec ?_ ?_ <;> intro h2
    · have hk0 : (0 : Int) ≤ k := by omega
      have hk9 : k.toNat < 10001 := by omega
      have hk10 : k < 10001 := by omega
      simp [hU0, e0_4, r0_6_0, hU1, e1_5, r1_6_0, h, hk0, hk9, hk10, bitsD_set]
      refine ih1 (m1 - 1) _ (by omega) ?_ ?_ ⟨k + 1, by omega, by omega, ?_⟩
      · simp [hU0, e0_4, r0_6_0, hU1, e1_5, r1_6_0]
      · simp [hU0, e0_4, r0_6_0, hU1, e1_5, r1_6_0]
      simp [hU0, e0_4, r0_6_0, hU1, e1_5, r1_6_0, hwk]
      refine bitsD_congr fun n _ => ?_
      by_cases hn : n = k.toNat
      · subst hn
        have e1 : decide (s[i].lo ≤ ((k.toNat : Nat) : Int)) = true := by simp; omega
        have e2 : decide (((k.toNat : Nat) : Int) < k + 1) = true := by simp; omega
        rw [e1, e2]; simp
      · rw [decide_eq_false hn, Bool.false_or]
        congr 2
        simp; omega
    · have hk : k = s[i].hi + 1 := by omega
      subst hk
      simp [hU0, e0_4, r0_6_0, hU1, e1_5, r1_6_0, h]
      refine ih0 (m0 - 1) _ (by omega) ?_ ?_ ⟨i + 1, by omega, ?_⟩
      · simp [hU0, e0_4, r0_6_0, hU0, e0_4, r0_6_0, hU1, e1_5, r1_6_0]
      · simp [hU0, e0_4, r0_6_0, hU0, e0_4, r0_6_0, hU1, e1_5, r1_6_0]
      simp [hU0, e0_4, r0_6_0, hU1, e1_5, r1_6_0, hw]
      refine bitsD_congr fun n _ => ?_
      rw [List.take_succ_eq_append_getElem h, setHas_snoc]
      congr 1
      unfold within
      congr 1
      simp; omega
  · have : s.take i = s := List.take_of_length_le (by omega)
    simp [hU0, e0_4, r0_6_0, h, this]
end Go.Proofs.YtomeglmblhfafaaGreatDoor
