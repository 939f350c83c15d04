/- Sets of numbers: SetOk, SetHas; the set of what is marked; the plain law of it. -/
import Derived.Test.YtomeglmblhfafaaGreatDoorcA2
set_option linter.unusedSectionVars false
set_option linter.all false
set_option linter.unusedVariables false
set_option linter.unusedSimpArgs false
set_option maxRecDepth 100000
namespace Go.Proofs.YtomeglmblhfafaaGreatDoor
open Go.Lft

/-! ### The plain law -/
def after (p : Option Int) (r : Range) : Bool := match p with | none => true | some h => decide (h + 1 < r.lo)
def rangeOk (r : Range) : Bool := decide (1 ≤ r.lo) && decide (r.lo ≤ r.hi) && decide (r.hi ≤ 9999)
def setOkL : Option Int → List Range → Bool
  | _, [] => true
  | p, r :: l => rangeOk r && after p r && setOkL (some r.hi) l
def setOk (s : List Range) : Bool := setOkL none s && decide ((s.length : Int) ≤ 40)
def setHas (s : List Range) (n : Int) : Bool := s.any fun r => within n r.lo r.hi
def lastHi : Option Int → List Range → Option Int
  | p, [] => p
  | _, r :: l => lastHi (some r.hi) l
theorem lastHi_snoc (p : Option Int) (l : List Range) (r : Range) : lastHi p (l ++ [r]) = some r.hi := by
  induction l generalizing p with
  | nil => rfl
  | cons x l ih => exact ih _
theorem setOkL_snoc (p : Option Int) (l : List Range) (r : Range) : setOkL p (l ++ [r]) = (setOkL p l && (rangeOk r && after (lastHi p l) r)) := by
  induction l generalizing p with
  | nil => simp [setOkL, lastHi]
  | cons x l ih => simp only [List.cons_append, setOkL, ih, lastHi, Bool.and_assoc]
theorem setOkL_mem {p : Option Int} {s : List Range} (h : setOkL p s = true) : ∀ r ∈ s, 1 ≤ r.lo ∧ r.lo ≤ r.hi ∧ r.hi ≤ 9999 := by
  induction s generalizing p with
  | nil => intro r hr; cases hr
  | cons x s ih =>
    simp only [setOkL, Bool.and_eq_true] at h
    intro r hr
    rcases List.mem_cons.1 hr with rfl | hr
    · have := h.1.1; simp [rangeOk] at this; omega
    · exact ih h.2 r hr
theorem setHas_snoc (l : List Range) (r : Range) (n : Int) : setHas (l ++ [r]) n = (setHas l n || within n r.lo r.hi) := by simp [setHas]
/-- The set of those up to a number for which f is true. -/
def setUpto (f : Nat → Bool) : Nat → List Range
  | 0 => []
  | n + 1 => if f (n + 1) = true then (if f n = true then (setUpto f n).dropLast ++ [⟨((setUpto f n).getLast?.map (·.lo)).getD 0, (n + 1 : Nat)⟩] else setUpto f n ++ [⟨(n + 1 : Nat), (n + 1 : Nat)⟩]) else setUpto f n
theorem setUpto_ok (f : Nat → Bool) (h0 : f 0 = false) : ∀ n : Nat, n ≤ 9999 → setOkL none (setUpto f n) = true ∧ (∀ h : Int, lastHi none (setUpto f n) = some h → h ≤ n ∧ (f n = false → h < n)) ∧ (f n = true → ∃ (l : List Range) (r : Range), setUpto f n = l ++ [r] ∧ r.hi = (n : Int)) ∧ ∀ k : Nat, setHas (setUpto f n) k = (decide (k ≤ n) && f k)
  | 0, _ => by
    refine ⟨rfl, fun h hh => by simp [setUpto, lastHi] at hh, fun h => (by rw [h0] at h; cases h), fun k => ?_⟩
    by_cases hk : k = 0
    · subst hk; simp [setUpto, setHas, h0]
    · simp [setUpto, setHas, show ¬ k ≤ 0 by omega]
  | n + 1, hn => by
    obtain ⟨i1, i2, i3, i4⟩ := setUpto_ok f h0 n (by omega)
    by_cases hf : f (n + 1) = true
    · by_cases hp : f n = true
      · obtain ⟨l, r, e, hr⟩ := i3 hp
        have hs : setUpto f (n + 1) = l ++ [⟨r.lo, (n + 1 : Nat)⟩] := by simp [setUpto, hf, hp, e]
        rw [e, setOkL_snoc] at i1
        simp only [Bool.and_eq_true] at i1
        obtain ⟨j1, j2, j3⟩ := i1
        simp [rangeOk] at j2
        refine ⟨?_, fun h hh => ?_, fun _ => ⟨l, _, hs, rfl⟩, fun k => ?_⟩
        · rw [hs, setOkL_snoc]
          simp only [Bool.and_eq_true, rangeOk, decide_eq_true_eq]
          exact ⟨j1, ⟨⟨by omega, by omega⟩, by omega⟩, by cases hl : lastHi none l <;> rw [hl] at j3 <;> simpa [after] using j3⟩
        · rw [hs, lastHi_snoc] at hh
          obtain rfl := Option.some.inj hh
          exact ⟨by simp, fun h => by rw [hf] at h; cases h⟩
        · have h4 := i4 k
          rw [hs, setHas_snoc]
          rw [e, setHas_snoc] at h4
          by_cases hk : k = n + 1
          · subst hk
            have : within ((n + 1 : Nat) : Int) r.lo ((n + 1 : Nat) : Int) = true := by simp [within]; omega
            simp only [this, hf]; simp
          · have e1 : within (k : Int) r.lo ((n + 1 : Nat) : Int) = within k r.lo r.hi := by
              unfold within; congr 1; simp; omega
            rw [e1, h4]
            congr 1
            simp; omega
      · have hs : setUpto f (n + 1) = setUpto f n ++ [⟨(n + 1 : Nat), (n + 1 : Nat)⟩] := by simp [setUpto, hf, hp]
        have hp' : f n = false := by simpa using hp
        refine ⟨?_, fun h hh => ?_, fun _ => ⟨_, _, hs, rfl⟩, fun k => ?_⟩
        · rw [hs, setOkL_snoc, i1]
          simp only [Bool.and_eq_true, rangeOk, decide_eq_true_eq]
          refine ⟨trivial, ⟨⟨by omega, by omega⟩, by omega⟩, ?_⟩
          cases hl : lastHi none (setUpto f n) with
          | none => rfl
          | some h => have := (i2 h hl).2 hp'; simp [after]; omega
        · rw [hs, lastHi_snoc] at hh
          obtain rfl := Option.some.inj hh
          exact ⟨by simp, fun h => by rw [hf] at h; cases h⟩
        · rw [hs, setHas_snoc, i4 k]
          by_cases hk : k = n + 1
          · subst hk
            have : within ((n + 1 : Nat) : Int) ((n + 1 : Nat) : Int) ((n + 1 : Nat) : Int) = true := by simp [within]
            simp only [this, hf]; simp
          · have e1 : within (k : Int) ((n + 1 : Nat) : Int) ((n + 1 : Nat) : Int) = false := by
              simp [within]; omega
            rw [e1, Bool.or_false]
            congr 1
            simp; omega
    · have hf' : f (n + 1) = false := by simpa using hf
      have hs : setUpto f (n + 1) = setUpto f n := by simp [setUpto, hf']
      refine ⟨by rw [hs]; exact i1, fun h hh => ?_, fun h => absurd h hf, fun k => ?_⟩
      · rw [hs] at hh
        have := (i2 h hh).1
        exact ⟨by omega, fun _ => by omega⟩
      · rw [hs, i4 k]
        by_cases hk : k = n + 1
        · subst hk; simp [hf']
        · congr 1; simp; omega
theorem setUpto_congr {f g : Nat → Bool} : ∀ {n : Nat}, (∀ k, k ≤ n → f k = g k) → setUpto f n = setUpto g n
  | 0, _ => rfl
  | n + 1, h => by
    have ih := setUpto_congr (n := n) fun k hk => h k (by omega)
    simp only [setUpto, ih, h n (by omega), h (n + 1) (by omega)]
theorem setUpto_setOk (f : Nat → Bool) (h0 : f 0 = false) : setOk (setUpto f 9999) = decide (((setUpto f 9999).length : Int) ≤ 40) := by
  simp [setOk, (setUpto_ok f h0 9999 (by omega)).1]
/-- 'SetAdd'. -/
def setAdd (s : List Range) (lo hi : Int) : List Range × Bool :=
  if setOk s = true ∧ 1 ≤ lo ∧ lo ≤ hi ∧ hi ≤ 9999 then
    (if setOk (setUpto (fun n => setHas s n || within n lo hi) 9999) = true then (setUpto (fun n => setHas s n || within n lo hi) 9999, true) else (s, false))
  else (s, false)

/-! ### The walk -/
@[simp] theorem wrap_one : IntKind.i64.wrap 1 = 1 := wrap_in (by omega) (by omega)
@[simp] theorem wrap_neg_one : IntKind.i64.wrap (-1) = -1 := wrap_in (by omega) (by omega)
theorem any_bad {α : Type} {f : α → Bool} {xs : List α} {i : Nat} (h : i < xs.length) (hx : f xs[i] = true) : xs.any f = true := by
  rw [List.any_eq_true]
  exact ⟨xs[i], List.getElem_mem h, hx⟩
theorem any_next {α : Type} {f : α → Bool} {xs : List α} {i : Nat} (h : i < xs.length) (ht : (xs.take i).any f = false) (hx : f xs[i] = false) : (xs.take (i + 1)).any f = false := by
  rw [List.take_succ_eq_append_getElem h, List.any_append, ht]; simpa using hx
theorem any_take {α : Type} {f : α → Bool} {xs : List α} {i : Nat} (h : ¬ i < xs.length) (ht : (xs.take i).any f = false) : xs.any f = false := by
  rwa [List.take_of_length_le (by omega)] at ht
theorem eq_SetOk (s : List Range) (hl : s.length ≤ 16777216) : lim E 129 [.lst false 161 2 (s.map encRange)] = some (.bool (setOk s), []) := by
  refine lim_run (E := E) rfl Tryz.func129 rfl (by kernel_rfl) (by kernel_rfl) ?_
  simp [Tryz.f129, tmpAt]
  refine loop_fr [0, 5, 6] [] (fun m st => ∃ (i : Nat) (p : Option Int), i + m = s.length ∧ setOkL none s = setOkL p (s.drop i) ∧ (i = 0 → p = none) ∧ (∀ (h : 0 < i) (h' : i - 1 < s.length), p = some s[i-1].hi ∧ s[i-1].hi ≤ 9999 ∧ 1 ≤ s[i-1].hi) ∧ st.env 7 = .int .i64 i) (s.length) _ ?_ ?_
  · exact ⟨0, none, by simp⟩
  rintro m0 ⟨env, rs⟩ hU0 hV0 ⟨i, p, hi, hs, hp0, hp, e0_7⟩ ih0; simp at hU0 e0_7; clear hV0
  have hw := wrap_up (show i < 4611686018427387904 by omega)
  simp [hU0, e0_7]
  refine RB_dec ?_ ?_ <;> intro h
  · rw [List.drop_eq_getElem_cons h] at hs
    simp only [setOkL] at hs
    by_cases hi0 : i = 0
    · subst hi0
      obtain rfl := hp0 rfl
      simp [hU0, e0_7, h, tmpAt]
      repeat' first | (refine RT_dec ?_ ?_ <;> intro hg <;> try simp [tmpAt, hg, hU0, e0_7, h, hw]) | (refine RT_split ?_ ?_ <;> intro hg <;> (try simp at hg) <;> try simp [tmpAt, hg, hU0, e0_7, h, hw]) | (refine RB_dec ?_ ?_ <;> intro hg <;> try simp [tmpAt, hg, hU0, e0_7, h, hw]) | (refine RB_ndec ?_ ?_ <;> intro hg <;> try simp [tmpAt, hg, hU0, e0_7, h, hw]) | (refine RB_split ?_ ?_ <;> intro hg <;> (try simp at hg) <;> try simp [tmpAt, hg, hU0, e0_7, h, hw]) | (refine RG_dec ?_ ?_ <;> intro hg <;> try simp [tmpAt, hg, hU0, e0_7, h, hw]) | (refine RG_split ?_ ?_ <;> intro hg <;> (try simp at hg) <;> try simp [tmpAt, hg, hU0, e0_7, h, hw])
      all_goals first
        | (have hb : rangeOk s[0] = false := by simp_all [rangeOk, within] <;> omega
           simp [setOk, hs, hb]; done)
        | (have hb : rangeOk s[0] = true := by simp_all [rangeOk, within] <;> omega
           simp [hb, after] at hs
           refine ih0 (m0 - 1) _ (by omega) ?_ ?_ ⟨1, some s[0].hi, by omega, by simpa using hs, by simp, ?_, ?_⟩
           · simp [hU0, e0_7]
           · simp [hU0, e0_7]
           · intro h1 h2; simp_all [within] <;> omega
           · simp [hU0, e0_7, hw])
    · obtain ⟨rfl, hp1, hp2⟩ := hp (by omega) (by omega)
      have hp : IntKind.i64.wrap ((i : Int) - 1) = ((i - 1 : Nat) : Int) := by rw [wrap_in (by omega) (by omega)]; omega
      have hq : IntKind.i64.wrap (s[i-1].hi + 1) = s[i-1].hi + 1 := wrap_in (by omega) (by omega)
      have hi0' : 0 < i := by omega
      have hlt : i - 1 < s.length := by omega
      simp [hU0, e0_7, h, tmpAt, hi0']
      repeat' first | (refine RT_dec ?_ ?_ <;> intro hg <;> try simp [tmpAt, hg, hU0, e0_7, h, hw, hp, hq, hi0', hlt]) | (refine RT_split ?_ ?_ <;> intro hg <;> (try simp at hg) <;> try simp [tmpAt, hg, hU0, e0_7, h, hw, hp, hq, hi0', hlt]) | (refine RB_dec ?_ ?_ <;> intro hg <;> try simp [tmpAt, hg, hU0, e0_7, h, hw, hp, hq, hi0', hlt]) | (refine RB_ndec ?_ ?_ <;> intro hg <;> try simp [tmpAt, hg, hU0, e0_7, h, hw, hp, hq, hi0', hlt]) | (refine RB_split ?_ ?_ <;> intro hg <;> (try simp at hg) <;> try simp [tmpAt, hg, hU0, e0_7, h, hw, hp, hq, hi0', hlt]) | (refine RG_dec ?_ ?_ <;> intro hg <;> try simp [tmpAt, hg, hU0, e0_7, h, hw, hp, hq, hi0', hlt]) | (refine RG_split ?_ ?_ <;> intro hg <;> (try simp at hg) <;> try simp [tmpAt, hg, hU0, e0_7, h, hw, hp, hq, hi0', hlt])
      all_goals first
        | (have hb : (rangeOk s[i] && after (some s[i-1].hi) s[i]) = false := by simp_all [rangeOk, within, after] <;> omega
           simp [setOk, hs, hb]; done)
        | (have hb : (rangeOk s[i] && after (some s[i-1].hi) s[i]) = true := by simp_all [rangeOk, within, after] <;> omega
           simp [hb] at hs
           refine ih0 (m0 - 1) _ (by omega) ?_ ?_ ⟨i + 1, some s[i].hi, by omega, by simpa using hs, by simp, ?_, ?_⟩
           · simp [hU0, e0_7]
           · simp [hU0, e0_7]
           · intro h1 h2; simp_all [within] <;> omega
           · simp [hU0, e0_7, hw])
  · rw [List.drop_eq_nil_of_le (by omega)] at hs
    simp [setOkL] at hs
    simp [hU0, e0_7, h, setOk, hs]
end Go.Proofs.YtomeglmblhfafaaGreatDoor
