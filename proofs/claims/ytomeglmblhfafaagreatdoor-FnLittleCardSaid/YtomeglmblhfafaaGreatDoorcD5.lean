/- Boxes: BoxOk of the program. -/
import Derived.Test.YtomeglmblhfafaaGreatDoorcD4
set_option linter.unusedSectionVars false
set_option linter.all false
set_option linter.unusedVariables false
set_option linter.unusedSimpArgs false
set_option maxRecDepth 100000
namespace Go.Proofs.YtomeglmblhfafaaGreatDoor
open Go.Lft

/-! ### All of the first so many -/
def upto {α : Type} (xs : List α) (f : Nat → α → Bool) (i : Nat) : Prop := ∀ k x, k < i → xs[k]? = some x → f k x = true
noncomputable instance {α : Type} (xs : List α) (f : Nat → α → Bool) (i : Nat) : Decidable (upto xs f i) := Classical.propDecidable _
theorem upto_zero {α : Type} {xs : List α} {f : Nat → α → Bool} : upto xs f 0 := fun k x h => by omega
theorem upto_next {α : Type} {xs : List α} {f : Nat → α → Bool} {i : Nat} (h : i < xs.length) (ha : upto xs f i) (hx : f i xs[i] = true) : upto xs f (i + 1) := by
  intro k x hk hx'
  rcases Nat.lt_or_ge k i with h1 | h1
  · exact ha k x h1 hx'
  · obtain rfl : k = i := by omega
    rw [List.getElem?_eq_getElem h] at hx'
    obtain rfl := Option.some.inj hx'
    exact hx
theorem upto_bad {α : Type} {xs : List α} {f : Nat → α → Bool} {i : Nat} (h : i < xs.length) (hx : f i xs[i] = false) : ¬ upto xs f xs.length := by
  intro ha
  have := ha i xs[i] h (List.getElem?_eq_getElem h)
  rw [hx] at this; cases this
theorem upto_all {α : Type} {xs : List α} {f : Nat → α → Bool} {i : Nat} (h : ¬ i < xs.length) (ha : upto xs f i) : upto xs f xs.length := fun k x hk hx => ha k x (by omega) hx

/-! ### The plain words -/
def mailGood (b : Box) (q : Option Mail) (m : Mail) : Bool := within m.uid 1 (b.next - 1) && (match q with | none => true | some q => decide (q.uid < m.uid)) && within m.flags 0 31 && within m.mod 1 b.mod && mailOk m.text
def hasUid (ms : List Mail) (u : Int) : Bool := ms.any fun m => decide (m.uid = u)
def hasTomb (ts : List Tomb) (u : Int) : Bool := ts.any fun t => decide (t.uid = u)
def tombGood (b : Box) (ts : List Tomb) (q : Option Tomb) (t : Tomb) : Bool := within t.uid 1 (b.next - 1) && within t.mod (b.horizon + 1) b.mod && !hasTomb ts t.uid && !hasUid b.mails t.uid && (match q with | none => true | some q => decide (q.mod < t.mod) || (decide (q.mod = t.mod) && decide (q.uid < t.uid)))
def mailsGood (b : Box) (k : Nat) (m : Mail) : Bool := mailGood b (prevOf b.mails k) m
def tombsGood (b : Box) (k : Nat) (t : Tomb) : Bool := tombGood b (b.tombs.take k) (prevOf b.tombs k) t
def NumsOK (b : Box) : Prop := within b.valid 1 9999 = true ∧ within b.next 1 9999 = true ∧ within b.mod 1 100000 = true ∧ within b.horizon 0 b.mod = true
def MailsOK (b : Box) : Prop := upto b.mails (mailsGood b) b.mails.length ∧ b.mails.length ≤ 30
def TombsOK (b : Box) : Prop := upto b.tombs (tombsGood b) b.tombs.length ∧ b.tombs.length ≤ 40
def BoxOK (b : Box) : Prop := boxName b.name = true ∧ NumsOK b ∧ MailsOK b ∧ TombsOK b
noncomputable instance (b : Box) : Decidable (MailsOK b) := Classical.propDecidable _
noncomputable instance (b : Box) : Decidable (TombsOK b) := Classical.propDecidable _
noncomputable instance (b : Box) : Decidable (BoxOK b) := Classical.propDecidable _
noncomputable def boxOk (b : Box) : Bool := decide (BoxOK b)

@[simp] theorem isAgg_pto (x : D) : Go.Lft.isAgg (.pto x) = false := rfl
@[simp] theorem isPtr_ptr (r : Rid) (p : List Stp) : isPtr (.ptr r p) = true := rfl
@[simp] theorem isPtr_pto (x : D) : isPtr (.pto x) = true := rfl
/-! ### Places found -/
def idxOf {α : Type} (p : α → Bool) (xs : List α) : Int := match xs.findIdx? p with | some i => i | none => -1
theorem idxOf_at {α : Type} {p : α → Bool} {xs : List α} {i : Nat} (h : i < xs.length) (ha : (xs.take i).any p = false) (hx : p xs[i] = true) : idxOf p xs = i := by
  have : xs.findIdx? p = some i := by
    rw [List.findIdx?_eq_some_iff_getElem]
    refine ⟨h, hx, fun j hj => ?_⟩
    rw [List.any_eq_false] at ha
    have := ha xs[j] (by rw [List.mem_take_iff_getElem]; exact ⟨j, by omega, rfl⟩)
    simpa using this
  simp [idxOf, this]
theorem idxOf_none {α : Type} {p : α → Bool} {xs : List α} (ha : xs.any p = false) : idxOf p xs = -1 := by
  have : xs.findIdx? p = none := by
    rw [List.findIdx?_eq_none_iff]
    intro x hx
    rw [List.any_eq_false] at ha
    simpa using ha x hx
  simp [idxOf, this]
theorem idxOf_neg {α : Type} {p : α → Bool} {xs : List α} : (0 ≤ idxOf p xs) ↔ xs.any p = true := by
  cases h : xs.any p with
  | false => simp [idxOf_none h]
  | true =>
    have h2 : xs.findIdx? p ≠ none := by
      intro hn
      rw [List.findIdx?_eq_none_iff] at hn
      rw [List.any_eq_true] at h
      obtain ⟨x, hx, hp⟩ := h
      rw [hn x hx] at hp; cases hp
    obtain ⟨i, hi⟩ := Option.ne_none_iff_exists'.1 h2
    simp [idxOf, hi]
theorem eq_IndexFuncMail (xs : List Mail) (f : Nat) (x : D) (p : Mail → Bool) (hmd : E.md f = []) (hf : ∀ m ∈ xs, lim E f [encMail m, .pto x] = some (.bool (p m), [])) (hl : xs.length ≤ 16777216) : lim E 200 [.lst false 108 4 (xs.map encMail), .fn f [.pto x]] = some (.int .i64 (idxOf p xs), []) := by
  refine lim_run (E := E) rfl Tryz.func200 rfl (by kernel_rfl) (by kernel_rfl) ?_
  simp [Tryz.f200, tmpAt]
  refine loop_fr [0, 1, 7] [] (fun m st => ∃ (i : Nat), i + m = xs.length ∧ (xs.take i).any p = false ∧ st.env 8 = .int .i64 i) (xs.length) _ ?_ ?_
  · exact ⟨0, by simp⟩
  rintro m0 ⟨env, rs⟩ hU0 hV0 ⟨i, hi, hs, e0_8⟩ ih0; simp at hU0 e0_8; clear hV0
  have hw := wrap_up (show i < 4611686018427387904 by omega)
  simp [hU0, e0_8]
  refine RB_dec ?_ ?_ <;> intro h
  · have w := hf xs[i] (List.getElem_mem h)
    simp at w
    simp [hU0, e0_8, h, hmd, w]
    refine RB_split ?_ ?_ <;> intro h2 <;> simp [hU0, e0_8, h]
    · exact (idxOf_at h hs h2).symm
    · refine ih0 (m0 - 1) _ (by omega) ?_ ?_ ⟨i + 1, by omega, any_next h hs h2, ?_⟩
      · simp [hU0, e0_8]
      · simp [hU0, e0_8]
      simp [hU0, e0_8, hw]
  · simp [hU0, e0_8, h]
    exact (idxOf_none (any_take h hs)).symm
@[simp] theorem eq_mailAt1 (m : Mail) (u : Int) : lim E 236 [.agg [.int .i64 m.uid, .int .i64 m.flags, .int .i64 m.mod, .str m.text], .pto (.int .i64 u)] = some (.bool (decide (m.uid = u)), []) := by
  refine lim_run (E := E) rfl Tryz.func236 rfl (by kernel_rfl) (by kernel_rfl) ?_
  simp [Tryz.f236, tmpAt]
@[simp] theorem eq_mailAt (b : Box) (u : Int) (hl : b.mails.length ≤ 16777216) : lim E 186 [encBox false false b, .int .i64 u] = some (.int .i64 (idxOf (fun m => decide (m.uid = u)) b.mails), []) := by
  have w := eq_IndexFuncMail b.mails 236 (.int .i64 u) (fun m => decide (m.uid = u)) rfl (fun m _ => by simp) hl
  try simp at w
  refine lim_run (E := E) rfl Tryz.func186 rfl (by kernel_rfl) (by kernel_rfl) ?_
  simp [Tryz.f186, tmpAt, w]
theorem eq_IndexFuncTomb (xs : List Tomb) (f : Nat) (x : D) (p : Tomb → Bool) (hmd : E.md f = []) (hf : ∀ m ∈ xs, lim E f [encTomb m, .pto x] = some (.bool (p m), [])) (hl : xs.length ≤ 16777216) : lim E 239 [.lst false 112 2 (xs.map encTomb), .fn f [.pto x]] = some (.int .i64 (idxOf p xs), []) := by
  refine lim_run (E := E) rfl Tryz.func239 rfl (by kernel_rfl) (by kernel_rfl) ?_
  simp [Tryz.f239, tmpAt]
  refine loop_fr [0, 1, 7] [] (fun m st => ∃ (i : Nat), i + m = xs.length ∧ (xs.take i).any p = false ∧ st.env 8 = .int .i64 i) (xs.length) _ ?_ ?_
  · exact ⟨0, by simp⟩
  rintro m0 ⟨env, rs⟩ hU0 hV0 ⟨i, hi, hs, e0_8⟩ ih0; simp at hU0 e0_8; clear hV0
  have hw := wrap_up (show i < 4611686018427387904 by omega)
  simp [hU0, e0_8]
  refine RB_dec ?_ ?_ <;> intro h
  · have w := hf xs[i] (List.getElem_mem h)
    simp at w
    simp [hU0, e0_8, h, hmd, w]
    refine RB_split ?_ ?_ <;> intro h2 <;> simp [hU0, e0_8, h]
    · exact (idxOf_at h hs h2).symm
    · refine ih0 (m0 - 1) _ (by omega) ?_ ?_ ⟨i + 1, by omega, any_next h hs h2, ?_⟩
      · simp [hU0, e0_8]
      · simp [hU0, e0_8]
      simp [hU0, e0_8, hw]
  · simp [hU0, e0_8, h]
    exact (idxOf_none (any_take h hs)).symm
theorem eq_ContainsFuncTomb (xs : List Tomb) (f : Nat) (x : D) (p : Tomb → Bool) (hmd : E.md f = []) (hf : ∀ m ∈ xs, lim E f [encTomb m, .pto x] = some (.bool (p m), [])) (hl : xs.length ≤ 16777216) : lim E 213 [.lst false 112 2 (xs.map encTomb), .fn f [.pto x]] = some (.bool (xs.any p), []) := by
  have w := eq_IndexFuncTomb xs f x p hmd hf hl
  try simp at w
  refine lim_run (E := E) rfl Tryz.func213 rfl (by kernel_rfl) (by kernel_rfl) ?_
  simp [Tryz.f213, tmpAt, w]
  rw [Bool.eq_iff_iff]
  have := idxOf_neg (p := p) (xs := xs)
  simp only [decide_eq_true_eq]
  exact this
theorem eq_mailsOk (b : Box) (hl : b.mails.length ≤ 16777216) (hn : 1 ≤ b.next) (hn2 : b.next ≤ 9999) : lim E 156 [encBox false false b] = some (.bool (decide (MailsOK b)), []) := by
  have hwn : IntKind.i64.wrap (b.next - 1) = b.next - 1 := wrap_in (by omega) (by omega)
  refine lim_run (E := E) rfl Tryz.func156 rfl (by kernel_rfl) (by kernel_rfl) ?_
  simp [Tryz.f156, tmpAt]
  refine loop_fr [1, 6, 7] [(1,0)] (fun m st => ∃ (i : Nat), i + m = b.mails.length ∧ upto b.mails (mailsGood b) i ∧ st.env 8 = .int .i64 i) (b.mails.length) _ ?_ ?_
  · exact ⟨0, by simp [upto_zero]⟩
  rintro m0 ⟨env, rs⟩ hU0 hV0 ⟨i, hi, ha, e0_8⟩ ih0; simp at hU0 hV0 e0_8
  have hw := wrap_up (show i < 4611686018427387904 by omega)
  simp [hU0, hV0, e0_8]
  refine RB_dec ?_ ?_ <;> intro h
  · by_cases hi0 : 0 < i
    · have hp : IntKind.i64.wrap ((i : Int) - 1) = ((i - 1 : Nat) : Int) := by rw [wrap_in (by omega) (by omega)]; omega
      have hlt : i - 1 < b.mails.length := by omega
      have hi1 : i ≠ 0 := by omega
      have hmg : mailsGood b i b.mails[i] = mailGood b (some b.mails[i-1]) b.mails[i] := by simp [mailsGood, prevOf, hi1, hlt]
      simp [hU0, hV0, e0_8, h, tmpAt, hi0, hwn, hp, hlt]
      repeat' first | (refine RT_dec ?_ ?_ <;> intro hg <;> try simp [tmpAt, hg, hU0, hV0, e0_8, h, hw, hp, hlt, hi0, hwn]) | (refine RT_split ?_ ?_ <;> intro hg <;> (try simp at hg) <;> try simp [tmpAt, hg, hU0, hV0, e0_8, h, hw, hp, hlt, hi0, hwn]) | (refine RB_dec ?_ ?_ <;> intro hg <;> try simp [tmpAt, hg, hU0, hV0, e0_8, h, hw, hp, hlt, hi0, hwn]) | (refine RB_ndec ?_ ?_ <;> intro hg <;> try simp [tmpAt, hg, hU0, hV0, e0_8, h, hw, hp, hlt, hi0, hwn]) | (refine RB_split ?_ ?_ <;> intro hg <;> (try simp at hg) <;> try simp [tmpAt, hg, hU0, hV0, e0_8, h, hw, hp, hlt, hi0, hwn]) | (refine RG_dec ?_ ?_ <;> intro hg <;> try simp [tmpAt, hg, hU0, hV0, e0_8, h, hw, hp, hlt, hi0, hwn]) | (refine RG_split ?_ ?_ <;> intro hg <;> (try simp at hg) <;> try simp [tmpAt, hg, hU0, hV0, e0_8, h, hw, hp, hlt, hi0, hwn])
      all_goals first
        | (have hb : ¬ upto b.mails (mailsGood b) b.mails.length := upto_bad h (by clear ih0; rw [hmg]; simp_all [mailGood] <;> omega)
           simp [MailsOK, hb]; done)
        | (refine ih0 (m0 - 1) _ (by omega) ?_ ?_ ⟨i + 1, by omega, upto_next h ha (by clear ih0; rw [hmg]; simp_all [mailGood] <;> omega), ?_⟩
           · simp [hU0, hV0, e0_8]
           · simp [hU0, hV0, e0_8]
           simp [hU0, hV0, e0_8, hw])
    · obtain rfl : i = 0 := by omega
      have hmg : mailsGood b 0 b.mails[0] = mailGood b none b.mails[0] := by simp [mailsGood, prevOf]
      simp [hU0, hV0, e0_8, h, tmpAt, hwn]
      repeat' first | (refine RT_dec ?_ ?_ <;> intro hg <;> try simp [tmpAt, hg, hU0, hV0, e0_8, h, hw, hwn]) | (refine RT_split ?_ ?_ <;> intro hg <;> (try simp at hg) <;> try simp [tmpAt, hg, hU0, hV0, e0_8, h, hw, hwn]) | (refine RB_dec ?_ ?_ <;> intro hg <;> try simp [tmpAt, hg, hU0, hV0, e0_8, h, hw, hwn]) | (refine RB_ndec ?_ ?_ <;> intro hg <;> try simp [tmpAt, hg, hU0, hV0, e0_8, h, hw, hwn]) | (refine RB_split ?_ ?_ <;> intro hg <;> (try simp at hg) <;> try simp [tmpAt, hg, hU0, hV0, e0_8, h, hw, hwn]) | (refine RG_dec ?_ ?_ <;> intro hg <;> try simp [tmpAt, hg, hU0, hV0, e0_8, h, hw, hwn]) | (refine RG_split ?_ ?_ <;> intro hg <;> (try simp at hg) <;> try simp [tmpAt, hg, hU0, hV0, e0_8, h, hw, hwn])
      all_goals first
        | (have hb : ¬ upto b.mails (mailsGood b) b.mails.length := upto_bad h (by clear ih0; rw [hmg]; simp_all [mailGood] <;> omega)
           simp [MailsOK, hb]; done)
        | (refine ih0 (m0 - 1) _ (by omega) ?_ ?_ ⟨0 + 1, by omega, upto_next h ha (by clear ih0; rw [hmg]; simp_all [mailGood] <;> omega), ?_⟩
           · simp [hU0, hV0, e0_8]
           · simp [hU0, hV0, e0_8]
           simp [hU0, hV0, e0_8, hw])
  · have hb := upto_all h ha
    simp [hU0, hV0, e0_8, h, MailsOK, hb]
    omega
end Go.Proofs.YtomeglmblhfafaaGreatDoor
