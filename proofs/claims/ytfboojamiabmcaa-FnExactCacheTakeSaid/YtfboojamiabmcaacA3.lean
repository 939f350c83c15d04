/- CacheOk: of the program and of the reference. -/
import Derived.Test.YtfboojamiabmcaacA2
set_option linter.unusedSectionVars false
set_option linter.all false
set_option linter.unusedVariables false
set_option linter.unusedSimpArgs false
set_option maxRecDepth 100000
namespace Go.Proofs.Ytfboojamiabmcaa
open Go.Lft

/-- What is asked of one seen, the one ahead of it at hand. -/
def seenOk (mod : Int) (p : Option Seen) (x : Seen) : Bool := within x.uid 1 9999 && (match p with | none => true | some q => decide (q.uid < x.uid)) && within x.flags 0 31 && within x.mod 1 mod
def seensOk (mod : Int) (xs : List Seen) (i : Nat) : Prop := ∀ k x, k < i → xs[k]? = some x → seenOk mod (prevOf xs k) x = true
noncomputable instance (mod : Int) (xs : List Seen) (i : Nat) : Decidable (seensOk mod xs i) := Classical.propDecidable _
noncomputable def cacheOk (c : Cache) : Bool := decide (seensOk c.mod c.seens c.seens.length) && (boxName c.box && (within c.valid 0 9999 && (within c.mod 0 100000 && decide ((c.seens.length : Int) ≤ 30))))
theorem seensOk_next {mod : Int} {xs : List Seen} {i : Nat} (h : i < xs.length) (ha : seensOk mod xs i) (hx : seenOk mod (prevOf xs i) xs[i] = true) : seensOk mod xs (i + 1) := by
  intro k x hk hx'
  rcases Nat.lt_or_ge k i with h1 | h1
  · exact ha k x h1 hx'
  · obtain rfl : k = i := by omega
    rw [List.getElem?_eq_getElem h] at hx'
    obtain rfl := Option.some.inj hx'
    exact hx
theorem seensOk_bad {mod : Int} {xs : List Seen} {i : Nat} (h : i < xs.length) (hx : seenOk mod (prevOf xs i) xs[i] = false) : ¬ seensOk mod xs xs.length := by
  intro ha
  have := ha i xs[i] h (List.getElem?_eq_getElem h)
  rw [hx] at this; cases this
theorem seensOk_all {mod : Int} {xs : List Seen} {i : Nat} (h : ¬ i < xs.length) (ha : seensOk mod xs i) : seensOk mod xs xs.length := fun k x hk hx => ha k x (by omega) hx
theorem eq_CacheOk (c : Cache) (hc : szCache c ≤ 16777216) : lim E 37 [encCache false false c] = some (.bool (cacheOk c), []) := by
  have hz : szCache c = c.box.length + c.seens.length := rfl
  have wn := eq_BoxName c.box (by omega)
  refine lim_run (E := E) rfl Try.func37 rfl (by kernel_rfl) (by kernel_rfl) ?_
  simp [Try.f37, tmpAt]
  refine loop_ind (fun m st => ∃ i : Nat, i + m = c.seens.length ∧ seensOk c.mod c.seens i ∧ st.env 1 = .ptr (1, 0) [] ∧ st.env 6 = .lst false 103 3 (c.seens.map encSeen) ∧ st.env 7 = .int .i64 c.seens.length ∧ st.env 8 = .int .i64 i ∧ st.rs (1, 0) = some ⟨true, encCache false false c⟩) c.seens.length _ ?_ ?_
  · exact ⟨0, by simp [seensOk]⟩
  rintro m ⟨env, rs⟩ ⟨i, hi, ha, e1, e6, e7, e8, r⟩ ih
  have hu := wrap_up (show i < 4611686018427387904 by omega)
  simp at e1 e6 e7 e8 r
  simp [e1, e6, e7, e8, r]
  refine RB_dec ?_ ?_ <;> intro h
  · by_cases hi0 : 0 < i
    · have hp : IntKind.i64.wrap ((i : Int) - 1) = ((i - 1 : Nat) : Int) := by rw [wrap_in (by omega) (by omega)]; omega
      have hlt : i - 1 < c.seens.length := by omega
      have hi1 : i ≠ 0 := by omega
      simp [e1, e6, e7, e8, r, h, tmpAt, hi0]
      repeat' first | (refine RT_dec ?_ ?_ <;> intro hg <;> try simp [tmpAt, hg, e1, e6, e7, e8, r, h, hu, hp, hlt, hi0]) | (refine RT_split ?_ ?_ <;> intro hg <;> (try simp at hg) <;> try simp [tmpAt, hg, e1, e6, e7, e8, r, h, hu, hp, hlt, hi0]) | (refine RB_dec ?_ ?_ <;> intro hg <;> try simp [tmpAt, hg, e1, e6, e7, e8, r, h, hu, hp, hlt, hi0]) | (refine RB_ndec ?_ ?_ <;> intro hg <;> try simp [tmpAt, hg, e1, e6, e7, e8, r, h, hu, hp, hlt, hi0]) | (refine RB_split ?_ ?_ <;> intro hg <;> (try simp at hg) <;> try simp [tmpAt, hg, e1, e6, e7, e8, r, h, hu, hp, hlt, hi0]) | (refine RG_dec ?_ ?_ <;> intro hg <;> try simp [tmpAt, hg, e1, e6, e7, e8, r, h, hu, hp, hlt, hi0]) | (refine RG_split ?_ ?_ <;> intro hg <;> (try simp at hg) <;> try simp [tmpAt, hg, e1, e6, e7, e8, r, h, hu, hp, hlt, hi0])
      all_goals first
        | (have hb := seensOk_bad (mod := c.mod) h (by simp_all [seenOk, prevOf] <;> (intros; omega)); simp [cacheOk, hb]; done)
        | (refine ih (m - 1) _ (by omega) ⟨i + 1, by omega, seensOk_next h ha (by simp_all [seenOk, prevOf]), ?_⟩; simp [e1, e6, e7, e8, r, upd])
    · obtain rfl : i = 0 := by omega
      simp [e1, e6, e7, e8, r, h, tmpAt]
      repeat' first | (refine RT_dec ?_ ?_ <;> intro hg <;> try simp [tmpAt, hg, e1, e6, e7, e8, r, h, hu]) | (refine RT_split ?_ ?_ <;> intro hg <;> (try simp at hg) <;> try simp [tmpAt, hg, e1, e6, e7, e8, r, h, hu]) | (refine RB_dec ?_ ?_ <;> intro hg <;> try simp [tmpAt, hg, e1, e6, e7, e8, r, h, hu]) | (refine RB_ndec ?_ ?_ <;> intro hg <;> try simp [tmpAt, hg, e1, e6, e7, e8, r, h, hu]) | (refine RB_split ?_ ?_ <;> intro hg <;> (try simp at hg) <;> try simp [tmpAt, hg, e1, e6, e7, e8, r, h, hu]) | (refine RG_dec ?_ ?_ <;> intro hg <;> try simp [tmpAt, hg, e1, e6, e7, e8, r, h, hu]) | (refine RG_split ?_ ?_ <;> intro hg <;> (try simp at hg) <;> try simp [tmpAt, hg, e1, e6, e7, e8, r, h, hu])
      all_goals first
        | (have hb := seensOk_bad (mod := c.mod) h (by simp_all [seenOk, prevOf] <;> (intros; omega)); simp [cacheOk, hb]; done)
        | (refine ih (m - 1) _ (by omega) ⟨0 + 1, by omega, seensOk_next h ha (by simp_all [seenOk, prevOf]), ?_⟩; simp [e1, e6, e7, e8, r, upd, wrap_in (n := 1) (by omega) (by omega)])
  · have hb := seensOk_all h ha
    simp [e1, e6, e7, e8, r, h, tmpAt, cacheOk, hb, wn]
    refine RG_split ?_ ?_ <;> intro g1 <;> simp [tmpAt, g1, e1, e6, e7, e8, r]
    refine RG_split ?_ ?_ <;> intro g2 <;> simp [tmpAt, g1, g2, e1, e6, e7, e8, r]
    refine RG_split ?_ ?_ <;> intro g3 <;> simp [tmpAt, g1, g2, g3, e1, e6, e7, e8, r]
theorem eq_sCacheOk (c : Cache) (hc : szCache c ≤ 16777216) : lim E 32 [encCache false false c] = some (.bool (cacheOk c), []) := by
  have hz : szCache c = c.box.length + c.seens.length := rfl
  have wn := eq_sBoxName c.box (by omega)
  refine lim_run (E := E) rfl Try.func32 rfl (by kernel_rfl) (by kernel_rfl) ?_
  simp [Try.f32, tmpAt]
  refine loop_ind (fun m st => ∃ i : Nat, i + m = c.seens.length ∧ seensOk c.mod c.seens i ∧ st.env 1 = .ptr (1, 0) [] ∧ st.env 3 = .int .i64 i ∧ st.rs (1, 0) = some ⟨true, encCache false false c⟩) c.seens.length _ ?_ ?_
  · exact ⟨0, by simp [seensOk]⟩
  rintro m ⟨env, rs⟩ ⟨i, hi, ha, e1, e3, r⟩ ih
  have hu := wrap_up (show i < 4611686018427387904 by omega)
  simp at e1 e3 r
  simp [e1, e3, r]
  refine RB_dec ?_ ?_ <;> intro h
  · by_cases hi0 : 0 < i
    · have hp : IntKind.i64.wrap ((i : Int) - 1) = ((i - 1 : Nat) : Int) := by rw [wrap_in (by omega) (by omega)]; omega
      have hlt : i - 1 < c.seens.length := by omega
      have hi1 : i ≠ 0 := by omega
      simp [e1, e3, r, h, tmpAt, hi0]
      repeat' first | (refine RT_dec ?_ ?_ <;> intro hg <;> try simp [tmpAt, hg, e1, e3, r, h, hu, hp, hlt, hi0]) | (refine RT_split ?_ ?_ <;> intro hg <;> (try simp at hg) <;> try simp [tmpAt, hg, e1, e3, r, h, hu, hp, hlt, hi0]) | (refine RB_dec ?_ ?_ <;> intro hg <;> try simp [tmpAt, hg, e1, e3, r, h, hu, hp, hlt, hi0]) | (refine RB_ndec ?_ ?_ <;> intro hg <;> try simp [tmpAt, hg, e1, e3, r, h, hu, hp, hlt, hi0]) | (refine RB_split ?_ ?_ <;> intro hg <;> (try simp at hg) <;> try simp [tmpAt, hg, e1, e3, r, h, hu, hp, hlt, hi0]) | (refine RG_dec ?_ ?_ <;> intro hg <;> try simp [tmpAt, hg, e1, e3, r, h, hu, hp, hlt, hi0]) | (refine RG_split ?_ ?_ <;> intro hg <;> (try simp at hg) <;> try simp [tmpAt, hg, e1, e3, r, h, hu, hp, hlt, hi0])
      all_goals first
        | (have hb := seensOk_bad (mod := c.mod) h (by simp_all [seenOk, prevOf] <;> (intros; omega)); simp [cacheOk, hb]; done)
        | (refine ih (m - 1) _ (by omega) ⟨i + 1, by omega, seensOk_next h ha (by simp_all [seenOk, prevOf]), ?_⟩; simp [e1, e3, r, upd])
    · obtain rfl : i = 0 := by omega
      simp [e1, e3, r, h, tmpAt]
      repeat' first | (refine RT_dec ?_ ?_ <;> intro hg <;> try simp [tmpAt, hg, e1, e3, r, h, hu]) | (refine RT_split ?_ ?_ <;> intro hg <;> (try simp at hg) <;> try simp [tmpAt, hg, e1, e3, r, h, hu]) | (refine RB_dec ?_ ?_ <;> intro hg <;> try simp [tmpAt, hg, e1, e3, r, h, hu]) | (refine RB_ndec ?_ ?_ <;> intro hg <;> try simp [tmpAt, hg, e1, e3, r, h, hu]) | (refine RB_split ?_ ?_ <;> intro hg <;> (try simp at hg) <;> try simp [tmpAt, hg, e1, e3, r, h, hu]) | (refine RG_dec ?_ ?_ <;> intro hg <;> try simp [tmpAt, hg, e1, e3, r, h, hu]) | (refine RG_split ?_ ?_ <;> intro hg <;> (try simp at hg) <;> try simp [tmpAt, hg, e1, e3, r, h, hu])
      all_goals first
        | (have hb := seensOk_bad (mod := c.mod) h (by simp_all [seenOk, prevOf] <;> (intros; omega)); simp [cacheOk, hb]; done)
        | (refine ih (m - 1) _ (by omega) ⟨0 + 1, by omega, seensOk_next h ha (by simp_all [seenOk, prevOf]), ?_⟩; simp [e1, e3, r, upd, wrap_in (n := 1) (by omega) (by omega)])
  · have hb := seensOk_all h ha
    simp [e1, e3, r, h, tmpAt, cacheOk, hb, wn]
    refine RG_split ?_ ?_ <;> intro g1 <;> simp [tmpAt, g1, e1, e3, r]
    refine RG_split ?_ ?_ <;> intro g2 <;> simp [tmpAt, g1, g2, e1, e3, r]
    refine RG_split ?_ ?_ <;> intro g3 <;> simp [tmpAt, g1, g2, g3, e1, e3, r]
end Go.Proofs.Ytfboojamiabmcaa
