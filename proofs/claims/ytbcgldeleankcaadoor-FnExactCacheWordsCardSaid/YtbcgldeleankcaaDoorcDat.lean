/- The program's data as plain Lean data, and how the value-level machine tells them. (By program: gen_dat.py.) -/
import Derived.Test.YtbcgldeleankcaaDoorcTab
import Derived.Test.YtbcgldeleankcaaDoorLfd
set_option linter.unusedSectionVars false
set_option linter.all false
set_option linter.unusedVariables false
set_option linter.unusedSimpArgs false
namespace Go.Proofs.YtbcgldeleankcaaDoor
open Go.Lft

abbrev S := List UInt8
theorem wrap_in {n : Int} (h1 : -9223372036854775808 ≤ n) (h2 : n ≤ 9223372036854775807) : IntKind.i64.wrap n = n := by
  simp only [IntKind.wrap, IntKind.bits, IntKind.signed]
  simp
  omega
theorem wrap_up {i : Nat} (h : i < 4611686018427387904) : IntKind.i64.wrap ((i : Int) + 1) = ((i + 1 : Nat) : Int) := by
  rw [wrap_in (by omega) (by omega)]; simp
def tot {α : Type} (f : α → Nat) : List α → Nat
  | [] => 0
  | x :: xs => f x + tot f xs
theorem tot_mem {α : Type} (f : α → Nat) : ∀ {xs : List α} {x : α}, x ∈ xs → f x ≤ tot f xs
  | y :: ys, x, h => by
    rcases List.mem_cons.1 h with rfl | h
    · simp only [tot]; omega
    · have := tot_mem f h; simp only [tot]; omega
theorem tot_drop {α : Type} (f : α → Nat) {xs : List α} {i : Nat} (h : i < xs.length) : tot f (xs.drop i) = f xs[i] + tot f (xs.drop (i + 1)) := by
  rw [List.drop_eq_getElem_cons h]; rfl
/-- What is left, or -1. -/
def cut (n : Int) : Int := if n < 0 then -1 else n
theorem cut_pos {n : Int} (h : ¬ cut n < 0) : cut n = n ∧ 0 ≤ n := by unfold cut at h ⊢; split at h <;> simp_all <;> omega
theorem cut_neg {n : Int} (h : cut n < 0) : n < 0 := by unfold cut at h; split at h <;> omega
theorem take_next {α : Type} {xs ys : List α} {i : Nat} (hs : xs.take i = ys.take i) (h : i < xs.length) (h' : i < ys.length) : xs.take (i + 1) = (ys.set i xs[i]).take (i + 1) := by
  rw [List.take_succ_eq_append_getElem h, List.take_set, List.take_succ_eq_append_getElem h', List.set_append_right _ _ (by simp; omega)]
  simp [hs]
  rw [Nat.min_eq_left (by omega), Nat.sub_self]; rfl
theorem take_eq {α : Type} {xs ys : List α} {i : Nat} (hs : xs.take i = ys.take i) (h : i < xs.length) (h' : i < ys.length) (he : xs[i] = ys[i]) : xs.take (i + 1) = ys.take (i + 1) := by
  rw [List.take_succ_eq_append_getElem h, List.take_succ_eq_append_getElem h', hs, he]
theorem take_all {α : Type} {xs ys : List α} {i : Nat} (hs : xs.take i = ys.take i) (h : ¬ i < xs.length) (hl : xs.length = ys.length) : xs = ys := by
  rwa [List.take_of_length_le (by omega), List.take_of_length_le (by omega)] at hs
/-- Whole numbers as they can come in. -/
def i64 (n : Int) : Prop := -9223372036854775808 ≤ n ∧ n ≤ 9223372036854775807
theorem has_int : ∀ d, (Sh.int .i64).has d → ∃ a : Int, d = .int .i64 a ∧ True ∧ i64 a := by
  intro d h
  cases d <;> simp only [Sh.has] at h
  obtain ⟨rfl, h⟩ := h
  simp [Lit.wf, IntKind.min, IntKind.max, IntKind.bits, IntKind.signed] at h
  exact ⟨_, rfl, trivial, by unfold i64; omega⟩
theorem has_str : ∀ d, Sh.str.has d → ∃ a : S, d = .str a ∧ a.length ≤ 9223372036854775807 ∧ True := by
  intro d h
  cases d <;> simp only [Sh.has, maxLen] at h
  exact ⟨_, rfl, by omega, trivial⟩
theorem has_bool : ∀ d, Sh.bool.has d → ∃ a : Bool, d = .bool a ∧ True ∧ True := by
  intro d h
  cases d <;> simp only [Sh.has] at h
  exact ⟨_, rfl, trivial, trivial⟩
theorem has_all {α : Type} {s : Sh} {f : α → D} {W R : α → Prop} (hs : ∀ d, s.has d → ∃ a, d = f a ∧ W a ∧ R a) : ∀ xs : List D, (∀ x ∈ xs, s.has x) → ∃ l : List α, xs = l.map f ∧ (∀ a ∈ l, W a) ∧ ∀ a ∈ l, R a
  | [], _ => ⟨[], rfl, by simp, by simp⟩
  | x :: xs, h => by
    obtain ⟨l, h1, h2, h3⟩ := has_all hs xs (fun y hy => h y (List.mem_cons_of_mem _ hy))
    obtain ⟨a, h4, h5, h6⟩ := hs x (h x (List.mem_cons_self ..))
    refine ⟨a :: l, by simp [h1, h4], fun b hb => ?_, fun b hb => ?_⟩
    · rcases List.mem_cons.1 hb with rfl | hb
      · exact h5
      · exact h2 b hb
    · rcases List.mem_cons.1 hb with rfl | hb
      · exact h6
      · exact h3 b hb
theorem has_list {α : Type} {te e : Nat} {s : Sh} {f : α → D} {W R : α → Prop} (hs : ∀ d, s.has d → ∃ a, d = f a ∧ W a ∧ R a) : ∀ d, (Sh.slice te e s).has d → ∃ l : List α, d = .lst false te e (l.map f) ∧ (l.length ≤ 9223372036854775807 ∧ ∀ a ∈ l, W a) ∧ ∀ a ∈ l, R a := by
  intro d h
  cases d <;> simp only [Sh.has, maxLen] at h
  obtain ⟨rfl, rfl, rfl, h1, h2⟩ := h
  obtain ⟨l, rfl, h3, h4⟩ := has_all hs _ h2
  exact ⟨l, rfl, ⟨by simpa using h1, h3⟩, h4⟩
theorem has_nil {d : List D} (h : Sh.hasL [] d) : d = [] := by
  cases d <;> simp only [Sh.hasL] at h
  rfl
theorem has_cons {s : Sh} {ss : List Sh} {d : List D} (h : Sh.hasL (s :: ss) d) : ∃ x xs, d = x :: xs ∧ s.has x ∧ Sh.hasL ss xs := by
  cases d <;> simp only [Sh.hasL] at h
  exact ⟨_, _, rfl, h.1, h.2⟩
theorem has_agg {ss : List Sh} {d : D} (h : (Sh.strct ss).has d) : ∃ xs, d = .agg xs ∧ Sh.hasL ss xs := by
  cases d <;> simp only [Sh.has] at h
  exact ⟨_, rfl, h⟩
@[simp] theorem take_len_map {α β : Type} (f : α → β) (xs : List α) : List.take xs.length (xs.map f) = xs.map f := by
  rw [← List.length_map (f := f), List.take_length]
theorem fr_map {α : Type} (f g : α → D) (h : ∀ x, D.freeze (f x) = g x) (xs : List α) : D.freezeL (xs.map f) = xs.map g := by
  induction xs with
  | nil => simp
  | cons x xs ih => simp [h, ih]
theorem cold_map {α : Type} (f : α → D) (h : ∀ x, D.cold (f x) = false) (xs : List α) : D.coldL (xs.map f) = false := by
  induction xs with
  | nil => simp
  | cons x xs ih => simp [h, ih]
@[simp] theorem fr_strs (xs : List S) : D.freezeL (xs.map .str) = xs.map .str := fr_map _ _ (by simp) xs
@[simp] theorem fr_ints {k : IntKind} (xs : List Int) : D.freezeL (xs.map (.int k)) = xs.map (.int k) := fr_map _ _ (by simp) xs
@[simp] theorem fr_strsc {α : Type} (g : α → S) (xs : List α) : D.freezeL (xs.map (D.str ∘ g)) = xs.map (D.str ∘ g) := fr_map _ _ (by simp) xs
@[simp] theorem fr_intsc {α : Type} {k : IntKind} (g : α → Int) (xs : List α) : D.freezeL (xs.map (D.int k ∘ g)) = xs.map (D.int k ∘ g) := fr_map _ _ (by simp) xs
@[simp] theorem cold_strsc {α : Type} (g : α → S) (xs : List α) : D.coldL (xs.map (D.str ∘ g)) = false := cold_map _ (by simp) xs
@[simp] theorem cold_intsc {α : Type} {k : IntKind} (g : α → Int) (xs : List α) : D.coldL (xs.map (D.int k ∘ g)) = false := cold_map _ (by simp) xs
@[simp] theorem cold_strs (xs : List S) : D.coldL (xs.map .str) = false := cold_map _ (by simp) xs
@[simp] theorem cold_ints {k : IntKind} (xs : List Int) : D.coldL (xs.map (.int k)) = false := cold_map _ (by simp) xs

structure Seen where
  uid : Int
  flags : Int
  mod : Int
  deriving DecidableEq
@[simp] def encSeen (x : Seen) : D := .agg [.int .i64 x.uid, .int .i64 x.flags, .int .i64 x.mod]
@[simp] def teSeen : Bool → Nat | true => 93 | false => 89
@[simp] def zeroSeen : Seen := ⟨0, 0, 0⟩
def shSeen : Sh := .strct [.int .i64, .int .i64, .int .i64]
def rgSeen (x : Seen) : Prop := i64 x.uid ∧ i64 x.flags ∧ i64 x.mod
theorem has_Seen : ∀ d, shSeen.has d → ∃ a : Seen, d = encSeen a ∧ True ∧ rgSeen a := by
  intro d h
  obtain ⟨s0, rfl, h0⟩ := has_agg h
  obtain ⟨x0, s1, rfl, g0, h1⟩ := has_cons h0
  obtain ⟨a0, rfl, w0, r0⟩ := has_int _ g0
  obtain ⟨x1, s2, rfl, g1, h2⟩ := has_cons h1
  obtain ⟨a1, rfl, w1, r1⟩ := has_int _ g1
  obtain ⟨x2, s3, rfl, g2, h3⟩ := has_cons h2
  obtain ⟨a2, rfl, w2, r2⟩ := has_int _ g2
  obtain rfl := has_nil h3
  exact ⟨⟨a0, a1, a2⟩, rfl, trivial, ⟨r0, r1, r2⟩⟩
@[simp] theorem fr_Seen (xs : List Seen) : D.freezeL (xs.map encSeen) = xs.map encSeen := fr_map _ _ (by simp) xs
@[simp] theorem cold_Seen (xs : List Seen) : D.coldL (xs.map encSeen) = false := cold_map _ (by simp) xs
@[simp] theorem fr_Seenc {α : Type} (g : α → Seen) (xs : List α) : D.freezeL (xs.map (encSeen ∘ g)) = xs.map (encSeen ∘ g) := fr_map _ _ (by simp) xs
@[simp] theorem cold_Seenc {α : Type} (g : α → Seen) (xs : List α) : D.coldL (xs.map (encSeen ∘ g)) = false := cold_map _ (by simp) xs
@[simp] def encSeens (L o : Bool) (x : List Seen) : D := .lst o (teSeen L) 3 (x.map encSeen)
structure Cache where
  box : S
  valid : Int
  mod : Int
  seens : List Seen
  deriving DecidableEq
@[simp] def encCache (L o : Bool) (x : Cache) : D := .agg [.str x.box, .int .i64 x.valid, .int .i64 x.mod, .lst o (teSeen L) 3 (x.seens.map encSeen)]
@[simp] def teCache : Bool → Nat | true => 37 | false => 42
@[simp] def zeroCache : Cache := ⟨[], 0, 0, []⟩
def szCache (x : Cache) : Nat := x.box.length + x.seens.length
def wfCache (x : Cache) : Prop := x.box.length ≤ 9223372036854775807 ∧ x.seens.length ≤ 9223372036854775807
def shCache : Sh := .strct [.str, .int .i64, .int .i64, .slice (teSeen true) 3 shSeen]
def rgCache (x : Cache) : Prop := i64 x.valid ∧ i64 x.mod ∧ (∀ y ∈ x.seens, rgSeen y)
theorem has_Cache : ∀ d, shCache.has d → ∃ a : Cache, d = encCache true false a ∧ wfCache a ∧ rgCache a := by
  intro d h
  obtain ⟨s0, rfl, h0⟩ := has_agg h
  obtain ⟨x0, s1, rfl, g0, h1⟩ := has_cons h0
  obtain ⟨a0, rfl, w0, r0⟩ := has_str _ g0
  obtain ⟨x1, s2, rfl, g1, h2⟩ := has_cons h1
  obtain ⟨a1, rfl, w1, r1⟩ := has_int _ g1
  obtain ⟨x2, s3, rfl, g2, h3⟩ := has_cons h2
  obtain ⟨a2, rfl, w2, r2⟩ := has_int _ g2
  obtain ⟨x3, s4, rfl, g3, h4⟩ := has_cons h3
  obtain ⟨a3, rfl, w3, r3⟩ := has_list has_Seen _ g3
  obtain rfl := has_nil h4
  exact ⟨⟨a0, a1, a2, a3⟩, rfl, ⟨w0, w3.1⟩, ⟨r1, r2, r3⟩⟩
@[simp] theorem fr_Cache (L o : Bool) (xs : List Cache) : D.freezeL (xs.map (encCache L o)) = xs.map (encCache L false) := fr_map _ _ (by simp) xs
@[simp] theorem cold_Cache (L : Bool) (xs : List Cache) : D.coldL (xs.map (encCache L true)) = false := cold_map _ (by simp) xs
@[simp] theorem fr_Cachec (L o : Bool) {α : Type} (g : α → Cache) (xs : List α) : D.freezeL (xs.map ((encCache L o) ∘ g)) = xs.map ((encCache L false) ∘ g) := fr_map _ _ (by simp) xs
@[simp] theorem cold_Cachec (L : Bool) {α : Type} (g : α → Cache) (xs : List α) : D.coldL (xs.map ((encCache L true) ∘ g)) = false := cold_map _ (by simp) xs
end Go.Proofs.YtbcgldeleankcaaDoor
