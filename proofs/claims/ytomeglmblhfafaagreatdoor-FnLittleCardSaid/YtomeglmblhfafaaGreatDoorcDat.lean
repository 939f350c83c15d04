/- The program's data as plain Lean data, and how the value-level machine tells them. (By program: gen_dat.py.) -/
import Derived.Test.YtomeglmblhfafaaGreatDoorcTab
import Derived.Test.YtomeglmblhfafaaGreatDoorLfd
set_option linter.unusedSectionVars false
set_option linter.all false
set_option linter.unusedVariables false
set_option linter.unusedSimpArgs false
namespace Go.Proofs.YtomeglmblhfafaaGreatDoor
open Go.Lft

abbrev S := List UInt8
theorem wrap_in {n : Int} (h1 : -9223372036854775808 ≤ n) (h2 : n ≤ 9223372036854775807) : IntKind.i64.wrap n = n := by
  simp only [IntKind.wrap, IntKind.bits, IntKind.signed]
  simp
  omega
theorem wrap_up {i : Nat} (h : i < 4611686018427387904) : IntKind.i64.wrap ((i : Int) + 1) = ((i + 1 : Nat) : Int) := by
  rw [wrap_in (by omega) (by omega)]; simp
def tot {α : Type} (f : α → Nat) : List α → Nat
  | [] => 0
  | x :: xs => f x + tot f xs
theorem tot_mem {α : Type} (f : α → Nat) : ∀ {xs : List α} {x : α}, x ∈ xs → f x ≤ tot f xs
  | y :: ys, x, h => by
    rcases List.mem_cons.1 h with rfl | h
    · simp only [tot]; omega
    · have := tot_mem f h; simp only [tot]; omega
theorem tot_drop {α : Type} (f : α → Nat) {xs : List α} {i : Nat} (h : i < xs.length) : tot f (xs.drop i) = f xs[i] + tot f (xs.drop (i + 1)) := by
  rw [List.drop_eq_getElem_cons h]; rfl
/-- What is left, or -1. -/
def cut (n : Int) : Int := if n < 0 then -1 else n
theorem cut_pos {n : Int} (h : ¬ cut n < 0) : cut n = n ∧ 0 ≤ n := by unfold cut at h ⊢; split at h <;> simp_all <;> omega
theorem cut_neg {n : Int} (h : cut n < 0) : n < 0 := by unfold cut at h; split at h <;> omega
theorem take_next {α : Type} {xs ys : List α} {i : Nat} (hs : xs.take i = ys.take i) (h : i < xs.length) (h' : i < ys.length) : xs.take (i + 1) = (ys.set i xs[i]).take (i + 1) := by
  rw [List.take_succ_eq_append_getElem h, List.take_set, List.take_succ_eq_append_getElem h', List.set_append_right _ _ (by simp; omega)]
  simp [hs]
  rw [Nat.min_eq_left (by omega), Nat.sub_self]; rfl
theorem take_eq {α : Type} {xs ys : List α} {i : Nat} (hs : xs.take i = ys.take i) (h : i < xs.length) (h' : i < ys.length) (he : xs[i] = ys[i]) : xs.take (i + 1) = ys.take (i + 1) := by
  rw [List.take_succ_eq_append_getElem h, List.take_succ_eq_append_getElem h', hs, he]
theorem take_all {α : Type} {xs ys : List α} {i : Nat} (hs : xs.take i = ys.take i) (h : ¬ i < xs.length) (hl : xs.length = ys.length) : xs = ys := by
  rwa [List.take_of_length_le (by omega), List.take_of_length_le (by omega)] at hs
/-- Whole numbers as they can come in. -/
def i64 (n : Int) : Prop := -9223372036854775808 ≤ n ∧ n ≤ 9223372036854775807
theorem has_int : ∀ d, (Sh.int .i64).has d → ∃ a : Int, d = .int .i64 a ∧ True ∧ i64 a := by
  intro d h
  cases d <;> simp only [Sh.has] at h
  obtain ⟨rfl, h⟩ := h
  simp [Lit.wf, IntKind.min, IntKind.max, IntKind.bits, IntKind.signed] at h
  exact ⟨_, rfl, trivial, by unfold i64; omega⟩
theorem has_str : ∀ d, Sh.str.has d → ∃ a : S, d = .str a ∧ a.length ≤ 9223372036854775807 ∧ True := by
  intro d h
  cases d <;> simp only [Sh.has, maxLen] at h
  exact ⟨_, rfl, by omega, trivial⟩
theorem has_bool : ∀ d, Sh.bool.has d → ∃ a : Bool, d = .bool a ∧ True ∧ True := by
  intro d h
  cases d <;> simp only [Sh.has] at h
  exact ⟨_, rfl, trivial, trivial⟩
theorem has_all {α : Type} {s : Sh} {f : α → D} {W R : α → Prop} (hs : ∀ d, s.has d → ∃ a, d = f a ∧ W a ∧ R a) : ∀ xs : List D, (∀ x ∈ xs, s.has x) → ∃ l : List α, xs = l.map f ∧ (∀ a ∈ l, W a) ∧ ∀ a ∈ l, R a
  | [], _ => ⟨[], rfl, by simp, by simp⟩
  | x :: xs, h => by
    obtain ⟨l, h1, h2, h3⟩ := has_all hs xs (fun y hy => h y (List.mem_cons_of_mem _ hy))
    obtain ⟨a, h4, h5, h6⟩ := hs x (h x (List.mem_cons_self ..))
    refine ⟨a :: l, by simp [h1, h4], fun b hb => ?_, fun b hb => ?_⟩
    · rcases List.mem_cons.1 hb with rfl | hb
      · exact h5
      · exact h2 b hb
    · rcases List.mem_cons.1 hb with rfl | hb
      · exact h6
      · exact h3 b hb
theorem has_list {α : Type} {te e : Nat} {s : Sh} {f : α → D} {W R : α → Prop} (hs : ∀ d, s.has d → ∃ a, d = f a ∧ W a ∧ R a) : ∀ d, (Sh.slice te e s).has d → ∃ l : List α, d = .lst false te e (l.map f) ∧ (l.length ≤ 9223372036854775807 ∧ ∀ a ∈ l, W a) ∧ ∀ a ∈ l, R a := by
  intro d h
  cases d <;> simp only [Sh.has, maxLen] at h
  obtain ⟨rfl, rfl, rfl, h1, h2⟩ := h
  obtain ⟨l, rfl, h3, h4⟩ := has_all hs _ h2
  exact ⟨l, rfl, ⟨by simpa using h1, h3⟩, h4⟩
theorem has_nil {d : List D} (h : Sh.hasL [] d) : d = [] := by
  cases d <;> simp only [Sh.hasL] at h
  rfl
theorem has_cons {s : Sh} {ss : List Sh} {d : List D} (h : Sh.hasL (s :: ss) d) : ∃ x xs, d = x :: xs ∧ s.has x ∧ Sh.hasL ss xs := by
  cases d <;> simp only [Sh.hasL] at h
  exact ⟨_, _, rfl, h.1, h.2⟩
theorem has_agg {ss : List Sh} {d : D} (h : (Sh.strct ss).has d) : ∃ xs, d = .agg xs ∧ Sh.hasL ss xs := by
  cases d <;> simp only [Sh.has] at h
  exact ⟨_, rfl, h⟩
@[simp] theorem take_len_map {α β : Type} (f : α → β) (xs : List α) : List.take xs.length (xs.map f) = xs.map f := by
  rw [← List.length_map (f := f), List.take_length]
theorem fr_map {α : Type} (f g : α → D) (h : ∀ x, D.freeze (f x) = g x) (xs : List α) : D.freezeL (xs.map f) = xs.map g := by
  induction xs with
  | nil => simp
  | cons x xs ih => simp [h, ih]
theorem cold_map {α : Type} (f : α → D) (h : ∀ x, D.cold (f x) = false) (xs : List α) : D.coldL (xs.map f) = false := by
  induction xs with
  | nil => simp
  | cons x xs ih => simp [h, ih]
@[simp] theorem fr_strs (xs : List S) : D.freezeL (xs.map .str) = xs.map .str := fr_map _ _ (by simp) xs
@[simp] theorem fr_ints {k : IntKind} (xs : List Int) : D.freezeL (xs.map (.int k)) = xs.map (.int k) := fr_map _ _ (by simp) xs
@[simp] theorem fr_strsc {α : Type} (g : α → S) (xs : List α) : D.freezeL (xs.map (D.str ∘ g)) = xs.map (D.str ∘ g) := fr_map _ _ (by simp) xs
@[simp] theorem fr_intsc {α : Type} {k : IntKind} (g : α → Int) (xs : List α) : D.freezeL (xs.map (D.int k ∘ g)) = xs.map (D.int k ∘ g) := fr_map _ _ (by simp) xs
@[simp] theorem cold_strsc {α : Type} (g : α → S) (xs : List α) : D.coldL (xs.map (D.str ∘ g)) = false := cold_map _ (by simp) xs
@[simp] theorem cold_intsc {α : Type} {k : IntKind} (g : α → Int) (xs : List α) : D.coldL (xs.map (D.int k ∘ g)) = false := cold_map _ (by simp) xs
@[simp] theorem cold_strs (xs : List S) : D.coldL (xs.map .str) = false := cold_map _ (by simp) xs
@[simp] theorem cold_ints {k : IntKind} (xs : List Int) : D.coldL (xs.map (.int k)) = false := cold_map _ (by simp) xs

structure Range where
  lo : Int
  hi : Int
  deriving DecidableEq
@[simp] def encRange (x : Range) : D := .agg [.int .i64 x.lo, .int .i64 x.hi]
@[simp] def teRange : Bool → Nat | true => 0 | false => 161
@[simp] def zeroRange : Range := ⟨0, 0⟩
def shRange : Sh := .strct [.int .i64, .int .i64]
def rgRange (x : Range) : Prop := i64 x.lo ∧ i64 x.hi
theorem has_Range : ∀ d, shRange.has d → ∃ a : Range, d = encRange a ∧ True ∧ rgRange a := by
  intro d h
  obtain ⟨s0, rfl, h0⟩ := has_agg h
  obtain ⟨x0, s1, rfl, g0, h1⟩ := has_cons h0
  obtain ⟨a0, rfl, w0, r0⟩ := has_int _ g0
  obtain ⟨x1, s2, rfl, g1, h2⟩ := has_cons h1
  obtain ⟨a1, rfl, w1, r1⟩ := has_int _ g1
  obtain rfl := has_nil h2
  exact ⟨⟨a0, a1⟩, rfl, trivial, ⟨r0, r1⟩⟩
@[simp] theorem fr_Range (xs : List Range) : D.freezeL (xs.map encRange) = xs.map encRange := fr_map _ _ (by simp) xs
@[simp] theorem cold_Range (xs : List Range) : D.coldL (xs.map encRange) = false := cold_map _ (by simp) xs
@[simp] theorem fr_Rangec {α : Type} (g : α → Range) (xs : List α) : D.freezeL (xs.map (encRange ∘ g)) = xs.map (encRange ∘ g) := fr_map _ _ (by simp) xs
@[simp] theorem cold_Rangec {α : Type} (g : α → Range) (xs : List α) : D.coldL (xs.map (encRange ∘ g)) = false := cold_map _ (by simp) xs
structure Mail where
  uid : Int
  flags : Int
  mod : Int
  text : S
  deriving DecidableEq
@[simp] def encMail (x : Mail) : D := .agg [.int .i64 x.uid, .int .i64 x.flags, .int .i64 x.mod, .str x.text]
@[simp] def teMail : Bool → Nat | true => 0 | false => 108
@[simp] def zeroMail : Mail := ⟨0, 0, 0, []⟩
def szMail (x : Mail) : Nat := x.text.length
def wfMail (x : Mail) : Prop := x.text.length ≤ 9223372036854775807
def shMail : Sh := .strct [.int .i64, .int .i64, .int .i64, .str]
def rgMail (x : Mail) : Prop := i64 x.uid ∧ i64 x.flags ∧ i64 x.mod
theorem has_Mail : ∀ d, shMail.has d → ∃ a : Mail, d = encMail a ∧ wfMail a ∧ rgMail a := by
  intro d h
  obtain ⟨s0, rfl, h0⟩ := has_agg h
  obtain ⟨x0, s1, rfl, g0, h1⟩ := has_cons h0
  obtain ⟨a0, rfl, w0, r0⟩ := has_int _ g0
  obtain ⟨x1, s2, rfl, g1, h2⟩ := has_cons h1
  obtain ⟨a1, rfl, w1, r1⟩ := has_int _ g1
  obtain ⟨x2, s3, rfl, g2, h3⟩ := has_cons h2
  obtain ⟨a2, rfl, w2, r2⟩ := has_int _ g2
  obtain ⟨x3, s4, rfl, g3, h4⟩ := has_cons h3
  obtain ⟨a3, rfl, w3, r3⟩ := has_str _ g3
  obtain rfl := has_nil h4
  exact ⟨⟨a0, a1, a2, a3⟩, rfl, w3, ⟨r0, r1, r2⟩⟩
@[simp] theorem fr_Mail (xs : List Mail) : D.freezeL (xs.map encMail) = xs.map encMail := fr_map _ _ (by simp) xs
@[simp] theorem cold_Mail (xs : List Mail) : D.coldL (xs.map encMail) = false := cold_map _ (by simp) xs
@[simp] theorem fr_Mailc {α : Type} (g : α → Mail) (xs : List α) : D.freezeL (xs.map (encMail ∘ g)) = xs.map (encMail ∘ g) := fr_map _ _ (by simp) xs
@[simp] theorem cold_Mailc {α : Type} (g : α → Mail) (xs : List α) : D.coldL (xs.map (encMail ∘ g)) = false := cold_map _ (by simp) xs
structure Tomb where
  uid : Int
  mod : Int
  deriving DecidableEq
@[simp] def encTomb (x : Tomb) : D := .agg [.int .i64 x.uid, .int .i64 x.mod]
@[simp] def teTomb : Bool → Nat | true => 0 | false => 112
@[simp] def zeroTomb : Tomb := ⟨0, 0⟩
def shTomb : Sh := .strct [.int .i64, .int .i64]
def rgTomb (x : Tomb) : Prop := i64 x.uid ∧ i64 x.mod
theorem has_Tomb : ∀ d, shTomb.has d → ∃ a : Tomb, d = encTomb a ∧ True ∧ rgTomb a := by
  intro d h
  obtain ⟨s0, rfl, h0⟩ := has_agg h
  obtain ⟨x0, s1, rfl, g0, h1⟩ := has_cons h0
  obtain ⟨a0, rfl, w0, r0⟩ := has_int _ g0
  obtain ⟨x1, s2, rfl, g1, h2⟩ := has_cons h1
  obtain ⟨a1, rfl, w1, r1⟩ := has_int _ g1
  obtain rfl := has_nil h2
  exact ⟨⟨a0, a1⟩, rfl, trivial, ⟨r0, r1⟩⟩
@[simp] theorem fr_Tomb (xs : List Tomb) : D.freezeL (xs.map encTomb) = xs.map encTomb := fr_map _ _ (by simp) xs
@[simp] theorem cold_Tomb (xs : List Tomb) : D.coldL (xs.map encTomb) = false := cold_map _ (by simp) xs
@[simp] theorem fr_Tombc {α : Type} (g : α → Tomb) (xs : List α) : D.freezeL (xs.map (encTomb ∘ g)) = xs.map (encTomb ∘ g) := fr_map _ _ (by simp) xs
@[simp] theorem cold_Tombc {α : Type} (g : α → Tomb) (xs : List α) : D.coldL (xs.map (encTomb ∘ g)) = false := cold_map _ (by simp) xs
structure Box where
  name : S
  valid : Int
  next : Int
  mod : Int
  mails : List Mail
  tombs : List Tomb
  horizon : Int
  deriving DecidableEq
@[simp] def encBox (L o : Bool) (x : Box) : D := .agg [.str x.name, .int .i64 x.valid, .int .i64 x.next, .int .i64 x.mod, .lst o (teMail L) 4 (x.mails.map encMail), .lst o (teTomb L) 2 (x.tombs.map encTomb), .int .i64 x.horizon]
@[simp] def teBox : Bool → Nat | true => 0 | false => 41
@[simp] def zeroBox : Box := ⟨[], 0, 0, 0, [], [], 0⟩
def szBox (x : Box) : Nat := x.name.length + (x.mails.length + tot (fun (y : Mail) => szMail y) x.mails) + x.tombs.length
def wfBox (x : Box) : Prop := x.name.length ≤ 9223372036854775807 ∧ (x.mails.length ≤ 9223372036854775807 ∧ ∀ y ∈ x.mails, wfMail y) ∧ x.tombs.length ≤ 9223372036854775807
def shBox : Sh := .strct [.str, .int .i64, .int .i64, .int .i64, .slice (teMail true) 4 shMail, .slice (teTomb true) 2 shTomb, .int .i64]
def rgBox (x : Box) : Prop := i64 x.valid ∧ i64 x.next ∧ i64 x.mod ∧ (∀ y ∈ x.mails, rgMail y) ∧ (∀ y ∈ x.tombs, rgTomb y) ∧ i64 x.horizon
theorem has_Box : ∀ d, shBox.has d → ∃ a : Box, d = encBox true false a ∧ wfBox a ∧ rgBox a := by
  intro d h
  obtain ⟨s0, rfl, h0⟩ := has_agg h
  obtain ⟨x0, s1, rfl, g0, h1⟩ := has_cons h0
  obtain ⟨a0, rfl, w0, r0⟩ := has_str _ g0
  obtain ⟨x1, s2, rfl, g1, h2⟩ := has_cons h1
  obtain ⟨a1, rfl, w1, r1⟩ := has_int _ g1
  obtain ⟨x2, s3, rfl, g2, h3⟩ := has_cons h2
  obtain ⟨a2, rfl, w2, r2⟩ := has_int _ g2
  obtain ⟨x3, s4, rfl, g3, h4⟩ := has_cons h3
  obtain ⟨a3, rfl, w3, r3⟩ := has_int _ g3
  obtain ⟨x4, s5, rfl, g4, h5⟩ := has_cons h4
  obtain ⟨a4, rfl, w4, r4⟩ := has_list has_Mail _ g4
  obtain ⟨x5, s6, rfl, g5, h6⟩ := has_cons h5
  obtain ⟨a5, rfl, w5, r5⟩ := has_list has_Tomb _ g5
  obtain ⟨x6, s7, rfl, g6, h7⟩ := has_cons h6
  obtain ⟨a6, rfl, w6, r6⟩ := has_int _ g6
  obtain rfl := has_nil h7
  exact ⟨⟨a0, a1, a2, a3, a4, a5, a6⟩, rfl, ⟨w0, w4, w5.1⟩, ⟨r1, r2, r3, r4, r5, r6⟩⟩
@[simp] theorem fr_Box (L o : Bool) (xs : List Box) : D.freezeL (xs.map (encBox L o)) = xs.map (encBox L false) := fr_map _ _ (by simp) xs
@[simp] theorem cold_Box (L : Bool) (xs : List Box) : D.coldL (xs.map (encBox L true)) = false := cold_map _ (by simp) xs
@[simp] theorem fr_Boxc (L o : Bool) {α : Type} (g : α → Box) (xs : List α) : D.freezeL (xs.map ((encBox L o) ∘ g)) = xs.map ((encBox L false) ∘ g) := fr_map _ _ (by simp) xs
@[simp] theorem cold_Boxc (L : Bool) {α : Type} (g : α → Box) (xs : List α) : D.coldL (xs.map ((encBox L true) ∘ g)) = false := cold_map _ (by simp) xs
structure Store where
  boxes : List Box
  valid : Int
  deriving DecidableEq
@[simp] def encStore (L o : Bool) (x : Store) : D := .agg [.lst o (teBox L) 7 (x.boxes.map (encBox L o)), .int .i64 x.valid]
@[simp] def teStore : Bool → Nat | true => 0 | false => 26
@[simp] def zeroStore : Store := ⟨[], 0⟩
def szStore (x : Store) : Nat := (x.boxes.length + tot (fun (y : Box) => szBox y) x.boxes)
def wfStore (x : Store) : Prop := (x.boxes.length ≤ 9223372036854775807 ∧ ∀ y ∈ x.boxes, wfBox y)
def shStore : Sh := .strct [.slice (teBox true) 7 shBox, .int .i64]
def rgStore (x : Store) : Prop := (∀ y ∈ x.boxes, rgBox y) ∧ i64 x.valid
theorem has_Store : ∀ d, shStore.has d → ∃ a : Store, d = encStore true false a ∧ wfStore a ∧ rgStore a := by
  intro d h
  obtain ⟨s0, rfl, h0⟩ := has_agg h
  obtain ⟨x0, s1, rfl, g0, h1⟩ := has_cons h0
  obtain ⟨a0, rfl, w0, r0⟩ := has_list has_Box _ g0
  obtain ⟨x1, s2, rfl, g1, h2⟩ := has_cons h1
  obtain ⟨a1, rfl, w1, r1⟩ := has_int _ g1
  obtain rfl := has_nil h2
  exact ⟨⟨a0, a1⟩, rfl, w0, ⟨r0, r1⟩⟩
@[simp] theorem fr_Store (L o : Bool) (xs : List Store) : D.freezeL (xs.map (encStore L o)) = xs.map (encStore L false) := fr_map _ _ (by simp) xs
@[simp] theorem cold_Store (L : Bool) (xs : List Store) : D.coldL (xs.map (encStore L true)) = false := cold_map _ (by simp) xs
@[simp] theorem fr_Storec (L o : Bool) {α : Type} (g : α → Store) (xs : List α) : D.freezeL (xs.map ((encStore L o) ∘ g)) = xs.map ((encStore L false) ∘ g) := fr_map _ _ (by simp) xs
@[simp] theorem cold_Storec (L : Bool) {α : Type} (g : α → Store) (xs : List α) : D.coldL (xs.map ((encStore L true) ∘ g)) = false := cold_map _ (by simp) xs
structure Edit where
  kind : Int
  box : S
  to : S
  set_ : List Range
  how : Int
  bits : Int
  since : Int
  text : S
  deriving DecidableEq
@[simp] def encEdit (L o : Bool) (x : Edit) : D := .agg [.int .i64 x.kind, .str x.box, .str x.to, .lst o (teRange L) 2 (x.set_.map encRange), .int .i64 x.how, .int .i64 x.bits, .int .i64 x.since, .str x.text]
@[simp] def teEdit : Bool → Nat | true => 0 | false => 65
@[simp] def zeroEdit : Edit := ⟨0, [], [], [], 0, 0, 0, []⟩
def szEdit (x : Edit) : Nat := x.box.length + x.to.length + x.set_.length + x.text.length
def wfEdit (x : Edit) : Prop := x.box.length ≤ 9223372036854775807 ∧ x.to.length ≤ 9223372036854775807 ∧ x.set_.length ≤ 9223372036854775807 ∧ x.text.length ≤ 9223372036854775807
def shEdit : Sh := .strct [.int .i64, .str, .str, .slice (teRange true) 2 shRange, .int .i64, .int .i64, .int .i64, .str]
def rgEdit (x : Edit) : Prop := i64 x.kind ∧ (∀ y ∈ x.set_, rgRange y) ∧ i64 x.how ∧ i64 x.bits ∧ i64 x.since
theorem has_Edit : ∀ d, shEdit.has d → ∃ a : Edit, d = encEdit true false a ∧ wfEdit a ∧ rgEdit a := by
  intro d h
  obtain ⟨s0, rfl, h0⟩ := has_agg h
  obtain ⟨x0, s1, rfl, g0, h1⟩ := has_cons h0
  obtain ⟨a0, rfl, w0, r0⟩ := has_int _ g0
  obtain ⟨x1, s2, rfl, g1, h2⟩ := has_cons h1
  obtain ⟨a1, rfl, w1, r1⟩ := has_str _ g1
  obtain ⟨x2, s3, rfl, g2, h3⟩ := has_cons h2
  obtain ⟨a2, rfl, w2, r2⟩ := has_str _ g2
  obtain ⟨x3, s4, rfl, g3, h4⟩ := has_cons h3
  obtain ⟨a3, rfl, w3, r3⟩ := has_list has_Range _ g3
  obtain ⟨x4, s5, rfl, g4, h5⟩ := has_cons h4
  obtain ⟨a4, rfl, w4, r4⟩ := has_int _ g4
  obtain ⟨x5, s6, rfl, g5, h6⟩ := has_cons h5
  obtain ⟨a5, rfl, w5, r5⟩ := has_int _ g5
  obtain ⟨x6, s7, rfl, g6, h7⟩ := has_cons h6
  obtain ⟨a6, rfl, w6, r6⟩ := has_int _ g6
  obtain ⟨x7, s8, rfl, g7, h8⟩ := has_cons h7
  obtain ⟨a7, rfl, w7, r7⟩ := has_str _ g7
  obtain rfl := has_nil h8
  exact ⟨⟨a0, a1, a2, a3, a4, a5, a6, a7⟩, rfl, ⟨w1, w2, w3.1, w7⟩, ⟨r0, r3, r4, r5, r6⟩⟩
@[simp] theorem fr_Edit (L o : Bool) (xs : List Edit) : D.freezeL (xs.map (encEdit L o)) = xs.map (encEdit L false) := fr_map _ _ (by simp) xs
@[simp] theorem cold_Edit (L : Bool) (xs : List Edit) : D.coldL (xs.map (encEdit L true)) = false := cold_map _ (by simp) xs
@[simp] theorem fr_Editc (L o : Bool) {α : Type} (g : α → Edit) (xs : List α) : D.freezeL (xs.map ((encEdit L o) ∘ g)) = xs.map ((encEdit L false) ∘ g) := fr_map _ _ (by simp) xs
@[simp] theorem cold_Editc (L : Bool) {α : Type} (g : α → Edit) (xs : List α) : D.coldL (xs.map ((encEdit L true) ∘ g)) = false := cold_map _ (by simp) xs
structure Key where
  kind : Int
  num : Int
  text : S
  deriving DecidableEq
@[simp] def encKey (x : Key) : D := .agg [.int .i64 x.kind, .int .i64 x.num, .str x.text]
@[simp] def teKey : Bool → Nat | true => 0 | false => 192
@[simp] def zeroKey : Key := ⟨0, 0, []⟩
def szKey (x : Key) : Nat := x.text.length
def wfKey (x : Key) : Prop := x.text.length ≤ 9223372036854775807
def shKey : Sh := .strct [.int .i64, .int .i64, .str]
def rgKey (x : Key) : Prop := i64 x.kind ∧ i64 x.num
theorem has_Key : ∀ d, shKey.has d → ∃ a : Key, d = encKey a ∧ wfKey a ∧ rgKey a := by
  intro d h
  obtain ⟨s0, rfl, h0⟩ := has_agg h
  obtain ⟨x0, s1, rfl, g0, h1⟩ := has_cons h0
  obtain ⟨a0, rfl, w0, r0⟩ := has_int _ g0
  obtain ⟨x1, s2, rfl, g1, h2⟩ := has_cons h1
  obtain ⟨a1, rfl, w1, r1⟩ := has_int _ g1
  obtain ⟨x2, s3, rfl, g2, h3⟩ := has_cons h2
  obtain ⟨a2, rfl, w2, r2⟩ := has_str _ g2
  obtain rfl := has_nil h3
  exact ⟨⟨a0, a1, a2⟩, rfl, w2, ⟨r0, r1⟩⟩
@[simp] theorem fr_Key (xs : List Key) : D.freezeL (xs.map encKey) = xs.map encKey := fr_map _ _ (by simp) xs
@[simp] theorem cold_Key (xs : List Key) : D.coldL (xs.map encKey) = false := cold_map _ (by simp) xs
@[simp] theorem fr_Keyc {α : Type} (g : α → Key) (xs : List α) : D.freezeL (xs.map (encKey ∘ g)) = xs.map (encKey ∘ g) := fr_map _ _ (by simp) xs
@[simp] theorem cold_Keyc {α : Type} (g : α → Key) (xs : List α) : D.coldL (xs.map (encKey ∘ g)) = false := cold_map _ (by simp) xs
structure Seen where
  uid : Int
  flags : Int
  mod : Int
  deriving DecidableEq
@[simp] def encSeen (x : Seen) : D := .agg [.int .i64 x.uid, .int .i64 x.flags, .int .i64 x.mod]
@[simp] def teSeen : Bool → Nat | true => 0 | false => 104
@[simp] def zeroSeen : Seen := ⟨0, 0, 0⟩
def shSeen : Sh := .strct [.int .i64, .int .i64, .int .i64]
def rgSeen (x : Seen) : Prop := i64 x.uid ∧ i64 x.flags ∧ i64 x.mod
theorem has_Seen : ∀ d, shSeen.has d → ∃ a : Seen, d = encSeen a ∧ True ∧ rgSeen a := by
  intro d h
  obtain ⟨s0, rfl, h0⟩ := has_agg h
  obtain ⟨x0, s1, rfl, g0, h1⟩ := has_cons h0
  obtain ⟨a0, rfl, w0, r0⟩ := has_int _ g0
  obtain ⟨x1, s2, rfl, g1, h2⟩ := has_cons h1
  obtain ⟨a1, rfl, w1, r1⟩ := has_int _ g1
  obtain ⟨x2, s3, rfl, g2, h3⟩ := has_cons h2
  obtain ⟨a2, rfl, w2, r2⟩ := has_int _ g2
  obtain rfl := has_nil h3
  exact ⟨⟨a0, a1, a2⟩, rfl, trivial, ⟨r0, r1, r2⟩⟩
@[simp] theorem fr_Seen (xs : List Seen) : D.freezeL (xs.map encSeen) = xs.map encSeen := fr_map _ _ (by simp) xs
@[simp] theorem cold_Seen (xs : List Seen) : D.coldL (xs.map encSeen) = false := cold_map _ (by simp) xs
@[simp] theorem fr_Seenc {α : Type} (g : α → Seen) (xs : List α) : D.freezeL (xs.map (encSeen ∘ g)) = xs.map (encSeen ∘ g) := fr_map _ _ (by simp) xs
@[simp] theorem cold_Seenc {α : Type} (g : α → Seen) (xs : List α) : D.coldL (xs.map (encSeen ∘ g)) = false := cold_map _ (by simp) xs
@[simp] def encSeens (L o : Bool) (x : List Seen) : D := .lst o (teSeen L) 3 (x.map encSeen)
structure Line where
  kind : Int
  num : Int
  uid : Int
  flags : Int
  mod : Int
  set_ : List Range
  all : Bool
  deriving DecidableEq
@[simp] def encLine (L o : Bool) (x : Line) : D := .agg [.int .i64 x.kind, .int .i64 x.num, .int .i64 x.uid, .int .i64 x.flags, .int .i64 x.mod, .lst o (teRange L) 2 (x.set_.map encRange), .bool x.all]
@[simp] def teLine : Bool → Nat | true => 0 | false => 48
@[simp] def zeroLine : Line := ⟨0, 0, 0, 0, 0, [], false⟩
def szLine (x : Line) : Nat := x.set_.length
def wfLine (x : Line) : Prop := x.set_.length ≤ 9223372036854775807
def shLine : Sh := .strct [.int .i64, .int .i64, .int .i64, .int .i64, .int .i64, .slice (teRange true) 2 shRange, .bool]
def rgLine (x : Line) : Prop := i64 x.kind ∧ i64 x.num ∧ i64 x.uid ∧ i64 x.flags ∧ i64 x.mod ∧ (∀ y ∈ x.set_, rgRange y)
theorem has_Line : ∀ d, shLine.has d → ∃ a : Line, d = encLine true false a ∧ wfLine a ∧ rgLine a := by
  intro d h
  obtain ⟨s0, rfl, h0⟩ := has_agg h
  obtain ⟨x0, s1, rfl, g0, h1⟩ := has_cons h0
  obtain ⟨a0, rfl, w0, r0⟩ := has_int _ g0
  obtain ⟨x1, s2, rfl, g1, h2⟩ := has_cons h1
  obtain ⟨a1, rfl, w1, r1⟩ := has_int _ g1
  obtain ⟨x2, s3, rfl, g2, h3⟩ := has_cons h2
  obtain ⟨a2, rfl, w2, r2⟩ := has_int _ g2
  obtain ⟨x3, s4, rfl, g3, h4⟩ := has_cons h3
  obtain ⟨a3, rfl, w3, r3⟩ := has_int _ g3
  obtain ⟨x4, s5, rfl, g4, h5⟩ := has_cons h4
  obtain ⟨a4, rfl, w4, r4⟩ := has_int _ g4
  obtain ⟨x5, s6, rfl, g5, h6⟩ := has_cons h5
  obtain ⟨a5, rfl, w5, r5⟩ := has_list has_Range _ g5
  obtain ⟨x6, s7, rfl, g6, h7⟩ := has_cons h6
  obtain ⟨a6, rfl, w6, r6⟩ := has_bool _ g6
  obtain rfl := has_nil h7
  exact ⟨⟨a0, a1, a2, a3, a4, a5, a6⟩, rfl, w5.1, ⟨r0, r1, r2, r3, r4, r5⟩⟩
@[simp] theorem fr_Line (L o : Bool) (xs : List Line) : D.freezeL (xs.map (encLine L o)) = xs.map (encLine L false) := fr_map _ _ (by simp) xs
@[simp] theorem cold_Line (L : Bool) (xs : List Line) : D.coldL (xs.map (encLine L true)) = false := cold_map _ (by simp) xs
@[simp] theorem fr_Linec (L o : Bool) {α : Type} (g : α → Line) (xs : List α) : D.freezeL (xs.map ((encLine L o) ∘ g)) = xs.map ((encLine L false) ∘ g) := fr_map _ _ (by simp) xs
@[simp] theorem cold_Linec (L : Bool) {α : Type} (g : α → Line) (xs : List α) : D.coldL (xs.map ((encLine L true) ∘ g)) = false := cold_map _ (by simp) xs
structure View where
  box : S
  valid : Int
  uids : List Int
  mod : Int
  deriving DecidableEq
@[simp] def encView (o : Bool) (x : View) : D := .agg [.str x.box, .int .i64 x.valid, .lst o 3 1 (x.uids.map (.int .i64)), .int .i64 x.mod]
@[simp] def teView : Bool → Nat | true => 0 | false => 30
@[simp] def zeroView : View := ⟨[], 0, [], 0⟩
def szView (x : View) : Nat := x.box.length + x.uids.length
def wfView (x : View) : Prop := x.box.length ≤ 9223372036854775807 ∧ x.uids.length ≤ 9223372036854775807
def shView : Sh := .strct [.str, .int .i64, .slice 3 1 (.int .i64), .int .i64]
def rgView (x : View) : Prop := i64 x.valid ∧ (∀ y ∈ x.uids, i64 y) ∧ i64 x.mod
theorem has_View : ∀ d, shView.has d → ∃ a : View, d = encView false a ∧ wfView a ∧ rgView a := by
  intro d h
  obtain ⟨s0, rfl, h0⟩ := has_agg h
  obtain ⟨x0, s1, rfl, g0, h1⟩ := has_cons h0
  obtain ⟨a0, rfl, w0, r0⟩ := has_str _ g0
  obtain ⟨x1, s2, rfl, g1, h2⟩ := has_cons h1
  obtain ⟨a1, rfl, w1, r1⟩ := has_int _ g1
  obtain ⟨x2, s3, rfl, g2, h3⟩ := has_cons h2
  obtain ⟨a2, rfl, w2, r2⟩ := has_list has_int _ g2
  obtain ⟨x3, s4, rfl, g3, h4⟩ := has_cons h3
  obtain ⟨a3, rfl, w3, r3⟩ := has_int _ g3
  obtain rfl := has_nil h4
  exact ⟨⟨a0, a1, a2, a3⟩, rfl, ⟨w0, w2.1⟩, ⟨r1, r2, r3⟩⟩
@[simp] theorem fr_View (o : Bool) (xs : List View) : D.freezeL (xs.map (encView o)) = xs.map (encView false) := fr_map _ _ (by simp) xs
@[simp] theorem cold_View (xs : List View) : D.coldL (xs.map (encView true)) = false := cold_map _ (by simp) xs
@[simp] theorem fr_Viewc (o : Bool) {α : Type} (g : α → View) (xs : List α) : D.freezeL (xs.map ((encView o) ∘ g)) = xs.map ((encView false) ∘ g) := fr_map _ _ (by simp) xs
@[simp] theorem cold_Viewc {α : Type} (g : α → View) (xs : List α) : D.coldL (xs.map ((encView true) ∘ g)) = false := cold_map _ (by simp) xs
structure Session where
  on : Bool
  view : View
  deriving DecidableEq
@[simp] def encSession (o : Bool) (x : Session) : D := .agg [.bool x.on, encView o x.view]
@[simp] def teSession : Bool → Nat | true => 0 | false => 32
@[simp] def zeroSession : Session := ⟨false, zeroView⟩
def szSession (x : Session) : Nat := szView x.view
def wfSession (x : Session) : Prop := wfView x.view
def shSession : Sh := .strct [.bool, shView]
def rgSession (x : Session) : Prop := rgView x.view
theorem has_Session : ∀ d, shSession.has d → ∃ a : Session, d = encSession false a ∧ wfSession a ∧ rgSession a := by
  intro d h
  obtain ⟨s0, rfl, h0⟩ := has_agg h
  obtain ⟨x0, s1, rfl, g0, h1⟩ := has_cons h0
  obtain ⟨a0, rfl, w0, r0⟩ := has_bool _ g0
  obtain ⟨x1, s2, rfl, g1, h2⟩ := has_cons h1
  obtain ⟨a1, rfl, w1, r1⟩ := has_View _ g1
  obtain rfl := has_nil h2
  exact ⟨⟨a0, a1⟩, rfl, w1, r1⟩
@[simp] theorem fr_Session (o : Bool) (xs : List Session) : D.freezeL (xs.map (encSession o)) = xs.map (encSession false) := fr_map _ _ (by simp) xs
@[simp] theorem cold_Session (xs : List Session) : D.coldL (xs.map (encSession true)) = false := cold_map _ (by simp) xs
@[simp] theorem fr_Sessionc (o : Bool) {α : Type} (g : α → Session) (xs : List α) : D.freezeL (xs.map ((encSession o) ∘ g)) = xs.map ((encSession false) ∘ g) := fr_map _ _ (by simp) xs
@[simp] theorem cold_Sessionc {α : Type} (g : α → Session) (xs : List α) : D.coldL (xs.map ((encSession true) ∘ g)) = false := cold_map _ (by simp) xs
structure Cache where
  box : S
  valid : Int
  mod : Int
  seens : List Seen
  deriving DecidableEq
@[simp] def encCache (L o : Bool) (x : Cache) : D := .agg [.str x.box, .int .i64 x.valid, .int .i64 x.mod, .lst o (teSeen L) 3 (x.seens.map encSeen)]
@[simp] def teCache : Bool → Nat | true => 0 | false => 67
@[simp] def zeroCache : Cache := ⟨[], 0, 0, []⟩
def szCache (x : Cache) : Nat := x.box.length + x.seens.length
def wfCache (x : Cache) : Prop := x.box.length ≤ 9223372036854775807 ∧ x.seens.length ≤ 9223372036854775807
def shCache : Sh := .strct [.str, .int .i64, .int .i64, .slice (teSeen true) 3 shSeen]
def rgCache (x : Cache) : Prop := i64 x.valid ∧ i64 x.mod ∧ (∀ y ∈ x.seens, rgSeen y)
theorem has_Cache : ∀ d, shCache.has d → ∃ a : Cache, d = encCache true false a ∧ wfCache a ∧ rgCache a := by
  intro d h
  obtain ⟨s0, rfl, h0⟩ := has_agg h
  obtain ⟨x0, s1, rfl, g0, h1⟩ := has_cons h0
  obtain ⟨a0, rfl, w0, r0⟩ := has_str _ g0
  obtain ⟨x1, s2, rfl, g1, h2⟩ := has_cons h1
  obtain ⟨a1, rfl, w1, r1⟩ := has_int _ g1
  obtain ⟨x2, s3, rfl, g2, h3⟩ := has_cons h2
  obtain ⟨a2, rfl, w2, r2⟩ := has_int _ g2
  obtain ⟨x3, s4, rfl, g3, h4⟩ := has_cons h3
  obtain ⟨a3, rfl, w3, r3⟩ := has_list has_Seen _ g3
  obtain rfl := has_nil h4
  exact ⟨⟨a0, a1, a2, a3⟩, rfl, ⟨w0, w3.1⟩, ⟨r1, r2, r3⟩⟩
@[simp] theorem fr_Cache (L o : Bool) (xs : List Cache) : D.freezeL (xs.map (encCache L o)) = xs.map (encCache L false) := fr_map _ _ (by simp) xs
@[simp] theorem cold_Cache (L : Bool) (xs : List Cache) : D.coldL (xs.map (encCache L true)) = false := cold_map _ (by simp) xs
@[simp] theorem fr_Cachec (L o : Bool) {α : Type} (g : α → Cache) (xs : List α) : D.freezeL (xs.map ((encCache L o) ∘ g)) = xs.map ((encCache L false) ∘ g) := fr_map _ _ (by simp) xs
@[simp] theorem cold_Cachec (L : Bool) {α : Type} (g : α → Cache) (xs : List α) : D.coldL (xs.map ((encCache L true) ∘ g)) = false := cold_map _ (by simp) xs
structure Event where
  kind : Int
  who : Int
  words : List S
  n : Int
  left_ : List Int
  deriving DecidableEq
@[simp] def encEvent (o : Bool) (x : Event) : D := .agg [.int .i64 x.kind, .int .i64 x.who, .lst o 9 1 (x.words.map .str), .int .i64 x.n, .lst o 3 1 (x.left_.map (.int .i64))]
@[simp] def teEvent : Bool → Nat | true => 0 | false => 140
@[simp] def zeroEvent : Event := ⟨0, 0, [], 0, []⟩
def szEvent (x : Event) : Nat := (x.words.length + tot (fun (y : S) => y.length) x.words) + x.left_.length
def wfEvent (x : Event) : Prop := (x.words.length ≤ 9223372036854775807 ∧ ∀ y ∈ x.words, y.length ≤ 9223372036854775807) ∧ x.left_.length ≤ 9223372036854775807
def shEvent : Sh := .strct [.int .i64, .int .i64, .slice 9 1 .str, .int .i64, .slice 3 1 (.int .i64)]
def rgEvent (x : Event) : Prop := i64 x.kind ∧ i64 x.who ∧ i64 x.n ∧ (∀ y ∈ x.left_, i64 y)
theorem has_Event : ∀ d, shEvent.has d → ∃ a : Event, d = encEvent false a ∧ wfEvent a ∧ rgEvent a := by
  intro d h
  obtain ⟨s0, rfl, h0⟩ := has_agg h
  obtain ⟨x0, s1, rfl, g0, h1⟩ := has_cons h0
  obtain ⟨a0, rfl, w0, r0⟩ := has_int _ g0
  obtain ⟨x1, s2, rfl, g1, h2⟩ := has_cons h1
  obtain ⟨a1, rfl, w1, r1⟩ := has_int _ g1
  obtain ⟨x2, s3, rfl, g2, h3⟩ := has_cons h2
  obtain ⟨a2, rfl, w2, r2⟩ := has_list has_str _ g2
  obtain ⟨x3, s4, rfl, g3, h4⟩ := has_cons h3
  obtain ⟨a3, rfl, w3, r3⟩ := has_int _ g3
  obtain ⟨x4, s5, rfl, g4, h5⟩ := has_cons h4
  obtain ⟨a4, rfl, w4, r4⟩ := has_list has_int _ g4
  obtain rfl := has_nil h5
  exact ⟨⟨a0, a1, a2, a3, a4⟩, rfl, ⟨w2, w4.1⟩, ⟨r0, r1, r3, r4⟩⟩
@[simp] theorem fr_Event (o : Bool) (xs : List Event) : D.freezeL (xs.map (encEvent o)) = xs.map (encEvent false) := fr_map _ _ (by simp) xs
@[simp] theorem cold_Event (xs : List Event) : D.coldL (xs.map (encEvent true)) = false := cold_map _ (by simp) xs
@[simp] theorem fr_Eventc (o : Bool) {α : Type} (g : α → Event) (xs : List α) : D.freezeL (xs.map ((encEvent o) ∘ g)) = xs.map ((encEvent false) ∘ g) := fr_map _ _ (by simp) xs
@[simp] theorem cold_Eventc {α : Type} (g : α → Event) (xs : List α) : D.coldL (xs.map ((encEvent true) ∘ g)) = false := cold_map _ (by simp) xs
end Go.Proofs.YtomeglmblhfafaaGreatDoor
