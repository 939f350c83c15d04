/- The value-level machine, part 4: Go code told over trees of data, and that this is sound against the model. No statement of the seed is proved in this text. -/
import Derived.Lib.Bytealg
import Derived.Shelf.Sort.Plain
import Derived.Shelf.Slices.In.SortNone
import Derived.Shelf.Strings.OnBuilder
import Derived.Shelf.Strconv.Itoa3
import Derived.Lib.RowBridge
import Derived.Below
import Derived.Test.YtomeglmblhfafaaGreatDoorLfc
set_option linter.unusedVariables false
set_option linter.unusedSimpArgs false
set_option linter.unusedSectionVars false
set_option linter.all false
/- Going through code at the level of data, a step at a time (a set for simp): what is still to be done lies in a list, no step looks into it. -/
namespace Go.Lft

inductive KI where
  | code (c : Code)
  | block (id : Nat)
  | loop (c : Code)

section
variable (E : En) (Q : Out → St → Prop)

/-- What is still to come, behind a piece that ended so. -/
def RK : List KI → Out → St → Prop
  | [], o, st => Q o st
  | .code c :: ks, .normal, st => ∃ x, X E c st = some x ∧ RK ks x.1 x.2
  | .code _ :: ks, .exit i, st => RK ks (.exit i) st
  | .code _ :: ks, .ret, st => RK ks .ret st
  | .block id :: ks, .exit i, st => if i = id then RK ks .normal st else RK ks (.exit i) st
  | .block _ :: ks, .normal, st => RK ks .normal st
  | .block _ :: ks, .ret, st => RK ks .ret st
  | .loop c :: ks, .normal, st => ∃ x, X E (.loop c) st = some x ∧ RK ks x.1 x.2
  | .loop _ :: ks, .exit i, st => RK ks (.exit i) st
  | .loop _ :: ks, .ret, st => RK ks .ret st

def RC (c : Code) (ks : List KI) (st : St) : Prop := ∃ x, X E c st = some x ∧ RK E Q ks x.1 x.2
def RL (ops : Array Oper) (l : List Oper) (ks : List KI) (st : St) : Prop := ∃ st', runOps E.T (lim E) E.md ops l st = some st' ∧ RK E Q ks .normal st'
/-- A draw region, its trace so far in hand. -/
def RT (ops : Array Oper) (l : List Oper) (ks : List KI) (st : St) (acc : List Tr) : Prop := ∃ st' ts, runOps E.T (lim E) E.md ops l st = some st' ∧ traceOps E.T (lim E) E.md ops l st = some ts ∧ trOk ops 0 (acc ++ ts) = true ∧ RK E Q ks .normal st'
def RTS (ops : Array Oper) (o : Oper) (l : List Oper) (ks : List KI) (st : St) (acc : List Tr) (e : Option Eff) : Prop := ∃ x, e = some x ∧ RT E Q ops l ks (st.app o.dst x) (acc ++ [⟨o, opData E.T st o, x⟩])
/-- A draw region: its trace is looked at first. -/
def RD (ops : Array Oper) (ks : List KI) (st : St) : Prop := ∃ ts, traceOps E.T (lim E) E.md ops ops.toList st = some ts ∧ trOk ops 0 ts = true ∧ RL E Q ops ops.toList ks st
/-- A branch that hangs on a datum. -/
def RB (a b : Code) (ks : List KI) (st : St) (c : Option D) : Prop := match c with | some (.bool true) => RC E Q a ks st | some (.bool false) => RC E Q b ks st | _ => False
/-- A guarded operation, the guard's datum at hand. -/
def RG (ops : Array Oper) (o : Oper) (l : List Oper) (want : Bool) (ks : List KI) (st : St) (c : D) : Prop := match c with | .bool c => if c = want then RL E Q ops (o :: l) ks st else RL E Q ops l ks ⟨putO o.dst (.tup []) st.env, st.rs⟩ | .tup [] => RL E Q ops l ks ⟨putO o.dst (.tup []) st.env, st.rs⟩ | _ => False
def RV (ops : Array Oper) (l : List Oper) (ks : List KI) (d : Nat) (env : Nat → D) (rs : Rid → Option Root) (v : Option D) : Prop := ∃ w, v = some w ∧ RL E Q ops l ks ⟨upd env d w, rs⟩
def RE (ops : Array Oper) (l : List Oper) (ks : List KI) (dst : Option Nat) (env : Nat → D) (rs : Rid → Option Root) (v : Option Eff) : Prop := ∃ e, v = some e ∧ RL E Q ops l ks (St.app ⟨env, rs⟩ dst e)
end

section
variable {E : En} {Q : Out → St → Prop} {ks : List KI} {st : St} {env : Nat → D} {rs : Rid → Option Root} {ops : Array Oper} {l : List Oper} {ty : Nat} {pos : String} {after : Array Edge}

@[simp] theorem RK_nil {o : Out} : RK E Q [] o st = Q o st := rfl
@[simp] theorem RK_code {c : Code} : RK E Q (.code c :: ks) .normal st = RC E Q c ks st := rfl
@[simp] theorem RK_code_exit {c : Code} {i : Nat} : RK E Q (.code c :: ks) (.exit i) st = RK E Q ks (.exit i) st := rfl
@[simp] theorem RK_code_ret {c : Code} : RK E Q (.code c :: ks) .ret st = RK E Q ks .ret st := rfl
@[simp] theorem RK_block {id : Nat} : RK E Q (.block id :: ks) .normal st = RK E Q ks .normal st := rfl
@[simp] theorem RK_block_exit {id i : Nat} : RK E Q (.block id :: ks) (.exit i) st = if i = id then RK E Q ks .normal st else RK E Q ks (.exit i) st := rfl
@[simp] theorem RK_block_ret {id : Nat} : RK E Q (.block id :: ks) .ret st = RK E Q ks .ret st := rfl
@[simp] theorem RK_loop {c : Code} : RK E Q (.loop c :: ks) .normal st = RC E Q (.loop c) ks st := rfl
@[simp] theorem RK_loop_exit {c : Code} {i : Nat} : RK E Q (.loop c :: ks) (.exit i) st = RK E Q ks (.exit i) st := rfl
@[simp] theorem RK_loop_ret {c : Code} : RK E Q (.loop c :: ks) .ret st = RK E Q ks .ret st := rfl

@[simp] theorem RC_skip : RC E Q .skip ks st = RK E Q ks .normal st := by simp [RC, X_skip]
@[simp] theorem RC_ret : RC E Q .ret ks st = RK E Q ks .ret st := by simp [RC, X_ret]
@[simp] theorem RC_exit {id : Nat} : RC E Q (.exit id) ks st = RK E Q ks (.exit id) st := by simp [RC, X_exit]
@[simp] theorem RC_label {id : Nat} : RC E Q (.label id) ks st = RK E Q ks .normal st := by simp [RC, X_label]
theorem RK_other {c : Code} {o : Out} (h : o ≠ .normal) : RK E Q (.code c :: ks) o st = RK E Q ks o st := by cases o <;> first | rfl | exact absurd rfl h
theorem RK_other_loop {c : Code} {o : Out} (h : o ≠ .normal) : RK E Q (.loop c :: ks) o st = RK E Q ks o st := by cases o <;> first | rfl | exact absurd rfl h
@[simp] theorem RC_seq {a b : Code} : RC E Q (.seq a b) ks st = RC E Q a (.code b :: ks) st := by
  simp only [RC, X_seq, eq_iff_iff]
  constructor
  · rintro ⟨x, h1, h2⟩
    simp only [Option.bind_eq_some_iff] at h1
    obtain ⟨y, h3, h4⟩ := h1
    refine ⟨y, h3, ?_⟩
    unfold afterSeq at h4
    cases hy : y.1 <;> simp only [hy] at h4
    · exact ⟨x, h4, h2⟩
    · obtain rfl := Option.some.inj h4; rw [RK_code_exit, ← hy]; exact h2
    · obtain rfl := Option.some.inj h4; rw [RK_code_ret, ← hy]; exact h2
  · rintro ⟨y, h3, h4⟩
    cases hy : y.1 <;> rw [hy] at h4
    · obtain ⟨x, h5, h6⟩ := h4
      exact ⟨x, by simp [h3, afterSeq, hy, h5], h6⟩
    · rw [RK_code_exit] at h4
      exact ⟨y, by simp [h3, afterSeq, hy], by rw [hy]; exact h4⟩
    · rw [RK_code_ret] at h4
      exact ⟨y, by simp [h3, afterSeq, hy], by rw [hy]; exact h4⟩
/-- Once round a loop. -/
theorem RC_loop {c : Code} : RC E Q (.loop c) ks st = RC E Q c (.loop c :: ks) st := by
  simp only [RC, eq_iff_iff]
  conv => lhs; rw [X_loop]
  constructor
  · rintro ⟨x, h1, h2⟩
    simp only [Option.bind_eq_some_iff] at h1
    obtain ⟨y, h3, h4⟩ := h1
    refine ⟨y, h3, ?_⟩
    unfold afterSeq at h4
    cases hy : y.1 <;> simp only [hy] at h4
    · exact ⟨x, h4, h2⟩
    · obtain rfl := Option.some.inj h4; rw [RK_loop_exit, ← hy]; exact h2
    · obtain rfl := Option.some.inj h4; rw [RK_loop_ret, ← hy]; exact h2
  · rintro ⟨y, h3, h4⟩
    cases hy : y.1 <;> rw [hy] at h4
    · obtain ⟨x, h5, h6⟩ := h4
      exact ⟨x, by simp [h3, afterSeq, hy, h5], h6⟩
    · rw [RK_loop_exit] at h4
      exact ⟨y, by simp [h3, afterSeq, hy], by rw [hy]; exact h4⟩
    · rw [RK_loop_ret] at h4
      exact ⟨y, by simp [h3, afterSeq, hy], by rw [hy]; exact h4⟩
@[simp] theorem RC_block {id : Nat} {c : Code} : RC E Q (.block id c) ks st = RC E Q c (.block id :: ks) st := by
  simp only [RC, X_block, eq_iff_iff]
  constructor
  · rintro ⟨x, h1, h2⟩
    simp only [Option.map_eq_some_iff] at h1
    obtain ⟨y, h3, rfl⟩ := h1
    refine ⟨y, h3, ?_⟩
    unfold afterBlock at h2
    cases hy : y.1 <;> simp only [hy] at h2 ⊢
    · exact h2
    · rename_i i
      simp only [RK_block_exit]
      by_cases h : i = id
      · rw [if_pos h] at h2 ⊢; exact h2
      · rw [if_neg h, hy] at h2; rw [if_neg h]; exact h2
    · exact h2
  · rintro ⟨y, h3, h4⟩
    refine ⟨afterBlock id y, by simp [h3], ?_⟩
    unfold afterBlock
    cases hy : y.1 <;> simp only [hy] at h4 ⊢
    · exact h4
    · rename_i i
      simp only [RK_block_exit] at h4
      by_cases h : i = id
      · rw [if_pos h] at h4 ⊢; exact h4
      · rw [if_neg h] at h4; rw [if_neg h, hy]; exact h4
    · exact h4
@[simp] theorem RC_cond {c : Operand} {a b : Code} : RC E Q (.cond c a b) ks st = RB E Q a b ks st (st.ev E.T 0 c) := by
  simp only [RC, X_cond, RB]
  cases h : st.ev E.T 0 c with
  | none => simp [condOf]
  | some d => cases d <;> simp [condOf]; rename_i b; cases b <;> simp [RC]
@[simp] theorem RB_true {a b : Code} : RB E Q a b ks st (some (.bool true)) = RC E Q a ks st := rfl
@[simp] theorem RB_false {a b : Code} : RB E Q a b ks st (some (.bool false)) = RC E Q b ks st := rfl
theorem RB_split {a b : Code} {c : Bool} (h1 : c = true → RC E Q a ks st) (h2 : c = false → RC E Q b ks st) : RB E Q a b ks st (some (.bool c)) := by
  cases c
  · exact h2 rfl
  · exact h1 rfl
@[simp] theorem RC_region {id : Nat} : RC E Q (.region id ops false) ks st = RL E Q ops ops.toList ks st := by
  simp only [RC, X_region, RL, runRegion, Bool.false_eq_true, if_false, Option.map_eq_some_iff, eq_iff_iff]
  constructor
  · rintro ⟨x, ⟨s, h1, rfl⟩, h2⟩; exact ⟨s, h1, h2⟩
  · rintro ⟨s, h1, h2⟩; exact ⟨_, ⟨s, h1, rfl⟩, h2⟩
@[simp] theorem RC_draw {id : Nat} : RC E Q (.region id ops true) ks st = RD E Q ops ks st := by
  simp only [RC, X_region, RD, RL, runRegion, eq_iff_iff]
  simp only [if_true, Option.map_eq_some_iff, Option.bind_eq_some_iff]
  constructor
  · rintro ⟨x, ⟨st', ⟨ts, h1, h2⟩, rfl⟩, h3⟩
    split at h2
    · rename_i hk; exact ⟨ts, h1, hk, st', h2, h3⟩
    · cases h2
  · rintro ⟨ts, h1, hk, st', h2, h3⟩
    exact ⟨(.normal, st'), ⟨st', ⟨ts, h1, by rw [if_pos hk]; exact h2⟩, rfl⟩, h3⟩

@[simp] theorem RD_def : RD E Q ops ks st = RT E Q ops ops.toList ks st [] := by
  simp only [RD, RT, RL, List.nil_append, eq_iff_iff]
  constructor
  · rintro ⟨ts, h1, h2, st', h3, h4⟩; exact ⟨st', ts, h3, h1, h2, h4⟩
  · rintro ⟨st', ts, h3, h1, h2, h4⟩; exact ⟨ts, h1, h2, st', h3, h4⟩
@[simp] theorem RT_nil {acc : List Tr} : RT E Q ops [] ks st acc = (trOk ops 0 acc = true ∧ RK E Q ks .normal st) := by simp [RT, runOps, traceOps]
noncomputable def stepW (E : En) (ops : Array Oper) (o : Oper) (st : St) : Option Eff := stepOp E.T (lim E) E.md ops o st
noncomputable def opW (E : En) (o : Oper) (st : St) : Option Eff := opEff E.T (lim E) E.md o st
/-- A guarded operation of a region that draws. -/
noncomputable def gW (E : En) (o : Oper) (st : St) (want : Bool) (c : D) : Option Eff := match c with | .bool c => if c = want then opW E o st else some (pureE (.tup [])) | .tup [] => some (pureE (.tup [])) | _ => none
@[simp] theorem gW_tt {o : Oper} : gW E o st true (.bool true) = opW E o st := rfl
@[simp] theorem gW_ff {o : Oper} : gW E o st false (.bool false) = opW E o st := rfl
@[simp] theorem gW_tf {o : Oper} : gW E o st true (.bool false) = some (pureE (.tup [])) := rfl
@[simp] theorem gW_no {o : Oper} {w : Bool} : gW E o st w (.tup []) = some (pureE (.tup [])) := rfl
@[simp] theorem gW_ft {o : Oper} : gW E o st false (.bool true) = some (pureE (.tup [])) := rfl
theorem gW_not {o : Oper} {w c : Bool} : gW E o st w (.bool (!c)) = gW E o st (!w) (.bool c) := by cases c <;> cases w <;> rfl
theorem RT_dec {o o' : Oper} {w : Bool} {acc : List Tr} {st' : St} {p : Prop} [Decidable p] (h1 : p → RTS E Q ops o l ks st acc (gW E o' st' w (.bool true))) (h2 : ¬ p → RTS E Q ops o l ks st acc (gW E o' st' w (.bool false))) : RTS E Q ops o l ks st acc (gW E o' st' w (.bool (decide p))) := by
  by_cases h : p
  · simpa [h] using h1 h
  · simpa [h] using h2 h
theorem RT_split {o o' : Oper} {w : Bool} {acc : List Tr} {st' : St} {c : Bool} (h1 : c = true → RTS E Q ops o l ks st acc (gW E o' st' w (.bool true))) (h2 : c = false → RTS E Q ops o l ks st acc (gW E o' st' w (.bool false))) : RTS E Q ops o l ks st acc (gW E o' st' w (.bool c)) := by
  cases c
  · exact h2 rfl
  · exact h1 rfl
@[simp] theorem RT_cons {o : Oper} {acc : List Tr} : RT E Q ops (o :: l) ks st acc = RTS E Q ops o l ks st acc (stepW E ops o st) := by
  unfold stepW
  simp only [RT, RTS, runOps, traceOps, eq_iff_iff]
  constructor
  · rintro ⟨st', ts, h1, h2, h3, h4⟩
    simp only [Option.bind_eq_some_iff, Option.map_eq_some_iff] at h1 h2
    obtain ⟨e, h5, h6⟩ := h1
    obtain ⟨e', h7, ts', h8, rfl⟩ := h2
    rw [h5] at h7
    obtain rfl := Option.some.inj h7
    exact ⟨e, h5, st', ts', h6, h8, by simpa using h3, h4⟩
  · rintro ⟨e, h5, st', ts', h6, h8, h3, h4⟩
    exact ⟨st', ⟨o, opData E.T st o, e⟩ :: ts', by simp [h5, h6], by simp [h5, h8], by simpa using h3, h4⟩
@[simp] theorem RTS_some {o : Oper} {acc : List Tr} {e : Eff} : RTS E Q ops o l ks st acc (some e) = RT E Q ops l ks (st.app o.dst e) (acc ++ [⟨o, opData E.T st o, e⟩]) := by simp [RTS]
@[simp] theorem RTS_ite {o : Oper} {acc : List Tr} {v : Option Eff} {p : Prop} [Decidable p] : RTS E Q ops o l ks st acc (if p then v else none) = (p ∧ RTS E Q ops o l ks st acc v) := by
  by_cases h : p <;> simp [h, RTS]
@[simp] theorem map_ite {α β : Type} {p : Prop} [Decidable p] {v : Option α} {f : α → β} : Option.map f (if p then v else none) = if p then Option.map f v else none := by
  by_cases h : p <;> simp [h]

theorem trOk_quiet : ∀ (ts : List Tr) (i : Nat), ts.all Tr.quiet = true → trOk ops i ts = true
  | [], i, _ => rfl
  | a :: ts, i, h => by
    simp only [List.all_cons, Bool.and_eq_true] at h
    simp only [trOk, Bool.and_eq_true]
    refine ⟨?_, trOk_quiet ts (i + 1) h.2⟩
    have ha := h.1
    have ht := h.2
    clear h
    generalize i + 1 = j
    induction ts generalizing j with
    | nil => rfl
    | cons b ts ih =>
      simp only [List.all_cons, Bool.and_eq_true] at ht
      simp only [pairsOk, Bool.and_eq_true, Bool.or_eq_true]
      exact ⟨.inr (by simp [indep, ha, ht.1]), ih ht.2 (j + 1)⟩

/-- The pairs of a region's operations that don't wait for each other. -/
def unordAt (ops : Array Oper) (n i : Nat) : List (Nat × Nat) := ((List.range n).filter fun j => decide (i < j) && !waitsFor ops i j).map fun j => (i, j)
def unord (ops : Array Oper) : List (Nat × Nat) := (List.range ops.size).flatMap (unordAt ops ops.size)
def indepAt (ts : List Tr) (p : Nat × Nat) : Bool := match ts[p.1]?, ts[p.2]? with | some a, some b => indep a b | _, _ => true
theorem trOk_unord {ts : List Tr} {L : List (Nat × Nat)} (hu : unord ops = L) (hn : ts.length ≤ ops.size) (h : L.all (indepAt ts) = true) : trOk ops 0 ts = true := by
  have key : ∀ i j a b, i < j → ts[i]? = some a → ts[j]? = some b → (waitsFor ops i j || indep a b) = true := by
    intro i j a b hij ha hb
    cases hw : waitsFor ops i j with
    | true => rfl
    | false =>
      have hj : j < ops.size := by have := (List.getElem?_eq_some_iff.1 hb).1; omega
      have hm : (i, j) ∈ unord ops := by
        simp only [unord, unordAt, List.mem_flatMap, List.mem_range, List.mem_map, List.mem_filter]
        exact ⟨i, by omega, j, ⟨hj, by simp [hij, hw]⟩, rfl⟩
      rw [hu] at hm
      have := List.all_eq_true.1 h _ hm
      simpa [indepAt, ha, hb] using this
  have gen : ∀ (us : List Tr) (k : Nat), us = ts.drop k → trOk ops k us = true := by
    intro us
    induction us with
    | nil => intro k _; rfl
    | cons a us ih =>
      intro k hk
      have h1 : ts[k]? = some a := by
        have : (ts.drop k)[0]? = some a := by rw [← hk]; rfl
        simpa using this
      have h2 : us = ts.drop (k + 1) := by
        have : (ts.drop k).drop 1 = us := by rw [← hk]; rfl
        rw [← this, List.drop_drop]
      simp only [trOk, Bool.and_eq_true]
      refine ⟨?_, ih (k + 1) h2⟩
      have pr : ∀ (vs : List Tr) (j : Nat), k < j → vs = ts.drop j → pairsOk ops k a j vs = true := by
        intro vs
        induction vs with
        | nil => intro j _ _; rfl
        | cons b vs ihv =>
          intro j hkj hj
          have h3 : ts[j]? = some b := by
            have : (ts.drop j)[0]? = some b := by rw [← hj]; rfl
            simpa using this
          have h4 : vs = ts.drop (j + 1) := by
            have : (ts.drop j).drop 1 = vs := by rw [← hj]; rfl
            rw [← this, List.drop_drop]
          simp only [pairsOk, Bool.and_eq_true]
          exact ⟨key k j a b hkj h1 h3, ihv (j + 1) (by omega) h4⟩
      exact pr us (k + 1) (by omega) h2
  exact gen ts 0 rfl

@[simp] theorem RL_nil : RL E Q ops [] ks st = RK E Q ks .normal st := by simp [RL, runOps]
@[simp] theorem RV_some {d : Nat} {v : D} : RV E Q ops l ks d env rs (some v) = RL E Q ops l ks ⟨upd env d v, rs⟩ := by simp [RV]
@[simp] theorem RV_ite {d : Nat} {v : Option D} {p : Prop} [Decidable p] : RV E Q ops l ks d env rs (if p then v else none) = (p ∧ RV E Q ops l ks d env rs v) := by
  by_cases h : p <;> simp [h, RV]
@[simp] theorem RE_some {d : Option Nat} {e : Eff} : RE E Q ops l ks d env rs (some e) = RL E Q ops l ks (St.app ⟨env, rs⟩ d e) := by simp [RE]
@[simp] theorem RE_ite {d : Option Nat} {v : Option Eff} {p : Prop} [Decidable p] : RE E Q ops l ks d env rs (if p then v else none) = (p ∧ RE E Q ops l ks d env rs v) := by
  by_cases h : p <;> simp [h, RE]

def tmpAt (ops : Array Oper) (j : Nat) : Option Nat := (ops[j]?).bind (·.dst)
/-- The guard's datum. -/
def guardD (env : Nat → D) : Option Nat → D
  | some t => env t
  | none => .undef
@[simp] theorem guardD_some {t : Nat} : guardD env (some t) = env t := rfl

theorem stepOp_none {o : Oper} (h : o.guard = none) : stepOp E.T (lim E) E.md ops o st = opEff E.T (lim E) E.md o st := by
  simp [stepOp, guardOf, h]

@[simp] theorem RL_guard {dst : Option Tmp} {op : Op} {j : Nat} {want : Bool} :
    RL E Q ops (⟨dst, op, ty, pos, after, some (j, want)⟩ :: l) ks ⟨env, rs⟩ = RG E Q ops ⟨dst, op, ty, pos, after, none⟩ l want ks ⟨env, rs⟩ (guardD env (tmpAt ops j)) := by
  unfold RL RG guardD tmpAt
  simp only [runOps, stepOp, guardOf]
  cases h : (ops[j]?).bind (·.dst) with
  | none => simp
  | some t =>
    cases hb : env t <;> simp [hb]
    case tup xs =>
      cases xs <;> simp [RL, St.app, pureE, killAll, updAll]
    rename_i b
    by_cases hw : b = want
    · subst hw; simp [runOps, stepOp, guardOf]; rfl
    · simp [hw, RL, St.app, pureE, killAll, updAll]
@[simp] theorem RG_tt {o : Oper} : RG E Q ops o l true ks st (.bool true) = RL E Q ops (o :: l) ks st := rfl
@[simp] theorem RG_ff {o : Oper} : RG E Q ops o l false ks st (.bool false) = RL E Q ops (o :: l) ks st := rfl
@[simp] theorem RG_tf {o : Oper} : RG E Q ops o l true ks st (.bool false) = RL E Q ops l ks ⟨putO o.dst (.tup []) st.env, st.rs⟩ := rfl
@[simp] theorem RG_ft {o : Oper} : RG E Q ops o l false ks st (.bool true) = RL E Q ops l ks ⟨putO o.dst (.tup []) st.env, st.rs⟩ := rfl
@[simp] theorem RG_no {o : Oper} {w : Bool} : RG E Q ops o l w ks st (.tup []) = RL E Q ops l ks ⟨putO o.dst (.tup []) st.env, st.rs⟩ := rfl
theorem RG_split {o : Oper} {w c : Bool} (h1 : c = true → RG E Q ops o l w ks st (.bool true)) (h2 : c = false → RG E Q ops o l w ks st (.bool false)) : RG E Q ops o l w ks st (.bool c) := by
  cases c
  · exact h2 rfl
  · exact h1 rfl

section steps
variable {d : Nat} {dst : Option Nat} {x y i : Operand}
theorem RL_pure {op : Op} (h : ∀ c, op ≠ .call c) (r : Option D) (hr : plainEff E.T d ty ⟨env, rs⟩ op = r.map pureE) :
    RL E Q ops (⟨some d, op, ty, pos, after, none⟩ :: l) ks ⟨env, rs⟩ = RV E Q ops l ks d env rs r := by
  have he : opEff E.T (lim E) E.md ⟨some d, op, ty, pos, after, none⟩ ⟨env, rs⟩ = r.map pureE := by
    unfold opEff
    cases op <;> first | exact hr | exact absurd rfl (h _)
  simp only [RL, RV, runOps, stepOp, guardOf, Option.bind_some, if_true, he]
  cases r with
  | none => simp
  | some v => simp [St.app, pureE, putO, killAll, updAll]
theorem RL_eff {op : Op} (h : ∀ c, op ≠ .call c) (r : Option Eff) (hr : plainEff E.T (dst.getD 0) ty ⟨env, rs⟩ op = r) :
    RL E Q ops (⟨dst, op, ty, pos, after, none⟩ :: l) ks ⟨env, rs⟩ = RE E Q ops l ks dst env rs r := by
  have he : opEff E.T (lim E) E.md ⟨dst, op, ty, pos, after, none⟩ ⟨env, rs⟩ = r := by
    unfold opEff
    cases op <;> first | exact hr | exact absurd rfl (h _)
  simp only [RL, RE, runOps, stepOp, guardOf, Option.bind_some, if_true, he]
  cases r <;> simp

@[simp] theorem st_move : RL E Q ops (⟨some d, .move x, ty, pos, after, none⟩ :: l) ks ⟨env, rs⟩ = RV E Q ops l ks d env rs (St.ev E.T ⟨env, rs⟩ ty x) := RL_pure (by intro c h; cases h) _ rfl
@[simp] theorem st_assign : RL E Q ops (⟨some d, .assign x, ty, pos, after, none⟩ :: l) ks ⟨env, rs⟩ = RV E Q ops l ks d env rs (St.ev E.T ⟨env, rs⟩ ty x) := RL_pure (by intro c h; cases h) _ rfl
/-- One of two. -/
def pickV (c a b : Option D) : Option D :=
  match c with
  | some (.bool c) => if c = true then a else b
  | _ => none
@[simp] theorem pickV_true {a b : Option D} : pickV (some (.bool true)) a b = a := rfl
@[simp] theorem pickV_false {a b : Option D} : pickV (some (.bool false)) a b = b := rfl
@[simp] theorem st_pick {c : Operand} : RL E Q ops (⟨some d, .pick c x y, ty, pos, after, none⟩ :: l) ks ⟨env, rs⟩ = RV E Q ops l ks d env rs (pickV (St.ev E.T ⟨env, rs⟩ ty c) (St.ev E.T ⟨env, rs⟩ ty x) (St.ev E.T ⟨env, rs⟩ ty y)) := by
  refine RL_pure (by intro c h; cases h) _ ?_
  simp only [plainEff]
  cases h : St.ev E.T ⟨env, rs⟩ ty c with
  | none => rfl
  | some z => cases z <;> rfl
def fitsO (t : Ty) (v : D) : Option D := if fitsTy t v = true then some v else none
def loadW (T : Tb) (st : St) (t : Nat) (a : D) : Option D := (loadEff st a).bind (fitsO (T.ty t))
@[simp] theorem st_load {t : Nat} : RL E Q ops (⟨some d, .load t x, ty, pos, after, none⟩ :: l) ks ⟨env, rs⟩ = RV E Q ops l ks d env rs ((St.ev E.T ⟨env, rs⟩ ty x).bind (loadW E.T ⟨env, rs⟩ t)) := by
  refine RL_pure (by intro c h; cases h) _ ?_
  simp only [plainEff]
  cases St.ev E.T ⟨env, rs⟩ ty x with
  | none => rfl
  | some a =>
    simp only [Option.bind_some, loadW]
    cases loadEff ⟨env, rs⟩ a with
    | none => rfl
    | some y => simp only [Option.bind_some, fitsO]; split <;> rfl
def nilV : D → Option D
  | .ptr r p => some (.ptr r p)
  | .pto y => some (.pto y)
  | _ => none
@[simp] theorem st_nilCheck : RL E Q ops (⟨some d, .nilCheck x, ty, pos, after, none⟩ :: l) ks ⟨env, rs⟩ = RV E Q ops l ks d env rs ((St.ev E.T ⟨env, rs⟩ ty x).bind nilV) := by
  refine RL_pure (by intro c h; cases h) _ ?_
  simp only [plainEff]
  cases St.ev E.T ⟨env, rs⟩ ty x with
  | none => rfl
  | some y => cases y <;> rfl
/-- A test against a variable of an interface's type is not known. -/
def binW (T : Tb) (op : BinOp) (t : Nat) (c : Bool) (x y : D) : Option D := if (isIfc y && !c) = true then none else binEff T op t x y
def o2 (f : D → D → Option D) : Option D → Option D → Option D
  | some a, some b => f a b
  | _, _ => none
@[simp] theorem o2_some {f : D → D → Option D} {a b : D} : o2 f (some a) (some b) = f a b := rfl
@[simp] theorem st_binOp {op : BinOp} {t t' : Nat} : RL E Q ops (⟨some d, .binOp op t x y t', ty, pos, after, none⟩ :: l) ks ⟨env, rs⟩ = RV E Q ops l ks d env rs (o2 (binW E.T op t (Region.isConst y)) (St.ev E.T ⟨env, rs⟩ ty x) (St.ev E.T ⟨env, rs⟩ ty y)) := by
  refine RL_pure (by intro c h; cases h) _ ?_
  simp only [plainEff]
  cases St.ev E.T ⟨env, rs⟩ ty x <;> cases St.ev E.T ⟨env, rs⟩ ty y <;> rfl
@[simp] theorem st_unOp {op : UnOp} {t : Nat} : RL E Q ops (⟨some d, .unOp op t x, ty, pos, after, none⟩ :: l) ks ⟨env, rs⟩ = RV E Q ops l ks d env rs ((St.ev E.T ⟨env, rs⟩ ty x).bind (unEff op)) := by
  refine RL_pure (by intro c h; cases h) _ ?_
  simp only [plainEff]
  cases St.ev E.T ⟨env, rs⟩ ty x <;> rfl
@[simp] theorem st_fieldAddr {s f : Nat} : RL E Q ops (⟨some d, .fieldAddr s x f, ty, pos, after, none⟩ :: l) ks ⟨env, rs⟩ = RV E Q ops l ks d env rs ((St.ev E.T ⟨env, rs⟩ ty x).bind (fieldAddrEff E.T ⟨env, rs⟩ s f)) := by
  refine RL_pure (by intro c h; cases h) _ ?_
  simp only [plainEff]
  cases St.ev E.T ⟨env, rs⟩ ty x <;> rfl
@[simp] theorem st_field {s f : Nat} : RL E Q ops (⟨some d, .field s x f, ty, pos, after, none⟩ :: l) ks ⟨env, rs⟩ = RV E Q ops l ks d env rs ((St.ev E.T ⟨env, rs⟩ ty x).bind (fieldEff E.T s f)) := by
  refine RL_pure (by intro c h; cases h) _ ?_
  simp only [plainEff]
  cases St.ev E.T ⟨env, rs⟩ ty x <;> rfl
@[simp] theorem st_indexAddr {s : Nat} : RL E Q ops (⟨some d, .indexAddr s x i, ty, pos, after, none⟩ :: l) ks ⟨env, rs⟩ = RV E Q ops l ks d env rs (o2 (indexEff E.T s ⟨env, rs⟩) (St.ev E.T ⟨env, rs⟩ ty x) (St.ev E.T ⟨env, rs⟩ ty i)) := by
  refine RL_pure (by intro c h; cases h) _ ?_
  simp only [plainEff]
  cases St.ev E.T ⟨env, rs⟩ ty x <;> cases St.ev E.T ⟨env, rs⟩ ty i <;> rfl
@[simp] theorem st_index {s : Nat} : RL E Q ops (⟨some d, .index s x i, ty, pos, after, none⟩ :: l) ks ⟨env, rs⟩ = RV E Q ops l ks d env rs (o2 (strAt E.T s) (St.ev E.T ⟨env, rs⟩ ty x) (St.ev E.T ⟨env, rs⟩ ty i)) := by
  refine RL_pure (by intro c h; cases h) _ ?_
  simp only [plainEff]
  cases St.ev E.T ⟨env, rs⟩ ty x <;> cases St.ev E.T ⟨env, rs⟩ ty i <;> rfl
def extV (i : Nat) : D → Option D
  | .tup xs => xs[i]?
  | _ => none
@[simp] theorem extV_tup {i : Nat} {xs : List D} : extV i (.tup xs) = xs[i]? := rfl
@[simp] theorem st_extract {i : Nat} : RL E Q ops (⟨some d, .extract x i, ty, pos, after, none⟩ :: l) ks ⟨env, rs⟩ = RV E Q ops l ks d env rs ((St.ev E.T ⟨env, rs⟩ ty x).bind (extV i)) := by
  refine RL_pure (by intro c h; cases h) _ ?_
  simp only [plainEff]
  cases St.ev E.T ⟨env, rs⟩ ty x with
  | none => rfl
  | some y => cases y <;> rfl
@[simp] theorem st_slice {t : Nat} {lo hi : Option Operand} : RL E Q ops (⟨some d, .slice t x lo hi none, ty, pos, after, none⟩ :: l) ks ⟨env, rs⟩ = RV E Q ops l ks d env rs ((St.ev E.T ⟨env, rs⟩ ty x).bind fun x => (evO E.T ⟨env, rs⟩ ty lo).bind fun lo => (evO E.T ⟨env, rs⟩ ty hi).bind fun hi => sliceEff E.T t ⟨env, rs⟩ x lo hi) := by
  refine RL_pure (by intro c h; cases h) _ ?_
  simp only [plainEff]
  cases St.ev E.T ⟨env, rs⟩ ty x <;> cases evO E.T ⟨env, rs⟩ ty lo <;> cases evO E.T ⟨env, rs⟩ ty hi <;> rfl
def aggO (o : Option (List D)) : Option D := o.map .agg
@[simp] theorem aggO_some {xs : List D} : aggO (some xs) = some (.agg xs) := rfl
@[simp] theorem st_build {t : Nat} {parts : Array (Nat × Operand)} : RL E Q ops (⟨some d, .build t parts, ty, pos, after, none⟩ :: l) ks ⟨env, rs⟩ = RV E Q ops l ks d env rs (aggO (((E.T.zero t).bind D.items).bind fun xs => fillS E.T ⟨env, rs⟩ t xs parts.toList)) := by
  refine RL_pure (by intro c h; cases h) _ ?_
  simp only [plainEff, aggO]
  cases E.T.zero t with
  | none => rfl
  | some z =>
    simp only [Option.bind_some]
    cases z.items with
    | none => rfl
    | some xs => simp only [Option.bind_some]; cases fillS E.T ⟨env, rs⟩ t xs parts.toList <;> rfl
@[simp] theorem st_makeFunc {f : FuncId} {first : Array Operand} {caps : Array Operand} : RL E Q ops (⟨some d, .makeFunc (.func f) first caps, ty, pos, after, none⟩ :: l) ks ⟨env, rs⟩ = RV E Q ops l ks d env rs (if first.isEmpty = true then (evL E.T ⟨env, rs⟩ [] caps.toList).bind fun xs => if xs.all isPtr = true then some (.fn f xs) else none else none) := by
  refine RL_pure (by intro c h; cases h) _ ?_
  simp only [plainEff]
  by_cases h : first.isEmpty = true
  · simp only [h, if_true]
    cases evL E.T ⟨env, rs⟩ [] caps.toList with
    | none => rfl
    | some xs => simp only [Option.bind_some]; split <;> rfl
  · simp only [h]; rfl

@[simp] theorem st_alloc {t : Nat} : RL E Q ops (⟨dst, .alloc t, ty, pos, after, none⟩ :: l) ks ⟨env, rs⟩ = RE E Q ops l ks dst env rs ((E.T.zero t).map (newVar (dst.getD 0))) := RL_eff (by intro c h; cases h) _ rfl
def boxW (T : Tb) (rs : Rid → Option Root) (t d : Nat) (x : D) : Option Eff := (take T.mv rs x).bind fun k => if D.size k.d = (layOf (T.ty t)).2 then some ⟨.ptr (d, 0) [], k.upd ++ [((d, 0), some ⟨true, k.d⟩)], k.kill ++ [⟨(d, 0), [], true, true⟩]⟩ else none
@[simp] theorem st_box {t : Nat} : RL E Q ops (⟨dst, .box t x, ty, pos, after, none⟩ :: l) ks ⟨env, rs⟩ = RE E Q ops l ks dst env rs ((St.ev E.T ⟨env, rs⟩ t x).bind (boxW E.T rs t (dst.getD 0))) := RL_eff (by intro c h; cases h) _ rfl
@[simp] theorem st_store {t : Nat} : RL E Q ops (⟨dst, .store t x y, ty, pos, after, none⟩ :: l) ks ⟨env, rs⟩ = RE E Q ops l ks dst env rs ((St.ev E.T ⟨env, rs⟩ ty x).bind fun a => (St.ev E.T ⟨env, rs⟩ t y).bind fun x => storeEff E.T ⟨env, rs⟩ t a x) := RL_eff (by intro c h; cases h) _ rfl
def o2e (f : D → D → Option Eff) : Option D → Option D → Option Eff
  | some a, some b => f a b
  | _, _ => none
@[simp] theorem o2e_some {f : D → D → Option Eff} {a b : D} : o2e f (some a) (some b) = f a b := rfl
def makeW (T : Tb) (d t : Nat) (x y : D) : Option Eff :=
  match T.ty t with
  | .slice te e bytes => (int? x).bind fun n => (int? y).bind fun c => (T.zero te).bind fun z => if 0 ≤ n ∧ n ≤ c ∧ c * bytes ≤ roomMax ∧ c ≤ roomMax then some (newRow d te e (List.replicate n.toNat z)) else none
  | _ => none
@[simp] theorem st_makeSlice {t : Nat} : RL E Q ops (⟨dst, .makeSlice t x y, ty, pos, after, none⟩ :: l) ks ⟨env, rs⟩ = RE E Q ops l ks dst env rs (o2e (makeW E.T (dst.getD 0) t) (St.ev E.T ⟨env, rs⟩ ty x) (St.ev E.T ⟨env, rs⟩ ty y)) := by
  refine RL_eff (by intro c h; cases h) _ ?_
  simp only [plainEff]
  cases St.ev E.T ⟨env, rs⟩ ty x <;> cases St.ev E.T ⟨env, rs⟩ ty y <;> simp only [o2e, makeW] <;> cases E.T.ty t <;> simp
def buildW (T : Tb) (d t n : Nat) (st : St) (parts : List (Nat × Operand)) : Option Eff :=
  match T.ty t with
  | .slice te e _ => (T.zero te).bind fun z => if n * e ≤ 16777216 then (fillL T st (List.replicate n z) [] [] parts).map fun y => ⟨.slc (d, 0) [] 0 y.1.length, y.2.1 ++ [((d, 0), some ⟨false, .lst true te e y.1⟩)], y.2.2 ++ [⟨(d, 0), [], true, true⟩]⟩ else none
  | _ => none
@[simp] theorem st_buildSlice {t n : Nat} {parts : Array (Nat × Operand)} : RL E Q ops (⟨dst, .buildSlice t n parts, ty, pos, after, none⟩ :: l) ks ⟨env, rs⟩ = RE E Q ops l ks dst env rs (buildW E.T (dst.getD 0) t n ⟨env, rs⟩ parts.toList) := RL_eff (by intro c h; cases h) _ rfl
/-- A conversion. -/
def convW (T : Tb) (d : Nat) (st : St) (a b : Ty) (v : D) : Option Eff :=
  match a, b, v with
  | .int _, .int k, .int _ n => some (pureE (.int k (k.wrap n)))
  | .str, .str, .str s => some (pureE (.str s))
  | .str, .slice te e _, .str s => match T.ty te with | .int .u8 => if e = 1 ∧ s.length ≤ roomMax then some (newRow d (te + 1000000) e (ofBytes s)) else none | _ => none
  | .slice te _ _, .str, d => match T.ty te with | .int .u8 => (st.items d).bind fun xs => (bytesOf xs).map fun s => pureE (.str s) | _ => none
  | _, _, _ => none
theorem conv_def {s t d : Nat} : plainEff E.T d ty ⟨env, rs⟩ (.convert s t x) = (St.ev E.T ⟨env, rs⟩ ty x).bind (convW E.T d ⟨env, rs⟩ (E.T.ty s) (E.T.ty t)) := by
  simp only [plainEff]
  cases St.ev E.T ⟨env, rs⟩ ty x with
  | none => rfl
  | some v => rfl
@[simp] theorem st_convert {s t : Nat} : RL E Q ops (⟨dst, .convert s t x, ty, pos, after, none⟩ :: l) ks ⟨env, rs⟩ = RE E Q ops l ks dst env rs ((St.ev E.T ⟨env, rs⟩ ty x).bind (convW E.T (dst.getD 0) ⟨env, rs⟩ (E.T.ty s) (E.T.ty t))) := RL_eff (by intro c h; cases h) _ conv_def
theorem RL_call {c : Call} : RL E Q ops (⟨dst, .call c, ty, pos, after, none⟩ :: l) ks ⟨env, rs⟩ = RE E Q ops l ks dst env rs (callOp E.T (lim E) E.md (dst.getD 0) ty ⟨env, rs⟩ c) := by
  simp only [RL, RE, runOps, stepOp, guardOf, Option.bind_some, if_true, opEff]
  cases callOp E.T (lim E) E.md (dst.getD 0) ty ⟨env, rs⟩ c <;> simp
/-- A call of a function of the program. -/
noncomputable def callW (E : En) (t f : Nat) (st : St) (xs : List D) : Option Eff := callEff (lim E) E.md t f st xs
noncomputable def callT (E : En) (t : Nat) (st : St) (xs : List D) : D → Option Eff
  | .fn f caps => if caps.all (fun d => !isAgg d) = true then callEff (lim E) E.md t f st (xs ++ caps) else none
  | _ => none
@[simp] theorem callT_fn {t f : Nat} {xs caps : List D} : callT E t st xs (.fn f caps) = if caps.all (fun d => !isAgg d) = true then callEff (lim E) E.md t f st (xs ++ caps) else none := rfl
@[simp] theorem st_callf {f : FuncId} {args : Array Operand} {tys : Array TypeId} : RL E Q ops (⟨dst, .call ⟨.value (.func f), args, tys⟩, ty, pos, after, none⟩ :: l) ks ⟨env, rs⟩ = RE E Q ops l ks dst env rs ((evL E.T ⟨env, rs⟩ tys.toList args.toList).bind (callW E (dst.getD 0) f ⟨env, rs⟩)) := by
  rw [RL_call]
  simp [callOp, St.ev, callW]
  rfl
@[simp] theorem st_callt {f : Tmp} {args : Array Operand} {tys : Array TypeId} : RL E Q ops (⟨dst, .call ⟨.value (.tmp f), args, tys⟩, ty, pos, after, none⟩ :: l) ks ⟨env, rs⟩ = RE E Q ops l ks dst env rs ((evL E.T ⟨env, rs⟩ tys.toList args.toList).bind fun xs => callT E (dst.getD 0) ⟨env, rs⟩ xs (env f)) := by
  rw [RL_call]
  simp only [callOp, St.ev, Option.bind_some]
  cases h : env f with
  | fn f caps =>
    simp only [callT]
    by_cases hc : (caps.all fun d => !isAgg d) = true
    · simp only [hc, if_true]
    · simp only [hc]; cases evL E.T ⟨env, rs⟩ tys.toList args.toList <;> simp
  | _ => cases evL E.T ⟨env, rs⟩ tys.toList args.toList <;> simp [callT]
theorem st_builtin {b : Builtin} {args : Array Operand} {tys : Array TypeId} : RL E Q ops (⟨dst, .call ⟨.builtin b, args, tys⟩, ty, pos, after, none⟩ :: l) ks ⟨env, rs⟩ = RE E Q ops l ks dst env rs (builtinEff E.T (dst.getD 0) ⟨env, rs⟩ b ⟨.builtin b, args, tys⟩) := RL_call
@[simp] theorem st_len {t : TypeId} : RL E Q ops (⟨some d, .call ⟨.builtin .len, #[x], #[t]⟩, ty, pos, after, none⟩ :: l) ks ⟨env, rs⟩ = RV E Q ops l ks d env rs ((St.ev E.T ⟨env, rs⟩ t x).bind (lenEff E.T t)) := by
  rw [st_builtin]
  unfold builtinEff
  simp only [evL, List.headD, List.drop]
  cases St.ev E.T ⟨env, rs⟩ t x with
  | none => simp [RE, RV]
  | some a =>
    simp only [Option.bind_some, Option.map_some]
    cases lenEff E.T t a with
    | none => simp [RE, RV]
    | some v => simp [RE, RV, St.app, pureE, putO, killAll, updAll]
def appendW (T : Tb) (t t0 t1 : Nat) (st : St) (s x : D) : Option Eff := if (isStr (T.ty t1) || (elemOf? (T.ty t1)).isSome) = true then appendEff T t t0 st s x else none
@[simp] theorem st_append {t0 t1 : TypeId} : RL E Q ops (⟨dst, .call ⟨.builtin .append, #[x, y], #[t0, t1]⟩, ty, pos, after, none⟩ :: l) ks ⟨env, rs⟩ = RE E Q ops l ks dst env rs (o2e (appendW E.T (dst.getD 0) t0 t1 ⟨env, rs⟩) (St.ev E.T ⟨env, rs⟩ t0 x) (St.ev E.T ⟨env, rs⟩ t1 y)) := by
  rw [st_builtin]
  unfold builtinEff
  simp only [evL, List.headD, List.drop]
  cases St.ev E.T ⟨env, rs⟩ t0 x <;> cases St.ev E.T ⟨env, rs⟩ t1 y <;> simp [appendW, o2e]
@[simp] theorem st_copy {t0 t1 : TypeId} : RL E Q ops (⟨dst, .call ⟨.builtin .copy, #[x, y], #[t0, t1]⟩, ty, pos, after, none⟩ :: l) ks ⟨env, rs⟩ = RE E Q ops l ks dst env rs (o2e (copyEff E.T t0 ⟨env, rs⟩) (St.ev E.T ⟨env, rs⟩ t0 x) (St.ev E.T ⟨env, rs⟩ t1 y)) := by
  rw [st_builtin]
  unfold builtinEff
  simp only [evL, List.headD, List.drop]
  cases St.ev E.T ⟨env, rs⟩ t0 x <;> cases St.ev E.T ⟨env, rs⟩ t1 y <;> simp [o2e]
@[simp] theorem st_clear {t0 : TypeId} : RL E Q ops (⟨dst, .call ⟨.builtin .clear, #[x], #[t0]⟩, ty, pos, after, none⟩ :: l) ks ⟨env, rs⟩ = RE E Q ops l ks dst env rs ((St.ev E.T ⟨env, rs⟩ t0 x).bind (clearEff E.T t0 ⟨env, rs⟩)) := by
  rw [st_builtin]
  unfold builtinEff
  simp only [evL, List.headD, List.drop]
  cases St.ev E.T ⟨env, rs⟩ t0 x <;> simp
def maxV : D → D → Option D
  | .int k a, .int _ b => some (.int k (if b > a then b else a))
  | _, _ => none
def minV : D → D → Option D
  | .int k a, .int _ b => some (.int k (if b < a then b else a))
  | _, _ => none
@[simp] theorem maxV_int {k k' : IntKind} {a b : Int} : maxV (.int k a) (.int k' b) = some (.int k (if b > a then b else a)) := rfl
@[simp] theorem minV_int {k k' : IntKind} {a b : Int} : minV (.int k a) (.int k' b) = some (.int k (if b < a then b else a)) := rfl
theorem RE_pure {d : Nat} {v : Option D} : RE E Q ops l ks (some d) env rs (v.map pureE) = RV E Q ops l ks d env rs v := by
  cases v <;> simp [RE, RV, St.app, pureE, putO, killAll, updAll]
theorem max_def {T : Tb} {d : Nat} {a b : D} {ts : List Nat} {c : Call} (h1 : evL T st ts [x, y] = some [a, b]) (h2 : c.args.toList = [x, y]) (h3 : c.argTypes.toList = ts) : builtinEff T d st .max c = (maxV a b).map pureE := by
  unfold builtinEff
  rw [h2, h3, h1]
  cases a with
  | int k n => cases b <;> rfl
  | _ => rfl
theorem min_def {T : Tb} {d : Nat} {a b : D} {ts : List Nat} {c : Call} (h1 : evL T st ts [x, y] = some [a, b]) (h2 : c.args.toList = [x, y]) (h3 : c.argTypes.toList = ts) : builtinEff T d st .min c = (minV a b).map pureE := by
  unfold builtinEff
  rw [h2, h3, h1]
  cases a with
  | int k n => cases b <;> rfl
  | _ => rfl
theorem builtin_none {T : Tb} {d : Nat} {b : Builtin} {c : Call} (h : evL T st c.argTypes.toList c.args.toList = none) : builtinEff T d st b c = none := by
  unfold builtinEff
  rw [h]
  rfl
@[simp] theorem st_max {t0 t1 : TypeId} : RL E Q ops (⟨some d, .call ⟨.builtin .max, #[x, y], #[t0, t1]⟩, ty, pos, after, none⟩ :: l) ks ⟨env, rs⟩ = RV E Q ops l ks d env rs (o2 maxV (St.ev E.T ⟨env, rs⟩ t0 x) (St.ev E.T ⟨env, rs⟩ t1 y)) := by
  rw [st_builtin, ← RE_pure]
  congr 1
  cases h1 : St.ev E.T ⟨env, rs⟩ t0 x with
  | none => rw [builtin_none (by simp [evL, h1])]; rfl
  | some a =>
    cases h2 : St.ev E.T ⟨env, rs⟩ t1 y with
    | none => rw [builtin_none (by simp [evL, h1, h2])]; rfl
    | some b => exact max_def (by simp [evL, h1, h2]) rfl rfl
@[simp] theorem st_min {t0 t1 : TypeId} : RL E Q ops (⟨some d, .call ⟨.builtin .min, #[x, y], #[t0, t1]⟩, ty, pos, after, none⟩ :: l) ks ⟨env, rs⟩ = RV E Q ops l ks d env rs (o2 minV (St.ev E.T ⟨env, rs⟩ t0 x) (St.ev E.T ⟨env, rs⟩ t1 y)) := by
  rw [st_builtin, ← RE_pure]
  congr 1
  cases h1 : St.ev E.T ⟨env, rs⟩ t0 x with
  | none => rw [builtin_none (by simp [evL, h1])]; rfl
  | some a =>
    cases h2 : St.ev E.T ⟨env, rs⟩ t1 y with
    | none => rw [builtin_none (by simp [evL, h1, h2])]; rfl
    | some b => exact min_def (by simp [evL, h1, h2]) rfl rfl

/-! ### Regions that draw -/
@[simp] theorem stepOp_g {op : Op} {j : Nat} {want : Bool} : stepW E ops ⟨dst, op, ty, pos, after, some (j, want)⟩ ⟨env, rs⟩ = gW E ⟨dst, op, ty, pos, after, none⟩ ⟨env, rs⟩ want (guardD env (tmpAt ops j)) := by
  unfold stepW stepOp guardOf guardD tmpAt
  cases h : (ops[j]?).bind (·.dst) with
  | none => simp [h, gW]
  | some t =>
    simp only [h]
    cases hb : env t <;> simp [gW]
    case tup xs => cases xs <;> simp
    rename_i b
    by_cases hw : b = want
    · subst hw; simp; rfl
    · simp [hw]
@[simp] theorem stepOp_ng {op : Op} : stepW E ops ⟨dst, op, ty, pos, after, none⟩ st = opW E ⟨dst, op, ty, pos, after, none⟩ st := by simp [stepW, opW, stepOp, guardOf]
@[simp] theorem oe_move : opW E ⟨some d, .move x, ty, pos, after, none⟩ ⟨env, rs⟩ = (St.ev E.T ⟨env, rs⟩ ty x).map pureE := by
  show plainEff E.T d ty ⟨env, rs⟩ (.move x) = _
  rfl
@[simp] theorem oe_assign : opW E ⟨some d, .assign x, ty, pos, after, none⟩ ⟨env, rs⟩ = (St.ev E.T ⟨env, rs⟩ ty x).map pureE := by
  show plainEff E.T d ty ⟨env, rs⟩ (.assign x) = _
  rfl
@[simp] theorem oe_pick {c : Operand} : opW E ⟨some d, .pick c x y, ty, pos, after, none⟩ ⟨env, rs⟩ = (pickV (St.ev E.T ⟨env, rs⟩ ty c) (St.ev E.T ⟨env, rs⟩ ty x) (St.ev E.T ⟨env, rs⟩ ty y)).map pureE := by
  show plainEff E.T d ty ⟨env, rs⟩ (.pick c x y) = _
  simp only [plainEff]
  cases h : St.ev E.T ⟨env, rs⟩ ty c with
  | none => rfl
  | some z => cases z <;> rfl
@[simp] theorem oe_load {t : Nat} : opW E ⟨some d, .load t x, ty, pos, after, none⟩ ⟨env, rs⟩ = ((St.ev E.T ⟨env, rs⟩ ty x).bind (loadW E.T ⟨env, rs⟩ t)).map pureE := by
  show plainEff E.T d ty ⟨env, rs⟩ (.load t x) = _
  simp only [plainEff]
  cases St.ev E.T ⟨env, rs⟩ ty x with
  | none => rfl
  | some a =>
    simp only [Option.bind_some, loadW]
    cases loadEff ⟨env, rs⟩ a with
    | none => rfl
    | some y => simp only [Option.bind_some, fitsO]; split <;> rfl
@[simp] theorem oe_nilCheck : opW E ⟨some d, .nilCheck x, ty, pos, after, none⟩ ⟨env, rs⟩ = ((St.ev E.T ⟨env, rs⟩ ty x).bind nilV).map pureE := by
  show plainEff E.T d ty ⟨env, rs⟩ (.nilCheck x) = _
  simp only [plainEff]
  cases St.ev E.T ⟨env, rs⟩ ty x with
  | none => rfl
  | some y => cases y <;> rfl
@[simp] theorem oe_binOp {op : BinOp} {t t' : Nat} : opW E ⟨some d, .binOp op t x y t', ty, pos, after, none⟩ ⟨env, rs⟩ = (o2 (binW E.T op t (Region.isConst y)) (St.ev E.T ⟨env, rs⟩ ty x) (St.ev E.T ⟨env, rs⟩ ty y)).map pureE := by
  show plainEff E.T d ty ⟨env, rs⟩ (.binOp op t x y t') = _
  simp only [plainEff]
  cases St.ev E.T ⟨env, rs⟩ ty x <;> cases St.ev E.T ⟨env, rs⟩ ty y <;> rfl
@[simp] theorem oe_unOp {op : UnOp} {t : Nat} : opW E ⟨some d, .unOp op t x, ty, pos, after, none⟩ ⟨env, rs⟩ = ((St.ev E.T ⟨env, rs⟩ ty x).bind (unEff op)).map pureE := by
  show plainEff E.T d ty ⟨env, rs⟩ (.unOp op t x) = _
  simp only [plainEff]
  cases St.ev E.T ⟨env, rs⟩ ty x <;> rfl
@[simp] theorem oe_fieldAddr {s f : Nat} : opW E ⟨some d, .fieldAddr s x f, ty, pos, after, none⟩ ⟨env, rs⟩ = ((St.ev E.T ⟨env, rs⟩ ty x).bind (fieldAddrEff E.T ⟨env, rs⟩ s f)).map pureE := by
  show plainEff E.T d ty ⟨env, rs⟩ (.fieldAddr s x f) = _
  simp only [plainEff]
  cases St.ev E.T ⟨env, rs⟩ ty x <;> rfl
@[simp] theorem oe_field {s f : Nat} : opW E ⟨some d, .field s x f, ty, pos, after, none⟩ ⟨env, rs⟩ = ((St.ev E.T ⟨env, rs⟩ ty x).bind (fieldEff E.T s f)).map pureE := by
  show plainEff E.T d ty ⟨env, rs⟩ (.field s x f) = _
  simp only [plainEff]
  cases St.ev E.T ⟨env, rs⟩ ty x <;> rfl
@[simp] theorem oe_indexAddr {s : Nat} : opW E ⟨some d, .indexAddr s x i, ty, pos, after, none⟩ ⟨env, rs⟩ = (o2 (indexEff E.T s ⟨env, rs⟩) (St.ev E.T ⟨env, rs⟩ ty x) (St.ev E.T ⟨env, rs⟩ ty i)).map pureE := by
  show plainEff E.T d ty ⟨env, rs⟩ (.indexAddr s x i) = _
  simp only [plainEff]
  cases St.ev E.T ⟨env, rs⟩ ty x <;> cases St.ev E.T ⟨env, rs⟩ ty i <;> rfl
@[simp] theorem oe_index {s : Nat} : opW E ⟨some d, .index s x i, ty, pos, after, none⟩ ⟨env, rs⟩ = (o2 (strAt E.T s) (St.ev E.T ⟨env, rs⟩ ty x) (St.ev E.T ⟨env, rs⟩ ty i)).map pureE := by
  show plainEff E.T d ty ⟨env, rs⟩ (.index s x i) = _
  simp only [plainEff]
  cases St.ev E.T ⟨env, rs⟩ ty x <;> cases St.ev E.T ⟨env, rs⟩ ty i <;> rfl
@[simp] theorem oe_extract {i : Nat} : opW E ⟨some d, .extract x i, ty, pos, after, none⟩ ⟨env, rs⟩ = ((St.ev E.T ⟨env, rs⟩ ty x).bind (extV i)).map pureE := by
  show plainEff E.T d ty ⟨env, rs⟩ (.extract x i) = _
  simp only [plainEff]
  cases St.ev E.T ⟨env, rs⟩ ty x with
  | none => rfl
  | some y => cases y <;> rfl
@[simp] theorem oe_slice {t : Nat} {lo hi : Option Operand} : opW E ⟨some d, .slice t x lo hi none, ty, pos, after, none⟩ ⟨env, rs⟩ = ((St.ev E.T ⟨env, rs⟩ ty x).bind fun x => (evO E.T ⟨env, rs⟩ ty lo).bind fun lo => (evO E.T ⟨env, rs⟩ ty hi).bind fun hi => sliceEff E.T t ⟨env, rs⟩ x lo hi).map pureE := by
  show plainEff E.T d ty ⟨env, rs⟩ (.slice t x lo hi none) = _
  simp only [plainEff]
  cases St.ev E.T ⟨env, rs⟩ ty x <;> cases evO E.T ⟨env, rs⟩ ty lo <;> cases evO E.T ⟨env, rs⟩ ty hi <;> rfl
@[simp] theorem oe_build {t : Nat} {parts : Array (Nat × Operand)} : opW E ⟨some d, .build t parts, ty, pos, after, none⟩ ⟨env, rs⟩ = (aggO (((E.T.zero t).bind D.items).bind fun xs => fillS E.T ⟨env, rs⟩ t xs parts.toList)).map pureE := by
  show plainEff E.T d ty ⟨env, rs⟩ (.build t parts) = _
  simp only [plainEff, aggO]
  cases E.T.zero t with
  | none => rfl
  | some z =>
    simp only [Option.bind_some]
    cases z.items with
    | none => rfl
    | some xs => simp only [Option.bind_some]; cases fillS E.T ⟨env, rs⟩ t xs parts.toList <;> rfl
@[simp] theorem oe_makeFunc {f : FuncId} {first : Array Operand} {caps : Array Operand} : opW E ⟨some d, .makeFunc (.func f) first caps, ty, pos, after, none⟩ ⟨env, rs⟩ = (if first.isEmpty = true then (evL E.T ⟨env, rs⟩ [] caps.toList).bind fun xs => if xs.all isPtr = true then some (.fn f xs) else none else none).map pureE := by
  show plainEff E.T d ty ⟨env, rs⟩ (.makeFunc (.func f) first caps) = _
  simp only [plainEff]
  by_cases h : first.isEmpty = true
  · simp only [h, if_true]
    cases evL E.T ⟨env, rs⟩ [] caps.toList with
    | none => rfl
    | some xs => simp only [Option.bind_some]; split <;> rfl
  · simp only [h]; rfl
@[simp] theorem oe_alloc {t : Nat} : opW E ⟨dst, .alloc t, ty, pos, after, none⟩ ⟨env, rs⟩ = ((E.T.zero t).map (newVar (dst.getD 0))) := rfl
@[simp] theorem oe_box {t : Nat} : opW E ⟨dst, .box t x, ty, pos, after, none⟩ ⟨env, rs⟩ = ((St.ev E.T ⟨env, rs⟩ t x).bind (boxW E.T rs t (dst.getD 0))) := rfl
@[simp] theorem oe_store {t : Nat} : opW E ⟨dst, .store t x y, ty, pos, after, none⟩ ⟨env, rs⟩ = ((St.ev E.T ⟨env, rs⟩ ty x).bind fun a => (St.ev E.T ⟨env, rs⟩ t y).bind fun x => storeEff E.T ⟨env, rs⟩ t a x) := rfl
@[simp] theorem oe_callf {f : FuncId} {args : Array Operand} {tys : Array TypeId} : opW E ⟨dst, .call ⟨.value (.func f), args, tys⟩, ty, pos, after, none⟩ ⟨env, rs⟩ = ((evL E.T ⟨env, rs⟩ tys.toList args.toList).bind (callW E (dst.getD 0) f ⟨env, rs⟩)) := by
  unfold opW opEff
  simp [callOp, St.ev, callW]
  rfl
@[simp] theorem oe_len {t : TypeId} : opW E ⟨some d, .call ⟨.builtin .len, #[x], #[t]⟩, ty, pos, after, none⟩ ⟨env, rs⟩ = ((St.ev E.T ⟨env, rs⟩ t x).bind (lenEff E.T t)).map pureE := by
  unfold opW opEff callOp builtinEff
  simp only [evL, List.headD, List.drop]
  cases St.ev E.T ⟨env, rs⟩ t x <;> simp
@[simp] theorem oe_convert {s t : Nat} : opW E ⟨dst, .convert s t x, ty, pos, after, none⟩ ⟨env, rs⟩ = ((St.ev E.T ⟨env, rs⟩ ty x).bind (convW E.T (dst.getD 0) ⟨env, rs⟩ (E.T.ty s) (E.T.ty t))) := conv_def
@[simp] theorem oe_buildSlice {t n : Nat} {parts : Array (Nat × Operand)} : opW E ⟨dst, .buildSlice t n parts, ty, pos, after, none⟩ ⟨env, rs⟩ = buildW E.T (dst.getD 0) t n ⟨env, rs⟩ parts.toList := rfl
@[simp] theorem oe_makeSlice {t : Nat} : opW E ⟨dst, .makeSlice t x y, ty, pos, after, none⟩ ⟨env, rs⟩ = o2e (makeW E.T (dst.getD 0) t) (St.ev E.T ⟨env, rs⟩ ty x) (St.ev E.T ⟨env, rs⟩ ty y) := by
  simp only [opW, opEff, plainEff]
  cases St.ev E.T ⟨env, rs⟩ ty x <;> cases St.ev E.T ⟨env, rs⟩ ty y <;> simp only [o2e, makeW] <;> cases E.T.ty t <;> simp
@[simp] theorem oe_append {t0 t1 : TypeId} : opW E ⟨dst, .call ⟨.builtin .append, #[x, y], #[t0, t1]⟩, ty, pos, after, none⟩ ⟨env, rs⟩ = o2e (appendW E.T (dst.getD 0) t0 t1 ⟨env, rs⟩) (St.ev E.T ⟨env, rs⟩ t0 x) (St.ev E.T ⟨env, rs⟩ t1 y) := by
  unfold opW opEff callOp builtinEff
  simp only [evL, List.headD, List.drop]
  cases St.ev E.T ⟨env, rs⟩ t0 x <;> cases St.ev E.T ⟨env, rs⟩ t1 y <;> simp [appendW, o2e]
@[simp] theorem oe_copy {t0 t1 : TypeId} : opW E ⟨dst, .call ⟨.builtin .copy, #[x, y], #[t0, t1]⟩, ty, pos, after, none⟩ ⟨env, rs⟩ = o2e (copyEff E.T t0 ⟨env, rs⟩) (St.ev E.T ⟨env, rs⟩ t0 x) (St.ev E.T ⟨env, rs⟩ t1 y) := by
  unfold opW opEff callOp builtinEff
  simp only [evL, List.headD, List.drop]
  cases St.ev E.T ⟨env, rs⟩ t0 x <;> cases St.ev E.T ⟨env, rs⟩ t1 y <;> simp [o2e]
@[simp] theorem oe_max {t0 t1 : TypeId} : opW E ⟨some d, .call ⟨.builtin .max, #[x, y], #[t0, t1]⟩, ty, pos, after, none⟩ ⟨env, rs⟩ = (o2 maxV (St.ev E.T ⟨env, rs⟩ t0 x) (St.ev E.T ⟨env, rs⟩ t1 y)).map pureE := by
  show builtinEff E.T _ ⟨env, rs⟩ .max _ = _
  cases h1 : St.ev E.T ⟨env, rs⟩ t0 x with
  | none => rw [builtin_none (by simp [evL, h1])]; rfl
  | some a =>
    cases h2 : St.ev E.T ⟨env, rs⟩ t1 y with
    | none => rw [builtin_none (by simp [evL, h1, h2])]; rfl
    | some b => exact max_def (by simp [evL, h1, h2]) rfl rfl
@[simp] theorem oe_min {t0 t1 : TypeId} : opW E ⟨some d, .call ⟨.builtin .min, #[x, y], #[t0, t1]⟩, ty, pos, after, none⟩ ⟨env, rs⟩ = (o2 minV (St.ev E.T ⟨env, rs⟩ t0 x) (St.ev E.T ⟨env, rs⟩ t1 y)).map pureE := by
  show builtinEff E.T _ ⟨env, rs⟩ .min _ = _
  cases h1 : St.ev E.T ⟨env, rs⟩ t0 x with
  | none => rw [builtin_none (by simp [evL, h1])]; rfl
  | some a =>
    cases h2 : St.ev E.T ⟨env, rs⟩ t1 y with
    | none => rw [builtin_none (by simp [evL, h1, h2])]; rfl
    | some b => exact min_def (by simp [evL, h1, h2]) rfl rfl
end steps

theorem RG_dec {o : Oper} {w : Bool} {p : Prop} [Decidable p] (h1 : p → RG E Q ops o l w ks st (.bool true)) (h2 : ¬ p → RG E Q ops o l w ks st (.bool false)) : RG E Q ops o l w ks st (.bool (decide p)) := by
  by_cases h : p
  · simpa [h] using h1 h
  · simpa [h] using h2 h
theorem RB_dec {a b : Code} {p : Prop} [Decidable p] (h1 : p → RC E Q a ks st) (h2 : ¬ p → RC E Q b ks st) : RB E Q a b ks st (some (.bool (decide p))) := by
  by_cases h : p
  · simpa [h] using h1 h
  · simpa [h] using h2 h

theorem RB_ndec {a b : Code} {p : Prop} [Decidable p] (h1 : ¬ p → RC E Q a ks st) (h2 : p → RC E Q b ks st) : RB E Q a b ks st (some (.bool (!decide p))) := by
  by_cases h : p
  · simpa [h] using h2 h
  · simpa [h] using h1 h

/-- The end of a call. -/
def Fin (E : En) (f : Nat) (rv : List ResultVar) (r : D × List D) : Out → St → Prop := fun o st => atEnd (E.tb f) (E.md f) (E.fz f) rv (o, st) = some r
@[simp] theorem Fin_ret {f : Nat} {rv : List ResultVar} {r : D × List D} : Fin E f rv r .ret st = (finish (E.tb f) (E.md f) (E.fz f) rv st = some r) := rfl
@[simp] theorem Fin_normal {f : Nat} {rv : List ResultVar} {r : D × List D} : Fin E f rv r .normal st = (finish (E.tb f) (E.md f) (E.fz f) rv st = some r) := rfl
theorem lim_run {f : Nat} {args : List D} {fn : Func} {c : Code} {r : D × List D} (hx : E.ext f = none) (hf : E.P.funcs[f]? = some fn) (hc : fn.body = some c) (hk : codeOk fn.ntmps c = true) (hn : (fn.name == "runtime.NumGoroutine") = false)
    (h : RC (E.at f) (Fin E f fn.results.toList r) c [] (initSt (E.md f) args)) : lim E f args = some r := by
  rw [lim_body hx hf hc hk hn]
  obtain ⟨x, h1, h2⟩ := h
  simp only [h1, Option.bind_some]
  exact h2
/-- The end of a call whose answer is only told to have a property. -/
def FinP (E : En) (f : Nat) (rv : List ResultVar) (P : D × List D → Prop) : Out → St → Prop := fun o st => ∃ r, P r ∧ atEnd (E.tb f) (E.md f) (E.fz f) rv (o, st) = some r
@[simp] theorem FinP_ret {f : Nat} {rv : List ResultVar} {P : D × List D → Prop} : FinP E f rv P .ret st = ∃ r, P r ∧ finish (E.tb f) (E.md f) (E.fz f) rv st = some r := rfl
@[simp] theorem FinP_normal {f : Nat} {rv : List ResultVar} {P : D × List D → Prop} : FinP E f rv P .normal st = ∃ r, P r ∧ finish (E.tb f) (E.md f) (E.fz f) rv st = some r := rfl
theorem lim_ex {f : Nat} {args : List D} {fn : Func} {c : Code} {P : D × List D → Prop} (hx : E.ext f = none) (hf : E.P.funcs[f]? = some fn) (hc : fn.body = some c) (hk : codeOk fn.ntmps c = true) (hn : (fn.name == "runtime.NumGoroutine") = false)
    (h : RC (E.at f) (FinP E f fn.results.toList P) c [] (initSt (E.md f) args)) : ∃ r, P r ∧ lim E f args = some r := by
  rw [lim_body hx hf hc hk hn]
  obtain ⟨x, h1, r, h2, h3⟩ := h
  refine ⟨r, h2, ?_⟩
  simp only [h1, Option.bind_some]
  exact h3
variable {f : Nat}
@[simp] theorem at_ty : (E.at f).T.ty = E.T.ty := rfl
@[simp] theorem at_off : (E.at f).T.off = E.T.off := rfl
@[simp] theorem at_zero : (E.at f).T.zero = E.T.zero := rfl
@[simp] theorem at_fl : (E.at f).T.fl = E.T.fl := rfl
@[simp] theorem at_kinds : (E.at f).T.kinds = E.T.kinds := rfl
@[simp] theorem at_mv : (E.at f).T.mv = E.mv f := rfl
@[simp] theorem at_md : (E.at f).md = E.md := rfl
@[simp] theorem at_lim : lim (E.at f) = lim E := lim_at E f
@[simp] theorem tb_ty : (E.tb f).ty = E.T.ty := rfl

/-- Round a loop, by a measure. -/
theorem loop_ind {c : Code} (I : Nat → St → Prop) (n : Nat) (st : St) (h0 : I n st) (hstep : ∀ m st, I m st → (∀ k st', k < m → I k st' → RC E Q (.loop c) ks st') → RC E Q c (.loop c :: ks) st) : RC E Q (.loop c) ks st := by
  induction n using Nat.strongRecOn generalizing st with
  | ind n ih =>
    rw [RC_loop]
    exact hstep n st h0 fun k st' hk hi => ih k hk st' hi

/-- What stays as it was, of the temporaries and of the roots. -/
def SameE (st st0 : St) : List Nat → Prop
  | [] => True
  | t :: l => st.env t = st0.env t ∧ SameE st st0 l
def SameR (st st0 : St) : List Rid → Prop
  | [] => True
  | r :: l => st.rs r = st0.rs r ∧ SameR st st0 l
@[simp] theorem SameE_nil {st st0 : St} : SameE st st0 [] = True := rfl
@[simp] theorem SameE_cons {st st0 : St} {t : Nat} {l : List Nat} : SameE st st0 (t :: l) = (st.env t = st0.env t ∧ SameE st st0 l) := rfl
@[simp] theorem SameR_nil {st st0 : St} : SameR st st0 [] = True := rfl
@[simp] theorem SameR_cons {st st0 : St} {r : Rid} {l : List Rid} : SameR st st0 (r :: l) = (st.rs r = st0.rs r ∧ SameR st st0 l) := rfl
theorem SameE_refl (st : St) : ∀ l, SameE st st l
  | [] => trivial
  | t :: l => ⟨rfl, SameE_refl st l⟩
theorem SameR_refl (st : St) : ∀ l, SameR st st l
  | [] => trivial
  | t :: l => ⟨rfl, SameR_refl st l⟩
/-- Round a loop, by a measure; some temporaries and roots stay as they were. -/
theorem loop_fr {c : Code} (U : List Nat) (V : List Rid) (I : Nat → St → Prop) (n : Nat) (st0 : St) (h0 : I n st0) (hstep : ∀ m st, SameE st st0 U → SameR st st0 V → I m st → (∀ k st', k < m → SameE st' st0 U → SameR st' st0 V → I k st' → RC E Q (.loop c) ks st') → RC E Q c (.loop c :: ks) st) : RC E Q (.loop c) ks st0 :=
  loop_ind (fun m st => SameE st st0 U ∧ SameR st st0 V ∧ I m st) n st0 ⟨SameE_refl st0 U, SameR_refl st0 V, h0⟩ fun m st ⟨h1, h2, h3⟩ ih => hstep m st h1 h2 h3 fun k st' hk h4 h5 h6 => ih k st' hk ⟨h4, h5, h6⟩
end
end Go.Lft

/- The data's own equations (a set for simp). -/
namespace Go.Lft.Set
section
variable {E : En} {T : Tb} {mv : Nat → Bool} {call : CallF} {md : Nat → List Nat} {st : St} {env : Nat → D} {rs : Rid → Option Root} {ty : Nat}
@[simp] theorem ev_tmp {t : Tmp} : St.ev T ⟨env, rs⟩ ty (.tmp t) = some (env t) := rfl
@[simp] theorem ev_int {k : IntKind} {n : Int} : St.ev T st ty (.const (.int k n)) = some (.int k n) := rfl
@[simp] theorem ev_bool {b : Bool} : St.ev T st ty (.const (.bool b)) = some (.bool b) := rfl
@[simp] theorem ev_str {s : ByteArray} : St.ev T st ty (.const (.string s)) = some (.str s.data.toList) := rfl
@[simp] theorem ev_nil : St.ev T st ty (.const (.slice none 0 0)) = match T.ty ty with | .slice te e _ => some (.lst true te e []) | _ => none := rfl
@[simp] theorem ev_nilIface : St.ev T st ty (.const .nilIface) = some (.ifc true) := rfl
@[simp] theorem ev_agg {cs : Array Value} : St.ev T st ty (.const (.agg cs)) = (T.zero ty).bind fun d => if (isAgg d && aggIs cs.toList d.leaves) = true then some d else none := rfl
@[simp] theorem ev_func {f : FuncId} : St.ev T st ty (.func f) = some (.fn f []) := rfl
@[simp] theorem ev_ptr : St.ev T st ty (.const (.pointer none)) = some .undef := rfl

@[simp] theorem strAt_str (t : Nat) (s : List UInt8) (k : IntKind) (n : Int) : strAt T t (.str s) (.int k n) = if 0 ≤ n ∧ isStr (T.ty t) = true then (s[n.toNat]?).map fun b => .int .u8 b.toNat else none := rfl
@[simp] theorem isStr_str : isStr .str = true := rfl
@[simp] theorem elemOf_slice {te e b : Nat} : elemOf? (.slice te e b) = some e := rfl
/-! ### States -/
@[simp] theorem app_some {d : Nat} {v : D} {us : List (Rid × Option Root)} {ks : List Kill} : St.app ⟨env, rs⟩ (some d) ⟨v, us, ks⟩ = ⟨upd (killAll ks env) d v, updAll us rs⟩ := rfl
@[simp] theorem app_none {v : D} {us : List (Rid × Option Root)} {ks : List Kill} : St.app ⟨env, rs⟩ none ⟨v, us, ks⟩ = ⟨killAll ks env, updAll us rs⟩ := rfl
@[simp] theorem app_pure {d : Nat} {v : D} : St.app ⟨env, rs⟩ (some d) (pureE v) = ⟨upd env d v, rs⟩ := rfl
@[simp] theorem killAll_nil : killAll [] env = env := rfl
@[simp] theorem updAll_nil : updAll [] rs = rs := rfl
@[simp] theorem updAll_cons {r : Rid} {x : Option Root} {us : List (Rid × Option Root)} : updAll ((r, x) :: us) rs = updAll us (upd rs r x) := rfl
@[simp] theorem putO_some {d : Nat} {v : D} : putO (some d) v env = upd env d v := rfl
@[simp] theorem putO_none {v : D} : putO none v env = env := rfl
@[simp] theorem upd_at {α β : Type} [DecidableEq α] (f : α → β) (k : α) (v : β) (i : α) : upd f k v i = if i = k then v else f i := rfl

/-! ### Operators on integers, strings -/
section
variable {k : IntKind} {a b : Int} {t : Nat} {x y : List UInt8}
@[simp] theorem bin_add : binEff T .add t (.int k a) (.int k b) = some (.int k (k.wrap (a + b))) := by simp [binEff, intBin]
@[simp] theorem bin_sub : binEff T .sub t (.int k a) (.int k b) = some (.int k (k.wrap (a - b))) := by simp [binEff, intBin]
@[simp] theorem bin_mul : binEff T .mul t (.int k a) (.int k b) = some (.int k (k.wrap (a * b))) := by simp [binEff, intBin]
@[simp] theorem bin_quo : binEff T .quo t (.int k a) (.int k b) = if b = 0 then none else some (.int k (k.wrap (a.tdiv b))) := by simp [binEff, intBin]
@[simp] theorem bin_rem : binEff T .rem t (.int k a) (.int k b) = if b = 0 then none else some (.int k (a.tmod b)) := by simp [binEff, intBin]
@[simp] theorem bin_eql : binEff T .eql t (.int k a) (.int k b) = some (.bool (decide (a = b))) := by simp [binEff, intBin]
@[simp] theorem bin_neq : binEff T .neq t (.int k a) (.int k b) = some (.bool (!decide (a = b))) := by simp [binEff, intBin]
@[simp] theorem bin_lss : binEff T .lss t (.int k a) (.int k b) = some (.bool (decide (a < b))) := by simp [binEff, intBin]
@[simp] theorem bin_leq : binEff T .leq t (.int k a) (.int k b) = some (.bool (decide (a ≤ b))) := by simp [binEff, intBin]
@[simp] theorem bin_gtr : binEff T .gtr t (.int k a) (.int k b) = some (.bool (decide (b < a))) := by simp [binEff, intBin]
@[simp] theorem bin_geq : binEff T .geq t (.int k a) (.int k b) = some (.bool (decide (b ≤ a))) := by simp [binEff, intBin]
@[simp] theorem bin_str {op : BinOp} : binEff T op t (.str x) (.str y) = strBin op x y := by cases op <;> rfl
@[simp] theorem str_eql : strBin .eql x y = some (.bool (decide (x = y))) := rfl
@[simp] theorem str_neq : strBin .neq x y = some (.bool (!decide (x = y))) := rfl
@[simp] theorem str_lss : strBin .lss x y = some (.bool (ltB x y)) := rfl
@[simp] theorem str_leq : strBin .leq x y = some (.bool (ltB x y || decide (x = y))) := rfl
@[simp] theorem str_gtr : strBin .gtr x y = some (.bool (!(ltB x y || decide (x = y)))) := rfl
@[simp] theorem str_geq : strBin .geq x y = some (.bool (!ltB x y)) := rfl
@[simp] theorem str_add : strBin .add x y = if x.length + y.length ≤ strMax then some (.str (x ++ y)) else none := rfl
@[simp] theorem un_not {b : Bool} : unEff .not (.bool b) = some (.bool (!b)) := rfl
@[simp] theorem un_neg : unEff .neg (.int k a) = some (.int k (k.wrap (0 - a))) := rfl
end

@[simp] theorem isIfc_int {k : IntKind} {a : Int} : isIfc (.int k a) = false := rfl
@[simp] theorem isIfc_bool {b : Bool} : isIfc (.bool b) = false := rfl
@[simp] theorem isIfc_str {s : List UInt8} : isIfc (.str s) = false := rfl
@[simp] theorem isIfc_agg {xs : List D} : isIfc (.agg xs) = false := rfl
@[simp] theorem isIfc_ifc {b : Bool} : isIfc (.ifc b) = true := rfl
@[simp] theorem isConst_const {v : Value} : Region.isConst (.const v) = true := rfl

/-! ### Places -/
@[simp] theorem load_ptr {r : Rid} {p : List Stp} : loadEff ⟨env, rs⟩ (.ptr r p) = (rs r).bind fun root => (root.c.get p).map fun d => D.expose r p d := rfl
@[simp] theorem load_pto {x : D} : loadEff st (.pto x) = some x := rfl
@[simp] theorem get_nil {d : D} : D.get d [] = some d := by cases d <;> rfl
@[simp] theorem get_fld {xs : List D} {i : Nat} {p : List Stp} : D.get (.agg xs) (.fld i :: p) = (xs[i]?).bind fun x => D.get x p := rfl
@[simp] theorem get_elm {te e : Nat} {xs : List D} {i : Nat} {p : List Stp} : D.get (.lst true te e xs) (.elm i :: p) = (xs[i]?).bind fun x => D.get x p := rfl
@[simp] theorem put_nil {d y : D} : D.put d [] y = some y := by cases d <;> rfl
@[simp] theorem put_fld {xs : List D} {i : Nat} {p : List Stp} {y : D} : D.put (.agg xs) (.fld i :: p) y = (xs[i]?).bind fun x => (D.put x p y).map fun z => .agg (xs.set i z) := rfl
@[simp] theorem put_elm {te e : Nat} {xs : List D} {i : Nat} {p : List Stp} {y : D} : D.put (.lst true te e xs) (.elm i :: p) y = (xs[i]?).bind fun x => (D.put x p y).map fun z => .lst true te e (xs.set i z) := rfl
@[simp] theorem fieldAddr_ptr {s f : Nat} {r : Rid} {p : List Stp} : fieldAddrEff T ⟨env, rs⟩ s f (.ptr r p) = (rs r).bind fun root => (root.c.get p).bind fun
      | .agg xs => if f < xs.length ∧ T.off s f = some (D.sizeL (xs.take f)) then some (.ptr r (p ++ [.fld f])) else none
      | _ => none := rfl
@[simp] theorem fieldAddr_pto {s f : Nat} {xs : List D} : fieldAddrEff T st s f (.pto (.agg xs)) = if T.off s f = some (D.sizeL (xs.take f)) then (xs[f]?).map .pto else none := rfl
@[simp] theorem field_agg {s f : Nat} {xs : List D} : fieldEff T s f (.agg xs) = (xs[f]?).bind fun d => if T.off s f = some (D.sizeL (xs.take f)) ∧ T.fl s f = some (isAgg d, D.size d) then some d else none := rfl
@[simp] theorem index_lst {t te e : Nat} {xs : List D} {k : IntKind} {n : Int} : indexEff T t st (.lst false te e xs) (.int k n) = if 0 ≤ n ∧ elemOf? (T.ty t) = some e then (xs[n.toNat]?).map .pto else none := rfl
@[simp] theorem index_slc {t : Nat} {r : Rid} {p : List Stp} {off len : Nat} {k : IntKind} {n : Int} : indexEff T t st (.slc r p off len) (.int k n) = if 0 ≤ n ∧ n < len then (st.row r p).bind fun x => if off + len ≤ x.2.2.length ∧ elemOf? (T.ty t) = some x.2.1 then
      (if x.1 = true then some (.ptr r (p ++ [.elm (off + n.toNat)])) else (x.2.2[off + n.toNat]?).map .pto) else none else none := rfl
@[simp] theorem len_str {t : Nat} {s : List UInt8} : lenEff T t (.str s) = if isStr (T.ty t) = true then some (.int .i64 s.length) else none := rfl
@[simp] theorem len_slc {t : Nat} {r : Rid} {p : List Stp} {off len : Nat} : lenEff T t (.slc r p off len) = if (elemOf? (T.ty t)).isSome = true then some (.int .i64 len) else none := rfl
@[simp] theorem len_lst {t te e : Nat} {xs : List D} : lenEff T t (.lst false te e xs) = if (elemOf? (T.ty t)).isSome = true then some (.int .i64 xs.length) else none := rfl
@[simp] theorem len_nil {t te e : Nat} : lenEff T t (.lst true te e []) = if (elemOf? (T.ty t)).isSome = true then some (.int .i64 0) else none := rfl

@[simp] theorem expose_int {r : Rid} {p : List Stp} {k : IntKind} {n : Int} : D.expose r p (.int k n) = .int k n := by simp [D.expose]
@[simp] theorem expose_bool {r : Rid} {p : List Stp} {b : Bool} : D.expose r p (.bool b) = .bool b := by simp [D.expose]
@[simp] theorem expose_str {r : Rid} {p : List Stp} {s : List UInt8} : D.expose r p (.str s) = .str s := by simp [D.expose]
@[simp] theorem expose_agg {r : Rid} {p : List Stp} {xs : List D} : D.expose r p (.agg xs) = .agg (D.exposeL r p 0 xs) := by simp [D.expose]
@[simp] theorem expose_own {r : Rid} {p : List Stp} {te e : Nat} {xs : List D} : D.expose r p (.lst true te e xs) = .slc r p 0 xs.length := by simp [D.expose]
@[simp] theorem expose_cold {r : Rid} {p : List Stp} {te e : Nat} {xs : List D} : D.expose r p (.lst false te e xs) = .lst false te e xs := by simp [D.expose]
@[simp] theorem exposeL_nil {r : Rid} {p : List Stp} {i : Nat} : D.exposeL r p i [] = [] := by simp [D.exposeL]
@[simp] theorem exposeL_cons {r : Rid} {p : List Stp} {i : Nat} {x : D} {xs : List D} : D.exposeL r p i (x :: xs) = D.expose r (p ++ [.fld i]) x :: D.exposeL r p (i + 1) xs := by simp [D.exposeL]

@[simp] theorem size_int {k : IntKind} {n : Int} : D.size (.int k n) = 1 := by simp [D.size]
@[simp] theorem size_bool {b : Bool} : D.size (.bool b) = 1 := by simp [D.size]
@[simp] theorem size_str {s : List UInt8} : D.size (.str s) = 1 := by simp [D.size]
@[simp] theorem size_lst {o : Bool} {te e : Nat} {xs : List D} : D.size (.lst o te e xs) = 1 := by simp [D.size]
@[simp] theorem size_slc {r : Rid} {p : List Stp} {off len : Nat} : D.size (.slc r p off len) = 1 := by simp [D.size]
@[simp] theorem size_ptr {r : Rid} {p : List Stp} : D.size (.ptr r p) = 1 := by simp [D.size]
@[simp] theorem size_agg {xs : List D} : D.size (.agg xs) = D.sizeL xs := by simp [D.size]
@[simp] theorem sizeL_nil : D.sizeL [] = 0 := by simp [D.sizeL]
@[simp] theorem sizeL_cons {x : D} {xs : List D} : D.sizeL (x :: xs) = D.size x + D.sizeL xs := by simp [D.sizeL]
@[simp] theorem isAgg_agg {xs : List D} : isAgg (.agg xs) = true := rfl
@[simp] theorem isAgg_int {k : IntKind} {n : Int} : isAgg (.int k n) = false := rfl
@[simp] theorem isAgg_bool {b : Bool} : isAgg (.bool b) = false := rfl
@[simp] theorem isAgg_str {s : List UInt8} : isAgg (.str s) = false := rfl
@[simp] theorem isAgg_lst {o : Bool} {te e : Nat} {xs : List D} : isAgg (.lst o te e xs) = false := rfl
@[simp] theorem isAgg_slc {r : Rid} {p : List Stp} {off len : Nat} : isAgg (.slc r p off len) = false := rfl
@[simp] theorem lay_int {k : IntKind} : layOf (.int k) = (false, 1) := rfl
@[simp] theorem lay_bool : layOf .bool = (false, 1) := rfl
@[simp] theorem lay_str : layOf .str = (false, 1) := rfl
@[simp] theorem lay_slice {te e b : Nat} : layOf (.slice te e b) = (false, 1) := rfl
@[simp] theorem lay_strct {n : Nat} {f : Bool} : layOf (.strct n f) = (true, n) := rfl



/-! ### More -/
@[simp] theorem fitsO_def {t : Ty} {v : D} : fitsO t v = if layOf t = (isAgg v, D.size v) then some v else none := by simp [fitsO, fitsTy]
@[simp] theorem loadW_pto {t : Nat} {x : D} : loadW T st t (.pto x) = fitsO (T.ty t) x := rfl
@[simp] theorem loadW_ptr {t : Nat} {r : Rid} {p : List Stp} : loadW T ⟨env, rs⟩ t (.ptr r p) = (loadEff ⟨env, rs⟩ (.ptr r p)).bind (fitsO (T.ty t)) := rfl
@[simp] theorem nilV_ptr {r : Rid} {p : List Stp} : nilV (.ptr r p) = some (.ptr r p) := rfl
@[simp] theorem nilV_pto {x : D} : nilV (.pto x) = some (.pto x) := rfl
@[simp] theorem binW_true {op : BinOp} {t : Nat} {x y : D} : binW T op t true x y = binEff T op t x y := by simp [binW]
@[simp] theorem binW_int {op : BinOp} {t : Nat} {c : Bool} {x : D} {k : IntKind} {n : Int} : binW T op t c x (.int k n) = binEff T op t x (.int k n) := by simp [binW, isIfc]
@[simp] theorem binW_str {op : BinOp} {t : Nat} {c : Bool} {x : D} {n : List UInt8} : binW T op t c x (.str n) = binEff T op t x (.str n) := by simp [binW, isIfc]
@[simp] theorem binW_bool {op : BinOp} {t : Nat} {c : Bool} {x : D} {n : Bool} : binW T op t c x (.bool n) = binEff T op t x (.bool n) := by simp [binW, isIfc]
@[simp] theorem binW_agg {op : BinOp} {t : Nat} {c : Bool} {x : D} {n : List D} : binW T op t c x (.agg n) = binEff T op t x (.agg n) := by simp [binW, isIfc]
@[simp] theorem bin_beql {t : Nat} {a b : Bool} : binEff T .eql t (.bool a) (.bool b) = match T.ty t with | .bool => some (.bool (decide (a = b))) | _ => none := rfl
@[simp] theorem bin_bneq {t : Nat} {a b : Bool} : binEff T .neq t (.bool a) (.bool b) = match T.ty t with | .bool => some (.bool (!decide (a = b))) | _ => none := rfl
@[simp] theorem bin_ieql {t : Nat} {a : Bool} : binEff T .eql t (.ifc a) (.ifc true) = match T.ty t with | .iface => some (.bool a) | _ => none := rfl
@[simp] theorem bin_ineq {t : Nat} {a : Bool} : binEff T .neq t (.ifc a) (.ifc true) = match T.ty t with | .iface => some (.bool (!a)) | _ => none := rfl
@[simp] theorem bin_aeql {t : Nat} {xs ys : List D} : binEff T .eql t (.agg xs) (.agg ys) = match T.ty t with | .strct n true => if xs.map kOf = T.kinds t then (D.sameL xs ys).map .bool else none | _ => none := rfl
@[simp] theorem bin_aneq {t : Nat} {xs ys : List D} : binEff T .neq t (.agg xs) (.agg ys) = match T.ty t with | .strct n true => if xs.map kOf = T.kinds t then (D.sameL xs ys).map fun b => .bool (!b) else none | _ => none := rfl
@[simp] theorem kOf_int {k : IntKind} {n : Int} : kOf (.int k n) = 0 := rfl
@[simp] theorem kOf_str {s : List UInt8} : kOf (.str s) = 1 := rfl
@[simp] theorem kOf_bool {b : Bool} : kOf (.bool b) = 2 := rfl
@[simp] theorem same_int {k : IntKind} {a b : Int} : D.same (.int k a) (.int k b) = some (decide (a = b)) := by simp [D.same]
@[simp] theorem same_str {a b : List UInt8} : D.same (.str a) (.str b) = some (decide (a = b)) := by simp [D.same]
@[simp] theorem same_bool {a b : Bool} : D.same (.bool a) (.bool b) = some (decide (a = b)) := by simp [D.same]
@[simp] theorem sameL_nil : D.sameL [] [] = some true := by simp [D.sameL]
@[simp] theorem sameL_cons {x y : D} {xs ys : List D} : D.sameL (x :: xs) (y :: ys) = (D.same x y).bind fun b => (D.sameL xs ys).map fun c => b && c := by simp [D.sameL]
def bAnd (k : IntKind) (a b : Int) : Int := k.wrap (BitVec.ofInt k.bits a &&& BitVec.ofInt k.bits b).toNat
def bOr (k : IntKind) (a b : Int) : Int := k.wrap (BitVec.ofInt k.bits a ||| BitVec.ofInt k.bits b).toNat
def bXor (k : IntKind) (a b : Int) : Int := k.wrap (BitVec.ofInt k.bits a ^^^ BitVec.ofInt k.bits b).toNat
def bAndNot (k : IntKind) (a b : Int) : Int := k.wrap (BitVec.ofInt k.bits a &&& ~~~BitVec.ofInt k.bits b).toNat
@[simp] theorem and_int {k : IntKind} {a b : Int} {t : Nat} : binEff T .and t (.int k a) (.int k b) = some (.int k (bAnd k a b)) := by simp [binEff, intBin, bAnd]
@[simp] theorem or_int {k : IntKind} {a b : Int} {t : Nat} : binEff T .or t (.int k a) (.int k b) = some (.int k (bOr k a b)) := by simp [binEff, intBin, bOr]
@[simp] theorem xor_int {k : IntKind} {a b : Int} {t : Nat} : binEff T .xor t (.int k a) (.int k b) = some (.int k (bXor k a b)) := by simp [binEff, intBin, bXor]
@[simp] theorem andNot_int {k : IntKind} {a b : Int} {t : Nat} : binEff T .andNot t (.int k a) (.int k b) = some (.int k (bAndNot k a b)) := by simp [binEff, intBin, bAndNot]
@[simp] theorem shl_int {k k' : IntKind} {a b : Int} {t : Nat} : binEff T .shl t (.int k a) (.int k' b) = if b < 0 then none else some (.int k (k.wrap (a * 2 ^ (min b.toNat k.bits)))) := rfl
@[simp] theorem shr_int {k k' : IntKind} {a b : Int} {t : Nat} : binEff T .shr t (.int k a) (.int k' b) = if b < 0 then none else some (.int k (a.fdiv (2 ^ (min b.toNat k.bits)))) := rfl

@[simp] theorem evO_none {h : Nat} : evO T st h none = some none := rfl
@[simp] theorem evO_some {h : Nat} {x : Operand} : evO T st h (some x) = (st.ev T h x).map some := rfl
@[simp] theorem loOf_none : loOf none = some 0 := rfl
@[simp] theorem loOf_some {d : D} : loOf (some d) = nat? d := rfl
@[simp] theorem hiOf_none {n : Nat} : hiOf n none = some n := rfl
@[simp] theorem hiOf_some {n : Nat} {d : D} : hiOf n (some d) = nat? d := rfl
@[simp] theorem nat?_int {n : Int} : nat? (.int .i64 n) = if 0 ≤ n then some n.toNat else none := rfl
@[simp] theorem int?_int {n : Int} : int? (.int .i64 n) = some n := rfl
@[simp] theorem sliceEff_str {t : Nat} {s : List UInt8} {lo hi : Option D} : sliceEff T t st (.str s) lo hi = (loOf lo).bind fun l => (hiOf s.length hi).bind fun h => if l ≤ h ∧ h ≤ s.length ∧ isStr (T.ty t) = true then some (.str ((s.drop l).take (h - l))) else none := rfl
@[simp] theorem sliceEff_slc {t : Nat} {r : Rid} {p : List Stp} {off len : Nat} {lo hi : Option D} : sliceEff T t st (.slc r p off len) lo hi = (st.row r p).bind fun x => (loOf lo).bind fun l => (hiOf len hi).bind fun h => if l ≤ h ∧ h ≤ len ∧ elemOf? (T.ty t) = some x.2.1 then some (.slc r p (off + l) (h - l)) else none := rfl
@[simp] theorem sliceEff_lst {t te e : Nat} {xs : List D} {lo hi : Option D} : sliceEff T t st (.lst false te e xs) lo hi = (loOf lo).bind fun l => (hiOf xs.length hi).bind fun h => if l ≤ h ∧ h ≤ xs.length ∧ elemOf? (T.ty t) = some e then some (.lst false te e ((xs.drop l).take (h - l))) else none := rfl
def rowOf? : D → Option (Bool × Nat × List D)
  | .lst own _ e xs => some (own, e, xs)
  | _ => none
@[simp] theorem rowOf_lst {o : Bool} {te e : Nat} {xs : List D} : rowOf? (.lst o te e xs) = some (o, e, xs) := rfl
@[simp] theorem row_def {r : Rid} {p : List Stp} : St.row ⟨env, rs⟩ r p = (rs r).bind fun root => (root.c.get p).bind rowOf? := rfl

@[simp] theorem take_int {k : IntKind} {n : Int} : take mv rs (.int k n) = some ⟨.int k n, [], []⟩ := by simp [take]
@[simp] theorem take_bool {b : Bool} : take mv rs (.bool b) = some ⟨.bool b, [], []⟩ := by simp [take]
@[simp] theorem take_str {s : List UInt8} : take mv rs (.str s) = some ⟨.str s, [], []⟩ := by simp [take]
@[simp] theorem take_lst {o : Bool} {te e : Nat} {xs : List D} : take mv rs (.lst o te e xs) = some ⟨.lst o te e xs, [], []⟩ := by simp [take]
@[simp] theorem take_ifc {b : Bool} : take mv rs (.ifc b) = some ⟨.ifc b, [], []⟩ := by simp [take]
@[simp] theorem take_agg {xs : List D} : take mv rs (.agg xs) = (takeL mv rs xs).map fun x => ⟨.agg x.1, x.2.1, x.2.2⟩ := by simp [take]
@[simp] theorem takeL_nil : takeL mv rs [] = some ([], [], []) := by simp [takeL]
@[simp] theorem takeL_cons {x : D} {xs : List D} : takeL mv rs (x :: xs) = (take mv rs x).bind fun t => (takeL mv (updAll t.upd rs) xs).map fun s => (t.d :: s.1, t.upd ++ s.2.1, t.kill ++ s.2.2) := by simp [takeL]
def takeS (mv : Nat → Bool) (r : Rid) (p : List Stp) (off len : Nat) (root : Root) : D → Option Taken
  | .lst own te e xs =>
        if off + len ≤ xs.length then
          if own = true then
            if p = [] ∧ root.box = false ∧ off = 0 then some ⟨.lst true te e (xs.take len), [(r, none)], [⟨r, [], true, true⟩]⟩
            else if mv r.1 = true ∧ off = 0 ∧ len = xs.length then (root.c.put p .undef).map fun c' => ⟨.lst true te e xs, [(r, some { root with c := c' })], [⟨r, p, false, true⟩]⟩
            else (root.c.put p (.lst false te e (D.freezeL xs))).map fun c' => ⟨.lst false te e (D.freezeL ((xs.drop off).take len)), [(r, some { root with c := c' })], [⟨r, p, false, false⟩]⟩
          else some ⟨.lst false te e ((xs.drop off).take len), [], []⟩
        else none
  | _ => none
@[simp] theorem takeS_lst {r : Rid} {p : List Stp} {off len : Nat} {root : Root} {own : Bool} {te e : Nat} {xs : List D} : takeS mv r p off len root (.lst own te e xs) = if off + len ≤ xs.length then
          if own = true then
            if p = [] ∧ root.box = false ∧ off = 0 then some ⟨.lst true te e (xs.take len), [(r, none)], [⟨r, [], true, true⟩]⟩
            else if mv r.1 = true ∧ off = 0 ∧ len = xs.length then (root.c.put p .undef).map fun c' => ⟨.lst true te e xs, [(r, some { root with c := c' })], [⟨r, p, false, true⟩]⟩
            else (root.c.put p (.lst false te e (D.freezeL xs))).map fun c' => ⟨.lst false te e (D.freezeL ((xs.drop off).take len)), [(r, some { root with c := c' })], [⟨r, p, false, false⟩]⟩
          else some ⟨.lst false te e ((xs.drop off).take len), [], []⟩
        else none := rfl
@[simp] theorem take_slc {r : Rid} {p : List Stp} {off len : Nat} : take mv rs (.slc r p off len) = (rs r).bind fun root => (root.c.get p).bind (takeS mv r p off len root) := by
  simp only [take]
  cases rs r with
  | none => rfl
  | some root =>
    simp only [Option.bind_some]
    cases root.c.get p with
    | none => rfl
    | some d => cases d <;> rfl
@[simp] theorem boxW_def {t d : Nat} {x : D} : boxW T rs t d x = (take T.mv rs x).bind fun k => if D.size k.d = (layOf (T.ty t)).2 then some ⟨.ptr (d, 0) [], k.upd ++ [((d, 0), some ⟨true, k.d⟩)], k.kill ++ [⟨(d, 0), [], true, true⟩]⟩ else none := rfl
@[simp] theorem newVar_def {t : Nat} {c : D} : newVar t c = ⟨.ptr (t, 0) [], [((t, 0), some ⟨true, c⟩)], [⟨(t, 0), [], true, true⟩]⟩ := rfl
@[simp] theorem newRow_def {t te e : Nat} {xs : List D} : newRow t te e xs = ⟨.slc (t, 0) [] 0 xs.length, [((t, 0), some ⟨false, .lst true te e xs⟩)], [⟨(t, 0), [], true, true⟩]⟩ := rfl

/-! ### Storing -/
def putIn (r : Rid) (root : Root) (c : Option D) (us : List (Rid × Option Root)) (ks : List Kill) : Option Eff := c.map fun c' => ⟨.undef, us ++ [(r, some { root with c := c' })], ks⟩
@[simp] theorem putIn_some {r : Rid} {root : Root} {c : D} {us : List (Rid × Option Root)} {ks : List Kill} : putIn r root (some c) us ks = some ⟨.undef, us ++ [(r, some { root with c := c })], ks⟩ := rfl
@[simp] theorem store_int {t : Nat} {r : Rid} {p : List Stp} {k : IntKind} {n : Int} : storeEff T st t (.ptr r p) (.int k n) = (st.rs r).bind fun root => (root.c.get p).bind fun old => if isScalar old = true ∧ fitsTy (T.ty t) .undef = true then (root.c.put p (.int k n)).map fun c' => ⟨.undef, [(r, some { root with c := c' })], []⟩ else none := rfl
@[simp] theorem store_bool {t : Nat} {r : Rid} {p : List Stp} {b : Bool} : storeEff T st t (.ptr r p) (.bool b) = (st.rs r).bind fun root => (root.c.get p).bind fun old => if isScalar old = true ∧ fitsTy (T.ty t) .undef = true then (root.c.put p (.bool b)).map fun c' => ⟨.undef, [(r, some { root with c := c' })], []⟩ else none := rfl
@[simp] theorem store_str {t : Nat} {r : Rid} {p : List Stp} {s : List UInt8} : storeEff T st t (.ptr r p) (.str s) = (st.rs r).bind fun root => (root.c.get p).bind fun old => if isScalar old = true ∧ fitsTy (T.ty t) .undef = true then (root.c.put p (.str s)).map fun c' => ⟨.undef, [(r, some { root with c := c' })], []⟩ else none := rfl
@[simp] theorem store_lst {t : Nat} {r : Rid} {p : List Stp} {o : Bool} {te e : Nat} {xs : List D} : storeEff T st t (.ptr r p) (.lst o te e xs) = (st.rs r).bind fun root => (root.c.get p).bind fun old => if D.size old = 1 ∧ isAgg old = false ∧ fitsTy (T.ty t) .undef = true then (root.c.put p (.lst o te e xs)).map fun c' => ⟨.undef, [(r, some { root with c := c' })], [⟨r, p, false, true⟩]⟩ else none := rfl
@[simp] theorem store_agg {t : Nat} {r : Rid} {p : List Stp} {xs : List D} : storeEff T st t (.ptr r p) (.agg xs) = (take T.mv st.rs (.agg xs)).bind fun k =>
        (updAll k.upd st.rs r).bind fun root => (root.c.get p).bind fun old =>
          if fitsTy (T.ty t) k.d = true ∧ D.size old = D.size k.d ∧ isAgg old = true then (root.c.put p k.d).map fun c' => ⟨.undef, k.upd ++ [(r, some { root with c := c' })], k.kill ++ [⟨r, p, false, true⟩]⟩ else none := rfl
def storeS (fits : Bool) (r : Rid) (p : List Stp) (off len : Nat) (root : Root) : D → Option Eff
  | .lst own te' e' xs => if off = 0 ∧ len ≤ xs.length ∧ fits = true then (root.c.put p (.lst own te' e' (xs.take len))).map fun c' => ⟨.undef, [(r, some { root with c := c' })], [⟨r, p, false, true⟩]⟩ else none
  | _ => none
@[simp] theorem storeS_lst {f : Bool} {r : Rid} {p : List Stp} {off len : Nat} {root : Root} {own : Bool} {te e : Nat} {xs : List D} : storeS f r p off len root (.lst own te e xs) = if off = 0 ∧ len ≤ xs.length ∧ f = true then (root.c.put p (.lst own te e (xs.take len))).map fun c' => ⟨.undef, [(r, some { root with c := c' })], [⟨r, p, false, true⟩]⟩ else none := rfl
@[simp] theorem store_slc {t : Nat} {r r' : Rid} {p p' : List Stp} {off len : Nat} : storeEff T st t (.ptr r p) (.slc r' p' off len) = if r' = r ∧ p' = p ∧ off = 0 then (st.rs r).bind fun root => (root.c.get p).bind (storeS (fitsTy (T.ty t) .undef) r p off len root) else (take T.mv st.rs (.slc r' p' off len)).bind fun k =>
          (updAll k.upd st.rs r).bind fun root => (root.c.get p).bind fun old =>
            if D.size old = 1 ∧ isAgg old = false ∧ fitsTy (T.ty t) .undef = true then (root.c.put p k.d).map fun c' => ⟨.undef, k.upd ++ [(r, some { root with c := c' })], k.kill ++ [⟨r, p, false, true⟩]⟩ else none := by
  simp only [storeEff]
  by_cases h : r' = r ∧ p' = p ∧ off = 0
  · rw [if_pos h, if_pos h]
    cases st.rs r with
    | none => rfl
    | some root =>
      simp only [Option.bind_some]
      cases root.c.get p with
      | none => rfl
      | some d => cases d <;> rfl
  · simp only [h, if_false]
@[simp] theorem fits_def {t : Ty} {d : D} : fitsTy t d = decide (layOf t = (isAgg d, D.size d)) := rfl
@[simp] theorem size_undef : D.size .undef = 1 := by simp [D.size]
@[simp] theorem isAgg_undef : isAgg .undef = false := rfl
@[simp] theorem isScalar_int {k : IntKind} {n : Int} : isScalar (.int k n) = true := rfl
@[simp] theorem isScalar_bool {b : Bool} : isScalar (.bool b) = true := rfl
@[simp] theorem isScalar_str {s : List UInt8} : isScalar (.str s) = true := rfl

/-! ### Making -/
@[simp] theorem makeW_def {d t : Nat} {n c : Int} : makeW T d t (.int .i64 n) (.int .i64 c) = match T.ty t with | .slice te e bytes => (T.zero te).bind fun z => if 0 ≤ n ∧ n ≤ c ∧ c * bytes ≤ 140737488351232 ∧ c ≤ 140737488351232 then some (newRow d te e (List.replicate n.toNat z)) else none | _ => none := by
  unfold makeW
  cases T.ty t <;> simp [roomMax]
@[simp] theorem buildW_def {d t n : Nat} {parts : List (Nat × Operand)} : buildW T d t n st parts = match T.ty t with
  | .slice te e _ => (T.zero te).bind fun z => if n * e ≤ 16777216 then (fillL T st (List.replicate n z) [] [] parts).map fun y => ⟨.slc (d, 0) [] 0 y.1.length, y.2.1 ++ [((d, 0), some ⟨false, .lst true te e y.1⟩)], y.2.2 ++ [⟨(d, 0), [], true, true⟩]⟩ else none
  | _ => none := rfl
@[simp] theorem fillL_nil {xs : List D} {us : List (Rid × Option Root)} {ks : List Kill} : fillL T st xs us ks [] = some (xs, us, ks) := rfl
@[simp] theorem fillL_cons {xs : List D} {us : List (Rid × Option Root)} {ks : List Kill} {i : Nat} {x : Operand} {l : List (Nat × Operand)} : fillL T st xs us ks ((i, x) :: l) = (xs[i]?).bind fun old => (evPart T st old x).bind fun d => (take T.mv (updAll us st.rs) d).bind fun k =>
      if D.size k.d = D.size old ∧ isAgg k.d = isAgg old then fillL T st (xs.set i k.d) (us ++ k.upd) (ks ++ k.kill) l else none := rfl
@[simp] theorem fillS_nil {t : Nat} {xs : List D} : fillS T st t xs [] = some xs := rfl
@[simp] theorem fillS_cons {t : Nat} {xs : List D} {i : Nat} {x : Operand} {l : List (Nat × Operand)} : fillS T st t xs ((i, x) :: l) = (xs[i]?).bind fun old => (evPart T st old x).bind fun d =>
      if isPlain d = true ∧ D.size d = D.size old ∧ isAgg d = isAgg old ∧ T.off t i = some (D.sizeL (xs.take i)) ∧ T.fl t i = some (isAgg old, D.size old) then fillS T st t (xs.set i d) l else none := rfl
@[simp] theorem evPart_tmp {old : D} {t : Tmp} : evPart T ⟨env, rs⟩ old (.tmp t) = some (env t) := rfl
theorem evPart_const {v : Value} {old : D} : evPart T st old (.const v) = if constAs v old = true then some old else ofConst T 0 v := rfl
@[simp] theorem evPart_int {k k' : IntKind} {n m : Int} : evPart T st (.int k' m) (.const (.int k n)) = some (.int k n) := by
  rw [evPart_const]
  by_cases h : constAs (.int k n) (.int k' m) = true
  · rw [if_pos h]
    have : k = k' ∧ n = m := of_decide_eq_true h
    rw [this.1, this.2]
  · rw [if_neg h]; rfl
@[simp] theorem evPart_str {s : ByteArray} {x : List UInt8} : evPart T st (.str x) (.const (.string s)) = some (.str s.data.toList) := by
  rw [evPart_const]
  by_cases h : constAs (.string s) (.str x) = true
  · rw [if_pos h]
    have : s.data.toList = x := of_decide_eq_true h
    rw [this]
  · rw [if_neg h]; rfl
@[simp] theorem evPart_bool {a b : Bool} : evPart T st (.bool b) (.const (.bool a)) = some (.bool a) := by
  rw [evPart_const]
  by_cases h : constAs (.bool a) (.bool b) = true
  · rw [if_pos h]
    have : (a == b) = true := h
    rw [beq_iff_eq.1 this]
  · rw [if_neg h]; rfl
@[simp] theorem evPart_nil {te e : Nat} : evPart T st (.lst true te e []) (.const (.slice none 0 0)) = some (.lst true te e []) := rfl
@[simp] theorem isPlain_int {k : IntKind} {n : Int} : isPlain (.int k n) = true := rfl
@[simp] theorem isPlain_bool {b : Bool} : isPlain (.bool b) = true := rfl
@[simp] theorem isPlain_str {s : List UInt8} : isPlain (.str s) = true := rfl
@[simp] theorem isPlain_lst {o : Bool} {te e : Nat} {xs : List D} : isPlain (.lst o te e xs) = true := rfl
@[simp] theorem isPlain_slc {r : Rid} {p : List Stp} {off len : Nat} : isPlain (.slc r p off len) = true := rfl
@[simp] theorem isPlain_agg {xs : List D} : isPlain (.agg xs) = true := rfl
@[simp] theorem items_agg {xs : List D} : D.items (.agg xs) = some xs := rfl
@[simp] theorem convW_ii {d : Nat} {k k' k2 : IntKind} {n : Int} : convW T d st (.int k) (.int k') (.int k2 n) = some (pureE (.int k' (k'.wrap n))) := rfl
@[simp] theorem convW_ss {d : Nat} {s : List UInt8} : convW T d st .str .str (.str s) = some (pureE (.str s)) := rfl
@[simp] theorem convW_sb {d te e b : Nat} {s : List UInt8} : convW T d st .str (.slice te e b) (.str s) = match T.ty te with | .int .u8 => if e = 1 ∧ s.length ≤ 140737488351232 then some (newRow d (te + 1000000) e (ofBytes s)) else none | _ => none := rfl
@[simp] theorem convW_bs {d te e b : Nat} {v : D} : convW T d st (.slice te e b) .str v = match T.ty te with | .int .u8 => (st.items v).bind fun xs => (bytesOf xs).map fun s => pureE (.str s) | _ => none := rfl
def itemsS (off len : Nat) (x : Bool × Nat × List D) : Option (List D) := if off + len ≤ x.2.2.length then some ((x.2.2.drop off).take len) else none
@[simp] theorem itemsS_def {off len : Nat} {o : Bool} {e : Nat} {xs : List D} : itemsS off len (o, e, xs) = if off + len ≤ xs.length then some ((xs.drop off).take len) else none := rfl
@[simp] theorem items_slc {r : Rid} {p : List Stp} {off len : Nat} : St.items st (.slc r p off len) = (st.row r p).bind (itemsS off len) := rfl
@[simp] theorem items_lst {te e : Nat} {xs : List D} : St.items st (.lst false te e xs) = some xs := rfl
@[simp] theorem items_nil {te e : Nat} : St.items st (.lst true te e []) = some [] := rfl

/-! ### Appending -/
def srcS (root : Root) (r : Rid) (p : List Stp) (off len : Nat) (r0 : Option Rid) : D → Option Src
  | .lst own te e xs =>
        if off + len ≤ xs.length then
          if own = true ∧ p = [] ∧ root.box = false ∧ off = 0 ∧ len = xs.length ∧ r0 ≠ some r then some ⟨e, xs, [(r, none)], [⟨r, [], true, true⟩]⟩
          else if own = true ∧ e = 1 ∧ xs.all isScalar = true then some ⟨e, (xs.drop off).take len, [], []⟩
          else if own = true then
            (root.c.put p (.lst true te e (D.freezeL xs))).map fun c' => ⟨e, D.freezeL ((xs.drop off).take len), [(r, some { root with c := c' })], [⟨r, p, false, false⟩]⟩
          else some ⟨e, (xs.drop off).take len, [], []⟩
        else none
  | _ => none
@[simp] theorem srcS_lst {root : Root} {r : Rid} {p : List Stp} {off len : Nat} {r0 : Option Rid} {own : Bool} {te e : Nat} {xs : List D} : srcS root r p off len r0 (.lst own te e xs) =
        if off + len ≤ xs.length then
          if own = true ∧ p = [] ∧ root.box = false ∧ off = 0 ∧ len = xs.length ∧ r0 ≠ some r then some ⟨e, xs, [(r, none)], [⟨r, [], true, true⟩]⟩
          else if own = true ∧ e = 1 ∧ xs.all isScalar = true then some ⟨e, (xs.drop off).take len, [], []⟩
          else if own = true then
            (root.c.put p (.lst true te e (D.freezeL xs))).map fun c' => ⟨e, D.freezeL ((xs.drop off).take len), [(r, some { root with c := c' })], [⟨r, p, false, false⟩]⟩
          else some ⟨e, (xs.drop off).take len, [], []⟩
        else none := rfl
@[simp] theorem src_slc {r : Rid} {p : List Stp} {off len : Nat} {r0 : Option Rid} : appendSrc ⟨env, rs⟩ r0 (.slc r p off len) = (rs r).bind fun root => (root.c.get p).bind (srcS root r p off len r0) := by
  simp only [appendSrc]
  cases rs r with
  | none => rfl
  | some root =>
    simp only [Option.bind_some]
    cases root.c.get p with
    | none => rfl
    | some d => cases d <;> rfl
@[simp] theorem src_lst {te e : Nat} {xs : List D} {r0 : Option Rid} : appendSrc st r0 (.lst false te e xs) = some ⟨e, xs, [], []⟩ := rfl
@[simp] theorem src_nil {te e : Nat} {r0 : Option Rid} : appendSrc st r0 (.lst true te e []) = some ⟨e, [], [], []⟩ := rfl
@[simp] theorem src_str {s : List UInt8} {r0 : Option Rid} : appendSrc st r0 (.str s) = some ⟨1, ofBytes s, [], []⟩ := rfl
@[simp] theorem isScalar_lst {o : Bool} {te e : Nat} {xs : List D} : isScalar (.lst o te e xs) = false := rfl
@[simp] theorem isScalar_agg {xs : List D} : isScalar (.agg xs) = false := rfl
@[simp] theorem isScalar_ints {xs : List Int} {k : IntKind} : isScalar ∘ (D.int k) = fun _ => true := rfl
@[simp] theorem isScalar_strs : isScalar ∘ D.str = fun _ => true := rfl
@[simp] theorem isScalar_bools : isScalar ∘ D.bool = fun _ => true := rfl
@[simp] theorem isScalar_bytes {s : List UInt8} : (ofBytes s).all isScalar = true := by simp [ofBytes, List.all_map]
@[simp] theorem rootOf_slc {r : Rid} {p : List Stp} {off len : Nat} : rootOf (.slc r p off len) = some r := rfl
@[simp] theorem rootOf_lst {o : Bool} {te e : Nat} {xs : List D} : rootOf (.lst o te e xs) = none := rfl
@[simp] theorem appendW_def {t t0 t1 : Nat} {s x : D} : appendW T t t0 t1 st s x = if (isStr (T.ty t1) || (elemOf? (T.ty t1)).isSome) = true then appendEff T t t0 st s x else none := rfl
@[simp] theorem append_nil {t ty te0 e0 : Nat} {x : D} : appendEff T t ty st (.lst true te0 e0 []) x = match T.ty ty with
  | .slice te e bytes => (appendSrc st none x).bind fun y => if y.e = e then (if y.xs.length * bytes ≤ 140737488351232 then some ⟨(newRow t te e y.xs).val, y.upd ++ (newRow t te e y.xs).upd, y.kill ++ (newRow t te e y.xs).kill⟩ else none) else none
  | _ => none := rfl
def appR (t te e bytes : Nat) (r : Rid) (p : List Stp) (off len : Nat) (y : Src) (root : Root) : D → Option Eff
  | .lst true te' e' xs =>
              if te' = te ∧ e' = e then
                if off = 0 ∧ len = xs.length then
                  if (len + y.xs.length) * bytes ≤ 140737488351232 then
                    (if p = [] ∧ root.box = false then some (none : Option Root) else (root.c.put p .undef).map fun c' => some { root with c := c' }).bind fun root' =>
                      some ⟨(newRow t te e (xs ++ y.xs)).val, y.upd ++ [(r, root')] ++ (newRow t te e (xs ++ y.xs)).upd, y.kill ++ [⟨r, p, false, true⟩] ++ (newRow t te e (xs ++ y.xs)).kill⟩
                  else none
                else if off + len + y.xs.length ≤ xs.length then
                  (root.c.put p (.lst true te e (xs.take (off + len) ++ y.xs ++ xs.drop (off + len + y.xs.length)))).map fun c' =>
                    ⟨.slc r p off (len + y.xs.length), y.upd ++ [(r, some { root with c := c' })], y.kill ++ [⟨r, p, false, false⟩]⟩
                else none
              else none
  | _ => none
@[simp] theorem appR_lst {t te e bytes : Nat} {r : Rid} {p : List Stp} {off len : Nat} {y : Src} {root : Root} {te' e' : Nat} {xs : List D} : appR t te e bytes r p off len y root (.lst true te' e' xs) =
              if te' = te ∧ e' = e then
                if off = 0 ∧ len = xs.length then
                  if (len + y.xs.length) * bytes ≤ 140737488351232 then
                    (if p = [] ∧ root.box = false then some (none : Option Root) else (root.c.put p .undef).map fun c' => some { root with c := c' }).bind fun root' =>
                      some ⟨(newRow t te e (xs ++ y.xs)).val, y.upd ++ [(r, root')] ++ (newRow t te e (xs ++ y.xs)).upd, y.kill ++ [⟨r, p, false, true⟩] ++ (newRow t te e (xs ++ y.xs)).kill⟩
                  else none
                else if off + len + y.xs.length ≤ xs.length then
                  (root.c.put p (.lst true te e (xs.take (off + len) ++ y.xs ++ xs.drop (off + len + y.xs.length)))).map fun c' =>
                    ⟨.slc r p off (len + y.xs.length), y.upd ++ [(r, some { root with c := c' })], y.kill ++ [⟨r, p, false, false⟩]⟩
                else none
              else none := rfl
@[simp] theorem append_slc {t ty : Nat} {r : Rid} {p : List Stp} {off len : Nat} {x : D} : appendEff T t ty ⟨env, rs⟩ (.slc r p off len) x = match T.ty ty with
  | .slice te e bytes => (appendSrc ⟨env, rs⟩ (some r) x).bind fun y => if y.e = e then ((updAll y.upd rs r).bind fun root => (root.c.get p).bind (appR t te e bytes r p off len y root)) else none
  | _ => none := by
  unfold appendEff
  cases T.ty ty <;> try rfl

/-! ### What is no longer told -/
@[simp] theorem killAll_cons {k : Kill} {ks : List Kill} : killAll (k :: ks) env = killAll ks (fun t => k.on (env t)) := rfl
theorem killAll_at {t : Nat} : ∀ (ks : List Kill) (env : Nat → D), killAll ks env t = ks.foldl (fun d k => k.on d) (env t)
  | [], env => rfl
  | k :: ks, env => by simp only [killAll, killAll_at ks, List.foldl]
@[simp] theorem kill_int {k : Kill} {i : IntKind} {n : Int} : k.on (.int i n) = .int i n := by simp [Kill.on]
@[simp] theorem kill_bool {k : Kill} {b : Bool} : k.on (.bool b) = .bool b := by simp [Kill.on]
@[simp] theorem kill_str {k : Kill} {s : List UInt8} : k.on (.str s) = .str s := by simp [Kill.on]
@[simp] theorem kill_lst {k : Kill} {o : Bool} {te e : Nat} {xs : List D} : k.on (.lst o te e xs) = .lst o te e xs := by simp [Kill.on]
@[simp] theorem kill_ifc {k : Kill} {b : Bool} : k.on (.ifc b) = .ifc b := by simp [Kill.on]
@[simp] theorem kill_pto {k : Kill} {x : D} : k.on (.pto x) = .pto x := by simp [Kill.on]
@[simp] theorem kill_undef {k : Kill} : k.on .undef = .undef := by simp [Kill.on]
@[simp] theorem kill_agg {k : Kill} {xs : List D} : k.on (.agg xs) = .agg (k.onL xs) := by simp [Kill.on]
@[simp] theorem kill_tup {k : Kill} {xs : List D} : k.on (.tup xs) = .tup (k.onL xs) := by simp [Kill.on]
@[simp] theorem kill_fn {k : Kill} {f : Nat} {xs : List D} : k.on (.fn f xs) = .fn f (k.onL xs) := by simp [Kill.on]
@[simp] theorem killL_nil {k : Kill} : k.onL [] = [] := by simp [Kill.onL]
@[simp] theorem killL_cons {k : Kill} {x : D} {xs : List D} : k.onL (x :: xs) = k.on x :: k.onL xs := by simp [Kill.onL]
@[simp] theorem kill_ptr {kr r : Rid} {kp p : List Stp} {all at_ : Bool} : (Kill.mk kr kp all at_).on (.ptr r p) = if r = kr ∧ (all = true ∨ meets kp p = true ∧ p.length ≠ kp.length) then .undef else .ptr r p := by simp [Kill.on]
@[simp] theorem kill_slc {kr r : Rid} {kp p : List Stp} {all at_ : Bool} {off len : Nat} : (Kill.mk kr kp all at_).on (.slc r p off len) = if r = kr ∧ (all = true ∨ meets kp p = true ∧ (at_ = true ∨ p.length ≠ kp.length)) then .undef else .slc r p off len := by simp [Kill.on]
@[simp] theorem meets_nil {q : List Stp} : meets [] q = true := by simp [meets]
@[simp] theorem meets_cons_nil {a : Stp} {q : List Stp} : meets (a :: q) [] = false := by simp [meets]
@[simp] theorem meets_fld {i j : Nat} {p q : List Stp} : meets (.fld i :: p) (.fld j :: q) = (decide (i = j) && meets p q) := by simp [meets]
@[simp] theorem meets_elm {i j : Nat} {p q : List Stp} : meets (.elm i :: p) (.elm j :: q) = meets p q := by simp [meets]
@[simp] theorem meets_fe {i j : Nat} {p q : List Stp} : meets (.fld i :: p) (.elm j :: q) = false := by simp [meets]
@[simp] theorem meets_ef {i j : Nat} {p q : List Stp} : meets (.elm i :: p) (.fld j :: q) = false := by simp [meets]

/-! ### Freezing -/
@[simp] theorem fr_int {k : IntKind} {n : Int} : D.freeze (.int k n) = .int k n := by simp [D.freeze]
@[simp] theorem fr_bool {b : Bool} : D.freeze (.bool b) = .bool b := by simp [D.freeze]
@[simp] theorem fr_str {s : List UInt8} : D.freeze (.str s) = .str s := by simp [D.freeze]
@[simp] theorem fr_ifc {b : Bool} : D.freeze (.ifc b) = .ifc b := by simp [D.freeze]
@[simp] theorem fr_agg {xs : List D} : D.freeze (.agg xs) = .agg (D.freezeL xs) := by simp [D.freeze]
@[simp] theorem fr_lst {o : Bool} {te e : Nat} {xs : List D} : D.freeze (.lst o te e xs) = .lst false te e (D.freezeL xs) := by simp [D.freeze]
@[simp] theorem frL_nil : D.freezeL [] = [] := by simp [D.freezeL]
@[simp] theorem frL_cons {x : D} {xs : List D} : D.freezeL (x :: xs) = D.freeze x :: D.freezeL xs := by simp [D.freezeL]
theorem frL_eq : ∀ (xs : List D), D.freezeL xs = xs.map D.freeze
  | [] => rfl
  | x :: xs => by simp only [D.freezeL, List.map_cons, frL_eq xs]

/-! ### Calls -/
@[simp] theorem evL_nil {tys : List Nat} : evL T st tys [] = some [] := rfl
@[simp] theorem evL_cons {tys : List Nat} {x : Operand} {xs : List Operand} : evL T st tys (x :: xs) = (st.ev T (tys.headD 0) x).bind fun y => (evL T st (tys.drop 1) xs).map fun ys => y :: ys := rfl
@[simp] theorem lentAt_nil {i : Nat} : lentAt [] i = false := rfl
@[simp] theorem lentAt_cons {a i : Nat} {l : List Nat} : lentAt (a :: l) i = (decide (i = a) || decide (i + 1000 = a) || lentAt l i) := by
  simp only [lentAt, List.contains_cons, Bool.or_assoc]
  have e (x y : Nat) : (x == y) = decide (x = y) := rfl
  rw [e, e]
  cases decide (i = a) <;> cases decide (i + 1000 = a) <;> cases l.contains i <;> simp
@[simp] theorem argsOf_nil {mds : List Nat} {i : Nat} : argsOf rs mds i [] = some ([], [], []) := rfl
@[simp] theorem argsOf_cons {mds : List Nat} {i : Nat} {x : D} {xs : List D} : argsOf rs mds i (x :: xs) = if lentAt mds i = true then (lend rs i x).bind fun y => (argsOf rs mds (i + 1) xs).map fun z => (y.2 :: z.1, y.1 :: z.2.1, z.2.2)
    else (close rs x).bind fun y => (argsOf rs mds (i + 1) xs).map fun z => (y :: z.1, z.2.1, spoken x ++ z.2.2) := rfl
@[simp] theorem close_int {k : IntKind} {n : Int} : close rs (.int k n) = some (.int k n) := by simp [close]
@[simp] theorem close_bool {b : Bool} : close rs (.bool b) = some (.bool b) := by simp [close]
@[simp] theorem close_str {s : List UInt8} : close rs (.str s) = some (.str s) := by simp [close]
@[simp] theorem close_ifc {b : Bool} : close rs (.ifc b) = some (.ifc b) := by simp [close]
@[simp] theorem close_pto {x : D} : close rs (.pto x) = some (.pto x) := by simp [close]
@[simp] theorem close_lstf {te e : Nat} {xs : List D} : close rs (.lst false te e xs) = some (.lst false te e xs) := by simp [close]
@[simp] theorem close_nil {te e : Nat} : close rs (.lst true te e []) = some (.lst false te e []) := by simp [close]
@[simp] theorem close_agg {xs : List D} : close rs (.agg xs) = (closeL rs xs).map .agg := by simp [close]
@[simp] theorem close_fn {f : Nat} {xs : List D} : close rs (.fn f xs) = (closeL rs xs).map (.fn f) := by simp [close]
@[simp] theorem closeL_nil : closeL rs [] = some [] := by simp [closeL]
@[simp] theorem closeL_cons {x : D} {xs : List D} : closeL rs (x :: xs) = (close rs x).bind fun y => (closeL rs xs).map fun ys => y :: ys := by simp [closeL]
def closeS (off len : Nat) : D → Option D
  | .lst _ te e xs => if off + len ≤ xs.length then some (.lst false te e (D.freezeL ((xs.drop off).take len))) else none
  | _ => none
@[simp] theorem closeS_lst {off len : Nat} {o : Bool} {te e : Nat} {xs : List D} : closeS off len (.lst o te e xs) = if off + len ≤ xs.length then some (.lst false te e (D.freezeL ((xs.drop off).take len))) else none := rfl
@[simp] theorem close_slc {r : Rid} {p : List Stp} {off len : Nat} : close rs (.slc r p off len) = (rs r).bind fun root => (root.c.get p).bind (closeS off len) := by
  simp only [close]
  cases rs r with
  | none => rfl
  | some root =>
    simp only [Option.bind_some]
    cases root.c.get p with
    | none => rfl
    | some d => cases d <;> rfl
@[simp] theorem close_ptr {r : Rid} {p : List Stp} : close rs (.ptr r p) = (rs r).bind fun root => (root.c.get p).map fun d => .pto (D.freeze d) := by simp [close]
@[simp] theorem spoken_int {k : IntKind} {n : Int} : spoken (.int k n) = [] := by simp [spoken]
@[simp] theorem spoken_bool {b : Bool} : spoken (.bool b) = [] := by simp [spoken]
@[simp] theorem spoken_str {s : List UInt8} : spoken (.str s) = [] := by simp [spoken]
@[simp] theorem spoken_ifc {b : Bool} : spoken (.ifc b) = [] := by simp [spoken]
@[simp] theorem spoken_pto {x : D} : spoken (.pto x) = [] := by simp [spoken]
@[simp] theorem spoken_lst {o : Bool} {te e : Nat} {xs : List D} : spoken (.lst o te e xs) = [] := by simp [spoken]
@[simp] theorem spoken_slc {r : Rid} {p : List Stp} {off len : Nat} : spoken (.slc r p off len) = [(r, p)] := by simp [spoken]
@[simp] theorem spoken_ptr {r : Rid} {p : List Stp} : spoken (.ptr r p) = [(r, p)] := by simp [spoken]
@[simp] theorem spoken_agg {xs : List D} : spoken (.agg xs) = spokenL xs := by simp [spoken]
@[simp] theorem spoken_fn {f : Nat} {xs : List D} : spoken (.fn f xs) = spokenL xs := by simp [spoken]
@[simp] theorem spokenL_nil : spokenL [] = [] := by simp [spokenL]
@[simp] theorem spokenL_cons {x : D} {xs : List D} : spokenL (x :: xs) = spoken x ++ spokenL xs := by simp [spokenL]
@[simp] theorem apart_nil {m : List (Rid × List Stp)} : apartAll [] m = true := rfl
@[simp] theorem apart_cons {x : Lent} {ls : List Lent} {m : List (Rid × List Stp)} : apartAll (x :: ls) m = (m.all (fun y => decide (y.1 ≠ x.r)) && ls.all (fun y => decide (y.r ≠ x.r)) && apartAll ls m) := rfl
@[simp] theorem lend_ptr {j : Nat} {r : Rid} {p : List Stp} : lend rs j (.ptr r p) = (rs r).bind fun root => if p = [] ∧ root.box = true then some (⟨j, true, r, []⟩, .pto root.c) else none := rfl
def lendS (j : Nat) (r : Rid) (p : List Stp) (off len : Nat) : D → Option (Lent × D)
  | .lst true te e xs => if off = 0 ∧ len = xs.length then some (⟨j, false, r, p⟩, .lst true te e xs) else none
  | _ => none
@[simp] theorem lendS_lst {j : Nat} {r : Rid} {p : List Stp} {off len te e : Nat} {xs : List D} : lendS j r p off len (.lst true te e xs) = if off = 0 ∧ len = xs.length then some (⟨j, false, r, p⟩, .lst true te e xs) else none := rfl
@[simp] theorem lend_slc {j : Nat} {r : Rid} {p : List Stp} {off len : Nat} : lend rs j (.slc r p off len) = (rs r).bind fun root => (root.c.get p).bind (lendS j r p off len) := by
  simp only [lend]
  cases rs r with
  | none => rfl
  | some root =>
    simp only [Option.bind_some]
    cases root.c.get p with
    | none => rfl
    | some d => cases d with
      | lst o te e xs => cases o <;> rfl
      | _ => rfl
/-- Behind a call. -/
noncomputable def callB (E : En) (t f : Nat) (rs : Rid → Option Root) (ls : List Lent) (reads : List (Rid × List Stp)) (res : D × List D) : Option Eff :=
  (freezeAll rs (coldOf res reads)).bind fun fr =>
    (giveBack (updAll fr rs) (E.md f) ls res.2).bind fun g =>
      if (openR t res.1).2.2 ≤ 99 then some ⟨(openR t res.1).1, fr ++ g.1 ++ (openR t res.1).2.1, (coldOf res reads).map killAt ++ g.2 ++ (openR t res.1).2.1.map killRoot⟩ else none
noncomputable def callA (E : En) (t f : Nat) (rs : Rid → Option Root) (a : List D × List Lent × List (Rid × List Stp)) : Option Eff :=
  if apartAll a.2.1 a.2.2 = true then (lim E f a.1).bind (callB E t f rs a.2.1 a.2.2) else none
@[simp] theorem wrapOf_nil : wrapOf [] = none := rfl
@[simp] theorem wrapOf_one {a : Nat} : wrapOf [a] = none := by unfold wrapOf; split <;> simp_all
@[simp] theorem wrapOf_two {a b : Nat} : wrapOf [a, b] = none := by unfold wrapOf; split <;> simp_all
@[simp] theorem wrapOf_three {a b c : Nat} : wrapOf [a, b, c] = none := by unfold wrapOf; split <;> simp_all
@[simp] theorem wrapOf_four {i o g : Nat} : wrapOf [4000, i, o, g] = some (i, o, g) := rfl
noncomputable def baseW (E : En) (t : Nat) (rs : Rid → Option Root) (g : Nat) (ys : List D) : Option Eff := (argsOf rs (E.md g) 0 ys).bind (callA E t g rs)
@[simp] theorem baseW_def {t g : Nat} {ys : List D} : baseW E t rs g ys = (argsOf rs (E.md g) 0 ys).bind (callA E t g rs) := rfl
noncomputable def wrapW (E : En) (t f : Nat) (rs : Rid → Option Root) (xs : List D) : Option (Nat × Nat × Nat) → Option Eff
  | some q => wrapEff (baseW E t rs) (E.md q.2.2) q xs
  | none => (argsOf rs (E.md f) 0 xs).bind (callA E t f rs)
@[simp] theorem wrapW_none {t f : Nat} {xs : List D} : wrapW E t f rs xs none = (argsOf rs (E.md f) 0 xs).bind (callA E t f rs) := rfl
@[simp] theorem wrapW_some {t f i o g : Nat} {xs : List D} : wrapW E t f rs xs (some (i, o, g)) = wrapEff (baseW E t rs) (E.md g) (i, o, g) xs := rfl
def wrapD (base : Nat → List D → Option Eff) (mdg : List Nat) (q : Nat × Nat × Nat) (ds : List D) (k : IntKind) (n : Int) : D → Option Eff
  | .slc r p off len => if D.sizeL (ds.take q.1) = q.2.1 ∧ mdg = [0] then base q.2.2 [.slc r p off len, .int k n] else none
  | _ => none
@[simp] theorem wrapEff_def {base : Nat → List D → Option Eff} {mdg : List Nat} {q : Nat × Nat × Nat} {ds : List D} {k : IntKind} {n : Int} : wrapEff base mdg q [.agg ds, .int k n] = (ds[q.1]?).bind (wrapD base mdg q ds k n) := by
  simp only [wrapEff]
  cases ds[q.1]? with
  | none => rfl
  | some d => cases d <;> rfl
@[simp] theorem wrapD_slc {base : Nat → List D → Option Eff} {mdg : List Nat} {q : Nat × Nat × Nat} {ds : List D} {k : IntKind} {n : Int} {r : Rid} {p : List Stp} {off len : Nat} : wrapD base mdg q ds k n (.slc r p off len) = if D.sizeL (ds.take q.1) = q.2.1 ∧ mdg = [0] then base q.2.2 [.slc r p off len, .int k n] else none := rfl
@[simp] theorem callW_def {t f : Nat} {xs : List D} : callW E t f ⟨env, rs⟩ xs = if E.md f = [2000] then giveEff (lim E) f rs xs else wrapW E t f rs xs (wrapOf (E.md f)) := by
  simp only [callW, callEff]
  split
  · rfl
  · cases wrapOf (E.md f) <;> rfl
@[simp] theorem callEff_def {t f : Nat} {xs : List D} : callEff (lim E) E.md t f ⟨env, rs⟩ xs = if E.md f = [2000] then giveEff (lim E) f rs xs else wrapW E t f rs xs (wrapOf (E.md f)) := by
  simp only [callEff]
  split
  · rfl
  · cases wrapOf (E.md f) <;> rfl
def giveR (k : List D × List (Rid × Option Root) × List Kill) (res : D × List D) : Option Eff := if isScalar res.1 = true then some ⟨res.1, k.2.1, k.2.2⟩ else none
noncomputable def giveK (E : En) (f : Nat) (zs : List D) (k : List D × List (Rid × Option Root) × List Kill) : Option Eff := if (openL 0 0 k.1).2.2 ≤ 99 then (lim E f (.agg k.1 :: zs)).bind (giveR k) else none
@[simp] theorem giveEff_def {f : Nat} {ys zs : List D} : giveEff (lim E) f rs (.agg ys :: zs) = if zs.all isScalar = true then (takeL (fun _ => true) rs ys).bind (giveK E f zs) else none := rfl
@[simp] theorem giveK_def {f : Nat} {zs ds : List D} {u : List (Rid × Option Root)} {k : List Kill} : giveK E f zs (ds, u, k) = if (openL 0 0 ds).2.2 ≤ 99 then (lim E f (.agg ds :: zs)).bind (giveR (ds, u, k)) else none := rfl
@[simp] theorem giveR_def {ds : List D} {u : List (Rid × Option Root)} {k : List Kill} {d : D} {l : List D} : giveR (ds, u, k) (d, l) = if isScalar d = true then some ⟨d, u, k⟩ else none := rfl
@[simp] theorem callA_def {t f : Nat} {a : List D} {ls : List Lent} {rd : List (Rid × List Stp)} : callA E t f rs (a, ls, rd) = if apartAll ls rd = true then (lim E f a).bind (callB E t f rs ls rd) else none := rfl
@[simp] theorem callB_def {t f : Nat} {ls : List Lent} {reads : List (Rid × List Stp)} {res : D × List D} : callB E t f rs ls reads res = (freezeAll rs (coldOf res reads)).bind fun fr =>
    (giveBack (updAll fr rs) (E.md f) ls res.2).bind fun g =>
      if (openR t res.1).2.2 ≤ 99 then some ⟨(openR t res.1).1, fr ++ g.1 ++ (openR t res.1).2.1, (coldOf res reads).map killAt ++ g.2 ++ (openR t res.1).2.1.map killRoot⟩ else none := rfl
@[simp] theorem freezeAll_nil : freezeAll rs [] = some [] := rfl
@[simp] theorem freezeAll_cons {r : Rid} {p : List Stp} {m : List (Rid × List Stp)} : freezeAll rs ((r, p) :: m) = (freezeAt rs r p).bind fun u => (freezeAll (updAll [u] rs) m).map fun us => u :: us := rfl
@[simp] theorem freezeAt_def {r : Rid} {p : List Stp} : freezeAt rs r p = (rs r).bind fun root => (root.c.get p).bind fun d => (root.c.put p (D.freeze d)).map fun c' => (r, some { root with c := c' }) := rfl
@[simp] theorem coldOf_nil {res : D × List D} : coldOf res [] = [] := by simp [coldOf]
@[simp] theorem coldOf_cons {a : D} {b : List D} {x : Rid × List Stp} {m : List (Rid × List Stp)} : coldOf (a, b) (x :: m) = if (D.cold a || b.any coldB) = true then x :: m else [] := rfl
@[simp] theorem cold_int {k : IntKind} {n : Int} : D.cold (.int k n) = false := by simp [D.cold]
@[simp] theorem cold_bool {b : Bool} : D.cold (.bool b) = false := by simp [D.cold]
@[simp] theorem cold_str {s : List UInt8} : D.cold (.str s) = false := by simp [D.cold]
@[simp] theorem cold_ifc {b : Bool} : D.cold (.ifc b) = false := by simp [D.cold]
@[simp] theorem cold_agg {xs : List D} : D.cold (.agg xs) = D.coldL xs := by simp [D.cold]
@[simp] theorem cold_tup {xs : List D} : D.cold (.tup xs) = D.coldL xs := by simp [D.cold]
@[simp] theorem cold_lst {o : Bool} {te e : Nat} {xs : List D} : D.cold (.lst o te e xs) = (!o || D.coldL xs) := by simp [D.cold]
@[simp] theorem coldL_nil : D.coldL [] = false := by simp [D.coldL]
@[simp] theorem coldL_cons {x : D} {xs : List D} : D.coldL (x :: xs) = (D.cold x || D.coldL xs) := by simp [D.coldL]
@[simp] theorem coldB_pto {x : D} : coldB (.pto x) = D.cold x := rfl
@[simp] theorem coldB_lst {o : Bool} {te e : Nat} {xs : List D} : coldB (.lst o te e xs) = D.cold (.lst o te e xs) := rfl
@[simp] theorem coldB_undef : coldB .undef = false := by simp [coldB, D.cold]
@[simp] theorem giveBack_nil : giveBack rs [] [] [] = some ([], []) := rfl
@[simp] theorem giveBack_cons {i : Nat} {m : List Nat} {x : Lent} {ls : List Lent} {d : D} {ds : List D} : giveBack rs (i :: m) (x :: ls) (d :: ds) = if i % 1000 = x.j then (giveOne rs x d).bind fun g => (giveBack (updAll [g.1] rs) m ls ds).map fun z => (g.1 :: z.1, g.2 :: z.2) else none := rfl
@[simp] theorem giveOne_var {j : Nat} {r : Rid} {p : List Stp} {c : D} : giveOne rs ⟨j, true, r, p⟩ (.pto c) = (rs r).bind fun root => some ((r, some { root with c := c }), ⟨r, [], false, true⟩) := rfl
def giveS (r : Rid) (p : List Stp) (root : Root) (d : D) : D → Option ((Rid × Option Root) × Kill)
  | .lst true te e xs =>
        match d with
        | .lst true te' e' xs' => if te' = te ∧ e' = e ∧ xs'.length = xs.length then (root.c.put p d).map fun c' => ((r, some { root with c := c' }), ⟨r, p, false, false⟩) else none
        | .undef => (root.c.put p .undef).map fun c' => ((r, some { root with c := c' }), ⟨r, p, false, true⟩)
        | _ => none
  | _ => none
@[simp] theorem giveS_lst {r : Rid} {p : List Stp} {root : Root} {te e te' e' : Nat} {xs xs' : List D} : giveS r p root (.lst true te' e' xs') (.lst true te e xs) = if te' = te ∧ e' = e ∧ xs'.length = xs.length then (root.c.put p (.lst true te' e' xs')).map fun c' => ((r, some { root with c := c' }), ⟨r, p, false, false⟩) else none := rfl
@[simp] theorem giveS_undef {r : Rid} {p : List Stp} {root : Root} {te e : Nat} {xs : List D} : giveS r p root .undef (.lst true te e xs) = (root.c.put p .undef).map fun c' => ((r, some { root with c := c' }), ⟨r, p, false, true⟩) := rfl
@[simp] theorem giveOne_row {j : Nat} {r : Rid} {p : List Stp} {d : D} : giveOne rs ⟨j, false, r, p⟩ d = (rs r).bind fun root => (root.c.get p).bind (giveS r p root d) := by
  simp only [giveOne]
  cases rs r with
  | none => rfl
  | some root =>
    simp only [Option.bind_some, Bool.false_eq_true, if_false]
    cases root.c.get p with
    | none => rfl
    | some c => cases c with
      | lst o te e xs => cases o <;> rfl
      | _ => rfl
@[simp] theorem open_int {t j : Nat} {k : IntKind} {n : Int} : open_ t j (.int k n) = (.int k n, [], j) := by simp [open_]
@[simp] theorem open_bool {t j : Nat} {b : Bool} : open_ t j (.bool b) = (.bool b, [], j) := by simp [open_]
@[simp] theorem open_str {t j : Nat} {s : List UInt8} : open_ t j (.str s) = (.str s, [], j) := by simp [open_]
@[simp] theorem open_ifc {t j : Nat} {b : Bool} : open_ t j (.ifc b) = (.ifc b, [], j) := by simp [open_]
@[simp] theorem open_own {t j te e : Nat} {xs : List D} : open_ t j (.lst true te e xs) = (.slc (t, j) [] 0 xs.length, [((t, j), some ⟨false, .lst true te e xs⟩)], j + 1) := by simp [open_]
@[simp] theorem open_cold {t j te e : Nat} {xs : List D} : open_ t j (.lst false te e xs) = (.lst false te e xs, [], j) := by simp [open_]
@[simp] theorem open_agg {t j : Nat} {xs : List D} : open_ t j (.agg xs) = (.agg (openL t j xs).1, (openL t j xs).2) := by simp [open_]
@[simp] theorem open_tup {t j : Nat} {xs : List D} : open_ t j (.tup xs) = (.tup (openL t j xs).1, (openL t j xs).2) := by simp [open_]
@[simp] theorem openL_nil {t j : Nat} : openL t j [] = ([], [], j) := by simp [openL]
@[simp] theorem openL_cons {t j : Nat} {x : D} {xs : List D} : openL t j (x :: xs) = ((open_ t j x).1 :: (openL t (open_ t j x).2.2 xs).1, (open_ t j x).2.1 ++ (openL t (open_ t j x).2.2 xs).2.1, (openL t (open_ t j x).2.2 xs).2.2) := by simp [openL]
@[simp] theorem killAt_def {r : Rid} {p : List Stp} : killAt (r, p) = ⟨r, p, false, false⟩ := rfl
@[simp] theorem killRoot_def {r : Rid} {x : Option Root} : killRoot (r, x) = ⟨r, [], true, true⟩ := rfl

/-! ### Regions that draw -/
@[simp] theorem quiet_pure {o : Oper} {xs : List D} {v : D} : Tr.quiet ⟨o, xs, pureE v⟩ = true := rfl
@[simp] theorem quiet_eff {o : Oper} {xs : List D} {v : D} {us : List (Rid × Option Root)} {ks : List Kill} : Tr.quiet ⟨o, xs, ⟨v, us, ks⟩⟩ = (us.isEmpty && ks.isEmpty) := rfl
@[simp] theorem trOk_q {ops : Array Oper} {i : Nat} {ts : List Tr} (h : ts.all Tr.quiet = true) : trOk ops i ts = true := trOk_quiet ts i h

/-! ### The ends of a call -/
@[simp] theorem finish_def {mds : List Nat} {fz : Bool} {rv : List ResultVar} : finish T mds fz rv st = (resVars T st rv).bind (finR mds fz st) := rfl
@[simp] theorem finR_new {mds : List Nat} {fz : Bool} {r : Rid} : finR mds fz st [.ptr r []] = (st.rs r).bind fun root => if root.box = true ∧ r.2 ≠ 99 ∧ 0 < D.size root.c then (lentBack st mds).map fun ms => (.tup [.undef, root.c], ms) else none := rfl
theorem finR_old {mds : List Nat} {fz : Bool} {ds : List D} (h : newRid ds = none) : finR mds fz st ds = if alone (spokenL ds) = true then (leaveL mds st.rs ds).bind fun ds' => (lentBack st mds).map fun ms => (tupOf (if fz = true then D.freezeL ds' else ds'), ms) else none := by unfold finR; rw [h]
theorem newRid_two {a b : D} {l : List D} : newRid (a :: b :: l) = none := by unfold newRid; split <;> simp_all
@[simp] theorem finR_nil {mds : List Nat} {fz : Bool}  : finR mds fz st [] = if alone (spokenL []) = true then (leaveL mds st.rs []).bind fun ds' => (lentBack st mds).map fun ms => (tupOf (if fz = true then D.freezeL ds' else ds'), ms) else none := finR_old (rfl)
@[simp] theorem finR_int {mds : List Nat} {fz : Bool} {k : IntKind} {n : Int} : finR mds fz st [.int k n] = if alone (spokenL [.int k n]) = true then (leaveL mds st.rs [.int k n]).bind fun ds' => (lentBack st mds).map fun ms => (tupOf (if fz = true then D.freezeL ds' else ds'), ms) else none := finR_old (rfl)
@[simp] theorem finR_bool {mds : List Nat} {fz : Bool} {b : Bool} : finR mds fz st [.bool b] = if alone (spokenL [.bool b]) = true then (leaveL mds st.rs [.bool b]).bind fun ds' => (lentBack st mds).map fun ms => (tupOf (if fz = true then D.freezeL ds' else ds'), ms) else none := finR_old (rfl)
@[simp] theorem finR_str {mds : List Nat} {fz : Bool} {s : List UInt8} : finR mds fz st [.str s] = if alone (spokenL [.str s]) = true then (leaveL mds st.rs [.str s]).bind fun ds' => (lentBack st mds).map fun ms => (tupOf (if fz = true then D.freezeL ds' else ds'), ms) else none := finR_old (rfl)
@[simp] theorem finR_agg {mds : List Nat} {fz : Bool} {xs : List D} : finR mds fz st [.agg xs] = if alone (spokenL [.agg xs]) = true then (leaveL mds st.rs [.agg xs]).bind fun ds' => (lentBack st mds).map fun ms => (tupOf (if fz = true then D.freezeL ds' else ds'), ms) else none := finR_old (rfl)
@[simp] theorem finR_lst {mds : List Nat} {fz : Bool} {o : Bool} {te e : Nat} {xs : List D} : finR mds fz st [.lst o te e xs] = if alone (spokenL [.lst o te e xs]) = true then (leaveL mds st.rs [.lst o te e xs]).bind fun ds' => (lentBack st mds).map fun ms => (tupOf (if fz = true then D.freezeL ds' else ds'), ms) else none := finR_old (rfl)
@[simp] theorem finR_slc {mds : List Nat} {fz : Bool} {r : Rid} {p : List Stp} {off len : Nat} : finR mds fz st [.slc r p off len] = if alone (spokenL [.slc r p off len]) = true then (leaveL mds st.rs [.slc r p off len]).bind fun ds' => (lentBack st mds).map fun ms => (tupOf (if fz = true then D.freezeL ds' else ds'), ms) else none := finR_old (rfl)
@[simp] theorem finR_ifc {mds : List Nat} {fz : Bool} {b : Bool} : finR mds fz st [.ifc b] = if alone (spokenL [.ifc b]) = true then (leaveL mds st.rs [.ifc b]).bind fun ds' => (lentBack st mds).map fun ms => (tupOf (if fz = true then D.freezeL ds' else ds'), ms) else none := finR_old (rfl)
@[simp] theorem finR_two {mds : List Nat} {fz : Bool} {a b : D} {l : List D} : finR mds fz st (a :: b :: l) = if alone (spokenL (a :: b :: l)) = true then (leaveL mds st.rs (a :: b :: l)).bind fun ds' => (lentBack st mds).map fun ms => (tupOf (if fz = true then D.freezeL ds' else ds'), ms) else none := finR_old (newRid_two)
@[simp] theorem openR_new {t : Nat} {c : D} : openR t (.tup [.undef, c]) = (.ptr (t, 0) [], [((t, 0), some ⟨true, c⟩)], 1) := rfl
@[simp] theorem openR_int {t : Nat} {k : IntKind} {n : Int} : openR t (.int k n) = (.int k n, [], 0) := rfl
@[simp] theorem openR_bool {t : Nat} {b : Bool} : openR t (.bool b) = (.bool b, [], 0) := rfl
@[simp] theorem openR_str {t : Nat} {s : List UInt8} : openR t (.str s) = (.str s, [], 0) := rfl
@[simp] theorem openR_ifc {t : Nat} {b : Bool} : openR t (.ifc b) = (.ifc b, [], 0) := rfl
@[simp] theorem openR_own {t te e : Nat} {xs : List D} : openR t (.lst true te e xs) = (.slc (t, 0) [] 0 xs.length, [((t, 0), some ⟨false, .lst true te e xs⟩)], 1) := rfl
@[simp] theorem openR_cold {t te e : Nat} {xs : List D} : openR t (.lst false te e xs) = (.lst false te e xs, [], 0) := rfl
@[simp] theorem openR_agg {t : Nat} {xs : List D} : openR t (.agg xs) = (.agg (openL t 0 xs).1, (openL t 0 xs).2) := by simp [openR, open_]
@[simp] theorem openR_tup0 {t : Nat} : openR t (.tup []) = (.tup [], [], 0) := by simp [openR, open_, openL]
theorem openR_tup {t : Nat} {x : D} {xs : List D} (h : isPlain x = true) : openR t (.tup (x :: xs)) = (.tup (openL t 0 (x :: xs)).1, (openL t 0 (x :: xs)).2) := by
  unfold openR
  split
  · rename_i h2; cases h2; simp [isPlain] at h
  · simp [open_]
@[simp] theorem openR_tup_int {t : Nat} {k : IntKind} {n : Int} {xs : List D} : openR t (.tup (.int k n :: xs)) = (.tup (openL t 0 (.int k n :: xs)).1, (openL t 0 (.int k n :: xs)).2) := openR_tup rfl
@[simp] theorem openR_tup_bool {t : Nat} {b : Bool} {xs : List D} : openR t (.tup (.bool b :: xs)) = (.tup (openL t 0 (.bool b :: xs)).1, (openL t 0 (.bool b :: xs)).2) := openR_tup rfl
@[simp] theorem openR_tup_str {t : Nat} {s : List UInt8} {xs : List D} : openR t (.tup (.str s :: xs)) = (.tup (openL t 0 (.str s :: xs)).1, (openL t 0 (.str s :: xs)).2) := openR_tup rfl
@[simp] theorem openR_tup_agg {t : Nat} {ys xs : List D} : openR t (.tup (.agg ys :: xs)) = (.tup (openL t 0 (.agg ys :: xs)).1, (openL t 0 (.agg ys :: xs)).2) := openR_tup rfl
@[simp] theorem openR_tup_lst {t te e : Nat} {o : Bool} {ys xs : List D} : openR t (.tup (.lst o te e ys :: xs)) = (.tup (openL t 0 (.lst o te e ys :: xs)).1, (openL t 0 (.lst o te e ys :: xs)).2) := openR_tup rfl
@[simp] theorem openR_tup_ifc {t : Nat} {b : Bool} {xs : List D} : openR t (.tup (.ifc b :: xs)) = (.tup (openL t 0 (.ifc b :: xs)).1, (openL t 0 (.ifc b :: xs)).2) := openR_tup rfl
@[simp] theorem resVars_nil : resVars T st [] = some [] := rfl
@[simp] theorem resVars_tmp {t : Nat} {m : List ResultVar} : resVars T st (.tmp t :: m) = (resVars T st m).map fun ds => st.env t :: ds := rfl
@[simp] theorem resVars_cell {a t : Nat} {m : List ResultVar} : resVars T st (.cell a t :: m) = (loadEff st (st.env a)).bind fun d => if fitsTy (T.ty t) d = true then (resVars T st m).map fun ds => d :: ds else none := rfl
@[simp] theorem alone_nil : alone [] = true := rfl
@[simp] theorem alone_cons {a : Rid × List Stp} {m : List (Rid × List Stp)} : alone (a :: m) = (m.all (fun b => !crosses a b) && alone m) := rfl
@[simp] theorem crosses_def {a b : Rid × List Stp} : crosses a b = (decide (a.1 = b.1) && (under a.2 b.2 || under b.2 a.2)) := rfl
@[simp] theorem under_nil {q : List Stp} : under [] q = true := by simp [under]
@[simp] theorem under_cons {a b : Stp} {p q : List Stp} : under (a :: p) (b :: q) = (decide (a = b) && under p q) := by simp [under]
@[simp] theorem under_cons_nil {a : Stp} {p : List Stp} : under (a :: p) [] = false := by simp [under]
@[simp] theorem leaveL_nil {mds : List Nat} : leaveL mds rs [] = some [] := by simp [leaveL]
@[simp] theorem leaveL_cons {mds : List Nat} {x : D} {xs : List D} : leaveL mds rs (x :: xs) = (leave mds rs x).bind fun y => (leaveL mds rs xs).map fun ys => y :: ys := by simp [leaveL]
@[simp] theorem leave_int {mds : List Nat} {k : IntKind} {n : Int} : leave mds rs (.int k n) = some (.int k n) := by simp [leave]
@[simp] theorem leave_bool {mds : List Nat} {b : Bool} : leave mds rs (.bool b) = some (.bool b) := by simp [leave]
@[simp] theorem leave_str {mds : List Nat} {s : List UInt8} : leave mds rs (.str s) = some (.str s) := by simp [leave]
@[simp] theorem leave_ifc {mds : List Nat} {b : Bool} : leave mds rs (.ifc b) = some (.ifc b) := by simp [leave]
@[simp] theorem leave_lst {mds : List Nat} {o : Bool} {te e : Nat} {xs : List D} : leave mds rs (.lst o te e xs) = some (.lst o te e xs) := by simp [leave]
@[simp] theorem leave_agg {mds : List Nat} {xs : List D} : leave mds rs (.agg xs) = (leaveL mds rs xs).map .agg := by simp [leave]
def leaveS (back : Bool) (off len : Nat) : D → Option D
  | .lst own te e xs => if off + len ≤ xs.length ∧ (own && back) = false then (if own = true ∧ off = 0 then some (.lst true te e (xs.take len)) else some (.lst false te e (D.freezeL ((xs.drop off).take len)))) else none
  | _ => none
@[simp] theorem leaveS_lst {back : Bool} {off len : Nat} {own : Bool} {te e : Nat} {xs : List D} : leaveS back off len (.lst own te e xs) = if off + len ≤ xs.length ∧ (own && back) = false then (if own = true ∧ off = 0 then some (.lst true te e (xs.take len)) else some (.lst false te e (D.freezeL ((xs.drop off).take len)))) else none := rfl
@[simp] theorem leave_slc {mds : List Nat} {r : Rid} {p : List Stp} {off len : Nat} : leave mds rs (.slc r p off len) = (rs r).bind fun root => (root.c.get p).bind (leaveS (backRid mds r) off len) := by
  simp only [leave]
  cases rs r with
  | none => rfl
  | some root =>
    simp only [Option.bind_some]
    cases root.c.get p with
    | none => rfl
    | some d => cases d <;> rfl
@[simp] theorem backRid_def {mds : List Nat} {r : Rid} : backRid mds r = (decide (r.2 = 99) && mds.contains r.1) := rfl
@[simp] theorem lentBack_nil : lentBack st [] = some [] := rfl
@[simp] theorem lentBack_cons {i : Nat} {m : List Nat} : lentBack st (i :: m) = if i < 1000 then (st.rs (i, 99)).bind fun root => (lentBack st m).map fun ds => (if root.box = true then .pto root.c else root.c) :: ds else (lentBack st m).map fun ds => .undef :: ds := rfl
@[simp] theorem tupOf_one {d : D} : tupOf [d] = d := rfl
@[simp] theorem tupOf_nil : tupOf [] = .tup [] := rfl
@[simp] theorem tupOf_two {a b : D} {l : List D} : tupOf (a :: b :: l) = .tup (a :: b :: l) := rfl
@[simp] theorem initSt_def {mds : List Nat} {args : List D} : initSt mds args = ⟨initEnv mds args, initRs mds args⟩ := rfl
def inE (l : Bool) (t : Nat) (d : D) : D := if l = true then (match d with | .pto _ => .ptr (t, 99) [] | .lst true te e xs => .slc (t, 99) [] 0 xs.length | _ => .undef) else d
@[simp] theorem inE_ff {t : Nat} {d : D} : inE false t d = d := rfl
@[simp] theorem inE_pto {t : Nat} {c : D} : inE true t (.pto c) = .ptr (t, 99) [] := rfl
@[simp] theorem inE_lst {t te e : Nat} {xs : List D} : inE true t (.lst true te e xs) = .slc (t, 99) [] 0 xs.length := rfl
def inO (o : Bool) (d : D) : D := if o = true then (open_ 0 0 d).1 else d
@[simp] theorem inO_ff {d : D} : inO false d = d := rfl
@[simp] theorem inO_tt {d : D} : inO true d = (open_ 0 0 d).1 := rfl
@[simp] theorem initEnv_cons {i : Nat} {mds : List Nat} {args : List D} {t : Nat} : initEnv (i :: mds) args t = (args[t]?.map fun d => if lentAt (i :: mds) t = true then inE true t d else inO (decide (i :: mds = [2000] ∧ t = 0)) d).getD .undef := by
  simp only [initEnv]
  cases args[t]? with
  | none => rfl
  | some d =>
    simp only [Option.map_some, Option.getD_some]
    split
    · rfl
    · by_cases h : i :: mds = [2000] ∧ t = 0
      · rw [if_pos h]; simp [h]
      · rw [if_neg h]
        have : decide (i :: mds = [2000] ∧ t = 0) = false := by simpa using h
        rw [this]; rfl
def inR : D → Option Root
  | .pto c => some ⟨true, c⟩
  | .lst true te e xs => some ⟨false, .lst true te e xs⟩
  | _ => none
@[simp] theorem inR_pto {c : D} : inR (.pto c) = some ⟨true, c⟩ := rfl
@[simp] theorem inR_lst {te e : Nat} {xs : List D} : inR (.lst true te e xs) = some ⟨false, .lst true te e xs⟩ := rfl
@[simp] theorem initRs_def {mds : List Nat} {args : List D} {a b : Nat} : initRs mds args (a, b) = if b = 99 ∧ lentAt mds a = true then args[a]?.bind inR else if mds = [2000] then args[0]?.bind fun d => updAll (open_ 0 0 d).2.1 (fun _ => none) (a, b) else none := by
  simp only [initRs]
  split
  · cases args[a]? with
    | none => rfl
    | some d => cases d <;> rfl
  · rfl
@[simp] theorem initEnv_nil {args : List D} {t : Nat} : initEnv [] args t = args[t]?.getD .undef := by
  simp only [initEnv]
  cases args[t]? <;> simp
@[simp] theorem ofBytes_nil : ofBytes [] = [] := rfl
@[simp] theorem ofBytes_append {a b : List UInt8} : ofBytes (a ++ b) = ofBytes a ++ ofBytes b := by simp [ofBytes]
@[simp] theorem ofBytes_cons {a : UInt8} {b : List UInt8} : ofBytes (a :: b) = .int .u8 a.toNat :: ofBytes b := rfl
@[simp] theorem ofBytes_length {a : List UInt8} : (ofBytes a).length = a.length := by simp [ofBytes]
@[simp] theorem ofBytes_take {a : List UInt8} {n : Nat} : (ofBytes a).take n = ofBytes (a.take n) := by simp [ofBytes, List.map_take]
@[simp] theorem ofBytes_drop {a : List UInt8} {n : Nat} : (ofBytes a).drop n = ofBytes (a.drop n) := by simp [ofBytes, List.map_drop]
@[simp] theorem bytesOf_nil : bytesOf [] = some [] := rfl
@[simp] theorem bytesOf_cons {n : Int} {xs : List D} : bytesOf (.int .u8 n :: xs) = (bytesOf xs).map fun l => UInt8.ofNat n.toNat :: l := rfl
@[simp] theorem bytesOf_ofBytes (a : List UInt8) : bytesOf (ofBytes a) = some a := by
  induction a with
  | nil => rfl
  | cons b a ih => simp [ih]
@[simp] theorem bytesOf_append (a : List UInt8) (xs : List D) : bytesOf (ofBytes a ++ xs) = (bytesOf xs).map fun l => a ++ l := by
  induction a with
  | nil => simp
  | cons b a ih => simp [ih]; cases bytesOf xs <;> simp
end
end Go.Lft.Set

/- Functions of Go's library that have no body here: what they come to. -/
namespace Go.Lft
/-- internal/bytealg.IndexByteString. -/
def extIndexByte : List D → Option (D × List D)
  | [.str s, .int .u8 c] => some (.int .i64 (Go.Lib.indexByte s c.toNat.toUInt8), [])
  | _ => none

/-- A call that hands back a whole number, and touches no memory. -/
theorem resOk_int {Z : Zone} {md : List Nat} {args : List D} {vs : List Value} {gs0 : Rid → Option G} (hen : EntryOk Z md args vs gs0) (k : IntKind) (n : Int) : ResOk Z [] (.int k n, []) (.int k n) Z.w0 := by
  refine ⟨gs0, Z.Fz0, [.leaf (.int k n) (.int k n)], hen.mem.leaf (m := .leaf (.int k n) (.int k n)) (by simp only [M.Ok, FRep]; exact ⟨trivial, rfl⟩) (by simp only [M.In]) rfl, ?_, by simp only [LentOk]⟩
  simp only [ResV, ResL, and_true]
  exact ⟨rfl, rfl, fun h => by simp [M.data, isAgg] at h, fun _ => rfl⟩

theorem ext_indexByte {P : Program} {f : FuncId} {fn : Func} (hf : P.funcs[f]? = some fn) (hb : fn.body = none) (hn : fn.name = "internal/bytealg.IndexByteString")
    (h1 : Extern.findNext fn = none) (h2 : Extern.find fn = some Extern.BytealgIndexByte.indexByte) {args : List D} {res : D × List D} {kn : World → Prop} (h : extIndexByte args = some res) : FunOk P kn [] f args res ∧ resPlain res.1 = true := by
  unfold extIndexByte at h
  split at h
  · rename_i s c
    obtain rfl := Option.some.inj h
    refine ⟨fun Z vs gs0 hen _ => ?_, rfl⟩
    have hl := hen.len
    match vs, hl with
    | [v0, v1], _ =>
      have e0 := hen.env 0 v0 rfl
      have e1 := hen.env 1 v1 rfl
      simp [initEnv, lentAt] at e0 e1
      simp only [VV, VC, FRep, List.cons.injEq, and_true] at e0 e1
      subst e0 e1
      intro o a next Q hnext
      have hrun : (callFunc f [Value.string ⟨s.toArray⟩, Value.int .u8 c].toArray).run P Z.w0 = .ok (.value (.int .i64 (Go.Lib.indexByte s c.toNat.toUInt8))) Z.w0 := by
        have := Go.Lib.run_indexByteString (P := P) (⟨s.toArray⟩ : ByteArray) c Z.w0
        simp at this
        simp [callFunc, hf, hn, hb, h1, h2, this]
      rw [hrun]
      exact hnext _ _ (resOk_int hen _ _)
  · cases h
end Go.Lft

/- Pieces of externals: a function with a body, rows of whole numbers. -/
namespace Go.Lft

/-- A function with a body, whose calls the kit tells. -/
theorem callsTo_of {P : Program} {W : World} {f : FuncId} {fn : Func} (hf : P.funcs[f]? = some fn) {c : Code} (hb : fn.body = some c) (hn : (fn.name == "runtime.NumGoroutine") = false) {vs : Array Value} {K : Value → World → Prop}
    (h : Calls P f vs W fun e w' => ∃ v, e = .returned v ∧ K v w') : CallsTo P f vs W K := by
  intro o a next Q hnext
  have hrun : (callFunc f vs).run P W = .ok (.enter f vs) W := by
    unfold callFunc
    have hname' : ¬ fn.name = "runtime.NumGoroutine" := by simpa using hn
    simp [hf, hname', hb]
  rw [hrun, Oper.upon_enter]
  refine Calls.mono h fun e w' he => ?_
  obtain ⟨v, rfl, hk⟩ := he
  exact hnext v w' hk

section
variable {Z : Zone} {gs : Rid → Option G} {hs : List M} {Fz : Nat → Prop} {w w' : World}

/-- Elements of a row of a root's have been written in place. -/
theorem row_written {ms : List M} (hm : Mem Z gs ms Fz w) {r : Rid} {x : G} {p : List Stp} {g tg te e i : Nat} {ys : List M} {rest : List Value} {fr : Nat × Nat} (hx : gs r = some x) (hz : M.get x.m p = some (.lst g tg te e ys rest fr))
    (hc : ∀ m ∈ ms, (M.cells m).length = e) (hi : i + ms.length ≤ ys.length) (r2 : Written w w' g (i * e) (M.cellsL ms)) (r3 : w'.heap.size = w.heap.size) (r4 : Same w w') :
    Mem Z (upd gs r (some (x.put p (.lst g tg te e (ys.take i ++ ms ++ ys.drop (i + ms.length)) rest fr)))) [] Fz w' := by
  obtain ⟨hzok, hzin⟩ := hm.part hx hz
  obtain ⟨j, hp1, hp2, hp3, hp4, _⟩ := hm.pull hx hz
  have hhead := hp1.head
  have htail := hp1.tail
  simp only [M.Ok] at hzok
  obtain ⟨o1, o2, o3, ⟨k, o4, o4'⟩, o5, o6⟩ := hzok
  simp only [M.In] at hzin
  obtain ⟨L, c, R, c1, c2, c3, c4⟩ := cellsL_mid (rest := rest) o3 hc hi
  have hlen2 : (ys.take i ++ ms ++ ys.drop (i + ms.length)).length = ys.length := by simp; omega
  have hnd := hhead.2.2.1
  simp only [M.ids, List.nodup_cons] at hnd
  rw [← c2] at r2
  have hrw := (show Mem Z _ (.lst g tg te e ys rest fr :: (ms ++ [])) Fz w by rw [List.append_nil]; exact hp1).row_write (k := k) (ys' := ys.take i ++ ms ++ ys.drop (i + ms.length)) (rest' := rest) c1 r2 c3 r3 r4 c4
    (fun y hy => by
      simp only [List.mem_append] at hy
      rcases hy with (h | h) | h
      · exact .inl (List.mem_of_mem_take h)
      · exact .inr h
      · exact .inl (List.mem_of_mem_drop h))
    (idsL_mid hnd.2 htail.hnd (fun g' hg' => hhead.2.2.2.2.2 g' (by simp only [M.ids, List.mem_cons]; exact .inr hg')) i ms.length)
    (fun y hy => by
      simp only [List.mem_append] at hy
      rcases hy with (h | h) | h
      · exact o3 y (List.mem_of_mem_take h)
      · exact hc y h
      · exact o3 y (List.mem_of_mem_drop h))
    o4 (by rw [hlen2]; exact o4') (by rw [hlen2])
  exact hrw.back hz (by rw [hp2]; simp only [M.cells, hlen2]) (by rw [hp3]; rfl)

end

/-! ### The sort -/
def intsOf : List D → Option (List Int)
  | [] => some []
  | .int .i64 n :: l => (intsOf l).map (n :: ·)
  | _ => none
theorem intsOf_map : ∀ {l : List D} {zs : List Int}, intsOf l = some zs → l = zs.map (.int .i64)
  | [], zs, h => by simp only [intsOf, Option.some.injEq] at h; subst h; rfl
  | d :: l, zs, h => by
    unfold intsOf at h
    split at h
    · rename_i h1; cases h1
    · rename_i n l' h1
      injection h1 with h1 h2
      subst h1 h2
      simp only [Option.map_eq_some_iff] at h
      obtain ⟨ys, h3, rfl⟩ := h
      rw [intsOf_map h3]; rfl
    · cases h
@[simp] theorem intsOf_ints : ∀ zs : List Int, intsOf (zs.map (.int .i64)) = some zs
  | [] => rfl
  | z :: zs => by simp [intsOf, intsOf_ints zs]
def sortL (zs : List Int) : List Int := zs.mergeSort fun x y => decide (x ≤ y)
theorem sortL_len (zs : List Int) : (sortL zs).length = zs.length := by simp [sortL]
def extSort : List D → Option (D × List D)
  | [.lst true te e xs] => if e = 1 ∧ xs.length ≤ 16777216 then (intsOf xs).map fun zs => (.tup [], [.lst true te 1 ((sortL zs).map (.int .i64))]) else none
  | _ => none
def leafI (n : Int) : M := .leaf (.int .i64 n) (.int .i64 n)
theorem leafI_data (zs : List Int) : M.dataL (zs.map leafI) = zs.map (.int .i64) := by
  induction zs with
  | nil => rfl
  | cons z zs ih => simp only [List.map_cons, M.dataL, ih]; rfl
theorem leafI_cells (zs : List Int) : M.cellsL (zs.map leafI) = zs.map (.int .i64) := by
  induction zs with
  | nil => rfl
  | cons z zs ih => simp only [List.map_cons, M.cellsL, ih]; rfl
theorem cells_ints {w : World} {Fz : Nat → Prop} : ∀ {ys : List M} {zs : List Int}, M.OkL w Fz ys → M.dataL ys = zs.map (.int .i64) → M.cellsL ys = zs.map (.int .i64)
  | [], [], _, _ => rfl
  | [], _ :: _, _, h => by simp [M.dataL] at h
  | _ :: _, [], _, h => by simp [M.dataL] at h
  | y :: ys, z :: zs, hok, h => by
    simp only [M.OkL] at hok
    simp only [M.dataL, List.map_cons, List.cons.injEq] at h
    obtain ⟨h1, h2⟩ := h
    simp only [M.cellsL, List.map_cons, cells_ints hok.2 h2]
    cases y with
    | leaf v d =>
      simp only [M.data] at h1
      subst h1
      have := hok.1
      simp only [M.Ok, FRep, List.cons.injEq, and_true] at this
      simp [M.cells, this.1]
    | agg xs => simp [M.data] at h1
    | lst g tg te e xs rest fr => simp [M.data] at h1
theorem leafI_ok {w : World} {Fz : Nat → Prop} (zs : List Int) : M.OkL w Fz (zs.map leafI) ∧ M.InL w (zs.map leafI) ∧ M.idsL (zs.map leafI) = [] := by
  induction zs with
  | nil => exact ⟨trivial, trivial, rfl⟩
  | cons z zs ih =>
    simp only [List.map_cons, M.OkL, M.InL, M.idsL, ih.1, ih.2.1, ih.2.2, and_true]
    exact ⟨by simp [leafI, M.Ok, FRep, isAgg], by simp [leafI, M.In], by simp [leafI, M.ids]⟩
theorem lent_row {Z : Zone} {md : List Nat} {args : List D} {vs : List Value} {gs0 : Rid → Option G} (hen : EntryOk Z md args vs gs0) {t te e : Nat} {xs : List D} (hl : lentAt md t = true) (ha : args[t]? = some (.lst true te e xs)) {v : Value} (hv : vs[t]? = some v) (hte : te < 1000000) :
    ∃ x, gs0 (t, 99) = some x ∧ ((∃ g ys rest, x.m = .lst g te te e ys rest (0, 0) ∧ M.dataL ys = xs ∧ 0 < e ∧ (∀ y ∈ ys, (M.cells y).length = e) ∧ M.OkL Z.w0 Z.Fz0 ys ∧ (∃ k, rest.length = k * e ∧ ys.length + k ≤ maxLen ∧ v = .slice (some ⟨g, 0, none⟩) ys.length (ys.length + k)) ∧ Z.w0.heap[g]? = some (rowObj te (M.cellsL ys ++ rest) (0, 0))) ∨ (xs = [] ∧ x.m = .leaf (.slice none 0 0) (.lst true te e []) ∧ v = .slice none 0 0)) := by
  have e0 := hen.env t v hv
  have hr := hen.rs (t, 99)
  simp only [initEnv, ha, hl, if_true] at e0
  simp only [initRs, hl, and_self, if_true, ha, Option.bind_some] at hr
  cases hx : gs0 (t, 99) with
  | none => rw [hx] at hr; cases hr
  | some x =>
    rw [hx] at hr
    simp only [Option.map_some, Option.some.injEq, G.root, Root.mk.injEq] at hr
    obtain ⟨hb, hd⟩ := hr
    have hbx : x.bx = none := by cases hxb : x.bx with | none => rfl | some b => rw [hxb] at hb; cases hb
    obtain ⟨x2, m2, hx2, hz2, hs⟩ := e0.slc_inv
    rw [hx] at hx2
    obtain rfl := Option.some.inj hx2
    rw [M.get_nil] at hz2
    obtain rfl := Option.some.inj hz2
    have hok := hen.mem.ok _ _ hx
    have hin := hen.mem.ins _ _ hx
    refine ⟨x, rfl, ?_⟩
    rcases row_cases hd.symm hok with ⟨_, g, te', ys, rest, fr, he, hys⟩ | ⟨_, hnil, he⟩ | ⟨hh, _⟩
    · obtain ⟨a', c, rfl, q1, q2, q3⟩ := slcVal_own hs he
      obtain rfl := q3 (.inr rfl)
      rw [he] at hok
      simp only [M.Ok] at hok
      obtain ⟨o1, o2, o3, ⟨k, o4, o4'⟩, o5, o6⟩ := hok
      obtain ⟨rfl, rfl⟩ := o5 hte
      have hinm : M.In Z.w0 x.m := hin.2
      rw [he] at hinm
      simp only [M.In] at hinm
      have hyl : ys.length = xs.length := by have := congrArg List.length hys; rw [M.dataL_length] at this; exact this.symm
      have hkk : rest.length / e = k := by rw [o4]; exact Nat.mul_div_cancel _ o1
      rw [hkk] at q2
      refine .inl ⟨g, ys, rest, he, hys.symm, o1, o3, o2, ⟨k, o4, o4', ?_⟩, hinm.1⟩
      rw [hyl, Nat.zero_mul, show c = xs.length + k by omega]
    · refine .inr ⟨hnil, he, ?_⟩
      obtain ⟨own1, te1, e1, xs1, ad, n, cap, a', c, j1, j2, rfl, j4, j5, j6⟩ := hs
      rw [he] at j1 j2
      simp only [M.data, D.lst.injEq] at j1
      obtain ⟨_, rfl, rfl, rfl⟩ := j1
      simp only [M.cells, List.cons.injEq, Value.slice.injEq, and_true] at j2
      obtain ⟨rfl, rfl, rfl⟩ := j2
      have ha := j6 (.inr rfl)
      simp at ha
      subst ha
      rw [show c = 0 by omega, hnil]
      rfl
    · cases hh
end Go.Lft

/- The sort of whole numbers of Go's library, by the kit's contract: what it comes to. -/
namespace Go.Lft

theorem put_heap {w : World} {n g te : Nat} {fr : Nat × Nat} {c rest : List Value} {zs : List Int} (hl : c.length = zs.length) (hg : w.heap[g]? = some (rowObj te (c ++ rest) fr)) :
    (Go.Sort.putRow (Value.int .i64) (Go.Sort.ahead w n) g 0 zs.toArray).heap[g]? = some (rowObj te ([] ++ zs.map (.int .i64) ++ rest) fr) := by
  simp only [Go.Sort.putRow, Go.Sort.mapBlock, Go.Sort.ahead, Array.getElem?_modify, if_true, hg, Option.map_some, rowObj, Go.Sort.onCells, List.nil_append]
  congr 2
  apply Array.ext'
  apply List.ext_getElem?
  intro i
  simp only [Go.Sort.putCells]
  by_cases h : i < zs.length
  · simp [h, List.getElem?_append_left, hl]
  · rcases Nat.lt_or_ge i (c ++ rest).length with h2 | h2
    · simp at h2
      simp [h, List.getElem?_append_right, hl, Nat.le_of_not_lt h]
    · simp at h2
      simp [h, List.getElem?_append_right, hl, Nat.le_of_not_lt h]
theorem ext_sort {P : Program} {ρ : Go.Shelf.Ren} (L : Go.Proofs.Lays.n189 P ρ) {args : List D} {res : D × List D} {kn : World → Prop} (h : extSort args = some res) : FunOk P kn [0] (ρ.f 189) args res ∧ resPlain res.1 = true := by
  unfold extSort at h
  split at h
  · rename_i te e xs
    split at h
    · rename_i hc
      obtain ⟨rfl, hlen⟩ := hc
      simp only [Option.map_eq_some_iff] at h
      obtain ⟨zs, hzs, rfl⟩ := h
      obtain rfl := intsOf_map hzs
      refine ⟨fun Z vs gs0 hen _ => ?_, rfl⟩
      have hl := hen.len
      match vs, hl with
      | [v0], _ =>
        have e0 := hen.env 0 v0 rfl
        have hr := hen.rs (0, 99)
        simp [initEnv, initRs, lentAt] at e0 hr
        cases hx : gs0 (0, 99) with
        | none => rw [hx] at hr; cases hr
        | some x =>
          rw [hx] at hr
          simp only [Option.map_some, Option.some.injEq, G.root, Root.mk.injEq] at hr
          obtain ⟨hb, hd⟩ := hr
          have hbx : x.bx = none := by cases hxb : x.bx with | none => rfl | some b => rw [hxb] at hb; cases hb
          obtain ⟨x2, m2, hx2, hz2, hs⟩ := e0.slc_inv
          rw [hx] at hx2
          obtain rfl := Option.some.inj hx2
          have hz := hz2
          rw [M.get_nil] at hz2
          obtain rfl := Option.some.inj hz2
          have hok := hen.mem.ok _ _ hx
          have hin := hen.mem.ins _ _ hx
          refine callsTo_of (fn := Go.Proofs.Body.n189 ρ) L.f189 rfl rfl ?_
          have fin : ∀ (w' : World) (x' : G), Mem Z (upd gs0 (0, 99) (some x')) [] Z.Fz0 w' → x'.bx = none → M.data x'.m = .lst true te 1 ((sortL zs).map (.int .i64)) → ResOk Z [0] (.tup [], [.lst true te 1 ((sortL zs).map (.int .i64))]) (.tuple #[]) w' := by
            intro w' x' h1 h2 h3
            refine ⟨_, _, _, h1, ⟨[], rfl, trivial⟩, ?_⟩
            simp only [LentOk, and_true]
            exact ⟨x', upd_self .., by simp [backD, h2, h3]⟩
          rcases row_cases hd.symm hok with ⟨_, g, te', ys, rest, fr, he, hys⟩ | ⟨_, hnil, he⟩ | ⟨hh, _⟩
          · obtain ⟨a', c, rfl, e1, e2, e3⟩ := slcVal_own hs he
            obtain rfl := e3 (.inr rfl)
            have hokm := hok
            rw [he] at hok
            simp only [M.Ok] at hok
            obtain ⟨o1, o2, o3, o4, o5, o6⟩ := hok
            have hinm : M.In Z.w0 x.m := hin.2
            rw [he] at hinm
            simp only [M.In] at hinm
            have hcl : M.cellsL ys = zs.map (.int .i64) := cells_ints o2 hys.symm
            have hyl : ys.length = zs.length := by have := congrArg List.length hys; rw [M.dataL_length, List.length_map] at this; exact this.symm
            have hblk : g < Z.w0.heap.size := (Array.getElem?_eq_some_iff.1 hinm.1).1
            have hH : Go.Sort.Holds (Value.int .i64) Z.w0 g 0 zs.toArray := by
              intro j hj
              have hj' : j < zs.length := by simpa using hj
              have hg := hinm.1
              rw [hcl] at hg
              refine ⟨?_, ?_⟩
              · simp [World.cell?, hg, rowObj, List.getElem?_append_left, hj']
              · have := o6 j (by omega)
                simp [World.frozen?, hg, rowObj]
                omega
            simp at hlen
            refine Calls.mono (Go.Proofs.Any.slices_Sort_int L g 0 c zs Z.w0 hH hblk (by omega)) ?_
            rintro e w' ⟨rfl, n, os, rfl⟩
            refine ⟨_, rfl, ?_⟩
            have hms : Mem Z gs0 ((sortL zs).map leafI) Z.Fz0 Z.w0 := by
              have := hen.mem.leaves (leafI_ok (w := Z.w0) (Fz := Z.Fz0) (sortL zs)).1 (leafI_ok (w := Z.w0) (Fz := Z.Fz0) (sortL zs)).2.1 (leafI_ok (w := Z.w0) (Fz := Z.Fz0) (sortL zs)).2.2
              rwa [List.append_nil] at this
            have hml : ((sortL zs).map leafI).length = ys.length := by rw [List.length_map, sortL_len, hyl]
            have hwr : Written Z.w0 (Go.Sort.putRow (Value.int .i64) (Go.Sort.ahead Z.w0 n) g 0 (sortL zs).toArray) g (0 * 1) (M.cellsL ((sortL zs).map leafI)) := by
              refine ⟨te', fr, [], M.cellsL ys, rest, rfl, ?_, by simpa using hinm.1, ?_, ?_⟩
              · rw [leafI_cells, hcl, List.length_map, List.length_map, sortL_len]
              · rw [leafI_cells]
                exact put_heap (by rw [hcl, List.length_map, sortL_len]) hinm.1
              · intro g' hg'
                simp [Go.Sort.putRow, Go.Sort.mapBlock, Go.Sort.ahead, Array.getElem?_modify, Ne.symm hg']
            have hrow := row_written hms hx (by rw [hz, he]) (fun m hm => by obtain ⟨k, _, rfl⟩ := List.mem_map.1 hm; rfl) (by omega) hwr (by simp [Go.Sort.putRow, Go.Sort.mapBlock, Go.Sort.ahead]) ⟨rfl, rfl, rfl⟩
            have hmid : ys.take 0 ++ (sortL zs).map leafI ++ ys.drop (0 + ((sortL zs).map leafI).length) = (sortL zs).map leafI := by
              rw [hml, Nat.zero_add, List.drop_length]; simp
            rw [hmid] at hrow
            refine fin _ _ (hrow.world (fun g' hg' => ?_) ?_ ⟨rfl, rfl, rfl⟩) (by simp [G.put, hbx]) ?_
            · simp only [Go.Sort.grow]
              exact Array.getElem?_append_left hg'
            · simp [Go.Sort.grow]
            · simp only [G.put, M.put_nil, M.data, leafI_data]
          · obtain ⟨a', c, rfl⟩ := slc_value e0.slc_inv
            have hz0 : zs = [] := by simpa using hnil
            subst hz0
            refine Calls.mono (Go.Proofs.Any.slices_Sort_int_none L a' c Z.w0) ?_
            rintro e w' ⟨rfl, rfl⟩
            refine ⟨_, rfl, fin _ x ?_ hbx (by rw [← hd]; simp [sortL])⟩
            rw [upd_same hx]; exact hen.mem
          · cases hh
    · cases h
  · cases h
end Go.Lft

/- strings.Join and strconv.Itoa (below a hundred) of Go's library, by the kit's contracts: what they come to; internal/bytealg.CountString. -/
namespace Go.Lft
open Go.Proofs Go.Shelf Go.RowKit

/-- A call that hands back a text; the world may have grown. -/
theorem resOk_str {Z : Zone} {gs : Rid → Option G} {hs : List M} {w' : World} (hmem : Mem Z gs hs Z.Fz0 Z.w0) (hb : Below Z.w0.heap.size Z.w0 w') {md : List Nat} {back : List D} (hl : LentOk gs md back) (s : List UInt8) :
    ResOk Z md (.str s, back) (.string ⟨s.toArray⟩) w' := by
  refine ⟨gs, Z.Fz0, [.leaf (.string ⟨s.toArray⟩) (.str s)], ((hmem.nil).leaf (m := .leaf (.string ⟨s.toArray⟩) (.str s)) (by simp only [M.Ok, FRep]; exact ⟨trivial, rfl⟩) (by simp only [M.In]) rfl).world (fun g hg => hb.block g hg) hb.size ⟨hb.os, hb.tape, hb.output⟩, ?_, hl⟩
  simp only [ResV, ResL, and_true]
  exact ⟨rfl, rfl, fun h => by simp [M.data, isAgg] at h, fun _ => rfl⟩

def extItoa : List D → Option (D × List D)
  | [.int .i64 n] => if 0 ≤ n ∧ n < 100 then some (.str (Go.Lib.decDigits n.toNat), []) else none
  | _ => none
theorem ext_itoa {P : Program} {ρ : Ren} (L : Lays.n171 P ρ) {args : List D} {res : D × List D} {kn : World → Prop} (h : extItoa args = some res) : FunOk P kn [] (ρ.f 171) args res ∧ resPlain res.1 = true := by
  unfold extItoa at h
  split at h
  · rename_i n
    split at h
    · rename_i hn
      obtain rfl := Option.some.inj h
      refine ⟨fun Z vs gs0 hen _ => ?_, rfl⟩
      have hl := hen.len
      match vs, hl with
      | [v0], _ =>
        have e0 := hen.env 0 v0 rfl
        simp [initEnv, lentAt] at e0
        simp only [VV, VC, FRep, List.cons.injEq, and_true] at e0
        subst e0
        refine callsTo_of (fn := Body.n171 ρ) L.f171 rfl rfl ?_
        obtain ⟨k, rfl⟩ : ∃ k : Nat, n = k := ⟨n.toNat, by omega⟩
        refine Calls.mono (Any.strconv_Itoa_small L k (by omega) Z.w0) ?_
        rintro E w' ⟨rfl, rfl⟩
        refine ⟨_, rfl, ?_⟩
        rw [Int.toNat_natCast]
        exact resOk_str hen.mem (Below.refl _ _) (by simp only [LentOk]) _
    · cases h
  · cases h

/-- strconv.Itoa at every number, where Go's table of powers of ten is known to stand. -/
def tab10 (P : Program) (W : World) : Prop := Go.Lib.TabIs P W "internal/strconv.uint64pow10" .u64 Go.Lib.pow10Tab
theorem tab10_stay {P : Program} {W : World} (h : tab10 P W) (W' : World) (hs : ∀ g, g < W.heap.size → W'.heap[g]? = W.heap[g]?) : tab10 P W' := by
  unfold tab10 Go.Lib.TabIs World.var? at h ⊢
  cases hg : P.globalNamed "internal/strconv.uint64pow10" with
  | none => rw [hg] at h; cases h
  | some g =>
    rw [hg] at h
    simp only [Option.bind_some] at h ⊢
    rcases Nat.lt_or_ge g W.heap.size with hq | hq
    · rw [hs g hq]; exact h
    · rw [Array.getElem?_eq_none hq] at h; cases h
theorem below_grown' (w : World) (k : Nat) (os : Array Obj) : Below w.heap.size w (Sort.grow (w.drewN k) os) :=
  ⟨rfl, rfl, rfl, by show w.heap.size ≤ (w.heap ++ os).size; rw [Array.size_append]; omega, fun j hj => by
    show (w.heap ++ os)[j]? = _
    rw [Array.getElem?_append_left hj]⟩
def extItoaT : List D → Option (D × List D)
  | [.int .i64 n] => if -9223372036854775808 ≤ n ∧ n ≤ 9223372036854775807 then some (.str (Go.Lib.itoa n), []) else none
  | _ => none
theorem ext_itoaT {P : Program} {ρ : Ren} (L : LaysM.n171 P ρ) {args : List D} {res : D × List D} (h : extItoaT args = some res) : FunOk P (tab10 P) [] (ρ.f 171) args res ∧ resPlain res.1 = true := by
  unfold extItoaT at h
  split at h
  · rename_i n
    split at h
    · rename_i hn
      obtain rfl := Option.some.inj h
      refine ⟨fun Z vs gs0 hen hkn => ?_, rfl⟩
      have hl := hen.len
      match vs, hl with
      | [v0], _ =>
        have e0 := hen.env 0 v0 rfl
        simp [initEnv, lentAt] at e0
        simp only [VV, VC, FRep, List.cons.injEq, and_true] at e0
        subst e0
        refine callsTo_of (fn := Body.n171 ρ) L.f171 rfl rfl ?_
        have htab : tab10 P Z.w0 := hkn ▸ Z.knOk Z.w0 (fun _ _ => rfl)
        refine Calls.mono (Any.strconv_Itoa L n hn.1 hn.2 Z.w0 htab) ?_
        rintro E w' ⟨rfl, k, os, rfl⟩
        exact ⟨_, rfl, resOk_str hen.mem (below_grown' _ k os) (by simp only [LentOk]) _⟩
    · cases h
  · cases h

def strsOf : List D → Option (List (List UInt8))
  | [] => some []
  | .str n :: l => (strsOf l).map (n :: ·)
  | _ => none
theorem strsOf_map : ∀ {l : List D} {zs : List (List UInt8)}, strsOf l = some zs → l = zs.map .str
  | [], zs, h => by simp only [strsOf, Option.some.injEq] at h; subst h; rfl
  | d :: l, zs, h => by
    unfold strsOf at h
    split at h
    · rename_i h1; cases h1
    · rename_i n l' h1
      injection h1 with h1 h2
      subst h1 h2
      simp only [Option.map_eq_some_iff] at h
      obtain ⟨ys, h3, rfl⟩ := h
      rw [strsOf_map h3]; rfl
    · cases h
@[simp] theorem strsOf_strs : ∀ zs : List (List UInt8), strsOf (zs.map .str) = some zs
  | [] => rfl
  | z :: zs => by simp [strsOf, strsOf_strs zs]
theorem cells_strs {w : World} {Fz : Nat → Prop} : ∀ {ys : List M} {zs : List (List UInt8)}, M.OkL w Fz ys → M.dataL ys = zs.map .str → M.cellsL ys = zs.map fun z => .string ⟨z.toArray⟩
  | [], [], _, _ => rfl
  | [], _ :: _, _, h => by simp [M.dataL] at h
  | _ :: _, [], _, h => by simp [M.dataL] at h
  | y :: ys, z :: zs, hok, h => by
    simp only [M.OkL] at hok
    simp only [M.dataL, List.map_cons, List.cons.injEq] at h
    obtain ⟨h1, h2⟩ := h
    simp only [M.cellsL, List.map_cons, cells_strs hok.2 h2]
    cases y with
    | leaf v d =>
      simp only [M.data] at h1
      subst h1
      have := hok.1
      simp only [M.Ok, FRep, List.cons.injEq, and_true] at this
      simp [M.cells, this.1]
    | agg xs => simp [M.data] at h1
    | lst g tg te e xs rest fr => simp [M.data] at h1
def extJoin (t0 : Nat) : List D → Option (D × List D)
  | [.lst true te e xs, .str sep] => if e = 1 ∧ te = t0 ∧ te < 1000000 ∧ xs.length ≤ 16777216 then (strsOf xs).bind fun zs => if (Go.Lib.join zs sep).length ≤ 16777216 then some (.str (Go.Lib.join zs sep), [.undef]) else none else none
  | _ => none
theorem ext_join {P : Program} {ρ : Ren} (L : Lays.n156 P ρ) (X : Builder.Extra P ρ) {t0 : Nat} {args : List D} {res : D × List D} {kn : World → Prop} (h : extJoin t0 args = some res) : FunOk P kn [1000] (ρ.f 156) args res ∧ resPlain res.1 = true := by
  unfold extJoin at h
  split at h
  · rename_i te e xs sep
    split at h
    · rename_i hc
      obtain ⟨rfl, rfl, ht, hlen⟩ := hc
      simp only [Option.bind_eq_some_iff] at h
      obtain ⟨zs, hzs, h⟩ := h
      split at h
      · rename_i hj
        obtain rfl := Option.some.inj h
        obtain rfl := strsOf_map hzs
        refine ⟨fun Z vv gs0 hen _ => ?_, rfl⟩
        have hl := hen.len
        match vv, hl with
        | [v0, v1], _ =>
          have e1 := hen.env 1 v1 rfl
          simp [initEnv, lentAt] at e1
          simp only [VV, VC, FRep, List.cons.injEq, and_true] at e1
          subst e1
          obtain ⟨x1, hx1, hr1⟩ := lent_row hen (t := 0) (by decide) rfl rfl ht
          have hmem := hen.mem.lift hx1
          have lent : ∀ gs, LentOk gs [1000] [D.undef] := fun gs => by simp [LentOk]
          refine callsTo_of (fn := Body.n156 ρ) L.f156 rfl rfl ?_
          rcases hr1 with ⟨g, ys, rest, hm1, hd1, p1, p3, p2, ⟨k, p4, p4', rfl⟩, hb1⟩ | ⟨hnil, hm1, rfl⟩
          · rw [hm1] at hmem
            have hcl := cells_strs p2 hd1
            have hyl : ys.length = zs.length := by have := congrArg List.length hd1; rw [M.dataL_length, List.length_map] at this; exact this
            simp at hlen
            have hbk : g < Z.w0.heap.size := by
              rcases Nat.lt_or_ge g Z.w0.heap.size with hq | hq
              · exact hq
              · rw [Array.getElem?_eq_none hq] at hb1; cases hb1
            have hdata : (zs.map (fun z => (⟨z.toArray⟩ : ByteArray))).map (·.data.toList) = zs := by rw [List.map_map]; exact List.map_id' _
            have hw := Any.strings_Join L X g 0 (ys.length + k) (zs.map (fun z => (⟨z.toArray⟩ : ByteArray))) ⟨sep.toArray⟩ Z.w0 (by
              intro j x hj
              have hg := hb1
              rw [hcl] at hg
              rw [List.getElem?_map, Option.map_eq_some_iff] at hj
              obtain ⟨z, hz, rfl⟩ := hj
              have hj' : j < zs.length := (List.getElem?_eq_some_iff.1 hz).1
              have hz' : zs[j] = z := (List.getElem?_eq_some_iff.1 hz).2
              simp [World.cell?, hg, rowObj, List.getElem?_append_left, hj', hz']) hbk (by simp; omega) (by simp; omega) (by rw [hdata]; simp; omega)
            rw [hdata] at hw
            simp only [List.length_map] at hw
            rw [← hyl] at hw
            refine Calls.mono hw ?_
            rintro E w' ⟨rfl, hb⟩
            exact ⟨_, rfl, resOk_str hmem hb (lent _) _⟩
          · have hz0 : zs = [] := by simpa using hnil
            subst hz0
            refine Calls.mono (Any.strings_Join_none L X none 0 ⟨sep.toArray⟩ Z.w0) ?_
            rintro E w' ⟨rfl, rfl⟩
            exact ⟨_, rfl, resOk_str hmem (Below.refl _ _) (lent _) _⟩
      · cases h
    · cases h
  · cases h

def extCount : List D → Option (D × List D)
  | [.str s, .int .u8 c] => some (.int .i64 (Go.Lib.countByte s c.toNat.toUInt8), [])
  | _ => none
theorem ext_count {P : Program} {f : FuncId} {fn : Func} (hf : P.funcs[f]? = some fn) (hb : fn.body = none) (hn : fn.name = "internal/bytealg.CountString")
    (h1 : Extern.findNext fn = none) (h2 : Extern.find fn = some Extern.BytealgCount.count) {args : List D} {res : D × List D} {kn : World → Prop} (h : extCount args = some res) : FunOk P kn [] f args res ∧ resPlain res.1 = true := by
  unfold extCount at h
  split at h
  · rename_i s c
    obtain rfl := Option.some.inj h
    refine ⟨fun Z vs gs0 hen _ => ?_, rfl⟩
    have hl := hen.len
    match vs, hl with
    | [v0, v1], _ =>
      have e0 := hen.env 0 v0 rfl
      have e1 := hen.env 1 v1 rfl
      simp [initEnv, lentAt] at e0 e1
      simp only [VV, VC, FRep, List.cons.injEq, and_true] at e0 e1
      subst e0 e1
      intro o a next Q hnext
      have hrun : (callFunc f [Value.string ⟨s.toArray⟩, Value.int .u8 c].toArray).run P Z.w0 = .ok (.value (.int .i64 (Go.Lib.countByte s c.toNat.toUInt8))) Z.w0 := by
        have := Go.Lib.run_countString (P := P) (⟨s.toArray⟩ : ByteArray) c Z.w0
        simp at this
        simp [callFunc, hf, hn, hb, h1, h2, this]
      rw [hrun]
      exact hnext _ _ (resOk_int hen _ _)
  · cases h
end Go.Lft

