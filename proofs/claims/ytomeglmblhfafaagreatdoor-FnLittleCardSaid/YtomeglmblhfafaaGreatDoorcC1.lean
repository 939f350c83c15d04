/- Draws: the cursor, its small steps. -/
import Derived.Test.YtomeglmblhfafaaGreatDoorcA2
set_option linter.unusedSectionVars false
set_option linter.all false
set_option linter.unusedVariables false
set_option linter.unusedSimpArgs false
set_option maxRecDepth 100000
namespace Go.Proofs.YtomeglmblhfafaaGreatDoor
open Go.Lft

/-- A cursor over the bytes of a draw. -/
structure Cur where
  code : S
  i : Nat
  h : Int
  hc : code.length ≤ 1048576
def encCur (c : Cur) : D := .agg [.lst false 5 1 (ofBytes c.code), .int .i64 c.i, .int .i64 c.h]
@[simp] theorem fr_ofBytes (s : S) : D.freezeL (ofBytes s) = ofBytes s := by
  unfold ofBytes; exact fr_map _ _ (by simp) s
@[simp] theorem fr_cur (c : Cur) : D.freeze (encCur c) = encCur c := by unfold encCur; simp
@[simp] theorem cold_cur (c : Cur) : D.cold (encCur c) = true := by unfold encCur; simp
@[simp] theorem size_cur (c : Cur) : D.size (encCur c) = 3 := by unfold encCur; simp
@[simp] theorem isAgg_cur (c : Cur) : Go.Lft.isAgg (encCur c) = true := by unfold encCur; rfl
theorem bAnd_le (a : Int) {m : Nat} (hm : m ≤ 4294967296) : 0 ≤ Go.Lft.Set.bAnd .i64 a m ∧ Go.Lft.Set.bAnd .i64 a m ≤ m := by
  have h1 : (BitVec.ofInt 64 a &&& BitVec.ofInt 64 (m : Int)).toNat ≤ m := by
    rw [BitVec.toNat_and]
    refine Nat.le_trans Nat.and_le_right ?_
    simp [BitVec.toNat_ofInt]
    omega
  have h2 : Go.Lft.Set.bAnd .i64 a m = (BitVec.ofInt 64 a &&& BitVec.ofInt 64 (m : Int)).toNat := by
    unfold Go.Lft.Set.bAnd
    exact wrap_in (by omega) (by show (((BitVec.ofInt 64 a &&& BitVec.ofInt 64 (m : Int)).toNat : Nat) : Int) ≤ _; omega)
  omega
def isInt (d : D) : Prop := ∃ h, d = .int .i64 h
@[simp] theorem isInt_int (h : Int) : isInt (.int .i64 h) = True := by simp [isInt]
/-- An existence of an answer, parted. -/
def Res {α : Type} (P : α → Prop) (v : α → D × List D) (res : D × List D) : Prop := ∃ r : α, P r ∧ res = v r
theorem ex_split {α : Type} {P : α → Prop} {v : α → D × List D} {x : Option (D × List D)} (h : ∃ res, Res P v res ∧ x = some res) : ∃ r : α, P r ∧ x = some (v r) := by
  obtain ⟨res, ⟨r, h1, rfl⟩, h2⟩ := h
  exact ⟨r, h1, h2⟩
@[simp] theorem ofBytes_get (s : S) (i : Nat) (h : i < s.length) : (ofBytes s)[i]'(by simpa using h) = .int .u8 s[i].toNat := by simp [ofBytes]
theorem ex_l01Byte (c : Cur) : ∃ r : Int × Cur, (0 ≤ r.1 ∧ r.1 ≤ 255) ∧ lim E 142 [.pto (encCur c)] = some (.int .i64 r.1, [.pto (encCur r.2)]) := by
  refine ex_split ?_
  conv => enter [1, res, 2, 1]; unfold encCur
  have hc := c.hc
  refine lim_ex (E := E) rfl Tryz.func142 rfl (by kernel_rfl) (by kernel_rfl) ?_
  simp [Tryz.f142, tmpAt]
  generalize Go.Lft.Set.bXor .i64 _ _ = y
  generalize IntKind.i64.wrap (IntKind.i64.wrap (c.h * _) + _) = h'
  have ha := bAnd_le y (m := 255) (by omega)
  refine RB_dec ?_ ?_ <;> intro h <;> simp
  · have hi : c.i < c.code.length := by omega
    have hw := wrap_up (show c.i < 4611686018427387904 by omega)
    simp [hi, hw]
    generalize IntKind.i64.wrap (Go.Lft.Set.bAnd _ _ _ + _) = z
    have hb := bAnd_le z (m := 255) (by omega)
    exact ⟨(_, ⟨c.code, c.i + 1, h', c.hc⟩), hb, rfl⟩
  · exact ⟨(_, ⟨c.code, c.i, h', c.hc⟩), ha, rfl⟩
noncomputable def byte (c : Cur) : Int × Cur := (ex_l01Byte c).choose
theorem byte_in (c : Cur) : 0 ≤ (byte c).1 ∧ (byte c).1 ≤ 255 := (ex_l01Byte c).choose_spec.1
@[simp] theorem eq_l01Byte (c : Cur) : lim E 142 [.pto (encCur c)] = some (.int .i64 (byte c).1, [.pto (encCur (byte c).2)]) := (ex_l01Byte c).choose_spec.2
theorem tmod_in {a n : Int} (ha : 0 ≤ a) (hn : 0 < n) : 0 ≤ a.tmod n ∧ a.tmod n < n := by
  rw [Int.tmod_eq_emod_of_nonneg ha]
  exact ⟨Int.emod_nonneg _ (by omega), Int.emod_lt_of_pos _ hn⟩
theorem ex_l01Below (c : Cur) (n : Int) : ∃ r : Int × Cur, (0 ≤ r.1 ∧ (0 < n → r.1 < n) ∧ (n ≤ 0 → r.1 = 0)) ∧ lim E 82 [.pto (encCur c), .int .i64 n] = some (.int .i64 r.1, [.pto (encCur r.2)]) := by
  refine ex_split ?_
  refine lim_ex (E := E) rfl Tryz.func82 rfl (by kernel_rfl) (by kernel_rfl) ?_
  simp [Tryz.f82, tmpAt]
  refine RB_dec ?_ ?_ <;> intro h <;> simp
  · exact ⟨(0, c), by simp, rfl⟩
  refine RB_dec ?_ ?_ <;> intro h2 <;> simp
  · have hb := byte_in c
    have ht := tmod_in hb.1 (show 0 < n by omega)
    have h0 : ¬ n = 0 := by omega
    simp [h0]
    exact ⟨(_, _), ⟨ht.1, fun _ => ht.2, fun hh => absurd hh h⟩, rfl⟩
  · have h0 : ¬ n = 0 := by omega
    have b1 := byte_in c
    have b2 := byte_in (byte c).2
    have b3 := byte_in (byte (byte c).2).2
    have b4 := byte_in (byte (byte (byte c).2).2).2
    generalize (byte c).1 = x1 at *
    generalize (byte (byte c).2).1 = x2 at *
    generalize (byte (byte (byte c).2).2).1 = x3 at *
    generalize hq : byte (byte (byte (byte c).2).2).2 = q at *
    obtain ⟨x4, c4⟩ := q
    simp at b4
    have w1 : IntKind.i64.wrap (x1 * 16777216) = x1 * 16777216 := wrap_in (by omega) (by omega)
    have w2 : IntKind.i64.wrap (x2 * 65536) = x2 * 65536 := wrap_in (by omega) (by omega)
    have w3 : IntKind.i64.wrap (x3 * 256) = x3 * 256 := wrap_in (by omega) (by omega)
    have w4 : IntKind.i64.wrap (x1 * 16777216 + x2 * 65536) = x1 * 16777216 + x2 * 65536 := wrap_in (by omega) (by omega)
    have w5 : IntKind.i64.wrap (x1 * 16777216 + x2 * 65536 + x3 * 256) = x1 * 16777216 + x2 * 65536 + x3 * 256 := wrap_in (by omega) (by omega)
    have w6 : IntKind.i64.wrap (x1 * 16777216 + x2 * 65536 + x3 * 256 + x4) = x1 * 16777216 + x2 * 65536 + x3 * 256 + x4 := wrap_in (by omega) (by omega)
    have ht := tmod_in (show 0 ≤ x1 * 16777216 + x2 * 65536 + x3 * 256 + x4 by omega) (show 0 < n by omega)
    simp [h0, w1, w2, w3, w4, w5, w6]
    exact ⟨(_, _), ⟨ht.1, fun _ => ht.2, fun hh => absurd hh h⟩, rfl⟩
noncomputable def below (c : Cur) (n : Int) : Int × Cur := (ex_l01Below c n).choose
theorem below_in (c : Cur) (n : Int) : 0 ≤ (below c n).1 ∧ (0 < n → (below c n).1 < n) ∧ (n ≤ 0 → (below c n).1 = 0) := (ex_l01Below c n).choose_spec.1
theorem below_lt (c : Cur) (n : Nat) (hn : 0 < n) : ∃ k : Nat, k < n ∧ (below c n).1 = k := by
  have h := below_in c n
  exact ⟨(below c n).1.toNat, by have := h.2.1 (by omega); omega, by omega⟩
@[simp] theorem eq_l01Below (c : Cur) (n : Int) : lim E 82 [.pto (encCur c), .int .i64 n] = some (.int .i64 (below c n).1, [.pto (encCur (below c n).2)]) := (ex_l01Below c n).choose_spec.2
noncomputable def once (c : Cur) (n : Int) : Bool × Cur := (decide ((below c n).1 = 0), (below c n).2)
@[simp] theorem eq_l01Once (c : Cur) (n : Int) : lim E 125 [.pto (encCur c), .int .i64 n] = some (.bool (once c n).1, [.pto (encCur (once c n).2)]) := by
  refine lim_run (E := E) rfl Tryz.func125 rfl (by kernel_rfl) (by kernel_rfl) ?_
  simp [Tryz.f125, tmpAt]
  exact ⟨rfl, rfl⟩
noncomputable def pick (c : Cur) (l : List S) : S × Cur := (l[(below c l.length).1.toNat]?.getD [], (below c l.length).2)
theorem pick_mem (c : Cur) (l : List S) (h : l ≠ []) : (pick c l).1 ∈ l := by
  have hp : 0 < l.length := List.length_pos_iff.2 h
  obtain ⟨k, hk, e⟩ := below_lt c l.length hp
  unfold pick
  simp [e, List.getElem?_eq_getElem hk]
theorem eq_l01Pick' (c : Cur) (l : List S) (h : 0 < l.length) : lim E 124 [.pto (encCur c), .lst false 9 1 (l.map .str)] = some (.str (pick c l).1, [.pto (encCur (pick c l).2)]) := by
  obtain ⟨k, hk, e⟩ := below_lt c l.length h
  refine lim_run (E := E) rfl Tryz.func124 rfl (by kernel_rfl) (by kernel_rfl) ?_
  simp [Tryz.f124, tmpAt]
  simp [e, List.getElem?_eq_getElem hk, pick]
def unStr : D → S
  | .str s => s
  | _ => []
@[simp] theorem unStr_str (s : S) : unStr (.str s) = s := rfl
@[simp] theorem eq_l01Pick (c : Cur) (l : List D) (h : (l.map unStr).map .str = l) (hl : 0 < l.length) : lim E 124 [.pto (encCur c), .lst false 9 1 l] = some (.str (pick c (l.map unStr)).1, [.pto (encCur (pick c (l.map unStr)).2)]) := by
  have := eq_l01Pick' c (l.map unStr) (by simpa using hl)
  rwa [h] at this
theorem pick_tot {c : Cur} {l : List S} {r : S × Cur} (h : pick c l = r) : r.1.length ≤ tot List.length l := by
  subst h
  unfold pick
  cases hx : l[(below c l.length).1.toNat]? with
  | none => simp
  | some x => simp; exact tot_mem List.length (List.mem_of_getElem? hx)
noncomputable def pickInt (c : Cur) (l : List Int) : Int × Cur := (l[(below c l.length).1.toNat]?.getD 0, (below c l.length).2)
theorem pickInt_mem (c : Cur) (l : List Int) (h : l ≠ []) : (pickInt c l).1 ∈ l := by
  have hp : 0 < l.length := List.length_pos_iff.2 h
  obtain ⟨k, hk, e⟩ := below_lt c l.length hp
  unfold pickInt
  simp [e, List.getElem?_eq_getElem hk]
def unInt : D → Int
  | .int _ n => n
  | _ => 0
@[simp] theorem unInt_int (k : IntKind) (n : Int) : unInt (.int k n) = n := rfl
theorem eq_l01PickInt (c : Cur) (l : List Int) (h : 0 < l.length) : lim E 170 [.pto (encCur c), .lst false 3 1 (l.map (.int .i64))] = some (.int .i64 (pickInt c l).1, [.pto (encCur (pickInt c l).2)]) := by
  obtain ⟨k, hk, e⟩ := below_lt c l.length h
  refine lim_run (E := E) rfl Tryz.func170 rfl (by kernel_rfl) (by kernel_rfl) ?_
  simp [Tryz.f170, tmpAt]
  simp [e, List.getElem?_eq_getElem hk, pickInt]
@[simp] theorem eq_l01PickInt' (c : Cur) (l : List D) (h : (l.map unInt).map (.int .i64) = l) (hl : 0 < l.length) : lim E 170 [.pto (encCur c), .lst false 3 1 l] = some (.int .i64 (pickInt c (l.map unInt)).1, [.pto (encCur (pickInt c (l.map unInt)).2)]) := by
  have := eq_l01PickInt c (l.map unInt) (by simpa using hl)
  rwa [h] at this
theorem ex_l01New (code : S) (hc : code.length ≤ 1048576) : ∃ r : Cur, True ∧ lim E 48 [.lst false 5 1 (ofBytes code)] = some (.tup [.undef, encCur r], []) := by
  refine ex_split ?_
  refine lim_ex (E := E) rfl Tryz.func48 rfl (by kernel_rfl) (by kernel_rfl) ?_
  simp [Tryz.f48, tmpAt]
  refine loop_fr [0] [] (fun m st => ∃ (i : Nat), i + m = code.length ∧ isInt (st.env 3) ∧ st.env 4 = .int .i64 i) (code.length) _ ?_ ?_
  · exact ⟨0, by simp⟩
  rintro m0 ⟨env, rs⟩ hU0 hV0 ⟨i, hi, hh, e0_4⟩ ih0; simp at hU0 e0_4; clear hV0
  obtain ⟨h, e3⟩ := hh
  simp at e3
  simp [hU0, e0_4]
  have hw := wrap_up (show i < 4611686018427387904 by omega)
  refine RG_dec ?_ ?_ <;> intro h1 <;> simp [hU0, e0_4, e3, tmpAt, h1]
  · refine RB_dec ?_ ?_ <;> intro h2 <;> simp [hU0, e0_4, e3, tmpAt, h1, h2]
    · refine ih0 (m0 - 1) _ (by omega) ?_ ?_ ⟨i + 1, by omega, ?_⟩
      · simp [hU0, e0_4]
      · simp [hU0, e0_4]
      simp [hU0, e0_4, hw]
    · exact ⟨⟨code, 0, h, hc⟩, trivial, rfl⟩
  · exact ⟨⟨code, 0, h, hc⟩, trivial, rfl⟩
noncomputable def newCur (code : S) (hc : code.length ≤ 1048576) : Cur := (ex_l01New code hc).choose
theorem eq_l01New (code : S) (hc : code.length ≤ 1048576) : lim E 48 [.lst false 5 1 (ofBytes code)] = some (.tup [.undef, encCur (newCur code hc)], []) := (ex_l01New code hc).choose_spec.2
end Go.Proofs.YtomeglmblhfafaaGreatDoor
