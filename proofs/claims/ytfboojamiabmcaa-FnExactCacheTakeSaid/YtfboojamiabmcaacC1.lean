/- Draws: the cursor, its small steps. -/
import Derived.Test.YtfboojamiabmcaacA2
set_option linter.unusedSectionVars false
set_option linter.all false
set_option linter.unusedVariables false
set_option linter.unusedSimpArgs false
set_option maxRecDepth 100000
namespace Go.Proofs.Ytfboojamiabmcaa
open Go.Lft

/-- A cursor over the bytes of a draw. -/
structure Cur where
  code : S
  i : Nat
  h : Int
  hc : code.length ≤ 1048576
def encCur (c : Cur) : D := .agg [.lst false 5 1 (ofBytes c.code), .int .i64 c.i, .int .i64 c.h]
@[simp] theorem fr_ofBytes (s : S) : D.freezeL (ofBytes s) = ofBytes s := by
  unfold ofBytes; exact fr_map _ _ (by simp) s
@[simp] theorem fr_cur (c : Cur) : D.freeze (encCur c) = encCur c := by unfold encCur; simp
@[simp] theorem cold_cur (c : Cur) : D.cold (encCur c) = true := by unfold encCur; simp
@[simp] theorem size_cur (c : Cur) : D.size (encCur c) = 3 := by unfold encCur; simp
@[simp] theorem isAgg_cur (c : Cur) : Go.Lft.isAgg (encCur c) = true := by unfold encCur; rfl
theorem bAnd_le (a : Int) {m : Nat} (hm : m ≤ 4294967296) : 0 ≤ Go.Lft.Set.bAnd .i64 a m ∧ Go.Lft.Set.bAnd .i64 a m ≤ m := by
  have h1 : (BitVec.ofInt 64 a &&& BitVec.ofInt 64 (m : Int)).toNat ≤ m := by
    rw [BitVec.toNat_and]
    refine Nat.le_trans Nat.and_le_right ?_
    simp [BitVec.toNat_ofInt]
    omega
  have h2 : Go.Lft.Set.bAnd .i64 a m = (BitVec.ofInt 64 a &&& BitVec.ofInt 64 (m : Int)).toNat := by
    unfold Go.Lft.Set.bAnd
    exact wrap_in (by omega) (by show (((BitVec.ofInt 64 a &&& BitVec.ofInt 64 (m : Int)).toNat : Nat) : Int) ≤ _; omega)
  omega
def isInt (d : D) : Prop := ∃ h, d = .int .i64 h
@[simp] theorem isInt_int (h : Int) : isInt (.int .i64 h) = True := by simp [isInt]
/-- An existence of an answer, parted. -/
def Res {α : Type} (P : α → Prop) (v : α → D × List D) (res : D × List D) : Prop := ∃ r : α, P r ∧ res = v r
theorem ex_split {α : Type} {P : α → Prop} {v : α → D × List D} {x : Option (D × List D)} (h : ∃ res, Res P v res ∧ x = some res) : ∃ r : α, P r ∧ x = some (v r) := by
  obtain ⟨res, ⟨r, h1, rfl⟩, h2⟩ := h
  exact ⟨r, h1, h2⟩
@[simp] theorem ofBytes_get (s : S) (i : Nat) (h : i < s.length) : (ofBytes s)[i]'(by simpa using h) = .int .u8 s[i].toNat := by simp [ofBytes]
theorem tmod_in {a n : Int} (ha : 0 ≤ a) (hn : 0 < n) : 0 ≤ a.tmod n ∧ a.tmod n < n := by
  rw [Int.tmod_eq_emod_of_nonneg ha]
  exact ⟨Int.emod_nonneg _ (by omega), Int.emod_lt_of_pos _ hn⟩
end Go.Proofs.Ytfboojamiabmcaa
