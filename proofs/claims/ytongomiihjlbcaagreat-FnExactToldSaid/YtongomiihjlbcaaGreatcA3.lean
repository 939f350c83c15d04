/- CacheOk: of the program and of the reference. -/
import Derived.Test.YtongomiihjlbcaaGreatcA2
set_option linter.unusedSectionVars false
set_option linter.all false
set_option linter.unusedVariables false
set_option linter.unusedSimpArgs false
set_option maxRecDepth 100000
namespace Go.Proofs.YtongomiihjlbcaaGreat
open Go.Lft

/-- What is asked of one seen, the one ahead of it at hand. -/
def seenOk (mod : Int) (p : Option Seen) (x : Seen) : Bool := within x.uid 1 9999 && (match p with | none => true | some q => decide (q.uid < x.uid)) && within x.flags 0 31 && within x.mod 1 mod
def seensOk (mod : Int) (xs : List Seen) (i : Nat) : Prop := ∀ k x, k < i → xs[k]? = some x → seenOk mod (prevOf xs k) x = true
noncomputable instance (mod : Int) (xs : List Seen) (i : Nat) : Decidable (seensOk mod xs i) := Classical.propDecidable _
noncomputable def cacheOk (c : Cache) : Bool := decide (seensOk c.mod c.seens c.seens.length) && (boxName c.box && (within c.valid 0 9999 && (within c.mod 0 100000 && decide ((c.seens.length : Int) ≤ 30))))
theorem seensOk_next {mod : Int} {xs : List Seen} {i : Nat} (h : i < xs.length) (ha : seensOk mod xs i) (hx : seenOk mod (prevOf xs i) xs[i] = true) : seensOk mod xs (i + 1) := by
  intro k x hk hx'
  rcases Nat.lt_or_ge k i with h1 | h1
  · exact ha k x h1 hx'
  · obtain rfl : k = i := by omega
    rw [List.getElem?_eq_getElem h] at hx'
    obtain rfl := Option.some.inj hx'
    exact hx
theorem seensOk_bad {mod : Int} {xs : List Seen} {i : Nat} (h : i < xs.length) (hx : seenOk mod (prevOf xs i) xs[i] = false) : ¬ seensOk mod xs xs.length := by
  intro ha
  have := ha i xs[i] h (List.getElem?_eq_getElem h)
  rw [hx] at this; cases this
theorem seensOk_all {mod : Int} {xs : List Seen} {i : Nat} (h : ¬ i < xs.length) (ha : seensOk mod xs i) : seensOk mod xs xs.length := fun k x hk hx => ha k x (by omega) hx
end Go.Proofs.YtongomiihjlbcaaGreat
