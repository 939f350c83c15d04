/- Lines that tell of a box, and a mirror that takes them. -/
import Derived.Test.YtomeglmblhfafaaGreatDoorcG1
set_option linter.unusedSectionVars false
set_option linter.all false
set_option linter.unusedVariables false
set_option linter.unusedSimpArgs false
set_option maxRecDepth 100000
namespace Go.Proofs.YtomeglmblhfafaaGreatDoor
open Go.Lft

def lnExpunge (n : Int) : Line := ⟨2, n, 0, 0, 0, [], false⟩
def lnExists (n : Int) : Line := ⟨1, n, 0, 0, 0, [], false⟩
def lnFetch (m : Mail) (n : Int) : Line := ⟨3, n, m.uid, m.flags, m.mod, [], false⟩
def lnBye : Line := ⟨9, 0, 0, 0, 0, [], false⟩
def fetchLines (since : Int) : Nat → List Mail → List Line
  | _, [] => []
  | k, m :: ms => if since < m.mod then lnFetch m ((k + 1 : Nat) : Int) :: fetchLines since (k + 1) ms else fetchLines since (k + 1) ms
theorem fetchLines_len (since : Int) : ∀ (ms : List Mail) (k : Nat), (fetchLines since k ms).length ≤ ms.length
  | [], k => Nat.le_refl _
  | m :: ms, k => by
    have := fetchLines_len since ms (k + 1)
    simp only [fetchLines]
    split
    · simp only [List.length_cons]; omega
    · simp only [List.length_cons]; omega
def takes (l : List Seen) (xs : List Line) : List Seen := xs.foldl takeLine l
theorem takes_append (l : List Seen) (xs ys : List Line) : takes l (xs ++ ys) = takes (takes l xs) ys := List.foldl_append
theorem takes_cons (l : List Seen) (x : Line) (xs : List Line) : takes l (x :: xs) = takes (takeLine l x) xs := rfl
theorem takes_next (l : List Seen) (xs : List Line) (i : Nat) (h : i < xs.length) : takes l (xs.take (i + 1)) = takeLine (takes l (xs.take i)) xs[i] := by
  rw [List.take_succ_eq_append_getElem h, takes_append]
  rfl
def seen0 (u : Int) : Seen := ⟨u, 0, 0⟩
theorem take_expunge (l : List Seen) (k : Nat) (h : k < l.length) : takeLine l (lnExpunge ((k + 1 : Nat) : Int)) = l.take k ++ l.drop (k + 1) := by
  have h2 : within ((k + 1 : Nat) : Int) 1 l.length = true := by simp [within]; omega
  have e : (((k + 1 : Nat) : Int)).toNat = k + 1 := by omega
  unfold takeLine lnExpunge
  simp only [h2, e]
  simp
theorem take_fetch (l : List Seen) (m : Mail) (k : Nat) (h : k < l.length) : takeLine l (lnFetch m ((k + 1 : Nat) : Int)) = l.set k ⟨m.uid, m.flags, m.mod⟩ := by
  have h2 : within ((k + 1 : Nat) : Int) 1 l.length = true := by simp [within]; omega
  have e : (((k + 1 : Nat) : Int)).toNat = k + 1 := by omega
  unfold takeLine lnFetch
  simp only [h2, e]
  simp
theorem take_exists (l : List Seen) (n : Nat) (h : l.length ≤ n) (hn : n ≤ 30) : takeLine l (lnExists n) = l ++ List.replicate (n - l.length) ⟨0, 0, 0⟩ := by
  have h2 : within (n : Int) 0 30 = true := by simp [within]; omega
  unfold takeLine lnExists
  simp only [h2]
  simp
  rw [List.take_of_length_le (by simp; omega)]
theorem takes_fetch (since : Int) : ∀ (ms : List Mail) (k : Nat) (l : List Seen), k + ms.length ≤ l.length →
    (takes l (fetchLines since k ms)).length = l.length ∧ ∀ i, (takes l (fetchLines since k ms))[i]? = if k ≤ i then (match ms[i - k]? with | some m => if since < m.mod then some ⟨m.uid, m.flags, m.mod⟩ else l[i]? | none => l[i]?) else l[i]?
  | [], k, l, hk => ⟨rfl, fun i => by simp [fetchLines, takes]⟩
  | m :: ms, k, l, hk => by
    simp only [List.length_cons] at hk
    have e : takes l (fetchLines since k (m :: ms)) = takes (if since < m.mod then l.set k ⟨m.uid, m.flags, m.mod⟩ else l) (fetchLines since (k + 1) ms) := by
      simp only [fetchLines]
      split
      · rw [takes_cons, take_fetch _ _ _ (by omega)]
      · rfl
    rw [e]
    have hl : (if since < m.mod then l.set k ⟨m.uid, m.flags, m.mod⟩ else l).length = l.length := by split <;> simp
    have hne : ∀ i, i ≠ k → (if since < m.mod then l.set k ⟨m.uid, m.flags, m.mod⟩ else l)[i]? = l[i]? := fun i hn => by
      split
      · rw [List.getElem?_set_ne (Ne.symm hn)]
      · rfl
    have hself : (if since < m.mod then l.set k ⟨m.uid, m.flags, m.mod⟩ else l)[k]? = if since < m.mod then some ⟨m.uid, m.flags, m.mod⟩ else l[k]? := by
      split
      · rw [List.getElem?_set_self (by omega)]
      · rfl
    generalize (if since < m.mod then l.set k ⟨m.uid, m.flags, m.mod⟩ else l) = L' at *
    obtain ⟨h1, h2⟩ := takes_fetch since ms (k + 1) L' (by rw [hl]; omega)
    refine ⟨h1.trans hl, fun i => ?_⟩
    rw [h2 i]
    rcases Nat.lt_trichotomy i k with hlt | rfl | hgt
    · rw [if_neg (show ¬ k + 1 ≤ i by omega), if_neg (show ¬ k ≤ i by omega), hne i (by omega)]
    · rw [if_neg (show ¬ i + 1 ≤ i by omega), if_pos (Nat.le_refl _), Nat.sub_self]
      simp only [List.getElem?_cons_zero]
      exact hself
    · rw [if_pos (show k + 1 ≤ i by omega), if_pos (show k ≤ i by omega), hne i (by omega), show i - k = (i - (k + 1)) + 1 by omega, List.getElem?_cons_succ]
end Go.Proofs.YtomeglmblhfafaaGreatDoor
