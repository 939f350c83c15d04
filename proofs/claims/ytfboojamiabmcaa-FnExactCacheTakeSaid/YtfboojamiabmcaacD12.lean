/- Boxes: the reference's Expunge. -/
import Derived.Test.YtfboojamiabmcaacD11
set_option linter.unusedSectionVars false
set_option linter.all false
set_option linter.unusedVariables false
set_option linter.unusedSimpArgs false
set_option maxRecDepth 100000
namespace Go.Proofs.Ytfboojamiabmcaa
open Go.Lft

def isGone (s : List Range) (m : Mail) : Bool := setHas s m.uid && decide (0 < andI m.flags 8)
def goneU (s : List Range) (ms : List Mail) : List Int := (ms.filter (isGone s)).map (·.uid)
def goneT (b : Box) (s : List Range) (ms : List Mail) : List Tomb := (ms.filter (isGone s)).map fun m => ⟨m.uid, b.mod + 1⟩
def keptM (s : List Range) (ms : List Mail) : List Mail := ms.filter fun m => !isGone s m
/-- Tombs given up until there are at most 40. -/
def trim : Nat → List Tomb → Int → List Tomb × Int
  | 0, ts, h => (ts, h)
  | n + 1, ts, h => if 40 < ts.length then (match ts with | [] => (ts, h) | t :: r => trim n ((t :: r).dropWhile fun x => decide (x.mod ≤ t.mod)) t.mod) else (ts, h)
def expBox (b : Box) (s : List Range) : Box :=
  ⟨b.name, b.valid, b.next, b.mod + 1, keptM s b.mails, (trim (b.tombs ++ goneT b s b.mails).length (b.tombs ++ goneT b s b.mails) b.horizon).1, (trim (b.tombs ++ goneT b s b.mails).length (b.tombs ++ goneT b s b.mails) b.horizon).2⟩
noncomputable def expunge (b : Box) (s : List Range) : Box × List Int :=
  if boxOk b = true ∧ setOk s = true ∧ sAdds (goneU s b.mails) ≠ [] ∧ boxOk (expBox b s) = true then (expBox b s, goneU s b.mails) else (b, [])
theorem trim_len : ∀ (n : Nat) (ts : List Tomb) (h : Int), (trim n ts h).1.length ≤ ts.length
  | 0, ts, h => Nat.le_refl _
  | n + 1, ts, h => by
    simp only [trim]
    split
    · cases ts with
      | nil => exact Nat.le_refl _
      | cons t r =>
        refine Nat.le_trans (trim_len n _ _) ?_
        exact (List.dropWhile_sublist _).length_le
    · exact Nat.le_refl _
theorem drop_lt (t : Tomb) (r : List Tomb) : ((t :: r).dropWhile fun x => decide (x.mod ≤ t.mod)).length ≤ r.length := by
  rw [List.dropWhile_cons_of_pos (by simp)]
  exact (List.dropWhile_sublist _).length_le
theorem boxOk_flags {b : Box} (h : boxOk b = true) : ∀ m ∈ b.mails, within m.flags 0 31 = true := by
  unfold boxOk at h
  obtain ⟨_, _, ⟨h1, _⟩, _⟩ := of_decide_eq_true h
  intro m hm
  obtain ⟨k, hk, rfl⟩ := List.getElem_of_mem hm
  have := h1 k b.mails[k] hk (List.getElem?_eq_getElem hk)
  simp only [mailsGood, mailGood, Bool.and_eq_true] at this
  exact this.1.1.2
theorem goneU_next (s : List Range) (ms : List Mail) (i : Nat) (h : i < ms.length) : goneU s (ms.take (i + 1)) = goneU s (ms.take i) ++ (if isGone s ms[i] = true then [ms[i].uid] else []) := by
  unfold goneU
  rw [take_filter _ _ _ h, List.map_append]
  congr 1
  split <;> rfl
theorem goneT_next (b : Box) (s : List Range) (ms : List Mail) (i : Nat) (h : i < ms.length) : goneT b s (ms.take (i + 1)) = goneT b s (ms.take i) ++ (if isGone s ms[i] = true then [⟨ms[i].uid, b.mod + 1⟩] else []) := by
  unfold goneT
  rw [take_filter _ _ _ h, List.map_append]
  congr 1
  split <;> rfl
theorem keptM_next (s : List Range) (ms : List Mail) (i : Nat) (h : i < ms.length) : keptM s (ms.take (i + 1)) = keptM s (ms.take i) ++ (if isGone s ms[i] = true then [] else [ms[i]]) := by
  unfold keptM
  rw [take_filter _ _ _ h]
  congr 1
  cases isGone s ms[i] <;> simp
theorem goneT_len (b : Box) (s : List Range) (ms : List Mail) : (goneT b s ms).length ≤ ms.length := by
  unfold goneT; simp; exact List.length_filter_le ..
theorem keptM_len (s : List Range) (ms : List Mail) : (keptM s ms).length ≤ ms.length := List.length_filter_le ..
theorem tot_filter {α : Type} (f : α → Nat) (p : α → Bool) : ∀ xs : List α, tot f (xs.filter p) ≤ tot f xs
  | [] => Nat.le_refl _
  | x :: xs => by
    have := tot_filter f p xs
    rw [List.filter_cons]
    split
    · simp only [tot]; omega
    · simp only [tot]; omega
theorem sz_expBox (b : Box) (s : List Range) : szBox (expBox b s) ≤ szBox b + b.mails.length := by
  have h1 := keptM_len s b.mails
  have h2 := tot_filter (fun (y : Mail) => szMail y) (fun m => !isGone s m) b.mails
  have h3 := trim_len (b.tombs ++ goneT b s b.mails).length (b.tombs ++ goneT b s b.mails) b.horizon
  have h4 := goneT_len b s b.mails
  have e1 : szBox (expBox b s) = b.name.length + ((keptM s b.mails).length + tot (fun (y : Mail) => szMail y) (keptM s b.mails)) + (trim (b.tombs ++ goneT b s b.mails).length (b.tombs ++ goneT b s b.mails) b.horizon).1.length := rfl
  have e2 : szBox b = b.name.length + (b.mails.length + tot (fun (y : Mail) => szMail y) b.mails) + b.tombs.length := rfl
  have e3 : tot (fun (y : Mail) => szMail y) (keptM s b.mails) = tot (fun (y : Mail) => szMail y) (b.mails.filter fun m => !isGone s m) := rfl
  simp only [List.length_append] at h3
  rw [List.length_append] at e1
  omega
end Go.Proofs.Ytfboojamiabmcaa
