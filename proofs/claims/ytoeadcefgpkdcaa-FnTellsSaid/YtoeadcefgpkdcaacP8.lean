/- Plain law: a mirror that takes what is told. -/
import Derived.Test.YtoeadcefgpkdcaacP6
import Derived.Test.YtoeadcefgpkdcaacF3
import Derived.Test.YtoeadcefgpkdcaacG1
set_option linter.unusedSectionVars false
set_option linter.all false
set_option linter.unusedVariables false
set_option linter.unusedSimpArgs false
set_option maxRecDepth 100000
namespace Go.Proofs.Ytoeadcefgpkdcaa
open Go.Lft

def takes (l : List Seen) (xs : List Line) : List Seen := xs.foldl takeLine l
theorem takes_append (l : List Seen) (xs ys : List Line) : takes l (xs ++ ys) = takes (takes l xs) ys := List.foldl_append
theorem takes_cons (l : List Seen) (x : Line) (xs : List Line) : takes l (x :: xs) = takes (takeLine l x) xs := rfl
theorem takes_next (l : List Seen) (xs : List Line) (i : Nat) (h : i < xs.length) : takes l (xs.take (i + 1)) = takeLine (takes l (xs.take i)) xs[i] := by
  rw [List.take_succ_eq_append_getElem h, takes_append]
  rfl
def seen0 (u : Int) : Seen := ⟨u, 0, 0⟩
theorem take_expunge (l : List Seen) (k : Nat) (h : k < l.length) : takeLine l (lnExpunge ((k + 1 : Nat) : Int)) = l.take k ++ l.drop (k + 1) := by
  have h2 : within ((k + 1 : Nat) : Int) 1 l.length = true := by simp [within]; omega
  have e : (((k + 1 : Nat) : Int)).toNat = k + 1 := by omega
  unfold takeLine lnExpunge
  simp only [h2, e]
  simp
theorem take_fetch (l : List Seen) (m : Mail) (k : Nat) (h : k < l.length) : takeLine l (lnFetch m ((k + 1 : Nat) : Int)) = l.set k ⟨m.uid, m.flags, m.mod⟩ := by
  have h2 : within ((k + 1 : Nat) : Int) 1 l.length = true := by simp [within]; omega
  have e : (((k + 1 : Nat) : Int)).toNat = k + 1 := by omega
  unfold takeLine lnFetch
  simp only [h2, e]
  simp
theorem take_exists (l : List Seen) (n : Nat) (h : l.length ≤ n) (hn : n ≤ 30) : takeLine l (lnExists n) = l ++ List.replicate (n - l.length) ⟨0, 0, 0⟩ := by
  have h2 : within (n : Int) 0 30 = true := by simp [within]; omega
  unfold takeLine lnExists
  simp only [h2]
  simp
  rw [List.take_of_length_le (by simp; omega)]
theorem takes_gone (b : Box) : ∀ (us ks : List Int), takes ((ks ++ us).map seen0) (goneLines b ks.length us) = (ks ++ keptU b us).map seen0
  | [], ks => by simp [goneLines, takes, keptU]
  | u :: us, ks => by
    simp only [goneLines]
    by_cases h : hasUid b.mails u = true
    · rw [if_pos h]
      have := takes_gone b us (ks ++ [u])
      rw [List.length_append] at this
      simp only [List.length_cons, List.length_nil, List.append_assoc, List.cons_append, List.nil_append] at this
      simp only [Nat.zero_add] at this
      rw [this]
      unfold keptU
      rw [List.filter_cons_of_pos h]
    · rw [if_neg h, takes_cons, take_expunge _ _ (by simp)]
      have e : ((ks ++ u :: us).map seen0).take ks.length ++ ((ks ++ u :: us).map seen0).drop (ks.length + 1) = (ks ++ us).map seen0 := by
        rw [← List.map_take, ← List.map_drop, ← List.map_append, List.take_left, List.drop_append]
        simp
      rw [e, takes_gone b us ks]
      unfold keptU
      rw [List.filter_cons_of_neg h]
theorem takes_fetch (since : Int) : ∀ (ms : List Mail) (k : Nat) (l : List Seen), k + ms.length ≤ l.length →
    (takes l (fetchLines since k ms)).length = l.length ∧ ∀ i, (takes l (fetchLines since k ms))[i]? = if k ≤ i then (match ms[i - k]? with | some m => if since < m.mod then some ⟨m.uid, m.flags, m.mod⟩ else l[i]? | none => l[i]?) else l[i]?
  | [], k, l, hk => ⟨rfl, fun i => by simp [fetchLines, takes]⟩
  | m :: ms, k, l, hk => by
    simp only [List.length_cons] at hk
    have e : takes l (fetchLines since k (m :: ms)) = takes (if since < m.mod then l.set k ⟨m.uid, m.flags, m.mod⟩ else l) (fetchLines since (k + 1) ms) := by
      simp only [fetchLines]
      split
      · rw [takes_cons, take_fetch _ _ _ (by omega)]
      · rfl
    rw [e]
    have hl : (if since < m.mod then l.set k ⟨m.uid, m.flags, m.mod⟩ else l).length = l.length := by split <;> simp
    have hne : ∀ i, i ≠ k → (if since < m.mod then l.set k ⟨m.uid, m.flags, m.mod⟩ else l)[i]? = l[i]? := fun i hn => by
      split
      · rw [List.getElem?_set_ne (Ne.symm hn)]
      · rfl
    have hself : (if since < m.mod then l.set k ⟨m.uid, m.flags, m.mod⟩ else l)[k]? = if since < m.mod then some ⟨m.uid, m.flags, m.mod⟩ else l[k]? := by
      split
      · rw [List.getElem?_set_self (by omega)]
      · rfl
    generalize (if since < m.mod then l.set k ⟨m.uid, m.flags, m.mod⟩ else l) = L' at *
    obtain ⟨h1, h2⟩ := takes_fetch since ms (k + 1) L' (by rw [hl]; omega)
    refine ⟨h1.trans hl, fun i => ?_⟩
    rw [h2 i]
    rcases Nat.lt_trichotomy i k with hlt | rfl | hgt
    · rw [if_neg (show ¬ k + 1 ≤ i by omega), if_neg (show ¬ k ≤ i by omega), hne i (by omega)]
    · rw [if_neg (show ¬ i + 1 ≤ i by omega), if_pos (Nat.le_refl _), Nat.sub_self]
      simp only [List.getElem?_cons_zero]
      exact hself
    · rw [if_pos (show k + 1 ≤ i by omega), if_pos (show k ≤ i by omega), hne i (by omega), show i - k = (i - (k + 1)) + 1 by omega, List.getElem?_cons_succ]
theorem later_tells {v : View} {b : Box} {n : Int} (hok : boxOk b = true) (h : Later v b n) : tells v b := by
  obtain ⟨a, b1, b2, b3, b4, c1, c2, c3, d1, d2, d3, d4⟩ := (boxOk_iff b).1 hok
  refine ⟨?_, hok, h.box, h.valid⟩
  rw [viewOk_iff]
  have hn := h.next
  have hm := h.mod
  have hm1 := h.mod1
  exact ⟨fun u hu => by have := h.uids u hu; omega, h.up, by rw [h.box]; exact a, by rw [h.valid]; exact b1, h.len, hm1, by omega⟩
theorem view_tells {b : Box} (hok : boxOk b = true) : tellView (viewOf b) b = (viewOf b, []) := by
  have h := later_tells hok (later_view hok)
  unfold tellView
  rw [if_pos h]
  congr 1
  have h1 : ∀ (us : List Int) (n : Nat), (∀ u ∈ us, hasUid b.mails u = true) → goneLines b n us = [] := by
    intro us
    induction us with
    | nil => intro n _; rfl
    | cons u us ih =>
      intro n hu
      simp only [goneLines]
      rw [if_pos (hu u (by simp))]
      exact ih _ fun x hx => hu x (List.mem_cons_of_mem _ hx)
  have h2 : ∀ u ∈ uidsL b, hasUid b.mails u = true := fun u hu => hasUid_iff.2 hu
  have h3 : keptU b (uidsL b) = uidsL b := List.filter_eq_self.2 h2
  have h4 : ∀ (ms : List Mail) (k : Nat), (∀ m ∈ ms, m.mod ≤ b.mod) → fetchLines b.mod k ms = [] := by
    intro ms
    induction ms with
    | nil => intro k _; rfl
    | cons m ms ih =>
      intro k hm
      simp only [fetchLines]
      have := hm m (by simp)
      rw [if_neg (by omega)]
      exact ih _ fun x hx => hm x (List.mem_cons_of_mem _ hx)
  obtain ⟨a, b1, b2, b3, b4, c1, c2, c3, d1, d2, d3, d4⟩ := (boxOk_iff b).1 hok
  unfold told
  show goneLines b 0 (uidsL b) ++ (if keptU b (uidsL b) = uidsL b then [] else _) ++ fetchLines b.mod 0 b.mails = []
  rw [h1 _ _ h2, if_pos h3, h4 _ _ fun m hm => (c1 m hm).2.2.2.2.1]
  rfl
/-- What was seen first comes first. -/
theorem kept_prefix {v : View} {b : Box} {n : Int} (hok : boxOk b = true) (h : Later v b n) : uidsL b = keptU b v.uids ++ (uidsL b).filter fun u => decide (u ∉ v.uids) := by
  have hp := uidsL_up hok
  refine up_ext hp ?_ fun u => ?_
  · rw [List.pairwise_append]
    refine ⟨h.up.filter _, hp.filter _, fun x hx y hy => ?_⟩
    have h1 := (h.uids x (List.mem_filter.1 hx).1).2
    obtain ⟨y1, y2⟩ := List.mem_filter.1 hy
    obtain ⟨m, hm, rfl⟩ := List.mem_map.1 y1
    rcases h.new m hm with q | q
    · simp [q] at y2
    · omega
  · rw [List.mem_append, keptU, List.mem_filter, List.mem_filter]
    constructor
    · intro hu
      by_cases hv : u ∈ v.uids
      · exact .inl ⟨hv, hasUid_iff.2 hu⟩
      · exact .inr ⟨hu, by simpa using hv⟩
    · rintro (q | q)
      · exact hasUid_iff.1 q.2
      · exact q.1
theorem mirror_told {v : View} {b : Box} {n : Int} (hok : boxOk b = true) (h : Later v b n) :
    (takes (v.uids.map seen0) (told v b)).length = b.mails.length ∧ ∀ i (h1 : i < (takes (v.uids.map seen0) (told v b)).length) (h2 : i < b.mails.length),
      (takes (v.uids.map seen0) (told v b))[i].uid = b.mails[i].uid ∧ (v.mod < b.mails[i].mod → (takes (v.uids.map seen0) (told v b))[i].flags = b.mails[i].flags) := by
  obtain ⟨a, b1, b2, b3, b4, c1, c2, c3, d1, d2, d3, d4⟩ := (boxOk_iff b).1 hok
  have hk := kept_prefix hok h
  have hkl := congrArg List.length hk
  rw [uidsL_len, List.length_append] at hkl
  have e1 : takes (v.uids.map seen0) (goneLines b 0 v.uids) = (keptU b v.uids).map seen0 := by
    have := takes_gone b v.uids []
    simpa using this
  have e2 : takes ((keptU b v.uids).map seen0) (if keptU b v.uids = uidsL b then [] else [lnExists b.mails.length]) = (keptU b v.uids).map seen0 ++ List.replicate (b.mails.length - (keptU b v.uids).length) ⟨0, 0, 0⟩ := by
    split
    · rename_i hc
      have : (keptU b v.uids).length = b.mails.length := by rw [hc, uidsL_len]
      rw [this, Nat.sub_self]
      simp [takes]
    · rw [takes_cons, take_exists _ _ (by simp; omega) c3]
      simp [takes]
  unfold told
  rw [takes_append, takes_append, e1, e2]
  generalize hL : (keptU b v.uids).map seen0 ++ List.replicate (b.mails.length - (keptU b v.uids).length) ⟨0, 0, 0⟩ = L
  have hLl : L.length = b.mails.length := by rw [← hL]; simp; omega
  obtain ⟨f1, f2⟩ := takes_fetch v.mod b.mails 0 L (by omega)
  refine ⟨by rw [f1, hLl], fun i h1 h2 => ?_⟩
  have f3 := f2 i
  rw [if_pos (Nat.zero_le _), Nat.sub_zero, List.getElem?_eq_getElem h2, List.getElem?_eq_getElem h1] at f3
  simp only at f3
  split at f3
  · rw [Option.some.inj f3]
    exact ⟨rfl, fun _ => rfl⟩
  · rename_i hm
    rw [List.getElem?_eq_getElem (show i < L.length by omega)] at f3
    rw [Option.some.inj f3]
    refine ⟨?_, fun h => absurd h hm⟩
    have hi : (uidsL b)[i]'(by rw [uidsL_len]; exact h2) = b.mails[i].uid := by simp [uidsL]
    rcases h.new b.mails[i] (List.getElem_mem h2) with q | q
    · have hik : i < (keptU b v.uids).length := by
        rcases Nat.lt_or_ge i (keptU b v.uids).length with hlt | hge
        · exact hlt
        · exfalso
          have e3 : (uidsL b)[i]'(by rw [uidsL_len]; exact h2) = ((keptU b v.uids ++ (uidsL b).filter fun u => decide (u ∉ v.uids))[i]'(by rw [← hk, uidsL_len]; exact h2)) := by
            congr 1
          rw [List.getElem_append_right hge, hi] at e3
          have := List.getElem_mem (l := (uidsL b).filter fun u => decide (u ∉ v.uids)) (n := i - (keptU b v.uids).length) (by omega)
          rw [← e3, List.mem_filter] at this
          simp [q] at this
      have e3 : (uidsL b)[i]'(by rw [uidsL_len]; exact h2) = ((keptU b v.uids ++ (uidsL b).filter fun u => decide (u ∉ v.uids))[i]'(by rw [← hk, uidsL_len]; exact h2)) := by
        congr 1
      rw [List.getElem_append_left hik, hi] at e3
      rw [e3]
      subst hL
      rw [List.getElem_append_left (by simpa using hik)]
      simp [seen0]
    · exact absurd q.2 hm
end Go.Proofs.Ytoeadcefgpkdcaa
