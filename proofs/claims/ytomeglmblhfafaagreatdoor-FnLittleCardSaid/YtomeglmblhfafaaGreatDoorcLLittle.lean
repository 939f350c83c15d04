/- The law FnLittle, at the level of data: true for all data. -/
import Derived.Test.YtomeglmblhfafaaGreatDoorcSV3
import Derived.Test.YtomeglmblhfafaaGreatDoorcLV
import Derived.Test.YtomeglmblhfafaaGreatDoorcW1
set_option linter.unusedSectionVars false
set_option linter.all false
set_option linter.unusedVariables false
set_option linter.unusedSimpArgs false
set_option maxRecDepth 100000
namespace Go.Proofs.YtomeglmblhfafaaGreatDoor
open Go.Lft

theorem fetch_count (since : Int) : ∀ (ms : List Mail) (k : Nat), (fetchLines since k ms).length = (ms.filter fun m => decide (since < m.mod)).length
  | [], k => rfl
  | m :: ms, k => by
    have := fetch_count since ms (k + 1)
    simp only [fetchLines]
    by_cases h : since < m.mod
    · simp [h, List.filter_cons, this]
    · simp [h, List.filter_cons, this]
theorem one_ok {b : Box} (hok : boxOk b = true) (hv : b.valid ≤ 5) : storeOk ⟨[b], b.valid + 1⟩ = true := by
  rw [storeOk_iff]
  have h := hok
  rw [boxOk_iff] at h
  obtain ⟨_, ⟨h1, h2⟩, _⟩ := h
  refine ⟨?_, List.pairwise_singleton .., by simp, by simp only; omega⟩
  intro c hc
  obtain rfl := List.mem_singleton.1 hc
  exact ⟨hok, by simp only; omega⟩
theorem one_at (b : Box) (v : Int) : boxAt ⟨[b], v⟩ b.name = (b, true) := by
  unfold boxAt
  simp [isNamed]
theorem sel_len4 {b : Box} (hok : boxOk b = true) (md : Nat) (hmd : (md : Int) ≤ b.mod) (v : Nat) (hv : b.valid = v) :
    (sel4 b v md).length = (if (vanished b md).2 = true then 3 + (changed b md).length + (if (vanished b md).1 = [] then 0 else 1) else 3 + b.mails.length) ∧ ((sel4 b v md).head?.map (·.all) = some (!(vanished b md).2)) := by
  have hn : ∀ m ∈ b.mails, 0 < m.mod := by
    intro m hm
    rw [boxOk_iff] at hok
    obtain ⟨_, _, _, _, _, hq, _⟩ := hok
    have := hq m hm
    unfold MailFine at this
    omega
  have hall := fetchLines_all b.mails 0 hn
  have hf := fetch_count (md : Int) b.mails 0
  unfold sel4 sinceR sinceL selLines changed
  cases h2 : (vanished b (md : Int)).2
  · simp [h2, hall, lnValid]
    omega
  · simp only [hv, hmd, true_and, and_self, if_true]
    rw [← hf]
    by_cases h1 : (vanished b (md : Int)).1 = []
    · simp [h1, lnValid]; omega
    · simp [h1, lnValid]; omega
theorem sel_lenX {b : Box} (hok : boxOk b = true) (md v : Nat) (hv : ¬ (v : Int) = b.valid) : (sel4 b v md).length = 3 + b.mails.length ∧ ((sel4 b v md).head?.map (·.all) = some true) := by
  have hn : ∀ m ∈ b.mails, 0 < m.mod := by
    intro m hm
    rw [boxOk_iff] at hok
    obtain ⟨_, _, _, _, _, hq, _⟩ := hok
    have := hq m hm
    unfold MailFine at this
    omega
  have hall := fetchLines_all b.mails 0 hn
  unfold sel4 sinceR selLines
  simp [hv, hall, lnValid]
  omega
theorem head_cons {L : List Line} {a : Bool} (h : L.head?.map (·.all) = some a) : ∃ l R, L = l :: R ∧ l.all = a := by
  cases L with
  | nil => simp at h
  | cons l R => exact ⟨l, R, rfl, by simpa using h⟩
set_option maxHeartbeats 4000000 in
theorem law_Little : ∀ xs, Sh.hasL [.slice 5 1 (.int .u8)] xs → lim E 4 xs = some (.bool true, []) := by
  intro xs h
  obtain ⟨x, s, rfl, g, h⟩ := has_cons h
  obtain rfl := has_nil h
  obtain ⟨code, rfl⟩ := has_code _ _ g
  by_cases hbig : 1048576 < code.length
  · refine lim_run (E := E) rfl Tryz.func4 rfl (by kernel_rfl) (by kernel_rfl) ?_
    simp [Tryz.f4, tmpAt, hbig]
  have hc : code.length ≤ 1048576 := by omega
  obtain ⟨v, b, n, hok, hvv, hlt, w1⟩ := ex_DrawLaterV code hc
  try simp at w1
  have hsz := boxOk_sz hok
  have hml := (boxOk_lens hok).1
  have hbv : b.valid ≤ 5 := by rw [← hlt.valid]; exact hvv
  have hb := hok
  rw [boxOk_iff] at hb
  obtain ⟨_, ⟨b1, b2⟩, _, ⟨m1, m2⟩, _⟩ := hb
  obtain ⟨vn, hvn⟩ : ∃ k : Nat, b.valid = k := ⟨b.valid.toNat, by omega⟩
  have hmod1 := hlt.mod1
  have hmod := hlt.mod
  obtain ⟨md, hmd⟩ : ∃ k : Nat, v.mod = k := ⟨v.mod.toNat, by omega⟩
  have hsok := one_ok hok hbv
  have hat := one_at b (b.valid + 1)
  have s1 := eq_ServeSelect4 (s := ⟨[b], b.valid + 1⟩) zeroSession b.name vn md (by omega) (by omega) hsok (by rw [hat])
  have s2 := eq_ServeSelect4 (s := ⟨[b], b.valid + 1⟩) zeroSession b.name (vn + 1) md (by omega) (by omega) hsok (by rw [hat])
  rw [hat] at s1 s2
  have hmdle : (md : Int) ≤ b.mod := by omega
  obtain ⟨e1, e2⟩ := sel_len4 hok md hmdle vn hvn
  obtain ⟨f1, f2⟩ := sel_lenX hok md (vn + 1) (by omega)
  have w2 := eq_sVanished b (md : Int) (by omega)
  have w3 := eq_sChanged b (md : Int) (by omega)
  have d1 := eq_sDecimal vn (by omega)
  have d2 := eq_sDecimal (vn + 1) (by omega)
  have d3 := eq_sDecimal md (by omega)
  have hcl : (changed b (md : Int)).length ≤ 30 := Nat.le_trans (List.length_filter_le ..) hml
  generalize sel4 b vn md = L1 at *
  generalize sel4 b (vn + 1) md = L2 at *
  obtain ⟨l1, R1, rfl, a1⟩ := head_cons e2
  obtain ⟨l2, R2, rfl, a2⟩ := head_cons f2
  generalize changed b (md : Int) = C at *
  generalize vanished b (md : Int) = VV at *
  obtain ⟨gone, ok⟩ := VV
  simp only at w2 e1 a1
  clear e2 f2 hsok hat
  have hwC : IntKind.i64.wrap (3 + (C.length : Int)) = 3 + (C.length : Int) := wrap_in (by omega) (by omega)
  have hwC1 : IntKind.i64.wrap (3 + (C.length : Int) + 1) = 3 + (C.length : Int) + 1 := wrap_in (by omega) (by omega)
  have hwM : IntKind.i64.wrap (3 + (b.mails.length : Int)) = 3 + (b.mails.length : Int) := wrap_in (by omega) (by omega)
  simp only [List.length_cons] at e1 f1
  have q2 : (R2.length : Int) + 1 = 3 + b.mails.length := by omega
  have hV1 : IntKind.i64.wrap ((vn : Int) + 1) = (vn : Int) + 1 := wrap_in (by omega) (by omega)
  have hd2 : (((vn + 1 : Nat) : Int)) = (vn : Int) + 1 := by omega
  rw [hd2] at d2
  have hbsz : szBox b ≤ 100000 := by omega
  clear hsz
  generalize Go.Lib.decDigits vn = D1 at *
  generalize Go.Lib.decDigits (vn + 1) = D2 at *
  generalize Go.Lib.decDigits md = D3 at *
  simp only [encStore, encBox, hvn, List.map_cons, List.map_nil] at s1 s2
  simp only [encBox, encView, hvn, hmd] at w1 w2 w3
  try simp at s1
  try simp at s2
  try simp at w1
  try simp at w2
  try simp at w3
  refine lim_run (E := E) rfl Tryz.func4 rfl (by kernel_rfl) (by kernel_rfl) ?_
  simp [Tryz.f4, tmpAt, hbig, w1, w2, w3, d1, d2, d3, s1, s2, hV1]
  refine ⟨trOk_unord (L := [(0, 1), (0, 2), (0, 3), (0, 4), (0, 5), (0, 6), (0, 7), (0, 8), (0, 9), (0, 10), (0, 17), (0, 18), (1, 2), (1, 3), (1, 4), (1, 5), (1, 6), (1, 7), (1, 8), (1, 9), (1, 10), (1, 17), (1, 18), (2, 4), (2, 5), (2, 6), (2, 7), (2, 8), (2, 9), (2, 17), (2, 18), (3, 4), (3, 5), (3, 6), (3, 7), (3, 8), (3, 9), (3, 17), (3, 18), (4, 7), (4, 8), (4, 17), (4, 18), (5, 7), (5, 8), (5, 17), (5, 18), (6, 7), (6, 8), (6, 17), (6, 18), (7, 17), (7, 18), (8, 17), (8, 18), (9, 17), (9, 18), (10, 17), (10, 18), (11, 17), (11, 18), (12, 17), (12, 18), (13, 14), (13, 15), (13, 16), (13, 17), (13, 18), (14, 15), (14, 16), (14, 17), (14, 18), (14, 19), (15, 16), (15, 17), (15, 18), (15, 19), (15, 20), (16, 17), (16, 18), (16, 19), (16, 20), (16, 21), (17, 18)]) (by kernel_rfl) (by simp) (by simp [indepAt, indep, spares, around, aside, pre, isSlc, Tr.feels, Tr.all, moves, bare, opData, isExt, cmpOf, Op.operands, Call.operands, mentL, ment, D.noUndefL, D.noUndef, pureE, s1]), trOk_unord (L := [(0, 1), (0, 2), (0, 3), (0, 4), (0, 5), (0, 6), (0, 7), (0, 8), (0, 9), (0, 10), (0, 11), (0, 18), (0, 19), (1, 2), (1, 3), (1, 4), (1, 5), (1, 6), (1, 7), (1, 8), (1, 9), (1, 10), (1, 11), (1, 18), (1, 19), (2, 4), (2, 5), (2, 6), (2, 7), (2, 8), (2, 9), (2, 10), (2, 18), (2, 19), (3, 4), (3, 5), (3, 6), (3, 7), (3, 8), (3, 9), (3, 10), (3, 18), (3, 19), (4, 8), (4, 9), (4, 18), (4, 19), (5, 8), (5, 9), (5, 18), (5, 19), (6, 8), (6, 9), (6, 18), (6, 19), (7, 8), (7, 9), (7, 18), (7, 19), (8, 18), (8, 19), (9, 18), (9, 19), (10, 18), (10, 19), (11, 18), (11, 19), (12, 18), (12, 19), (13, 18), (13, 19), (14, 15), (14, 16), (14, 17), (14, 18), (14, 19), (15, 16), (15, 17), (15, 18), (15, 19), (15, 20), (16, 17), (16, 18), (16, 19), (16, 20), (16, 21), (17, 18), (17, 19), (17, 20), (17, 21), (17, 22), (18, 19)]) (by kernel_rfl) (by simp) (by simp [indepAt, indep, spares, around, aside, pre, isSlc, Tr.feels, Tr.all, moves, bare, opData, isExt, cmpOf, Op.operands, Call.operands, mentL, ment, D.noUndefL, D.noUndef, pureE, s2]), ?_⟩
  cases ok
  · simp only [Bool.false_eq_true, if_false] at e1
    have q1 : (R1.length : Int) + 1 = 3 + b.mails.length := by omega
    simp only [Bool.not_false] at a1
    cases gone with
    | nil =>
      simp [hwC, hwC1, hwM, q1, q2, a1, a2, tmpAt]
      omega
    | cons g0 gs =>
      simp [hwC, hwC1, hwM, q1, q2, a1, a2, tmpAt]
      omega
  · simp only [if_true] at e1
    simp only [Bool.not_true] at a1
    cases gone with
    | nil =>
      have q1 : (R1.length : Int) + 1 = 3 + C.length := by simp at e1; omega
      simp [hwC, hwC1, hwM, q1, q2, a1, a2, tmpAt]
      omega
    | cons g0 gs =>
      have q1 : (R1.length : Int) + 1 = 3 + C.length + 1 := by simp at e1; omega
      simp [hwC, hwC1, hwM, q1, q2, a1, a2, tmpAt]
      omega
end Go.Proofs.YtomeglmblhfafaaGreatDoor
