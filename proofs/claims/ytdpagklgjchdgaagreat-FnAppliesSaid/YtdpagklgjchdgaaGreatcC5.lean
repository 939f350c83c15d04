/- Draws of whatever mails, sets, boxes. -/
import Derived.Test.YtdpagklgjchdgaaGreatcC4
set_option linter.unusedSectionVars false
set_option linter.all false
set_option linter.unusedVariables false
set_option linter.unusedSimpArgs false
set_option maxRecDepth 100000
namespace Go.Proofs.YtdpagklgjchdgaaGreat
open Go.Lft

theorem tot_set {α : Type} (f : α → Nat) : ∀ (xs : List α) (i : Nat) (y : α) (h : i < xs.length), f y = f xs[i] → tot f (xs.set i y) = tot f xs
  | [], i, y, h, _ => by simp at h
  | x :: xs, 0, y, h, he => by simp only [List.set_cons_zero, tot]; simp at he; rw [he]
  | x :: xs, i + 1, y, h, he => by
    simp only [List.set_cons_succ, tot]
    rw [tot_set f xs i y (by simpa using h) (by simpa using he)]
theorem ex_l05Any (c : Cur) : ∃ r : List Range × Cur, (r.1.length ≤ 50) ∧ lim E 30 [.pto (encCur c)] = some (.lst true 95 2 (r.1.map encRange), [.pto (encCur r.2)]) := by
  refine ex_split ?_
  have hs := setDraw_len c
  generalize hS : setDraw c = S0 at *
  obtain ⟨s, c0⟩ := S0
  simp at hs
  have w1 := eq_l05Draw c
  rw [hS] at w1
  try simp at w1
  have b1 : s.length * 16 ≤ 140737488351232 := by omega
  have b2 : (s.length + 1) * 16 ≤ 140737488351232 := by omega
  have b3 : (1 + s.length) * 16 ≤ 140737488351232 := by omega
  refine lim_ex (E := E) rfl Tryz.func30 rfl (by kernel_rfl) (by kernel_rfl) ?_
  simp [Tryz.f30, tmpAt, w1, b1]
  have hb := below_in c0 10
  generalize below c0 10 = Q at *
  obtain ⟨k, c1⟩ := Q
  simp at hb
  refine RB_dec ?_ ?_ <;> intro h1
  · simp [b2]
    exact ⟨(s ++ [⟨(pickInt c1 [0, 5, 9998]).1, (pickInt (pickInt c1 [0, 5, 9998]).2 [4, 9999, 10000]).1⟩], (pickInt (pickInt c1 [0, 5, 9998]).2 [4, 9999, 10000]).2), by simp; omega, by simp⟩
  · simp
    refine RB_dec ?_ ?_ <;> intro h2
    · simp [b3]
      exact ⟨(⟨1, 1⟩ :: s, c1), by simp; omega, by simp⟩
    · simp
      refine RB_dec ?_ ?_ <;> intro h3
      · simp
        refine loop_fr [0] [] (fun m st => ∃ (i : Int) (r : Nat) (l : List Range) (c' : Cur), l.length ≤ 41 ∧ 41 ≤ l.length + m ∧ (r = 8 ∨ r = 48) ∧ st.env 3 = .slc (r,0) [] 0 l.length ∧ st.rs (r,0) = some ⟨false, .lst true 95 2 (l.map encRange)⟩ ∧ st.env 4 = .int .i64 i ∧ st.rs (0,99) = some ⟨true, encCur c'⟩) (41) _ ?_ ?_
        · exact ⟨0, 8, s, c1, by omega, by omega, by simp⟩
        rintro m0 ⟨env, rs⟩ hU0 hV0 ⟨i, r, l, c', hl1, hl2, hr, e3, q3, e0_4, r0_0_99⟩ ih0; simp at hU0 e0_4 r0_0_99; clear hV0
        simp at e3 q3
        have hb := below_in c' 2
        generalize hQ : below c' 2 = Q at *
        obtain ⟨x, c2⟩ := Q
        simp at hb
        have hwx : IntKind.i64.wrap (40 + x) = 40 + x := wrap_in (by omega) (by omega)
        have b4 : (l.length + 1) * 16 ≤ 140737488351232 := by omega
        simp [hU0, e0_4, r0_0_99, e3, hQ, hwx]
        refine RB_dec ?_ ?_ <;> intro h
        · rcases hr with rfl | rfl
          all_goals
            simp [hU0, e0_4, r0_0_99, e3, q3, b4]
            repeat (refine And.intro (by first | omega | (simp; omega)) ?_)
            refine ih0 (m0 - 1) _ (by omega) ?_ ?_ ⟨IntKind.i64.wrap (i + 1), 48, l ++ [⟨IntKind.i64.wrap (100 + IntKind.i64.wrap (3 * i)), IntKind.i64.wrap (101 + IntKind.i64.wrap (3 * i))⟩], c2, by simp; omega, by simp; omega, by simp, ?_⟩
            · simp [hU0, e0_4, r0_0_99]
            · simp [hU0, e0_4, r0_0_99]
            simp [hU0, e0_4, r0_0_99]
        · rcases hr with rfl | rfl
          all_goals
            simp [hU0, e0_4, r0_0_99, e3, q3]
            exact ⟨(l, c2), by simp; omega, rfl⟩
      · simp
        exact ⟨(s, c1), by simp; omega, rfl⟩
noncomputable def setAny (c : Cur) : List Range × Cur := (ex_l05Any c).choose
theorem setAny_len (c : Cur) : (setAny c).1.length ≤ 50 := (ex_l05Any c).choose_spec.1
@[simp] theorem eq_l05Any (c : Cur) : lim E 30 [.pto (encCur c)] = some (.lst true 95 2 ((setAny c).1.map encRange), [.pto (encCur (setAny c).2)]) := (ex_l05Any c).choose_spec.2
set_option maxHeartbeats 1000000 in
theorem ex_l08Any (c : Cur) : ∃ r : Box × Cur, (szBox r.1 ≤ 10100) ∧ lim E 57 [.pto (encCur c)] = some (encBox false true r.1, [.pto (encCur r.2)]) := by
  refine ex_split ?_
  have hb1 := below_in c 16
  generalize hQ1 : below c 16 = Q at *
  obtain ⟨k, c1⟩ := Q
  simp at hb1
  have hb2 := below_in c1 60
  generalize hQ2 : below c1 60 = Q at *
  obtain ⟨x, c2⟩ := Q
  simp at hb2
  have hok := boxDraw_ok c2
  generalize hQ3 : boxDraw c2 = Q at *
  obtain ⟨b, c3⟩ := Q
  simp at hok
  have hsz := boxOk_sz hok
  have hml := boxOk_lens hok
  have hz : szBox b = b.name.length + (b.mails.length + tot (fun (y : Mail) => szMail y) b.mails) + b.tombs.length := rfl
  have w2 := eq_l08Copy b (by omega)
  try simp at w2
  have t3 := tmod_in hb2.1 (show (0 : Int) < 3 by omega)
  have t4 := tmod_in hb2.1 (show (0 : Int) < 4 by omega)
  have b1 : (b.tombs.length + 1) * 16 ≤ 140737488351232 := by omega
  refine lim_ex (E := E) rfl Tryz.func57 rfl (by kernel_rfl) (by kernel_rfl) ?_
  simp [Tryz.f57, tmpAt, hQ1, hQ2, hQ3, w2]
  have hsz' : ∀ (n : S) (v nx md hz' : Int) (ts : List Tomb), n.length ≤ 20 → ts.length ≤ b.tombs.length + 1 → szBox ⟨n, v, nx, md, b.mails, ts, hz'⟩ ≤ 10100 := by
    intro n v nx md hz' ts h1 h2
    have : szBox ⟨n, v, nx, md, b.mails, ts, hz'⟩ = n.length + (b.mails.length + tot (fun (y : Mail) => szMail y) b.mails) + ts.length := rfl
    omega
  have hnl : b.name.length ≤ 20 := by
    have h := ((boxOk_iff b).1 hok).1
    simp [boxName, within] at h
    omega
  refine RB_dec ?_ ?_ <;> intro h1
  · have hc : x.tmod 3 = 0 ∨ x.tmod 3 = 1 ∨ x.tmod 3 = 2 := by omega
    rcases hc with hc | hc | hc
    all_goals
      simp [hc]
      refine ⟨(⟨_, b.valid, b.next, b.mod, b.mails, b.tombs, b.horizon⟩, c3), hsz' _ _ _ _ _ _ ?_ (by omega), rfl⟩
      simp
  · simp
    refine RB_dec ?_ ?_ <;> intro h2
    · simp
      exact ⟨(⟨b.name, b.valid, x.tmod 9, b.mod, b.mails, b.tombs, b.horizon⟩, c3), hsz' _ _ _ _ _ _ hnl (by omega), rfl⟩
    · simp
      refine RB_dec ?_ ?_ <;> intro h3
      · have hc : x.tmod 4 = 0 ∨ x.tmod 4 = 1 ∨ x.tmod 4 = 2 ∨ x.tmod 4 = 3 := by omega
        rcases hc with hc | hc | hc | hc
        · simp [hc]
          exact ⟨(⟨b.name, b.valid, b.next, 0, b.mails, b.tombs, b.horizon⟩, c3), hsz' _ _ _ _ _ _ hnl (by omega), rfl⟩
        · simp [hc]
          exact ⟨(⟨b.name, b.valid, b.next, 1, b.mails, b.tombs, b.horizon⟩, c3), hsz' _ _ _ _ _ _ hnl (by omega), rfl⟩
        · simp [hc]
          exact ⟨(⟨b.name, b.valid, b.next, 100000, b.mails, b.tombs, b.horizon⟩, c3), hsz' _ _ _ _ _ _ hnl (by omega), rfl⟩
        · simp [hc]
          exact ⟨(⟨b.name, b.valid, b.next, 100001, b.mails, b.tombs, b.horizon⟩, c3), hsz' _ _ _ _ _ _ hnl (by omega), rfl⟩
      · simp
        refine RB_dec ?_ ?_ <;> intro h4
        · simp
          refine RB_dec ?_ ?_ <;> intro h5
          · obtain ⟨i, hi⟩ : ∃ i : Nat, x.tmod b.mails.length = i := ⟨(x.tmod b.mails.length).toNat, by have := tmod_in hb2.1 (show (0 : Int) < b.mails.length by omega); omega⟩
            have hi2 : i < b.mails.length := by have := tmod_in hb2.1 (show (0 : Int) < b.mails.length by omega); omega
            have hne : ¬ b.mails = [] := by intro hc; rw [hc] at hi2; simp at hi2
            simp [hi, hi2, hne]
            refine ⟨trOk_unord (L := [(0, 2), (0, 3), (0, 4), (0, 5), (0, 6), (0, 7), (0, 8), (1, 2), (1, 3), (1, 4), (1, 5), (1, 6), (1, 7), (1, 8), (2, 3), (2, 4), (2, 5), (2, 7), (2, 8), (3, 7), (3, 8), (4, 7), (4, 8), (5, 7), (5, 8), (6, 7), (6, 8)]) (by kernel_rfl) (by simp) (by simp [indepAt, indep, spares, around, aside, pre, isSlc, Tr.feels, Tr.all, moves, bare, opData, isExt, cmpOf, Op.operands, Call.operands, mentL, ment, D.noUndefL, D.noUndef, pureE]), ?_⟩
            have hset : (b.mails.set i ⟨x.tmod 12, b.mails[i].flags, b.mails[i].mod, b.mails[i].text⟩).map encMail = (b.mails.map encMail).set i (.agg [.int .i64 (x.tmod 12), .int .i64 b.mails[i].flags, .int .i64 b.mails[i].mod, .str b.mails[i].text]) := by
              rw [← map_set']; rfl
            refine ⟨(⟨b.name, b.valid, b.next, b.mod, b.mails.set i ⟨x.tmod 12, b.mails[i].flags, b.mails[i].mod, b.mails[i].text⟩, b.tombs, b.horizon⟩, c3), ?_, ?_⟩
            · have h1 := tot_set (fun (y : Mail) => szMail y) b.mails i ⟨x.tmod 12, b.mails[i].flags, b.mails[i].mod, b.mails[i].text⟩ hi2 rfl
              have h2 : szBox ⟨b.name, b.valid, b.next, b.mod, b.mails.set i ⟨x.tmod 12, b.mails[i].flags, b.mails[i].mod, b.mails[i].text⟩, b.tombs, b.horizon⟩ = b.name.length + ((b.mails.set i ⟨x.tmod 12, b.mails[i].flags, b.mails[i].mod, b.mails[i].text⟩).length + tot (fun (y : Mail) => szMail y) (b.mails.set i ⟨x.tmod 12, b.mails[i].flags, b.mails[i].mod, b.mails[i].text⟩)) + b.tombs.length := rfl
              rw [h1, List.length_set] at h2
              exact Nat.le_trans (Nat.le_of_eq h2) (by omega)
            · show _ = (D.agg _, _)
              simp only [hset]
          · simp
            exact ⟨(b, c3), by show szBox b ≤ 10100; omega, rfl⟩
        · simp
          refine RB_dec ?_ ?_ <;> intro h5
          · simp [b1]
            repeat (refine And.intro (by first | omega | (simp; omega)) ?_)
            exact ⟨(⟨b.name, b.valid, b.next, b.mod, b.mails, b.tombs ++ [⟨x.tmod 12, x.tmod 20⟩], b.horizon⟩, c3), hsz' _ _ _ _ _ _ hnl (by simp), by simp⟩
          · simp
            refine RB_dec ?_ ?_ <;> intro h6
            · simp
              exact ⟨(⟨b.name, b.valid, b.next, b.mod, b.mails, b.tombs, x.tmod 20⟩, c3), hsz' _ _ _ _ _ _ hnl (by omega), rfl⟩
            · simp
              refine RB_dec ?_ ?_ <;> intro h7
              · simp
                exact ⟨(⟨b.name, b.valid, IntKind.i64.wrap (9999 - x.tmod 2), b.mod, b.mails, b.tombs, b.horizon⟩, c3), hsz' _ _ _ _ _ _ hnl (by omega), rfl⟩
              · simp
                exact ⟨(b, c3), by show szBox b ≤ 10100; omega, rfl⟩
noncomputable def boxAny (c : Cur) : Box × Cur := (ex_l08Any c).choose
theorem boxAny_sz (c : Cur) : szBox (boxAny c).1 ≤ 10100 := (ex_l08Any c).choose_spec.1
@[simp] theorem eq_l08Any (c : Cur) : lim E 57 [.pto (encCur c)] = some (encBox false true (boxAny c).1, [.pto (encCur (boxAny c).2)]) := (ex_l08Any c).choose_spec.2
end Go.Proofs.YtdpagklgjchdgaaGreat

