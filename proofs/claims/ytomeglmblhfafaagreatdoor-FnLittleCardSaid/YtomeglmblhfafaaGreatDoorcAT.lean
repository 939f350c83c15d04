/- Numbers read: Go's Atoi of a number's own text, and the program's ReadDecimal of it. -/
import Derived.Test.YtomeglmblhfafaaGreatDoorcY1
import Derived.Test.YtomeglmblhfafaaGreatDoorcC1
set_option linter.unusedSectionVars false
set_option linter.all false
set_option linter.unusedVariables false
set_option linter.unusedSimpArgs false
set_option maxRecDepth 100000
namespace Go.Proofs.YtomeglmblhfafaaGreatDoor
open Go.Lft

def digVal (s : S) : Nat := s.foldl (fun v b => v * 10 + (b.toNat - 48)) 0
theorem dig_split (n : Nat) : (n < 10 ∧ Go.Lib.decDigits n = [fig n]) ∨ (10 ≤ n ∧ Go.Lib.decDigits n = Go.Lib.decDigits (n / 10) ++ [fig (n % 10)]) := by
  by_cases h : n < 10
  · left
    refine ⟨h, ?_⟩
    unfold Go.Lib.decDigits
    rw [dif_pos h]
    rfl
  · right
    refine ⟨by omega, ?_⟩
    conv => lhs; unfold Go.Lib.decDigits
    rw [dif_neg h]
    rfl
theorem dig_all : ∀ (f n : Nat), n < f → ∀ b ∈ Go.Lib.decDigits n, 48 ≤ b.toNat ∧ b.toNat ≤ 57 := by
  intro f
  induction f with
  | zero => intro n h; omega
  | succ f ih =>
    intro n h b hb
    rcases dig_split n with ⟨h1, h2⟩ | ⟨h1, h2⟩
    · rw [h2] at hb
      obtain rfl := List.mem_singleton.1 hb
      rw [fig_nat h1]; omega
    · rw [h2] at hb
      rcases List.mem_append.1 hb with hb | hb
      · exact ih (n / 10) (by omega) b hb
      · obtain rfl := List.mem_singleton.1 hb
        rw [fig_nat (by omega)]; omega
theorem dig_val : ∀ (f n : Nat), n < f → digVal (Go.Lib.decDigits n) = n := by
  intro f
  induction f with
  | zero => intro n h; omega
  | succ f ih =>
    intro n h
    rcases dig_split n with ⟨h1, h2⟩ | ⟨h1, h2⟩
    · rw [h2]
      simp only [digVal, List.foldl_cons, List.foldl_nil, fig_nat h1]
      omega
    · have hv := ih (n / 10) (by omega)
      rw [h2]
      unfold digVal at hv ⊢
      rw [List.foldl_append, hv]
      simp only [List.foldl_cons, List.foldl_nil, fig_nat (show n % 10 < 10 by omega)]
      omega
theorem dig_ne (n : Nat) : Go.Lib.decDigits n ≠ [] := by
  rcases dig_split n with ⟨_, h⟩ | ⟨_, h⟩ <;> rw [h] <;> simp
theorem dig_next (s : S) (i : Nat) (h : i < s.length) : digVal (s.take (i + 1)) = digVal (s.take i) * 10 + (s[i].toNat - 48) := by
  unfold digVal
  rw [List.take_succ_eq_append_getElem h, List.foldl_append]
  rfl
theorem dig_bound (s : S) (hs : ∀ b ∈ s, 48 ≤ b.toNat ∧ b.toNat ≤ 57) : ∀ i, i ≤ s.length → digVal (s.take i) < 10 ^ i := by
  intro i
  induction i with
  | zero => intro _; simp [digVal]
  | succ i ih =>
    intro h
    have h1 := ih (by omega)
    rw [dig_next s i (by omega), Nat.pow_succ]
    have h2 := hs s[i] (List.getElem_mem (by omega))
    omega
set_option maxHeartbeats 2000000 in
theorem eq_AtoiIn (s : S) (hs : ∀ b ∈ s, 48 ≤ b.toNat ∧ b.toNat ≤ 57) (h1 : s ≠ []) (h2 : s.length ≤ 8) : lim E 257 [.str s] = some (.tup [.int .i64 (digVal s), .ifc true], []) := by
  have hbd := dig_bound s hs
  have hnx := dig_next s
  have hfull : s.take s.length = s := List.take_length
  have hlen0 : 0 < s.length := List.length_pos_iff.2 h1
  have h0 := hs s[0] (List.getElem_mem hlen0)
  have e0 : s[0]? = some s[0] := List.getElem?_eq_getElem hlen0
  have n45 : ¬ ((s[0]).toNat : Int) = 45 := by omega
  have n43 : ¬ ((s[0]).toNat : Int) = 43 := by omega
  have l0 : (0 : Int) < s.length := by omega
  have l19 : (s.length : Int) < 19 := by omega
  have l10 : (s.length : Int) < 10 := by omega
  have hgl : s.length < 10 := by omega
  have hgl2 : s.length < 19 := by omega
  refine lim_run (E := E) rfl Tryz.func257 rfl (by kernel_rfl) (by kernel_rfl) ?_
  simp [Tryz.f257, tmpAt, e0, n45, n43, l0, l19, l10, hlen0, hgl, hgl2]
  refine ⟨by omega, ?_⟩
  refine loop_fr [5, 47, 48] [(47,0)] (fun m st => ∃ (i v : Nat), i + m = s.length ∧ v = digVal (s.take i) ∧ st.env 6 = .int .i64 v ∧ st.env 49 = .int .i64 i) (s.length) _ ?_ ?_
  · exact ⟨0, 0, by simp [digVal]⟩
  rintro m0 ⟨env, rs⟩ hU0 hV0 ⟨i, v, hi, hv, e0_6, e0_49⟩ ih0; simp at hU0 hV0 e0_6 e0_49
  have hu := wrap_up (show i < 4611686018427387904 by omega)
  simp [hU0, hV0, e0_6, e0_49]
  refine RB_dec ?_ ?_ <;> intro h
  · have hd := hs s[i] (List.getElem_mem h)
    have hvb := hbd i (by omega)
    rw [← hv] at hvb
    have hn := hnx i h
    rw [← hv] at hn
    have hp8 : (10 : Nat) ^ i ≤ 100000000 := by
      have : (10 : Nat) ^ i ≤ 10 ^ 8 := Nat.pow_le_pow_right (by omega) (by omega)
      omega
    obtain ⟨d, hdd⟩ : ∃ d : Nat, s[i].toNat = 48 + d := ⟨s[i].toNat - 48, by omega⟩
    rw [hdd] at hd hn
    have hw8 : IntKind.u8.wrap ((s[i].toNat : Int) - 48) = (d : Int) := by rw [hdd, IntKind.wrap_u8]; omega
    have h9 : ¬ (9 : Int) < d := by omega
    have h9' : ¬ 9 < d := by omega
    have hwd : IntKind.i64.wrap (d : Int) = d := wrap_in (by omega) (by omega)
    have hwm : IntKind.i64.wrap ((v : Int) * 10) = v * 10 := wrap_in (by omega) (by omega)
    have hwa : IntKind.i64.wrap ((v : Int) * 10 + d) = v * 10 + d := wrap_in (by omega) (by omega)
    simp [hU0, hV0, e0_6, e0_49, h, hu, hw8, h9, h9', hwd, hwm, hwa]
    refine ih0 (m0 - 1) _ (by omega) ?_ ?_ ⟨i + 1, v * 10 + d, by omega, by rw [hn]; omega, ?_⟩
    · simp [hU0, hV0, e0_6, e0_49]
    · simp [hU0, hV0, e0_6, e0_49]
    simp [hU0, hV0, e0_6, e0_49, hu]
  · have hil : i = s.length := by clear hu; omega
    subst hil
    rw [hfull] at hv
    simp [hU0, hV0, e0_6, e0_49, h, e0, n45, hv]
theorem eq_Atoi (s : S) (hs : ∀ b ∈ s, 48 ≤ b.toNat ∧ b.toNat ≤ 57) (h1 : s ≠ []) (h2 : s.length ≤ 8) : lim E 221 [.str s] = some (.tup [.int .i64 (digVal s), .ifc true], []) := by
  have w := eq_AtoiIn s hs h1 h2
  refine lim_run (E := E) rfl Tryz.func221 rfl (by kernel_rfl) (by kernel_rfl) ?_
  simp [Tryz.f221, tmpAt, w]
theorem eq_ReadDecimal (n : Nat) (h : n ≤ 1048576) : lim E 161 [.str (Go.Lib.decDigits n)] = some (.tup [.int .i64 (n : Int), .bool true], []) := by
  have w := eq_Atoi (Go.Lib.decDigits n) (dig_all (n + 1) n (by omega)) (dig_ne n) (dec_len8 n h)
  rw [dig_val (n + 1) n (by omega)] at w
  have w2 := eq_DecimalAll n h
  have hw : within (n : Int) 0 1000000000 = true := by simp [within]; omega
  refine lim_run (E := E) rfl Tryz.func161 rfl (by kernel_rfl) (by kernel_rfl) ?_
  simp [Tryz.f161, tmpAt, w, w2, hw]
end Go.Proofs.YtomeglmblhfafaaGreatDoor
