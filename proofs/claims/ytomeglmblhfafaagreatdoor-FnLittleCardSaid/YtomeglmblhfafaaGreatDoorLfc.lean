/- The value-level machine, part 3: Go code told over trees of data, and that this is sound against the model. No statement of the seed is proved in this text. -/
import Derived.ProofKit
import Derived.WideShapes
import Derived.Test.YtomeglmblhfafaaGreatDoorLfb
set_option linter.unusedVariables false
set_option linter.unusedSimpArgs false
set_option linter.unusedSectionVars false
set_option linter.all false
/- Calls: what comes back is opened. -/
namespace Go.Lft

section
variable {P : Program} {T : Tb} {Z Z' : Zone} {gs gs' : Rid → Option G} {hs : List M} {Fz Fz' : Nat → Prop} {st : St} {a : Act} {w w' : World}

mutual
theorem VC.ment {pp pp' : PP} {ps ps' : PS} (hst : ∀ g, pp.st g → pp'.st g) : ∀ {d : D} {cs : List Value}, (∀ r ∈ Go.Lft.ment d, (∀ p v, pp r p v → pp' r p v) ∧ ∀ p off len v, ps r p off len v → ps' r p off len v) → VC w Fz pp ps cs d → VC w Fz pp' ps' cs d
  | .ptr r p, cs, hm, h => by
    simp only [VC] at h ⊢
    obtain ⟨v, h1, h2⟩ := h
    exact ⟨v, h1, (hm r (by simp [Go.Lft.ment])).1 p v h2⟩
  | .slc r p off len, cs, hm, h => by
    simp only [VC] at h ⊢
    obtain ⟨v, h1, h2⟩ := h
    exact ⟨v, h1, (hm r (by simp [Go.Lft.ment])).2 p off len v h2⟩
  | .agg xs, cs, hm, h => by simp only [VC] at h ⊢; exact VCL.ment hst (by simpa only [Go.Lft.ment] using hm) h
  | .fn f caps, cs, hm, h => by
    simp only [VC] at h ⊢
    obtain ⟨capt, h1, h2⟩ := h
    exact ⟨capt, h1, VCs.ment hst (by simpa only [Go.Lft.ment] using hm) h2⟩
  | .tup _, cs, hm, h => by simp only [VC] at h
  | .int _ n, cs, hm, h => by simp only [VC] at h ⊢; exact h
  | .bool b, cs, hm, h => by simp only [VC] at h ⊢; exact h
  | .str s, cs, hm, h => by simp only [VC] at h ⊢; exact h
  | .lst o te e xs, cs, hm, h => by simp only [VC] at h ⊢; exact h
  | .ifc b, cs, hm, h => by simp only [VC] at h ⊢; exact h
  | .pto x, cs, hm, h => by
    simp only [VC] at h ⊢
    obtain ⟨ad, c, h1, h2, h3⟩ := h
    exact ⟨ad, c, h1, h2.imp id (hst _), h3⟩
  | .undef, cs, hm, h => by simp only [VC] at h ⊢; exact h
theorem VCL.ment {pp pp' : PP} {ps ps' : PS} (hst : ∀ g, pp.st g → pp'.st g) : ∀ {xs : List D} {cs : List Value}, (∀ r ∈ Go.Lft.mentL xs, (∀ p v, pp r p v → pp' r p v) ∧ ∀ p off len v, ps r p off len v → ps' r p off len v) → VCL w Fz pp ps cs xs → VCL w Fz pp' ps' cs xs
  | [], cs, hm, h => by simp only [VCL] at h ⊢; exact h
  | x :: xs, cs, hm, h => by
    simp only [VCL] at h ⊢
    obtain ⟨c1, c2, h0, h1, h2⟩ := h
    simp only [Go.Lft.mentL, List.mem_append] at hm
    exact ⟨c1, c2, h0, VC.ment hst (fun r hr => hm r (.inl hr)) h1, VCL.ment hst (fun r hr => hm r (.inr hr)) h2⟩
theorem VCs.ment {pp pp' : PP} {ps ps' : PS} (hst : ∀ g, pp.st g → pp'.st g) : ∀ {xs : List D} {cs : List Value}, (∀ r ∈ Go.Lft.mentL xs, (∀ p v, pp r p v → pp' r p v) ∧ ∀ p off len v, ps r p off len v → ps' r p off len v) → VCs w Fz pp ps cs xs → VCs w Fz pp' ps' cs xs
  | [], cs, hm, h => by simp only [VCs] at h ⊢; exact h
  | x :: xs, cs, hm, h => by
    simp only [VCs] at h ⊢
    obtain ⟨c1, c2, h0, h1, h2⟩ := h
    simp only [Go.Lft.mentL, List.mem_append] at hm
    exact ⟨c1, c2, h0, VC.ment hst (fun r hr => hm r (.inl hr)) h1, VCs.ment hst (fun r hr => hm r (.inr hr)) h2⟩
end

structure OpenOk (Z : Zone) (gs : Rid → Option G) (hs : List M) (Fz : Nat → Prop) (w : World) (rs : Rid → Option Root) (t j : Nat) (us : List (Rid × Option Root)) (j' : Nat) (gs' : Rid → Option G) : Prop where
  mem : Mem Z gs' hs Fz w
  rs : ∀ r, updAll us rs r = (gs' r).map G.root
  other : ∀ r, (∀ k, j ≤ k → k < j' → r ≠ (t, k)) → gs' r = gs r
  le : j ≤ j'
  keys : ∀ k, j ≤ k → k < j' → ∃ o, ((t, k), o) ∈ us

theorem frep_leaf_open {v : Value} {d : D} (h : FRep w Fz [v] d) (hne : ∀ te e xs, d ≠ .lst true te e xs) (ha : isAgg d = false) (t j : Nat) : open_ t j d = (d, [], j) ∧ Go.Lft.ment d = [] ∨ ∃ f c, d = .fn f c := by
  cases d with
  | fn f c => exact .inr ⟨f, c, rfl⟩
  | agg xs => simp [isAgg] at ha
  | lst o te e xs => cases o
                     · exact .inl ⟨rfl, rfl⟩
                     · exact absurd rfl (hne te e xs)
  | tup _ => simp only [FRep] at h
  | ptr _ _ => simp only [FRep] at h
  | slc _ _ _ _ => simp only [FRep] at h
  | _ => exact .inl ⟨rfl, rfl⟩

/-- What a datum of a result may be. -/
def noFn : D → Bool
  | .fn .. => false
  | _ => true

mutual
theorem open_ok (t : Nat) : ∀ {m : M} {j : Nat} {gs : Rid → Option G} {rs : Rid → Option Root} {hs : List M}, Mem Z gs (m :: hs) Fz w → (∀ r, rs r = (gs r).map G.root) → (open_ t j (M.data m)).2.2 ≤ 99 →
    ∃ gs', OpenOk Z gs hs Fz w rs t j (open_ t j (M.data m)).2.1 (open_ t j (M.data m)).2.2 gs' ∧ VC w Fz (ptrOk Z gs') (slcOk gs') (M.cells m) (open_ t j (M.data m)).1 ∧ ∀ r ∈ Go.Lft.ment (open_ t j (M.data m)).1, (∃ k, j ≤ k ∧ k < (open_ t j (M.data m)).2.2 ∧ r = (t, k)) ∨ gs' r = gs r ∧ False
  | .leaf v d, j, gs, rs, hs, hm, hrs, hj => by
    obtain ⟨h1, h2, _⟩ := hm.head
    simp only [M.Ok] at h1
    have row : ∀ {te e : Nat} {xs : List D}, d = .lst true te e xs → ∃ gs', OpenOk Z gs hs Fz w rs t j (open_ t j d).2.1 (open_ t j d).2.2 gs' ∧ VC w Fz (ptrOk Z gs') (slcOk gs') [v] (open_ t j d).1 ∧ ∀ r ∈ Go.Lft.ment (open_ t j d).1, (∃ k, j ≤ k ∧ k < (open_ t j d).2.2 ∧ r = (t, k)) ∨ gs' r = gs r ∧ False := by
      intro te e xs hd
      subst hd
      simp only [open_] at hj ⊢
      simp only [M.data, open_] at hj
      have hroot := hm.root (t, j) (lent0 Z t j (by omega)) ⟨none, .leaf v (.lst true te e xs)⟩ rfl (fun _ => rfl) (fun g te h => by cases h)
      obtain ⟨a', c, hv⟩ := lst_value h1.1
      refine ⟨_, { mem := hroot, rs := ?_, other := fun r hr => upd_ne _ _ (hr j (Nat.le_refl _) (Nat.lt_succ_self _)), le := Nat.le_succ _, keys := fun k h1 h2 => ?_ }, ?_, ?_⟩
      · simp only [updAll]; exact rs_upd hrs rfl
      · obtain rfl : k = j := by omega
        exact ⟨_, List.mem_singleton.2 rfl⟩
      · simp only [VC]
        refine ⟨v, rfl, _, _, upd_self .., M.get_nil _, ?_⟩
        rw [hv]
        exact slcVal_row (te := te) (e := e) (own := true) (xs := xs) rfl rfl
      · intro r hr
        simp only [Go.Lft.ment, List.mem_singleton] at hr
        exact .inl ⟨j, Nat.le_refl _, Nat.lt_succ_self _, hr⟩
    have plain : open_ t j d = (d, [], j) → Go.Lft.ment d = [] → ∃ gs', OpenOk Z gs hs Fz w rs t j (open_ t j d).2.1 (open_ t j d).2.2 gs' ∧ VC w Fz (ptrOk Z gs') (slcOk gs') [v] (open_ t j d).1 ∧ ∀ r ∈ Go.Lft.ment (open_ t j d).1, (∃ k, j ≤ k ∧ k < (open_ t j d).2.2 ∧ r = (t, k)) ∨ gs' r = gs r ∧ False := by
      intro ho hmn
      rw [ho]
      exact ⟨gs, { mem := hm.tail, rs := hrs, other := fun _ _ => rfl, le := Nat.le_refl _, keys := fun k h1 h2 => absurd (Nat.lt_of_le_of_lt h1 h2) (Nat.lt_irrefl _) }, VC.of_frep h1.1, fun r hr => by rw [hmn] at hr; cases hr⟩
    simp only [M.data, M.cells]
    cases d with
    | agg xs => simp [isAgg] at h1
    | lst o te e xs =>
      cases o
      · exact plain rfl rfl
      · exact row rfl
    | fn f c => 
      refine ⟨gs, { mem := hm.tail, rs := hrs, other := fun _ _ => rfl, le := Nat.le_refl _, keys := fun k h1 h2 => absurd (Nat.lt_of_le_of_lt h1 h2) (Nat.lt_irrefl _) }, VC.of_frep h1.1, fun r hr => ?_⟩
      exfalso
      have hf := h1.1
      simp only [FRep] at hf
      obtain ⟨capt, _, hc⟩ := hf
      simp only [open_, Go.Lft.ment] at hr
      exact caps_ment hc r hr
    | tup _ => have hf := h1.1; simp only [FRep] at hf
    | ptr _ _ => have hf := h1.1; simp only [FRep] at hf
    | slc _ _ _ _ => have hf := h1.1; simp only [FRep] at hf
    | int k n => exact plain rfl rfl
    | bool b => exact plain rfl rfl
    | str s => exact plain rfl rfl
    | ifc b => exact plain rfl rfl
    | pto x => exact plain rfl rfl
    | undef => exact plain rfl rfl
  | .lst g tg te e xs rest fr, j, gs, rs, hs, hm, hrs, hj => by
    simp only [M.data, open_] at hj ⊢
    have hroot := hm.root (t, j) (lent0 Z t j (by omega)) ⟨none, .lst g tg te e xs rest fr⟩ rfl (fun _ => rfl) (fun g te h => by cases h)
    refine ⟨_, { mem := hroot, rs := ?_, other := fun r hr => upd_ne _ _ (hr j (Nat.le_refl _) (Nat.lt_succ_self _)), le := Nat.le_succ _, keys := fun k h1 h2 => ?_ }, ?_, ?_⟩
    · simp only [updAll]; exact rs_upd hrs rfl
    · obtain rfl : k = j := by omega
      exact ⟨_, List.mem_singleton.2 rfl⟩
    · simp only [VC, M.cells, M.dataL_length]
      exact ⟨_, rfl, _, _, upd_self .., M.get_nil _, slcVal_row (te := tg) (e := e) (own := true) (xs := M.dataL xs) rfl rfl⟩
    · intro r hr
      simp only [Go.Lft.ment, List.mem_singleton] at hr
      exact .inl ⟨j, Nat.le_refl _, Nat.lt_succ_self _, hr⟩
  | .agg ms, j, gs, rs, hs, hm, hrs, hj => by
    simp only [M.data, open_, M.cells] at hj ⊢
    have hm2 : Mem Z gs (ms ++ hs) Fz w := by
      have a1 := hm.hok
      have a2 := hm.hin
      have a3 := hm.hnd
      simp only [M.OkL, M.Ok] at a1
      simp only [M.InL, M.In] at a2
      simp only [M.idsL, M.ids] at a3
      exact hm.sub (a1.1.append a1.2) (M.InL_append.2 a2) (by rw [M.idsL_append]; exact a3) (fun g hg => by simpa only [M.idsL, M.ids, M.idsL_append] using hg)
    obtain ⟨gs', h1, h2, h3⟩ := openL_ok t hm2 hrs hj
    exact ⟨gs', h1, by simpa only [VC] using h2, fun r hr => .inl (h3 r (by simpa only [Go.Lft.ment] using hr))⟩
theorem openL_ok (t : Nat) : ∀ {ms : List M} {j : Nat} {gs : Rid → Option G} {rs : Rid → Option Root} {hs : List M}, Mem Z gs (ms ++ hs) Fz w → (∀ r, rs r = (gs r).map G.root) → (openL t j (M.dataL ms)).2.2 ≤ 99 →
    ∃ gs', OpenOk Z gs hs Fz w rs t j (openL t j (M.dataL ms)).2.1 (openL t j (M.dataL ms)).2.2 gs' ∧ VCL w Fz (ptrOk Z gs') (slcOk gs') (M.cellsL ms) (openL t j (M.dataL ms)).1 ∧ ∀ r ∈ Go.Lft.mentL (openL t j (M.dataL ms)).1, ∃ k, j ≤ k ∧ k < (openL t j (M.dataL ms)).2.2 ∧ r = (t, k)
  | [], j, gs, rs, hs, hm, hrs, hj => by
    simp only [M.dataL, openL]
    exact ⟨gs, { mem := hm, rs := hrs, other := fun _ _ => rfl, le := Nat.le_refl _, keys := fun k h1 h2 => absurd (Nat.lt_of_le_of_lt h1 h2) (Nat.lt_irrefl _) }, by simp only [M.cellsL, VCL], fun r hr => by simp [Go.Lft.mentL] at hr⟩
  | m :: ms, j, gs, rs, hs, hm, hrs, hj => by
    simp only [M.dataL, openL] at hj ⊢
    have hle2 : (open_ t j (M.data m)).2.2 ≤ (openL t (open_ t j (M.data m)).2.2 (M.dataL ms)).2.2 := openL_le t _ _
    obtain ⟨gs1, o1, v1, n1⟩ := open_ok t (j := j) hm hrs (Nat.le_trans hle2 hj)
    obtain ⟨gs2, o2, v2, n2⟩ := openL_ok t (ms := ms) (j := (open_ t j (M.data m)).2.2) o1.mem o1.rs hj
    refine ⟨gs2, { mem := o2.mem, rs := fun r => by rw [updAll_append]; exact o2.rs r, other := fun r hr => ?_, le := Nat.le_trans o1.le o2.le, keys := fun k h1 h2 => ?_ }, ?_, ?_⟩
    · rw [o2.other r fun k h1 h2 => hr k (Nat.le_trans o1.le h1) h2, o1.other r fun k h1 h2 => hr k h1 (Nat.lt_of_lt_of_le h2 o2.le)]
    · rcases Nat.lt_or_ge k (open_ t j (M.data m)).2.2 with h | h
      · obtain ⟨o, ho⟩ := o1.keys k h1 h
        exact ⟨o, List.mem_append_left _ ho⟩
      · obtain ⟨o, ho⟩ := o2.keys k h h2
        exact ⟨o, List.mem_append_right _ ho⟩
    · simp only [M.cellsL, VCL]
      refine ⟨_, _, rfl, VC.ment (pp := ptrOk Z gs1) (pp' := ptrOk Z gs2) (ps := slcOk gs1) (ps' := slcOk gs2) (fun _ h => h) (fun r hr => ?_) v1, v2⟩
      rcases n1 r hr with ⟨k, k1, k2, rfl⟩ | ⟨_, h⟩
      · have : gs2 (t, k) = gs1 (t, k) := o2.other _ fun k' h1 h2 e => by
          obtain rfl := (Prod.mk.inj e).2
          omega
        exact ⟨fun p v => ptrOk_at this, fun p off len v => slcOk_at this⟩
      · exact h.elim
    · intro r hr
      simp only [Go.Lft.mentL, List.mem_append] at hr
      rcases hr with hr | hr
      · rcases n1 r hr with ⟨k, k1, k2, rfl⟩ | ⟨_, h⟩
        · exact ⟨k, k1, Nat.lt_of_lt_of_le k2 o2.le, rfl⟩
        · exact h.elim
      · obtain ⟨k, k1, k2, rfl⟩ := n2 r hr
        exact ⟨k, Nat.le_trans o1.le k1, k2, rfl⟩
theorem caps_ment : ∀ {c : List D} {capt : List Value}, FCaps w Fz capt c → ∀ r ∈ Go.Lft.mentL c, False
  | [], capt, h, r, hr => by simp [Go.Lft.mentL] at hr
  | x :: xs, capt, h, r, hr => by
    simp only [FCaps] at h
    obtain ⟨v, vs', rfl, h1, h2⟩ := h
    simp only [Go.Lft.mentL, List.mem_append] at hr
    rcases hr with hr | hr
    · exact frep_ment h1 r hr
    · exact caps_ment h2 r hr
theorem frep_ment : ∀ {d : D} {cs : List Value}, FRep w Fz cs d → ∀ r ∈ Go.Lft.ment d, False
  | .agg xs, cs, h, r, hr => by simp only [FRep] at h; simp only [Go.Lft.ment] at hr; exact frepL_ment h r hr
  | .fn f xs, cs, h, r, hr => by simp only [FRep] at h; obtain ⟨capt, _, h⟩ := h; simp only [Go.Lft.ment] at hr; exact caps_ment h r hr
  | .int .., cs, h, r, hr => by simp [Go.Lft.ment] at hr
  | .bool _, cs, h, r, hr => by simp [Go.Lft.ment] at hr
  | .str _, cs, h, r, hr => by simp [Go.Lft.ment] at hr
  | .lst .., cs, h, r, hr => by simp [Go.Lft.ment] at hr
  | .ifc _, cs, h, r, hr => by simp [Go.Lft.ment] at hr
  | .pto _, cs, h, r, hr => by simp [Go.Lft.ment] at hr
  | .undef, cs, h, r, hr => by simp [Go.Lft.ment] at hr
  | .ptr .., cs, h, r, hr => by simp only [FRep] at h
  | .slc .., cs, h, r, hr => by simp only [FRep] at h
  | .tup _, cs, h, r, hr => by simp only [FRep] at h
theorem frepL_ment : ∀ {xs : List D} {cs : List Value}, FRepL w Fz cs xs → ∀ r ∈ Go.Lft.mentL xs, False
  | [], cs, h, r, hr => by simp [Go.Lft.mentL] at hr
  | x :: xs, cs, h, r, hr => by
    simp only [FRepL] at h
    obtain ⟨c1, c2, rfl, h1, h2⟩ := h
    simp only [Go.Lft.mentL, List.mem_append] at hr
    rcases hr with hr | hr
    · exact frep_ment h1 r hr
    · exact frepL_ment h2 r hr
theorem open_le (t : Nat) : ∀ (d : D) (j : Nat), j ≤ (open_ t j d).2.2
  | .lst true te e xs, j => by simp only [open_]; omega
  | .lst false te e xs, j => by simp only [open_]; omega
  | .agg xs, j => by simp only [open_]; exact openL_le t xs j
  | .tup xs, j => by simp only [open_]; exact openL_le t xs j
  | .int .., j => by simp only [open_]; omega
  | .bool _, j => by simp only [open_]; omega
  | .str _, j => by simp only [open_]; omega
  | .fn .., j => by simp only [open_]; omega
  | .ifc _, j => by simp only [open_]; omega
  | .pto _, j => by simp only [open_]; omega
  | .ptr .., j => by simp only [open_]; omega
  | .slc .., j => by simp only [open_]; omega
  | .undef, j => by simp only [open_]; omega
theorem openL_le (t : Nat) : ∀ (xs : List D) (j : Nat), j ≤ (openL t j xs).2.2
  | [], j => by simp only [openL]; omega
  | x :: xs, j => by simp only [openL]; exact Nat.le_trans (open_le t x j) (openL_le t xs _)
end


/-! ### A result, opened -/
mutual
theorem open_size (t : Nat) : ∀ (j : Nat) (d : D), D.size (open_ t j d).1 = D.size d
  | j, .agg xs => by simp only [open_, D.size]; exact openL_size t j xs
  | j, .lst true te e xs => by simp only [open_, D.size]
  | j, .lst false te e xs => by simp only [open_]
  | j, .tup xs => by simp only [open_, D.size]
  | j, .int .. => by simp only [open_]
  | j, .bool _ => by simp only [open_]
  | j, .str _ => by simp only [open_]
  | j, .fn .. => by simp only [open_]
  | j, .ifc _ => by simp only [open_]
  | j, .pto _ => by simp only [open_]
  | j, .ptr .. => by simp only [open_]
  | j, .slc .. => by simp only [open_]
  | j, .undef => by simp only [open_]
theorem openL_size (t : Nat) : ∀ (j : Nat) (xs : List D), D.sizeL (openL t j xs).1 = D.sizeL xs
  | j, [] => by simp only [openL]
  | j, x :: xs => by simp only [openL, D.sizeL, open_size t j x, openL_size t _ xs]
end
theorem open_shape (t j : Nat) (d : D) : isAgg (open_ t j d).1 = isAgg d ∧ (isPlain d = true → isPlain (open_ t j d).1 = true) := by
  cases d with
  | lst o te e xs => cases o <;> exact ⟨rfl, fun _ => rfl⟩
  | _ => first | exact ⟨rfl, fun _ => rfl⟩ | exact ⟨rfl, fun h => h⟩

theorem VCL_one {v : List Value} {d : D} {pp : PP} {ps : PS} (h : VCL w Fz pp ps v [d]) : VC w Fz pp ps v d := by
  simp only [VCL] at h
  obtain ⟨c1, c2, rfl, h1, rfl⟩ := h
  simpa using h1

theorem resL_vvs {t : Nat} {pp : PP} {ps : PS} : ∀ {vs : List Value} {ds : List D} {ms : List M} {j : Nat}, ResL vs ds ms → M.OkL w Fz ms → (∀ d ∈ ds, isPlain d = true) → VCL w Fz pp ps (M.cellsL ms) (openL t j ds).1 → VVs w Fz pp ps vs (openL t j ds).1
  | [], [], [], j, hr, hok, hp, hv => by simp only [openL, VVs]
  | v :: vs, d :: ds, m :: ms, j, hr, hok, hp, hv => by
    simp only [ResL] at hr
    obtain ⟨rfl, ⟨o1, o2, o3⟩, hr2⟩ := hr
    simp only [M.OkL] at hok
    simp only [openL, VCL, M.cellsL] at hv
    obtain ⟨c1, c2, hcc, hv1, hv2⟩ := hv
    have hlen : c1.length = (M.cells m).length := by
      rw [hv1.len, M.len hok.1, open_size]
    obtain ⟨rfl, rfl⟩ := List.append_inj hcc.symm hlen
    have hsh := open_shape t j (M.data m)
    simp only [openL, VVs]
    refine ⟨v, vs, rfl, VV.of_VC_plain (by rw [o1]; exact hv1) (hsh.2 (hp _ (List.mem_cons_self ..))) (fun h => o2 (by rw [← hsh.1]; exact h)) (fun h => ?_), resL_vvs hr2 hok.2 (fun d hd => hp d (List.mem_cons_of_mem _ hd)) hv2⟩
    have := o3 (by rw [← hsh.1]; exact h)
    rw [← o1] at this
    apply Array.ext'
    rw [this]
  | [], [], m :: ms, j, hr, hok, hp, hv => by simp [ResL] at hr
  | [], d :: ds, ms, j, hr, hok, hp, hv => by simp [ResL] at hr
  | v :: vs, [], ms, j, hr, hok, hp, hv => by simp [ResL] at hr
  | v :: vs, d :: ds, [], j, hr, hok, hp, hv => by simp [ResL] at hr

end
end Go.Lft

/- Calls are sound, if what they call is. -/
namespace Go.Lft

section
variable {P : Program} {T : Tb} {Z Z' : Zone} {gs gs' : Rid → Option G} {hs : List M} {Fz Fz' : Nat → Prop} {st : St} {a : Act} {w w' : World}

theorem CallsTo.mono {f : FuncId} {vs : Array Value} {K K' : Value → World → Prop} (h : CallsTo P f vs w K) (hk : ∀ v w', K v w' → K' v w') : CallsTo P f vs w K' :=
  fun o a next Q hn => h o a next Q fun v w' hv => hn v w' (hk v w' hv)

theorem resL_data : ∀ {vs : List Value} {ds : List D} {ms : List M}, ResL vs ds ms → M.dataL ms = ds
  | [], [], [], _ => rfl
  | v :: vs, d :: ds, m :: ms, h => by
    simp only [ResL] at h
    simp only [M.dataL, h.1, resL_data h.2.2]
  | [], [], m :: ms, hr => by simp [ResL] at hr
  | [], d :: ds, ms, hr => by simp [ResL] at hr
  | v :: vs, [], ms, hr => by simp [ResL] at hr
  | v :: vs, d :: ds, [], hr => by simp [ResL] at hr

theorem resV_cold {v : Value} {d : D} {ms : List M} (h : ResV v d ms) (hc : D.cold d = false) : D.coldL (M.dataL ms) = false := by
  unfold ResV at h
  split at h
  · obtain ⟨g, te, e, m, rfl, _, rfl⟩ := h
    simpa [M.dataL, M.data, D.coldL, D.cold] using hc
  · obtain ⟨vs, _, h⟩ := h
    rw [resL_data h]
    simpa only [D.cold] using hc
  · rw [resL_data h]
    simp only [D.coldL, hc, Bool.or_false]

/-- A result has no part that is not plain. -/
def resPlain (d : D) : Bool :=
  match d with
  | .tup [.undef, _] => true
  | .tup ds => ds.all isPlain
  | d => isPlain d
/-- Whether a result is a new variable. -/
def isNew : D → Bool
  | .tup [.undef, _] => true
  | _ => false
theorem isNew_iff {d : D} (h : isNew d = true) : ∃ c, d = .tup [.undef, c] := by
  unfold isNew at h
  split at h
  · exact ⟨_, rfl⟩
  · cases h
theorem openR_old {t : Nat} {d : D} (h : isNew d = false) : openR t d = open_ t 0 d := by
  unfold openR
  split
  · simp [isNew] at h
  · rfl
theorem ResV_tup {v : Value} {ds : List D} {ms : List M} (h : isNew (.tup ds) = false) : ResV v (.tup ds) ms = ∃ vs : List Value, v = .tuple vs.toArray ∧ ResL vs ds ms := by
  unfold ResV
  split
  · rename_i h2; cases h2; simp [isNew] at h
  · rename_i h2; cases h2; rfl
  · rename_i h1 h2; exact absurd rfl (h2 ds)
theorem resPlain_tup' {ds : List D} (h : isNew (.tup ds) = false) : resPlain (.tup ds) = ds.all isPlain := by
  unfold resPlain
  split
  · rename_i h2; cases h2; simp [isNew] at h
  · rename_i h2; cases h2; rfl
  · rename_i h1 h2; exact absurd rfl (h2 ds)

theorem openOld_ok (t : Nat) {v : Value} {d : D} {ms : List M} {rs : Rid → Option Root} (hm : Mem Z gs ms Fz w) (hrs : ∀ r, rs r = (gs r).map G.root) (hr : ResV v d ms) (hp : resPlain d = true) (hj : (open_ t 0 d).2.2 ≤ 99) (hold : isNew d = false) :
    ∃ gs', OpenOk Z gs [] Fz w rs t 0 (open_ t 0 d).2.1 (open_ t 0 d).2.2 gs' ∧ VV w Fz (ptrOk Z gs') (slcOk gs') v (open_ t 0 d).1 := by
  have hm' : Mem Z gs (ms ++ []) Fz w := by rw [List.append_nil]; exact hm
  have single : (∀ xs, d ≠ .tup xs) → ResL [v] [d] ms → isPlain d = true → ∃ gs', OpenOk Z gs [] Fz w rs t 0 (open_ t 0 d).2.1 (open_ t 0 d).2.2 gs' ∧ VV w Fz (ptrOk Z gs') (slcOk gs') v (open_ t 0 d).1 := by
    intro hnt hr hp
    have hd := resL_data hr
    have ho : openL t 0 [d] = ([(open_ t 0 d).1], (open_ t 0 d).2.1, (open_ t 0 d).2.2) := by simp [openL]
    obtain ⟨gs', o1, o2, _⟩ := openL_ok t hm' hrs (by rw [hd, ho]; exact hj)
    rw [hd, ho] at o1 o2
    have := resL_vvs (t := t) (j := 0) hr hm.hok (by simpa using hp) (by rw [ho]; exact o2)
    rw [ho] at this
    simp only [VVs] at this
    obtain ⟨v', _, e1, e2, rfl⟩ := this
    simp only [List.cons.injEq, and_true] at e1
    subst e1
    exact ⟨gs', o1, e2⟩
  cases d with
  | tup ds =>
    rw [ResV_tup hold] at hr
    rw [resPlain_tup' hold] at hp
    obtain ⟨vs, rfl, hr⟩ := hr
    have hd := resL_data hr
    simp only [open_] at hj ⊢
    obtain ⟨gs', o1, o2, _⟩ := openL_ok t hm' hrs (by rw [hd]; exact hj)
    rw [hd] at o1 o2
    refine ⟨gs', o1, ?_⟩
    simp only [VV]
    exact ⟨vs, rfl, resL_vvs hr hm.hok (by simpa using hp) o2⟩
  | _ => exact single (by intro xs h; cases h) hr (by simpa [resPlain] using hp)

theorem openRes_ok (t : Nat) {v : Value} {d : D} {ms : List M} {rs : Rid → Option Root} (hm : Mem Z gs ms Fz w) (hrs : ∀ r, rs r = (gs r).map G.root) (hr : ResV v d ms) (hp : resPlain d = true) (hj : (openR t d).2.2 ≤ 99) :
    ∃ gs', OpenOk Z gs [] Fz w rs t 0 (openR t d).2.1 (openR t d).2.2 gs' ∧ VV w Fz (ptrOk Z gs') (slcOk gs') v (openR t d).1 := by
  cases hn : isNew d with
  | false =>
    rw [openR_old hn] at hj ⊢
    exact openOld_ok t hm hrs hr hp hj hn
  | true =>
    obtain ⟨c, rfl⟩ := isNew_iff hn
    simp only [ResV] at hr
    obtain ⟨g, te, e, m, rfl, rfl, rfl⟩ := hr
    obtain ⟨k1, k2, k3, k4, k5, _⟩ := hm.head
    simp only [M.Ok] at k1
    simp only [M.In, List.append_nil] at k2
    simp only [M.ids] at k3 k4 k5
    have hm1 : Mem Z gs [m] Fz w := hm.sub k1.2.1 k2.2 (List.nodup_cons.1 k3).2 fun q hq => by simp only [M.idsL, M.ids, List.append_nil, List.mem_cons] at hq ⊢; exact .inr hq
    have hroot := hm1.root (t, 0) (lent0 Z t 0 (by omega)) ⟨some (g, te), m⟩ rfl (fun h => by cases h) (fun g' te' h => by
      simp only [Option.some.injEq, Prod.mk.injEq] at h
      obtain ⟨rfl, rfl⟩ := h
      refine ⟨by simpa [M.cellsL] using k2.1, (k4 g (List.mem_cons_self ..)).1, (k4 g (List.mem_cons_self ..)).2, fun r x hx hh => k5 r x hx g hh (List.mem_cons_self ..), ?_, by simp [M.idsL]⟩
      have := (List.nodup_cons.1 k3).1
      simpa [M.idsL] using this)
    simp only [openR]
    refine ⟨_, { mem := hroot, rs := ?_, other := fun r hr => upd_ne _ _ (hr 0 (Nat.le_refl _) (Nat.lt_succ_self _)), le := Nat.zero_le _, keys := fun k h1 h2 => ?_ }, ?_⟩
    · simp only [updAll]; exact rs_upd hrs rfl
    · obtain rfl : k = 0 := by omega
      exact ⟨_, List.mem_singleton.2 rfl⟩
    · simp only [VV, VC]
      exact ⟨_, rfl, _, g, 0, upd_self .., by simp [G.at_, M.at_nil], by simp [M.get_nil], rfl⟩

theorem kills_or {k : List Kill} {r : Rid} : ∀ {us : List (Rid × Option Root)}, (∀ q, (krs (us.map killRoot)).ptr r q = false → ∀ o, (r, o) ∉ us) ∧ (∀ q, (krs (us.map killRoot)).slc r q = false → ∀ o, (r, o) ∉ us)
  | [] => ⟨fun _ _ o h => (by cases h), fun _ _ o h => (by cases h)⟩
  | (r', o') :: us => by
    obtain ⟨i1, i2⟩ := kills_or (k := k) (r := r) (us := us)
    refine ⟨fun q h o ho => ?_, fun q h o ho => ?_⟩
    · rw [List.map_cons, krs_cons] at h
      simp only [Kr.or, Bool.or_eq_false_iff, krs_one] at h
      rcases List.mem_cons.1 ho with e | ho
      · obtain ⟨rfl, rfl⟩ := Prod.mk.inj e
        simp [killRoot, Kill.kr] at h
      · exact i1 q h.2 o ho
    · rw [List.map_cons, krs_cons] at h
      simp only [Kr.or, Bool.or_eq_false_iff, krs_one] at h
      rcases List.mem_cons.1 ho with e | ho
      · obtain ⟨rfl, rfl⟩ := Prod.mk.inj e
        simp [killRoot, Kill.kr] at h
      · exact i2 q h.2 o ho

theorem lives_open {t j j' : Nat} {us : List (Rid × Option Root)} {rs : Rid → Option Root} (h : OpenOk Z gs hs Fz w rs t j us j' gs') : Lives w w Fz Fz (ptrOk Z gs) (ptrOk Z gs') (slcOk gs) (slcOk gs') (krs (us.map killRoot)) := by
  refine ⟨fun _ _ => rfl, fun _ h => h, fun r q v hk hp => ?_, fun r q off len v hk hp => ?_⟩
  · refine ptrOk_at (h.other r fun k h1 h2 e => ?_) hp
    subst e
    obtain ⟨o, ho⟩ := h.keys k h1 h2
    exact (kills_or (k := [])).1 q hk o ho
  · refine slcOk_at (h.other r fun k h1 h2 e => ?_) hp
    subst e
    obtain ⟨o, ho⟩ := h.keys k h1 h2
    exact (kills_or (k := [])).2 q hk o ho

def AfterCall (Z : Zone) (gs : Rid → Option G) (Fz : Nat → Prop) (st : St) (w : World) (e : Eff) (v : Value) (w' : World) : Prop :=
  ∃ gs' Fz', Mem Z gs' [] Fz' w' ∧ (∀ r, updAll e.upd st.rs r = (gs' r).map G.root) ∧ Lives w w' Fz Fz' (ptrOk Z gs) (ptrOk Z gs') (slcOk gs) (slcOk gs') (krs e.kill) ∧ VV w' Fz' (ptrOk Z gs') (slcOk gs') v e.val

/-- What is plain stands for itself. -/
theorem VV.scalar {Fz2 : Nat → Prop} {w2 : World} {pp pp' : PP} {ps ps' : PS} {v : Value} {d : D} (hs : isScalar d = true) (h : VV w Fz pp ps v d) : VV w2 Fz2 pp' ps' v d := by
  cases d <;> simp [isScalar] at hs
  · obtain rfl := h.int_inv; simp only [VV, VC, FRep]
  · obtain rfl := h.bool_inv; simp only [VV, VC, FRep]
  · obtain rfl := h.str_inv; simp only [VV, VC, FRep]
theorem VVs.scalar {Fz2 : Nat → Prop} {w2 : World} {pp pp' : PP} {ps ps' : PS} : ∀ {xs : List D} {vs : List Value}, xs.all isScalar = true → VVs w Fz pp ps vs xs → vs.length = xs.length ∧ ∀ (t : Nat) (v : Value), vs[t]? = some v → ∃ d, xs[t]? = some d ∧ isScalar d = true ∧ VV w2 Fz2 pp' ps' v d
  | [], vs, hs, h => by
    simp only [VVs] at h
    subst h
    exact ⟨rfl, fun t v hv => by simp at hv⟩
  | x :: xs, vs, hs, h => by
    simp only [VVs] at h
    obtain ⟨v, vs', rfl, h1, h2⟩ := h
    simp only [List.all_cons, Bool.and_eq_true] at hs
    obtain ⟨i1, i2⟩ := VVs.scalar (w2 := w2) (Fz2 := Fz2) (pp' := pp') (ps' := ps') hs.2 h2
    refine ⟨by simp [i1], fun t u hu => ?_⟩
    cases t with
    | zero =>
      simp only [List.getElem?_cons_zero, Option.some.injEq] at hu
      subst hu
      exact ⟨x, rfl, hs.1, h1.scalar hs.1⟩
    | succ t => simpa using i2 t u (by simpa using hu)
theorem resV_scalar {pp : PP} {ps : PS} {v : Value} {d : D} {ms : List M} (hs : isScalar d = true) (hr : ResV v d ms) (hok : M.OkL w Fz ms) : VV w Fz pp ps v d := by
  have hr' : ResL [v] [d] ms := by cases d <;> first | exact hr | (simp [isScalar] at hs; done)
  match ms, hr' with
  | [m], hr' =>
    simp only [ResL, and_true] at hr'
    obtain ⟨rfl, h1, h2, h3⟩ := hr'
    simp only [M.OkL, and_true] at hok
    have ha : isAgg (M.data m) = false := by cases hd : M.data m <;> rw [hd] at hs <;> first | rfl | (simp [isScalar] at hs; done)
    cases m with
    | leaf u d =>
      simp only [M.Ok] at hok
      have := h3 ha
      simp only [M.cells, List.cons.injEq, and_true] at this
      subst this
      simp only [M.data] at hs ⊢
      exact VV.of_VC (VC.of_frep hok.1) (by simpa [M.data] using ha)
    | agg xs => simp [M.data, isAgg] at ha
    | lst g tg te e xs rest fr => simp [M.data, isScalar] at hs
  | [], hr' => simp [ResL] at hr'
  | _ :: _ :: _, hr' => simp [ResL] at hr'

/-- The zone of a call that is handed something for good. -/
def giveZone (hm : Mem Z gs hs Fz w) : Zone where
  w0 := w
  Own g := w.heap.size ≤ g ∨ g ∈ M.idsL hs
  Fz0 := Fz
  lent _ := none
  lent99 r b h := by cases h
  fresh g h := .inl h
  kn := Z.kn
  knOk w' h := Z.knOk w' fun g hg => by
    rw [h g fun hh => hg ?_, hm.keeps.block g hg]
    rcases hh with hh | hh
    · exact Z.fresh g (Nat.le_trans hm.keeps.size hh)
    · exact (hm.hown g hh).1

theorem give_ok (hm : Mem Z gs [] Fz w) (hrs : ∀ r, st.rs r = (gs r).map G.root) {call : CallF} {md : Nat → List Nat} {f : Nat} {xs : List D} {vs : List Value} {e : Eff} (hgv : md f = [2000]) (hv : VVs w Fz (ptrOk Z gs) (slcOk gs) vs xs) (h : giveEff call f st.rs xs = some e)
    (hf : ∀ args res, call f args = some res → FunOk P Z.kn (md f) f args res ∧ resPlain res.1 = true) : CallsTo P f vs.toArray w (AfterCall Z gs Fz st w e) := by
  obtain ⟨ys, zs, k, res, rfl, hz, h1, h2, h3, h4, rfl⟩ := giveEff_inv h
  simp only [VVs] at hv
  obtain ⟨v, vs', rfl, hv1, hv2⟩ := hv
  simp only [VV] at hv1
  obtain ⟨cs, rfl, hcs⟩ := hv1
  obtain ⟨gs', Fz', ms, tk, hd⟩ := takeL_ok hm hrs (Thin.refl gs) (fun _ h => h) hcs h1
  have hmem : Mem Z gs' ms Fz' w := by have := tk.mem; rwa [List.append_nil] at this
  have hown : ∀ g, (giveZone hmem).Own g → Z.Own g := by
    rintro g (h | h)
    · exact Z.fresh g (Nat.le_trans hmem.keeps.size h)
    · exact (hmem.hown g h).1
  have hmc : Mem (giveZone hmem) (fun _ => none) ms Fz' w :=
    { ok := fun r x h => (by cases h), ins := fun r x h => (by cases h), nd := fun r x h => (by cases h), row := fun r x h => (by cases h), own := fun r x h => (by cases h), dis := fun r r' x x' h => (by cases h),
      hok := hmem.hok, hin := hmem.hin, hnd := hmem.hnd, hown := fun g hg => ⟨.inr hg, (hmem.hown g hg).2⟩, hdis := fun r x h => (by cases h), fz := hmem.fz, fz0 := fun g h => h, fzo := fun g h => .inl h,
      keeps := ⟨rfl, rfl, rfl, Nat.le_refl _, fun _ _ => rfl⟩, lent := fun r x b h => (by cases h) }
  obtain ⟨gs0, o1, o2, _⟩ := openL_ok (hs := []) 0 (j := 0) (rs := fun _ => none) (by rw [List.append_nil]; exact hmc) (fun _ => rfl) (by rw [hd]; exact h2)
  rw [hd] at o1 o2
  rw [tk.cells] at o2
  have hvs := VVs.scalar (w2 := w) (Fz2 := Fz') (pp' := ptrOk (giveZone hmem) gs0) (ps' := slcOk gs0) hz hv2
  have h99 : ∀ a, gs0 (a, 99) = none := fun a => o1.other _ fun k h1' h2' e => by
    have := (Prod.mk.inj e).2
    omega
  have hsc : ∀ (t : Nat) (d : D), zs[t]? = some d → isScalar d = true := fun t d hd => List.all_eq_true.1 hz d (List.mem_of_getElem? hd)
  have hen : EntryOk (giveZone hmem) (md f) (.agg k.1 :: zs) (.agg cs.toArray :: vs') gs0 := by
    rw [hgv]
    refine { mem := o1.mem, rs := fun r => ?_, lent := fun r hr => ?_, len := by simp [hvs.1], env := fun t u hu => ?_ }
    · unfold initRs
      split
      · rename_i hc
        obtain ⟨e1, e2⟩ := hc
        have hr : r = (r.1, 99) := Prod.ext rfl e1
        rw [hr, h99]
        cases hr1 : r.1 with
        | zero => rw [hr1] at e2; simp [lentAt] at e2
        | succ n =>
          simp only [List.getElem?_cons_succ, Option.map_none]
          cases hz1 : zs[n]? with
          | none => rfl
          | some d =>
            have := hsc n d hz1
            cases d <;> first | rfl | (simp [isScalar] at this; done)
      · rw [if_pos rfl]
        simp only [List.getElem?_cons_zero, Option.bind_some, open_]
        exact o1.rs r
    · have : r = (r.1, 99) := Prod.ext rfl hr
      rw [this, h99]; rfl
    · unfold initEnv
      cases t with
      | zero =>
        simp only [List.getElem?_cons_zero, Option.some.injEq] at hu ⊢
        subst hu
        rw [if_neg (by simp [lentAt]), if_pos ⟨trivial, trivial⟩]
        simp only [open_, VV]
        exact ⟨cs, rfl, o2⟩
      | succ n =>
        simp only [List.getElem?_cons_succ] at hu ⊢
        obtain ⟨d, q1, q2, q3⟩ := hvs.2 n u hu
        rw [q1]
        simp only
        split
        · cases d <;> first | (simp only [VV]; done) | (simp [isScalar] at q2; done)
        · rw [if_neg (by rintro ⟨_, h⟩; cases h)]
          exact q3
  refine ((hf _ _ h3).1 _ _ _ hen rfl).mono fun v' w' hres => ?_
  obtain ⟨gs1, Fz1, ms1, hc, hresv, _⟩ := hres
  have hblk : ∀ g, ¬ (giveZone hmem).Own g → w'.heap[g]? = w.heap[g]? := fun g hg => hc.keeps.block g hg
  have hnf : ∀ g, Fz' g → ¬ (giveZone hmem).Own g := by
    rintro g hg (h | h)
    · exact absurd (hmem.fz g hg) (Nat.not_lt.2 h)
    · exact (hmem.hown g h).2 hg
  have hno : ∀ r x, gs' r = some x → ∀ g ∈ x.ids, ¬ (giveZone hmem).Own g := by
    rintro r x hx g hg (h | h)
    · exact absurd ((hmem.ins r x hx).lt g hg) (Nat.not_lt.2 h)
    · exact hmem.hdis r x hx g hg h
  have hk : Keeps Z w' := by
    have k1 := hmem.keeps
    have k2 := hc.keeps
    exact ⟨k2.os.trans k1.os, k2.tape.trans k1.tape, k2.output.trans k1.output, Nat.le_trans k1.size k2.size, fun g hg => by rw [hblk g fun h => hg (hown g h), k1.block g hg]⟩
  have hm0 : Mem Z gs' [] Fz' w := hmem.sub (by simp only [M.OkL]) (by simp only [M.InL]) (by simp [M.idsL]) (fun g hg => by simp [M.idsL] at hg)
  have hst := hm0.step (w' := w') (Fz2 := Fz') (fun r x hx g hg => ⟨hblk g (hno r x hx g hg), (hmem.own r x hx g hg).2⟩) (fun g hg => ⟨hblk g (hnf g hg), hg⟩) (fun g hg => Nat.lt_of_lt_of_le (hmem.fz g hg) hc.keeps.size) hmem.fzo hk
  refine ⟨gs', Fz', hst, tk.rs, { tk.lives with heap := fun g hg => hblk g (hnf g (tk.fz g hg)) }, VV.scalar h4 (resV_scalar (pp := ptrOk Z gs') (ps := slcOk gs') h4 hresv hc.hok)⟩

theorem base_ok (hm : Mem Z gs [] Fz w) (hrs : ∀ r, st.rs r = (gs r).map G.root) {call : CallF} {md : Nat → List Nat} {t f : Nat} {xs : List D} {vs : List Value} {e : Eff} (hgv : md f ≠ [2000]) (hv : VVs w Fz (ptrOk Z gs) (slcOk gs) vs xs) (h : baseEff call md t f st xs = some e)
    (hf : ∀ args res, call f args = some res → FunOk P Z.kn (md f) f args res ∧ resPlain res.1 = true) : CallsTo P f vs.toArray w (AfterCall Z gs Fz st w e) := by
  unfold baseEff at h
  rw [Option.bind_eq_some_iff] at h
  obtain ⟨y, h1, h2⟩ := h
  split at h2
  · rename_i hap
    simp only [Option.bind_eq_some_iff] at h2
    obtain ⟨res, h3, fr, h4, g, h5, h6⟩ := h2
    split at h6
    · rename_i hj
      obtain rfl := Option.some.inj h6
      obtain ⟨hen, hargs⟩ := entry_ok hm hrs hv hgv h1 hap
      obtain ⟨hd, har⟩ := apartAll_iff hap
      obtain ⟨hfo, hrp⟩ := hf _ _ h3
      obtain ⟨ds, ls, reads⟩ := y
      simp only at hen hargs hd har h3 h4 h5 hap
      refine (hfo _ _ _ hen rfl).mono fun v w' hres => ?_
      obtain ⟨gs1, Fz1, ms, hc, hresv, hlent⟩ := hres
      -- what was read stands frozen, if something may speak of it
      obtain ⟨gsF, FzF, fo⟩ := freezeAll_ok hm hrs h4
      have hcold : ∀ q ∈ coldOf res reads, q ∈ reads := by
        intro q hq
        unfold coldOf at hq
        split at hq
        · exact hq
        · cases hq
      have hsame : ∀ l ∈ ls, gsF l.r = gs l.r := fun l hl => fo.other _ fun q hq => har l hl q (hcold q hq)
      let isC : Prop := (D.cold res.1 || res.2.any coldB) = true
      let Fz2 : Nat → Prop := fun g => (isC ∧ Fz1 g) ∨ (¬ isC ∧ FzF g)
      have hwarm : ¬ isC → ∀ g, FzF g → Fz g := by
        intro hn g hg
        rcases fo.fzi g hg with h | ⟨q, hq, _⟩
        · exact h
        · unfold coldOf at hq
          rw [if_neg hn] at hq
          cases hq
      have hF0 : ∀ g, FzF g → Fz g ∨ readIds gs reads g := fun g hg => (fo.fzi g hg).imp id fun ⟨q, hq, r⟩ => ⟨q, hcold q hq, r⟩
      have hF1 : ∀ g, FzF g → Fz1 g := fun g hg => hc.fz0 g (hF0 g hg)
      have hFF2 : ∀ g, FzF g → Fz2 g := fun g hg => by
        by_cases hC : isC
        · exact .inl ⟨hC, hF1 g hg⟩
        · exact .inr ⟨hC, hg⟩
      have hF21 : ∀ g, Fz2 g → Fz1 g := fun g hg => by
        rcases hg with ⟨_, h⟩ | ⟨_, h⟩
        · exact h
        · exact hF1 g h
      have hrd : isC → ∀ g, Fz g ∨ readIds gs reads g → FzF g := by
        intro hC g hg
        rcases hg with hg | hg
        · exact fo.fz g hg
        · refine fo.read g ?_
          have : coldOf res reads = reads := if_pos hC
          rw [this]; exact hg
      obtain ⟨gsR, hmR, hR1, hR2⟩ := pull_all (gs := gsF) hd (fun l hl => by
        obtain ⟨_, _, _, _, _, _, _, x, z, e1, e2, _⟩ := hargs.lents l hl
        exact ⟨x, z, by rw [hsame l hl]; exact e1, e2⟩) fo.mem
      -- blocks that the call may write
      have hlentb : ∀ g, (calleeZone hm ls reads).Own g → w.heap.size ≤ g ∨ ∃ l ∈ ls, ∃ y, lendG gs l = some y ∧ g ∈ y.ids := by
        rintro g (h | ⟨r, y, hy, hg⟩)
        · exact .inl h
        · obtain ⟨_, l, hl, _, hlg⟩ := entryG_some hy
          exact .inr ⟨l, hl, y, hlg, hg⟩
      have hRown : ∀ r x, gsR r = some x → ∀ g ∈ x.ids, ¬ (calleeZone hm ls reads).Own g := by
        intro r x hx g hg hown
        rcases hlentb g hown with h | ⟨l, hl, y, hlg, hgy⟩
        · exact absurd ((hmR.ins r x hx).lt g hg) (Nat.not_lt.2 h)
        · obtain ⟨xl, hxl, hsub⟩ := lendG_ids hlg
          by_cases hr : r = l.r
          · subst hr
            have hp := hR2 l hl
            rcases lendG_some hlg with ⟨hvar, _⟩ | ⟨hvar, x0, z0, hx0, hz0, rfl⟩
            · rw [hp.var hvar] at hx; cases hx
            · obtain ⟨x1, z1, y1, e1, e2, e3, _, _, e6, _⟩ := hp.row hvar
              rw [hsame l hl, hx0] at e1
              obtain rfl := Option.some.inj e1
              rw [hz0] at e2
              obtain rfl := Option.some.inj e2
              rw [hx] at e3
              obtain rfl := Option.some.inj e3
              obtain ⟨A, B, i1, i2⟩ := G.put_ids (x := x0) hz0
              have hnd := hm.nd _ x0 hx0
              rw [i1, List.nodup_append, List.nodup_append] at hnd
              rw [i2, e6] at hg
              simp only [G.ids] at hgy
              simp only [List.append_nil, List.mem_append] at hg
              rcases hg with hg | hg
              · exact hnd.1.2.2 g hg g hgy rfl
              · exact hnd.2.2 g (List.mem_append_right _ hgy) g hg rfl
          · -- another root
            have hor : ∃ x2, gs r = some x2 ∧ g ∈ x2.ids := by
              by_cases hin : ∃ l' ∈ ls, l'.r = r
              · obtain ⟨l', hl', rfl⟩ := hin
                have hp := hR2 l' hl'
                cases hv' : l'.var with
                | true => rw [hp.var hv'] at hx; cases hx
                | false =>
                  obtain ⟨x1, z1, y1, e1, e2, e3, _, _, e6, _⟩ := hp.row hv'
                  rw [hx] at e3
                  obtain rfl := Option.some.inj e3
                  obtain ⟨A, B, i1, i2⟩ := G.put_ids (x := x1) e2
                  refine ⟨x1, by rw [← hsame l' hl']; exact e1, ?_⟩
                  rw [i2, e6] at hg
                  rw [i1]
                  simp only [List.append_nil, List.mem_append] at hg ⊢
                  rcases hg with hg | hg
                  · exact .inl (.inl hg)
                  · exact .inr hg
              · rw [hR1 r fun l' hl' e => hin ⟨l', hl', e⟩] at hx
                obtain ⟨x2, e1, e2⟩ := fo.ids r x hx
                exact ⟨x2, e1, e2 g hg⟩
            obtain ⟨x2, e1, e2⟩ := hor
            exact hm.dis r l.r x2 xl e1 hxl hr g e2 (hsub g hgy)
      have hFown : ∀ g, FzF g → ¬ (calleeZone hm ls reads).Own g := by
        intro g hg hown
        rcases hlentb g hown with h | ⟨l, hl, y, hlg, hgy⟩
        · exact absurd (fo.mem.fz g hg) (Nat.not_lt.2 h)
        · obtain ⟨xl, hxl, hsub⟩ := lendG_ids hlg
          exact (fo.mem.own l.r xl (by rw [hsame l hl]; exact hxl) g (hsub g hgy)).2 hg
      have hblk : ∀ g, ¬ (calleeZone hm ls reads).Own g → w'.heap[g]? = w.heap[g]? := fun g hg => hc.keeps.block g hg
      have hownZ : ∀ g, (calleeZone hm ls reads).Own g → Z.Own g := by
        intro g hown
        rcases hlentb g hown with h | ⟨l, hl, y, hlg, hgy⟩
        · exact Z.fresh g (Nat.le_trans hm.keeps.size h)
        · obtain ⟨xl, hxl, hsub⟩ := lendG_ids hlg
          exact (hm.own l.r xl hxl g (hsub g hgy)).1
      have hk : Keeps Z w' := by
        have k1 := hm.keeps
        have k2 := hc.keeps
        exact ⟨k2.os.trans k1.os, k2.tape.trans k1.tape, k2.output.trans k1.output, Nat.le_trans k1.size k2.size, fun g hg => by rw [hblk g fun h => hg (hownZ g h), k1.block g hg]⟩
      have hst := hmR.step (w' := w') (Fz2 := Fz2) (fun r x hx g hg => ⟨hblk g (hRown r x hx g hg), fun hh => by
          rcases hh with ⟨hC, hh⟩ | ⟨_, hh⟩
          · rcases hc.fzo g hh with h' | h'
            · exact (hmR.own r x hx g hg).2 (hrd hC g h')
            · exact hRown r x hx g hg h'
          · exact (hmR.own r x hx g hg).2 hh⟩)
        (fun g hg => ⟨hblk g (hFown g hg), hFF2 g hg⟩) (fun g hg => hc.fz g (hF21 g hg)) (fun g hg => by
          rcases hc.fzo g (hF21 g hg) with h' | h'
          · rcases h' with h' | ⟨q, hq, x, z, e1, e2, e3⟩
            · exact hm.fzo g h'
            · obtain ⟨A, B, i1, _⟩ := G.put_ids (x := x) e2
              exact .inr (hm.own _ x e1 g (by rw [i1]; simp [e3])).1
          · exact .inr (hownZ g h')) hk
      have hb : Brought Z (calleeZone hm ls reads) isC gs1 ms Fz2 w' := {
        ok := fun r x hx hcw => by
          rcases hcw with hC | hC
          · exact (hc.ok r x hx).stab (fun _ _ => rfl) fun g hg => .inl ⟨hC, hg⟩
          · exact (hc.ok r x hx).warm hC
        hok := by
          by_cases hC : isC
          · exact hc.hok.stab (fun _ _ => rfl) fun g hg => .inl ⟨hC, hg⟩
          · refine hc.hok.warm (resV_cold hresv ?_)
            cases hcd : D.cold res.1 with
            | false => rfl
            | true => exact absurd (by simp [isC, hcd]) hC
        own := hownZ
        nfz := fun r x hx g hg hh => (hc.own r x hx g hg).2 (hF21 g hh)
        hnfz := fun g hg hh => (hc.hown g hg).2 (hF21 g hh) }
      have hfill := hst.fill hb.hok hc.hin hc.hnd (fun g hg => ⟨hownZ g (hc.hown g hg).1, hb.hnfz g hg⟩) (fun r x hx g hg hh => hRown r x hx g hg (hc.hown g hh).1)
      obtain ⟨gsG, q1, q2, q3, q4⟩ := give_all hc hb fo.mem.lent (gsK := gsR) (rsK := updAll fr st.rs) hfill (fun r x hx g hg => .inl (hRown r x hx g hg)) (fun r hr => by rw [hR1 r hr]; exact fo.rs r)
        (fun l hl => ⟨hR2 l hl, fo.rs l.r, by
          obtain ⟨t', d', v', _, _, _, _, x, z, e1, e2, e3, e4⟩ := hargs.lents l hl
          have hzl : (calleeZone hm ls reads).lent (l.j, 99) = (lendG gs l).map fun x => (x.bx, M.cells x.m) := by
            show (entryG gs ls (l.j, 99)).map _ = _
            rw [entryG_lent hargs.uniq hl]
          cases hvar : l.var with
          | true =>
            obtain ⟨f1, f2, g0, te, f3, f4⟩ := e4 hvar
            refine ⟨x, z, (x.bx, M.cells x.m), by rw [hsame l hl]; exact e1, e2, ?_, fun _ => ⟨f1, by rw [f3]; rfl, rfl⟩, fun h => (by rw [hvar] at h; cases h)⟩
            rw [hzl]
            simp only [lendG, hvar, if_true, e1, Option.map_some]
          | false =>
            obtain ⟨⟨te, ee, zs, f1, f2⟩, f3⟩ := e3 hvar
            refine ⟨x, z, (none, M.cells z), by rw [hsame l hl]; exact e1, e2, ?_, (fun h => (by rw [hvar] at h; cases h)), fun _ => ⟨rfl, rfl, by rw [f1]; rfl⟩⟩
            rw [hzl]
            simp only [lendG, hvar, Bool.false_eq_true, if_false, e1, Option.bind_some, e2, Option.map_some]⟩)
        hd hargs.uniq hlent (fun d hdm => by
          by_cases hC : isC
          · exact .inl hC
          · refine .inr ?_
            cases hcd : coldB d with
            | false => rfl
            | true => exact absurd (show isC by simp only [isC, Bool.or_eq_true, List.any_eq_true]; exact .inr ⟨d, hdm, hcd⟩) hC) h5
      obtain ⟨gsO, o1, o2⟩ := openRes_ok t q1 q2 hresv hrp hj
      refine ⟨gsO, Fz2, o1.mem, fun r => ?_, ?_, o2⟩
      · rw [updAll_append, updAll_append]; exact o1.rs r
      · have l2 : Lives w w' FzF Fz2 (ptrOk Z gsF) (ptrOk Z gsG) (slcOk gsF) (slcOk gsG) (krs g.2) := by
          refine ⟨fun g hg => hblk g (hFown g hg), hFF2, fun r q v hk hp => ?_, fun r q off len v hk hp => ?_⟩
          · by_cases hin : ∃ l ∈ ls, l.r = r
            · obtain ⟨l, hl, rfl⟩ := hin
              exact (q4 l hl).1 q v hk hp
            · have hr : ∀ l ∈ ls, l.r ≠ r := fun l hl e => hin ⟨l, hl, e⟩
              exact ptrOk_at ((q3 r hr).trans (hR1 r hr)) hp
          · by_cases hin : ∃ l ∈ ls, l.r = r
            · obtain ⟨l, hl, rfl⟩ := hin
              exact (q4 l hl).2 q off len v hk hp
            · have hr : ∀ l ∈ ls, l.r ≠ r := fun l hl e => hin ⟨l, hl, e⟩
              exact slcOk_at ((q3 r hr).trans (hR1 r hr)) hp
        exact (fo.lives.krs_trans l2).krs_trans (lives_open o1)
    · cases h6
  · cases h2

/-- What is called is sound. -/
structure CallsOk (P : Program) (kn : World → Prop) (call : CallF) (md : Nat → List Nat) : Prop where
  fn : ∀ f args res, call f args = some res → FunOk P kn (md f) f args res ∧ resPlain res.1 = true
  wr : ∀ f q, wrapOf (md f) = some q → WrapTo P f q.2.1 q.2.2

theorem vcl_one {pp : PP} {ps : PS} : ∀ {xs : List D} {cs : List Value} {i : Nat} {d : D}, VCL w Fz pp ps cs xs → xs[i]? = some d → isAgg d = false → isPlain d = true → ∃ v, cs[D.sizeL (xs.take i)]? = some v ∧ VC w Fz pp ps [v] d
  | [], cs, i, d, h, hi, ha, hp => by simp at hi
  | x :: xs, cs, 0, d, h, hi, ha, hp => by
    simp only [VCL] at h
    obtain ⟨c1, c2, rfl, h1, h2⟩ := h
    simp only [List.getElem?_cons_zero, Option.some.injEq] at hi
    subst hi
    have hl := h1.len
    rw [D.size_of_not_agg ha] at hl
    match c1, hl with
    | [v], _ => exact ⟨v, by simp [D.sizeL], h1⟩
  | x :: xs, cs, i + 1, d, h, hi, ha, hp => by
    simp only [VCL] at h
    obtain ⟨c1, c2, rfl, h1, h2⟩ := h
    simp only [List.getElem?_cons_succ] at hi
    obtain ⟨v, e1, e2⟩ := vcl_one h2 hi ha hp
    refine ⟨v, ?_, e2⟩
    simp only [List.take_succ_cons, D.sizeL]
    rw [List.getElem?_append_right (by rw [h1.len]; omega), h1.len, Nat.add_sub_cancel_left]
    exact e1

theorem call_ok (hm : Mem Z gs [] Fz w) (hrs : ∀ r, st.rs r = (gs r).map G.root) {call : CallF} {md : Nat → List Nat} {t f : Nat} {xs : List D} {vs : List Value} {e : Eff} (hv : VVs w Fz (ptrOk Z gs) (slcOk gs) vs xs) (h : callEff call md t f st xs = some e)
    (hf : CallsOk P Z.kn call md) : CallsTo P f vs.toArray w (AfterCall Z gs Fz st w e) := by
  unfold callEff at h
  by_cases hgv : md f = [2000]
  · rw [if_pos hgv] at h
    exact give_ok hm hrs hgv hv h (hf.fn f)
  rw [if_neg hgv] at h
  cases hw : wrapOf (md f) with
  | none => rw [hw] at h; exact base_ok hm hrs hgv hv h (hf.fn f)
  | some q =>
    rw [hw] at h
    obtain ⟨ds, k, n, r, p, off, len, rfl, h1, h2, h3, h4⟩ := wrapEff_inv h
    simp only [VVs] at hv
    obtain ⟨v, _, rfl, hv1, kv, _, rfl, hv2, rfl⟩ := hv
    simp only [VV] at hv1
    obtain ⟨cs, rfl, hcs⟩ := hv1
    obtain ⟨sv, e1, e2⟩ := vcl_one hcs h1 rfl rfl
    rw [h2] at e1
    refine hf.wr f q hw cs sv kv w _ e1 fun b => ?_
    have hsame : ∀ g, g < w.heap.size → ({ w with heap := w.heap.push b } : World).heap[g]? = w.heap[g]? := fun g hg => by
      show (w.heap.push b)[g]? = _
      rw [Array.getElem?_push]
      rw [if_neg (by omega)]
    have hm' : Mem Z gs [] Fz { w with heap := w.heap.push b } := hm.step (fun r x hx g hg => ⟨hsame g ((hm.ins r x hx).lt g hg), (hm.own r x hx g hg).2⟩) (fun g hg => ⟨hsame g (hm.fz g hg), hg⟩) (fun g hg => by
        have := hm.fz g hg
        show g < (w.heap.push b).size
        rw [Array.size_push]; omega) hm.fzo ⟨hm.keeps.os, hm.keeps.tape, hm.keeps.output, by
        show _ ≤ (w.heap.push b).size
        rw [Array.size_push]; exact Nat.le_succ_of_le hm.keeps.size, fun g hg => by
        have hlt : g < w.heap.size := by
          rcases Nat.lt_or_ge g w.heap.size with h | h
          · exact h
          · exact absurd (Z.fresh g (Nat.le_trans hm.keeps.size h)) hg
        rw [hsame g hlt, hm.keeps.block g hg]⟩
    have hvv : VVs { w with heap := w.heap.push b } Fz (ptrOk Z gs) (slcOk gs) [sv, kv] [.slc r p off len, .int k n] := by
      simp only [VVs]
      refine ⟨sv, _, rfl, ?_, kv, _, rfl, VV.scalar (w := w) rfl hv2, rfl⟩
      simp only [VV]
      simp only [VC] at e2 ⊢
      exact e2
    refine (base_ok hm' hrs (by rw [h3]; decide) hvv h4 (hf.fn q.2.2)).mono fun v w' hac => ?_
    obtain ⟨gs', Fz', m1, m2, m3, m4⟩ := hac
    exact ⟨gs', Fz', m1, m2, { m3 with heap := fun g hg => by rw [m3.heap g hg, hsame g (hm.fz g hg)] }, m4⟩

/-- A call, as an operation. -/
theorem callOp_ok (hT : TbOk P T) (hi : Inv Z gs Fz st a w) {call : CallF} {md : Nat → List Nat} {dst : Option Nat} {ty : Nat} {pos : String} {after : Array Edge} {g : Option (Nat × Bool)} (hd : ∀ t, dst = some t → t < a.tmps.size) {c : Call} {e : Eff}
    (h : callOp T call md (dst.getD 0) ty st c = some e) (hf : CallsOk P Z.kn call md) : OpSound P Z ⟨dst, .call c, ty, pos, after, g⟩ a w (st.app dst e) := by
  obtain ⟨callee, args, tys⟩ := c
  unfold callOp at h
  cases callee with
  | builtin b => exact builtin_ok hT hi hd h
  | invoke r n => cases h
  | value fo =>
    simp only [Option.bind_eq_some_iff] at h
    obtain ⟨fd, h1, h2⟩ := h
    cases fd <;> simp only at h2 <;> try (cases h2; done)
    rename_i f caps
    split at h2
    rotate_left
    · cases h2
    rename_i hna
    simp only [Option.bind_eq_some_iff] at h2
    obtain ⟨xs, h3, h4⟩ := h2
    have hfv := ev_ok hT hi h1
    simp only [VV, VC] at hfv
    obtain ⟨capt, e1, e2⟩ := hfv
    simp only [List.cons.injEq, and_true] at e1
    have hxs := evL_ok hT hi h3
    have hall : VVs w Fz (ptrOk Z gs) (slcOk gs) (args.toList.map a.eval ++ capt) (xs ++ caps) := by
      have hcv : ∀ {caps : List D} {capt : List Value}, caps.all (fun d => !isAgg d) = true → VCs w Fz (ptrOk Z gs) (slcOk gs) capt caps → VVs w Fz (ptrOk Z gs) (slcOk gs) capt caps := by
        intro caps
        induction caps with
        | nil => intro capt _ h; simp only [VCs] at h; simp only [VVs]; exact h
        | cons d ds ih =>
          intro capt ha h
          simp only [List.all_cons, Bool.and_eq_true, Bool.not_eq_true'] at ha
          simp only [VCs] at h
          obtain ⟨v, vs', rfl, k1, k2⟩ := h
          simp only [VVs]
          exact ⟨v, vs', rfl, VV.of_VC k1 ha.1, ih ha.2 k2⟩
      have happ : ∀ {xs ys : List D} {us vs : List Value}, VVs w Fz (ptrOk Z gs) (slcOk gs) us xs → VVs w Fz (ptrOk Z gs) (slcOk gs) vs ys → VVs w Fz (ptrOk Z gs) (slcOk gs) (us ++ vs) (xs ++ ys) := by
        intro xs
        induction xs with
        | nil => intro ys us vs h1 h2; simp only [VVs] at h1; subst h1; exact h2
        | cons d ds ih =>
          intro ys us vs h1 h2
          simp only [VVs] at h1
          obtain ⟨v, vs', rfl, k1, k2⟩ := h1
          simp only [List.cons_append, VVs]
          exact ⟨v, vs' ++ vs, rfl, k1, ih k2 h2⟩
      exact happ hxs (hcv hna e2)
    have hcall := call_ok (P := P) (t := dst.getD 0) hi.mem hi.rs hall h4 hf
    intro K Q hK
    unfold Oper.wp
    have hex : (execOp a.eval ⟨dst, .call ⟨.value fo, args, tys⟩, ty, pos, after, g⟩).run P w = (callFunc f (args.toList.map a.eval ++ capt).toArray).run P w := by
      have : args.map a.eval ++ capt.toArray = (args.toList.map a.eval ++ capt).toArray := by
        apply Array.ext'
        simp
      simp [execOp, resolve, e1, Deferred.ofValue, invoke, this]
    rw [hex]
    refine hcall _ a K Q fun v w' hac => ?_
    obtain ⟨gs', Fz', m1, m2, m3, m4⟩ := hac
    refine hK _ _ gs' Fz' (m1.inv m2 (fun t => env_put m3 (keeps_st hi.keeps m1.keeps) hi.env (fun _ => m4) hd t) ?_) (put_size a dst v)
    cases dst <;> simpa [Act.put] using hi.defers

end
end Go.Lft

/- What an operation looks at. -/
namespace Go.Lft

def Agree (F : Rid → Prop) (rs1 rs2 : Rid → Option Root) : Prop := ∀ r, F r → rs1 r = rs2 r

theorem Agree.updAll {F : Rid → Prop} : ∀ (us : List (Rid × Option Root)) {rs1 rs2 : Rid → Option Root}, Agree F rs1 rs2 → Agree F (Go.Lft.updAll us rs1) (Go.Lft.updAll us rs2)
  | [], _, _, h => h
  | (r, x) :: us, rs1, rs2, h => by
    simp only [Go.Lft.updAll]
    refine Agree.updAll us fun r' hr' => ?_
    unfold Go.Lft.upd
    split
    · rfl
    · exact h r' hr'

section
variable {F : Rid → Prop} {rs1 rs2 : Rid → Option Root}

mutual
theorem take_local {mv : Nat → Bool} : ∀ {d : D} {rs1 rs2 : Rid → Option Root}, Agree F rs1 rs2 → (∀ r ∈ ment d, F r) → take mv rs1 d = take mv rs2 d
  | .slc r p off len, rs1, rs2, h, hm => by simp only [take, h r (hm r (by simp [ment]))]
  | .agg xs, rs1, rs2, h, hm => by simp only [take, takeL_local h (by simpa only [ment] using hm)]
  | .ptr .., rs1, rs2, h, hm => by simp only [take]
  | .tup _, rs1, rs2, h, hm => by simp only [take]
  | .fn .., rs1, rs2, h, hm => by simp only [take]
  | .pto _, rs1, rs2, h, hm => by simp only [take]
  | .undef, rs1, rs2, h, hm => by simp only [take]
  | .int .., rs1, rs2, h, hm => by simp only [take]
  | .bool _, rs1, rs2, h, hm => by simp only [take]
  | .str _, rs1, rs2, h, hm => by simp only [take]
  | .lst .., rs1, rs2, h, hm => by simp only [take]
  | .ifc _, rs1, rs2, h, hm => by simp only [take]
theorem takeL_local {mv : Nat → Bool} : ∀ {xs : List D} {rs1 rs2 : Rid → Option Root}, Agree F rs1 rs2 → (∀ r ∈ mentL xs, F r) → takeL mv rs1 xs = takeL mv rs2 xs
  | [], rs1, rs2, h, hm => by simp only [takeL]
  | x :: xs, rs1, rs2, h, hm => by
    simp only [mentL, List.mem_append] at hm
    simp only [takeL, take_local h fun r hr => hm r (.inl hr)]
    congr 1
    funext t
    rw [takeL_local (h.updAll t.upd) fun r hr => hm r (.inr hr)]
end

mutual
theorem close_local : ∀ {d : D}, Agree F rs1 rs2 → (∀ r ∈ ment d, F r) → close rs1 d = close rs2 d
  | .slc r p off len, h, hm => by simp only [close, h r (hm r (by simp [ment]))]
  | .ptr r p, h, hm => by simp only [close, h r (hm r (by simp [ment]))]
  | .agg xs, h, hm => by simp only [close, closeL_local h (by simpa only [ment] using hm)]
  | .fn f xs, h, hm => by simp only [close, closeL_local h (by simpa only [ment] using hm)]
  | .tup _, h, hm => by simp only [close]
  | .pto _, h, hm => by simp only [close]
  | .undef, h, hm => by simp only [close]
  | .int .., h, hm => by simp only [close]
  | .bool _, h, hm => by simp only [close]
  | .str _, h, hm => by simp only [close]
  | .lst true te e [], h, hm => by simp only [close]
  | .lst true te e (x :: xs), h, hm => by simp only [close]
  | .lst false te e xs, h, hm => by simp only [close]
  | .ifc _, h, hm => by simp only [close]
theorem closeL_local : ∀ {xs : List D}, Agree F rs1 rs2 → (∀ r ∈ mentL xs, F r) → closeL rs1 xs = closeL rs2 xs
  | [], h, hm => by simp only [closeL]
  | x :: xs, h, hm => by
    simp only [mentL, List.mem_append] at hm
    simp only [closeL, close_local h fun r hr => hm r (.inl hr), closeL_local h fun r hr => hm r (.inr hr)]
end

theorem lend_local {d : D} {j : Nat} (h : Agree F rs1 rs2) (hm : ∀ r ∈ ment d, F r) : lend rs1 j d = lend rs2 j d := by
  cases d <;> simp only [lend]
  · rename_i r p; rw [h r (hm r (by simp [ment]))]
  · rename_i r p off len; rw [h r (hm r (by simp [ment]))]

theorem argsOf_local {md : List Nat} (h : Agree F rs1 rs2) : ∀ {xs : List D} {i : Nat}, (∀ r ∈ mentL xs, F r) → argsOf rs1 md i xs = argsOf rs2 md i xs
  | [], i, hm => by simp only [argsOf]
  | x :: xs, i, hm => by
    simp only [mentL, List.mem_append] at hm
    simp only [argsOf, lend_local h fun r hr => hm r (.inl hr), close_local h fun r hr => hm r (.inl hr), argsOf_local h fun r hr => hm r (.inr hr)]

theorem lend_root {rs : Rid → Option Root} {d : D} {j : Nat} {y : Lent × D} (h : lend rs j d = some y) : y.1.r ∈ ment d := by
  cases d <;> simp only [lend] at h <;> try (cases h; done)
  · rw [Option.bind_eq_some_iff] at h
    obtain ⟨root, _, h⟩ := h
    split at h
    · obtain rfl := Option.some.inj h; simp [ment]
    · cases h
  · simp only [Option.bind_eq_some_iff] at h
    obtain ⟨root, _, d0, _, h⟩ := h
    split at h
    · split at h
      · obtain rfl := Option.some.inj h; simp [ment]
      · cases h
    · cases h

mutual
theorem spoken_ment : ∀ (d : D), ∀ q ∈ spoken d, q.1 ∈ ment d
  | .slc r p _ _, q, h => by simp only [spoken, List.mem_singleton] at h; subst h; simp [ment]
  | .ptr r p, q, h => by simp only [spoken, List.mem_singleton] at h; subst h; simp [ment]
  | .agg xs, q, h => by simp only [spoken] at h; simp only [ment]; exact spokenL_ment xs q h
  | .fn _ xs, q, h => by simp only [spoken] at h; simp only [ment]; exact spokenL_ment xs q h
  | .tup _, q, h => by simp [spoken] at h
  | .pto _, q, h => by simp [spoken] at h
  | .undef, q, h => by simp [spoken] at h
  | .int .., q, h => by simp [spoken] at h
  | .bool _, q, h => by simp [spoken] at h
  | .str _, q, h => by simp [spoken] at h
  | .lst .., q, h => by simp [spoken] at h
  | .ifc _, q, h => by simp [spoken] at h
theorem spokenL_ment : ∀ (xs : List D), ∀ q ∈ spokenL xs, q.1 ∈ mentL xs
  | [], q, h => by simp [spokenL] at h
  | x :: xs, q, h => by
    simp only [spokenL, mentL, List.mem_append] at h ⊢
    exact h.imp (spoken_ment x q) (spokenL_ment xs q)
end

theorem argsOf_roots {rs : Rid → Option Root} {md : List Nat} : ∀ {xs : List D} {i : Nat} {y : List D × List Lent × List (Rid × List Stp)}, argsOf rs md i xs = some y → (∀ l ∈ y.2.1, l.r ∈ mentL xs) ∧ ∀ q ∈ y.2.2, q.1 ∈ mentL xs
  | [], i, y, h => by simp only [argsOf, Option.some.injEq] at h; subst h; exact ⟨fun l hl => (by cases hl), fun q hq => (by cases hq)⟩
  | x :: xs, i, y, h => by
    simp only [argsOf] at h
    split at h
    · simp only [Option.bind_eq_some_iff, Option.map_eq_some_iff] at h
      obtain ⟨q, h1, z, h2, rfl⟩ := h
      obtain ⟨i1, i2⟩ := argsOf_roots h2
      refine ⟨fun l hl => ?_, fun q' hq' => by simp only [mentL, List.mem_append]; exact .inr (i2 q' hq')⟩
      simp only [mentL, List.mem_append]
      rcases List.mem_cons.1 hl with rfl | hl
      · exact .inl (lend_root h1)
      · exact .inr (i1 l hl)
    · simp only [Option.bind_eq_some_iff, Option.map_eq_some_iff] at h
      obtain ⟨q, h1, z, h2, rfl⟩ := h
      obtain ⟨i1, i2⟩ := argsOf_roots h2
      refine ⟨fun l hl => by simp only [mentL, List.mem_append]; exact .inr (i1 l hl), fun q' hq' => ?_⟩
      simp only [mentL, List.mem_append] at hq' ⊢
      rcases hq' with hq' | hq'
      · exact .inl (spoken_ment x q' hq')
      · exact .inr (i2 q' hq')

theorem freezeAll_local : ∀ {l : List (Rid × List Stp)} {rs1 rs2 : Rid → Option Root}, Agree F rs1 rs2 → (∀ q ∈ l, F q.1) → freezeAll rs1 l = freezeAll rs2 l
  | [], rs1, rs2, h, hm => by simp only [freezeAll]
  | (r, p) :: l, rs1, rs2, h, hm => by
    simp only [freezeAll, freezeAt, h r (hm _ (List.mem_cons_self ..))]
    congr 1
    funext u
    rw [freezeAll_local (h.updAll [u]) fun q hq => hm q (List.mem_cons_of_mem _ hq)]

theorem giveBack_local : ∀ {md : List Nat} {ls : List Lent} {ds : List D} {rs1 rs2 : Rid → Option Root}, Agree F rs1 rs2 → (∀ l ∈ ls, F l.r) → giveBack rs1 md ls ds = giveBack rs2 md ls ds
  | [], [], [], rs1, rs2, h, hm => by simp only [giveBack]
  | i :: md, l :: ls, d :: ds, rs1, rs2, h, hm => by
    have h1 : giveOne rs1 l d = giveOne rs2 l d := by simp only [giveOne, h l.r (hm l (List.mem_cons_self ..))]
    simp only [giveBack, h1]
    split
    · congr 1
      funext g
      rw [giveBack_local (h.updAll [g.1]) fun l' hl' => hm l' (List.mem_cons_of_mem _ hl')]
    · rfl
  | [], [], d :: ds, rs1, rs2, h, hm => by simp only [giveBack]
  | [], l :: ls, ds, rs1, rs2, h, hm => by simp only [giveBack]
  | i :: md, [], ds, rs1, rs2, h, hm => by simp only [giveBack]
  | i :: md, l :: ls, [], rs1, rs2, h, hm => by simp only [giveBack]

theorem mentL_get : ∀ {xs : List D} {i : Nat} {d : D}, xs[i]? = some d → ∀ r ∈ ment d, r ∈ mentL xs
  | [], i, d, h, r, hr => by simp at h
  | x :: xs, 0, d, h, r, hr => by
    simp only [List.getElem?_cons_zero, Option.some.injEq] at h
    subst h
    simp only [mentL, List.mem_append]
    exact .inl hr
  | x :: xs, i + 1, d, h, r, hr => by
    simp only [mentL, List.mem_append]
    exact .inr (mentL_get (by simpa using h) r hr)
theorem baseEff_local {call : CallF} {md : Nat → List Nat} {t f : Nat} {st1 st2 : St} {xs : List D} (h : Agree F st1.rs st2.rs) (hm : ∀ r ∈ mentL xs, F r) : baseEff call md t f st1 xs = baseEff call md t f st2 xs := by
  unfold baseEff
  rw [argsOf_local h hm]
  cases ha : argsOf st2.rs (md f) 0 xs with
  | none => rfl
  | some a =>
    obtain ⟨i1, i2⟩ := argsOf_roots ha
    simp only [Option.bind_some]
    split
    · congr 1
      funext res
      rw [freezeAll_local h (fun q hq => hm _ (i2 q (by unfold coldOf at hq; split at hq; exact hq; cases hq)))]
      congr 1
      funext fr
      rw [giveBack_local (h.updAll fr) fun l hl => hm _ (i1 l hl)]
    · rfl

theorem callEff_local {call : CallF} {md : Nat → List Nat} {t f : Nat} {st1 st2 : St} {xs : List D} (h : Agree F st1.rs st2.rs) (hm : ∀ r ∈ mentL xs, F r) : callEff call md t f st1 xs = callEff call md t f st2 xs := by
  unfold callEff
  by_cases hg : md f = [2000]
  · rw [if_pos hg, if_pos hg]
    cases xs with
    | nil => rfl
    | cons x zs =>
      cases x with
      | agg ys => simp only [giveEff, takeL_local h (fun r hr => hm r (by simp only [mentL, ment, List.mem_append]; exact .inl hr))]
      | _ => rfl
  rw [if_neg hg, if_neg hg]
  cases hw : wrapOf (md f) with
  | none => exact baseEff_local h hm
  | some q =>
    simp only
    unfold wrapEff
    split
    · rename_i ds k n
      cases hd : ds[q.1]? with
      | none => rfl
      | some d =>
        simp only [Option.bind_some]
        cases d with
        | slc r p off len =>
          simp only
          split
          · refine baseEff_local h fun r' hr' => hm r' ?_
            simp only [mentL, ment, List.append_nil, List.mem_singleton] at hr'
            subst hr'
            simp only [mentL, ment, List.append_nil]
            exact mentL_get hd _ (by simp [ment])
          · rfl
        | _ => rfl
    · rfl

end
end Go.Lft

/- Regions in their own order, code. -/
namespace Go.Lft

section
variable {P : Program} {T : Tb} {Z : Zone} {gs gs' : Rid → Option G} {Fz Fz' : Nat → Prop} {st : St} {a : Act} {w w' : World} {call : CallF} {md : Nat → List Nat}

theorem op_ok (hT : TbOk P T) (hf : CallsOk P Z.kn call md) (hi : Inv Z gs Fz st a w) {o : Oper} (hd : ∀ t, o.dst = some t → t < a.tmps.size) {e : Eff} (h : opEff T call md o st = some e) : OpSound P Z o a w (st.app o.dst e) := by
  obtain ⟨dst, op, ty, pos, after, g⟩ := o
  unfold opEff at h
  split at h
  · rename_i c hop
    simp only at hop
    subst hop
    exact callOp_ok hT hi hd h hf
  · rename_i op' hop
    exact plain_ok hT hi hd h

theorem guard_ok (hi : Inv Z gs Fz st a w) {ops : Array Oper} {o : Oper} {g : Bool} (h : guardOf st ops o = some g) : Region.wanted o (yielded ops a.tmps) = g := by
  unfold guardOf at h
  unfold Region.wanted
  cases hg : o.guard with
  | none => simp only [hg, Option.some.injEq] at h ⊢; exact h
  | some q =>
    obtain ⟨j, want⟩ := q
    simp only [hg] at h ⊢
    cases ht : (ops[j]?).bind (·.dst) with
    | none => simp [ht] at h
    | some t =>
      simp only [ht] at h
      cases he : st.env t <;> simp only [he] at h <;> try (cases h; done)
      case tup xs =>
        cases xs with
        | cons x xs => cases h
        | nil =>
          obtain rfl := Option.some.inj h
          have hv := hi.env t
          rw [he] at hv
          simp only [VV] at hv
          obtain ⟨vs, hv, hvs⟩ := hv
          simp only [VVs] at hvs
          subst hvs
          have hy : yielded ops a.tmps j = none := by
            unfold yielded
            rw [ht]
            simp only [Option.bind_some]
            rw [Array.getD_eq_getD_getElem?] at hv
            cases hq : a.tmps[t]? with
            | none => rfl
            | some u => rw [hq] at hv; simp at hv; rw [hv]
          rw [hy]
          rfl
      rename_i b
      obtain rfl := Option.some.inj h
      have hv := hi.env t
      rw [he] at hv
      have hb := hv.bool_inv
      have hy : yielded ops a.tmps j = some b := by
        unfold yielded
        rw [ht]
        simp only [Option.bind_some]
        have : a.tmps[t]? = some (.bool b) := by
          rw [Array.getD_eq_getD_getElem?] at hb
          cases hq : a.tmps[t]? with
          | none => rw [hq] at hb; simp [undef] at hb
          | some u => rw [hq] at hb; simp at hb; rw [hb]
        rw [this]
      rw [hy]
      simp

theorem step_ok (hT : TbOk P T) (hf : CallsOk P Z.kn call md) (hi : Inv Z gs Fz st a w) {ops : Array Oper} {i : Nat} {o : Oper} (hio : ops[i]? = some o) (hd : ∀ t, o.dst = some t → t < a.tmps.size) {e : Eff} (h : stepOp T call md ops o st = some e)
    {K : Act → World → Prop} {Q : Exit → Act → World → Prop} (hK : ∀ a' w' gs' Fz', Inv Z gs' Fz' (st.app o.dst e) a' w' → a'.tmps.size = a.tmps.size → K a' w') : wpOp P ops Q i K a w := by
  unfold stepOp at h
  simp only [Option.bind_eq_some_iff] at h
  obtain ⟨g, hg, h⟩ := h
  unfold wpOp
  simp only [hio]
  rw [guard_ok hi hg]
  split at h
  · rename_i hgt
    rw [if_pos hgt]
    exact .inl (op_ok hT hf hi hd h K Q hK)
  · rename_i hgf
    rw [if_neg hgf]
    obtain rfl := Option.some.inj h
    exact hK _ _ gs Fz (hi.put_pure hd fun _ => by simp only [VV]; exact ⟨[], rfl, by simp only [VVs]⟩) (put_size a o.dst undef)

theorem runOps_ok (hT : TbOk P T) (hf : CallsOk P Z.kn call md) {ops : Array Oper} {N : Nat} (hd : dstOk N ops = true) {Q : Exit → Act → World → Prop} {st' : St} (hQ : ∀ a' w' gs' Fz', Inv Z gs' Fz' st' a' w' → N ≤ a'.tmps.size → Q .normal a' w') :
    ∀ (n i : Nat) {st : St} {a : Act} {w : World} {gs : Rid → Option G} {Fz : Nat → Prop}, i + n = ops.size → Inv Z gs Fz st a w → N ≤ a.tmps.size → runOps T call md ops (ops.toList.drop i) st = some st' → wpOps P ops Q (List.range' i n) a w
  | 0, i, st, a, w, gs, Fz, hin, hi, hN, h => by
    rw [List.drop_of_length_le (by simp; omega)] at h
    simp only [runOps, Option.some.injEq] at h
    subst h
    simp only [List.range', wpOps]
    exact hQ a w gs Fz hi hN
  | n + 1, i, st, a, w, gs, Fz, hin, hi, hN, h => by
    have hil : i < ops.toList.length := by simp; omega
    rw [List.drop_eq_getElem_cons hil] at h
    simp only [runOps, Option.bind_eq_some_iff] at h
    obtain ⟨e, h1, h2⟩ := h
    have hio : ops[i]? = some ops.toList[i] := by simp [Array.getElem?_eq_getElem (show i < ops.size by omega)]
    rw [List.range'_succ, wpOps_cons]
    have hdo : ∀ t, (ops.toList[i]).dst = some t → t < a.tmps.size := by
      intro t ht
      unfold dstOk at hd
      have := List.all_eq_true.1 hd _ (List.getElem_mem hil)
      rw [ht] at this
      exact Nat.lt_of_lt_of_le (of_decide_eq_true this) hN
    exact step_ok hT hf hi hio hdo h1 fun a' w' gs' Fz' hi' hs => runOps_ok hT hf hd hQ n (i + 1) (by omega) hi' (by rw [hs]; exact hN) h2

theorem exists_min {p : Nat → Prop} (h : ∃ n, p n) : ∃ n, p n ∧ ∀ m, p m → n ≤ m := by
  obtain ⟨n, hn⟩ := h
  induction n using Nat.strongRecOn with
  | _ n ih =>
    by_cases hx : ∃ m, m < n ∧ p m
    · obtain ⟨m, hm, hp⟩ := hx
      exact ih m hm hp
    · exact ⟨n, hn, fun m hm => Nat.le_of_not_lt fun hlt => hx ⟨m, hlt, hm⟩⟩

def toExit : Out → Exit
  | .normal => .normal
  | .exit id => .exit id
  | .ret => .ret

/-- Regions that draw. -/
def DrawOk (P : Program) (kn : World → Prop) (T : Tb) (call : CallF) (md : Nat → List Nat) : Prop :=
  ∀ (Z : Zone) (id : Nat) (ops : Array Oper) (N : Nat) (st st' : St) (a : Act) (w : World) (gs : Rid → Option G) (Fz : Nat → Prop) (Q : Exit → Act → World → Prop), Z.kn = kn → dstOk N ops = true → textOk ops = true → runRegion T call md ops true st = some st' → Inv Z gs Fz st a w → N ≤ a.tmps.size →
    (∀ a' w' gs' Fz', Inv Z gs' Fz' st' a' w' → N ≤ a'.tmps.size → Q .normal a' w') → (Code.region id ops true).wp P Q a w

theorem exec_ok (hT : TbOk P T) (hf : CallsOk P Z.kn call md) (hD : DrawOk P Z.kn T call md) {N n : Nat} : ∀ (c : Code) {st : St} {a : Act} {w : World} {gs : Rid → Option G} {Fz : Nat → Prop} {x : Out × St} {Q : Exit → Act → World → Prop}, codeOk N c = true → Inv Z gs Fz st a w → N ≤ a.tmps.size → exec T call md n c st = some x →
    (∀ a' w' gs' Fz', Inv Z gs' Fz' x.2 a' w' → N ≤ a'.tmps.size → Q (toExit x.1) a' w') → c.wp P Q a w := by
  intro c
  induction c with
  | skip =>
    intro st a w gs Fz x Q hc hi hN h hQ
    simp only [exec, Option.some.injEq] at h
    subst h
    exact wp_skip (hQ a w gs Fz hi hN)
  | label l =>
    intro st a w gs Fz x Q hc hi hN h hQ
    simp only [exec, Option.some.injEq] at h
    subst h
    exact wp_label (hQ a w gs Fz hi hN)
  | exit id =>
    intro st a w gs Fz x Q hc hi hN h hQ
    simp only [exec, Option.some.injEq] at h
    subst h
    exact wp_exit (hQ a w gs Fz hi hN)
  | ret =>
    intro st a w gs Fz x Q hc hi hN h hQ
    simp only [exec, Option.some.injEq] at h
    subst h
    exact wp_ret (hQ a w gs Fz hi hN)
  | region id ops draw =>
    intro st a w gs Fz x Q hc hi hN h hQ
    simp only [exec, Option.map_eq_some_iff] at h
    obtain ⟨st', h1, rfl⟩ := h
    simp only [codeOk, Bool.and_eq_true, Bool.or_eq_true, Bool.not_eq_true'] at hc
    cases draw with
    | true => exact hD Z id ops N st st' a w gs Fz Q rfl hc.1 (hc.2.resolve_left (by simp)) h1 hi hN hQ
    | false =>
      refine wp_region ?_
      have h2 : runOps T call md ops (ops.toList.drop 0) st = some st' := by simpa [runRegion] using h1
      have := runOps_ok (Q := Q) hT hf hc.1 hQ ops.size 0 (by omega) hi hN h2
      rwa [← List.range_eq_range'] at this
  | seq x y ihx ihy =>
    intro st a w gs Fz z Q hc hi hN h hQ
    simp only [codeOk, Bool.and_eq_true] at hc
    simp only [exec, Option.bind_eq_some_iff] at h
    obtain ⟨⟨o, st1⟩, h1, h2⟩ := h
    refine wp_seq (ihx hc.1 hi hN h1 fun a' w' gs' Fz' hi' hN' => ?_)
    cases o with
    | normal => exact ihy hc.2 hi' hN' h2 hQ
    | exit id =>
      simp only [afterSeq, Option.some.injEq] at h2
      subst h2
      exact hQ a' w' gs' Fz' hi' hN'
    | ret =>
      simp only [afterSeq, Option.some.injEq] at h2
      subst h2
      exact hQ a' w' gs' Fz' hi' hN'
  | cond cnd x y ihx ihy =>
    intro st a w gs Fz z Q hc hi hN h hQ
    simp only [codeOk, Bool.and_eq_true] at hc
    simp only [exec, Option.bind_eq_some_iff] at h
    obtain ⟨d, h1, h2⟩ := h
    cases d <;> simp only at h2 <;> try (cases h2; done)
    rename_i b
    refine wp_cond ((ev_ok hT hi h1).bool_inv) ?_
    cases b with
    | true => exact ihx hc.1 hi hN h2 hQ
    | false => exact ihy hc.2 hi hN h2 hQ
  | block id x ih =>
    intro st a w gs Fz z Q hc hi hN h hQ
    simp only [codeOk] at hc
    simp only [exec, Option.map_eq_some_iff] at h
    obtain ⟨⟨o, st1⟩, h1, rfl⟩ := h
    refine wp_block (ih hc hi hN h1 fun a' w' gs' Fz' hi' hN' => ?_)
    cases o with
    | normal => exact hQ a' w' gs' Fz' hi' hN'
    | ret => exact hQ a' w' gs' Fz' hi' hN'
    | exit i =>
      simp only [toExit, Exit.inBlock]
      by_cases hid : i = id
      · rw [if_pos hid]
        simp only [afterBlock, hid, if_true] at hQ
        exact hQ a' w' gs' Fz' hi' hN'
      · rw [if_neg hid]
        simp only [afterBlock, if_neg hid] at hQ
        exact hQ a' w' gs' Fz' hi' hN'
  | loop x ih =>
    intro st a w gs Fz z Q hc hi hN h hQ
    simp only [codeOk] at hc
    simp only [exec] at h
    let R : Nat → Act → World → Prop := fun m a w => ∃ st gs Fz, Inv Z gs Fz st a w ∧ N ≤ a.tmps.size ∧ execLoop (exec T call md n x) m st = some z
    classical
    refine wp_loop (fun a w => ∃ m, R m a w) (fun a w => if hx : ∃ m, R m a w then Classical.choose (exists_min hx) else 0) ⟨n, st, gs, Fz, hi, hN, h⟩ fun a w hI => ?_
    obtain ⟨⟨st0, gs0, Fz0, i1, i2, i3⟩, _⟩ := Classical.choose_spec (exists_min hI)
    cases hm : Classical.choose (exists_min hI) with
    | zero => rw [hm] at i3; cases i3
    | succ k =>
      rw [hm] at i3
      simp only [execLoop, Option.bind_eq_some_iff] at i3
      obtain ⟨⟨o, st1⟩, e1, e2⟩ := i3
      refine ih hc i1 i2 e1 fun a' w' gs' Fz' hi' hN' => ?_
      cases o with
      | normal =>
        have hR : R k a' w' := ⟨st1, gs', Fz', hi', hN', e2⟩
        refine ⟨⟨k, hR⟩, ?_⟩
        rw [dif_pos ⟨k, hR⟩, dif_pos hI, hm]
        exact Nat.lt_succ_of_le ((Classical.choose_spec (exists_min ⟨k, hR⟩)).2 k hR)
      | exit id =>
        simp only [Option.some.injEq] at e2
        subst e2
        exact hQ a' w' gs' Fz' hi' hN'
      | ret =>
        simp only [Option.some.injEq] at e2
        subst e2
        exact hQ a' w' gs' Fz' hi' hN'
  | rangeFunc f ps a b _ _ => intro st a w gs Fz z Q hc hi hN h hQ; cases h
  | scope b _ => intro st a w gs Fz z Q hc hi hN h hQ; cases h
  | goto l => intro st a w gs Fz z Q hc hi hN h hQ; cases h
  | refuse m => intro st a w gs Fz z Q hc hi hN h hQ; cases h

end
end Go.Lft

/- A function's end: results leave. -/
namespace Go.Lft

section
variable {P : Program} {T : Tb} {Z : Zone} {gs gs' : Rid → Option G} {hs : List M} {Fz Fz' : Nat → Prop} {st : St} {a : Act} {w w' : World}

theorem M.get_put_other : ∀ (p q : List Stp) {m x y : M}, M.get m p = some x → under p q = false → under q p = false → M.get (M.put m p y) q = M.get m q
  | [], q, m, x, y, h, h1, h2 => by simp [under] at h1
  | s :: p, [], m, x, y, h, h1, h2 => by simp [under] at h2
  | s :: p, t :: q, m, x, y, h, h1, h2 => by
    cases m with
    | leaf v d => cases s <;> simp [M.get] at h
    | agg xs =>
      cases s with
      | elm i => simp [M.get] at h
      | fld i =>
        simp only [M.get, Option.bind_eq_some_iff] at h
        obtain ⟨z, h3, h4⟩ := h
        simp only [M.put, h3]
        cases t with
        | elm j => rfl
        | fld j =>
          simp only [M.get]
          by_cases hij : i = j
          · subst hij
            rw [get?_set_self h3, h3]
            simp only [Option.bind_some]
            exact M.get_put_other p q h4 (by simpa [under] using h1) (by simpa [under] using h2)
          · rw [List.getElem?_set_ne hij]
    | lst g tg te e xs rest fr =>
      cases s with
      | fld i => simp [M.get] at h
      | elm i =>
        simp only [M.get, Option.bind_eq_some_iff] at h
        obtain ⟨z, h3, h4⟩ := h
        simp only [M.put, h3]
        cases t with
        | fld j => rfl
        | elm j =>
          simp only [M.get]
          by_cases hij : i = j
          · subst hij
            rw [get?_set_self h3, h3]
            simp only [Option.bind_some]
            exact M.get_put_other p q h4 (by simpa [under] using h1) (by simpa [under] using h2)
          · rw [List.getElem?_set_ne hij]

/-- What still stands of a frame, once the parts at some places have left. -/
def Still (gs0 gs : Rid → Option G) (S : List (Rid × List Stp)) : Prop := ∀ r q x z, gs0 r = some x → M.get x.m q = some z → (∀ s ∈ S, crosses s (r, q) = false) → ∃ x', gs r = some x' ∧ M.get x'.m q = some z

theorem still_put {gs0 : Rid → Option G} {S : List (Rid × List Stp)} (h : Still gs0 gs S) {r : Rid} {p : List Stp} {x z y : M → G} {x1 : G} {z1 y1 : M} (hx : gs r = some x1) (hz : M.get x1.m p = some z1) : Still gs0 (upd gs r (some (x1.put p y1))) ((r, p) :: S) := by
  intro r' q x' z' h1 h2 h3
  obtain ⟨x2, e1, e2⟩ := h r' q x' z' h1 h2 fun s hs => h3 s (List.mem_cons_of_mem _ hs)
  by_cases hr : r' = r
  · subst hr
    rw [hx] at e1
    obtain rfl := Option.some.inj e1
    have hc := h3 (r', p) (List.mem_cons_self ..)
    simp only [crosses, decide_true, Bool.true_and, Bool.or_eq_false_iff] at hc
    exact ⟨_, upd_self .., by simp only [G.put]; rw [M.get_put_other p q hz hc.1 hc.2]; exact e2⟩
  · exact ⟨x2, by rw [upd_ne _ _ hr]; exact e1, e2⟩

theorem alone_append : ∀ {A B : List (Rid × List Stp)}, alone (A ++ B) = true → alone A = true ∧ alone B = true ∧ ∀ x ∈ A, ∀ y ∈ B, crosses x y = false
  | [], B, h => ⟨rfl, h, fun x hx => (by cases hx)⟩
  | x :: A, B, h => by
    simp only [List.cons_append, alone, Bool.and_eq_true, List.all_eq_true, Bool.not_eq_true', List.mem_append] at h ⊢
    obtain ⟨h1, h2⟩ := h
    obtain ⟨i1, i2, i3⟩ := alone_append h2
    refine ⟨⟨fun y hy => h1 y (.inl hy), i1⟩, i2, fun u hu y hy => ?_⟩
    rcases List.mem_cons.1 hu with rfl | hu
    · exact h1 y (.inr hy)
    · exact i3 u hu y hy

structure LeftOk (Z : Zone) (md : List Nat) (gs0 gs : Rid → Option G) (hs : List M) (Fz : Nat → Prop) (w : World) (cs : List Value) (ms : List M) (S : List (Rid × List Stp)) (gs' : Rid → Option G) (Fz' : Nat → Prop) : Prop where
  mem : Mem Z gs' (ms ++ hs) Fz' w
  cells : M.cellsL ms = cs
  still : Still gs0 gs' S
  fz : ∀ g, Fz g → Fz' g
  back : ∀ r, backRid md r = true → gs' r = gs r

theorem left_leaf {gs0 : Rid → Option G} {md : List Nat} {S S' : List (Rid × List Stp)} (hm : Mem Z gs hs Fz w) (hs' : Still gs0 gs S) (hS : ∀ s ∈ S, s ∈ S') {v : Value} {d : D} (h : FRep w Fz [v] d) (ha : isAgg d = false) : LeftOk Z md gs0 gs hs Fz w [v] [.leaf v d] S' gs Fz :=
  { mem := hm.leaf (by simp only [M.Ok]; exact ⟨h, ha⟩) (by simp only [M.In]) rfl
    cells := rfl
    still := fun r q x z h1 h2 h3 => hs' r q x z h1 h2 fun s hs => h3 s (hS s hs)
    fz := fun _ h => h
    back := fun _ _ => rfl }

mutual
theorem leave_ok {md : List Nat} {gs0 : Rid → Option G} {Fz0 : Nat → Prop} {rs : Rid → Option Root} (hm0 : Mem Z gs0 [] Fz0 w) (hrs : ∀ r, rs r = (gs0 r).map G.root) : ∀ {d d' : D} {cs : List Value} {gs : Rid → Option G} {Fz : Nat → Prop} {hs : List M} {S : List (Rid × List Stp)},
    Mem Z gs hs Fz w → (∀ g, Fz0 g → Fz g) → Still gs0 gs S → alone (spoken d) = true → (∀ s ∈ S, ∀ b ∈ spoken d, crosses s b = false) → VC w Fz0 (ptrOk Z gs0) (slcOk gs0) cs d → leave md rs d = some d' →
    ∃ gs' Fz' m, LeftOk Z md gs0 gs hs Fz w cs [m] (spoken d ++ S) gs' Fz' ∧ M.data m = d'
  | .int _ n, d', cs, gs, Fz, hs, S, hm, hf, ht, ha, hc, hv, h => by
    simp only [leave, Option.some.injEq] at h; subst h; simp only [VC] at hv
    have hv' := hv.stab (w' := w) (Fz' := Fz) (fun _ _ => rfl) hf
    have hl := hv'.len
    match cs, hl with
    | [v], _ => exact ⟨gs, Fz, _, left_leaf hm ht (fun s hs => List.mem_append_right _ hs) hv' rfl, rfl⟩
  | .bool b, d', cs, gs, Fz, hs, S, hm, hf, ht, ha, hc, hv, h => by
    simp only [leave, Option.some.injEq] at h; subst h; simp only [VC] at hv
    have hv' := hv.stab (w' := w) (Fz' := Fz) (fun _ _ => rfl) hf
    have hl := hv'.len
    match cs, hl with
    | [v], _ => exact ⟨gs, Fz, _, left_leaf hm ht (fun s hs => List.mem_append_right _ hs) hv' rfl, rfl⟩
  | .str s, d', cs, gs, Fz, hs, S, hm, hf, ht, ha, hc, hv, h => by
    simp only [leave, Option.some.injEq] at h; subst h; simp only [VC] at hv
    have hv' := hv.stab (w' := w) (Fz' := Fz) (fun _ _ => rfl) hf
    have hl := hv'.len
    match cs, hl with
    | [v], _ => exact ⟨gs, Fz, _, left_leaf hm ht (fun s hs => List.mem_append_right _ hs) hv' rfl, rfl⟩
  | .lst o te e xs, d', cs, gs, Fz, hs, S, hm, hf, ht, ha, hc, hv, h => by
    simp only [leave, Option.some.injEq] at h; subst h; simp only [VC] at hv
    have hv' := hv.stab (w' := w) (Fz' := Fz) (fun _ _ => rfl) hf
    have hl := hv'.len
    match cs, hl with
    | [v], _ => exact ⟨gs, Fz, _, left_leaf hm ht (fun s hs => List.mem_append_right _ hs) hv' rfl, rfl⟩
  | .ifc b, d', cs, gs, Fz, hs, S, hm, hf, ht, ha, hc, hv, h => by
    simp only [leave, Option.some.injEq] at h; subst h; simp only [VC] at hv
    have hv' := hv.stab (w' := w) (Fz' := Fz) (fun _ _ => rfl) hf
    have hl := hv'.len
    match cs, hl with
    | [v], _ => exact ⟨gs, Fz, _, left_leaf hm ht (fun s hs => List.mem_append_right _ hs) hv' rfl, rfl⟩
  | .fn f caps, d', cs, gs, Fz, hs, S, hm, hf, ht, ha, hc, hv, h => by simp [leave] at h
  | .pto x, d', cs, gs, Fz, hs, S, hm, hf, ht, ha, hc, hv, h => by simp [leave] at h
  | .ptr r p, d', cs, gs, Fz, hs, S, hm, hf, ht, ha, hc, hv, h => by simp [leave] at h
  | .tup xs, d', cs, gs, Fz, hs, S, hm, hf, ht, ha, hc, hv, h => by simp [leave] at h
  | .undef, d', cs, gs, Fz, hs, S, hm, hf, ht, ha, hc, hv, h => by simp [leave] at h
  | .agg xs, d', cs, gs, Fz, hs, S, hm, hf, ht, ha, hc, hv, h => by
    simp only [leave, Option.map_eq_some_iff] at h
    obtain ⟨y, h1, rfl⟩ := h
    simp only [VC] at hv
    simp only [spoken] at ha hc ⊢
    obtain ⟨gs', Fz', ms, h2, h3⟩ := leaveL_ok hm0 hrs hm hf ht ha hc hv h1
    have hm2 := h2.mem
    refine ⟨gs', Fz', .agg ms, { mem := ?_, cells := by simp only [M.cellsL, M.cells, List.append_nil, h2.cells], still := h2.still, fz := h2.fz, back := h2.back }, by simp only [M.data, h3]⟩
    have a1 := hm2.hok
    have a2 := hm2.hin
    have a3 := hm2.hnd
    rw [M.OkL_append] at a1
    rw [M.InL_append] at a2
    refine hm2.sub (by simp only [List.cons_append, List.nil_append, M.OkL, M.Ok]; exact a1) (by simp only [List.cons_append, List.nil_append, M.InL, M.In]; exact a2) (by simpa only [List.cons_append, List.nil_append, M.idsL, M.ids, M.idsL_append] using a3) (fun g hg => by simpa only [List.cons_append, List.nil_append, M.idsL, M.ids, M.idsL_append] using hg)
  | .slc r p off len, d', cs, gs, Fz, hs, S, hm, hf, ht, ha, hc, hv, h => by
    simp only [leave, Option.bind_eq_some_iff] at h
    obtain ⟨root, h1, d0, h2, h3⟩ := h
    rw [hrs] at h1
    obtain ⟨x0, hx0, rfl⟩ := Option.map_eq_some_iff.1 h1
    obtain ⟨z, hz0, rfl, _⟩ := M.get_data p (hm0.ok r x0 hx0) h2
    simp only [VC] at hv
    obtain ⟨v, rfl, x2, m2, e1, e2, hs2⟩ := hv
    rw [hx0] at e1
    obtain rfl := Option.some.inj e1
    rw [hz0] at e2
    obtain rfl := Option.some.inj e2
    obtain ⟨x, hx, hz⟩ := ht r p x0 z hx0 hz0 fun s hs => hc s hs _ (by simp [spoken])
    have hzok := (hm.part hx hz).1
    cases hd : M.data z <;> simp only [hd] at h3 <;> try (cases h3; done)
    rename_i own te e xs
    split at h3
    · rename_i hle
      obtain ⟨hle, hbk⟩ := hle
      have hback : own = true → ∀ r', backRid md r' = true → r' ≠ r := by
        rintro rfl r' hr' rfl
        rw [hr'] at hbk
        simp at hbk
      split at h3
      · rename_i hown
        obtain ⟨rfl, rfl⟩ := hown
        obtain rfl := Option.some.inj h3
        obtain ⟨y, hp1, hp2, hp3, hp4, _⟩ := hm.pull hx hz
        obtain ⟨m, c1, c2, c3⟩ := hp1.cut hd hs2 (by omega)
        refine ⟨_, Fz, m, { mem := c1, cells := by simp only [M.cellsL, c2, List.append_nil], still := still_put (x := fun _ => x) (z := fun _ => x) (y := fun _ => x) ht hx hz, fz := fun _ h => h, back := fun r' hr' => upd_ne _ _ (hback rfl r' hr') }, c3⟩
      · obtain rfl := Option.some.inj h3
        obtain ⟨own1, te1, e1, xs1, ad, n, cap, a', c, j1, j2, rfl, j4, j5, j6⟩ := hs2
        rw [hd] at j1
        simp only [D.lst.injEq] at j1
        obtain ⟨rfl, rfl, rfl, rfl⟩ := j1
        cases hown : own with
        | true =>
          subst hown
          have hfz := hm.freeze_at hx hz
          have hff : ∀ g, Fz g → Fz g ∨ g ∈ M.ids z := fun g h => .inl h
          have hfr : FRep w (fun g => Fz g ∨ g ∈ M.ids z) [.slice ad n cap] (.lst false te e (D.freezeL xs)) := by
            have := M.frep hff hzok (M.get_in p (hm.ins r x hx).2 hz) (fun g hg => .inr hg)
            rwa [j2, hd, show D.freeze (.lst true te e xs) = .lst false te e (D.freezeL xs) by simp only [D.freeze]] at this
          have hsub := slcVal_frz hfr j4 j5 j6
          rw [D.freezeL_take_drop] at hsub
          have := left_leaf (md := md) hfz (still_put (x := fun _ => x) (z := fun _ => x) (y := fun _ => x) (y1 := M.frz z) ht hx hz) (fun s hs => hs) hsub rfl
          exact ⟨_, _, _, { mem := this.mem, cells := rfl, still := this.still, fz := hff, back := fun r' hr' => upd_ne _ _ (hback rfl r' hr') }, rfl⟩
        | false =>
          subst hown
          rcases row_cases hd hzok with ⟨hh, _⟩ | ⟨hh, _⟩ | ⟨_, ad2, cap2, he, q1, q2⟩
          · cases hh
          · cases hh
          · rw [he] at j2
            simp only [M.cells, List.cons.injEq, Value.slice.injEq, and_true] at j2
            obtain ⟨rfl, rfl, rfl⟩ := j2
            have hfr : FRep w Fz [.slice ad2 xs.length cap2] (.lst false te e xs) := by simp only [FRep]; exact ⟨ad2, cap2, rfl, q1, q2⟩
            have hsub := (slcVal_frz hfr j4 j5 j6).freeze
            simp only [D.freeze] at hsub
            exact ⟨gs, Fz, _, left_leaf hm ht (fun s hs => List.mem_append_right _ hs) hsub rfl, rfl⟩
    · cases h3
theorem leaveL_ok {md : List Nat} {gs0 : Rid → Option G} {Fz0 : Nat → Prop} {rs : Rid → Option Root} (hm0 : Mem Z gs0 [] Fz0 w) (hrs : ∀ r, rs r = (gs0 r).map G.root) : ∀ {xs ys : List D} {cs : List Value} {gs : Rid → Option G} {Fz : Nat → Prop} {hs : List M} {S : List (Rid × List Stp)},
    Mem Z gs hs Fz w → (∀ g, Fz0 g → Fz g) → Still gs0 gs S → alone (spokenL xs) = true → (∀ s ∈ S, ∀ b ∈ spokenL xs, crosses s b = false) → VCL w Fz0 (ptrOk Z gs0) (slcOk gs0) cs xs → leaveL md rs xs = some ys →
    ∃ gs' Fz' ms, LeftOk Z md gs0 gs hs Fz w cs ms (spokenL xs ++ S) gs' Fz' ∧ M.dataL ms = ys
  | [], ys, cs, gs, Fz, hs, S, hm, hf, ht, ha, hc, hv, h => by
    simp only [leaveL, Option.some.injEq] at h
    subst h
    simp only [VCL] at hv
    subst hv
    exact ⟨gs, Fz, [], { mem := hm, cells := rfl, still := ht, fz := fun _ h => h, back := fun _ _ => rfl }, rfl⟩
  | x :: xs, ys, cs, gs, Fz, hs, S, hm, hf, ht, ha, hc, hv, h => by
    simp only [leaveL, Option.bind_eq_some_iff, Option.map_eq_some_iff] at h
    obtain ⟨y, h1, ys', h2, rfl⟩ := h
    simp only [VCL] at hv
    obtain ⟨c1, c2, rfl, hv1, hv2⟩ := hv
    simp only [spokenL] at ha hc ⊢
    obtain ⟨a1, a2, a3⟩ := alone_append ha
    obtain ⟨gs1, Fz1, m, t1, d1⟩ := leave_ok hm0 hrs hm hf ht a1 (fun s hs b hb => hc s hs b (List.mem_append_left _ hb)) hv1 h1
    obtain ⟨gs2, Fz2, ms, t2, d2⟩ := leaveL_ok hm0 hrs t1.mem (fun g hg => t1.fz g (hf g hg)) t1.still a2 (fun s hs b hb => by
      rcases List.mem_append.1 hs with hs | hs
      · exact a3 s hs b hb
      · exact hc s hs b (List.mem_append_right _ hb)) hv2 h2
    refine ⟨gs2, Fz2, m :: ms, { mem := ?_, cells := ?_, still := fun r q x' z' e1 e2 e3 => t2.still r q x' z' e1 e2 fun s hs => e3 s ?_, fz := fun g hg => t2.fz g (t1.fz g hg), back := fun r hr => (t2.back r hr).trans (t1.back r hr) }, by simp only [M.dataL, d1, d2]⟩
    · have hm2 := t2.mem
      have a1 := hm2.hok
      have a2 := hm2.hin
      have a3 := hm2.hnd
      simp only [List.cons_append, List.nil_append, M.OkL_append, M.OkL] at a1
      simp only [List.cons_append, List.nil_append, M.InL_append, M.InL] at a2
      refine hm2.sub (by simp only [List.cons_append, M.OkL, M.OkL_append]; exact ⟨a1.2.1, a1.1, a1.2.2⟩) (by simp only [List.cons_append, M.InL, M.InL_append]; exact ⟨a2.2.1, a2.1, a2.2.2⟩) ?_ (fun g hg => by
        simp only [List.cons_append, List.nil_append, M.idsL, M.idsL_append, List.mem_append] at hg ⊢
        rcases hg with h | h | h <;> simp [h])
      simp only [List.cons_append, List.nil_append, M.idsL, M.idsL_append] at a3 ⊢
      refine (List.Perm.nodup_iff ?_).1 a3
      rw [← List.append_assoc, ← List.append_assoc]
      exact List.Perm.append_right _ List.perm_append_comm
    · have := t1.cells
      simp only [M.cellsL, List.append_nil] at this ⊢
      rw [this, t2.cells]
    · simp only [List.mem_append] at hs ⊢
      rcases hs with h | h | h <;> simp [h]
end

end
end Go.Lft

/- The value-level machine is sound. -/
namespace Go.Lft

section
variable {P : Program} {T : Tb} {Z : Zone} {gs gs' : Rid → Option G} {hs : List M} {Fz Fz' : Nat → Prop} {st : St} {a : Act} {w w' : World}

theorem leave_plain {md : List Nat} {rs : Rid → Option Root} {d d' : D} (h : leave md rs d = some d') : isPlain d' = true ∧ isAgg d' = isAgg d ∧ isPlain d = true := by
  cases d with
  | agg xs => simp only [leave, Option.map_eq_some_iff] at h; obtain ⟨y, _, rfl⟩ := h; exact ⟨rfl, rfl, rfl⟩
  | slc r p off len =>
    simp only [leave, Option.bind_eq_some_iff] at h
    obtain ⟨root, h1, d0, h2, h3⟩ := h
    cases d0 <;> simp only at h3 <;> try (cases h3; done)
    split at h3
    · split at h3
      · obtain rfl := Option.some.inj h3; exact ⟨rfl, rfl, rfl⟩
      · obtain rfl := Option.some.inj h3; exact ⟨rfl, rfl, rfl⟩
    · cases h3
  | ptr _ _ => simp [leave] at h
  | fn _ _ => simp [leave] at h
  | pto _ => simp [leave] at h
  | tup _ => simp [leave] at h
  | undef => simp [leave] at h
  | _ => simp only [leave, Option.some.injEq] at h; subst h; exact ⟨rfl, rfl, rfl⟩

theorem leaveL_plain {md : List Nat} {rs : Rid → Option Root} : ∀ {xs ys : List D}, leaveL md rs xs = some ys → (∀ y ∈ ys, isPlain y = true) ∧ ys.map isAgg = xs.map isAgg ∧ ∀ x ∈ xs, isPlain x = true
  | [], ys, h => by simp only [leaveL, Option.some.injEq] at h; subst h; exact ⟨fun y hy => (by cases hy), rfl, fun y hy => (by cases hy)⟩
  | x :: xs, ys, h => by
    simp only [leaveL, Option.bind_eq_some_iff, Option.map_eq_some_iff] at h
    obtain ⟨y, h1, ys', h2, rfl⟩ := h
    obtain ⟨p1, p2, p3⟩ := leave_plain h1
    obtain ⟨q1, q2, q3⟩ := leaveL_plain h2
    refine ⟨fun u hu => ?_, by simp [p2, q2], fun u hu => ?_⟩
    · rcases List.mem_cons.1 hu with rfl | hu
      · exact p1
      · exact q1 u hu
    · rcases List.mem_cons.1 hu with rfl | hu
      · exact p3
      · exact q3 u hu

theorem isNew_plain {ds : List D} (h : ∀ d ∈ ds, isPlain d = true) : isNew (.tup ds) = false := by
  unfold isNew
  split
  · rename_i h2
    cases h2
    have := h .undef (List.mem_cons_self ..)
    simp [isPlain] at this
  · rfl
theorem resPlain_tup {ds : List D} (h : ∀ d ∈ ds, isPlain d = true) : resPlain (tupOf ds) = true := by
  unfold tupOf
  split
  · rename_i d
    have := h d (List.mem_singleton.2 rfl)
    cases d <;> simp_all [resPlain, isPlain]
  · rw [resPlain_tup' (isNew_plain h)]; simpa using h

/-- One result variable, read. -/
def resRead (tmps : Array Value) : ResultVar → Sem Value
  | .tmp t => pure (tmps.getD t undef)
  | .cell a t => do loadVar t (← asAddr (tmps.getD a undef))

theorem resVars_ok (hT : TbOk P T) (hi : Inv Z gs Fz st a w) : ∀ {rv : List ResultVar} {ds : List D}, resVars T st rv = some ds → ∃ vs, (rv.mapM (resRead a.tmps)).run P w = .ok vs w ∧ VVs w Fz (ptrOk Z gs) (slcOk gs) vs ds
  | [], ds, h => by
    simp only [resVars, Option.some.injEq] at h
    subst h
    exact ⟨[], by simp, by simp only [VVs]⟩
  | .tmp t :: rv, ds, h => by
    simp only [resVars, Option.map_eq_some_iff] at h
    obtain ⟨ds', h1, rfl⟩ := h
    obtain ⟨vs, h2, h3⟩ := resVars_ok hT hi h1
    refine ⟨a.tmps.getD t undef :: vs, by simp [List.mapM_cons, resRead, h2], ?_⟩
    simp only [VVs]
    exact ⟨_, _, rfl, hi.env t, h3⟩
  | .cell c ty :: rv, ds, h => by
    simp only [resVars, Option.bind_eq_some_iff] at h
    obtain ⟨d, h1, h2⟩ := h
    split at h2
    · rename_i hfit
      simp only [Option.map_eq_some_iff] at h2
      obtain ⟨ds', h3, rfl⟩ := h2
      obtain ⟨vs, h4, h5⟩ := resVars_ok hT hi h3
      have hv := hi.env c
      obtain ⟨u, r1, r2⟩ := load_ok hT hi hv h1 hfit
      have hptr : ∃ ad, a.tmps.getD c undef = .pointer (some ad) := by
        cases hd : st.env c <;> rw [hd] at hv h1 <;> try (simp [loadEff] at h1; done)
        · obtain ⟨ad, _, e, _⟩ := hv.pto_inv; exact ⟨ad, e⟩
        · obtain ⟨x, g, o, _, _, _, e⟩ := hv.ptr_inv; exact ⟨_, e⟩
      obtain ⟨ad, had⟩ := hptr
      rw [had] at r1
      have r1' : (loadVar ty ad).run P w = .ok u w := by simpa [Instr.loadAt, Instr.sureAddr] using r1
      refine ⟨u :: vs, ?_, ?_⟩
      · simp [List.mapM_cons, resRead, had, asAddr, r1', h4]
      · simp only [VVs]
        exact ⟨_, _, rfl, r2, h5⟩
    · cases h2

theorem vvs_cells : ∀ {ds : List D} {vs : List Value}, VVs w Fz (ptrOk Z gs) (slcOk gs) vs ds → (∀ d ∈ ds, isPlain d = true) → VCL w Fz (ptrOk Z gs) (slcOk gs) (vs.map fun v => v.cells.toList).flatten ds
  | [], vs, h, hp => by simp only [VVs] at h; subst h; simp only [VCL]; rfl
  | d :: ds, vs, h, hp => by
    simp only [VVs] at h
    obtain ⟨v, vs', rfl, h1, h2⟩ := h
    simp only [VCL]
    exact ⟨_, _, by simp, h1.cells (hp d (List.mem_cons_self ..)), vvs_cells h2 fun d hd => hp d (List.mem_cons_of_mem _ hd)⟩

theorem resL_of {F2 : Nat → Prop} : ∀ {ds ds' : List D} {vs : List Value} {ms : List M}, VVs w Fz (ptrOk Z gs) (slcOk gs) vs ds → (∀ d ∈ ds, isPlain d = true) → ds'.map isAgg = ds.map isAgg → M.OkL w F2 ms → M.dataL ms = ds' → M.cellsL ms = (vs.map fun v => v.cells.toList).flatten → D.sizeL ds' = D.sizeL ds → (∀ (i : Nat) (d d' : D), ds[i]? = some d → ds'[i]? = some d' → D.size d' = D.size d) → ResL vs ds' ms
  | [], ds', vs, ms, h, hp, hag, hok, hd, hc, hs, hsz => by
    simp only [VVs] at h
    subst h
    simp only [List.map_nil, List.map_eq_nil_iff] at hag
    subst hag
    cases ms with
    | nil => simp only [ResL]
    | cons m ms => simp [M.dataL] at hd
  | d :: ds, ds', vs, ms, h, hp, hag, hok, hd, hc, hs, hsz => by
    simp only [VVs] at h
    obtain ⟨v, vs', rfl, h1, h2⟩ := h
    cases ds' with
    | nil => simp at hag
    | cons d' ds' =>
      cases ms with
      | nil => simp [M.dataL] at hd
      | cons m ms =>
        simp only [M.dataL, List.cons.injEq] at hd
        obtain ⟨rfl, rfl⟩ := hd
        simp only [List.map_cons, List.cons.injEq] at hag
        simp only [M.OkL] at hok
        simp only [M.cellsL, List.map_cons, List.flatten_cons] at hc
        have hpd := hp d (List.mem_cons_self ..)
        have hszd := hsz 0 d (M.data m) rfl rfl
        have hlen : (M.cells m).length = v.cells.toList.length := by rw [M.len hok.1, hszd, (h1.cells hpd).len]
        obtain ⟨e1, e2⟩ := List.append_inj hc hlen
        simp only [ResL]
        refine ⟨trivial, ⟨e1.symm, fun ha => ?_, fun ha => ?_⟩, resL_of h2 (fun d hd => hp d (List.mem_cons_of_mem _ hd)) hag.2 hok.2 rfl e2 (by simp only [D.sizeL, hszd] at hs; omega) fun i d d' e e' => hsz (i + 1) d d' (by simpa using e) (by simpa using e')⟩
        · rw [hag.1] at ha
          cases d <;> simp [isAgg] at ha
          simp only [VV] at h1
          obtain ⟨cs, rfl, _⟩ := h1
          exact ⟨_, rfl⟩
        · rw [hag.1] at ha
          rw [e1, h1.cells_one hpd ha]

mutual
theorem leave_size {md : List Nat} {rs : Rid → Option Root} : ∀ {d d' : D}, leave md rs d = some d' → D.size d' = D.size d
  | .agg xs, d', h => by simp only [leave, Option.map_eq_some_iff] at h; obtain ⟨y, h1, rfl⟩ := h; simp only [D.size]; exact leaveL_size h1
  | .slc r p off len, d', h => by
    obtain ⟨h1, h2, h3⟩ := leave_plain h
    rw [D.size_of_not_agg (by rw [h2]; rfl)]
    simp only [D.size]
  | .int .., d', h => by simp only [leave, Option.some.injEq] at h; subst h; rfl
  | .bool _, d', h => by simp only [leave, Option.some.injEq] at h; subst h; rfl
  | .str _, d', h => by simp only [leave, Option.some.injEq] at h; subst h; rfl
  | .lst .., d', h => by simp only [leave, Option.some.injEq] at h; subst h; rfl
  | .ifc _, d', h => by simp only [leave, Option.some.injEq] at h; subst h; rfl
  | .ptr .., d', h => by simp [leave] at h
  | .fn .., d', h => by simp [leave] at h
  | .pto _, d', h => by simp [leave] at h
  | .tup _, d', h => by simp [leave] at h
  | .undef, d', h => by simp [leave] at h
theorem leaveL_size {md : List Nat} {rs : Rid → Option Root} : ∀ {xs ys : List D}, leaveL md rs xs = some ys → D.sizeL ys = D.sizeL xs
  | [], ys, h => by simp only [leaveL, Option.some.injEq] at h; subst h; rfl
  | x :: xs, ys, h => by
    simp only [leaveL, Option.bind_eq_some_iff, Option.map_eq_some_iff] at h
    obtain ⟨y, h1, ys', h2, rfl⟩ := h
    simp only [D.sizeL, leave_size h1, leaveL_size h2]
end
theorem leaveL_get {md : List Nat} {rs : Rid → Option Root} : ∀ {xs ys : List D}, leaveL md rs xs = some ys → ∀ (i : Nat) (d d' : D), xs[i]? = some d → ys[i]? = some d' → D.size d' = D.size d
  | [], ys, h, i, d, d', h1, h2 => by simp at h1
  | x :: xs, ys, h, i, d, d', h1, h2 => by
    simp only [leaveL, Option.bind_eq_some_iff, Option.map_eq_some_iff] at h
    obtain ⟨y, e1, ys', e2, rfl⟩ := h
    cases i with
    | zero =>
      simp only [List.getElem?_cons_zero, Option.some.injEq] at h1 h2
      subst h1 h2
      exact leave_size e1
    | succ i =>
      simp only [List.getElem?_cons_succ] at h1 h2
      exact leaveL_get e2 i d d' h1 h2

theorem lentBack_ok {gs1 : Rid → Option G} (hrs : ∀ r, st.rs r = (gs r).map G.root) {md0 : List Nat} (hb : ∀ r, backRid md0 r = true → gs1 r = gs r) : ∀ {md : List Nat} {ms : List D}, (∀ i ∈ md, i ∈ md0) → lentBack st md = some ms → LentOk gs1 md ms
  | [], ms, hsub, h => by simp only [lentBack, Option.some.injEq] at h; subst h; simp only [LentOk]
  | i :: md, ms, hsub, h => by
    simp only [lentBack] at h
    split at h
    · rename_i hi
      simp only [Option.bind_eq_some_iff, Option.map_eq_some_iff] at h
      obtain ⟨root, h1, ds, h2, rfl⟩ := h
      rw [hrs] at h1
      obtain ⟨x, hx, rfl⟩ := Option.map_eq_some_iff.1 h1
      simp only [LentOk, if_pos hi]
      refine ⟨⟨x, ?_, by unfold backD G.root; split <;> simp_all⟩, lentBack_ok hrs hb (fun j hj => hsub j (List.mem_cons_of_mem _ hj)) h2⟩
      rw [hb _ (by simp [backRid, hsub i (List.mem_cons_self ..)]), hx]
    · rename_i hi
      simp only [Option.map_eq_some_iff] at h
      obtain ⟨ds, h2, rfl⟩ := h
      simp only [LentOk, if_neg hi]
      exact ⟨trivial, lentBack_ok hrs hb (fun j hj => hsub j (List.mem_cons_of_mem _ hj)) h2⟩

theorem isAgg_freeze (d : D) : isAgg (D.freeze d) = isAgg d := by cases d <;> simp [D.freeze, isAgg]
theorem isPlain_freeze (d : D) : isPlain (D.freeze d) = isPlain d := by cases d <;> simp [D.freeze, isPlain]
theorem ResL.frz : ∀ {vs : List Value} {ds : List D} {ms : List M}, ResL vs ds ms → ResL vs (D.freezeL ds) (M.frzL ms)
  | [], [], [], h => by simp only [D.freezeL, M.frzL, ResL]
  | v :: vs, d :: ds, m :: ms, h => by
    simp only [ResL] at h
    obtain ⟨h1, ⟨h2, h3, h4⟩, h5⟩ := h
    simp only [D.freezeL, M.frzL, ResL]
    refine ⟨by rw [M.frz_data, h1], ⟨by rw [M.frz_cells]; exact h2, fun h => ?_, fun h => ?_⟩, ResL.frz h5⟩
    · rw [M.frz_data, isAgg_freeze] at h; exact h3 h
    · rw [M.frz_data, isAgg_freeze] at h; rw [M.frz_cells]; exact h4 h
  | [], _ :: _, _, h => by simp [ResL] at h
  | _ :: _, [], _, h => by simp [ResL] at h
  | [], [], _ :: _, h => by simp [ResL] at h
  | _ :: _, _ :: _, [], h => by simp [ResL] at h

theorem Mem.freezeRes {gs : Rid → Option G} {ms : List M} {Fz : Nat → Prop} {w : World} (hm : Mem Z gs ms Fz w) : ∃ Fz', Mem Z gs (M.frzL ms) Fz' w := by
  have h1 : Mem Z gs [M.agg ms] Fz w := hm.sub (by simp only [M.OkL, M.Ok]; exact ⟨hm.hok, trivial⟩) (by simp only [M.InL, M.In]; exact ⟨hm.hin, trivial⟩) (by simpa [M.idsL, M.ids] using hm.hnd) (fun g hg => by simpa [M.idsL, M.ids] using hg)
  have h2 := h1.freeze
  have ho := h2.hok
  have hi := h2.hin
  have hn := h2.hnd
  simp only [M.frz, M.OkL, M.Ok, and_true] at ho
  simp only [M.frz, M.InL, M.In, and_true] at hi
  exact ⟨_, h2.sub ho hi (by simpa [M.frz, M.idsL, M.ids] using hn) (fun g hg => by simpa [M.frz, M.idsL, M.ids] using hg)⟩

/-- A variable leaves: as a row of one element. -/
theorem Mem.take_box (hm : Mem Z gs [] Fz w) {r : Rid} {x : G} {g te : Nat} (hx : gs r = some x) (hb : x.bx = some (g, te)) (he : 0 < (M.cells x.m).length) :
    Mem Z (upd gs r none) [.lst g te te (M.cells x.m).length [x.m] [] (0, 0)] Fz w := by
  have hids : x.ids = g :: M.ids x.m := by unfold G.ids; rw [hb]
  have hcase : ∀ r' x', upd gs r none r' = some x' → r' ≠ r ∧ gs r' = some x' := by
    intro r' x' h
    unfold upd at h
    split at h
    · cases h
    · rename_i e; exact ⟨e, h⟩
  have hi : M.idsL [M.lst g te te (M.cells x.m).length [x.m] [] (0, 0)] = x.ids := by simp [M.idsL, M.ids, hids]
  refine { ok := fun r' x' h => hm.ok r' x' (hcase r' x' h).2, ins := fun r' x' h => hm.ins r' x' (hcase r' x' h).2, nd := fun r' x' h => hm.nd r' x' (hcase r' x' h).2, row := fun r' x' h => hm.row r' x' (hcase r' x' h).2, own := fun r' x' h => hm.own r' x' (hcase r' x' h).2,
           dis := fun r1 r2 x1 x2 h1 h2 hne => hm.dis r1 r2 x1 x2 (hcase _ _ h1).2 (hcase _ _ h2).2 hne, hok := ?_, hin := ?_, hnd := ?_, hown := ?_, hdis := ?_, fz := hm.fz, fz0 := hm.fz0, fzo := hm.fzo, keeps := hm.keeps, lent := fun r' x' b h => hm.lent r' x' b (hcase _ _ h).2 }
  · simp only [M.OkL, M.Ok, and_true]
    refine ⟨he, hm.ok r x hx, fun y hy => by rw [List.mem_singleton.1 hy], ⟨0, by simp, by simp [maxLen]⟩, by simp, fun i hi h => by simp at h⟩
  · have := hm.ins r x hx
    simp only [M.InL, M.In, and_true]
    refine ⟨?_, this.2⟩
    simpa [M.cellsL] using this.1 g te hb
  · rw [hi]; exact hm.nd r x hx
  · rw [hi]; exact hm.own r x hx
  · intro r' x' h g' hg'
    rw [hi]
    exact hm.dis r' r x' x (hcase _ _ h).2 hx (hcase _ _ h).1 g' hg'

theorem newRid_iff {ds : List D} {r : Rid} (h : newRid ds = some r) : ds = [.ptr r []] := by
  unfold newRid at h
  split at h
  · obtain rfl := Option.some.inj h; rfl
  · cases h

theorem finish_ok (hT : TbOk P T) (hi : Inv Z gs Fz st a w) {fn : Func} {md : List Nat} {fz : Bool} {res : D × List D} (h : finish T md fz fn.results.toList st = some res) : (∃ v, (results fn a.tmps).run P w = .ok v w ∧ ResOk Z md res v w) ∧ resPlain res.1 = true := by
  unfold finish at h
  simp only [Option.bind_eq_some_iff] at h
  obtain ⟨ds, h1, h2⟩ := h
  unfold finR at h2
  split at h2
  · rename_i r hnr
    obtain rfl := newRid_iff hnr
    simp only [Option.bind_eq_some_iff] at h2
    obtain ⟨root, h3, h4⟩ := h2
    split at h4
    · rename_i hc
      obtain ⟨hc1, hc2, hc3⟩ := hc
      simp only [Option.map_eq_some_iff] at h4
      obtain ⟨ms, h5, rfl⟩ := h4
      obtain ⟨vs, r1, r2⟩ := resVars_ok hT hi h1
      simp only [VVs] at r2
      obtain ⟨v, _, rfl, hv, rfl⟩ := r2
      obtain ⟨x, g, o, e1, e2, e3, rfl⟩ := hv.ptr_inv
      rw [hi.rs, e1] at h3
      obtain rfl := Option.some.inj h3
      obtain ⟨⟨g0, te⟩, hb⟩ := Option.isSome_iff_exists.1 (by simpa [G.root] using hc1)
      have e2' := e2
      unfold G.at_ at e2'
      simp only [hb, M.at_nil, Option.some.injEq, Prod.mk.injEq] at e2'
      obtain ⟨rfl, rfl⟩ := e2'
      have hlen : (M.cells x.m).length = D.size (M.data x.m) := M.len (hi.ok r x e1)
      have hm := hi.mem.take_box e1 hb (by rw [hlen]; exact hc3)
      have hrun : (fn.results.mapM (resRead a.tmps)).run P w = .ok #[.pointer (some ⟨g0, 0, none⟩)] w := by
        rw [Array.mapM_eq_mapM_toList]
        simp [r1]
      refine ⟨⟨.pointer (some ⟨g0, 0, none⟩), ?_, _, Fz, _, hm, ?_, lentBack_ok hi.rs (md0 := md) (fun r' hr' => upd_ne _ _ fun e => ?_) (fun i hi => hi) h5⟩, rfl⟩
      · have : results fn a.tmps = (fn.results.mapM (resRead a.tmps) >>= fun vs => pure (if h : vs.size = 1 then vs[0] else .tuple vs)) := rfl
        rw [this]
        simp only [Sem.run_bind, hrun, Result.andThen_ok, Sem.run_pure]
        rfl
      · simp only [ResV, G.root]
        exact ⟨_, _, _, _, rfl, rfl, rfl⟩
      · subst e
        simp [backRid] at hr'
        exact hc2 hr'.1
    · cases h4
  split at h2
  · rename_i hal
    simp only [Option.bind_eq_some_iff, Option.map_eq_some_iff] at h2
    obtain ⟨ds', h3, ms, h4, rfl⟩ := h2
    obtain ⟨p1, p2, p3⟩ := leaveL_plain h3
    obtain ⟨vs, r1, r2⟩ := resVars_ok hT hi h1
    obtain ⟨gs1, Fz1, gm, lo, hdm⟩ := leaveL_ok hi.mem hi.rs (S := []) hi.mem (fun _ h => h) (fun r q x z e1 e2 _ => ⟨x, e1, e2⟩) hal (fun s hs => by cases hs) (vvs_cells r2 p3) h3
    have hm : Mem Z gs1 gm Fz1 w := by have := lo.mem; rwa [List.append_nil] at this
    have hres := resL_of r2 p3 p2 hm.hok hdm lo.cells (leaveL_size h3) (leaveL_get h3)
    obtain ⟨ds'', hds, gm'', Fz'', hm, hres, p1⟩ : ∃ ds'', ds'' = (if fz = true then D.freezeL ds' else ds') ∧ ∃ gm'' Fz'', Mem Z gs1 gm'' Fz'' w ∧ ResL vs ds'' gm'' ∧ ∀ d ∈ ds'', isPlain d = true := by
      cases fz
      · exact ⟨ds', by simp, gm, Fz1, hm, hres, p1⟩
      · obtain ⟨Fz', hm'⟩ := hm.freezeRes
        refine ⟨D.freezeL ds', by simp, M.frzL gm, Fz', hm', hres.frz, fun d hd => ?_⟩
        rw [D.freezeL_map] at hd
        obtain ⟨d0, h0, rfl⟩ := List.mem_map.1 hd
        rw [isPlain_freeze]
        exact p1 d0 h0
    rw [← hds]
    clear hds
    refine ⟨?_, resPlain_tup p1⟩
    have hrun : (fn.results.mapM (resRead a.tmps)).run P w = .ok vs.toArray w := by
      rw [Array.mapM_eq_mapM_toList]
      simp [r1]
    refine ⟨if h : vs.toArray.size = 1 then vs.toArray[0] else .tuple vs.toArray, ?_, gs1, Fz'', gm'', hm, ?_, lentBack_ok hi.rs lo.back (fun i hi => hi) h4⟩
    · have : results fn a.tmps = (fn.results.mapM (resRead a.tmps) >>= fun vs => pure (if h : vs.size = 1 then vs[0] else .tuple vs)) := rfl
      rw [this]
      simp only [Sem.run_bind, hrun, Result.andThen_ok, Sem.run_pure]
    · match vs, ds'', gm'', hres with
      | [v], [d], [m], hres =>
        simp only [tupOf, List.size_toArray, List.length_singleton, dite_true]
        have hpl := p1 d (List.mem_singleton.2 rfl)
        cases d <;> first | exact hres | simp [isPlain] at hpl
      | [], [], [], hres => exact ⟨[], by simp, hres⟩
      | v :: u :: vs, d :: e :: ds', m :: n :: gm, hres =>
        show ResV _ (.tup (d :: e :: ds')) _
        rw [ResV_tup (isNew_plain p1)]
        exact ⟨v :: u :: vs, by simp, hres⟩
      | [], [], m :: ms, hr => simp [ResL] at hr
      | [], d :: ds, ms, hr => simp [ResL] at hr
      | v :: vs, [], ms, hr => simp [ResL] at hr
      | v :: vs, d :: ds, [], hr => simp [ResL] at hr
      | [v], [d], m :: n :: ms, hr => simp [ResL] at hr
      | [v], d :: e :: ds, [m], hr => simp [ResL] at hr
      | [v], d :: e :: ds, m :: n :: ms, hr => simp [ResL] at hr
      | v :: u :: vs, [d], m :: ms, hr => cases ms <;> simp [ResL] at hr
      | v :: u :: vs, d :: e :: ds, [m], hr => simp [ResL] at hr
  · cases h2

/-- Externals are sound. -/
structure ExtOk (E : En) : Prop where
  fn : ∀ f g args res, E.ext f = some g → g args = some res → FunOk E.P E.kn (E.md f) f args res ∧ resPlain res.1 = true
  wr : ∀ f q, wrapOf (E.md f) = some q → WrapTo E.P f q.2.1 q.2.2

theorem TbOk.mv {P : Program} {T : Tb} (hT : TbOk P T) (f : Nat → Bool) : TbOk P { T with mv := f } :=
  ⟨hT.int, hT.bool, hT.str, hT.iface, hT.slice, hT.lay, hT.off, hT.fl, hT.zero, hT.flat⟩

theorem interp_ok {E : En} (hT : TbOk E.P E.T) (hE : ExtOk E) (hD : ∀ f k, CallsOk E.P E.kn (interp E k) E.md → DrawOk E.P E.kn (E.tb f) (interp E k) E.md) : ∀ k, CallsOk E.P E.kn (interp E k) E.md
  | 0 => ⟨fun f args res h => (by cases h), hE.wr⟩
  | k + 1 => by
    have ih := interp_ok hT hE hD k
    refine ⟨fun f args res h => ?_, hE.wr⟩
    simp only [interp] at h
    cases hx : E.ext f with
    | some g => simp only [hx] at h; exact hE.fn f g args res hx h
    | none =>
      simp only [hx, Option.bind_eq_some_iff] at h
      obtain ⟨fn, hfn, c, hc, h⟩ := h
      split at h
      · cases h
      · rename_i hck
        simp only [Bool.and_eq_false_iff, not_or, Bool.not_eq_false, Bool.not_eq_true'] at hck
        obtain ⟨hck, hname⟩ := hck
        simp only [Option.bind_eq_some_iff] at h
        obtain ⟨⟨o, st'⟩, h1, h2⟩ := h
        have hfin : o ≠ .normal → o = .ret := by
          intro ho
          cases o with
          | normal => exact absurd rfl ho
          | ret => rfl
          | exit id => simp [atEnd] at h2
        have h3 : finish (E.tb f) (E.md f) (E.fz f) fn.results.toList st' = some res := by
          cases o with
          | normal => exact h2
          | ret => exact h2
          | exit id => simp [atEnd] at h2
        have main : ∀ (Z : Zone) (vs : List Value) (gs0 : Rid → Option G), EntryOk Z (E.md f) args vs gs0 → Z.kn = E.kn → ∀ (Q : Exit → Act → World → Prop), (∀ a w gs Fz, Inv Z gs Fz st' a w → Q (toExit o) a w) → c.wp E.P Q { tmps := vs.toArray ++ Array.replicate (fn.ntmps - vs.toArray.size) undef, defers := [] } Z.w0 := by
          intro Z vs gs0 hen hkn Q hQ
          have hi : Inv Z gs0 Z.Fz0 (initSt (E.md f) args) { tmps := vs.toArray ++ Array.replicate (fn.ntmps - vs.toArray.size) undef, defers := [] } Z.w0 := by
            refine hen.mem.inv hen.rs (fun t => ?_) rfl
            rcases Nat.lt_or_ge t vs.length with ht | ht
            · have e1 : vs[t]? = some vs[t] := List.getElem?_eq_getElem ht
              have e2 : (vs.toArray ++ Array.replicate (fn.ntmps - vs.toArray.size) undef).getD t undef = vs[t] := by
                rw [Array.getD_eq_getD_getElem?, Array.getElem?_append_left (by simpa using ht)]
                simp [e1]
              show VV _ _ _ _ ((vs.toArray ++ Array.replicate (fn.ntmps - vs.toArray.size) undef).getD t undef) (initEnv (E.md f) args t)
              rw [e2]
              exact hen.env t _ e1
            · have : args[t]? = none := List.getElem?_eq_none (by rw [← hen.len]; exact ht)
              simp only [initSt, initEnv, this, VV]
          exact exec_ok (hT.mv (E.mv f)) (hkn ▸ ih) (hkn ▸ hD f k ih) (N := fn.ntmps) c hck hi (by simp; omega) h1 fun a' w' gs' Fz' hi' _ => hQ a' w' gs' Fz' hi'
        refine ⟨fun Z vs gs0 hen hkn o' a' next Q' hnext => ?_, ?_⟩
        · have hrun : (callFunc f vs.toArray).run E.P Z.w0 = .ok (.enter f vs.toArray) Z.w0 := by
            unfold callFunc
            have hname' : ¬ fn.name = "runtime.NumGoroutine" := by simpa using hname
            simp [hfn, hname', hc]
          rw [hrun]
          refine calls_of_wp hfn hc (main Z vs gs0 hen hkn _ fun a w gs Fz hi => ?_)
          obtain ⟨⟨v, e1, e2⟩, _⟩ := finish_ok (hT.mv (E.mv f)) hi h3
          cases o with
          | normal => exact ⟨hi.defers, v, e1, hnext v w e2⟩
          | ret => exact ⟨hi.defers, v, e1, hnext v w e2⟩
          | exit id => simp [atEnd] at h2
        · unfold finish at h3
          simp only [Option.bind_eq_some_iff] at h3
          obtain ⟨ds, h4, h5⟩ := h3
          unfold finR at h5
          split at h5
          · simp only [Option.bind_eq_some_iff] at h5
            obtain ⟨root, _, h6⟩ := h5
            split at h6
            · simp only [Option.map_eq_some_iff] at h6
              obtain ⟨ms, _, rfl⟩ := h6
              rfl
            · cases h6
          split at h5
          · simp only [Option.bind_eq_some_iff, Option.map_eq_some_iff] at h5
            obtain ⟨ds', h6, ms, h7, rfl⟩ := h5
            refine resPlain_tup fun d hd => ?_
            split at hd
            · rw [D.freezeL_map] at hd
              obtain ⟨d0, h0, rfl⟩ := List.mem_map.1 hd
              rw [isPlain_freeze]
              exact (leaveL_plain h6).1 d0 h0
            · exact (leaveL_plain h6).1 d hd
          · cases h5

end
end Go.Lft

/- Operations that look at different things change places. -/
namespace Go.Lft

/-- A kill that hits no mention. -/
def Misses (k : Kr) (d : D) : Prop := k.on d = d
def MissesL (k : Kr) (xs : List D) : Prop := Kr.onL k xs = xs

mutual
theorem on_miss {k : Kr} : ∀ {d : D}, (∀ r ∈ ment d, (∀ p, k.ptr r p = false) ∧ ∀ p, k.slc r p = false) → k.on d = d
  | .ptr r p, h => by simp only [Kr.on, (h r (by simp [ment])).1 p, Bool.false_eq_true, if_false]
  | .slc r p off len, h => by simp only [Kr.on, (h r (by simp [ment])).2 p, Bool.false_eq_true, if_false]
  | .agg xs, h => by simp only [Kr.on, on_missL (by simpa only [ment] using h)]
  | .tup xs, h => by simp only [Kr.on, on_missL (by simpa only [ment] using h)]
  | .fn f xs, h => by simp only [Kr.on, on_missL (by simpa only [ment] using h)]
  | .int .., h => by simp only [Kr.on]
  | .bool _, h => by simp only [Kr.on]
  | .str _, h => by simp only [Kr.on]
  | .lst .., h => by simp only [Kr.on]
  | .ifc _, h => by simp only [Kr.on]
  | .pto _, h => by simp only [Kr.on]
  | .undef, h => by simp only [Kr.on]
theorem on_missL {k : Kr} : ∀ {xs : List D}, (∀ r ∈ mentL xs, (∀ p, k.ptr r p = false) ∧ ∀ p, k.slc r p = false) → Kr.onL k xs = xs
  | [], h => by simp only [Kr.onL]
  | x :: xs, h => by
    simp only [mentL, List.mem_append] at h
    simp only [Kr.onL, on_miss fun r hr => h r (.inl hr), on_missL fun r hr => h r (.inr hr)]
end

mutual
/-- What a kill leaves defined it has not hit. -/
theorem on_noUndef {k : Kr} : ∀ {d : D}, D.noUndef (k.on d) = true → k.on d = d
  | .ptr r p, h => by
    simp only [Kr.on] at h ⊢
    split
    · rename_i hk; rw [if_pos hk] at h; simp [D.noUndef] at h
    · rfl
  | .slc r p off len, h => by
    simp only [Kr.on] at h ⊢
    split
    · rename_i hk; rw [if_pos hk] at h; simp [D.noUndef] at h
    · rfl
  | .agg xs, h => by simp only [Kr.on, D.noUndef] at h ⊢; rw [on_noUndefL h]
  | .tup xs, h => by simp only [Kr.on, D.noUndef] at h ⊢; rw [on_noUndefL h]
  | .fn f xs, h => by simp only [Kr.on, D.noUndef] at h ⊢; rw [on_noUndefL h]
  | .int .., h => by simp only [Kr.on]
  | .bool _, h => by simp only [Kr.on]
  | .str _, h => by simp only [Kr.on]
  | .lst .., h => by simp only [Kr.on]
  | .ifc _, h => by simp only [Kr.on]
  | .pto _, h => by simp only [Kr.on]
  | .undef, h => by simp only [Kr.on]
theorem on_noUndefL {k : Kr} : ∀ {xs : List D}, D.noUndefL (Kr.onL k xs) = true → Kr.onL k xs = xs
  | [], h => by simp only [Kr.onL]
  | x :: xs, h => by
    simp only [Kr.onL, D.noUndefL, Bool.and_eq_true] at h ⊢
    rw [on_noUndef h.1, on_noUndefL h.2]
end

theorem kr_comm (a b : Kr) : Kr.or a b = Kr.or b a := by
  simp only [Kr.or, Bool.or_comm]

theorem on_comm (a b : Kr) (d : D) : b.on (a.on d) = a.on (b.on d) := by
  rw [← Kr.on_or, ← Kr.on_or, kr_comm]

theorem on_bool {k : Kr} {d : D} {b : Bool} (h : k.on d = .bool b) : d = .bool b := by
  cases d <;> simp only [Kr.on] at h <;> first | exact h | (split at h <;> cases h) | cases h

theorem on_nil {k : Kr} {d : D} (h : k.on d = .tup []) : d = .tup [] := by
  cases d with
  | tup xs => cases xs with
    | nil => rfl
    | cons x xs => simp [Kr.on, Kr.onL] at h
  | ptr => simp only [Kr.on] at h; split at h <;> cases h
  | slc => simp only [Kr.on] at h; split at h <;> cases h
  | _ => simp [Kr.on] at h

/-- A list of kills, root by root. -/
theorem krs_ptr_false {ks : List Kill} {r : Rid} {p : List Stp} (h : ∀ k ∈ ks, k.kr.ptr r p = false) : (krs ks).ptr r p = false := by
  induction ks with
  | nil => rfl
  | cons k ks ih => simp only [krs, Kr.or, Bool.or_eq_false_iff]; exact ⟨h k (List.mem_cons_self ..), ih fun k' hk' => h k' (List.mem_cons_of_mem _ hk')⟩
theorem krs_slc_false {ks : List Kill} {r : Rid} {p : List Stp} (h : ∀ k ∈ ks, k.kr.slc r p = false) : (krs ks).slc r p = false := by
  induction ks with
  | nil => rfl
  | cons k ks ih => simp only [krs, Kr.or, Bool.or_eq_false_iff]; exact ⟨h k (List.mem_cons_self ..), ih fun k' hk' => h k' (List.mem_cons_of_mem _ hk')⟩

theorem updAll_comm : ∀ (us vs : List (Rid × Option Root)) (rs : Rid → Option Root), (∀ u ∈ us, ∀ v ∈ vs, v.1 ≠ u.1) → updAll vs (updAll us rs) = updAll us (updAll vs rs) := by
  have one : ∀ (u : Rid × Option Root) (vs : List (Rid × Option Root)) (rs : Rid → Option Root), (∀ v ∈ vs, v.1 ≠ u.1) → updAll vs (upd rs u.1 u.2) = upd (updAll vs rs) u.1 u.2 := by
    intro u vs
    induction vs with
    | nil => intro rs h; rfl
    | cons v vs ih =>
      intro rs h
      obtain ⟨r, x⟩ := v
      simp only [updAll]
      have hne : r ≠ u.1 := h (r, x) (List.mem_cons_self ..)
      have hsw : upd (upd rs u.1 u.2) r x = upd (upd rs r x) u.1 u.2 := by
        funext i
        unfold upd
        by_cases h1 : i = r
        · rw [if_pos h1, if_neg (fun e => hne (h1.symm.trans e)), if_pos h1]
        · by_cases h2 : i = u.1
          · rw [if_pos h2, if_neg h1, if_pos h2]
          · rw [if_neg h1, if_neg h2, if_neg h2, if_neg h1]
      rw [hsw, ih _ fun v hv => h v (List.mem_cons_of_mem _ hv)]
  intro us
  induction us with
  | nil => intro vs rs h; rfl
  | cons u us ih =>
    intro vs rs h
    obtain ⟨r, x⟩ := u
    simp only [updAll]
    rw [ih vs _ fun u hu v hv => h u (List.mem_cons_of_mem _ hu) v hv]
    congr 1
    exact one (r, x) vs rs fun v hv => h (r, x) (List.mem_cons_self ..) v hv

end Go.Lft

/- What an operation looks at: effects. -/
namespace Go.Lft

section
variable {T : Tb} {F : Rid → Prop} {st1 st2 : St}

theorem loadEff_local (h : Agree F st1.rs st2.rs) {d : D} (hm : ∀ r ∈ ment d, F r) : loadEff st1 d = loadEff st2 d := by
  cases d <;> simp only [loadEff]
  rename_i r p
  rw [h r (hm r (by simp [ment]))]

theorem row_local (h : Agree F st1.rs st2.rs) {r : Rid} {p : List Stp} (hm : F r) : st1.row r p = st2.row r p := by
  simp only [St.row, h r hm]

theorem items_local (h : Agree F st1.rs st2.rs) {d : D} (hm : ∀ r ∈ ment d, F r) : st1.items d = st2.items d := by
  cases d with
  | slc r p off len => simp only [St.items, row_local h (hm r (by simp [ment]))]
  | lst o te e xs => cases o
                     · rfl
                     · cases xs <;> rfl
  | _ => rfl

theorem fieldAddrEff_local (h : Agree F st1.rs st2.rs) {s f : Nat} {d : D} (hm : ∀ r ∈ ment d, F r) : fieldAddrEff T st1 s f d = fieldAddrEff T st2 s f d := by
  cases d with
  | ptr r p => simp only [fieldAddrEff, h r (hm r (by simp [ment]))]
  | pto x => cases x <;> rfl
  | _ => rfl

theorem indexEff_local (h : Agree F st1.rs st2.rs) {t : Nat} {d i : D} (hm : ∀ r ∈ ment d, F r) : indexEff T t st1 d i = indexEff T t st2 d i := by
  cases d with
  | slc r p off len => cases i <;> first | rfl | simp only [indexEff, row_local h (hm r (by simp [ment]))]
  | lst o te e xs => cases o <;> cases i <;> rfl
  | _ => rfl

theorem sliceEff_local (h : Agree F st1.rs st2.rs) {t : Nat} {d : D} {lo hi : Option D} (hm : ∀ r ∈ ment d, F r) : sliceEff T t st1 d lo hi = sliceEff T t st2 d lo hi := by
  cases d with
  | slc r p off len => simp only [sliceEff, row_local h (hm r (by simp [ment]))]
  | lst o te e xs => cases o <;> rfl
  | _ => rfl

theorem storeEff_local (h : Agree F st1.rs st2.rs) {t : Nat} {a x : D} (hm : ∀ r ∈ ment a, F r) (hx : ∀ r ∈ ment x, F r) : storeEff T st1 t a x = storeEff T st2 t a x := by
  cases a with
  | ptr r p =>
    have hr : F r := hm r (by simp [ment])
    cases x with
    | slc r' p' off len =>
      simp only [storeEff, h r hr, take_local h hx]
      split
      · rfl
      · congr 1
        funext k
        rw [(h.updAll k.upd) r hr]
    | agg xs =>
      simp only [storeEff, take_local h hx]
      congr 1
      funext k
      rw [(h.updAll k.upd) r hr]
    | lst o te e xs => simp only [storeEff, h r hr]
    | int k n => simp only [storeEff, h r hr]
    | bool b => simp only [storeEff, h r hr]
    | str s => simp only [storeEff, h r hr]
    | _ => rfl
  | _ => rfl

theorem appendSrc_local (h : Agree F st1.rs st2.rs) {r0 : Option Rid} {d : D} (hm : ∀ r ∈ ment d, F r) : appendSrc st1 r0 d = appendSrc st2 r0 d := by
  cases d with
  | slc r p off len => simp only [appendSrc, h r (hm r (by simp [ment]))]
  | lst o te e xs => cases o
                     · rfl
                     · cases xs <;> rfl
  | _ => rfl

theorem appendEff_local (h : Agree F st1.rs st2.rs) {t ty : Nat} {s x : D} (hs : ∀ r ∈ ment s, F r) (hx : ∀ r ∈ ment x, F r) : appendEff T t ty st1 s x = appendEff T t ty st2 s x := by
  unfold appendEff
  split
  · rw [appendSrc_local h hx]
    congr 1
    funext y
    split
    · cases s with
      | slc r p off len => simp only [(h.updAll y.upd) r (hs r (by simp [ment]))]
      | lst o te e xs => cases o
                         · rfl
                         · cases xs <;> rfl
      | _ => rfl
    · rfl
  · rfl

theorem copyEff_local (h : Agree F st1.rs st2.rs) {t : Nat} {s x : D} (hs : ∀ r ∈ ment s, F r) (hx : ∀ r ∈ ment x, F r) : copyEff T t st1 s x = copyEff T t st2 s x := by
  cases s with
  | slc r p off len =>
    simp only [copyEff, appendSrc_local h hx]
    congr 1
    funext y
    rw [(h.updAll y.upd) r (hs r (by simp [ment]))]
  | _ => rfl

theorem clearEff_local (h : Agree F st1.rs st2.rs) {t : Nat} {s : D} (hs : ∀ r ∈ ment s, F r) : clearEff T t st1 s = clearEff T t st2 s := by
  cases s with
  | slc r p off len => simp only [clearEff, h r (hs r (by simp [ment]))]
  | _ => rfl

/-- Operands tell the same. -/
def Same2 (st1 st2 : St) (xs : List Operand) : Prop := ∀ t, Operand.tmp t ∈ xs → st1.env t = st2.env t

theorem ev_local {xs : List Operand} (h : Same2 st1 st2 xs) {x : Operand} (hx : x ∈ xs) (hint : Nat) : st1.ev T hint x = st2.ev T hint x := by
  cases x with
  | tmp t => simp only [St.ev, h t hx]
  | const v => rfl
  | func f => rfl
  | global g => rfl

theorem evPart_local {xs : List Operand} (h : Same2 st1 st2 xs) {x : Operand} (hx : x ∈ xs) (old : D) : evPart T st1 old x = evPart T st2 old x := by
  cases x with
  | tmp t => simp only [evPart, St.ev, h t hx]
  | const v => rfl
  | func f => rfl
  | global g => rfl

theorem evL_local {ys : List Operand} (h : Same2 st1 st2 ys) : ∀ {xs : List Operand} {tys : List Nat}, (∀ x ∈ xs, x ∈ ys) → evL T st1 tys xs = evL T st2 tys xs
  | [], tys, hs => by simp only [evL]
  | x :: xs, tys, hs => by simp only [evL, ev_local h (hs x (List.mem_cons_self ..)), evL_local h fun y hy => hs y (List.mem_cons_of_mem _ hy)]

theorem evO_local {ys : List Operand} (h : Same2 st1 st2 ys) {x : Option Operand} (hs : ∀ y, x = some y → y ∈ ys) (hint : Nat) : evO T st1 hint x = evO T st2 hint x := by
  cases x with
  | none => rfl
  | some y => simp only [evO, ev_local h (hs y rfl)]

theorem fillS_local {ys : List Operand} (h : Same2 st1 st2 ys) {ty : Nat} : ∀ {l : List (Nat × Operand)} {xs : List D}, (∀ q ∈ l, q.2 ∈ ys) → fillS T st1 ty xs l = fillS T st2 ty xs l
  | [], xs, hs => by simp only [fillS]
  | (i, x) :: l, xs, hs => by
    simp only [fillS]
    congr 1
    funext old
    rw [evPart_local h (hs (i, x) (List.mem_cons_self ..))]
    congr 1
    funext d
    rw [fillS_local h fun q hq => hs q (List.mem_cons_of_mem _ hq)]

end
end Go.Lft

/- What an operation looks at: all operations. -/
namespace Go.Lft

section
variable {P : Program} {T : Tb} {F : Rid → Prop} {st1 st2 : St}

theorem litIs_ment {v : Value} {d : D} (h : litIs v d = true) : ∀ r ∈ ment d, False := by
  cases v <;> cases d <;> first | (intro r hr; simp [ment] at hr; done) | (simp [litIs] at h; done)
mutual
theorem aggIs_ment : ∀ {d : D} {vs : List Value}, aggIs vs d.leaves = true → ∀ r ∈ ment d, False
  | .agg xs, vs, h => by simp only [D.leaves] at h; simp only [ment]; exact aggIsL_ment h
  | .int .., vs, h => by simp only [D.leaves] at h; obtain ⟨v, rfl, h'⟩ := aggIs_one h; exact litIs_ment h'
  | .bool _, vs, h => by simp only [D.leaves] at h; obtain ⟨v, rfl, h'⟩ := aggIs_one h; exact litIs_ment h'
  | .str _, vs, h => by simp only [D.leaves] at h; obtain ⟨v, rfl, h'⟩ := aggIs_one h; exact litIs_ment h'
  | .lst .., vs, h => by simp only [D.leaves] at h; obtain ⟨v, rfl, h'⟩ := aggIs_one h; exact litIs_ment h'
  | .fn .., vs, h => by simp only [D.leaves] at h; obtain ⟨v, rfl, h'⟩ := aggIs_one h; exact litIs_ment h'
  | .ifc _, vs, h => by simp only [D.leaves] at h; obtain ⟨v, rfl, h'⟩ := aggIs_one h; exact litIs_ment h'
  | .pto _, vs, h => by simp only [D.leaves] at h; obtain ⟨v, rfl, h'⟩ := aggIs_one h; exact litIs_ment h'
  | .ptr .., vs, h => by simp only [D.leaves] at h; obtain ⟨v, rfl, h'⟩ := aggIs_one h; exact litIs_ment h'
  | .slc .., vs, h => by simp only [D.leaves] at h; obtain ⟨v, rfl, h'⟩ := aggIs_one h; exact litIs_ment h'
  | .tup _, vs, h => by simp only [D.leaves] at h; obtain ⟨v, rfl, h'⟩ := aggIs_one h; exact litIs_ment h'
  | .undef, vs, h => by simp only [D.leaves] at h; obtain ⟨v, rfl, h'⟩ := aggIs_one h; exact litIs_ment h'
theorem aggIsL_ment : ∀ {xs : List D} {vs : List Value}, aggIs vs (D.leavesL xs) = true → ∀ r ∈ mentL xs, False
  | [], vs, h => by intro r hr; simp [mentL] at hr
  | x :: xs, vs, h => by
    simp only [D.leavesL] at h
    obtain ⟨v1, v2, rfl, h1, h2⟩ := aggIs_append h
    intro r hr
    simp only [mentL, List.mem_append] at hr
    exact hr.elim (aggIs_ment h1 r) (aggIsL_ment h2 r)
end

theorem const_ment {hint : Nat} {v : Value} {d : D} (h : ofConst T hint v = some d) : ∀ r ∈ ment d, False := by
  unfold ofConst at h
  split at h
  · obtain rfl := Option.some.inj h; intro r hr; simp [ment] at hr
  · obtain rfl := Option.some.inj h; intro r hr; simp [ment] at hr
  · obtain rfl := Option.some.inj h; intro r hr; simp [ment] at hr
  · split at h
    · obtain rfl := Option.some.inj h; intro r hr; simp [ment] at hr
    · cases h
  · obtain rfl := Option.some.inj h; intro r hr; simp [ment] at hr
  · obtain rfl := Option.some.inj h; intro r hr; simp [ment] at hr
  · simp only [Option.bind_eq_some_iff] at h
    obtain ⟨d', h1, h2⟩ := h
    split at h2
    · rename_i hag
      obtain rfl := Option.some.inj h2
      simp only [Bool.and_eq_true] at hag
      exact aggIs_ment hag.2
    · cases h2
  · cases h

theorem constAs_ment {v : Value} {d : D} (h : constAs v d = true) : ∀ r ∈ ment d, False := by
  unfold constAs at h
  split at h
  · simp only [Bool.and_eq_true] at h
    exact aggIs_ment h.2
  · exact litIs_ment h

/-- The operands speak of F alone. -/
def Looks (F : Rid → Prop) (st : St) (xs : List Operand) : Prop := ∀ t, Operand.tmp t ∈ xs → ∀ r ∈ ment (st.env t), F r

theorem ev_looks {xs : List Operand} (h : Looks F st2 xs) {x : Operand} (hx : x ∈ xs) {hint : Nat} {d : D} (he : st2.ev T hint x = some d) : ∀ r ∈ ment d, F r := by
  cases x with
  | tmp t => simp only [St.ev, Option.some.injEq] at he; subst he; exact h t hx
  | const v => intro r hr; exact (const_ment  he r hr).elim
  | func f => simp only [St.ev, Option.some.injEq] at he; subst he; intro r hr; simp [ment, mentL] at hr
  | global g => simp [St.ev] at he

theorem evPart_looks {xs : List Operand} (h : Looks F st2 xs) {x : Operand} (hx : x ∈ xs) {old d : D} (he : evPart T st2 old x = some d) : ∀ r ∈ ment d, F r := by
  cases x with
  | tmp t => exact ev_looks (T := T) h hx (hint := 0) he
  | func f => exact ev_looks (T := T) h hx (hint := 0) he
  | global g => exact ev_looks (T := T) h hx (hint := 0) he
  | const v =>
    simp only [evPart] at he
    split at he
    · rename_i hc
      obtain rfl := Option.some.inj he
      intro r hr; exact (constAs_ment hc r hr).elim
    · intro r hr; exact (const_ment  he r hr).elim

theorem evL_looks {ys : List Operand} (h : Looks F st2 ys) : ∀ {xs : List Operand} {tys : List Nat} {ds : List D}, (∀ x ∈ xs, x ∈ ys) → evL T st2 tys xs = some ds → ∀ r ∈ mentL ds, F r
  | [], tys, ds, hs, he => by simp only [evL, Option.some.injEq] at he; subst he; intro r hr; simp [mentL] at hr
  | x :: xs, tys, ds, hs, he => by
    simp only [evL, Option.bind_eq_some_iff, Option.map_eq_some_iff] at he
    obtain ⟨y, h1, ys', h2, rfl⟩ := he
    intro r hr
    simp only [mentL, List.mem_append] at hr
    rcases hr with hr | hr
    · exact ev_looks  h (hs x (List.mem_cons_self ..)) h1 r hr
    · exact evL_looks  h (fun y hy => hs y (List.mem_cons_of_mem _ hy)) h2 r hr

theorem fillL_local {ys : List Operand} (hS : Same2 st1 st2 ys) (hL : Looks F st2 ys) (hA : Agree F st1.rs st2.rs) : ∀ {l : List (Nat × Operand)} {xs : List D} {us : List (Rid × Option Root)} {ks : List Kill}, (∀ q ∈ l, q.2 ∈ ys) → fillL T st1 xs us ks l = fillL T st2 xs us ks l
  | [], xs, us, ks, hs => by simp only [fillL]
  | (i, x) :: l, xs, us, ks, hs => by
    simp only [fillL]
    congr 1
    funext old
    have hx := hs (i, x) (List.mem_cons_self ..)
    rw [evPart_local hS hx]
    cases hd : evPart T st2 old x with
    | none => rfl
    | some d =>
      simp only [Option.bind_some]
      rw [take_local (hA.updAll us) (evPart_looks  hL hx hd)]
      congr 1
      funext k
      rw [fillL_local  hS hL hA fun q hq => hs q (List.mem_cons_of_mem _ hq)]

end
end Go.Lft

/- What an operation looks at: the whole. -/
namespace Go.Lft

section
variable {P : Program} {T : Tb} {F : Rid → Prop} {st1 st2 : St}

theorem evb_local {α : Type} {xs : List Operand} (hS : Same2 st1 st2 xs) (hL : Looks F st2 xs) {x : Operand} (hx : x ∈ xs) {hint : Nat} {f g : D → Option α} (h : ∀ d, (∀ r ∈ ment d, F r) → f d = g d) : (st1.ev T hint x).bind f = (st2.ev T hint x).bind g := by
  rw [ev_local hS hx]
  cases hd : st2.ev T hint x with
  | none => rfl
  | some d => simp only [Option.bind_some]; exact h d (ev_looks hL hx hd)

theorem plainEff_local {t hint : Nat} {op : Op} (hS : Same2 st1 st2 op.operands.toList) (hL : Looks F st2 op.operands.toList) (hA : Agree F st1.rs st2.rs) : plainEff T t hint st1 op = plainEff T t hint st2 op := by
  cases op <;> simp only [plainEff] <;> simp only [Op.operands] at hS hL
  case move x => rw [ev_local hS (by simp)]
  case assign x => rw [ev_local hS (by simp)]
  case pick c x y => rw [ev_local hS (x := c) (by simp), ev_local hS (x := x) (by simp), ev_local hS (x := y) (by simp)]
  case box ty x => exact evb_local hS hL (by simp) fun d hd => by rw [take_local hA hd]
  case build ty ps =>
    congr 1; funext z; congr 1; funext xs
    rw [fillS_local hS fun q hq => by simpa using ⟨q.1, by simpa using hq⟩]
  case buildSlice ty n ps =>
    split
    · congr 1; funext z
      rw [fillL_local hS hL hA fun q hq => by simpa using ⟨q.1, by simpa using hq⟩]
    · rfl
  case load ty x => exact evb_local hS hL (by simp) fun d hd => by rw [loadEff_local hA hd]
  case store ty x y => exact evb_local hS hL (by simp) fun d hd => evb_local hS hL (by simp) fun e he => storeEff_local hA hd he
  case nilCheck x => rw [ev_local hS (by simp)]
  case binOp op ty x y r => rw [ev_local hS (x := x) (by simp), ev_local hS (x := y) (by simp)]
  case unOp op ty x => rw [ev_local hS (by simp)]
  case convert s d x =>
    refine evb_local hS hL (by simp) fun e he => ?_
    have hit := items_local hA he
    cases T.ty s <;> cases T.ty d <;> cases e <;> first | rfl | simp only [hit]
  case makeSlice ty l c => rw [ev_local hS (x := l) (by simp), ev_local hS (x := c) (by simp)]
  case fieldAddr s x f => exact evb_local hS hL (by simp) fun d hd => by rw [fieldAddrEff_local hA hd]
  case field s x f => rw [ev_local hS (by simp)]
  case indexAddr ty x i => exact evb_local hS hL (by simp) fun d hd => by rw [ev_local hS (x := i) (by simp)]; congr 1; funext j; rw [indexEff_local hA hd]
  case index ty x i => rw [ev_local hS (x := x) (by simp), ev_local hS (x := i) (by simp)]
  case extract x i => rw [ev_local hS (by simp)]
  case makeFunc f first cs =>
    cases f <;> simp only
    split
    · rename_i hf
      have hf' : first = #[] := by simpa [Array.isEmpty] using hf
      subst hf'
      rw [evL_local hS fun x hx => by simpa using hx]
    · rfl
  case slice ty x lo hi mx =>
    cases mx with
    | some m => rfl
    | none =>
      simp only
      refine evb_local hS hL (by simp) fun d hd => ?_
      rw [evO_local hS (x := lo) (by rintro y rfl; simp), evO_local hS (x := hi) (by rintro y rfl; simp)]
      congr 1; funext l; congr 1; funext m
      rw [sliceEff_local hA hd]


theorem builtinEff_local {t : Nat} {b : Builtin} {c : Call} {ys : List Operand} (hS : Same2 st1 st2 ys) (hL : Looks F st2 ys) (hA : Agree F st1.rs st2.rs) (hy : ∀ x ∈ c.args.toList, x ∈ ys) : builtinEff T t st1 b c = builtinEff T t st2 b c := by
  unfold builtinEff
  rw [evL_local hS hy]
  cases hx : evL T st2 c.argTypes.toList c.args.toList with
  | none => rfl
  | some xs =>
    have hm := evL_looks hL hy hx
    simp only [Option.bind_some]
    have h2 : ∀ {s x : D}, xs = [s, x] → (∀ r ∈ ment s, F r) ∧ ∀ r ∈ ment x, F r := by
      rintro s x rfl
      exact ⟨fun r hr => hm r (by simp [mentL, hr]), fun r hr => hm r (by simp [mentL, hr])⟩
    have h1 : ∀ {s : D}, xs = [s] → ∀ r ∈ ment s, F r := by
      rintro s rfl r hr
      exact hm r (by simp [mentL, hr])
    split
    · rfl
    · rename_i s x t0 t1 _
      obtain ⟨e1, e2⟩ := h2 rfl
      simp only [appendEff_local hA e1 e2]
    · rename_i s x t0 t1 _
      obtain ⟨e1, e2⟩ := h2 rfl
      simp only [copyEff_local hA e1 e2]
    · rename_i s t0 _
      simp only [clearEff_local hA (h1 rfl)]
    · rfl
    · rfl
    · rfl

theorem opEff_local {call : CallF} {md : Nat → List Nat} {o : Oper} (hS : Same2 st1 st2 o.op.operands.toList) (hL : Looks F st2 o.op.operands.toList) (hA : Agree F st1.rs st2.rs) : opEff T call md o st1 = opEff T call md o st2 := by
  unfold opEff
  split
  · rename_i c hop
    rw [hop] at hS hL
    simp only [Op.operands] at hS hL
    obtain ⟨callee, args, tys⟩ := c
    unfold callOp
    cases callee with
    | builtin b => exact builtinEff_local hS hL hA fun x hx => by simpa [Call.operands] using hx
    | invoke r n => rfl
    | value f =>
      simp only
      refine evb_local hS hL (by simp [Call.operands]) fun d hd => ?_
      cases d <;> try rfl
      rename_i g caps
      simp only
      split
      · rw [evL_local hS fun x hx => by simp [Call.operands]; exact .inr (by simpa using hx)]
        cases hx : evL T st2 tys.toList args.toList with
        | none => rfl
        | some xs =>
          simp only [Option.bind_some]
          refine callEff_local hA fun r hr => ?_
          have hmm : ∀ (as bs : List D), mentL (as ++ bs) = mentL as ++ mentL bs := by
            intro as bs
            induction as with
            | nil => rfl
            | cons a as ih => simp [mentL, ih]
          rw [hmm] at hr
          rcases List.mem_append.1 hr with hr | hr
          · exact evL_looks hL (fun x hx => by simp [Call.operands]; exact .inr (by simpa using hx)) hx r hr
          · exact hd r (by simpa only [ment] using hr)
      · rfl
  · exact plainEff_local hS hL hA

end
end Go.Lft

/- Regions that draw their order. -/
namespace Go.Lft

/-- Kills that spare an operation miss what it spoke of. -/
theorem kills_miss {ks : List Kill} {A : Tr} (h : ks.all (fun k => if k.all then !(A.all).contains k.r else !(A.feels).contains k.r) = true) {d : D} (hd : ∀ r ∈ ment d, r ∈ A.all) (hb : A.feels = A.all ∨ bare d = true) : (krs ks).on d = d := by
  have key : ∀ r ∈ ment d, ∀ k ∈ ks, r = k.r → k.all = false ∧ A.feels ≠ A.all := by
    intro r hr k hk e
    have := List.all_eq_true.1 h k hk
    subst e
    cases hka : k.all with
    | true =>
      rw [hka] at this
      simp only [if_true, Bool.not_eq_true'] at this
      have := (List.contains_iff_mem (a := k.r) (as := A.all)).2 (hd _ hr)
      simp_all
    | false =>
      refine ⟨rfl, fun e => ?_⟩
      rw [hka] at this
      simp only [Bool.false_eq_true, if_false, Bool.not_eq_true'] at this
      rw [e] at this
      have := (List.contains_iff_mem (a := k.r) (as := A.all)).2 (hd _ hr)
      simp_all
  rcases hb with hb | hb
  · refine on_miss fun r hr => ⟨fun p => krs_ptr_false fun k hk => ?_, fun p => krs_slc_false fun k hk => ?_⟩
    · simp only [Kill.kr, decide_eq_false_iff_not, not_and]
      intro e; exact absurd hb (key r hr k hk e).2
    · simp only [Kill.kr, decide_eq_false_iff_not, not_and]
      intro e; exact absurd hb (key r hr k hk e).2
  · cases d <;> simp [bare] at hb
    rename_i r p
    cases p with
    | cons s p => simp at hb
    | nil =>
      have : (krs ks).ptr r [] = false := krs_ptr_false fun k hk => by
        simp only [Kill.kr, decide_eq_false_iff_not, not_and]
        intro e
        rw [(key r (by simp [ment]) k hk e).1]
        simp only [Bool.false_eq_true, false_or, not_and, List.length_nil, ne_eq, Decidable.not_not]
        intro hm
        cases hp : k.p with
        | nil => rfl
        | cons s q => rw [hp] at hm; cases s <;> simp [meets] at hm
      simp only [Kr.on, this, Bool.false_eq_true, if_false]


theorem feels_cases (A : Tr) : A.feels = A.all ∨ (moves A.o.op = true ∧ A.xs.all bare = true ∧ bare A.e.val = true) := by
  unfold Tr.feels
  split
  · rename_i h
    simp only [Bool.and_eq_true] at h
    exact .inr ⟨h.1, h.2.1, h.2.2⟩
  · exact .inl rfl

theorem app_env (st : St) (dst : Option Nat) (e : Eff) (t : Nat) (h : dst ≠ some t) : (st.app dst e).env t = (krs e.kill).on (st.env t) := by
  simp only [St.app]
  cases dst with
  | none => simp only [putO, killAll_krs]
  | some s => simp only [putO, upd]; rw [if_neg (fun e => h (by rw [e])), killAll_krs]

theorem app_rs (st : St) (dst : Option Nat) (e : Eff) : (st.app dst e).rs = updAll e.upd st.rs := rfl

theorem updAll_other : ∀ (us : List (Rid × Option Root)) (rs : Rid → Option Root) (r : Rid), (∀ u ∈ us, u.1 ≠ r) → updAll us rs r = rs r
  | [], rs, r, h => rfl
  | (r', x) :: us, rs, r, h => by
    simp only [updAll]
    rw [updAll_other us _ r fun u hu => h u (List.mem_cons_of_mem _ hu)]
    exact upd_ne _ _ (Ne.symm (h (r', x) (List.mem_cons_self ..)))

theorem onL_get (k : Kr) : ∀ (xs : List D) (i : Nat), (Kr.onL k xs)[i]? = (xs[i]?).map k.on
  | [], i => by simp [Kr.onL]
  | x :: xs, 0 => by simp [Kr.onL]
  | x :: xs, i + 1 => by simp [Kr.onL, onL_get k xs i]
theorem on_cmp (k : Kr) (i : Nat) (d : D) : k.on (cmpOf i d) = cmpOf i (k.on d) := by
  cases d with
  | tup xs =>
    simp only [cmpOf, Kr.on, onL_get]
    cases xs[i]? <;> simp [Kr.on]
  | ptr r p => simp only [cmpOf, Kr.on]; split <;> rfl
  | slc r p off len => simp only [cmpOf, Kr.on]; split <;> rfl
  | _ => simp [cmpOf, Kr.on]
theorem isExt_op {op : Op} {t i : Nat} (h : isExt op = some (t, i)) : op = .extract (.tmp t) i := by
  unfold isExt at h
  split at h
  · simp only [Option.some.injEq, Prod.mk.injEq] at h
    obtain ⟨rfl, rfl⟩ := h
    rfl
  · cases h
theorem opData_ext {T : Tb} {st : St} {o : Oper} {t i : Nat} (h : isExt o.op = some (t, i)) : opData T st o = [cmpOf i (st.env t)] := by
  simp only [opData, h]
theorem opData_old {T : Tb} {st : St} {o : Oper} (h : isExt o.op = none) : opData T st o = o.op.operands.toList.filterMap fun x => match x with | .tmp t => some (st.env t) | _ => none := by
  simp only [opData, h]
  rfl
theorem data_mem {T : Tb} {st : St} {o : Oper} {t : Nat} (hx : isExt o.op = none) (h : Operand.tmp t ∈ o.op.operands.toList) : st.env t ∈ opData T st o := by
  rw [opData_old hx]
  exact List.mem_filterMap.2 ⟨.tmp t, h, rfl⟩

theorem ment_mem : ∀ {xs : List D} {d : D}, d ∈ xs → ∀ r ∈ ment d, r ∈ mentL xs
  | x :: xs, d, h, r, hr => by
    simp only [mentL, List.mem_append]
    rcases List.mem_cons.1 h with rfl | h
    · exact .inl hr
    · exact .inr (ment_mem h r hr)

theorem noUndef_mem : ∀ {xs : List D} {d : D}, D.noUndefL xs = true → d ∈ xs → D.noUndef d = true
  | x :: xs, d, h, hd => by
    simp only [D.noUndefL, Bool.and_eq_true] at h
    rcases List.mem_cons.1 hd with rfl | hd
    · exact h.1
    · exact noUndef_mem h.2 hd

theorem opData_same {T : Tb} {st1 st2 : St} {o : Oper} (hx : isExt o.op = none) (h : Same2 st1 st2 o.op.operands.toList) : opData T st1 o = opData T st2 o := by
  rw [opData_old hx, opData_old hx]
  have : ∀ l : List Operand, Same2 st1 st2 l → (l.filterMap fun x => match x with | .tmp t => some (st1.env t) | _ => none) = l.filterMap fun x => match x with | .tmp t => some (st2.env t) | _ => none := by
    intro l
    induction l with
    | nil => intro _; rfl
    | cons x l ih =>
      intro hl
      have ih' := ih fun t ht => hl t (List.mem_cons_of_mem _ ht)
      cases x with
      | tmp t => simp only [List.filterMap_cons, hl t (List.mem_cons_self ..), ih']
      | const v => simp only [List.filterMap_cons, ih']
      | func f => simp only [List.filterMap_cons, ih']
      | global g => simp only [List.filterMap_cons, ih']
  exact this _ h

end Go.Lft

/- Two steps change places. -/
namespace Go.Lft

section
variable {T : Tb} {call : CallF} {md : Nat → List Nat} {st : St} {ops : Array Oper}

/-- What one step leaves to another. -/
structure Leaves (a : Tr) (b : Tr) : Prop where
  upd : ∀ u ∈ a.e.upd, u.1 ∉ b.feels ∧ ∀ v ∈ b.e.upd, v.1 ≠ u.1
  kill : a.e.kill.all (fun k => if k.all then !(b.all).contains k.r else !(b.feels).contains k.r) = true
  undef : a.e.kill = [] ∨ D.noUndefL b.xs = true

theorem spares_leaves {a b : Tr} (h : spares a b = true) : Leaves a b := by
  simp only [spares, Bool.and_eq_true, List.all_eq_true, Bool.not_eq_true', decide_eq_true_eq, Bool.or_eq_true] at h
  obtain ⟨⟨h1, h2⟩, h3⟩ := h
  refine ⟨fun u hu => ⟨fun hc => ?_, (h1 u hu).2⟩, List.all_eq_true.2 h2, h3.imp (fun h => by simpa using h) id⟩
  have := (List.contains_iff_mem (a := u.1) (as := b.feels)).2 hc
  rw [(h1 u hu).1] at this
  cases this

theorem quiet_leaves {a b : Tr} (h : a.quiet = true) : Leaves a b := by
  simp only [Tr.quiet, Bool.and_eq_true, List.isEmpty_iff] at h
  exact ⟨fun u hu => by rw [h.1] at hu; (cases hu), by rw [h.2]; rfl, .inl h.2⟩

theorem indep_leaves {a b : Tr} (h : ((a.quiet && b.quiet) || (spares a b && spares b a)) = true) : Leaves a b ∧ Leaves b a := by
  simp only [Bool.or_eq_true, Bool.and_eq_true] at h
  rcases h with h | h
  · exact ⟨quiet_leaves h.1, quiet_leaves h.2⟩
  · exact ⟨spares_leaves h.1, spares_leaves h.2⟩


theorem moves_local {st1 st2 : St} {o : Oper} (hm : moves o.op = true) (hS : Same2 st1 st2 o.op.operands.toList) : opEff T call md o st1 = opEff T call md o st2 := by
  obtain ⟨dst, op, ty, pos, after, g⟩ := o
  simp only at hm hS
  cases op <;> simp only [moves] at hm <;> try (cases hm; done)
  all_goals (simp only [opEff, plainEff, Op.operands] at hS ⊢; rw [ev_local hS (by simp)])

theorem looks_operand {o : Oper} {t : Nat} (h : Operand.tmp t ∈ o.op.operands.toList) : t ∈ o.looksAt ops :=
  List.mem_append_left _ (List.mem_filterMap.2 ⟨.tmp t, h, rfl⟩)


/-- An operation sees the same before and behind a step that leaves it alone. -/
theorem op_unseen {a b : Oper} {ea eb : Eff} {xa xb : List D} (hx : isExt b.op = none) (hl : Leaves ⟨a, xa, ea⟩ ⟨b, xb, eb⟩) (hap : ∀ t, a.dst = some t → t ∉ b.looksAt ops) (hxb : opData T (st.app a.dst ea) b = xb) (hsame : Same2 (st.app a.dst ea) st b.op.operands.toList) :
    opEff T call md b (st.app a.dst ea) = opEff T call md b st := by
  rcases feels_cases ⟨b, xb, eb⟩ with hf | ⟨hm, _, _⟩
  · refine opEff_local (F := fun r => r ∈ (⟨b, xb, eb⟩ : Tr).feels) hsame ?_ ?_
    · intro t ht r hr
      show r ∈ (⟨b, xb, eb⟩ : Tr).feels
      rw [hf]
      refine List.mem_append_left _ ?_
      show r ∈ mentL xb
      rw [← hxb, opData_same hx hsame]
      exact ment_mem (data_mem hx ht) r hr
    · intro r hr
      rw [app_rs]
      exact updAll_other _ _ _ fun u hu e => (hl.upd u hu).1 (e ▸ hr)
  · exact moves_local hm hsame

theorem same_before {a b : Oper} {ea eb : Eff} {xa xb : List D} (hx : isExt b.op = none) (hl : Leaves ⟨a, xa, ea⟩ ⟨b, xb, eb⟩) (hap : ∀ t, a.dst = some t → t ∉ b.looksAt ops) (hxb : opData T (st.app a.dst ea) b = xb) : Same2 (st.app a.dst ea) st b.op.operands.toList := by
  intro t ht
  have hne : a.dst ≠ some t := fun e => hap t e (looks_operand ht)
  have he := app_env st a.dst ea t hne
  rcases hl.undef with h | h
  · have h : ea.kill = [] := h
    rw [he, h]; exact Kr.on_none _
  · have hd := noUndef_mem h (show (st.app a.dst ea).env t ∈ xb by rw [← hxb]; exact data_mem hx ht)
    rw [he] at hd ⊢
    exact on_noUndef hd

theorem same_behind {a b : Oper} {ea eb : Eff} {xa xb : List D} (hx : isExt a.op = none) (hl : Leaves ⟨b, xb, eb⟩ ⟨a, xa, ea⟩) (hap : ∀ t, b.dst = some t → t ∉ a.looksAt ops) (hxa : opData T st a = xa) : Same2 (st.app b.dst eb) st a.op.operands.toList := by
  intro t ht
  have hne : b.dst ≠ some t := fun e => hap t e (looks_operand ht)
  rw [app_env st b.dst eb t hne]
  have hmem : st.env t ∈ xa := by rw [← hxa]; exact data_mem hx ht
  refine kills_miss hl.kill (fun r hr => List.mem_append_left _ (ment_mem hmem r hr)) ?_
  rcases feels_cases ⟨a, xa, ea⟩ with h | ⟨_, h, _⟩
  · exact .inl h
  · exact .inr (List.all_eq_true.1 h _ hmem)


theorem looks_guard {o : Oper} {j t : Nat} {w : Bool} (h : o.guard = some (j, w)) (ht : (ops[j]?).bind (·.dst) = some t) : t ∈ o.looksAt ops := by
  unfold Oper.looksAt
  rw [h]
  simp only [ht]
  exact List.mem_append_right _ (by simp)

theorem guard_before {b : Oper} {dst : Option Nat} {ea : Eff} {g : Bool} (hap : ∀ t, dst = some t → t ∉ b.looksAt ops) (h : guardOf (st.app dst ea) ops b = some g) : guardOf st ops b = some g := by
  unfold guardOf at h ⊢
  cases hg : b.guard with
  | none => simp only [hg] at h ⊢; exact h
  | some q =>
    obtain ⟨j, w⟩ := q
    simp only [hg] at h ⊢
    cases ht : (ops[j]?).bind (·.dst) with
    | none => simp [ht] at h
    | some t =>
      simp only [ht] at h ⊢
      rw [app_env st dst ea t fun e => hap t e (looks_guard hg ht)] at h
      cases he : (krs ea.kill).on (st.env t) <;> rw [he] at h <;> (try simp only at h) <;> (try (cases h; done))
      case tup xs =>
        cases xs with
        | cons x xs => cases h
        | nil => rw [on_nil he]; exact h
      rw [on_bool he]
      exact h

theorem guard_behind {a : Oper} {dst : Option Nat} {eb : Eff} {g : Bool} (hap : ∀ t, dst = some t → t ∉ a.looksAt ops) (h : guardOf st ops a = some g) : guardOf (st.app dst eb) ops a = some g := by
  unfold guardOf at h ⊢
  cases hg : a.guard with
  | none => simp only [hg] at h ⊢; exact h
  | some q =>
    obtain ⟨j, w⟩ := q
    simp only [hg] at h ⊢
    cases ht : (ops[j]?).bind (·.dst) with
    | none => simp [ht] at h
    | some t =>
      simp only [ht] at h ⊢
      rw [app_env st dst eb t fun e => hap t e (looks_guard hg ht)]
      cases he : st.env t <;> rw [he] at h <;> (try simp only at h) <;> (try (cases h; done))
      case tup xs =>
        cases xs with
        | cons x xs => cases h
        | nil => simp only [Kr.on, Kr.onL]; exact h
      simpa only [Kr.on] using h


theorem app_self (st : St) (t : Nat) (e : Eff) : (st.app (some t) e).env t = e.val := by
  simp only [St.app, putO, upd, if_true]

theorem val_miss {A B : Tr} (hl : Leaves B A) : (krs B.e.kill).on A.e.val = A.e.val := by
  refine kills_miss hl.kill (fun r hr => List.mem_append_right _ hr) ?_
  rcases feels_cases A with h | ⟨_, _, h⟩
  · exact .inl h
  · exact .inr h

theorem app_comm {a b : Oper} {ea eb : Eff} {xa xb : List D} (h1 : Leaves ⟨a, xa, ea⟩ ⟨b, xb, eb⟩) (h2 : Leaves ⟨b, xb, eb⟩ ⟨a, xa, ea⟩) (hne : ∀ d, a.dst = some d → b.dst ≠ some d) : (st.app a.dst ea).app b.dst eb = (st.app b.dst eb).app a.dst ea := by
  have henv : ((st.app a.dst ea).app b.dst eb).env = ((st.app b.dst eb).app a.dst ea).env := by
    funext t
    by_cases hb : b.dst = some t
    · have ha : a.dst ≠ some t := fun e => hne t e hb
      rw [app_env _ _ _ _ ha, hb, app_self, app_self]
      exact (val_miss h1).symm
    · rw [app_env _ _ _ _ hb]
      by_cases ha : a.dst = some t
      · rw [ha, app_self, app_self]
        exact val_miss h2
      · rw [app_env _ _ _ _ ha, app_env _ _ _ _ ha, app_env _ _ _ _ hb, on_comm]
  have hrs : ((st.app a.dst ea).app b.dst eb).rs = ((st.app b.dst eb).app a.dst ea).rs := updAll_comm _ _ _ fun u hu v hv => (h1.upd u hu).2 v hv
  generalize (st.app a.dst ea).app b.dst eb = s1 at *
  generalize (st.app b.dst eb).app a.dst ea = s2 at *
  cases s1; cases s2
  simp only at henv hrs
  rw [henv, hrs]


/-- An extract sees the same, if its part is left alone. -/
theorem ext_eff {o : Oper} {t i : Nat} (h : isExt o.op = some (t, i)) {st1 st2 : St} {k : Kr} (h1 : st2.env t = k.on (st1.env t)) (h2 : k.on (cmpOf i (st1.env t)) = cmpOf i (st1.env t)) : opEff T call md o st2 = opEff T call md o st1 := by
  obtain ⟨dst, op, ty, pos, after, g⟩ := o
  obtain rfl := isExt_op h
  simp only [opEff, plainEff, St.ev, Option.bind_some]
  rw [h1]
  cases hd : st1.env t with
  | tup xs =>
    rw [hd] at h2
    simp only [cmpOf] at h2
    simp only [Kr.on, onL_get]
    cases hx : xs[i]? with
    | none => rfl
    | some y => rw [hx] at h2; simp only [Option.getD_some] at h2; simp only [Option.map_some, h2]
  | ptr r p => simp only [Kr.on]; cases k.ptr r p <;> simp
  | slc r p off len => simp only [Kr.on]; cases k.slc r p <;> simp
  | _ => simp only [Kr.on]
theorem ext_looks {o : Oper} {t i : Nat} (h : isExt o.op = some (t, i)) : t ∈ o.looksAt ops := by
  apply looks_operand
  rw [isExt_op h]
  simp [Op.operands]
theorem both_before {a b : Oper} {ea eb : Eff} {xa xb : List D} (hl : Leaves ⟨a, xa, ea⟩ ⟨b, xb, eb⟩) (hap : ∀ t, a.dst = some t → t ∉ b.looksAt ops) (hxb : opData T (st.app a.dst ea) b = xb) : opEff T call md b (st.app a.dst ea) = opEff T call md b st ∧ opData T st b = xb := by
  cases hx : isExt b.op with
  | none =>
    have hs := same_before hx hl hap hxb
    exact ⟨op_unseen hx hl hap hxb hs, by rw [← opData_same hx hs]; exact hxb⟩
  | some q =>
    obtain ⟨t, i⟩ := q
    have he := app_env st a.dst ea t fun e => hap t e (ext_looks hx)
    rw [opData_ext hx, he, ← on_cmp] at hxb
    have hon : (krs ea.kill).on (cmpOf i (st.env t)) = cmpOf i (st.env t) := by
      rcases hl.undef with h | h
      · have h : ea.kill = [] := h
        rw [h]; exact Kr.on_none _
      · have h : D.noUndefL xb = true := h
        rw [← hxb] at h
        simp only [D.noUndefL, Bool.and_true] at h
        exact on_noUndef h
    rw [hon] at hxb
    exact ⟨ext_eff hx he hon, by rw [opData_ext hx]; exact hxb⟩
theorem both_behind {a b : Oper} {ea eb : Eff} {xa xb : List D} (hl : Leaves ⟨b, xb, eb⟩ ⟨a, xa, ea⟩) (hap : ∀ t, b.dst = some t → t ∉ a.looksAt ops) (hxa : opData T st a = xa) : opEff T call md a (st.app b.dst eb) = opEff T call md a st ∧ opData T (st.app b.dst eb) a = xa := by
  cases hx : isExt a.op with
  | none =>
    have hs := same_behind hx hl hap hxa
    have hxa' : opData T (st.app b.dst eb) a = xa := by rw [opData_same hx hs]; exact hxa
    exact ⟨op_unseen hx hl hap hxa' hs, hxa'⟩
  | some q =>
    obtain ⟨t, i⟩ := q
    have he := app_env st b.dst eb t fun e => hap t e (ext_looks hx)
    rw [opData_ext hx] at hxa
    have hon : (krs eb.kill).on (cmpOf i (st.env t)) = cmpOf i (st.env t) := by
      refine kills_miss hl.kill (fun r hr => List.mem_append_left _ ?_) ?_
      · show r ∈ mentL xa
        rw [← hxa]
        simpa [mentL] using hr
      · rcases feels_cases ⟨a, xa, ea⟩ with h | ⟨_, h, _⟩
        · exact .inl h
        · refine .inr ?_
          have h : xa.all bare = true := h
          rw [← hxa] at h
          simpa using h
    exact ⟨ext_eff hx he hon, by rw [opData_ext hx, he, ← on_cmp, hon]; exact hxa⟩

/-! ### A scalar is stored; what lies around it looks the same -/
mutual
theorem putd_size : ∀ (q : List Stp) {c c' y old : D}, D.put c q y = some c' → D.get c q = some old → D.size old = D.size y → D.size c' = D.size c
  | [], c, c', y, old, h1, h2, h3 => by
    rw [D.put_nil] at h1
    rw [D.get_nil] at h2
    obtain rfl := Option.some.inj h1
    obtain rfl := Option.some.inj h2
    exact h3.symm
  | s :: q, c, c', y, old, h1, h2, h3 => by
    cases c with
    | agg xs =>
      cases s with
      | fld i =>
        simp only [D.put, D.get, Option.bind_eq_some_iff, Option.map_eq_some_iff] at h1 h2
        obtain ⟨x, hx, z, hz, rfl⟩ := h1
        obtain ⟨x', hx', hg⟩ := h2
        obtain rfl := Option.some.inj (hx.symm.trans hx')
        have := putd_size q hz hg h3
        simp only [D.size]
        have := setd_size xs i (xs.length) hx this
        simpa only [List.take_of_length_le (Nat.le_refl _), List.take_of_length_le (show (xs.set i z).length ≤ xs.length by simp)] using this
      | elm i => simp only [D.put] at h1; cases h1
    | lst own te e xs =>
      cases own with
      | false => cases s <;> simp only [D.put] at h1 <;> cases h1
      | true =>
        cases s with
        | fld i => simp only [D.put] at h1; cases h1
        | elm i =>
          simp only [D.put, Option.bind_eq_some_iff, Option.map_eq_some_iff] at h1
          obtain ⟨x, hx, z, hz, rfl⟩ := h1
          rfl
    | _ => cases s <;> simp only [D.put] at h1 <;> cases h1
theorem setd_size : ∀ (xs : List D) (i f : Nat) {x z : D}, xs[i]? = some x → D.size z = D.size x → D.sizeL ((xs.set i z).take f) = D.sizeL (xs.take f)
  | [], i, f, x, z, h, _ => by simp at h
  | y :: xs, 0, f, x, z, h, hs => by
    simp only [List.getElem?_cons_zero, Option.some.injEq] at h
    subst h
    cases f with
    | zero => rfl
    | succ f => simp only [List.set_cons_zero, List.take_succ_cons, D.sizeL, hs]
  | y :: xs, i + 1, f, x, z, h, hs => by
    simp only [List.getElem?_cons_succ] at h
    cases f with
    | zero => rfl
    | succ f => simp only [List.set_cons_succ, List.take_succ_cons, D.sizeL, setd_size xs i f h hs]
end
/-- What differs at a place behind alone. -/
def Like (d d' : D) : Prop := (∃ xs xs', d = .agg xs ∧ d' = .agg xs' ∧ xs'.length = xs.length ∧ ∀ f, D.sizeL (xs'.take f) = D.sizeL (xs.take f)) ∨ (∃ te e xs xs', d = .lst true te e xs ∧ d' = .lst true te e xs' ∧ xs'.length = xs.length)
theorem put_around : ∀ (p q : List Stp) {c c' y old : D}, pre p q = true → D.put c q y = some c' → D.get c q = some old → D.size old = D.size y → ∃ d d', D.get c p = some d ∧ D.get c' p = some d' ∧ Like d d'
  | [], [], _, _, _, _, h, _, _, _ => by simp [pre] at h
  | [], s :: q, c, c', y, old, _, h1, h2, h3 => by
    refine ⟨c, c', D.get_nil c, D.get_nil c', ?_⟩
    cases c with
    | agg xs =>
      cases s with
      | fld i =>
        simp only [D.put, D.get, Option.bind_eq_some_iff, Option.map_eq_some_iff] at h1 h2
        obtain ⟨x, hx, z, hz, rfl⟩ := h1
        obtain ⟨x', hx', hg⟩ := h2
        obtain rfl := Option.some.inj (hx.symm.trans hx')
        exact .inl ⟨xs, _, rfl, rfl, by simp, fun f => setd_size xs i f hx (putd_size q hz hg h3)⟩
      | elm i => simp only [D.put] at h1; cases h1
    | lst own te e xs =>
      cases own with
      | false => cases s <;> simp only [D.put] at h1 <;> cases h1
      | true =>
        cases s with
        | fld i => simp only [D.put] at h1; cases h1
        | elm i =>
          simp only [D.put, Option.bind_eq_some_iff, Option.map_eq_some_iff] at h1
          obtain ⟨x, hx, z, hz, rfl⟩ := h1
          exact .inr ⟨te, e, xs, _, rfl, rfl, by simp⟩
    | _ => cases s <;> simp only [D.put] at h1 <;> cases h1
  | s :: p, [], _, _, _, _, h, _, _, _ => by simp [pre] at h
  | s :: p, t :: q, c, c', y, old, h, h1, h2, h3 => by
    simp only [pre, Bool.and_eq_true, decide_eq_true_eq] at h
    obtain ⟨rfl, h⟩ := h
    cases c with
    | agg xs =>
      cases s with
      | fld i =>
        simp only [D.put, D.get, Option.bind_eq_some_iff, Option.map_eq_some_iff] at h1 h2
        obtain ⟨x, hx, z, hz, rfl⟩ := h1
        obtain ⟨x', hx', hg⟩ := h2
        obtain rfl := Option.some.inj (hx.symm.trans hx')
        obtain ⟨d, d', e1, e2, e3⟩ := put_around p q h hz hg h3
        refine ⟨d, d', ?_, ?_, e3⟩
        · simp only [D.get, hx, Option.bind_some, e1]
        · have hi : i < xs.length := (List.getElem?_eq_some_iff.1 hx).1
          simp only [D.get, List.getElem?_set_self hi, Option.bind_some, e2]
      | elm i => simp only [D.put] at h1; cases h1
    | lst own te e xs =>
      cases own with
      | false => cases s <;> simp only [D.put] at h1 <;> cases h1
      | true =>
        cases s with
        | fld i => simp only [D.put] at h1; cases h1
        | elm i =>
          simp only [D.put, D.get, Option.bind_eq_some_iff, Option.map_eq_some_iff] at h1 h2
          obtain ⟨x, hx, z, hz, rfl⟩ := h1
          obtain ⟨x', hx', hg⟩ := h2
          obtain rfl := Option.some.inj (hx.symm.trans hx')
          obtain ⟨d, d', e1, e2, e3⟩ := put_around p q h hz hg h3
          refine ⟨d, d', ?_, ?_, e3⟩
          · simp only [D.get, hx, Option.bind_some, e1]
          · have hi : i < xs.length := (List.getElem?_eq_some_iff.1 hx).1
            simp only [D.get, List.getElem?_set_self hi, Option.bind_some, e2]
    | _ => cases s <;> simp only [D.put] at h1 <;> cases h1
theorem scalar_size {d : D} (h : isScalar d = true) : D.size d = 1 := by cases d <;> simp [isScalar] at h <;> rfl
/-- What a scalar's store does. -/
theorem store_scalar {ty : Nat} {r : Rid} {q : List Stp} {x : D} {e : Eff} (h : storeEff T st ty (.ptr r q) x = some e) (hk : e.kill = []) : ∃ root old c', st.rs r = some root ∧ D.get root.c q = some old ∧ D.put root.c q x = some c' ∧ D.size old = D.size x ∧ e = ⟨.undef, [(r, some { root with c := c' })], []⟩ := by
  cases x with
  | slc r' p' off len =>
    simp only [storeEff] at h
    split at h
    · simp only [Option.bind_eq_some_iff] at h
      obtain ⟨root, _, d, _, h⟩ := h
      cases d <;> (try (cases h; done))
      simp only at h
      split at h
      · simp only [Option.map_eq_some_iff] at h
        obtain ⟨c', _, rfl⟩ := h
        cases hk
      · cases h
    · simp only [Option.bind_eq_some_iff] at h
      obtain ⟨k, _, root, _, old, _, h⟩ := h
      split at h
      · simp only [Option.map_eq_some_iff] at h
        obtain ⟨c', _, rfl⟩ := h
        simp at hk
      · cases h
  | agg xs =>
    simp only [storeEff, Option.bind_eq_some_iff] at h
    obtain ⟨k, _, root, _, old, _, h⟩ := h
    split at h
    · simp only [Option.map_eq_some_iff] at h
      obtain ⟨c', _, rfl⟩ := h
      simp at hk
    · cases h
  | lst own te e' xs =>
    simp only [storeEff, Option.bind_eq_some_iff] at h
    obtain ⟨root, _, old, _, h⟩ := h
    split at h
    · simp only [Option.map_eq_some_iff] at h
      obtain ⟨c', _, rfl⟩ := h
      cases hk
    · cases h
  | int k n =>
    simp only [storeEff, Option.bind_eq_some_iff] at h
    obtain ⟨root, h1, old, h2, h⟩ := h
    split at h
    · rename_i hc
      simp only [Option.map_eq_some_iff] at h
      obtain ⟨c', h3, rfl⟩ := h
      exact ⟨root, old, c', h1, h2, h3, scalar_size hc.1, rfl⟩
    · cases h
  | bool b =>
    simp only [storeEff, Option.bind_eq_some_iff] at h
    obtain ⟨root, h1, old, h2, h⟩ := h
    split at h
    · rename_i hc
      simp only [Option.map_eq_some_iff] at h
      obtain ⟨c', h3, rfl⟩ := h
      exact ⟨root, old, c', h1, h2, h3, scalar_size hc.1, rfl⟩
    · cases h
  | str s =>
    simp only [storeEff, Option.bind_eq_some_iff] at h
    obtain ⟨root, h1, old, h2, h⟩ := h
    split at h
    · rename_i hc
      simp only [Option.map_eq_some_iff] at h
      obtain ⟨c', h3, rfl⟩ := h
      exact ⟨root, old, c', h1, h2, h3, scalar_size hc.1, rfl⟩
    · cases h
  | _ => simp only [storeEff] at h; cases h
theorem opData_one {o : Oper} {t : Nat} (hx : isExt o.op = none) (h : o.op.operands.toList = [.tmp t]) : opData T st o = [st.env t] := by
  rw [opData_old hx, h]; rfl
theorem ite_some {α : Type} {c : Prop} [Decidable c] {x y : α} (h : (if c then some x else none) = some y) : x = y := by
  split at h
  · exact Option.some.inj h
  · cases h
/-- What is asked around the place is the same ahead of the store and behind it. -/
theorem around_sees {a b : Oper} {ea eb : Eff} {xa xb : List D} (ha : stepOp T call md ops a st = some ea) (hxa : opData T st a = xa) (h : around ⟨a, xa, ea⟩ ⟨b, xb, eb⟩ = true) (hap : b.apart ops a = true ∨ a.apart ops b = true) : (stepOp T call md ops b (st.app a.dst ea) = some eb ∧ opData T (st.app a.dst ea) b = xb) ↔ (stepOp T call md ops b st = some eb ∧ opData T st b = xb) := by
  simp only [around, Bool.and_eq_true, List.isEmpty_iff, Option.isNone_iff_eq_none] at h
  obtain ⟨⟨⟨hk, hq⟩, hd⟩, h⟩ := h
  obtain ⟨adst, aop, aty, apos, aafter, ag⟩ := a
  obtain ⟨bdst, bop, bty, bpos, bafter, bg⟩ := b
  simp only at hd h
  subst hd
  have henv : ∀ t, (st.app none ea).env t = st.env t := by
    intro t
    rw [app_env st none ea t (by simp), hk]; exact Kr.on_none _
  have hgd : guardOf (st.app none ea) ops ⟨bdst, bop, bty, bpos, bafter, bg⟩ = guardOf st ops ⟨bdst, bop, bty, bpos, bafter, bg⟩ := by
    unfold guardOf
    cases bg with
    | none => rfl
    | some q =>
      simp only
      cases (ops[q.1]?).bind (·.dst) with
      | none => rfl
      | some t => simp only [henv]
  have hdat : opData T (st.app none ea) ⟨bdst, bop, bty, bpos, bafter, bg⟩ = opData T st ⟨bdst, bop, bty, bpos, bafter, bg⟩ := by
    unfold opData
    split
    · rw [henv]
    · congr 1
      funext x
      cases x <;> simp only [henv]
  show (stepOp T call md ops ⟨bdst, bop, bty, bpos, bafter, bg⟩ (st.app none ea) = some eb ∧ opData T (st.app none ea) ⟨bdst, bop, bty, bpos, bafter, bg⟩ = xb) ↔ _
  rw [hdat]
  refine and_congr_left fun hxb => ?_
  have hop : (opEff T call md ⟨bdst, bop, bty, bpos, bafter, bg⟩ (st.app none ea) = some eb ↔ opEff T call md ⟨bdst, bop, bty, bpos, bafter, bg⟩ st = some eb) → (stepOp T call md ops ⟨bdst, bop, bty, bpos, bafter, bg⟩ (st.app none ea) = some eb ↔ stepOp T call md ops ⟨bdst, bop, bty, bpos, bafter, bg⟩ st = some eb) := by
    intro hi
    unfold stepOp
    rw [hgd]
    cases guardOf st ops ⟨bdst, bop, bty, bpos, bafter, bg⟩ with
    | none => exact Iff.rfl
    | some g =>
      simp only [Option.bind_some]
      cases g with
      | false => exact Iff.rfl
      | true => simpa using hi
  apply hop
  clear hop
  unfold stepOp at ha
  simp only [Option.bind_eq_some_iff] at ha
  obtain ⟨g, hgg, ha⟩ := ha
  cases g with
  | false =>
    simp only [Bool.false_eq_true, if_false, Option.some.injEq] at ha
    subst ha
    have : st.app none (pureE (.tup [])) = st := rfl
    rw [this]
  | true =>
    simp only [if_true] at ha
    cases aop <;> (try simp only at h) <;> (try (cases h; done))
    rename_i sty sa sx
    cases sa <;> (try simp only at h) <;> (try (cases h; done))
    rename_i ta
    cases xa with
    | nil => simp at h
    | cons pa xa =>
      cases pa <;> (try simp only at h) <;> (try (cases h; done))
      rename_i r q
      have hpa : st.env ta = .ptr r q := by
        rw [opData_old rfl] at hxa
        simp only [Op.operands, List.filterMap_cons] at hxa
        exact (List.cons.inj hxa).1
      simp only [opEff, plainEff, St.ev, Option.bind_some, hpa, Option.bind_eq_some_iff] at ha
      obtain ⟨x, _, ha⟩ := ha
      obtain ⟨root, old, c', hr, hg, hp, hs, rfl⟩ := store_scalar ha hk
      have hr' : (st.app none ⟨.undef, [(r, some { root with c := c' })], []⟩).rs r = some { root with c := c' } := by
        simp only [app_rs, updAll, upd, if_true]
      cases bop <;> (try simp only at h) <;> (try (cases h; done))
      case load lty la =>
        cases la <;> (try simp only at h) <;> (try (cases h; done))
        rename_i tb
        rw [opData_one rfl rfl] at hxb
        subst hxb
        cases heq : st.env tb <;> rw [heq] at h <;> (try simp only at h) <;> (try (cases h; done))
        rename_i r0 p0
        simp only [Bool.and_eq_true, decide_eq_true_eq] at h
        obtain ⟨rfl, h1, h2⟩ := h
        obtain ⟨d, d', e1, e2, e3⟩ := put_around _ _ h1 hp hg hs
        simp only [opEff, plainEff, St.ev, Option.bind_some, henv, heq, loadEff, hr, hr', e1, e2, Option.map_some]
        rcases e3 with ⟨xs, xs', rfl, rfl, _, _⟩ | ⟨te, e, xs, xs', rfl, rfl, hlen⟩
        · simp only [D.expose]
          constructor
          all_goals
            intro hc
            obtain rfl := ite_some hc
            simp [pureE, isSlc] at h2
        · simp only [D.expose, hlen]; exact Iff.rfl
      case fieldAddr fs fa ff =>
        cases fa <;> (try simp only at h) <;> (try (cases h; done))
        rename_i tb
        rw [opData_one rfl rfl] at hxb
        subst hxb
        cases heq : st.env tb <;> rw [heq] at h <;> (try simp only at h) <;> (try (cases h; done))
        rename_i r0 p0
        simp only [Bool.and_eq_true, decide_eq_true_eq] at h
        obtain ⟨rfl, h1⟩ := h
        obtain ⟨d, d', e1, e2, e3⟩ := put_around _ _ h1 hp hg hs
        simp only [opEff, plainEff, St.ev, Option.bind_some, henv, heq, fieldAddrEff, hr, hr', e1, e2]
        rcases e3 with ⟨xs, xs', rfl, rfl, e4, e5⟩ | ⟨te, e, xs, xs', rfl, rfl, hlen⟩
        · simp only [e4, e5]
        · exact Iff.rfl
/-- A step that stores nothing and one that kills nothing. -/
theorem app_quiet {a b : Oper} {ea eb : Eff} (h1 : eb.upd = []) (h2 : eb.kill = []) (h3 : ea.kill = []) (hne : ∀ d, a.dst = some d → b.dst ≠ some d) : (st.app a.dst ea).app b.dst eb = (st.app b.dst eb).app a.dst ea := by
  have henv : ((st.app a.dst ea).app b.dst eb).env = ((st.app b.dst eb).app a.dst ea).env := by
    funext t
    by_cases hb : b.dst = some t
    · have ha : a.dst ≠ some t := fun e => hne t e hb
      rw [app_env _ _ _ _ ha, hb, app_self, app_self, h3]
      exact (Kr.on_none _).symm
    · rw [app_env _ _ _ _ hb]
      by_cases ha : a.dst = some t
      · rw [ha, app_self, app_self, h2]
        exact Kr.on_none _
      · rw [app_env _ _ _ _ ha, app_env _ _ _ _ ha, app_env _ _ _ _ hb, on_comm]
  have hrs : ((st.app a.dst ea).app b.dst eb).rs = ((st.app b.dst eb).app a.dst ea).rs := by simp only [app_rs, h1, updAll]
  generalize (st.app a.dst ea).app b.dst eb = s1 at *
  generalize (st.app b.dst eb).app a.dst ea = s2 at *
  cases s1; cases s2
  simp only at henv hrs
  rw [henv, hrs]

/-! ### A row is made, of parts that are frozen; what lies around them looks the same -/
theorem Like.trans {a b c : D} (h : Like a b) (k : Like b c) : Like a c := by
  rcases h with ⟨xs, ys, rfl, rfl, h1, h2⟩ | ⟨te, e, xs, ys, rfl, rfl, h1⟩
  · rcases k with ⟨xs', zs, h3, rfl, h4, h5⟩ | ⟨_, _, _, _, h3, _⟩
    · injection h3 with h3; subst h3
      exact .inl ⟨xs, zs, rfl, rfl, h4.trans h1, fun f => (h5 f).trans (h2 f)⟩
    · cases h3
  · rcases k with ⟨_, _, h3, _⟩ | ⟨te', e', xs', zs, h3, rfl, h4⟩
    · cases h3
    · injection h3 with _ h3 h5 h6; subst h3 h5 h6
      exact .inr ⟨te, e, xs, zs, rfl, rfl, h4.trans h1⟩
def Kin (d d' : D) : Prop := d' = d ∨ Like d d'
theorem Kin.trans {a b c : D} (h : Kin a b) (k : Kin b c) : Kin a c := by
  rcases h with rfl | h
  · exact k
  · rcases k with rfl | k
    · exact .inr h
    · exact .inr (h.trans k)
def Spare (r : Rid) (p : List Stp) (k : Kill) : Prop := k.r ≠ r ∨ (k.all = false ∧ k.at_ = false ∧ pre p k.p = true)
def Kept (r : Rid) (p : List Stp) (rs rs' : Rid → Option Root) : Prop := ∀ root d, rs r = some root → D.get root.c p = some d → ∃ root' d', rs' r = some root' ∧ D.get root'.c p = some d' ∧ Kin d d'
theorem Kept.refl {r : Rid} {p : List Stp} {rs : Rid → Option Root} : Kept r p rs rs := fun root d h1 h2 => ⟨root, d, h1, h2, .inl rfl⟩
theorem Kept.trans {r : Rid} {p : List Stp} {a b c : Rid → Option Root} (h : Kept r p a b) (k : Kept r p b c) : Kept r p a c := by
  intro root d h1 h2
  obtain ⟨r1, d1, e1, e2, e3⟩ := h root d h1 h2
  obtain ⟨r2, d2, f1, f2, f3⟩ := k r1 d1 e1 e2
  exact ⟨r2, d2, f1, f2, e3.trans f3⟩
theorem kept_one {r r' : Rid} {p : List Stp} {rs : Rid → Option Root} {x : Option Root} (h : r' ≠ r) : Kept r p rs (updAll [(r', x)] rs) := by
  intro root d h1 h2
  refine ⟨root, d, ?_, h2, .inl rfl⟩
  simp only [updAll, upd]
  rw [if_neg (Ne.symm h)]; exact h1
theorem kept_put {r : Rid} {p q : List Stp} {rs : Rid → Option Root} {root : Root} {c' y old : D} (hr : rs r = some root) (hp : pre p q = true) (h1 : D.put root.c q y = some c') (h2 : D.get root.c q = some old) (h3 : D.size old = D.size y) : Kept r p rs (updAll [(r, some { root with c := c' })] rs) := by
  intro root' d h4 h5
  obtain rfl := Option.some.inj (hr.symm.trans h4)
  obtain ⟨d1, d2, e1, e2, e3⟩ := put_around p q hp h1 h2 h3
  obtain rfl := Option.some.inj (h5.symm.trans e1)
  exact ⟨{ root with c := c' }, d2, by simp [updAll, upd], e2, .inr e3⟩
theorem updAll_app : ∀ (us vs : List (Rid × Option Root)) (rs : Rid → Option Root), updAll (us ++ vs) rs = updAll vs (updAll us rs)
  | [], vs, rs => rfl
  | (r, x) :: us, vs, rs => by simp only [List.cons_append, updAll]; exact updAll_app us vs _
mutual
theorem take_kept {mv : Nat → Bool} {r : Rid} {p : List Stp} : ∀ (d : D) {rs : Rid → Option Root} {k : Taken}, take mv rs d = some k → (∀ x ∈ k.kill, Spare r p x) → Kept r p rs (updAll k.upd rs)
  | .slc r' q off len, rs, k, h, hk => by
    simp only [take, Option.bind_eq_some_iff] at h
    obtain ⟨root, hr, x, hx, h⟩ := h
    split at h
    · rename_i own te e xs
      split at h
      · split at h
        · split at h
          · obtain rfl := Option.some.inj h
            have := hk _ (List.mem_singleton.2 rfl)
            rcases this with h1 | h1
            · exact kept_one h1
            · cases h1.1
          · split at h
            · simp only [Option.map_eq_some_iff] at h
              obtain ⟨c', _, rfl⟩ := h
              have := hk _ (List.mem_singleton.2 rfl)
              rcases this with h1 | h1
              · exact kept_one h1
              · cases h1.2.1
            · simp only [Option.map_eq_some_iff] at h
              obtain ⟨c', hc, rfl⟩ := h
              rename_i ho _ _
              subst ho
              have := hk _ (List.mem_singleton.2 rfl)
              by_cases he : r' = r
              · subst he
                rcases this with h1 | h1
                · exact absurd rfl h1
                · exact kept_put hr h1.2.2 hc hx rfl
              · exact kept_one he
        · obtain rfl := Option.some.inj h
          exact Kept.refl
      · cases h
    · cases h
  | .agg xs, rs, k, h, hk => by
    simp only [take, Option.map_eq_some_iff] at h
    obtain ⟨x, hx, rfl⟩ := h
    exact takeL_kept xs hx hk
  | .int _ _, rs, k, h, hk => by simp only [take] at h; obtain rfl := Option.some.inj h; exact Kept.refl
  | .bool _, rs, k, h, hk => by simp only [take] at h; obtain rfl := Option.some.inj h; exact Kept.refl
  | .str _, rs, k, h, hk => by simp only [take] at h; obtain rfl := Option.some.inj h; exact Kept.refl
  | .lst _ _ _ _, rs, k, h, hk => by simp only [take] at h; obtain rfl := Option.some.inj h; exact Kept.refl
  | .ifc _, rs, k, h, hk => by simp only [take] at h; obtain rfl := Option.some.inj h; exact Kept.refl
  | .ptr _ _, rs, k, h, hk => by simp only [take] at h; cases h
  | .tup _, rs, k, h, hk => by simp only [take] at h; cases h
  | .fn _ _, rs, k, h, hk => by simp only [take] at h; cases h
  | .pto _, rs, k, h, hk => by simp only [take] at h; cases h
  | .undef, rs, k, h, hk => by simp only [take] at h; cases h
theorem takeL_kept {mv : Nat → Bool} {r : Rid} {p : List Stp} : ∀ (xs : List D) {rs : Rid → Option Root} {k : List D × List (Rid × Option Root) × List Kill}, takeL mv rs xs = some k → (∀ x ∈ k.2.2, Spare r p x) → Kept r p rs (updAll k.2.1 rs)
  | [], rs, k, h, hk => by simp only [takeL] at h; obtain rfl := Option.some.inj h; exact Kept.refl
  | x :: xs, rs, k, h, hk => by
    simp only [takeL, Option.bind_eq_some_iff, Option.map_eq_some_iff] at h
    obtain ⟨t, ht, s, hs, rfl⟩ := h
    simp only [updAll_app]
    exact (take_kept x ht fun y hy => hk y (List.mem_append_left _ hy)).trans (takeL_kept xs hs fun y hy => hk y (List.mem_append_right _ hy))
end
theorem fill_kept {r : Rid} {p : List Stp} : ∀ (l : List (Nat × Operand)) {xs : List D} {us : List (Rid × Option Root)} {ks : List Kill} {y : List D × List (Rid × Option Root) × List Kill}, fillL T st xs us ks l = some y → (∀ x ∈ y.2.2, Spare r p x) → Kept r p st.rs (updAll us st.rs) → Kept r p st.rs (updAll y.2.1 st.rs)
  | [], xs, us, ks, y, h, hk, h0 => by simp only [fillL] at h; obtain rfl := Option.some.inj h; exact h0
  | (i, x) :: l, xs, us, ks, y, h, hk, h0 => by
    simp only [fillL, Option.bind_eq_some_iff] at h
    obtain ⟨old, _, d, _, k, hkk, h⟩ := h
    split at h
    · have hsub : ∀ x ∈ k.kill, x ∈ y.2.2 := by
        have key : ∀ (l : List (Nat × Operand)) {xs : List D} {us : List (Rid × Option Root)} {ks : List Kill} {y : List D × List (Rid × Option Root) × List Kill}, fillL T st xs us ks l = some y → ∀ x ∈ ks, x ∈ y.2.2 := by
          intro l
          induction l with
          | nil => intro xs us ks y h x hx; simp only [fillL] at h; obtain rfl := Option.some.inj h; exact hx
          | cons q l ih =>
            obtain ⟨i, z⟩ := q
            intro xs us ks y h x hx
            simp only [fillL, Option.bind_eq_some_iff] at h
            obtain ⟨old, _, d, _, k, _, h⟩ := h
            split at h
            · exact ih h x (List.mem_append_left _ hx)
            · cases h
        exact fun x hx => key l h x (List.mem_append_right _ hx)
      refine fill_kept l h hk ?_
      rw [updAll_app]
      exact h0.trans (take_kept d hkk fun x hx => hk x (hsub x hx))
    · cases h
theorem pre_len : ∀ {p q : List Stp}, pre p q = true → p.length < q.length
  | [], [], h => by simp [pre] at h
  | [], _ :: _, _ => by simp
  | _ :: _, [], h => by simp [pre] at h
  | s :: p, t :: q, h => by
    simp only [pre, Bool.and_eq_true] at h
    have := pre_len h.2
    simp; omega
theorem meets_len : ∀ {p q : List Stp}, meets p q = true → p.length ≤ q.length
  | [], _, _ => by simp
  | _ :: _, [], h => by simp [meets] at h
  | .elm _ :: p, .elm _ :: q, h => by simp only [meets] at h; have := meets_len h; simp; omega
  | .fld i :: p, .fld j :: q, h => by simp only [meets, Bool.and_eq_true] at h; have := meets_len h.2; simp; omega
  | .elm _ :: _, .fld _ :: _, h => by simp [meets] at h
  | .fld _ :: _, .elm _ :: _, h => by simp [meets] at h
theorem spare_ptr {ks : List Kill} {r : Rid} {p q : List Stp} (h : ∀ k ∈ ks, Spare r p k) (hq : q.length ≤ p.length + 1) : (krs ks).on (.ptr r q) = .ptr r q := by
  have : (krs ks).ptr r q = false := krs_ptr_false fun k hk => by
    simp only [Kill.kr, decide_eq_false_iff_not, not_and]
    intro e
    rcases h k hk with h1 | ⟨h1, h2, h3⟩
    · exact absurd e.symm h1
    · rw [h1]
      simp only [Bool.false_eq_true, false_or, not_and, ne_eq, Decidable.not_not]
      intro hm
      have := pre_len h3
      have := meets_len hm
      omega
  simp only [Kr.on, this, Bool.false_eq_true, if_false]
theorem spare_slc {ks : List Kill} {r : Rid} {p : List Stp} {off len : Nat} (h : ∀ k ∈ ks, Spare r p k) : (krs ks).on (.slc r p off len) = .slc r p off len := by
  have : (krs ks).slc r p = false := krs_slc_false fun k hk => by
    simp only [Kill.kr, decide_eq_false_iff_not, not_and]
    intro e
    rcases h k hk with h1 | ⟨h1, h2, h3⟩
    · exact absurd e.symm h1
    · rw [h1]
      simp only [Bool.false_eq_true, false_or, not_and]
      intro hm
      have := pre_len h3
      have := meets_len hm
      omega
  simp only [Kr.on, this, Bool.false_eq_true, if_false]
theorem Kin.expose {r : Rid} {p : List Stp} {d d' : D} (h : Kin d d') {r' : Rid} {p' : List Stp} {off len : Nat} (hd : D.expose r p d = .slc r' p' off len) : D.expose r p d' = .slc r' p' off len := by
  rcases h with rfl | h
  · exact hd
  · rcases h with ⟨xs, ys, rfl, rfl, _, _⟩ | ⟨te, e, xs, ys, rfl, rfl, h1⟩
    · simp [D.expose] at hd
    · simp only [D.expose] at hd ⊢
      rw [h1]; exact hd
theorem aside_sees {a b : Oper} {ea eb : Eff} {xa xb : List D} (ha : stepOp T call md ops a st = some ea) (hxa : opData T st a = xa) (hb : stepOp T call md ops b st = some eb) (h : aside ⟨a, xa, ea⟩ ⟨b, xb, eb⟩ = true) (hap : ∀ t, b.dst = some t → t ∉ a.looksAt ops) :
    stepOp T call md ops a (st.app b.dst eb) = some ea ∧ opData T (st.app b.dst eb) a = xa ∧ (krs eb.kill).on ea.val = ea.val := by
  simp only [aside, Bool.and_eq_true] at h
  obtain ⟨⟨hq, hbs⟩, h⟩ := h
  obtain ⟨adst, aop, aty, apos, aafter, ag⟩ := a
  obtain ⟨bdst, bop, bty, bpos, bafter, bg⟩ := b
  cases bop <;> (try simp only at hbs) <;> (try (cases hbs; done))
  rename_i sty slen parts
  cases xa with
  | nil => simp at h
  | cons x0 xa' =>
    cases xa' with
    | cons _ _ => simp at h
    | nil =>
    cases x0 <;> (try simp only at h) <;> (try (cases h; done))
    rename_i r p
    simp only [Bool.and_eq_true, List.all_eq_true, Bool.or_eq_true, decide_eq_true_eq, Bool.not_eq_true'] at h
    obtain ⟨hkill, h⟩ := h
    have hsp : ∀ k ∈ eb.kill, Spare r p k := fun k hk => by
      rcases hkill k hk with h1 | h1
      · exact .inl h1
      · exact .inr ⟨h1.1.1, h1.1.2, h1.2⟩
    -- the roots behind b
    have hkept : Kept r p st.rs (updAll eb.upd st.rs) := by
      unfold stepOp at hb
      simp only [Option.bind_eq_some_iff] at hb
      obtain ⟨g, _, hb⟩ := hb
      cases g with
      | false =>
        simp only [Bool.false_eq_true, if_false, Option.some.injEq] at hb
        subst hb
        exact Kept.refl
      | true =>
        simp only [if_true, opEff, plainEff] at hb
        split at hb
        · simp only [Option.bind_eq_some_iff] at hb
          obtain ⟨z, _, hb⟩ := hb
          split at hb
          · simp only [Option.map_eq_some_iff] at hb
            obtain ⟨y, hy, rfl⟩ := hb
            have h1 := fill_kept parts.toList hy (fun x hx => hsp x (List.mem_append_left _ hx)) Kept.refl
            have h2 := hsp _ (List.mem_append_right _ (List.mem_singleton.2 rfl))
            rw [updAll_app]
            refine h1.trans (kept_one ?_)
            rcases h2 with h2 | h2
            · exact h2
            · cases h2.1
          · cases hb
        · cases hb
    have hdst : ∀ t, Operand.tmp t ∈ aop.operands.toList → st.env t = .ptr r p → (st.app bdst eb).env t = .ptr r p := by
      intro t ht he
      have hne : bdst ≠ some t := fun e => hap t e (looks_operand ht)
      rw [app_env st bdst eb t hne, he]
      exact spare_ptr hsp (by omega)
    unfold stepOp at ha
    simp only [Option.bind_eq_some_iff] at ha
    obtain ⟨g, hg, ha⟩ := ha
    have hg' := guard_behind (eb := eb) hap hg
    cases aop <;> (try simp only at h) <;> (try (cases h; done))
    case fieldAddr fs fa ff =>
      cases fa <;> (try simp only at h) <;> (try (cases h; done))
      rename_i t
      rw [opData_one rfl rfl] at hxa
      have he : st.env t = .ptr r p := (List.cons.inj hxa).1
      have he' := hdst t (by simp [Op.operands]) he
      have hxa' : opData T (st.app bdst eb) ⟨adst, .fieldAddr fs (.tmp t) ff, aty, apos, aafter, ag⟩ = [.ptr r p] := by rw [opData_one rfl rfl, he']
      cases g with
      | false =>
        simp only [Bool.false_eq_true, if_false, Option.some.injEq] at ha
        subst ha
        refine ⟨by unfold stepOp; simp only [hg', Option.bind_some, Bool.false_eq_true, if_false], hxa', by simp [pureE, Kr.on, Kr.onL]⟩
      | true =>
        simp only [if_true, opEff, plainEff, St.ev, Option.bind_some, he, fieldAddrEff, Option.map_eq_some_iff, Option.bind_eq_some_iff] at ha
        obtain ⟨v, ⟨root, hr, d, hd, hv⟩, rfl⟩ := ha
        split at hv
        · rename_i xs
          split at hv
          · rename_i hc
            obtain rfl := Option.some.inj hv
            obtain ⟨root', d', k1, k2, k3⟩ := hkept root _ hr hd
            refine ⟨?_, hxa', spare_ptr hsp (by simp)⟩
            unfold stepOp
            simp only [hg', Option.bind_some, if_true, opEff, plainEff, St.ev, he', fieldAddrEff, app_rs, k1, k2]
            rcases k3 with rfl | ⟨xs1, ys, h1, rfl, h2, h3⟩ | ⟨_, _, _, _, h1, _⟩
            · simp [hc]
            · injection h1 with h1; subst h1
              simp [h2, h3, hc]
            · cases h1
          · cases hv
        · cases hv
    case load lty la =>
      cases la <;> (try simp only at h) <;> (try (cases h; done))
      rename_i t
      rw [opData_one rfl rfl] at hxa
      have he : st.env t = .ptr r p := (List.cons.inj hxa).1
      have he' := hdst t (by simp [Op.operands]) he
      have hxa' : opData T (st.app bdst eb) ⟨adst, .load lty (.tmp t), aty, apos, aafter, ag⟩ = [.ptr r p] := by rw [opData_one rfl rfl, he']
      cases g with
      | false =>
        simp only [Bool.false_eq_true, if_false, Option.some.injEq] at ha
        subst ha
        simp [pureE] at h
      | true =>
        simp only [if_true, opEff, plainEff, St.ev, Option.bind_some, he, loadEff, Option.bind_eq_some_iff, Option.map_eq_some_iff] at ha
        obtain ⟨v, ⟨root, hr, d, hd, hv⟩, ha⟩ := ha
        split at ha
        · rename_i hfit
          obtain rfl := Option.some.inj ha
          cases v <;> simp only [pureE] at h <;> (try (cases h; done))
          rename_i r' p' off len
          simp only [decide_eq_true_eq] at h
          obtain ⟨rfl, rfl⟩ := h
          obtain ⟨root', d', k1, k2, k3⟩ := hkept root _ hr hd
          have hv' := k3.expose hv
          refine ⟨?_, hxa', spare_slc hsp⟩
          unfold stepOp
          simp only [hg', Option.bind_some, if_true, opEff, plainEff, St.ev, he', loadEff, app_rs, k1, k2, Option.map_some, hv', hfit]
        · cases ha
/-- A step that stores and kills nothing, whose datum the other one spares. -/
theorem app_spared {a b : Oper} {ea eb : Eff} (h1 : ea.upd = []) (h2 : ea.kill = []) (h3 : (krs eb.kill).on ea.val = ea.val) (hne : ∀ d, a.dst = some d → b.dst ≠ some d) : (st.app a.dst ea).app b.dst eb = (st.app b.dst eb).app a.dst ea := by
  have henv : ((st.app a.dst ea).app b.dst eb).env = ((st.app b.dst eb).app a.dst ea).env := by
    funext t
    by_cases hb : b.dst = some t
    · have ha : a.dst ≠ some t := fun e => hne t e hb
      rw [app_env _ _ _ _ ha, hb, app_self, app_self, h2]
      exact (Kr.on_none _).symm
    · rw [app_env _ _ _ _ hb]
      by_cases ha : a.dst = some t
      · rw [ha, app_self, app_self]
        exact h3
      · rw [app_env _ _ _ _ ha, app_env _ _ _ _ ha, app_env _ _ _ _ hb, on_comm]
  have hrs : ((st.app a.dst ea).app b.dst eb).rs = ((st.app b.dst eb).app a.dst ea).rs := by simp only [app_rs, h1, updAll]
  generalize (st.app a.dst ea).app b.dst eb = s1 at *
  generalize (st.app b.dst eb).app a.dst ea = s2 at *
  cases s1; cases s2
  simp only at henv hrs
  rw [henv, hrs]

/-- Two steps change places. -/
theorem step_swap {a b : Oper} {ea eb : Eff} {xa xb : List D} (ha : stepOp T call md ops a st = some ea) (hxa : opData T st a = xa) (hb : stepOp T call md ops b (st.app a.dst ea) = some eb) (hxb : opData T (st.app a.dst ea) b = xb)
    (hind : indep ⟨a, xa, ea⟩ ⟨b, xb, eb⟩ = true) (hap : a.apart ops b = true) :
    stepOp T call md ops b st = some eb ∧ opData T st b = xb ∧ stepOp T call md ops a (st.app b.dst eb) = some ea ∧ opData T (st.app b.dst eb) a = xa ∧ (st.app a.dst ea).app b.dst eb = (st.app b.dst eb).app a.dst ea := by
  obtain ⟨p1, p2, p3⟩ := Oper.apart_spec hap
  have front : Leaves ⟨a, xa, ea⟩ ⟨b, xb, eb⟩ → stepOp T call md ops b st = some eb ∧ opData T st b = xb := by
    intro h1
    obtain ⟨b1, b2⟩ := both_before (call := call) (md := md) h1 p1 hxb
    refine ⟨?_, b2⟩
    unfold stepOp at hb ⊢
    simp only [Option.bind_eq_some_iff] at hb ⊢
    obtain ⟨g, hg, hb⟩ := hb
    refine ⟨g, guard_before p1 hg, ?_⟩
    rw [← b1]
    exact hb
  have back : Leaves ⟨b, xb, eb⟩ ⟨a, xa, ea⟩ → stepOp T call md ops a (st.app b.dst eb) = some ea ∧ opData T (st.app b.dst eb) a = xa := by
    intro h2
    obtain ⟨a1, a2⟩ := both_behind (call := call) (md := md) h2 p3 hxa
    refine ⟨?_, a2⟩
    unfold stepOp at ha ⊢
    simp only [Option.bind_eq_some_iff] at ha ⊢
    obtain ⟨g, hg, ha⟩ := ha
    refine ⟨g, guard_behind p3 hg, ?_⟩
    rw [a1]
    exact ha
  simp only [indep] at hind
  rw [Bool.or_eq_true] at hind
  rcases hind with hind | hind
  · obtain ⟨h1, h2⟩ := indep_leaves hind
    obtain ⟨b1, b2⟩ := front h1
    obtain ⟨a1, a2⟩ := back h2
    exact ⟨b1, b2, a1, a2, app_comm h1 h2 p2⟩
  · rw [Bool.or_eq_true, Bool.or_eq_true] at hind
    rcases hind with (h | h) | h
    · have hq : (⟨b, xb, eb⟩ : Tr).quiet = true ∧ ea.kill = [] := by
        simp only [around, Bool.and_eq_true, List.isEmpty_iff] at h
        exact ⟨h.1.1.2, h.1.1.1⟩
      obtain ⟨b1, b2⟩ := (around_sees ha hxa h (.inr hap)).1 ⟨hb, hxb⟩
      obtain ⟨a1, a2⟩ := back (quiet_leaves hq.1)
      have hq1 := hq.1
      simp only [Tr.quiet, Bool.and_eq_true, List.isEmpty_iff] at hq1
      exact ⟨b1, b2, a1, a2, app_quiet hq1.1 hq1.2 hq.2 p2⟩
    · have hq : (⟨a, xa, ea⟩ : Tr).quiet = true ∧ eb.kill = [] := by
        simp only [around, Bool.and_eq_true, List.isEmpty_iff] at h
        exact ⟨h.1.1.2, h.1.1.1⟩
      have hq1 := hq.1
      simp only [Tr.quiet, Bool.and_eq_true, List.isEmpty_iff] at hq1
      obtain ⟨b1, b2⟩ := front (quiet_leaves hq.1)
      obtain ⟨a1, a2⟩ := (around_sees b1 b2 h (.inl hap)).2 ⟨ha, hxa⟩
      exact ⟨b1, b2, a1, a2, (app_quiet (a := b) (b := a) hq1.1 hq1.2 hq.2 fun d h1 h2 => p2 d h2 h1).symm⟩
    · have hq : (⟨a, xa, ea⟩ : Tr).quiet = true := by
        simp only [aside, Bool.and_eq_true] at h
        exact h.1.1
      have hq1 := hq
      simp only [Tr.quiet, Bool.and_eq_true, List.isEmpty_iff] at hq1
      obtain ⟨b1, b2⟩ := front (quiet_leaves hq)
      obtain ⟨a1, a2, a3⟩ := aside_sees (xb := xb) ha hxa b1 h p3
      exact ⟨b1, b2, a1, a2, app_spared hq1.1 hq1.2 a3 p2⟩

end
end Go.Lft

/- Regions that draw: any order. -/
namespace Go.Lft

section
variable {T : Tb} {call : CallF} {md : Nat → List Nat} {ops : Array Oper}

/-- A list of a region's operations, run with these traces. -/
def RunsBy (T : Tb) (call : CallF) (md : Nat → List Nat) (ops : Array Oper) (tr : Nat → Tr) : List Nat → St → St → Prop
  | [], st, st' => st = st'
  | i :: l, st, st' => ∃ o, ops[i]? = some o ∧ (tr i).o = o ∧ stepOp T call md ops o st = some (tr i).e ∧ opData T st o = (tr i).xs ∧ RunsBy T call md ops tr l (st.app o.dst (tr i).e) st'

theorem runsBy_swap {tr : Nat → Tr} {i j : Nat} {l : List Nat} {st st' : St} (h : RunsBy T call md ops tr (i :: j :: l) st st') (hind : indep (tr i) (tr j) = true) (hap : ∀ a b, ops[i]? = some a → ops[j]? = some b → a.apart ops b = true) : RunsBy T call md ops tr (j :: i :: l) st st' := by
  obtain ⟨a, ha, ea, h1, h2, b, hb, eb, h3, h4, h5⟩ := h
  have hi : tr i = ⟨a, (tr i).xs, (tr i).e⟩ := by rw [← ea]
  have hj : tr j = ⟨b, (tr j).xs, (tr j).e⟩ := by rw [← eb]
  rw [hi, hj] at hind
  obtain ⟨k1, k2, k3, k4, k5⟩ := step_swap h1 h2 h3 h4 hind (hap a b ha hb)
  exact ⟨b, hb, eb, k1, k2, a, ha, ea, k3, k4, by rw [← k5]; exact h5⟩

theorem runsBy_front {tr : Nat → Tr} {j : Nat} : ∀ {A : List Nat} {l : List Nat} {st st' : St}, RunsBy T call md ops tr (A ++ j :: l) st st' → (∀ i ∈ A, indep (tr i) (tr j) = true ∧ ∀ a b, ops[i]? = some a → ops[j]? = some b → a.apart ops b = true) → RunsBy T call md ops tr (j :: (A ++ l)) st st'
  | [], l, st, st', h, hA => h
  | i :: A, l, st, st', h, hA => by
    obtain ⟨a, ha, ea, h1, h2, h3⟩ := h
    have ih := runsBy_front h3 fun k hk => hA k (List.mem_cons_of_mem _ hk)
    have : RunsBy T call md ops tr (i :: j :: (A ++ l)) st st' := ⟨a, ha, ea, h1, h2, ih⟩
    obtain ⟨h4, h5⟩ := hA i (List.mem_cons_self ..)
    exact runsBy_swap this h4 h5


/-- Where a bit of 'before' comes of. -/
theorem bits_fold (acc : Array Nat) (i : Nat) : ∀ (es : List Edge) (s : Nat), (es.foldl (fun s e => if Region.binds .any e then s ||| 2 ^ e.on ||| acc.getD e.on 0 else s) s).testBit i = true →
    s.testBit i = true ∨ ∃ e ∈ es, Region.binds .any e = true ∧ (e.on = i ∨ (acc.getD e.on 0).testBit i = true)
  | [], s, h => .inl h
  | e :: es, s, h => by
    simp only [List.foldl_cons] at h
    rcases bits_fold acc i es _ h with h | ⟨e', he', hb, h⟩
    · split at h
      · rename_i hb
        simp only [Nat.testBit_or, Bool.or_eq_true, Nat.testBit_two_pow, decide_eq_true_eq] at h
        rcases h with (h | h) | h
        · exact .inl h
        · exact .inr ⟨e, List.mem_cons_self .., hb, .inl h⟩
        · exact .inr ⟨e, List.mem_cons_self .., hb, .inr h⟩
      · exact .inl h
    · exact .inr ⟨e', List.mem_cons_of_mem _ he', hb, h⟩


def beforeStep (acc : Array Nat) (o : Oper) : Array Nat := acc.push (o.after.toList.foldl (fun s e => if Region.binds .any e then s ||| 2 ^ e.on ||| acc.getD e.on 0 else s) 0)

theorem before_fold : ∀ (l : List Oper) (acc : Array Nat), (∀ j, j < acc.size → (l.foldl beforeStep acc).getD j 0 = acc.getD j 0) ∧ ∀ (j : Nat) (o : Oper) (i : Nat), l[j]? = some o → ((l.foldl beforeStep acc).getD (acc.size + j) 0).testBit i = true →
    ∃ e ∈ o.after.toList, Region.binds .any e = true ∧ (e.on = i ∨ (e.on < acc.size + j ∧ ((l.foldl beforeStep acc).getD e.on 0).testBit i = true))
  | [], acc => ⟨fun j hj => rfl, fun j o i h => by simp at h⟩
  | o :: l, acc => by
    obtain ⟨h1, h2⟩ := before_fold l (beforeStep acc o)
    have hsz : (beforeStep acc o).size = acc.size + 1 := by simp [beforeStep]
    have hold : ∀ j, j < acc.size → (beforeStep acc o).getD j 0 = acc.getD j 0 := fun j hj => by
      simp only [beforeStep, Array.getD_eq_getD_getElem?, Array.getElem?_push_lt hj, Array.getElem?_eq_getElem hj]
    refine ⟨fun j hj => by rw [List.foldl_cons, h1 j (by omega), hold j hj], fun j o' i hj hb => ?_⟩
    rw [List.foldl_cons] at hb ⊢
    cases j with
    | zero =>
      simp only [List.getElem?_cons_zero, Option.some.injEq] at hj
      subst hj
      rw [Nat.add_zero, h1 acc.size (by omega)] at hb
      have hv : (beforeStep acc o).getD acc.size 0 = o.after.toList.foldl (fun s e => if Region.binds .any e then s ||| 2 ^ e.on ||| acc.getD e.on 0 else s) 0 := by
        simp [beforeStep, Array.getD_eq_getD_getElem?]
      rw [hv] at hb
      rcases bits_fold acc i _ _ hb with h | ⟨e, he, hbd, h⟩
      · simp at h
      · refine ⟨e, he, hbd, h.imp id fun h => ?_⟩
        have hlt : e.on < acc.size := by
          rcases Nat.lt_or_ge e.on acc.size with h' | h'
          · exact h'
          · rw [Array.getD_eq_getD_getElem?, Array.getElem?_eq_none h'] at h; simp at h
        exact ⟨by omega, by rw [h1 e.on (by omega), hold e.on hlt]; exact h⟩
    | succ j =>
      simp only [List.getElem?_cons_succ] at hj
      have := h2 j o' i hj (by rw [hsz, show acc.size + 1 + j = acc.size + (j + 1) by omega]; exact hb)
      rwa [hsz, show acc.size + 1 + j = acc.size + (j + 1) by omega] at this


theorem before_eq (ops : Array Oper) : Region.before ops = ops.toList.foldl beforeStep #[] := by
  unfold Region.before
  rw [← Array.foldl_toList]
  congr 1
  funext acc o
  simp only [beforeStep, ← Array.foldl_toList]

theorem waits_spec {i j : Nat} (h : waitsFor ops i j = true) {o : Oper} (ho : ops[j]? = some o) : ∃ e ∈ o.after.toList, Region.binds .any e = true ∧ (e.on = i ∨ (e.on < j ∧ waitsFor ops i e.on = true)) := by
  unfold waitsFor at h ⊢
  rw [before_eq] at h ⊢
  obtain ⟨e, he, hb, hh⟩ := (before_fold ops.toList #[]).2 j o i (by simpa using ho) (by simpa using h)
  exact ⟨e, he, hb, hh.imp id fun ⟨h1, h2⟩ => ⟨by simpa using h1, h2⟩⟩

end
end Go.Lft

/- Regions that draw are sound. -/
namespace Go.Lft

section
variable {P : Program} {T : Tb} {call : CallF} {md : Nat → List Nat} {ops : Array Oper}

def Closed (ops : Array Oper) (listed : Array Bool) : Prop := ∀ (j : Nat) (o : Oper), listed.getD j false = true → ops[j]? = some o → ∀ e ∈ o.after, Region.binds .any e = true → listed.getD e.on false = true

theorem waits_listed {listed : Array Bool} (hc : Closed ops listed) {i : Nat} : ∀ (j : Nat) {o : Oper}, ops[j]? = some o → (∀ e ∈ o.after, Region.binds .any e = true → listed.getD e.on false = true) → waitsFor ops i j = true → listed.getD i false = true := by
  intro j
  induction j using Nat.strongRecOn with
  | _ j ih =>
    intro o ho he hw
    obtain ⟨e, h1, h2, h3⟩ := waits_spec hw ho
    have hl := he e (Array.mem_toList_iff.1 h1) h2
    rcases h3 with rfl | ⟨hlt, h4⟩
    · exact hl
    · have hsz : j < ops.size := (Array.getElem?_eq_some_iff.1 ho).1
      have ho' : ops[e.on]? = some ops[e.on] := Array.getElem?_eq_getElem (by omega)
      exact ih e.on hlt ho' (fun e' he' hb' => hc e.on _ hl ho' e' he' hb') h4


theorem closed_set {listed : Array Bool} (hc : Closed ops listed) {i : Nat} {o : Oper} (ho : ops[i]? = some o) (hr : ∀ e ∈ o.after, Region.binds .any e = true → listed.getD e.on false = true) : Closed ops (listed.setIfInBounds i true) := by
  intro j o' hj ho' e he hb
  refine getD_set_true ?_
  by_cases hij : i = j
  · subst hij
    rw [ho] at ho'
    obtain rfl := Option.some.inj ho'
    exact hr e he hb
  · rw [getD_set_ne false hij] at hj
    exact hc j o' hj ho' e he hb


theorem getD_self {listed : Array Bool} {i : Nat} (h : i < listed.size) (d : Bool) : (listed.setIfInBounds i true).getD i d = true := by
  simp [Array.getElem?_setIfInBounds_self_of_lt h]

theorem any_ok (hT : TbOk P T) {Z : Zone} (hf : CallsOk P Z.kn call md) {N : Nat} (hd : dstOk N ops = true) {tr : Nat → Tr} {st' : St} {Q : Exit → Act → World → Prop} (hQ : ∀ a' w' gs' Fz', Inv Z gs' Fz' st' a' w' → N ≤ a'.tmps.size → Q .normal a' w')
    (hpair : ∀ i j, i < j → j < ops.size → waitsFor ops i j = true ∨ indep (tr i) (tr j) = true) (hap : ∀ i j, i < j → waitsFor ops i j = true ∨ ∀ a b, ops[i]? = some a → ops[j]? = some b → a.apart ops b = true) (hback : ∀ (j : Nat) (o : Oper), ops[j]? = some o → ∀ e ∈ o.after, Region.binds .any e = true → e.on < j) :
    ∀ (fuel : Nat) {listed : Array Bool} {R : List Nat} {st : St} {a : Act} {w : World} {gs : Rid → Option G} {Fz : Nat → Prop}, listed.size = ops.size → Closed ops listed → (∀ j, j ∈ R ↔ j < ops.size ∧ listed.getD j true = false) → R.Pairwise (· < ·) → R.length ≤ fuel →
      RunsBy T call md ops tr R st st' → Inv Z gs Fz st a w → N ≤ a.tmps.size → wpAny P .any ops Q fuel listed a w := by
  have hnone : ∀ {listed : Array Bool} {R : List Nat}, listed.size = ops.size → (∀ j, j ∈ R ↔ j < ops.size ∧ listed.getD j true = false) → R.Pairwise (· < ·) → R ≠ [] → Region.ready .any ops listed ≠ [] := by
    intro listed R hsz hR hp hne hr
    cases R with
    | nil => exact hne rfl
    | cons i R =>
      rw [List.pairwise_cons] at hp
      obtain ⟨hi, hl⟩ := (hR i).1 (List.mem_cons_self ..)
      have ho : ops[i]? = some ops[i] := Array.getElem?_eq_getElem hi
      have : i ∈ Region.ready .any ops listed := mem_ready.2 ⟨hl, _, ho, fun e he hb => by
        have hlt := hback i _ ho e he hb
        cases hq : listed.getD e.on false with
        | true => rfl
        | false =>
          exfalso
          have hq2 : listed.getD e.on true = false := by
            have : e.on < listed.size := by omega
            simp only [Array.getD_eq_getD_getElem?, Array.getElem?_eq_getElem this, Option.getD_some] at hq ⊢
            exact hq
          have hm := (hR e.on).2 ⟨by omega, hq2⟩
          rcases List.mem_cons.1 hm with h | h
          · omega
          · have := hp.1 _ h; omega⟩
      rw [hr] at this
      cases this
  intro fuel
  induction fuel with
  | zero =>
    intro listed R st a w gs Fz hsz hc hR hp hlen hrun hi hN
    obtain rfl : R = [] := List.eq_nil_of_length_eq_zero (by omega)
    have hst : st = st' := hrun
    subst hst
    refine ⟨?_, hQ a w gs Fz hi hN⟩
    cases hq : Region.ready .any ops listed with
    | nil => rfl
    | cons i l =>
      have : i ∈ Region.ready .any ops listed := by rw [hq]; exact List.mem_cons_self ..
      obtain ⟨h1, o, ho, _⟩ := mem_ready.1 this
      have := (hR i).2 ⟨(Array.getElem?_eq_some_iff.1 ho).1, h1⟩
      cases this
  | succ fuel ih =>
    intro listed R st a w gs Fz hsz hc hR hp hlen hrun hi hN
    refine ⟨fun hr => ?_, fun i hir => ?_⟩
    · cases R with
      | nil => have hst : st = st' := hrun; subst hst; exact hQ a w gs Fz hi hN
      | cons k R => exact absurd hr (hnone hsz hR hp (by simp))
    · obtain ⟨h1, o, ho, h2⟩ := mem_ready.1 hir
      have hio := (Array.getElem?_eq_some_iff.1 ho).1
      obtain ⟨A, B, rfl⟩ := List.append_of_mem ((hR i).2 ⟨hio, h1⟩)
      rw [List.pairwise_append, List.pairwise_cons] at hp
      obtain ⟨pA, ⟨pi, pB⟩, pAB⟩ := hp
      have hnw : ∀ k ∈ A, waitsFor ops k i = false := by
        intro k hk
        cases hw : waitsFor ops k i with
        | false => rfl
        | true =>
          have hl := waits_listed hc i ho h2 hw
          have hu := ((hR k).1 (List.mem_append_left _ hk)).2
          have hks : k < listed.size := by rw [hsz]; exact ((hR k).1 (List.mem_append_left _ hk)).1
          simp only [Array.getD_eq_getD_getElem?, Array.getElem?_eq_getElem hks, Option.getD_some] at hl hu
          rw [hl] at hu; cases hu
      have hfront := runsBy_front hrun fun k hk => by
        have hlt := pAB k hk i (List.mem_cons_self ..)
        have hw := hnw k hk
        exact ⟨(hpair k i hlt hio).resolve_left (by rw [hw]; simp), (hap k i hlt).resolve_left (by rw [hw]; simp)⟩
      obtain ⟨o', ho', _, hs1, hs2, hs3⟩ := hfront
      rw [ho] at ho'
      obtain rfl := Option.some.inj ho'
      have hdo : ∀ t, o.dst = some t → t < a.tmps.size := by
        intro t ht
        unfold dstOk at hd
        have := List.all_eq_true.1 hd o (by rw [Array.mem_toList_iff]; exact Array.mem_of_getElem? ho)
        rw [ht] at this
        exact Nat.lt_of_lt_of_le (of_decide_eq_true this) hN
      refine step_ok hT hf hi ho hdo hs1 fun a' w' gs' Fz' hi' hs => ih (R := A ++ B) (by simp [hsz]) (closed_set hc ho h2) (fun j => ?_) ?_ (by simp at hlen ⊢; omega) hs3 hi' (by rw [hs]; exact hN)
      · by_cases hij : i = j
        · subst hij
          rw [getD_self (by omega)]
          refine ⟨fun hj => ?_, fun h => by simp at h⟩
          exfalso
          rcases List.mem_append.1 hj with hj | hj
          · exact Nat.lt_irrefl _ (pAB i hj i (List.mem_cons_self ..))
          · exact Nat.lt_irrefl _ (pi i hj)
        · rw [getD_set_ne true hij, ← hR j]
          simp only [List.mem_append, List.mem_cons]
          constructor
          · rintro (h | h)
            · exact .inl h
            · exact .inr (.inr h)
          · rintro (h | h | h)
            · exact .inl h
            · exact absurd h.symm hij
            · exact .inr h
      · rw [List.pairwise_append]
        exact ⟨pA, pB, fun x hx y hy => pAB x hx y (List.mem_cons_of_mem _ hy)⟩

end
end Go.Lft

/- Regions that draw are sound: the whole. -/
namespace Go.Lft

section
variable {P : Program} {T : Tb} {call : CallF} {md : Nat → List Nat} {ops : Array Oper}

theorem Inv.drew {Z : Zone} {gs : Rid → Option G} {Fz : Nat → Prop} {st : St} {a : Act} {w : World} (hi : Inv Z gs Fz st a w) : Inv Z gs Fz st a w.drew := by
  refine hi.mem.drew.inv hi.rs (fun t => ?_) hi.defers
  have hl : Lives w w.drew Fz Fz (ptrOk Z gs) (ptrOk Z gs) (slcOk gs) (slcOk gs) Kr.none := lives_hand (fun _ _ => rfl) fun _ h => h
  have := (hi.env t).lives hl (fun g h => ⟨rfl, h⟩)
  rwa [Kr.on_none] at this

theorem trace_len : ∀ {l : List Oper} {st : St} {ts : List Tr}, traceOps T call md ops l st = some ts → ts.length = l.length
  | [], st, ts, h => by simp only [traceOps, Option.some.injEq] at h; subst h; rfl
  | o :: l, st, ts, h => by
    simp only [traceOps, Option.bind_eq_some_iff, Option.map_eq_some_iff] at h
    obtain ⟨e, h1, us, h2, rfl⟩ := h
    simp [trace_len h2]

theorem trace_runs {st' : St} {ts0 : List Tr} : ∀ (n i : Nat) {l : List Oper} {st : St} {ts : List Tr}, l = ops.toList.drop i → l.length = n → ts = ts0.drop i → traceOps T call md ops l st = some ts → runOps T call md ops l st = some st' →
    RunsBy T call md ops (fun i => ts0.getD i ⟨⟨none, .alloc 0, 0, "", #[], none⟩, [], pureE .undef⟩) (List.range' i n) st st'
  | 0, i, l, st, ts, hl, hn, hts, h1, h2 => by
    obtain rfl : l = [] := List.eq_nil_of_length_eq_zero hn
    simp only [runOps, Option.some.injEq] at h2
    exact h2
  | n + 1, i, l, st, ts, hl, hn, hts, h1, h2 => by
    cases l with
    | nil => simp at hn
    | cons o l =>
      simp only [traceOps, Option.bind_eq_some_iff, Option.map_eq_some_iff] at h1
      obtain ⟨e, k1, us, k2, rfl⟩ := h1
      simp only [runOps, k1, Option.bind_some] at h2
      have hio : ops[i]? = some o := by
        have : (ops.toList.drop i)[0]? = some o := by rw [← hl]; rfl
        simpa using this
      have hti : ts0[i]? = some ⟨o, opData T st o, e⟩ := by
        have : (ts0.drop i)[0]? = some ⟨o, opData T st o, e⟩ := by rw [← hts]; rfl
        simpa using this
      have hg : ts0.getD i ⟨⟨none, .alloc 0, 0, "", #[], none⟩, [], pureE .undef⟩ = ⟨o, opData T st o, e⟩ := by rw [List.getD_eq_getElem?_getD, hti]; rfl
      have hl' : l = ops.toList.drop (i + 1) := by
        rw [← List.tail_drop, ← hl]; rfl
      have ht' : us = ts0.drop (i + 1) := by
        rw [← List.tail_drop, ← hts]; rfl
      rw [List.range'_succ]
      refine ⟨o, hio, by simp only [hg], by simp only [hg]; exact k1, by simp only [hg], ?_⟩
      simp only [hg]
      exact trace_runs n (i + 1) hl' (by simpa using hn) ht' k2 h2

theorem pairs_ok {i : Nat} {a : Tr} : ∀ {l : List Tr} {j : Nat}, pairsOk ops i a j l = true → ∀ (k : Nat) (b : Tr), l[k]? = some b → waitsFor ops i (j + k) = true ∨ indep a b = true
  | [], j, h, k, b, hb => by simp at hb
  | c :: l, j, h, k, b, hb => by
    simp only [pairsOk, Bool.and_eq_true, Bool.or_eq_true] at h
    cases k with
    | zero =>
      simp only [List.getElem?_cons_zero, Option.some.injEq] at hb
      subst hb
      exact h.1
    | succ k =>
      simp only [List.getElem?_cons_succ] at hb
      have := pairs_ok h.2 k b hb
      rwa [show j + 1 + k = j + (k + 1) by omega] at this

theorem trOk_pairs : ∀ {ts : List Tr} {i : Nat}, trOk ops i ts = true → ∀ (x y : Nat) (a b : Tr), x < y → ts[x]? = some a → ts[y]? = some b → waitsFor ops (i + x) (i + y) = true ∨ indep a b = true
  | [], i, h, x, y, a, b, hxy, ha, hb => by simp at ha
  | c :: ts, i, h, x, y, a, b, hxy, ha, hb => by
    simp only [trOk, Bool.and_eq_true] at h
    cases y with
    | zero => omega
    | succ y =>
      simp only [List.getElem?_cons_succ] at hb
      cases x with
      | zero =>
        simp only [List.getElem?_cons_zero, Option.some.injEq] at ha
        subst ha
        have := pairs_ok h.1 y b hb
        rwa [show i + 1 + y = i + (y + 1) by omega] at this
      | succ x =>
        simp only [List.getElem?_cons_succ] at ha
        have := trOk_pairs h.2 x y a b (by omega) ha hb
        rwa [show i + 1 + x = i + (x + 1) by omega, show i + 1 + y = i + (y + 1) by omega] at this

theorem draw_ok (hT : TbOk P T) (hP : P.follows .mixedOrders = true) {kn : World → Prop} (hf : CallsOk P kn call md) : DrawOk P kn T call md := by
  intro Z id ops N st st' a w gs Fz Q hkn hd htx h hi hN hQ
  subst hkn
  simp only [runRegion, if_true, Option.bind_eq_some_iff] at h
  obtain ⟨ts, h1, h2⟩ := h
  split at h2
  · rename_i htr
    have hlen := trace_len h1
    simp only [Array.length_toList] at hlen
    have hruns := trace_runs (T := T) (call := call) (md := md) (ops := ops) (ts0 := ts) ops.size 0 (l := ops.toList) (by simp) (by simp) (by simp) h1 h2
    have htext := List.all_eq_true.1 htx
    refine wp_region_any hP ?_
    refine any_ok hT hf hd hQ (fun i j hij hj => ?_) (fun i j hij => ?_) (fun j o ho e he hb => ?_) ops.size (by simp) ?_ (R := List.range' 0 ops.size) (fun j => ?_) ?_ (by simp) hruns hi.drew hN
    · have hi' : ts[i]? = some ts[i] := List.getElem?_eq_getElem (by omega)
      have hj' : ts[j]? = some ts[j] := List.getElem?_eq_getElem (by omega)
      have := trOk_pairs htr i j _ _ hij hi' hj'
      simp only [List.getD_eq_getElem?_getD, hi', hj', Option.getD_some]
      simpa using this
    · rcases Nat.lt_or_ge j ops.size with hj | hj
      · have := htext j (List.mem_range.2 hj)
        have hoj : ops[j]? = some ops[j] := Array.getElem?_eq_getElem hj
        simp only [hoj, Bool.and_eq_true, List.all_eq_true, List.mem_range, Bool.or_eq_true] at this
        rcases this.2 i hij with h | h
        · exact .inl h
        · refine .inr fun a b ha hb => ?_
          rw [ha] at h
          rw [hoj] at hb
          obtain rfl := Option.some.inj hb
          exact h
      · exact .inr fun a b ha hb => by rw [Array.getElem?_eq_none hj] at hb; cases hb
    · have hj := (Array.getElem?_eq_some_iff.1 ho).1
      have := htext j (List.mem_range.2 hj)
      simp only [ho, Bool.and_eq_true, Array.all_eq_true_iff_forall_mem, Bool.or_eq_true, Bool.not_eq_true', decide_eq_true_eq] at this
      rcases this.1.1 e he with h | h
      · rw [hb] at h; cases h
      · exact h
    · intro j o hj
      simp only [Array.getD_eq_getD_getElem?, Array.getElem?_replicate] at hj
      split at hj <;> simp at hj
    · simp only [List.mem_range', Array.getD_eq_getD_getElem?, Array.getElem?_replicate]
      constructor
      · rintro ⟨k, hk, rfl⟩
        simp only [Nat.zero_add, Nat.one_mul]
        exact ⟨hk, by rw [if_pos hk]; rfl⟩
      · rintro ⟨hj, _⟩
        exact ⟨j, hj, by omega⟩
    · exact List.pairwise_lt_range'
  · cases h2

/-- The value-level machine is sound. -/
theorem sound {E : En} (hT : TbOk E.P E.T) (hP : E.P.follows .mixedOrders = true) (hE : ExtOk E) : CallsOk E.P E.kn (lim E) E.md := by
  refine ⟨fun f args res h => ?_, hE.wr⟩
  obtain ⟨k, hk⟩ := lim_iff.1 h
  exact (interp_ok hT hE (fun f k hc => draw_ok (hT.mv (E.mv f)) hP hc) k).fn f args res hk

end
end Go.Lft

/- From the reading of a law's arguments to data, and from what the value-level machine says of a law to the law's contract. -/
namespace Go.Lft
open Go.ChangeShapes Go.WideShapes Go.ChangeAt Go.WideMaps Go.WideElems Go.RowKit

/-- The shape of a type of plain data. -/
inductive Sh where
  | int (k : IntKind)
  | bool
  | str
  | slice (te e : Nat) (s : Sh)
  | strct (ss : List Sh)

mutual
def Sh.fits (P : Program) : Sh → TypeId → Bool
  | .bool, t => match P.underlying t with | some .bool => true | _ => false
  | .int k, t => match P.underlying t with | some (.int k') => decide (k' = k) | _ => false
  | .str, t => match P.underlying t with | some .string => true | _ => false
  | .slice te e s, t => match P.underlying t with | some (.slice te') => decide (te' = te) && decide (P.cellsOf te = e) && decide (0 < e) && Sh.fits P s te | _ => false
  | .strct ss, t => match P.underlying t with | some (.struct fs) => Sh.fitsL P ss fs.toList 0 (P.cellsOf t) | _ => false
def Sh.fitsL (P : Program) : List Sh → List Field → Nat → Nat → Bool
  | [], [], off, n => decide (off = n)
  | s :: ss, f :: fs, off, n => decide (f.offset = off) && Sh.fits P s f.type && Sh.fitsL P ss fs (off + P.cellsOf f.type) n
  | _, _, _, _ => false
end

mutual
/-- Data of this shape, as it is handed in: its slices not one's own. -/
def Sh.has : Sh → D → Prop
  | .bool, .bool _ => True
  | .int k, .int k' n => k' = k ∧ (Lit.int k n).wf = true
  | .str, .str s => s.length ≤ maxLen
  | .slice te e s, .lst o te' e' xs => o = false ∧ te' = te ∧ e' = e ∧ xs.length ≤ maxLen ∧ ∀ x ∈ xs, Sh.has s x
  | .strct ss, .agg xs => Sh.hasL ss xs
  | _, _ => False
def Sh.hasL : List Sh → List D → Prop
  | [], [] => True
  | s :: ss, x :: xs => Sh.has s x ∧ Sh.hasL ss xs
  | _, _ => False
end

theorem list_of_all {α : Type} : ∀ (n : Nat) (p : Nat → α → Prop), (∀ i, i < n → ∃ x, p i x) → ∃ xs : List α, xs.length = n ∧ ∀ i x, xs[i]? = some x → p i x
  | 0, p, _ => ⟨[], rfl, fun i x h => by simp at h⟩
  | n + 1, p, h => by
    obtain ⟨x, hx⟩ := h 0 (by omega)
    obtain ⟨xs, h1, h2⟩ := list_of_all n (fun i x => p (i + 1) x) (fun i hi => h (i + 1) (by omega))
    refine ⟨x :: xs, by simp [h1], fun i y hy => ?_⟩
    cases i with
    | zero => simp at hy; subst hy; exact hx
    | succ i => exact h2 i y (by simpa using hy)

section
variable {H : Type} {enc : TypeId × Value → H} {P : Program} {w : World} {spare : Nat → Bool}

theorem cells_at {a : Addr} {n : Nat} {c : List Value} (h : w.cells? 0 a n = some c) : c.length = n ∧ CellsAt w a c := by
  unfold World.cells? at h
  rw [if_pos (Nat.zero_le _)] at h
  have hl : c.length = n := by simpa using mapM_some_length h
  refine ⟨hl, fun j hj => ?_⟩
  have := mapM_some_get h j j (by rw [List.getElem?_range (by omega)])
  rw [this, List.getElem?_eq_getElem hj]

theorem block_lt {a : Addr} {v : Value} (h : w.cell? a = some v) : a.block < w.heap.size := by
  rcases Nat.lt_or_ge a.block w.heap.size with h' | h'
  · exact h'
  · have : w.heap[a.block]? = none := by simp [h']
    simp [World.cell?, this] at h

mutual
theorem frep_of_trod {Fz : Nat → Prop} (hF : ∀ g, g < w.heap.size → Fz g) : ∀ (s : Sh) (fuel : Nat) (t : TypeId) (cs : List Value) (d : DataW H × List MemPlace), s.fits P t = true → DataW.trod enc P w 0 spare true fuel t cs = some d → ∃ x, s.has x ∧ FRep w Fz cs x
  | .bool, fuel, t, cs, d, hs, h => by
    simp only [Sh.fits] at hs
    split at hs
    · rename_i ht
      obtain ⟨b, rfl, _⟩ := DataW.trod_bool ht h
      exact ⟨.bool b, trivial, by simp only [FRep]⟩
    · cases hs
  | .int k, fuel, t, cs, d, hs, h => by
    simp only [Sh.fits] at hs
    split at hs
    · rename_i ht
      obtain rfl := of_decide_eq_true hs
      obtain ⟨n, rfl, _, hw⟩ := DataW.trod_int ht h
      exact ⟨.int _ n, ⟨rfl, hw⟩, by simp only [FRep]⟩
    · cases hs
  | .str, fuel, t, cs, d, hs, h => by
    simp only [Sh.fits] at hs
    split at hs
    · rename_i ht
      obtain ⟨s, rfl, _, hl⟩ := DataW.trod_string ht h
      exact ⟨.str s.data.toList, by simpa [Sh.has] using hl, by simp only [FRep]⟩
    · cases hs
  | .slice te e s, fuel, t, cs, d, hs, h => by
    simp only [Sh.fits] at hs
    split at hs
    · rename_i te' ht
      simp only [Bool.and_eq_true, decide_eq_true_eq] at hs
      obtain ⟨⟨⟨rfl, rfl⟩, he⟩, hs⟩ := hs
      rcases DataW.trod_slice ht h with ⟨rfl, _⟩ | ⟨a, len, cap, elems, rest, n, rfl, rfl, _, _, hlc, hcm, hel, hget, _⟩
      · exact ⟨.lst false te' (P.cellsOf te') [], ⟨rfl, rfl, rfl, Nat.zero_le _, by simp⟩, by simp only [FRep, List.length_nil]; exact ⟨none, 0, rfl, Nat.le_refl _, by simp only [FItems]⟩⟩
      · obtain ⟨xs, hx1, hx2⟩ := list_of_all len (fun i x => s.has x ∧ ∃ c, c.length = P.cellsOf te' ∧ CellsAt w (a.add (i * P.cellsOf te')) c ∧ FRep w Fz c x) (fun i hi => by
          have hg := hget i hi
          rw [List.getElem?_eq_getElem (by omega)] at hg
          simp only [Option.bind_eq_some_iff] at hg
          obtain ⟨c, hc, htr⟩ := hg
          obtain ⟨x, hx⟩ := frep_of_trod hF s n te' c _ hs htr
          exact ⟨x, hx.1, c, (cells_at hc).1, (cells_at hc).2, hx.2⟩)
        refine ⟨.lst false te' (P.cellsOf te') xs, ⟨rfl, rfl, rfl, by omega, fun x hx => ?_⟩, ?_⟩
        · obtain ⟨i, hi, rfl⟩ := List.mem_iff_getElem.1 hx
          exact (hx2 i _ (List.getElem?_eq_getElem hi)).1
        · simp only [FRep, hx1]
          refine ⟨some a, cap, rfl, hlc, FItems.mk fun j x hx => ?_⟩
          obtain ⟨_, c, h1, h2, h3⟩ := hx2 j x hx
          rw [Nat.zero_add]
          refine ⟨a, c, rfl, hF _ ?_, h1, h2, h3⟩
          have := block_lt (h2 0 (by omega))
          rwa [add_block, add_block] at this
    · cases hs
  | .strct ss, fuel, t, cs, d, hs, h => by
    simp only [Sh.fits] at hs
    split at hs
    · rename_i fs ht
      obtain ⟨xs, n, rfl, _, hl, hx, hget⟩ := DataW.trod_struct ht h
      obtain ⟨ys, h1, h2⟩ := frepL_of_trod hF ss n fs.toList 0 (P.cellsOf t) cs hs hl (fun i (f : Field) hf => by
        have := hget i f (by simpa using hf)
        have hi : i < xs.length := by rw [hx]; have := (List.getElem?_eq_some_iff.1 hf).1; simpa using this
        rw [List.getElem?_eq_getElem hi] at this
        exact ⟨_, this⟩)
      refine ⟨.agg ys, h1, ?_⟩
      simp only [FRep]
      simpa using h2
    · cases hs
theorem frepL_of_trod {Fz : Nat → Prop} (hF : ∀ g, g < w.heap.size → Fz g) : ∀ (ss : List Sh) (n : Nat) (fs : List Field) (off m : Nat) (cs : List Value), Sh.fitsL P ss fs off m = true → cs.length = m →
    (∀ (i : Nat) (f : Field), fs[i]? = some f → ∃ d, DataW.trod enc P w 0 spare true n f.type ((cs.drop f.offset).take (P.cellsOf f.type)) = some d) → ∃ xs, Sh.hasL ss xs ∧ FRepL w Fz (cs.drop off) xs
  | [], n, [], off, m, cs, hs, hl, _ => by
    simp only [Sh.fitsL, decide_eq_true_eq] at hs
    exact ⟨[], trivial, by simp only [FRepL]; exact List.drop_eq_nil_of_le (by omega)⟩
  | s :: ss, n, f :: fs, off, m, cs, hs, hl, hget => by
    simp only [Sh.fitsL, Bool.and_eq_true, decide_eq_true_eq] at hs
    obtain ⟨⟨rfl, hs1⟩, hs2⟩ := hs
    obtain ⟨d, hd⟩ := hget 0 f rfl
    obtain ⟨x, hx⟩ := frep_of_trod hF s n f.type _ d hs1 hd
    obtain ⟨xs, h1, h2⟩ := frepL_of_trod hF ss n fs _ m cs hs2 hl (fun i g hg => hget (i + 1) g hg)
    refine ⟨x :: xs, ⟨hx.1, h1⟩, ?_⟩
    simp only [FRepL]
    exact ⟨_, _, by rw [← List.drop_drop]; exact (List.take_append_drop _ _).symm, hx.2, h2⟩
  | [], _, _ :: _, _, _, _, hs, _, _ => by simp [Sh.fitsL] at hs
  | _ :: _, _, [], _, _, _, hs, _, _ => by simp [Sh.fitsL] at hs
end
end
end Go.Lft

/- The law's contract: what the value-level machine says of a law, said of Go's memory. -/
namespace Go.Lft
open Go.ChangeShapes Go.WideShapes Go.ChangeAt Go.WideMaps Go.WideElems Go.RowKit

/-- All that was there is kept; only new blocks are written. -/
def lawZone (W : World) (kn : World → Prop := fun _ => True) (hk : ∀ W', (∀ g, g < W.heap.size → W'.heap[g]? = W.heap[g]?) → kn W' := by exact fun _ _ => trivial) : Zone := ⟨W, fun g => W.heap.size ≤ g, fun g => g < W.heap.size, fun _ => none, (fun _ _ h => by cases h), fun _ h => h, kn, fun W' h => hk W' fun g hg => h g (Nat.not_le.2 hg)⟩

section
variable {H : Type} {enc : TypeId × Value → H} {P : Program} {W : World}

theorem lawMem {kn : World → Prop} {hk : ∀ W', (∀ g, g < W.heap.size → W'.heap[g]? = W.heap[g]?) → kn W'} : Mem (lawZone W kn hk) (fun _ => none) [] (lawZone W kn hk).Fz0 W where
  ok := fun r x h => by cases h
  ins := fun r x h => by cases h
  nd := fun r x h => by cases h
  row := fun r x h => by cases h
  own := fun r x h => by cases h
  dis := fun r r' x x' h => by cases h
  hok := by simp only [M.OkL]
  hin := by simp only [M.InL]
  hnd := by simp [M.idsL]
  hown := fun g h => by simp [M.idsL] at h
  hdis := fun r x h => by cases h
  fz := fun g h => h
  fz0 := fun g h => h
  fzo := fun g h => .inl h
  keeps := ⟨rfl, rfl, rfl, Nat.le_refl _, fun _ _ => rfl⟩
  lent := fun r x b h => by cases h

/-- Each value tells its datum. -/
def Tells (W : World) : List Value → List D → Prop
  | [], [] => True
  | v :: vs, x :: xs => (∀ pp ps, VV W (lawZone W).Fz0 pp ps v x) ∧ Tells W vs xs
  | _, _ => False

theorem tells_get : ∀ {vs : List Value} {xs : List D}, Tells W vs xs → vs.length = xs.length ∧ ∀ (t : Nat) (v : Value), vs[t]? = some v → ∃ x, xs[t]? = some x ∧ ∀ pp ps, VV W (lawZone W).Fz0 pp ps v x
  | [], [], _ => ⟨rfl, fun t v h => by simp at h⟩
  | v :: vs, x :: xs, h => by
    obtain ⟨h1, h2⟩ := tells_get h.2
    refine ⟨by simp [h1], fun t u hu => ?_⟩
    cases t with
    | zero => simp at hu; subst hu; exact ⟨x, rfl, h.1⟩
    | succ t => simpa using h2 t u (by simpa using hu)
  | [], _ :: _, h => h.elim
  | _ :: _, [], h => h.elim

theorem lawEntry {vs : List Value} {xs : List D} {kn : World → Prop} {hk : ∀ W', (∀ g, g < W.heap.size → W'.heap[g]? = W.heap[g]?) → kn W'} (h : Tells W vs xs) : EntryOk (lawZone W kn hk) [] xs vs (fun _ => none) := by
  obtain ⟨h1, h2⟩ := tells_get h
  refine ⟨lawMem, fun r => ?_, fun r _ => rfl, h1, fun t v hv => ?_⟩
  · simp [initRs, lentAt]
  · obtain ⟨x, hx, hvv⟩ := h2 t v hv
    have : initEnv [] xs t = x := by simp [initEnv, hx, lentAt]
    rw [this]
    exact hvv _ _

theorem calls_of_to {f : FuncId} {fn : Func} (hf : P.funcs[f]? = some fn) {c : Code} (hb : fn.body = some c) (hn : (fn.name == "runtime.NumGoroutine") = false) {vs : Array Value} {K : Value → World → Prop} (h : CallsTo P f vs W K) :
    Calls P f vs W fun e w' => ∃ v, e = .returned v ∧ K v w' := by
  have hrun : (callFunc f vs).run P W = .ok (.enter f vs) W := by
    unfold callFunc
    have hname' : ¬ fn.name = "runtime.NumGoroutine" := by simpa using hn
    simp [hf, hname', hb]
  have := h { dst := some 0, op := .call ⟨.value (.func f), #[], #[]⟩, type := 0, pos := "", after := #[], guard := none } { tmps := #[undef], defers := [] } (fun a w' => K (a.tmps.getD 0 undef) w') (fun _ _ _ => False) (fun v w' hk => by simpa [Act.put] using hk)
  rw [hrun] at this
  refine Calls.mono this fun e w' he => ?_
  cases e with
  | returned v => exact ⟨v, rfl, by simpa [Act.put] using he⟩
  | panicked ch => exact he.elim
  | outgrown => obtain ⟨_, _, he⟩ := he; exact he.elim

theorem agg_of_hasL {ss : List Sh} {x : D} (h : (Sh.strct ss).has x) : ∃ xs, x = .agg xs ∧ Sh.hasL ss xs := by
  cases x <;> simp only [Sh.has] at h
  exact ⟨_, rfl, h⟩

theorem isAgg_of_has {s : Sh} {x : D} (h : s.has x) (hs : ∀ ss, s ≠ .strct ss) : isAgg x = false := by
  cases s <;> cases x <;> simp_all [Sh.has, isAgg]

theorem tells_of_trod : ∀ (ss : List Sh) (ts : List TypeId) (vs : List Value) (ds : List (DataW H)) (ps : List MemPlace), ts.length = ss.length → (∀ (j : Nat) s t, ss[j]? = some s → ts[j]? = some t → s.fits P t = true) →
    (∀ (j : Nat) t v, ts[j]? = some t → vs[j]? = some v → ∃ base, Value.okWide P W .any base t v) → DataW.TrodAll enc P W 0 (fun _ => true) true ts vs ds ps → ∃ xs, Sh.hasL ss xs ∧ Tells W vs xs
  | [], [], [], [], ps, _, _, _, _ => ⟨[], trivial, trivial⟩
  | s :: ss, t :: ts, v :: vs, d :: ds, ps, hl, hf, hok, h => by
    obtain ⟨p, q, ⟨fuel, h1⟩, h2, _⟩ := h
    obtain ⟨xs, e1, e2⟩ := tells_of_trod ss ts vs ds q (by simpa using hl) (fun j s t a b => hf (j + 1) s t a b) (fun j t v a b => hok (j + 1) t v a b) h2
    have hfit := hf 0 s t rfl rfl
    obtain ⟨x, hx1, hx2⟩ := frep_of_trod (Fz := (lawZone W).Fz0) (fun g hg => hg) s fuel t _ _ hfit h1
    obtain ⟨base, hok0⟩ := hok 0 t v rfl rfl
    refine ⟨x :: xs, ⟨hx1, e1⟩, ⟨fun pp ps => ?_, e2⟩⟩
    cases s with
    | strct ss' =>
      obtain ⟨ys, rfl, _⟩ := agg_of_hasL hx1
      simp only [Sh.fits] at hfit
      split at hfit
      · rename_i fs ht
        obtain ⟨cs, rfl, _⟩ := okWide_struct ht hok0
        simp only [VV]
        refine ⟨cs.toList, by simp, ?_⟩
        have := VC.of_frep (pp := pp) (ps := ps) hx2
        simpa only [VC, Value.cells] using this
      · cases hfit
    | _ =>
      have hna := isAgg_of_has hx1 (by intro ss h; cases h)
      refine VV.of_VC (VC.of_frep ?_) hna
      have hne : v.cells.toList = [v] := by
        have hl1 := hx2.len
        rw [D.size_of_not_agg hna] at hl1
        cases v with
        | agg cs =>
          exfalso
          simp only [Value.okWide] at hok0
          simp only [Sh.fits] at hfit
          split at hfit <;> rename_i ht <;> simp_all [Cell.okWide, Cell.ok]
        | _ => rfl
      rwa [hne] at hx2
  | _ :: _, _ :: _, [], _, _, _, _, _, h => by simp [DataW.TrodAll] at h
  | _ :: _, _ :: _, _ :: _, [], _, _, _, _, h => by simp [DataW.TrodAll] at h
  | [], [], _ :: _, _, _, _, _, _, h => by simp [DataW.TrodAll] at h
  | [], [], [], _ :: _, _, _, _, _, h => by simp [DataW.TrodAll] at h
  | [], _ :: _, _, _, _, hl, _, _, _ => by simp at hl
  | _ :: _, [], _, _, _, hl, _, _, _ => by simp at hl
end
end Go.Lft

/- From the value-level machine's word on a law ('true, whatever the data') to the law's contract. -/
namespace Go.Lft
open Go.ChangeShapes Go.WideShapes Go.ChangeAt Go.WideMaps Go.WideElems Go.RowKit

section
variable {H : Type} {enc : TypeId × Value → H}

theorem trodAll_len {P : Program} {W : World} {sp : Nat → Bool} : ∀ (ts : List TypeId) (vs : List Value) (ds : List (DataW H)) (ps : List MemPlace), DataW.TrodAll enc P W 0 sp true ts vs ds ps → ds.length = ts.length
  | [], [], [], _, _ => rfl
  | t :: ts, v :: vs, d :: ds, ps, h => by
    obtain ⟨p, q, h1, h2, rfl⟩ := h
    simp [trodAll_len ts vs ds q h2]
  | [], _ :: _, _, _, h => by simp [DataW.TrodAll] at h
  | [], [], _ :: _, _, h => by simp [DataW.TrodAll] at h
  | _ :: _, [], _, _, h => by simp [DataW.TrodAll] at h
  | _ :: _, _ :: _, [], _, h => by simp [DataW.TrodAll] at h

theorem keeps_same {W W' : World} {kn : World → Prop} {hkn : ∀ W', (∀ g, g < W.heap.size → W'.heap[g]? = W.heap[g]?) → kn W'} (hk : Keeps (lawZone W kn hkn) W') {i : Nat} (hi : i < W.heap.size) : W'.heap[i]? = W.heap[i]? := hk.block i (by simpa [lawZone] using hi)

theorem trodAll_stays {P : Program} {W W' : World} {kn : World → Prop} {hkn : ∀ W', (∀ g, g < W.heap.size → W'.heap[g]? = W.heap[g]?) → kn W'} (hlo : laidOutB P = true) (hk : Keeps (lawZone W kn hkn) W') : ∀ (ts : List TypeId) (vs : List Value) (ds : List (DataW H)) (ps : List MemPlace), (∀ t ∈ ts, P.readableRec t = true ∧ t < P.types.size) →
    (∀ p ∈ ps, p.block < W.heap.size) → DataW.TrodAll enc P W 0 (fun _ => true) true ts vs ds ps → DataW.TrodAll enc P W' 0 (fun b => decide (b < W.heap.size)) true ts vs ds ps
  | [], [], [], ps, _, _, h => h
  | t :: ts, v :: vs, d :: ds, ps, hr, hlt, h => by
    obtain ⟨p, q, h1, h2, rfl⟩ := h
    refine ⟨p, q, ?_, trodAll_stays hlo hk ts vs ds q (fun t ht => hr t (List.mem_cons_of_mem _ ht)) (fun x hx => hlt x (List.mem_append_right _ hx)) h2, rfl⟩
    refine Trod_stays hlo (hr t (List.mem_cons_self ..)).1 (hr t (List.mem_cons_self ..)).2 h1 (fun x hx => ?_) (fun x hx => by simpa using hlt x (List.mem_append_left _ hx))
    have hb := keeps_same hk (hlt x (List.mem_append_left _ hx))
    cases x with
    | cell b off =>
      have hb : W'.heap[b]? = W.heap[b]? := hb
      simp only [World.sameAt, World.cell?, hb]
    | map b => exact hb
  | [], _ :: _, _, _, _, _, h => by simp [DataW.TrodAll] at h
  | [], [], _ :: _, _, _, _, h => by simp [DataW.TrodAll] at h
  | _ :: _, [], _, _, _, _, h => by simp [DataW.TrodAll] at h
  | _ :: _, _ :: _, [], _, _, _, h => by simp [DataW.TrodAll] at h

theorem law_contract {E : En} (hs : CallsOk E.P E.kn (lim E) E.md) {f : FuncId} {fn : Func} {c : Code} (hf : E.P.funcs[f]? = some fn) (hb : fn.body = some c) (hn : (fn.name == "runtime.NumGoroutine") = false) (hmd : E.md f = [])
    {ss : List Sh} (hlen : fn.params.toList.length = ss.length) (hfit : ∀ (j : Nat) s t, ss[j]? = some s → fn.params.toList[j]? = some t → s.fits E.P t = true) (hlo : laidOutB E.P = true)
    (hread : ∀ t ∈ fn.params.toList, E.P.readableRec t = true ∧ t < E.P.types.size) {tb : TypeId} (hres : fn.resultTypes = #[tb]) (htb : E.P.underlying tb = some .bool)
    {s : ChangeSpec} (hvars : s.vars = []) (hfn : ∀ ds : List (DataW H), ds.length = ss.length → s.fn H ds = { results := [.lit (.bool true)], args := ds })
    (hl : ∀ xs, Sh.hasL ss xs → lim E f xs = some (.bool true, [])) {fresh handsOn : Bool}
    (W : World) (base : Nat) (args : Array Value) (ds gs : List (DataW H)) (before : List MemPlace)
    (hok : ∀ (j : Nat) t v, fn.params[j]? = some t → args[j]? = some v → Value.okWide E.P W .any base t v)
    (hW : DataW.Whole enc E.P fn.params.toList s.vars false W args.toList ds gs before)
    (hkn : ∀ W', (∀ g, g < W.heap.size → W'.heap[g]? = W.heap[g]?) → E.kn W' := by exact fun _ _ => trivial) :
    Calls E.P f args W fun e W' => ∃ v, e = .returned v ∧ s.post enc E.P fn false fresh handsOn false W args v W' := by
  have hW' := hW
  have hlt : ∀ p ∈ before, p.block < W.heap.size := fun p hp => hW.lt p hp
  obtain ⟨p, q, hA, hV, rfl, hfz, hnd⟩ := hW
  rw [hvars] at hV
  obtain ⟨rfl, rfl⟩ := trodVars_none hV
  rw [List.append_nil] at *
  obtain ⟨xs, hx, ht⟩ := tells_of_trod (P := E.P) ss fn.params.toList args.toList ds p hlen hfit (fun j t v h1 h2 => ⟨base, hok j t v (by simpa using h1) (by simpa using h2)⟩) hA
  have hfun := (hs.fn f xs _ (hl xs hx)).1
  rw [hmd] at hfun
  have hcall := hfun (lawZone W E.kn hkn) args.toList (fun _ => none) (lawEntry ht) rfl
  simp only [lawZone, Array.toArray_toList] at hcall
  refine Calls.mono (calls_of_to hf hb hn hcall) fun e w' ⟨v, he, gs, Fz, ms, hm, hv, _⟩ => ⟨v, he, ?_⟩
  have hvb : v = .bool true := by
    simp only [ResV] at hv
    match ms, hv with
    | [m], hv =>
      simp only [ResL, One, and_true] at hv
      obtain ⟨h1, h2, h3, h4⟩ := hv
      have h5 := h4 (by rw [h1]; rfl)
      cases m with
      | leaf u d =>
        simp only [M.data] at h1
        subst h1
        have := hm.hok
        simp only [M.OkL, M.Ok, FRep, and_true] at this
        simp only [M.cells] at h5
        have h6 := this.1
        rw [h5] at h6
        simpa using h6
      | agg xs => simp [M.data] at h1
      | lst => simp [M.data] at h1
  subst hvb
  have hlen2 := trodAll_len _ _ _ _ hA
  have hkeep : Keeps (lawZone W E.kn hkn) w' := hm.keeps
  refine ⟨ds, [], p, [], p, [], hW', ?_, ?_, ?_, ?_, fun h => by cases h⟩
  · rw [List.append_nil, hfn ds (by rw [hlen2]; exact hlen), hres]
    exact trodAll_mk1 (shut_bool htb true)
  · rw [List.append_nil, hfn ds (by rw [hlen2]; exact hlen)]
    exact trodAll_stays hlo hkeep _ _ _ _ hread hlt hA
  · rw [List.append_nil, hfn ds (by rw [hlen2]; exact hlen), hvars]
    rfl
  · refine ⟨hkeep.os, hkeep.output, fun i hi => ?_⟩
    rw [keeps_same hkeep hi]
    cases W.heap[i]? with
    | none => rfl
    | some o => cases o <;> simp
end
end Go.Lft

/- The tables of a program's types, taken from the program itself; that they are right holds of any program. -/
namespace Go.Lft

def kindOf (P : Program) (t : TypeId) : Nat :=
  match P.underlying t with
  | some (.int _) => 0
  | some .string => 1
  | some .bool => 2
  | _ => 9

def flatAt (P : Program) : Nat → List Field → Bool
  | _, [] => true
  | i, f :: fs => decide (f.name ≠ "_") && decide (f.offset = i) && decide (kindOf P f.type ≠ 9) && flatAt P (i + 1) fs

def flatB (P : Program) (t : TypeId) : Bool :=
  !P.stoodInHeld t && !P.eqGuardType P.depth t && flatAt P 0 (P.fieldsOf t).toList

def tyOf (P : Program) (t : TypeId) : Ty :=
  match P.underlying t, P.info? t with
  | some (.int k), some i => if i.size = 1 then .int k else .other
  | some .bool, some i => if i.size = 1 then .bool else .other
  | some .string, some i => if i.size = 1 then .str else .other
  | some (.slice te), some i =>
    match P.info? te with
    | some j =>
      match j.zero with
      | some z => if i.size = 1 ∧ 0 < j.size ∧ z.cells.size = j.size ∧ 0 < j.bytes then .slice te j.size j.bytes else .other
      | none => .other
    | none => .other
  | some (.struct _), some i => .strct i.size (flatB P t)
  | some (.interface _), some i => if i.size = 1 then .iface else .other
  | some d, some i => if i.size = 1 ∧ descAgg d = false then .one else .other
  | _, _ => .other

def offOf (P : Program) (s f : Nat) : Option Nat :=
  match P.underlying s with
  | some (.struct fs) =>
    match fs[f]? with
    | some fl => match P.info? fl.type with | some i => if i.size ≠ 0 then some fl.offset else none | none => none
    | none => none
  | _ => none

def flOf (P : Program) (s f : Nat) : Option (Bool × Nat) :=
  match P.underlying s with
  | some (.struct fs) =>
    match fs[f]? with
    | some fl => match P.info? fl.type, P.underlying fl.type with | some i, some d => some (descAgg d, i.size) | _, _ => none
    | none => none
  | _ => none

mutual
def zeroD (P : Program) : Nat → TypeId → Option D
  | 0, _ => none
  | n + 1, t =>
    match P.underlying t with
    | some (.int k) => some (.int k 0)
    | some .bool => some (.bool false)
    | some .string => some (.str [])
    | some (.slice te) => match P.info? te with | some j => some (.lst true te j.size []) | none => none
    | some (.struct fs) => (zeroDs P n fs.toList).map .agg
    | some (.interface _) => some (.ifc true)
    | _ => none
def zeroDs (P : Program) : Nat → List Field → Option (List D)
  | 0, _ => none
  | _ + 1, [] => some []
  | n + 1, f :: fs => (zeroD P n f.type).bind fun d => (zeroDs P n fs).map fun ds => d :: ds
end

def zeroOk (P : Program) (t : TypeId) (d : D) : Bool :=
  match P.info? t with
  | some i =>
    match i.zero with
    | some z =>
      aggIs z.cells.toList d.leaves &&
      (match z with | .agg _ => isAgg d | _ => !isAgg d) &&
      (!isAgg d || (match P.underlying t with | some (.struct fs) => (fs.toList.mapM (fun f => (P.info? f.type).map fun i => (f.offset, i.size))).isSome | _ => false))
    | none => false
  | none => false

def zeroOf (P : Program) (t : TypeId) : Option D :=
  match zeroD P 40 t with
  | some d => if zeroOk P t d = true then some d else none
  | none => none

def tbOf (P : Program) : Tb where
  ty := tyOf P
  off := offOf P
  zero := zeroOf P
  fl := flOf P
  kinds := fun t => (P.fieldsOf t).toList.map fun f => kindOf P f.type
  mv := fun _ => false

theorem flatAt_ok {P : Program} : ∀ (fs : List Field) (n i : Nat) (f : Field), flatAt P n fs = true → fs[i]? = some f → f.name ≠ "_" ∧ f.offset = n + i ∧ kindOf P f.type ≠ 9
  | [], n, i, f, _, h => by simp at h
  | g :: fs, n, i, f, hf, h => by
    simp only [flatAt, Bool.and_eq_true, decide_eq_true_eq] at hf
    cases i with
    | zero => simp at h; subst h; exact ⟨hf.1.1.1, hf.1.1.2, hf.1.2⟩
    | succ i =>
      have := flatAt_ok fs (n + 1) i f hf.2 (by simpa using h)
      exact ⟨this.1, by omega, this.2.2⟩

theorem tbOf_ok (P : Program) : TbOk P (tbOf P) where
  int := fun t k h => by
    simp only [tbOf, tyOf] at h
    split at h <;> (try split at h) <;> (try split at h) <;> (try split at h) <;> simp_all
  bool := fun t h => by
    simp only [tbOf, tyOf] at h
    split at h <;> (try split at h) <;> (try split at h) <;> (try split at h) <;> simp_all
  str := fun t h => by
    simp only [tbOf, tyOf] at h
    split at h <;> (try split at h) <;> (try split at h) <;> (try split at h) <;> simp_all
  iface := fun t h => by
    simp only [tbOf, tyOf] at h
    split at h <;> (try split at h) <;> (try split at h) <;> (try split at h) <;> simp_all
  slice := fun t te e b h => by
    simp only [tbOf, tyOf] at h
    split at h <;> (try split at h) <;> (try split at h) <;> (try split at h) <;> simp_all
  lay := fun t h => by
    simp only [tbOf, tyOf] at h ⊢
    split at h <;> (try split at h) <;> (try split at h) <;> (try split at h) <;> simp_all [layOf, descAgg]
  off := fun s f k h => by
    simp only [tbOf, offOf] at h
    split at h <;> (try split at h) <;> (try split at h) <;> (try split at h) <;> simp_all
  fl := fun s f a n h => by
    simp only [tbOf, flOf] at h
    split at h <;> (try split at h) <;> (try split at h) <;> (try split at h) <;> simp_all
  zero := fun t d h => by
    simp only [tbOf, zeroOf] at h
    split at h
    · split at h
      · rename_i hk
        obtain rfl := Option.some.inj h
        unfold zeroOk at hk
        split at hk
        · rename_i i hi
          split at hk
          · rename_i z hz
            simp only [Bool.and_eq_true, Bool.or_eq_true, Bool.not_eq_true'] at hk
            obtain ⟨⟨h1, h2⟩, h3⟩ := hk
            refine ⟨i, z, hi, hz, h1, ?_, ?_⟩
            · cases z <;> simp_all [Value.cells]
            · intro ha
              rcases h3 with h3 | h3
              · rw [ha] at h3; cases h3
              · split at h3
                · rename_i fs hfs; exact ⟨fs, hfs, h3⟩
                · cases h3
          · cases hk
        · cases hk
      · cases h
    · cases h
  flat := fun t n h => by
    have hfl : flatB P t = true ∧ ∃ fs, P.underlying t = some (.struct fs) := by
      simp only [tbOf, tyOf] at h
      split at h <;> (try split at h) <;> (try split at h) <;> (try split at h) <;> simp_all
    obtain ⟨hfl, fs, hfs⟩ := hfl
    have hfo : P.fieldsOf t = fs := by simp only [Program.fieldsOf, hfs]
    simp only [flatB, Bool.and_eq_true, Bool.not_eq_true'] at hfl
    refine ⟨by rw [hfo]; exact hfs, hfl.1.1, hfl.1.2, by simp [tbOf], fun i f hi => ?_⟩
    have hi' : (P.fieldsOf t).toList[i]? = some f := by simpa using hi
    obtain ⟨h1, h2, h3⟩ := flatAt_ok _ 0 i f hfl.2 hi'
    refine ⟨h1, by omega, ?_⟩
    have hk : (tbOf P).kinds t = (P.fieldsOf t).toList.map fun f => kindOf P f.type := rfl
    rw [hk, List.getElem?_map, hi']
    simp only [Option.map_some]
    unfold kindOf at h3 ⊢
    split at h3 <;> simp_all
end Go.Lft

