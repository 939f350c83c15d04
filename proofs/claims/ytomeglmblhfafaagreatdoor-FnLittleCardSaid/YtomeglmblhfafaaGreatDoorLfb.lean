/- The value-level machine, part 2: Go code told over trees of data, and that this is sound against the model. No statement of the seed is proved in this text. -/
import Derived.Great.BuildSlice
import Derived.Laws.IdiomStrings
import Derived.Laws.MakeOwn
import Derived.Laws.AppendOwn
import Derived.Test.YtomeglmblhfafaaGreatDoorLfa
set_option linter.unusedVariables false
set_option linter.unusedSimpArgs false
set_option linter.unusedSectionVars false
set_option linter.all false
/- One's own memory, with ghosts in hand: what moves, what is written, what is new. -/
namespace Go.Lft

def G.put (x : G) (p : List Stp) (y : M) : G := { x with m := M.put x.m p y }

structure Mem (Z : Zone) (gs : Rid → Option G) (hs : List M) (Fz : Nat → Prop) (w : World) : Prop where
  ok : ∀ r x, gs r = some x → M.Ok w Fz x.m
  ins : ∀ r x, gs r = some x → x.In w
  nd : ∀ r x, gs r = some x → x.ids.Nodup
  row : ∀ r x, gs r = some x → x.bx = none → isAgg (M.data x.m) = false
  own : ∀ r x, gs r = some x → ∀ g ∈ x.ids, Z.Own g ∧ ¬ Fz g
  dis : ∀ r r' x x', gs r = some x → gs r' = some x' → r ≠ r' → ∀ g ∈ x.ids, g ∉ x'.ids
  hok : M.OkL w Fz hs
  hin : M.InL w hs
  hnd : (M.idsL hs).Nodup
  hown : ∀ g ∈ M.idsL hs, Z.Own g ∧ ¬ Fz g
  hdis : ∀ r x, gs r = some x → ∀ g ∈ x.ids, g ∉ M.idsL hs
  fz : ∀ g, Fz g → g < w.heap.size
  fz0 : ∀ g, Z.Fz0 g → Fz g
  fzo : ∀ g, Fz g → Z.Fz0 g ∨ Z.Own g
  keeps : Keeps Z w
  lent : ∀ r x b, gs r = some x → Z.lent r = some b → x.bx = b.1 ∧ (b.1 = none → M.cells x.m = b.2)

section
variable {P : Program} {T : Tb} {Z : Zone} {gs : Rid → Option G} {hs : List M} {Fz : Nat → Prop} {st : St} {a : Act} {w w' : World}

theorem Inv.mem (hi : Inv Z gs Fz st a w) : Mem Z gs [] Fz w :=
  { ok := hi.ok, ins := hi.ins, nd := hi.nd, row := hi.row, own := hi.own, dis := hi.dis, hok := trivial, hin := trivial, hnd := List.nodup_nil, hown := fun g hg => (by cases hg), hdis := fun _ _ _ _ _ hg => (by cases hg), fz := hi.fz, fz0 := hi.fz0, fzo := hi.fzo, keeps := hi.keeps, lent := hi.lent }

theorem Mem.inv (hm : Mem Z gs hs Fz w) (hrs : ∀ r, st.rs r = (gs r).map G.root) (henv : ∀ t, VV w Fz (ptrOk Z gs) (slcOk gs) (a.tmps.getD t undef) (st.env t)) (hd : a.defers = []) : Inv Z gs Fz st a w :=
  { rs := hrs, ok := hm.ok, ins := hm.ins, nd := hm.nd, row := hm.row, own := hm.own, dis := hm.dis, fz := hm.fz, fz0 := hm.fz0, fzo := hm.fzo, env := henv, keeps := hm.keeps, lent := hm.lent, defers := hd }

/-- The hand is sorted anew, or lets go. -/
theorem Mem.sub (hm : Mem Z gs hs Fz w) {hs' : List M} (h1 : M.OkL w Fz hs') (h2 : M.InL w hs') (h3 : (M.idsL hs').Nodup) (h4 : ∀ g ∈ M.idsL hs', g ∈ M.idsL hs) : Mem Z gs hs' Fz w :=
  { hm with hok := h1, hin := h2, hnd := h3, hown := fun g hg => hm.hown g (h4 g hg), hdis := fun r x hx g hg h => hm.hdis r x hx g hg (h4 g h) }

theorem Mem.tail {m : M} (hm : Mem Z gs (m :: hs) Fz w) : Mem Z gs hs Fz w := by
  have h1 := hm.hok
  have h2 := hm.hin
  have h3 := hm.hnd
  simp only [M.OkL, M.InL, M.idsL, List.nodup_append] at h1 h2 h3
  exact hm.sub h1.2 h2.2 h3.2.1 fun g hg => by simp only [M.idsL, List.mem_append]; exact .inr hg

theorem Mem.head {m : M} (hm : Mem Z gs (m :: hs) Fz w) : M.Ok w Fz m ∧ M.In w m ∧ (M.ids m).Nodup ∧ (∀ g ∈ M.ids m, Z.Own g ∧ ¬ Fz g) ∧ (∀ r x, gs r = some x → ∀ g ∈ x.ids, g ∉ M.ids m) ∧ ∀ g ∈ M.ids m, g ∉ M.idsL hs := by
  have h1 := hm.hok
  have h2 := hm.hin
  have h3 := hm.hnd
  have h4 := hm.hown
  have h5 := hm.hdis
  simp only [M.OkL, M.InL, M.idsL, List.nodup_append, List.mem_append, not_or] at h1 h2 h3 h4 h5
  exact ⟨h1.1, h2.1, h3.1, fun g hg => h4 g (.inl hg), fun r x hx g hg => (h5 r x hx g hg).1, fun g hg hg' => h3.2.2 g hg g hg' rfl⟩

/-- A leaf taken up. -/
theorem Mem.leaf (hm : Mem Z gs hs Fz w) {m : M} (h1 : M.Ok w Fz m) (h2 : M.In w m) (h3 : M.ids m = []) : Mem Z gs (m :: hs) Fz w :=
  hm.sub (by simp only [M.OkL]; exact ⟨h1, hm.hok⟩) (by simp only [M.InL]; exact ⟨h2, hm.hin⟩) (by simp only [M.idsL, h3, List.nil_append]; exact hm.hnd) (fun g hg => by simpa only [M.idsL, h3, List.nil_append] using hg)

theorem upd_self {α β : Type} [DecidableEq α] (f : α → β) (k : α) (v : β) : upd f k v k = v := by simp [upd]
theorem upd_ne {α β : Type} [DecidableEq α] (f : α → β) {k i : α} (v : β) (h : i ≠ k) : upd f k v i = f i := by simp [upd, h]

theorem upd_none {gs : Rid → Option G} {r r' : Rid} {x : G} (h : upd gs r none r' = some x) : r' ≠ r ∧ gs r' = some x := by
  unfold upd at h
  split at h
  · cases h
  · rename_i hne; exact ⟨hne, h⟩

/-- A root is let go. -/
theorem Mem.drop (hm : Mem Z gs hs Fz w) (r : Rid) : Mem Z (upd gs r none) hs Fz w :=
  { hm with
    ok := fun r' x h => hm.ok r' x (upd_none h).2
    ins := fun r' x h => hm.ins r' x (upd_none h).2
    nd := fun r' x h => hm.nd r' x (upd_none h).2
    row := fun r' x h => hm.row r' x (upd_none h).2
    own := fun r' x h => hm.own r' x (upd_none h).2
    dis := fun r1 r2 x x' h h' => hm.dis r1 r2 x x' (upd_none h).2 (upd_none h').2
    hdis := fun r' x h => hm.hdis r' x (upd_none h).2
    lent := fun r' x b h => hm.lent r' x b (upd_none h).2 }

theorem G.ids_nodup {x : G} (h : x.ids.Nodup) : (M.ids x.m).Nodup := by
  unfold G.ids at h
  split at h
  · exact (List.nodup_cons.1 h).2
  · exact h

/-- A root's ghost is taken in hand. -/
theorem Mem.lift (hm : Mem Z gs hs Fz w) {r : Rid} {x : G} (hx : gs r = some x) : Mem Z (upd gs r none) (x.m :: hs) Fz w :=
  { hm.drop r with
    hok := by simp only [M.OkL]; exact ⟨hm.ok r x hx, hm.hok⟩
    hin := by simp only [M.InL]; exact ⟨(hm.ins r x hx).2, hm.hin⟩
    hnd := by
      simp only [M.idsL, List.nodup_append]
      refine ⟨G.ids_nodup (hm.nd r x hx), hm.hnd, fun g hg g' hg' e => ?_⟩
      subst e
      exact hm.hdis r x hx g (x.ids_m g hg) hg'
    hown := by
      intro g hg
      simp only [M.idsL, List.mem_append] at hg
      rcases hg with hg | hg
      · exact hm.own r x hx g (x.ids_m g hg)
      · exact hm.hown g hg
    hdis := by
      intro r' x' h' g hg hh
      obtain ⟨hne, h'⟩ := upd_none h'
      simp only [M.idsL, List.mem_append] at hh
      rcases hh with hh | hh
      · exact hm.dis r' r x' x h' hx hne g hg (x.ids_m g hh)
      · exact hm.hdis r' x' h' g hg hh }

/-- A root is set up from the hand: a row, or a variable whose block ('bx') is new. -/
theorem Mem.root' {m : M} (hm : Mem Z gs (m :: hs) Fz w) (r : Rid) (x : G) (hr : ∀ b, Z.lent r = some b → x.bx = b.1 ∧ (b.1 = none → M.cells x.m = b.2)) (hx : x.m = m) (h1 : x.bx = none → isAgg (M.data m) = false)
    (h2 : ∀ g te, x.bx = some (g, te) → w.heap[g]? = some (rowObj te (M.cells m) (0, 0)) ∧ Z.Own g ∧ ¬ Fz g ∧ (∀ r x, gs r = some x → g ∉ x.ids) ∧ g ∉ M.ids m ∧ g ∉ M.idsL hs) : Mem Z (upd gs r (some x)) hs Fz w := by
  obtain ⟨k1, k2, k3, k4, k5, k6⟩ := hm.head
  have hids : ∀ g ∈ x.ids, (∃ te, x.bx = some (g, te)) ∨ g ∈ M.ids m := by
    intro g hg
    unfold G.ids at hg
    split at hg
    · rename_i g' te he
      rcases List.mem_cons.1 hg with rfl | hg
      · exact .inl ⟨te, he⟩
      · exact .inr (hx ▸ hg)
    · exact .inr (hx ▸ hg)
  have ht := hm.tail
  have hcase : ∀ r' x', upd gs r (some x) r' = some x' → (r' = r ∧ x' = x) ∨ (r' ≠ r ∧ gs r' = some x') := by
    intro r' x' h
    unfold upd at h
    split at h
    · rename_i e; exact .inl ⟨e, (Option.some.inj h).symm⟩
    · rename_i e; exact .inr ⟨e, h⟩
  have hnew : ∀ r' x', gs r' = some x' → ∀ g ∈ x'.ids, g ∉ x.ids := by
    intro r' x' h g hg hg'
    rcases hids g hg' with ⟨te, he⟩ | hg'
    · exact (h2 g te he).2.2.2.1 r' x' h hg
    · exact k5 r' x' h g hg hg'
  refine { ht with ok := ?_, ins := ?_, nd := ?_, row := ?_, own := ?_, dis := ?_, hdis := ?_, lent := ?_ }
  · intro r' x' h
    rcases hcase r' x' h with ⟨rfl, rfl⟩ | ⟨hne, h⟩
    · rw [hx]; exact k1
    · exact hm.ok r' x' h
  · intro r' x' h
    rcases hcase r' x' h with ⟨rfl, rfl⟩ | ⟨hne, h⟩
    · exact ⟨fun g te he => by rw [hx]; exact (h2 g te he).1, by rw [hx]; exact k2⟩
    · exact hm.ins r' x' h
  · intro r' x' h
    rcases hcase r' x' h with ⟨rfl, rfl⟩ | ⟨hne, h⟩
    · unfold G.ids
      split
      · rename_i g te he
        rw [hx]
        exact List.nodup_cons.2 ⟨(h2 g te he).2.2.2.2.1, k3⟩
      · rw [hx]; exact k3
    · exact hm.nd r' x' h
  · intro r' x' h hb
    rcases hcase r' x' h with ⟨rfl, rfl⟩ | ⟨hne, h⟩
    · rw [hx]; exact h1 hb
    · exact hm.row r' x' h hb
  · intro r' x' h g hg
    rcases hcase r' x' h with ⟨rfl, rfl⟩ | ⟨hne, h⟩
    · rcases hids g hg with ⟨te, he⟩ | hg
      · exact ⟨(h2 g te he).2.1, (h2 g te he).2.2.1⟩
      · exact k4 g hg
    · exact hm.own r' x' h g hg
  · intro r1 r2 x1 x2 e1 e2 hne g hg hg'
    rcases hcase r1 x1 e1 with ⟨q1, q1'⟩ | ⟨h1', f1⟩
    · rcases hcase r2 x2 e2 with ⟨q2, q2'⟩ | ⟨h2', f2⟩
      · exact hne (q1.trans q2.symm)
      · exact hnew r2 x2 f2 g hg' (q1' ▸ hg)
    · rcases hcase r2 x2 e2 with ⟨q2, q2'⟩ | ⟨h2', f2⟩
      · exact hnew r1 x1 f1 g hg (q2' ▸ hg')
      · exact hm.dis r1 r2 x1 x2 f1 f2 hne g hg hg'
  · intro r' x' h g hg
    rcases hcase r' x' h with ⟨rfl, rfl⟩ | ⟨hne, h⟩
    · rcases hids g hg with ⟨te, he⟩ | hg
      · exact (h2 g te he).2.2.2.2.2
      · exact k6 g hg
    · exact ht.hdis r' x' h g hg
  · intro r' x' b h hb
    rcases hcase r' x' h with ⟨rfl, rfl⟩ | ⟨hne, h⟩
    · exact hr b hb
    · exact hm.lent r' x' b h hb

theorem Mem.root {m : M} (hm : Mem Z gs (m :: hs) Fz w) (r : Rid) (hr : Z.lent r = none) (x : G) (hx : x.m = m) (h1 : x.bx = none → isAgg (M.data m) = false)
    (h2 : ∀ g te, x.bx = some (g, te) → w.heap[g]? = some (rowObj te (M.cells m) (0, 0)) ∧ Z.Own g ∧ ¬ Fz g ∧ (∀ r x, gs r = some x → g ∉ x.ids) ∧ g ∉ M.ids m ∧ g ∉ M.idsL hs) : Mem Z (upd gs r (some x)) hs Fz w :=
  hm.root' r x (fun b hb => by rw [hr] at hb; cases hb) hx h1 h2

theorem G.at_mem {x : G} {p : List Stp} {g o : Nat} {z : M} (hrow : x.bx = none → isAgg (M.data x.m) = false) (hz : M.get x.m p = some z) (h : x.at_ p = some (g, o)) : g ∈ x.ids := by
  unfold G.at_ at h
  unfold G.ids
  cases hb : x.bx with
  | some b =>
    obtain ⟨g0, te⟩ := b
    simp only [hb] at h ⊢
    rcases M.at_mem p h with rfl | h
    · exact List.mem_cons_self ..
    · exact List.mem_cons_of_mem _ h
  | none =>
    simp only [hb] at h ⊢
    cases p with
    | nil => simp at h
    | cons s p =>
      simp only at h
      cases hm : x.m with
      | leaf v d => rw [hm] at hz; cases s <;> simp [M.get] at hz
      | agg xs => have := hrow hb; rw [hm] at this; simp [M.data, isAgg] at this
      | lst g1 tg te e xs rest fr =>
        rw [hm] at h hz
        cases s with
        | fld i => simp [M.get] at hz
        | elm i =>
          simp only [M.at_, Option.bind_eq_some_iff] at h
          obtain ⟨y, h1, h2⟩ := h
          simp only [M.ids, List.mem_cons]
          rcases M.at_mem p h2 with rfl | h3
          · exact .inl rfl
          · exact .inr (M.mem_idsL.2 ⟨y, List.mem_of_getElem? h1, h3⟩)

theorem G.at_notin {x : G} {p : List Stp} {g o : Nat} {z : M} (hrow : x.bx = none → isAgg (M.data x.m) = false) (hnd : x.ids.Nodup) (hz : M.get x.m p = some z) (h : x.at_ p = some (g, o)) : g ∉ M.ids z := by
  unfold G.at_ at h
  unfold G.ids at hnd
  cases hb : x.bx with
  | some b =>
    obtain ⟨g0, te⟩ := b
    simp only [hb, List.nodup_cons] at h hnd
    exact M.at_notin p hnd.1 hnd.2 hz h
  | none =>
    simp only [hb] at h hnd
    cases p with
    | nil => simp at h
    | cons s p =>
      simp only at h
      cases hm : x.m with
      | leaf v d => rw [hm] at hz; cases s <;> simp [M.get] at hz
      | agg xs => have := hrow hb; rw [hm] at this; simp [M.data, isAgg] at this
      | lst g1 tg te e xs rest fr =>
        rw [hm] at h hz hnd
        cases s with
        | fld i => simp [M.get] at hz
        | elm i =>
          simp only [M.at_, Option.bind_eq_some_iff] at h
          obtain ⟨y, h1, h2⟩ := h
          simp only [M.get, h1, Option.bind_some] at hz
          simp only [M.ids, List.nodup_cons] at hnd
          obtain ⟨n1, n2⟩ := M.idsL_nodup_of h1 hnd.2
          exact M.at_notin p (fun hzz => hnd.1 (M.mem_idsL.2 ⟨y, List.mem_of_getElem? h1, hzz⟩)) n1 hz h2

theorem G.put_in {x : G} {p : List Stp} {g o : Nat} {y z : M} (hok : M.Ok w Fz x.m) (hin : x.In w) (hnd : x.ids.Nodup) (hrow : x.bx = none → isAgg (M.data x.m) = false) (hz : M.get x.m p = some z) (h : x.at_ p = some (g, o))
    (hw : Written w w' g o (M.cells y)) (hy : M.In w' y) (hl : (M.cells y).length = (M.cells z).length) : (x.put p y).In w' := by
  unfold G.at_ at h
  unfold G.ids at hnd
  cases hb : x.bx with
  | some b =>
    obtain ⟨g0, te⟩ := b
    simp only [hb, List.nodup_cons] at h hnd
    have h0 := hin.1 g0 te hb
    obtain ⟨r1, r2⟩ := M.put_in hw hy p (L := []) (R := []) (te := te) (fr := (0, 0)) (g := g0) (o := 0) hok hin.2 (by simpa using h0) rfl hnd.1 hnd.2 hz h hl
    refine ⟨fun g1 te1 he => ?_, r1⟩
    have he : x.bx = some (g1, te1) := he
    rw [hb] at he
    obtain ⟨rfl, rfl⟩ := Prod.mk.inj (Option.some.inj he)
    simpa [G.put] using r2
  | none =>
    simp only [hb] at h hnd
    cases p with
    | nil => simp at h
    | cons s p =>
      simp only at h
      refine ⟨fun g1 te1 he => ?_, ?_⟩
      · have he : x.bx = some (g1, te1) := he
        rw [hb] at he; cases he
      simp only [G.put]
      have hin2 := hin.2
      cases hm : x.m with
      | leaf v d => rw [hm] at hz; cases s <;> simp [M.get] at hz
      | agg xs => have := hrow hb; rw [hm] at this; simp [M.data, isAgg] at this
      | lst g1 tg te1 e xs rest fr1 =>
        rw [hm] at h hz hnd hok hin2
        cases s with
        | fld i => simp [M.get] at hz
        | elm i =>
          simp only [M.get, Option.bind_eq_some_iff] at hz
          obtain ⟨u, h1, h2⟩ := hz
          simp only [M.at_, h1, Option.bind_some] at h
          simp only [M.Ok] at hok
          simp only [M.In] at hin2
          simp only [M.ids, List.nodup_cons] at hnd
          obtain ⟨n1, n2⟩ := M.idsL_nodup_of h1 hnd.2
          obtain ⟨k1, k2, k3, k4, k5, k6⟩ := hok
          have hg1z : g1 ∉ M.ids u := fun hz => hnd.1 (M.mem_idsL.2 ⟨u, List.mem_of_getElem? h1, hz⟩)
          have hi := lt_of_get? h1
          have hli : (M.cellsL (xs.take i)).length = i * e := take_mul_len k3 (by omega)
          have hg2 : w.heap[g1]? = some (rowObj te1 (M.cellsL (xs.take i) ++ M.cells u ++ (M.cellsL (xs.drop (i + 1)) ++ rest)) fr1) := by
            rw [hin2.1, M.cellsL_split h1]; simp only [List.append_assoc]
          obtain ⟨r1, r2⟩ := M.put_in hw hy p (k2.get h1) (hin2.2.get h1) hg2 hli hg1z n1 h2 h hl
          obtain ⟨te', fr', L', c, R', e1, e2, e3, e4, e5⟩ := hw
          simp only [M.put, h1, M.In]
          refine ⟨?_, M.InL_set hin2.2 h1 r1 e5 fun j a hja hj hga => ?_⟩
          · rw [r2, M.cellsL_set h1]; simp only [List.append_assoc]
          · rcases M.at_mem p h with rfl | hz
            · exact hnd.1 (M.mem_idsL.2 ⟨a, List.mem_of_getElem? hja, hga⟩)
            · exact n2 j a hja hj g hz hga

theorem G.put_ids {x : G} {p : List Stp} {z : M} (hz : M.get x.m p = some z) : ∃ A B, x.ids = A ++ M.ids z ++ B ∧ ∀ y, (x.put p y).ids = A ++ M.ids y ++ B := by
  obtain ⟨A, B, h1, h2⟩ := M.ids_split p hz
  unfold G.ids G.put
  cases hb : x.bx with
  | none => exact ⟨A, B, h1, h2⟩
  | some b =>
    obtain ⟨g, te⟩ := b
    exact ⟨g :: A, B, by simp only [h1, List.cons_append], fun y => by simp only [h2, List.cons_append]⟩

theorem Keeps.step {g : Nat} (hk : Keeps Z w) (hs : Same w w') (hsz : w'.heap.size = w.heap.size) (hg : Z.Own g) (ho : ∀ g', g' ≠ g → w'.heap[g']? = w.heap[g']?) : Keeps Z w' :=
  ⟨hs.os.trans hk.os, hs.tape.trans hk.tape, hs.output.trans hk.output, by rw [hsz]; exact hk.size, fun g' hg' => by rw [ho g' (by rintro rfl; exact hg' hg), hk.block g' hg']⟩

theorem G.In.stab {x : G} (hin : x.In w) (h : ∀ g ∈ x.ids, w'.heap[g]? = w.heap[g]?) : x.In w' := by
  refine ⟨fun g te he => ?_, M.In.stab (fun g hg => h g (x.ids_m g hg)) hin.2⟩
  rw [h g (by unfold G.ids; rw [he]; exact List.mem_cons_self ..)]
  exact hin.1 g te he

theorem fz_lt_stab {Fz : Nat → Prop} (h : ∀ g, Fz g → g < w.heap.size) (hs : w'.heap.size = w.heap.size) : ∀ g, Fz g → g < w'.heap.size := fun g hg => by rw [hs]; exact h g hg

theorem M.put_head {m y z : M} {p : List Stp} (hrow : isAgg (M.data m) = false) (hz : M.get m p = some z) (hp : p ≠ []) : M.cells (M.put m p y) = M.cells m ∧ isAgg (M.data (M.put m p y)) = false := by
  cases p with
  | nil => exact absurd rfl hp
  | cons s p =>
    cases m with
    | leaf v d => cases s <;> simp [M.get] at hz
    | agg xs => simp [M.data, isAgg] at hrow
    | lst g tg te e xs rest fr =>
      cases s with
      | fld i => simp [M.get] at hz
      | elm i =>
        simp only [M.get, Option.bind_eq_some_iff] at hz
        obtain ⟨u, h1, h2⟩ := hz
        simp only [M.put, h1, M.cells, List.length_set, M.data, isAgg, and_self]

/-- What is in hand goes to a place of a root; what was there comes in hand. -/
theorem Mem.swap {y : M} (hm : Mem Z gs (y :: hs) Fz w) {r : Rid} {x : G} {p : List Stp} {z : M} {g o : Nat} (hx : gs r = some x) (hz : M.get x.m p = some z) (hat : x.at_ p = some (g, o))
    (hl : (M.cells y).length = (M.cells z).length) (hw : Written w w' g o (M.cells y)) (hsz : w'.heap.size = w.heap.size) (hsm : Same w w') : Mem Z (upd gs r (some (x.put p y))) (z :: hs) Fz w' := by
  obtain ⟨k1, k2, k3, k4, k5, k6⟩ := hm.head
  have ht := hm.tail
  have hrow := hm.row r x hx
  have hgx : g ∈ x.ids := G.at_mem hrow hz hat
  obtain ⟨hgo, hgf⟩ := hm.own r x hx g hgx
  have hoth : ∀ g', g' ≠ g → w'.heap[g']? = w.heap[g']? := by obtain ⟨_, _, _, _, _, _, _, _, _, h⟩ := hw; exact h
  have hfz : ∀ g', Fz g' → w'.heap[g']? = w.heap[g']? := fun g' hg' => hoth g' (by rintro rfl; exact hgf hg')
  obtain ⟨A, B, i1, i2⟩ := G.put_ids (x := x) hz
  have hxnd := hm.nd r x hx
  have hy' : M.In w' y := M.In.stab (fun g' hg' => hoth g' (by rintro rfl; exact k5 r x hx _ hgx hg')) k2
  obtain ⟨g', o', hat'⟩ : ∃ g' o', M.at_ x.m 0 0 p = some (g', o') := M.get_at p 0 0 hz
  have hzok : M.Ok w Fz z ∧ M.In w z := by
    refine ⟨?_, M.get_in p (hm.ins r x hx).2 hz⟩
    have := M.get_data p (hm.ok r x hx) (M.get_data' p hz)
    obtain ⟨m', e1, e2, e3⟩ := this
    rw [hz] at e1
    obtain rfl := Option.some.inj e1
    exact e3
  have hcase : ∀ r' x', upd gs r (some (x.put p y)) r' = some x' → (r' = r ∧ x' = x.put p y) ∨ (r' ≠ r ∧ gs r' = some x') := by
    intro r' x' h
    unfold upd at h
    split at h
    · rename_i e; exact .inl ⟨e, (Option.some.inj h).symm⟩
    · rename_i e; exact .inr ⟨e, h⟩
  have hin : ∀ g' ∈ (x.put p y).ids, (g' ∈ x.ids ∧ (g' ∈ A ∨ g' ∈ B)) ∨ g' ∈ M.ids y := by
    intro g' hg'
    rw [i2 y] at hg'
    simp only [List.mem_append] at hg'
    rcases hg' with (h | h) | h
    · exact .inl ⟨by rw [i1]; simp [h], .inl h⟩
    · exact .inr h
    · exact .inl ⟨by rw [i1]; simp [h], .inr h⟩
  rw [i1] at hxnd
  have hnd3 := hxnd
  simp only [List.nodup_append, List.mem_append] at hnd3
  obtain ⟨⟨nA, nz, nAz⟩, nB, nAB⟩ := hnd3
  have hnd := hm.nd r x hx
  have hputin := G.put_in (hm.ok r x hx) (hm.ins r x hx) hnd hrow hz hat hw hy' hl
  refine { ok := ?_, ins := ?_, nd := ?_, row := ?_, own := ?_, dis := ?_, hok := ?_, hin := ?_, hnd := ?_, hown := ?_, hdis := ?_, fz := fz_lt_stab hm.fz hsz, fz0 := hm.fz0, fzo := hm.fzo, keeps := hm.keeps.step hsm hsz hgo hoth, lent := ?_ }
  · intro r' x' h
    rcases hcase r' x' h with ⟨rfl, rfl⟩ | ⟨hne, h⟩
    · exact (M.put_ok p ((hm.ok r' x hx)) k1 hz hl).1.stab hfz fun _ h => h
    · exact (hm.ok r' x' h).stab hfz fun _ h => h
  · intro r' x' h
    rcases hcase r' x' h with ⟨rfl, rfl⟩ | ⟨hne, h⟩
    · exact hputin
    · exact (hm.ins r' x' h).stab fun g' hg' => hoth g' (by rintro rfl; exact hm.dis r' r x' x h hx hne _ hg' hgx)
  · intro r' x' h
    rcases hcase r' x' h with ⟨rfl, rfl⟩ | ⟨hne, h⟩
    · rw [i2 y]
      simp only [List.nodup_append, List.mem_append]
      have hy : ∀ g', g' ∈ A ∨ g' ∈ B → g' ∉ M.ids y := fun g' h => k5 r' x hx g' (by rw [i1]; simp only [List.mem_append]; rcases h with h | h <;> simp [h])
      refine ⟨⟨nA, k3, fun a ha b hb e => hy a (.inl ha) (e ▸ hb)⟩, nB, fun a ha b hb e => ?_⟩
      rcases ha with ha | ha
      · exact nAB a (.inl ha) b hb e
      · exact hy b (.inr hb) (e ▸ ha)
    · exact hm.nd r' x' h
  · intro r' x' h hb
    rcases hcase r' x' h with ⟨rfl, rfl⟩ | ⟨hne, h⟩
    · have hb0 : x.bx = none := hb
      by_cases hp : p = []
      · subst hp
        unfold G.at_ at hat
        simp only [hb0] at hat
        cases hat
      · exact (M.put_head (hrow hb0) hz hp).2
    · exact hm.row r' x' h hb
  · intro r' x' h g' hg'
    rcases hcase r' x' h with ⟨rfl, rfl⟩ | ⟨hne, h⟩
    · rcases hin g' hg' with h | h
      · exact hm.own r' x hx g' h.1
      · exact k4 g' h
    · exact hm.own r' x' h g' hg'
  · intro r1 r2 x1 x2 e1 e2 hne g' hg1 hg2
    rcases hcase r1 x1 e1 with ⟨q1, q1'⟩ | ⟨h1', f1⟩
    · rcases hcase r2 x2 e2 with ⟨q2, q2'⟩ | ⟨h2', f2⟩
      · exact hne (q1.trans q2.symm)
      · rcases hin g' (q1' ▸ hg1) with h | h
        · exact hm.dis r r2 x x2 hx f2 (fun e => h2' e.symm) g' h.1 hg2
        · exact k5 r2 x2 f2 g' hg2 h
    · rcases hcase r2 x2 e2 with ⟨q2, q2'⟩ | ⟨h2', f2⟩
      · rcases hin g' (q2' ▸ hg2) with h | h
        · exact hm.dis r1 r x1 x f1 hx h1' g' hg1 h.1
        · exact k5 r1 x1 f1 g' hg1 h
      · exact hm.dis r1 r2 x1 x2 f1 f2 hne g' hg1 hg2
  · simp only [M.OkL]
    exact ⟨hzok.1.stab hfz fun _ h => h, ht.hok.stab hfz fun _ h => h⟩
  · simp only [M.InL]
    refine ⟨M.In.stab (fun g' hg' => hoth g' ?_) hzok.2, M.InL.stab (fun g' hg' => hoth g' ?_) ht.hin⟩
    · rintro rfl; exact G.at_notin hrow hnd hz hat hg'
    · rintro rfl; exact ht.hdis r x hx _ hgx hg'
  · simp only [M.idsL, List.nodup_append]
    refine ⟨nz, ht.hnd, fun a ha b hb e => ?_⟩
    subst e
    exact ht.hdis r x hx a (by rw [i1]; simp [ha]) hb
  · intro g' hg'
    simp only [M.idsL, List.mem_append] at hg'
    rcases hg' with hg' | hg'
    · exact hm.own r x hx g' (by rw [i1]; simp [hg'])
    · exact ht.hown g' hg'
  · intro r' x' h g' hg' hh
    simp only [M.idsL, List.mem_append] at hh
    rcases hcase r' x' h with ⟨rfl, rfl⟩ | ⟨hne, h⟩
    · rcases hin g' hg' with ⟨h, hab⟩ | h
      · rcases hh with hh | hh
        · rcases hab with ha | hb
          · exact nAz g' ha g' hh rfl
          · exact nAB g' (.inr hh) g' hb rfl
        · exact ht.hdis r' x hx g' h hh
      · rcases hh with hh | hh
        · exact k5 r' x hx g' (by rw [i1]; simp [hh]) h
        · exact k6 g' h hh
    · rcases hh with hh | hh
      · exact hm.dis r' r x' x h hx hne g' hg' (by rw [i1]; simp [hh])
      · exact ht.hdis r' x' h g' hg' hh
  · intro r' x' b h hb
    rcases hcase r' x' h with ⟨rfl, rfl⟩ | ⟨hne, h⟩
    · obtain ⟨l1, l2⟩ := hm.lent r' x b hx hb
      refine ⟨l1, fun hn => ?_⟩
      rw [← l2 hn]
      have hb' : x.bx = none := l1.trans hn
      by_cases hp : p = []
      · subst hp
        unfold G.at_ at hat
        simp only [hb'] at hat
        cases hat
      · exact (M.put_head (hrow hb') hz hp).1
    · exact hm.lent r' x' b h hb

theorem Lies.written {g o : Nat} {cs : List Value} (h : Lies w g o cs) : Written w w g o cs := by
  obtain ⟨te, fr, L, R, h1, h2, h3⟩ := h
  exact ⟨te, fr, L, cs, R, h1, rfl, h2, h2, fun _ _ => rfl⟩

theorem Mem.lies (hm : Mem Z gs hs Fz w) {r : Rid} {x : G} (hx : gs r = some x) {p : List Stp} {m' : M} {g o : Nat} (h1 : M.get x.m p = some m') (h2 : x.at_ p = some (g, o)) : Lies w g o (M.cells m') ∧ M.In w m' ∧ M.Ok w Fz m' := by
  have h0 : ∀ t, VV w Fz (ptrOk Z gs) (slcOk gs) ((⟨#[], []⟩ : Act).tmps.getD t undef) ((fun _ => D.undef) t) := fun t => by simp only [VV]
  exact (hm.inv (st := ⟨fun _ => .undef, fun r => (gs r).map G.root⟩) (a := ⟨#[], []⟩) (fun _ => rfl) h0 rfl).lies hx h1 h2

/-- The same, the cells being those that were there. -/
theorem Mem.swap0 {y : M} (hm : Mem Z gs (y :: hs) Fz w) {r : Rid} {x : G} {p : List Stp} {z : M} (hx : gs r = some x) (hz : M.get x.m p = some z)
    (hc : M.cells y = M.cells z) (hy : isAgg (M.data y) = isAgg (M.data z)) : Mem Z (upd gs r (some (x.put p y))) (z :: hs) Fz w := by
  cases hat : x.at_ p with
  | some q =>
    obtain ⟨g, o⟩ := q
    have := (hm.lies hx hz hat).1
    rw [← hc] at this
    exact hm.swap hx hz hat (by rw [hc]) this.written rfl (Same.refl w)
  | none =>
    have hb : x.bx = none := by
      cases hb : x.bx with
      | none => rfl
      | some b =>
        obtain ⟨g, o, h⟩ := M.get_at p b.1 0 hz
        unfold G.at_ at hat
        simp only [hb, h] at hat
        cases hat
    have hp : p = [] := by
      cases p with
      | nil => rfl
      | cons s p =>
        obtain ⟨g, o, h⟩ := M.get_at (s :: p) 0 0 hz
        unfold G.at_ at hat
        simp only [hb, h] at hat
        cases hat
    subst hp
    rw [M.get_nil] at hz
    obtain rfl := Option.some.inj hz
    have h1 := hm.lift hx
    have hput : x.put [] y = ⟨none, y⟩ := by unfold G.put; rw [M.put_nil, hb]
    rw [hput]
    -- x.m :: y :: hs → y :: x.m :: hs
    have h2 : Mem Z (upd gs r none) (y :: x.m :: hs) Fz w := by
      have a1 := h1.hok
      have a2 := h1.hin
      have a3 := h1.hnd
      simp only [M.OkL, M.InL, M.idsL] at a1 a2 a3
      refine h1.sub (by simp only [M.OkL]; exact ⟨a1.2.1, a1.1, a1.2.2⟩) (by simp only [M.InL]; exact ⟨a2.2.1, a2.1, a2.2.2⟩) ?_ (fun g hg => by simp only [M.idsL, List.mem_append] at hg ⊢; rcases hg with h | h | h <;> simp [h])
      simp only [M.idsL]
      refine (List.Perm.nodup_iff ?_).1 a3
      rw [← List.append_assoc, ← List.append_assoc]
      exact List.Perm.append_right _ List.perm_append_comm
    have hrow := hm.row r x hx hb
    cases hl : Z.lent r with
    | none =>
      have := h2.root r hl ⟨none, y⟩ rfl (fun _ => by rw [hy]; exact hrow) (fun g te h => by cases h)
      have e : upd (upd gs r none) r (some (⟨none, y⟩ : G)) = upd gs r (some ⟨none, y⟩) := by funext i; unfold upd; split <;> rfl
      rwa [e] at this
    | some b =>
      let Z' : Zone := { Z with lent := fun r' => if r' = r then none else Z.lent r', lent99 := fun r' b h => (by split at h; cases h; exact Z.lent99 r' b h) }
      have hlent : ∀ r' x' b', upd gs r none r' = some x' → Z'.lent r' = some b' → x'.bx = b'.1 ∧ (b'.1 = none → M.cells x'.m = b'.2) := by
        intro r' x' b' h hb'
        simp only [Z'] at hb'
        split at hb'
        · cases hb'
        · exact h2.lent r' x' b' h hb'
      have hz' : Mem Z' (upd gs r none) (y :: x.m :: hs) Fz w := { h2 with keeps := ⟨h2.keeps.os, h2.keeps.tape, h2.keeps.output, h2.keeps.size, h2.keeps.block⟩, lent := hlent }
      have := hz'.root r (by simp [Z']) ⟨none, y⟩ rfl (fun _ => by rw [hy]; exact hrow) (fun g te h => by cases h)
      have e : upd (upd gs r none) r (some (⟨none, y⟩ : G)) = upd gs r (some ⟨none, y⟩) := by funext i; unfold upd; split <;> rfl
      rw [e] at this
      have hlent2 : ∀ r' x' b', upd gs r (some (⟨none, y⟩ : G)) r' = some x' → Z.lent r' = some b' → x'.bx = b'.1 ∧ (b'.1 = none → M.cells x'.m = b'.2) := by
        intro r' x' b' h hb'
        unfold upd at h
        split at h
        · rename_i e'
          subst e'
          obtain rfl := Option.some.inj h
          obtain ⟨l1, l2⟩ := hm.lent r' x b' hx hb'
          exact ⟨by rw [← l1, hb], fun hn => by rw [← l2 hn]; exact hc⟩
        · exact hm.lent r' x' b' h hb'
      exact { this with keeps := h2.keeps, lent := hlent2 }

/-- What is in hand is read from now on. -/
theorem Mem.freeze {m : M} (hm : Mem Z gs (m :: hs) Fz w) : Mem Z gs (M.frz m :: hs) (fun g => Fz g ∨ g ∈ M.ids m) w := by
  obtain ⟨k1, k2, k3, k4, k5, k6⟩ := hm.head
  have ht := hm.tail
  have hf : ∀ g, Fz g → Fz g ∨ g ∈ M.ids m := fun g h => .inl h
  refine { ok := fun r x h => (hm.ok r x h).stab (fun _ _ => rfl) hf, ins := hm.ins, nd := hm.nd, row := hm.row, own := ?_, dis := hm.dis, hok := ?_, hin := ?_, hnd := ?_, hown := ?_, hdis := ?_, fz := ?_, fz0 := fun g h => .inl (hm.fz0 g h), fzo := ?_, keeps := hm.keeps, lent := hm.lent }
  · intro r x h g hg
    refine ⟨(hm.own r x h g hg).1, fun hh => ?_⟩
    rcases hh with hh | hh
    · exact (hm.own r x h g hg).2 hh
    · exact k5 r x h g hg hh
  · simp only [M.OkL]
    exact ⟨M.frz_ok hf k1 k2 (fun g hg => .inr hg), ht.hok.stab (fun _ _ => rfl) hf⟩
  · simp only [M.InL]
    exact ⟨M.frz_in m, ht.hin⟩
  · simp only [M.idsL, M.frz_ids, List.nil_append]
    exact ht.hnd
  · intro g hg
    simp only [M.idsL, M.frz_ids, List.nil_append] at hg
    refine ⟨(ht.hown g hg).1, fun hh => ?_⟩
    rcases hh with hh | hh
    · exact (ht.hown g hg).2 hh
    · exact k6 g hh hg
  · intro r x h g hg hh
    simp only [M.idsL, M.frz_ids, List.nil_append] at hh
    exact ht.hdis r x h g hg hh
  · intro g hg
    rcases hg with hg | hg
    · exact hm.fz g hg
    · exact k2.lt g hg
  · intro g hg
    rcases hg with hg | hg
    · exact hm.fzo g hg
    · exact .inr (k4 g hg).1

end
end Go.Lft

/- What lives on; data taken out of the frame. -/
namespace Go.Lft

section
variable {P : Program} {T : Tb} {Z : Zone} {gs gs' : Rid → Option G} {hs : List M} {Fz Fz' : Nat → Prop} {st : St} {a : Act} {w w' : World}

theorem G.put_at {x : G} {p q : List Stp} {y z u : M} (h1 : M.get x.m p = some z) (hb : behind p q = false) (h2 : M.get x.m q = some u) (hl : (M.cells y).length = (M.cells z).length) : (x.put p y).at_ q = x.at_ q := by
  obtain ⟨z', k1, k2, k3, k4⟩ := M.put_get p q h1 hb h2 hl
  unfold G.at_ G.put
  cases x.bx with
  | some b => simp only [k4]
  | none => cases q <;> simp only [k4]

theorem lives_put {r : Rid} {x : G} {p : List Stp} {y z : M} {k : Kr} (hx : gs r = some x) (hz : M.get x.m p = some z) (hl : (M.cells y).length = (M.cells z).length)
    (hk1 : ∀ q, (M.get x.m q).isSome = true → k.ptr r q = false → behind p q = false) (hk2 : ∀ q, (M.get x.m q).isSome = true → k.slc r q = false → behind p q = false ∧ (p = q → ∀ off len v, SlcVal z off len v → SlcVal y off len v))
    (hw : ∀ g, Fz g → w'.heap[g]? = w.heap[g]?) (hf : ∀ g, Fz g → Fz' g) :
    Lives w w' Fz Fz' (ptrOk Z gs) (ptrOk Z (upd gs r (some (x.put p y)))) (slcOk gs) (slcOk (upd gs r (some (x.put p y)))) k := by
  refine ⟨hw, hf, fun r' q v hk h => ?_, fun r' q off len v hk h => ?_⟩
  · obtain ⟨x', g, o, h1, h2, h3, h4⟩ := h
    by_cases hr : r' = r
    · subst hr
      rw [hx] at h1
      obtain rfl := Option.some.inj h1
      obtain ⟨u, hu⟩ := Option.isSome_iff_exists.1 h3
      have hb := hk1 q h3 hk
      obtain ⟨z', k1, _⟩ := M.put_get p q hz hb hu hl
      exact ⟨_, g, o, upd_self .., by rw [G.put_at hz hb hu hl, h2], by simp only [G.put, k1, Option.isSome_some], h4⟩
    · exact ⟨x', g, o, by rw [upd_ne _ _ hr, h1], h2, h3, h4⟩
  · obtain ⟨x', m, h1, h2, h3⟩ := h
    by_cases hr : r' = r
    · subst hr
      rw [hx] at h1
      obtain rfl := Option.some.inj h1
      obtain ⟨hb, he⟩ := hk2 q (by rw [h2]; rfl) hk
      obtain ⟨z', k1, k2, k3, _⟩ := M.put_get p q hz hb h2 hl
      refine ⟨_, z', upd_self .., k1, ?_⟩
      by_cases hpq : p = q
      · subst hpq
        obtain rfl := k3 rfl
        rw [hz] at h2
        obtain rfl := Option.some.inj h2
        exact he rfl _ _ _ h3
      · exact h3.head (k2 hpq)
    · exact ⟨x', m, by rw [upd_ne _ _ hr, h1], h2, h3⟩

theorem krs_one (k : Kill) : krs [k] = k.kr := by
  simp only [krs, Kr.or, Kr.none, Bool.or_false]

theorem krs_append : ∀ (a b : List Kill), krs (a ++ b) = Kr.or (krs a) (krs b)
  | [], b => by simp only [List.nil_append, krs, Kr.or, Kr.none, Bool.false_or]
  | k :: a, b => by simp only [List.cons_append, krs, krs_append a b, Kr.or, Bool.or_assoc]

theorem kill_ptr {r : Rid} {p q : List Stp} {b : Bool} (h : (krs [⟨r, p, false, b⟩]).ptr r q = false) : behind p q = false := by
  rw [krs_one] at h
  simp only [Kill.kr, decide_eq_false_iff_not, true_and, Bool.false_eq_true, false_or] at h
  cases hb : behind p q with
  | false => rfl
  | true => exact absurd (behind_kill hb) h

theorem kill_slc {r : Rid} {p q : List Stp} {b : Bool} (h : (krs [⟨r, p, false, b⟩]).slc r q = false) : behind p q = false ∧ (b = true → p ≠ q) := by
  rw [krs_one] at h
  simp only [Kill.kr, decide_eq_false_iff_not, true_and, Bool.false_eq_true, false_or] at h
  refine ⟨?_, fun hb e => ?_⟩
  · cases hb : behind p q with
    | false => rfl
    | true => exact absurd ⟨(behind_kill hb).1, .inr (behind_kill hb).2⟩ h
  · subst e hb
    exact h ⟨meets_self p, .inl rfl⟩

theorem lives_gone {r : Rid} (hg : ∀ r', r' ≠ r → gs' r' = gs r') (hw : ∀ g, Fz g → w'.heap[g]? = w.heap[g]?) (hf : ∀ g, Fz g → Fz' g) : Lives w w' Fz Fz' (ptrOk Z gs) (ptrOk Z gs') (slcOk gs) (slcOk gs') (krs [⟨r, [], true, true⟩]) := by
  refine ⟨hw, hf, fun r' q v hk h => ?_, fun r' q off len v hk h => ?_⟩
  · rw [krs_one] at hk
    simp only [Kill.kr, decide_eq_false_iff_not, true_or, and_true] at hk
    obtain ⟨x', g, o, h1, h2⟩ := h
    exact ⟨x', g, o, by rw [hg r' hk, h1], h2⟩
  · rw [krs_one] at hk
    simp only [Kill.kr, decide_eq_false_iff_not, true_or, and_true] at hk
    obtain ⟨x', m, h1, h2⟩ := h
    exact ⟨x', m, by rw [hg r' hk, h1], h2⟩

theorem lives_hand (hw : ∀ g, Fz g → w'.heap[g]? = w.heap[g]?) (hf : ∀ g, Fz g → Fz' g) : Lives w w' Fz Fz' (ptrOk Z gs) (ptrOk Z gs) (slcOk gs) (slcOk gs) Kr.none :=
  ⟨hw, hf, fun _ _ _ _ h => h, fun _ _ _ _ _ _ h => h⟩

theorem Lives.trans {w w' w'' : World} {F F' F'' : Nat → Prop} {pp pp' pp'' : PP} {ps ps' ps'' : PS} {k k' : Kr} (h1 : Lives w w' F F' pp pp' ps ps' k) (h2 : Lives w' w'' F' F'' pp' pp'' ps' ps'' k') : Lives w w'' F F'' pp pp'' ps ps'' (Kr.or k k') := by
  refine ⟨fun g h => (h2.heap g (h1.fz g h)).trans (h1.heap g h), fun g h => h2.fz g (h1.fz g h), fun r p v hk h => ?_, fun r p off len v hk h => ?_⟩
  · simp only [Kr.or, Bool.or_eq_false_iff] at hk
    exact h2.ptr r p v hk.2 (h1.ptr r p v hk.1 h)
  · simp only [Kr.or, Bool.or_eq_false_iff] at hk
    exact h2.slc r p off len v hk.2 (h1.slc r p off len v hk.1 h)

theorem Lives.krs_trans {w w' w'' : World} {F F' F'' : Nat → Prop} {pp pp' pp'' : PP} {ps ps' ps'' : PS} {k k' : List Kill} (h1 : Lives w w' F F' pp pp' ps ps' (krs k)) (h2 : Lives w' w'' F' F'' pp' pp'' ps' ps'' (krs k')) : Lives w w'' F F'' pp pp'' ps ps'' (krs (k ++ k')) := by
  rw [krs_append]; exact h1.trans h2

theorem Lives.nil_iff {w w' : World} {F F' : Nat → Prop} {pp pp' : PP} {ps ps' : PS} : Lives w w' F F' pp pp' ps ps' Kr.none ↔ Lives w w' F F' pp pp' ps ps' (krs []) := Iff.rfl

/-! ### Roots, told as data -/
theorem root_put {x : G} {p : List Stp} {y z : M} {c' : D} (hz : M.get x.m p = some z) (h : x.root.c.put p (M.data y) = some c') : ({ x.root with c := c' } : Root) = (x.put p y).root := by
  have := M.put_data p (y := y) hz
  simp only [G.root] at h
  rw [this] at h
  obtain rfl := Option.some.inj h
  rfl

theorem rs_upd {rs : Rid → Option Root} (hrs : ∀ r, rs r = (gs r).map G.root) {r : Rid} {o : Option Root} {g : Option G} (h : o = g.map G.root) : ∀ r', upd rs r o r' = (upd gs r g r').map G.root := by
  intro r'
  unfold upd
  split
  · exact h
  · exact hrs r'

/-! ### What a taking leaves -/
structure Thin (gs gs' : Rid → Option G) : Prop where
  place : ∀ r p x' m', gs' r = some x' → M.get x'.m p = some m' → ∃ x m, gs r = some x ∧ M.get x.m p = some m ∧ (M.data m' ≠ .undef → M.data m ≠ .undef)
  slc : ∀ r p off len v x' m', slcOk gs r p off len v → gs' r = some x' → M.get x'.m p = some m' → M.data m' ≠ .undef → SlcVal m' off len v
  at_ : ∀ r p x m x' m', gs r = some x → M.get x.m p = some m → gs' r = some x' → M.get x'.m p = some m' → x'.at_ p = x.at_ p

theorem Thin.refl (gs : Rid → Option G) : Thin gs gs := by
  refine ⟨fun r p x' m' h1 h2 => ⟨x', m', h1, h2, id⟩, fun r p off len v x' m' h h1 h2 _ => ?_, fun r p x m x' m' h1 h2 h3 h4 => ?_⟩
  · obtain ⟨x, m, e1, e2, e3⟩ := h
    rw [h1] at e1
    obtain rfl := Option.some.inj e1
    rw [h2] at e2
    obtain rfl := Option.some.inj e2
    exact e3
  · rw [h1] at h3
    obtain rfl := Option.some.inj h3
    rfl

theorem Thin.trans {g1 g2 g3 : Rid → Option G} (h1 : Thin g1 g2) (h2 : Thin g2 g3) : Thin g1 g3 := by
  refine ⟨fun r p x' m' e1 e2 => ?_, fun r p off len v x' m' h e1 e2 hn => ?_, fun r p x m x' m' k1 k2 e1 e2 => ?_⟩
  · obtain ⟨x, m, f1, f2, f3⟩ := h2.place r p x' m' e1 e2
    obtain ⟨x0, m0, g1, g2, g3⟩ := h1.place r p x m f1 f2
    exact ⟨x0, m0, g1, g2, fun h => g3 (f3 h)⟩
  · obtain ⟨x, m, f1, f2, f3⟩ := h2.place r p x' m' e1 e2
    exact h2.slc r p off len v x' m' ⟨x, m, f1, f2, h1.slc r p off len v x m h f1 f2 (f3 hn)⟩ e1 e2 hn
  · obtain ⟨x2, m2, f1, f2, _⟩ := h2.place r p x' m' e1 e2
    rw [h2.at_ r p x2 m2 x' m' f1 f2 e1 e2, h1.at_ r p x m x2 m2 k1 k2 f1 f2]

theorem Thin.ptr {g1 g2 : Rid → Option G} (h : Thin g1 g2) {r : Rid} {p : List Stp} {v : Value} {x : G} {m : M} (hp : ptrOk Z g1 r p v) (h1 : g2 r = some x) (h2 : M.get x.m p = some m) : ptrOk Z g2 r p v := by
  obtain ⟨x0, g, o, e1, e2, e3, e4⟩ := hp
  obtain ⟨m0, e5⟩ := Option.isSome_iff_exists.1 e3
  exact ⟨x, g, o, h1, by rw [h.at_ r p x0 m0 x m e1 e5 h1 h2, e2], by rw [h2]; rfl, e4⟩

theorem thin_none (gs : Rid → Option G) (r : Rid) : Thin gs (upd gs r none) := by
  refine ⟨fun r' p x' m' h1 h2 => ⟨x', m', (upd_none h1).2, h2, id⟩, fun r' p off len v x' m' h h1 h2 _ => ?_, fun r' p x m x' m' h1 h2 h3 h4 => ?_⟩
  · obtain ⟨x, m, e1, e2, e3⟩ := h
    rw [(upd_none h1).2] at e1
    obtain rfl := Option.some.inj e1
    rw [h2] at e2
    obtain rfl := Option.some.inj e2
    exact e3
  · rw [(upd_none h3).2] at h1
    obtain rfl := Option.some.inj h1
    rfl

def G.base (x : G) : Nat := match x.bx with | some (g, _) => g | none => 0
theorem G.at_cons (x : G) {q : List Stp} (h : q ≠ []) : x.at_ q = M.at_ x.m x.base 0 q := by
  unfold G.at_ G.base
  cases x.bx with
  | some b => rfl
  | none => cases q with
    | nil => exact absurd rfl h
    | cons s q => rfl

/-- What stands in for a part has no place that the part had not. -/
structure Sub (z y : M) : Prop where
  len : (M.cells y).length = (M.cells z).length
  sub : ∀ q m', M.get y q = some m' → ∃ m, M.get z q = some m ∧ (M.data m' ≠ .undef → M.data m ≠ .undef ∧ ∀ off len v, SlcVal m off len v → SlcVal m' off len v) ∧ ∀ g o, M.at_ y g o q = M.at_ z g o q

theorem HeadSame.undef {m m' : M} (h : HeadSame m m') (hn : M.data m' ≠ .undef) : M.data m ≠ .undef := by
  cases m with
  | leaf v d => simp only [HeadSame] at h; subst h; exact hn
  | agg xs => simp [M.data]
  | lst => simp [M.data]

/-- What tells nothing. -/
theorem Sub.hole {z y : M} (h1 : M.cells y = M.cells z) (h2 : M.data y = .undef) : Sub z y := by
  refine ⟨by rw [h1], fun q m' h => ?_⟩
  cases y with
  | leaf v d =>
    cases q with
    | nil =>
      rw [M.get_nil] at h
      obtain rfl := Option.some.inj h
      exact ⟨z, M.get_nil z, fun hn => absurd h2 hn, fun g o => by rw [M.at_nil, M.at_nil]⟩
    | cons s q => simp [M.get] at h
  | agg xs => simp [M.data] at h2
  | lst => simp [M.data] at h2

theorem thin_put {r : Rid} {x : G} {p : List Stp} {z y : M} (hx : gs r = some x) (hz : M.get x.m p = some z) (hs : Sub z y) : Thin gs (upd gs r (some (x.put p y))) := by
  have hl := hs.len
  have key : ∀ q m', M.get (M.put x.m p y) q = some m' → ∃ m, M.get x.m q = some m ∧ (M.data m' ≠ .undef → M.data m ≠ .undef ∧ ∀ off len v, SlcVal m off len v → SlcVal m' off len v) ∧ (x.put p y).at_ q = x.at_ q := by
    intro q m' h
    cases hb : behind p q with
    | false =>
      obtain ⟨z', h1, h2⟩ := M.put_get_rev hz hb h hl
      refine ⟨z', h1, fun hn => ?_, G.put_at hz hb h1 hl⟩
      by_cases hpq : p = q
      · subst hpq
        rw [M.get_put p hz] at h
        obtain rfl := Option.some.inj h
        rw [hz] at h1
        obtain rfl := Option.some.inj h1
        obtain ⟨m, e1, e2, e3⟩ := hs.sub [] y (M.get_nil y)
        rw [M.get_nil] at e1
        obtain rfl := Option.some.inj e1
        exact e2 hn
      · exact ⟨(h2 hpq).undef hn, fun off len v hsv => hsv.head (h2 hpq)⟩
    | true =>
      obtain ⟨s, q', rfl⟩ := behind_append hb
      rw [M.get_append, M.get_put p hz, Option.bind_some] at h
      obtain ⟨u, h1, h2, h3⟩ := hs.sub _ _ h
      refine ⟨u, by rw [M.get_append, hz, Option.bind_some, h1], h2, ?_⟩
      rw [G.at_cons _ (by simp), G.at_cons _ (by simp)]
      obtain ⟨g', o', hat⟩ := M.get_at p x.base 0 hz
      obtain ⟨_, _, _, _, k4⟩ := M.put_get p p (y := y) hz (behind_self p) hz hl
      rw [M.at_append p (s :: q') hz hat]
      have : M.at_ (M.put x.m p y) x.base 0 p = some (g', o') := by rw [k4, hat]
      exact (M.at_append p (s :: q') (M.get_put p hz) this).trans (h3 g' o')
  refine ⟨fun r' q x' m' h1 h2 => ?_, fun r' q off len v x' m' h h1 h2 hn => ?_, fun r' q x0 m0 x' m' h0 hm0 h1 h2 => ?_⟩
  · unfold upd at h1
    split at h1
    · rename_i e
      subst e
      obtain rfl := Option.some.inj h1
      obtain ⟨m, k1, k2, _⟩ := key q m' h2
      exact ⟨x, m, hx, k1, fun hn => (k2 hn).1⟩
    · exact ⟨x', m', h1, h2, id⟩
  · obtain ⟨x0, m0, e1, e2, e3⟩ := h
    unfold upd at h1
    split at h1
    · rename_i e
      subst e
      obtain rfl := Option.some.inj h1
      obtain ⟨m, k1, k2, _⟩ := key q m' h2
      rw [hx] at e1
      obtain rfl := Option.some.inj e1
      rw [k1] at e2
      obtain rfl := Option.some.inj e2
      exact (k2 hn).2 _ _ _ e3
    · rw [h1] at e1
      obtain rfl := Option.some.inj e1
      rw [h2] at e2
      obtain rfl := Option.some.inj e2
      exact e3
  · unfold upd at h1
    split at h1
    · rename_i e
      subst e
      obtain rfl := Option.some.inj h1
      obtain ⟨m, k1, k2, k3⟩ := key q m' h2
      rw [hx] at h0
      obtain rfl := Option.some.inj h0
      exact k3
    · rw [h1] at h0
      obtain rfl := Option.some.inj h0
      rfl

theorem M.frz_at : ∀ (p : List Stp) {m z : M} (g o : Nat), M.get (M.frz m) p = some z → M.at_ (M.frz m) g o p = M.at_ m g o p
  | [], m, z, g, o, h => by rw [M.at_nil, M.at_nil]
  | s :: p, m, z, g, o, h => by
    cases m with
    | leaf v d => cases s <;> simp [M.frz, M.get] at h
    | lst g tg te e xs rest fr => cases s <;> simp [M.frz, M.get] at h
    | agg xs =>
      cases s with
      | elm i => simp [M.frz, M.get] at h
      | fld i =>
        simp only [M.frz, M.get, Option.bind_eq_some_iff, M.frzL_map, List.getElem?_map, Option.map_eq_some_iff] at h
        obtain ⟨y, ⟨u, h1, rfl⟩, h2⟩ := h
        simp only [M.frz, M.at_, M.frzL_map, List.getElem?_map, h1, Option.map_some, Option.bind_some]
        rw [← List.map_take, ← M.frzL_map, M.frzL_cells]
        exact M.frz_at p _ _ h2

theorem Sub.frz (z : M) : Sub z (M.frz z) :=
  ⟨by rw [M.frz_cells], fun q m' h => by
    obtain ⟨x, h1, rfl⟩ := M.frz_get q h
    exact ⟨x, h1, fun hn => ⟨fun hu => hn (by rw [M.frz_data, hu]; simp only [D.freeze]), fun off len v hs => hs.frz⟩, fun g o => M.frz_at q g o h⟩⟩

theorem thin_frz {r : Rid} {x : G} {p : List Stp} {z : M} (hx : gs r = some x) (hz : M.get x.m p = some z) : Thin gs (upd gs r (some (x.put p (M.frz z)))) := thin_put hx hz (Sub.frz z)

theorem lives_frz {r : Rid} {x : G} {p : List Stp} {z : M} (hx : gs r = some x) (hz : M.get x.m p = some z) (hf : ∀ g, Fz g → Fz' g) :
    Lives w w Fz Fz' (ptrOk Z gs) (ptrOk Z (upd gs r (some (x.put p (M.frz z))))) (slcOk gs) (slcOk (upd gs r (some (x.put p (M.frz z))))) (krs [⟨r, p, false, false⟩]) :=
  lives_put hx hz (by rw [M.frz_cells]) (fun q _ h => kill_ptr h) (fun q _ h => ⟨(kill_slc h).1, fun e off len v hs => hs.frz⟩) (fun _ _ => rfl) hf

theorem M.junk {z : M} (hzok : M.Ok w Fz z ∧ M.In w z) : ∃ y : M, M.Ok w Fz y ∧ M.In w y ∧ M.ids y = [] ∧ M.cells y = M.cells z ∧ isAgg (M.data y) = isAgg (M.data z) ∧ (isAgg (M.data z) = false → M.data y = .undef) := by
  have hone : ∀ v ∈ M.cells z, v.oneCell' = true := (M.frep (Fz' := fun _ => True) (fun _ _ => trivial) hzok.1 hzok.2 (fun _ _ => trivial)).one
  have hun : ∀ cs : List Value, (∀ v ∈ cs, v.oneCell' = true) → ∃ ys : List M, M.OkL w Fz ys ∧ M.InL w ys ∧ M.idsL ys = [] ∧ M.cellsL ys = cs := by
    intro cs
    induction cs with
    | nil => intro _; exact ⟨[], by simp only [M.OkL], by simp only [M.InL], rfl, rfl⟩
    | cons v cs ih =>
      intro h
      obtain ⟨ys, h1, h2, h3, h4⟩ := ih fun u hu => h u (List.mem_cons_of_mem _ hu)
      refine ⟨.leaf v .undef :: ys, ?_, ?_, ?_, ?_⟩
      · simp only [M.OkL, M.Ok, FRep, isAgg]; exact ⟨⟨⟨v, rfl, h v (List.mem_cons_self ..)⟩, trivial⟩, h1⟩
      · simp only [M.InL, M.In]; exact ⟨trivial, h2⟩
      · simp only [M.idsL, M.ids, h3, List.append_nil]
      · simp only [M.cellsL, M.cells, h4]; rfl
  cases z with
  | leaf v d =>
    refine ⟨.leaf v .undef, ?_, by simp only [M.In], rfl, rfl, ?_, fun _ => rfl⟩
    · simp only [M.Ok, FRep, isAgg]; exact ⟨⟨v, rfl, hone v (by simp [M.cells])⟩, trivial⟩
    · have := hzok.1; simp only [M.Ok] at this; simp only [M.data, this.2]; rfl
  | agg xs =>
    obtain ⟨ys, h1, h2, h3, h4⟩ := hun (M.cellsL xs) (by simpa only [M.cells] using hone)
    exact ⟨.agg ys, by simpa only [M.Ok] using h1, by simpa only [M.In] using h2, by simpa only [M.ids] using h3, by simpa only [M.cells] using h4, rfl, fun h => by simp [M.data, isAgg] at h⟩
  | lst g tg te e xs rest fr =>
    refine ⟨.leaf (.slice (some ⟨g, 0, none⟩) xs.length (xs.length + rest.length / e)) .undef, ?_, by simp only [M.In], rfl, rfl, rfl, fun _ => rfl⟩
    simp only [M.Ok, FRep, isAgg]
    exact ⟨⟨_, rfl, rfl⟩, trivial⟩


theorem Mem.part (hm : Mem Z gs hs Fz w) {r : Rid} {x : G} {p : List Stp} {z : M} (hx : gs r = some x) (hz : M.get x.m p = some z) : M.Ok w Fz z ∧ M.In w z := by
  obtain ⟨m', e1, e2, e3⟩ := M.get_data p (hm.ok r x hx) (M.get_data' p hz)
  rw [hz] at e1
  obtain rfl := Option.some.inj e1
  exact ⟨e3, M.get_in p (hm.ins r x hx).2 hz⟩

/-- A part comes in hand; a part without blocks takes its place. -/
theorem Mem.pull (hm : Mem Z gs hs Fz w) {r : Rid} {x : G} {p : List Stp} {z : M} (hx : gs r = some x) (hz : M.get x.m p = some z) :
    ∃ y : M, Mem Z (upd gs r (some (x.put p y))) (z :: hs) Fz w ∧ M.cells y = M.cells z ∧ isAgg (M.data y) = isAgg (M.data z) ∧ M.ids y = [] ∧ (isAgg (M.data z) = false → M.data y = .undef) := by
  obtain ⟨y, y1, y2, y3, y4, y5, y6⟩ := M.junk (hm.part hx hz)
  exact ⟨y, (hm.leaf y1 y2 y3).swap0 hx hz y4 y5, y4, y5, y3, y6⟩

/-- What was pulled, or what has the same header, goes back. -/
theorem Mem.back {x : G} {p : List Stp} {z y m : M} {r : Rid} (hm : Mem Z (upd gs r (some (x.put p y))) (m :: hs) Fz w) (hz : M.get x.m p = some z) (h1 : M.cells m = M.cells y) (h2 : isAgg (M.data m) = isAgg (M.data y)) :
    Mem Z (upd gs r (some (x.put p m))) hs Fz w := by
  have h3 := hm.swap0 (r := r) (x := x.put p y) (p := p) (z := y) (upd_self ..) (by simp only [G.put]; exact M.get_put p hz) h1 h2
  have h4 := h3.tail
  have e1 : (x.put p y).put p m = x.put p m := by simp only [G.put, M.put_put p hz]
  have e2 : ∀ (u v : Option G), upd (upd gs r u) r v = upd gs r v := by intro u v; funext i; unfold upd; split <;> rfl
  rw [e1, e2] at h4
  exact h4

/-- A part is read from now on, where it stands. -/
theorem Mem.freeze_at (hm : Mem Z gs hs Fz w) {r : Rid} {x : G} {p : List Stp} {z : M} (hx : gs r = some x) (hz : M.get x.m p = some z) : Mem Z (upd gs r (some (x.put p (M.frz z)))) hs (fun g => Fz g ∨ g ∈ M.ids z) w := by
  -- a part without blocks takes its place meanwhile
  have hzok : M.Ok w Fz z ∧ M.In w z := by
    obtain ⟨m', e1, e2, e3⟩ := M.get_data p (hm.ok r x hx) (M.get_data' p hz)
    rw [hz] at e1
    obtain rfl := Option.some.inj e1
    exact ⟨e3, M.get_in p (hm.ins r x hx).2 hz⟩
  obtain ⟨y, y1, y2, y3, y4, y5, _⟩ := M.junk hzok
  have h1 := (hm.leaf y1 y2 y3).swap0 hx hz y4 y5
  have h2 := h1.freeze
  have h3 := h2.swap0 (r := r) (x := x.put p y) (p := p) (z := y) (upd_self ..) (by simp only [G.put]; exact M.get_put p hz) (by rw [M.frz_cells, y4]) (by rw [M.frz_data, D.freeze_agg, y5])
  have h4 := h3.tail
  have e1 : (x.put p y).put p (M.frz z) = x.put p (M.frz z) := by simp only [G.put, M.put_put p hz]
  have e2 : ∀ (u v : Option G), upd (upd gs r u) r v = upd gs r v := by intro u v; funext i; unfold upd; split <;> rfl
  rw [e1, e2] at h4
  exact h4

/-! ### Data taken -/
theorem slcVal_frz {w : World} {Fz : Nat → Prop} {te e n off len c cap : Nat} {xs : List D} {ad a' : Option Addr} (h : FRep w Fz [.slice ad n cap] (.lst false te e xs)) (h4 : off + c = cap) (h5 : off + len ≤ n) (h6 : (0 < c ∨ off = 0) → a' = ad.map (·.add (off * e))) :
    FRep w Fz [.slice a' len c] (.lst false te e ((xs.drop off).take len)) := by
  simp only [FRep] at h
  obtain ⟨a, cap', e1, e2, e3⟩ := h
  simp only [List.cons.injEq, Value.slice.injEq, and_true] at e1
  obtain ⟨rfl, rfl, rfl⟩ := e1
  exact FRep.sub e3 off len h5 a' c (by omega) (fun hp => h6 (.inl (by omega)))

structure TookOk (Z : Zone) (gs : Rid → Option G) (hs : List M) (Fz : Nat → Prop) (w : World) (rs' : Rid → Option Root) (kill : List Kill) (cs : List Value) (ms : List M) (gs' : Rid → Option G) (Fz' : Nat → Prop) : Prop where
  mem : Mem Z gs' (ms ++ hs) Fz' w
  rs : ∀ r, rs' r = (gs' r).map G.root
  cells : M.cellsL ms = cs
  thin : Thin gs gs'
  fz : ∀ g, Fz g → Fz' g
  lives : Lives w w Fz Fz' (ptrOk Z gs) (ptrOk Z gs') (slcOk gs) (slcOk gs') (krs kill)

theorem took_leaf {rs : Rid → Option Root} (hm : Mem Z gs hs Fz w) (hrs : ∀ r, rs r = (gs r).map G.root) {v : Value} {d : D} (h : FRep w Fz [v] d) (ha : isAgg d = false) : TookOk Z gs hs Fz w rs [] [v] [.leaf v d] gs Fz :=
  { mem := hm.leaf (by simp only [M.Ok]; exact ⟨h, ha⟩) (by simp only [M.In]) rfl
    rs := hrs
    cells := rfl
    thin := Thin.refl gs
    fz := fun _ h => h
    lives := Lives.nil_iff.1 (lives_hand (fun _ _ => rfl) fun _ h => h) }

theorem D.freezeL_take_drop (xs : List D) (off len : Nat) : ((D.freezeL xs).drop off).take len = D.freezeL ((xs.drop off).take len) := (D.freezeL_drop_take xs off len).symm

theorem M.OkL.append {xs ys : List M} (h1 : M.OkL w Fz xs) (h2 : M.OkL w Fz ys) : M.OkL w Fz (xs ++ ys) := M.OkL_append.2 ⟨h1, h2⟩

theorem updAll_append (us vs : List (Rid × Option Root)) (rs : Rid → Option Root) : updAll (us ++ vs) rs = updAll vs (updAll us rs) := by
  induction us generalizing rs with
  | nil => rfl
  | cons u us ih => obtain ⟨r, x⟩ := u; simp only [List.cons_append, updAll, ih]

mutual
theorem take_ok {mv : Nat → Bool} {gs0 : Rid → Option G} {Fz0 : Nat → Prop} : ∀ {d : D} {cs : List Value} {rs : Rid → Option Root} {gs : Rid → Option G} {Fz : Nat → Prop} {hs : List M} {k : Taken},
    Mem Z gs hs Fz w → (∀ r, rs r = (gs r).map G.root) → Thin gs0 gs → (∀ g, Fz0 g → Fz g) → VC w Fz0 (ptrOk Z gs0) (slcOk gs0) cs d → take mv rs d = some k →
    ∃ gs' Fz' m, TookOk Z gs hs Fz w (updAll k.upd rs) k.kill cs [m] gs' Fz' ∧ M.data m = k.d
  | .int _ n, cs, rs, gs, Fz, hs, k, hm, hrs, ht, hf, hv, h => by
    simp only [take, Option.some.injEq] at h; subst h; simp only [VC] at hv
    have hv' := hv.stab (w' := w) (Fz' := Fz) (fun _ _ => rfl) hf
    have hl := hv'.len
    match cs, hl with
    | [v], _ => exact ⟨gs, Fz, _, took_leaf hm hrs hv' rfl, rfl⟩
  | .bool b, cs, rs, gs, Fz, hs, k, hm, hrs, ht, hf, hv, h => by
    simp only [take, Option.some.injEq] at h; subst h; simp only [VC] at hv
    have hv' := hv.stab (w' := w) (Fz' := Fz) (fun _ _ => rfl) hf
    have hl := hv'.len
    match cs, hl with
    | [v], _ => exact ⟨gs, Fz, _, took_leaf hm hrs hv' rfl, rfl⟩
  | .str s, cs, rs, gs, Fz, hs, k, hm, hrs, ht, hf, hv, h => by
    simp only [take, Option.some.injEq] at h; subst h; simp only [VC] at hv
    have hv' := hv.stab (w' := w) (Fz' := Fz) (fun _ _ => rfl) hf
    have hl := hv'.len
    match cs, hl with
    | [v], _ => exact ⟨gs, Fz, _, took_leaf hm hrs hv' rfl, rfl⟩
  | .lst o te e xs, cs, rs, gs, Fz, hs, k, hm, hrs, ht, hf, hv, h => by
    simp only [take, Option.some.injEq] at h; subst h; simp only [VC] at hv
    have hv' := hv.stab (w' := w) (Fz' := Fz) (fun _ _ => rfl) hf
    have hl := hv'.len
    match cs, hl with
    | [v], _ => exact ⟨gs, Fz, _, took_leaf hm hrs hv' rfl, rfl⟩
  | .ifc b, cs, rs, gs, Fz, hs, k, hm, hrs, ht, hf, hv, h => by
    simp only [take, Option.some.injEq] at h; subst h; simp only [VC] at hv
    have hv' := hv.stab (w' := w) (Fz' := Fz) (fun _ _ => rfl) hf
    have hl := hv'.len
    match cs, hl with
    | [v], _ => exact ⟨gs, Fz, _, took_leaf hm hrs hv' rfl, rfl⟩
  | .fn f caps, cs, rs, gs, Fz, hs, k, hm, hrs, ht, hf, hv, h => by simp [take] at h
  | .pto x, cs, rs, gs, Fz, hs, k, hm, hrs, ht, hf, hv, h => by simp [take] at h
  | .ptr r p, cs, rs, gs, Fz, hs, k, hm, hrs, ht, hf, hv, h => by simp [take] at h
  | .tup xs, cs, rs, gs, Fz, hs, k, hm, hrs, ht, hf, hv, h => by simp [take] at h
  | .undef, cs, rs, gs, Fz, hs, k, hm, hrs, ht, hf, hv, h => by simp [take] at h
  | .agg xs, cs, rs, gs, Fz, hs, k, hm, hrs, ht, hf, hv, h => by
    simp only [take, Option.map_eq_some_iff] at h
    obtain ⟨y, h1, rfl⟩ := h
    simp only [VC] at hv
    obtain ⟨gs', Fz', ms, h2, h3⟩ := takeL_ok hm hrs ht hf hv h1
    have hm2 := h2.mem
    refine ⟨gs', Fz', .agg ms, { mem := ?_, rs := h2.rs, cells := by simp only [M.cellsL, M.cells, List.append_nil, h2.cells], thin := h2.thin, fz := h2.fz, lives := h2.lives }, by simp only [M.data, h3]⟩
    have a1 := hm2.hok
    have a2 := hm2.hin
    have a3 := hm2.hnd
    rw [M.OkL_append] at a1
    rw [M.InL_append] at a2
    refine hm2.sub (by simp only [List.cons_append, List.nil_append, M.OkL, M.Ok]; exact a1) (by simp only [List.cons_append, List.nil_append, M.InL, M.In]; exact a2) (by simpa only [List.cons_append, List.nil_append, M.idsL, M.ids, M.idsL_append] using a3) (fun g hg => by simpa only [List.cons_append, List.nil_append, M.idsL, M.ids, M.idsL_append] using hg)
  | .slc r p off len, cs, rs, gs, Fz, hs, k, hm, hrs, ht, hf, hv, h => by
    simp only [take, Option.bind_eq_some_iff] at h
    obtain ⟨root, h1, d0, h2, h3⟩ := h
    rw [hrs] at h1
    obtain ⟨x, hx, rfl⟩ := Option.map_eq_some_iff.1 h1
    obtain ⟨z, hz, rfl, hzok⟩ := M.get_data p (hm.ok r x hx) h2
    simp only [VC] at hv
    obtain ⟨v, rfl, hsv⟩ := hv
    have hs3 := ht.slc r p off len v x z hsv hx hz
    cases hd : M.data z <;> simp only [hd] at h3 <;> try (cases h3; done)
    rename_i own te e xs
    have hs2 := hs3 (by rw [hd]; simp)
    obtain ⟨own1, te1, e1, xs1, ad, n, cap, a', c, j1, j2, rfl, j4, j5, j6⟩ := hs2
    rw [hd] at j1
    simp only [D.lst.injEq] at j1
    obtain ⟨rfl, rfl, rfl, rfl⟩ := j1
    split at h3
    · rename_i hle
      split at h3
      · rename_i hown
        subst hown
        split at h3
        · -- the whole row goes
          rename_i hc
          obtain ⟨rfl, hbox, rfl⟩ := hc
          obtain rfl := Option.some.inj h3
          have hb : x.bx = none := by simpa [G.root] using hbox
          rw [M.get_nil] at hz
          obtain rfl := Option.some.inj hz
          have hl := hm.lift hx
          have hrs' : ∀ r', updAll [(r, (none : Option Root))] rs r' = (upd gs r none r').map G.root := by simp only [updAll]; exact rs_upd hrs rfl
          have hlv : Lives w w Fz Fz (ptrOk Z gs) (ptrOk Z (upd gs r none)) (slcOk gs) (slcOk (upd gs r none)) (krs [⟨r, [], true, true⟩]) := lives_gone (fun r' h => upd_ne _ _ h) (fun _ _ => rfl) fun _ h => h
          have hin := (hm.ins r x hx).2
          have hnd := G.ids_nodup (hm.nd r x hx)
          rcases row_cases hd hzok with ⟨_, g, te', ys, rest, fr, he, rfl⟩ | ⟨_, rfl, he⟩ | ⟨hh, _⟩
          · rw [he] at hzok hin hnd j2
            simp only [M.cells, List.cons.injEq, Value.slice.injEq, and_true] at j2
            obtain ⟨rfl, rfl, rfl⟩ := j2
            simp only [M.Ok] at hzok
            obtain ⟨o1, o2, o3, ⟨kk, o4, o4'⟩, o5, o6⟩ := hzok
            simp only [M.In] at hin
            simp only [M.ids, List.nodup_cons] at hnd
            rw [M.dataL_length] at hle
            have hcl : (M.cellsL (ys.drop len)).length = (ys.length - len) * e := by rw [M.cellsL_len (fun y hy => o3 y (List.mem_of_mem_drop hy)), List.length_drop]
            have hrl : (M.cellsL (ys.drop len) ++ rest).length = (ys.length - len + kk) * e := by rw [List.length_append, hcl, o4, Nat.add_mul]
            have hsplit : M.cellsL (ys.take len) ++ (M.cellsL (ys.drop len) ++ rest) = M.cellsL ys ++ rest := by rw [← List.append_assoc, ← M.cellsL_append, List.take_append_drop]
            have hsubid : ∀ g' ∈ M.idsL (ys.take len), g' ∈ M.idsL ys := fun g' hg' => by
              obtain ⟨y, hy, hg''⟩ := M.mem_idsL.1 hg'
              exact M.mem_idsL.2 ⟨y, List.mem_of_mem_take hy, hg''⟩
            have hndt : (M.idsL (ys.take len)).Nodup := by
              have := hnd.2
              rw [← List.take_append_drop len ys, M.idsL_append] at this
              exact (List.nodup_append.1 this).1
            refine ⟨upd gs r none, Fz, .lst g te te' e (ys.take len) (M.cellsL (ys.drop len) ++ rest) fr, { mem := ?_, rs := hrs', cells := ?_, thin := thin_none gs r, fz := fun _ h => h, lives := hlv }, ?_⟩
            · have hd2 := hl.head
              rw [he] at hd2
              refine hl.sub ?_ ?_ ?_ ?_
              · simp only [List.cons_append, List.nil_append, M.OkL, M.Ok]
                refine ⟨⟨o1, M.OkL_iff.2 fun y hy => M.OkL_iff.1 o2 y (List.mem_of_mem_take hy), fun y hy => o3 y (List.mem_of_mem_take hy), ⟨_, hrl, ?_⟩, o5, ?_⟩, hm.hok⟩
                · rw [List.length_take]; omega
                · rw [hrl, ← Nat.add_mul, List.length_take, Nat.min_eq_left (by omega)]
                  intro i hi
                  refine o6 i ?_
                  rw [o4, ← Nat.add_mul]
                  rwa [show len + (ys.length - len + kk) = ys.length + kk by omega] at hi
              · simp only [List.cons_append, List.nil_append, M.InL, M.In, hsplit]
                exact ⟨⟨hin.1, M.InL_iff.2 fun y hy => M.InL_iff.1 hin.2 y (List.mem_of_mem_take hy)⟩, hm.hin⟩
              · simp only [List.cons_append, List.nil_append, M.idsL, M.ids]
                refine List.nodup_cons.2 ⟨?_, List.nodup_append.2 ⟨hndt, hm.hnd, fun a ha b hb e' => ?_⟩⟩
                · simp only [List.mem_append, not_or]
                  exact ⟨fun hh => hnd.1 (hsubid _ hh), fun hh => hd2.2.2.2.2.2 g (by simp only [M.ids, List.mem_cons, true_or]) hh⟩
                · subst e'
                  exact hd2.2.2.2.2.2 a (by simp only [M.ids, List.mem_cons]; exact .inr (hsubid a ha)) hb
              · intro g' hg'
                simp only [List.cons_append, List.nil_append, M.idsL, M.ids, List.mem_cons, List.mem_append, he] at hg' ⊢
                rcases hg' with h | h | h
                · exact .inl h
                · exact .inr (.inl (hsubid g' h))
                · exact .inr (.inr h)
            · simp only [M.cellsL, M.cells, List.append_nil, List.cons.injEq, Value.slice.injEq, and_true]
              rw [List.length_take, Nat.min_eq_left (by omega)]
              refine ⟨?_, rfl, ?_⟩
              · have := j6 (.inr rfl)
                rw [this]; simp [Addr.add]
              · rw [hrl, Nat.mul_div_cancel _ o1]
                rw [o4, Nat.mul_div_cancel _ o1] at j4
                omega
            · simp only [M.data, M.dataL_map, List.map_take]
          · rw [he] at j2
            simp only [M.cells, List.cons.injEq, Value.slice.injEq, and_true] at j2
            obtain ⟨rfl, rfl, rfl⟩ := j2
            have hl0 : len = 0 := by simp at hle; omega
            subst hl0
            have hc0 : c = 0 := by omega
            subst hc0
            have ha0 := j6 (.inr rfl)
            simp only [Option.map_none] at ha0
            subst ha0
            have := took_leaf (rs := updAll [(r, (none : Option Root))] rs) (hm.drop r) hrs' (v := .slice none 0 0) (d := .lst true te e []) (by simp only [FRep]; exact ⟨trivial, trivial⟩) rfl
            exact ⟨upd gs r none, Fz, .leaf (.slice none 0 0) (.lst true te e []), { mem := this.mem, rs := hrs', cells := rfl, thin := thin_none gs r, fz := fun _ h => h, lives := hlv }, by simp [M.data]⟩
          · cases hh
        rename_i hc0
        split at h3
        · -- it goes over; nothing is told of its place
          rename_i hmv
          obtain ⟨_, rfl, rfl⟩ := hmv
          simp only [Option.map_eq_some_iff] at h3
          obtain ⟨c', h4, rfl⟩ := h3
          obtain ⟨y, hp1, hp2, hp3, hp4, hp5⟩ := hm.pull hx hz
          have hdy : M.data y = .undef := hp5 (by rw [hd]; rfl)
          have hroot := root_put hz (hdy.symm ▸ h4)
          have hrs' : ∀ r', updAll [(r, some ({ x.root with c := c' } : Root))] rs r' = (upd gs r (some (x.put p y)) r').map G.root := by
            simp only [updAll]; exact rs_upd hrs (by simp only [Option.map_some, hroot])
          have hn : n = xs.length := by
            rcases row_cases hd hzok with ⟨_, g, te', ys, rest, fr, he, rfl⟩ | ⟨_, rfl, he⟩ | ⟨hh, _⟩
            · rw [he] at j2
              simp only [M.cells, List.cons.injEq, Value.slice.injEq, and_true] at j2
              rw [M.dataL_length]; exact j2.2.1.symm
            · rw [he] at j2
              simp only [M.cells, List.cons.injEq, Value.slice.injEq, and_true] at j2
              simpa using j2.2.1.symm
            · cases hh
          have ha : a' = ad := by
            rw [j6 (.inr rfl)]
            cases ad <;> simp [Addr.add]
          refine ⟨_, Fz, z, { mem := hp1, rs := hrs', cells := ?_, thin := thin_put hx hz (Sub.hole hp2 hdy), fz := fun _ h => h, lives := lives_put hx hz (by rw [hp2]) (fun q _ h => kill_ptr h) (fun q _ h => ⟨(kill_slc h).1, fun e => absurd e ((kill_slc h).2 rfl)⟩) (fun _ _ => rfl) (fun _ h => h) }, hd⟩
          simp only [M.cellsL, List.append_nil, j2, hn, ha]
          have : c = cap := by omega
          rw [this]
        · -- a part of it is read from now on
          rename_i hc
          simp only [Option.map_eq_some_iff] at h3
          obtain ⟨c', h4, rfl⟩ := h3
          have hfz := hm.freeze_at hx hz
          have hdz : M.data (M.frz z) = .lst false te e (D.freezeL xs) := by rw [M.frz_data, hd]; simp only [D.freeze]
          have hroot := root_put hz (hdz.symm ▸ h4)
          have hrs' : ∀ r', updAll [(r, some ({ x.root with c := c' } : Root))] rs r' = (upd gs r (some (x.put p (M.frz z))) r').map G.root := by
            simp only [updAll]; exact rs_upd hrs (by simp only [Option.map_some, hroot])
          have hff : ∀ g, Fz g → Fz g ∨ g ∈ M.ids z := fun g h => .inl h
          have hfr : FRep w (fun g => Fz g ∨ g ∈ M.ids z) [.slice ad n cap] (.lst false te e (D.freezeL xs)) := by
            have := M.frep hff hzok (M.get_in p (hm.ins r x hx).2 hz) (fun g hg => .inr hg)
            rwa [j2, hd, show D.freeze (.lst true te e xs) = .lst false te e (D.freezeL xs) by simp only [D.freeze]] at this
          have hsub := slcVal_frz hfr j4 j5 j6
          have := took_leaf hfz hrs' hsub rfl
          exact ⟨_, _, _, { mem := this.mem, rs := hrs', cells := rfl, thin := thin_frz hx hz, fz := hff, lives := lives_frz hx hz hff }, by simp only [M.data, D.freezeL_take_drop]⟩
      · -- it is read already
        rename_i hown
        obtain rfl : own = false := by simpa using hown
        obtain rfl := Option.some.inj h3
        rcases row_cases hd hzok with ⟨hh, _⟩ | ⟨hh, _⟩ | ⟨_, ad2, cap2, he, q1, q2⟩
        · cases hh
        · cases hh
        · rw [he] at j2
          simp only [M.cells, List.cons.injEq, Value.slice.injEq, and_true] at j2
          obtain ⟨rfl, rfl, rfl⟩ := j2
          have hfr : FRep w Fz [.slice ad2 xs.length cap2] (.lst false te e xs) := by simp only [FRep]; exact ⟨ad2, cap2, rfl, q1, q2⟩
          have := took_leaf hm hrs (slcVal_frz hfr j4 j5 j6) rfl
          exact ⟨gs, Fz, _, { mem := this.mem, rs := hrs, cells := rfl, thin := Thin.refl gs, fz := fun _ h => h, lives := this.lives }, rfl⟩
    · cases h3
theorem takeL_ok {mv : Nat → Bool} {gs0 : Rid → Option G} {Fz0 : Nat → Prop} : ∀ {xs : List D} {cs : List Value} {rs : Rid → Option Root} {gs : Rid → Option G} {Fz : Nat → Prop} {hs : List M} {k : List D × List (Rid × Option Root) × List Kill},
    Mem Z gs hs Fz w → (∀ r, rs r = (gs r).map G.root) → Thin gs0 gs → (∀ g, Fz0 g → Fz g) → VCL w Fz0 (ptrOk Z gs0) (slcOk gs0) cs xs → takeL mv rs xs = some k →
    ∃ gs' Fz' ms, TookOk Z gs hs Fz w (updAll k.2.1 rs) k.2.2 cs ms gs' Fz' ∧ M.dataL ms = k.1
  | [], cs, rs, gs, Fz, hs, k, hm, hrs, ht, hf, hv, h => by
    simp only [takeL, Option.some.injEq] at h
    subst h
    simp only [VCL] at hv
    subst hv
    exact ⟨gs, Fz, [], { mem := hm, rs := hrs, cells := rfl, thin := Thin.refl gs, fz := fun _ h => h, lives := Lives.nil_iff.1 (lives_hand (fun _ _ => rfl) fun _ h => h) }, rfl⟩
  | x :: xs, cs, rs, gs, Fz, hs, k, hm, hrs, ht, hf, hv, h => by
    simp only [takeL, Option.bind_eq_some_iff, Option.map_eq_some_iff] at h
    obtain ⟨t, h1, s, h2, rfl⟩ := h
    simp only [VCL] at hv
    obtain ⟨c1, c2, rfl, hv1, hv2⟩ := hv
    obtain ⟨gs1, Fz1, m, t1, d1⟩ := take_ok hm hrs ht hf hv1 h1
    obtain ⟨gs2, Fz2, ms, t2, d2⟩ := takeL_ok t1.mem t1.rs (ht.trans t1.thin) (fun g hg => t1.fz g (hf g hg)) hv2 h2
    refine ⟨gs2, Fz2, m :: ms, { mem := ?_, rs := ?_, cells := ?_, thin := t1.thin.trans t2.thin, fz := fun g hg => t2.fz g (t1.fz g hg), lives := t1.lives.krs_trans t2.lives }, by simp only [M.dataL, d1, d2]⟩
    · have hm2 := t2.mem
      have a1 := hm2.hok
      have a2 := hm2.hin
      have a3 := hm2.hnd
      simp only [List.cons_append, List.nil_append, M.OkL_append, M.OkL] at a1
      simp only [List.cons_append, List.nil_append, M.InL_append, M.InL] at a2
      refine hm2.sub (by simp only [List.cons_append, M.OkL, M.OkL_append]; exact ⟨a1.2.1, a1.1, a1.2.2⟩) (by simp only [List.cons_append, M.InL, M.InL_append]; exact ⟨a2.2.1, a2.1, a2.2.2⟩) ?_ (fun g hg => by
        simp only [List.cons_append, List.nil_append, M.idsL, M.idsL_append, List.mem_append] at hg ⊢
        rcases hg with h | h | h <;> simp [h])
      simp only [List.cons_append, List.nil_append, M.idsL, M.idsL_append] at a3 ⊢
      refine (List.Perm.nodup_iff ?_).1 a3
      rw [← List.append_assoc, ← List.append_assoc]
      exact List.Perm.append_right _ List.perm_append_comm
    · intro r; rw [updAll_append]; exact t2.rs r
    · have := t1.cells
      simp only [M.cellsL, List.append_nil] at this ⊢
      rw [this, t2.cells]
end
end
end Go.Lft

/- The operations are sound: new variables and rows, stores. -/
namespace Go.Lft

section
variable {P : Program} {T : Tb} {Z : Zone} {gs gs' : Rid → Option G} {hs : List M} {Fz Fz' : Nat → Prop} {st : St} {a : Act} {w w' : World}

theorem Mem.nil (hm : Mem Z gs hs Fz w) : Mem Z gs [] Fz w := hm.sub trivial trivial List.nodup_nil (fun g hg => by cases hg)

/-! ### From memory to an operation -/
theorem keeps_st {Z : Zone} {w w' : World} (h : Keeps Z w) (h' : Keeps Z w') {gs gs' : Rid → Option G} : ∀ g, (ptrOk Z gs).st g → w'.heap[g]? = w.heap[g]? ∧ (ptrOk Z gs').st g :=
  fun g hg => ⟨by rw [h.block g hg.1, h'.block g hg.1], hg⟩

theorem op_mem {o : Oper} {e : Eff} {v : Value} (hi : Inv Z gs Fz st a w) (hd : ∀ t, o.dst = some t → t < a.tmps.size) (hrun : (execOp a.eval o).run P w = .ok (.value v) w') (hm : Mem Z gs' hs Fz' w')
    (hrs : ∀ r, updAll e.upd st.rs r = (gs' r).map G.root) (hl : Lives w w' Fz Fz' (ptrOk Z gs) (ptrOk Z gs') (slcOk gs) (slcOk gs') (krs e.kill)) (hv : VV w' Fz' (ptrOk Z gs') (slcOk gs') v e.val) : OpSound P Z o a w (st.app o.dst e) := by
  intro K Q hK
  unfold Oper.wp
  rw [hrun]
  refine hK _ _ gs' Fz' (hm.nil.inv hrs (fun t => ?_) ?_) (put_size a o.dst v)
  · exact env_put hl (keeps_st hi.keeps hm.keeps) hi.env (fun _ => hv) hd t
  · cases o.dst <;> simpa [Act.put] using hi.defers

theorem op_skip {o : Oper} {e : Eff} (he : e.val = .undef) (hi : Inv Z gs Fz st a w) (hd : ∀ t, o.dst = some t → t < a.tmps.size) (hrun : (execOp a.eval o).run P w = .ok .skip w') (hm : Mem Z gs' hs Fz' w')
    (hrs : ∀ r, updAll e.upd st.rs r = (gs' r).map G.root) (hl : Lives w w' Fz Fz' (ptrOk Z gs) (ptrOk Z gs') (slcOk gs) (slcOk gs') (krs e.kill)) : OpSound P Z o a w (st.app o.dst e) := by
  intro K Q hK
  unfold Oper.wp
  rw [hrun]
  refine hK _ _ gs' Fz' (hm.nil.inv hrs (fun t => ?_) ?_) (put_size a o.dst undef)
  · exact env_put hl (keeps_st hi.keeps hm.keeps) hi.env (fun _ => by rw [he]; simp only [VV]) hd t
  · cases o.dst <;> simpa [Act.put] using hi.defers

/-! ### A larger world -/
theorem Mem.world (hm : Mem Z gs hs Fz w) (hh : ∀ g, g < w.heap.size → w'.heap[g]? = w.heap[g]?) (hsz : w.heap.size ≤ w'.heap.size) (hs' : Same w w') : Mem Z gs hs Fz w' := by
  have hf : ∀ g, Fz g → w'.heap[g]? = w.heap[g]? := fun g hg => hh g (hm.fz g hg)
  refine { hm with ok := fun r x h => (hm.ok r x h).stab hf fun _ h => h, ins := fun r x h => ?_, hok := hm.hok.stab hf fun _ h => h, hin := ?_, fz := fun g hg => Nat.lt_of_lt_of_le (hm.fz g hg) hsz, keeps := ?_ }
  · exact (hm.ins r x h).stab fun g hg => hh g ((hm.ins r x h).lt g hg)
  · exact M.InL.stab (fun g hg => hh g (hm.hin.lt g hg)) hm.hin
  · have hk := hm.keeps
    refine ⟨hs'.os.trans hk.os, hs'.tape.trans hk.tape, hs'.output.trans hk.output, Nat.le_trans hk.size hsz, fun g hg => ?_⟩
    rcases Nat.lt_or_ge g w.heap.size with h | h
    · rw [hh g h, hk.block g hg]
    · exact absurd (Z.fresh g (Nat.le_trans hk.size h)) hg

theorem alloc_old (w : World) (o : Obj) (g : Nat) (h : g < w.heap.size) : (w.alloc o).heap[g]? = w.heap[g]? := by
  show (w.heap.push o)[g]? = _
  rw [Array.getElem?_push_lt h, Array.getElem?_eq_getElem h]
theorem alloc_new (w : World) (o : Obj) : (w.alloc o).heap[w.heap.size]? = some o := by
  show (w.heap.push o)[w.heap.size]? = _
  simp
theorem alloc_size (w : World) (o : Obj) : (w.alloc o).heap.size = w.heap.size + 1 := by
  show (w.heap.push o).size = _
  simp

theorem Mem.alloc (hm : Mem Z gs hs Fz w) (o : Obj) : Mem Z gs hs Fz (w.alloc o) := hm.world (fun g h => alloc_old w o g h) (by rw [alloc_size]; omega) ⟨rfl, rfl, rfl⟩
theorem Mem.drew (hm : Mem Z gs hs Fz w) : Mem Z gs hs Fz w.drew := hm.world (fun g h => rfl) (Nat.le_refl _) ⟨rfl, rfl, rfl⟩

theorem lives_alloc (hf : ∀ g, Fz g → g < w.heap.size) (o : Obj) : Lives w (w.alloc o) Fz Fz (ptrOk Z gs) (ptrOk Z gs) (slcOk gs) (slcOk gs) (krs []) := lives_hand (fun g hg => alloc_old w o g (hf g hg)) fun _ h => h
theorem lives_drew : Lives w w.drew Fz Fz (ptrOk Z gs) (ptrOk Z gs) (slcOk gs) (slcOk gs) (krs []) := lives_hand (fun _ _ => rfl) fun _ h => h

theorem Mem.fresh (hm : Mem Z gs hs Fz w) : Z.Own w.heap.size ∧ ¬ Fz w.heap.size ∧ (∀ r x, gs r = some x → w.heap.size ∉ x.ids) ∧ w.heap.size ∉ M.idsL hs := by
  refine ⟨Z.fresh _ hm.keeps.size, fun h => ?_, fun r x h hh => ?_, fun hh => ?_⟩
  · exact absurd (hm.fz _ h) (Nat.lt_irrefl _)
  · exact absurd ((hm.ins r x h).lt _ hh) (Nat.lt_irrefl _)
  · exact absurd (hm.hin.lt _ hh) (Nat.lt_irrefl _)

theorem lent0 (Z : Zone) (t j : Nat) (h : j < 99) : Z.lent (t, j) = none := by
  cases he : Z.lent (t, j) with
  | none => rfl
  | some b => have := Z.lent99 _ _ he; simp at this; omega

/-- A new variable. -/
theorem Mem.new_var {m : M} (hm : Mem Z gs (m :: hs) Fz w) (t ty : Nat) : Mem Z (upd gs (t, 0) (some ⟨some (w.heap.size, ty), m⟩)) hs Fz (w.alloc (rowObj ty (M.cells m) (0, 0))) := by
  obtain ⟨f1, f2, f3, f4⟩ := hm.fresh
  simp only [M.idsL, List.mem_append, not_or] at f4
  refine (hm.alloc _).root (t, 0) (lent0 Z t 0 (by omega)) _ rfl (fun h => by cases h) fun g te h => ?_
  obtain ⟨rfl, rfl⟩ := Prod.mk.inj (Option.some.inj h)
  exact ⟨alloc_new _ _, f1, f2, f3, f4.1, f4.2⟩

/-- A new row. -/
theorem Mem.new_row {ms : List M} (hm : Mem Z gs (ms ++ hs) Fz w) {tg te e k : Nat} {rest : List Value} {fr : Nat × Nat} (h0 : 0 < e) (h1 : ∀ x ∈ ms, (M.cells x).length = e) (h2 : rest.length = k * e) (h3 : ms.length + k ≤ maxLen)
    (h4 : tg < 1000000 → te = tg ∧ fr = (0, 0)) (h5 : frOk fr (ms.length * e + rest.length)) : Mem Z gs (.lst w.heap.size tg te e ms rest fr :: hs) Fz (w.alloc (rowObj te (M.cellsL ms ++ rest) fr)) := by
  obtain ⟨f1, f2, f3, f4⟩ := hm.fresh
  have ha := hm.alloc (rowObj te (M.cellsL ms ++ rest) fr)
  have a1 := ha.hok
  have a2 := ha.hin
  have a3 := ha.hnd
  rw [M.OkL_append] at a1
  rw [M.InL_append] at a2
  rw [M.idsL_append] at a3 f4
  refine { ha with hok := ?_, hin := ?_, hnd := ?_, hown := ?_, hdis := ?_ }
  · simp only [M.OkL, M.Ok]
    exact ⟨⟨h0, a1.1, h1, ⟨k, h2, h3⟩, h4, h5⟩, a1.2⟩
  · simp only [M.InL, M.In]
    exact ⟨⟨alloc_new _ _, a2.1⟩, a2.2⟩
  · simp only [M.idsL, M.ids, List.cons_append]
    exact List.nodup_cons.2 ⟨f4, a3⟩
  · intro g hg
    simp only [M.idsL, M.ids, List.cons_append, List.mem_cons] at hg
    rcases hg with rfl | hg
    · exact ⟨f1, f2⟩
    · exact ha.hown g (by rw [M.idsL_append]; exact hg)
  · intro r x hx g hg hh
    simp only [M.idsL, M.ids, List.cons_append, List.mem_cons] at hh
    rcases hh with rfl | hh
    · exact f3 r x hx hg
    · exact ha.hdis r x hx g hg (by rw [M.idsL_append]; exact hh)

mutual
theorem M.of_frep : ∀ {d : D} {cs : List Value}, FRep w Fz cs d → ∃ m, M.Ok w Fz m ∧ M.In w m ∧ M.ids m = [] ∧ M.cells m = cs ∧ M.data m = d
  | .agg xs, cs, h => by
    simp only [FRep] at h
    obtain ⟨ms, h1, h2, h3, h4, h5⟩ := M.of_frepL h
    exact ⟨.agg ms, by simpa only [M.Ok] using h1, by simpa only [M.In] using h2, by simpa only [M.ids] using h3, by simpa only [M.cells] using h4, by simp only [M.data, h5]⟩
  | .int k n, cs, h => by
    have hl := h.len
    match cs, hl with
    | [v], _ => exact ⟨.leaf v _, by simp only [M.Ok, isAgg]; exact ⟨h, trivial⟩, by simp only [M.In], rfl, rfl, rfl⟩
  | .bool _, cs, h => by
    have hl := h.len
    match cs, hl with
    | [v], _ => exact ⟨.leaf v _, by simp only [M.Ok, isAgg]; exact ⟨h, trivial⟩, by simp only [M.In], rfl, rfl, rfl⟩
  | .str _, cs, h => by
    have hl := h.len
    match cs, hl with
    | [v], _ => exact ⟨.leaf v _, by simp only [M.Ok, isAgg]; exact ⟨h, trivial⟩, by simp only [M.In], rfl, rfl, rfl⟩
  | .lst .., cs, h => by
    have hl := h.len
    match cs, hl with
    | [v], _ => exact ⟨.leaf v _, by simp only [M.Ok, isAgg]; exact ⟨h, trivial⟩, by simp only [M.In], rfl, rfl, rfl⟩
  | .fn .., cs, h => by
    have hl := h.len
    match cs, hl with
    | [v], _ => exact ⟨.leaf v _, by simp only [M.Ok, isAgg]; exact ⟨h, trivial⟩, by simp only [M.In], rfl, rfl, rfl⟩
  | .ifc _, cs, h => by
    have hl := h.len
    match cs, hl with
    | [v], _ => exact ⟨.leaf v _, by simp only [M.Ok, isAgg]; exact ⟨h, trivial⟩, by simp only [M.In], rfl, rfl, rfl⟩
  | .pto _, cs, h => by
    have hl := h.len
    match cs, hl with
    | [v], _ => exact ⟨.leaf v _, by simp only [M.Ok, isAgg]; exact ⟨h, trivial⟩, by simp only [M.In], rfl, rfl, rfl⟩
  | .undef, cs, h => by
    have hl := h.len
    match cs, hl with
    | [v], _ => exact ⟨.leaf v _, by simp only [M.Ok, isAgg]; exact ⟨h, trivial⟩, by simp only [M.In], rfl, rfl, rfl⟩
  | .ptr .., cs, h => by simp only [FRep] at h
  | .slc .., cs, h => by simp only [FRep] at h
  | .tup _, cs, h => by simp only [FRep] at h
theorem M.of_frepL : ∀ {xs : List D} {cs : List Value}, FRepL w Fz cs xs → ∃ ms, M.OkL w Fz ms ∧ M.InL w ms ∧ M.idsL ms = [] ∧ M.cellsL ms = cs ∧ M.dataL ms = xs
  | [], cs, h => by
    simp only [FRepL] at h
    subst h
    exact ⟨[], by simp only [M.OkL], by simp only [M.InL], rfl, rfl, rfl⟩
  | x :: xs, cs, h => by
    simp only [FRepL] at h
    obtain ⟨c1, c2, rfl, h1, h2⟩ := h
    obtain ⟨m, a1, a2, a3, a4, a5⟩ := M.of_frep h1
    obtain ⟨ms, b1, b2, b3, b4, b5⟩ := M.of_frepL h2
    exact ⟨m :: ms, by simp only [M.OkL]; exact ⟨a1, b1⟩, by simp only [M.InL]; exact ⟨a2, b2⟩, by simp only [M.idsL, a3, b3, List.append_nil], by simp only [M.cellsL, a4, b4], by simp only [M.dataL, a5, b5]⟩
end

theorem Mem.leaves (hm : Mem Z gs hs Fz w) {ms : List M} (h1 : M.OkL w Fz ms) (h2 : M.InL w ms) (h3 : M.idsL ms = []) : Mem Z gs (ms ++ hs) Fz w :=
  hm.sub (h1.append hm.hok) (M.InL_append.2 ⟨h2, hm.hin⟩) (by simp only [M.idsL_append, h3, List.nil_append]; exact hm.hnd) (fun g hg => by simpa only [M.idsL_append, h3, List.nil_append] using hg)

theorem zero_ghost (hT : TbOk P T) (w : World) (Fz : Nat → Prop) {t : Nat} {d : D} (h : T.zero t = some d) : ∃ i z m, P.info? t = some i ∧ i.zero = some z ∧ M.Ok w Fz m ∧ M.In w m ∧ M.ids m = [] ∧ M.cells m = z.cells.toList ∧ M.data m = d := by
  obtain ⟨i, z, h1, h2, h3, _⟩ := hT.zero _ _ h
  obtain ⟨m, k⟩ := M.of_frep (w := w) (Fz := Fz) (aggIs_frep h3)
  exact ⟨i, z, m, h1, h2, k⟩

/-! ### Stores -/
theorem run_storeAt {t : Nat} {g o : Nat} {v : Value} {c : List Value} {i : TypeInfo} (hti : P.info? t = some i) (hs : i.size = v.cells.size) (hl : Lies w g o c) (hlen : c.length = v.cells.size) (h1 : ∀ u ∈ v.cells.toList, u.oneCell' = true) :
    ∃ w', (Instr.storeAt t (.pointer (some ⟨g, o, none⟩)) v).run P w = .ok () w' ∧ Written w w' g o v.cells.toList ∧ w'.heap.size = w.heap.size ∧ Same w w' := by
  obtain ⟨w', r1, r2⟩ := run_storeCells_written P hl (vs := v.cells.toList) (by simpa using hlen) h1
  refine ⟨w', ?_, r2⟩
  simp [Instr.storeAt, Instr.sureAddr, storeVar, sizeOf, typeInfo, hti, hs, r1]

/-! ### New variables -/
theorem op_var {o : Oper} {m : M} {gs1 : Rid → Option G} {Fz1 : Nat → Prop} {u1 : List (Rid × Option Root)} {k1 : List Kill} {ty : Nat} (hi : Inv Z gs Fz st a w) (hd : ∀ t, o.dst = some t → t < a.tmps.size)
    (hm : Mem Z gs1 (m :: hs) Fz1 w) (hrs : ∀ r, updAll u1 st.rs r = (gs1 r).map G.root) (hl : Lives w w Fz Fz1 (ptrOk Z gs) (ptrOk Z gs1) (slcOk gs) (slcOk gs1) (krs k1))
    (hrun : (execOp a.eval o).run P w = .ok (.value (.pointer (some ⟨w.heap.size, 0, none⟩))) (w.alloc (rowObj ty (M.cells m) (0, 0)))) :
    OpSound P Z o a w (st.app o.dst ⟨(newVar (o.dst.getD 0) (M.data m)).val, u1 ++ (newVar (o.dst.getD 0) (M.data m)).upd, k1 ++ (newVar (o.dst.getD 0) (M.data m)).kill⟩) := by
  refine op_mem hi hd hrun (hm.new_var (o.dst.getD 0) ty) ?_ ?_ ?_
  · intro r
    rw [updAll_append]
    simp only [newVar, updAll]
    exact rs_upd hrs (by simp [G.root]) r
  · refine Lives.krs_trans hl ?_
    exact lives_gone (fun r' h => upd_ne _ _ h) (fun g hg => alloc_old w _ g (hm.fz g hg)) fun _ h => h
  · simp only [newVar, VV, VC]
    exact ⟨_, rfl, _, _, _, upd_self .., rfl, by rw [M.get_nil]; rfl, rfl⟩

/-! ### New rows -/
theorem op_row {o : Oper} {m : M} {v : Value} {gs1 : Rid → Option G} {Fz1 : Nat → Prop} {u1 : List (Rid × Option Root)} {k1 : List Kill} {te e : Nat} {xs : List D} (hi : Inv Z gs Fz st a w) (hd : ∀ t, o.dst = some t → t < a.tmps.size)
    (hm : Mem Z gs1 (m :: hs) Fz1 w') (hrs : ∀ r, updAll u1 st.rs r = (gs1 r).map G.root) (hl : Lives w w' Fz Fz1 (ptrOk Z gs) (ptrOk Z gs1) (slcOk gs) (slcOk gs1) (krs k1))
    (hdm : M.data m = .lst true te e xs) (hcm : M.cells m = [v]) (hn : ∃ ad cap, v = .slice ad xs.length cap)
    (hrun : (execOp a.eval o).run P w = .ok (.value v) w') :
    OpSound P Z o a w (st.app o.dst ⟨(newRow (o.dst.getD 0) te e xs).val, u1 ++ (newRow (o.dst.getD 0) te e xs).upd, k1 ++ (newRow (o.dst.getD 0) te e xs).kill⟩) := by
  obtain ⟨ad, cap, rfl⟩ := hn
  have hroot := hm.root (o.dst.getD 0, 0) (lent0 Z _ 0 (by omega)) ⟨none, m⟩ rfl (fun _ => by rw [hdm]; rfl) (fun g te h => by cases h)
  refine op_mem hi hd hrun hroot ?_ ?_ ?_
  · intro r
    rw [updAll_append]
    simp only [newRow, updAll]
    exact rs_upd hrs (by simp [G.root, hdm]) r
  · refine Lives.krs_trans hl ?_
    exact lives_gone (fun r' h => upd_ne _ _ h) (fun _ _ => rfl) fun _ h => h
  · simp only [newRow, VV, VC]
    exact ⟨_, rfl, _, _, upd_self .., M.get_nil _, slcVal_row hdm hcm⟩

section ops
variable (hT : TbOk P T) (hi : Inv Z gs Fz st a w) {dst : Option Nat} {ty : Nat} {pos : String} {after : Array Edge} {g : Option (Nat × Bool)} (hd : ∀ t, dst = some t → t < a.tmps.size) {e : Eff}
include hT hi hd

theorem alloc_ok {t : Nat} (h : plainEff T (dst.getD 0) ty st (.alloc t) = some e) : OpSound P Z ⟨dst, .alloc t, ty, pos, after, g⟩ a w (st.app dst e) := by
  simp only [plainEff, Option.map_eq_some_iff] at h
  obtain ⟨d, h1, rfl⟩ := h
  obtain ⟨i, z, m, k1, k2, k3, k4, k5, k6, rfl⟩ := zero_ghost hT w Fz h1
  have hm := hi.mem.leaf k3 k4 k5
  have := op_var (P := P) (o := ⟨dst, .alloc t, ty, pos, after, g⟩) (ty := t) (u1 := []) (k1 := []) hi hd hm hi.rs (Lives.nil_iff.1 (lives_hand (fun _ _ => rfl) fun _ h => h)) (by
    simp [execOp, Instr.alloc, zeroValue, typeInfo, k1, k2, Go.newVar, Go.newRow, rowObj, k6])
  simpa using this

theorem box_ok {t : Nat} {x : Operand} (h : plainEff T (dst.getD 0) ty st (.box t x) = some e) : OpSound P Z ⟨dst, .box t x, ty, pos, after, g⟩ a w (st.app dst e) := by
  simp only [plainEff, Option.bind_eq_some_iff] at h
  obtain ⟨d, h1, k, h2, h3⟩ := h
  split at h3
  · obtain rfl := Option.some.inj h3
    have hv := ev_ok hT hi h1
    have hp : isPlain d = true := by cases d <;> simp [take] at h2 <;> rfl
    obtain ⟨gs', Fz', m, tk, hdm⟩ := take_ok hi.mem hi.rs (Thin.refl gs) (fun _ h => h) (hv.cells hp) h2
    have hc := tk.cells
    simp only [M.cellsL, List.append_nil] at hc
    have := op_var (P := P) (o := ⟨dst, .box t x, ty, pos, after, g⟩) (ty := t) hi hd tk.mem tk.rs tk.lives (by
      simp [execOp, Instr.box, Go.newVar, Go.newRow, rowObj, hc])
    simpa only [hdm] using this
  · cases h3

end ops

theorem ghost_one {m : M} (h : M.Ok w Fz m) (hin : M.In w m) : ∀ u ∈ M.cells m, u.oneCell' = true := (M.frep (Fz' := fun _ => True) (fun _ _ => trivial) h hin (fun _ _ => trivial)).one

/-- What is in hand is stored at a place. -/
theorem store_hand {o : Oper} {e : Eff} {t : Nat} {ax x : Operand} (ho : o.op = .store t ax x) {gs1 : Rid → Option G} {Fz1 : Nat → Prop} {m : M} {r : Rid} {p : List Stp} {i : TypeInfo}
    (hi : Inv Z gs Fz st a w) (hd : ∀ t, o.dst = some t → t < a.tmps.size) (he : e.val = .undef)
    (hm : Mem Z gs1 (m :: hs) Fz1 w) {x1 : G} {z : M} (hx : gs1 r = some x1) (hz : M.get x1.m p = some z) (hlen : (M.cells m).length = (M.cells z).length)
    (hrs : ∀ r', updAll e.upd st.rs r' = (upd gs1 r (some (x1.put p m)) r').map G.root)
    (hlv : ∀ w', (∀ g, Fz1 g → w'.heap[g]? = w.heap[g]?) → Lives w w' Fz Fz1 (ptrOk Z gs) (ptrOk Z (upd gs1 r (some (x1.put p m)))) (slcOk gs) (slcOk (upd gs1 r (some (x1.put p m)))) (krs e.kill))
    {g0 o0 : Nat} (hat : x1.at_ p = some (g0, o0)) (hax : a.eval ax = .pointer (some ⟨g0, o0, none⟩)) (hcx : (a.eval x).cells.toList = M.cells m)
    (hti : P.info? t = some i) (hsz : i.size = (M.cells m).length) : OpSound P Z o a w (st.app o.dst e) := by
  obtain ⟨kk1, kk2, _⟩ := hm.head
  have hlies := (hm.lies hx hz hat).1
  have hsz' : (a.eval x).cells.size = (M.cells m).length := by rw [← Array.length_toList, hcx]
  obtain ⟨w', r1, r2, r3, r4⟩ := run_storeAt (P := P) (w := w) (v := a.eval x) hti (by rw [hsz, hsz']) hlies (by rw [hsz', hlen]) (by rw [hcx]; exact ghost_one kk1 kk2)
  rw [hcx] at r2
  have hsw := hm.swap hx hz hat hlen r2 r3 r4
  have hgx : g0 ∈ x1.ids := G.at_mem (hm.row r x1 hx) hz hat
  have hfz : ∀ g, Fz1 g → w'.heap[g]? = w.heap[g]? := fun g hg => by
    obtain ⟨_, _, _, _, _, _, _, _, _, h⟩ := r2
    exact h g (by rintro rfl; exact (hm.own r x1 hx _ hgx).2 hg)
  exact op_skip he hi hd (by unfold execOp; rw [ho]; simp only [hax]; simp [r1]) hsw hrs (hlv w' hfz)

theorem lives_store {r : Rid} {x : G} {p : List Stp} {y z : M} (hx : gs r = some x) (hz : M.get x.m p = some z) (hl : (M.cells y).length = (M.cells z).length) (hw : ∀ g, Fz g → w'.heap[g]? = w.heap[g]?) :
    Lives w w' Fz Fz (ptrOk Z gs) (ptrOk Z (upd gs r (some (x.put p y)))) (slcOk gs) (slcOk (upd gs r (some (x.put p y)))) (krs [⟨r, p, false, true⟩]) :=
  lives_put hx hz hl (fun q _ h => kill_ptr h) (fun q _ h => ⟨(kill_slc h).1, fun e => absurd e ((kill_slc h).2 rfl)⟩) hw fun _ h => h

theorem lives_leaf {r : Rid} {x : G} {p : List Stp} {y : M} {v : Value} {d : D} (hx : gs r = some x) (hz : M.get x.m p = some (.leaf v d)) (hl : (M.cells y).length = 1) (hns : ∀ off len u, ¬ SlcVal (.leaf v d) off len u) (hw : ∀ g, Fz g → w'.heap[g]? = w.heap[g]?) :
    Lives w w' Fz Fz (ptrOk Z gs) (ptrOk Z (upd gs r (some (x.put p y)))) (slcOk gs) (slcOk (upd gs r (some (x.put p y)))) (krs []) := by
  have hb : ∀ q, (M.get x.m q).isSome = true → behind p q = false := by
    intro q hq
    cases hb : behind p q with
    | false => rfl
    | true =>
      obtain ⟨s, q', rfl⟩ := behind_append hb
      rw [M.get_append, hz, Option.bind_some] at hq
      cases s <;> simp [M.get] at hq
  exact lives_put hx hz (by simpa [M.cells] using hl) (fun q hq _ => hb q hq) (fun q hq _ => ⟨hb q hq, fun _ off len v hs => absurd hs (hns off len v)⟩) hw fun _ h => h

theorem ptr_place {r : Rid} {p : List Stp} {v : Value} {gs : Rid → Option G} (h : ptrOk Z gs r p v) : ∃ x z g o, gs r = some x ∧ M.get x.m p = some z ∧ x.at_ p = some (g, o) ∧ v = .pointer (some ⟨g, o, none⟩) := by
  obtain ⟨x, g, o, h1, h2, h3, h4⟩ := h
  obtain ⟨z, hz⟩ := Option.isSome_iff_exists.1 h3
  exact ⟨x, z, g, o, h1, hz, h2, h4⟩

end
end Go.Lft

/- The operations are sound: stores, literals, conversions. -/
namespace Go.Lft

section
variable {P : Program} {T : Tb} {Z : Zone} {gs gs' : Rid → Option G} {hs : List M} {Fz Fz' : Nat → Prop} {st : St} {a : Act} {w w' : World}

/-- A row in hand is cut short. -/
theorem Mem.cut {z : M} (hm : Mem Z gs (z :: hs) Fz w) {own : Bool} {te e len : Nat} {xs : List D} {v : Value} (hd : M.data z = .lst own te e xs) (hs2 : SlcVal z 0 len v) (hle : len ≤ xs.length) :
    ∃ m, Mem Z gs (m :: hs) Fz w ∧ M.cells m = [v] ∧ M.data m = .lst own te e (xs.take len) := by
  have hd2 := hm.head
  obtain ⟨hzok, hin, hnd, _⟩ := hm.head
  have ht := hm.tail
  obtain ⟨own1, te1, e1, xs1, ad, n, cap, a', c, j1, j2, rfl, j4, j5, j6⟩ := hs2
  rw [hd] at j1
  simp only [D.lst.injEq] at j1
  obtain ⟨rfl, rfl, rfl, rfl⟩ := j1
  rcases row_cases hd hzok with ⟨rfl, g, te', ys, rest, fr, rfl, rfl⟩ | ⟨rfl, rfl, rfl⟩ | ⟨rfl, ad2, cap2, rfl, q1, q2⟩
  · simp only [M.cells, List.cons.injEq, Value.slice.injEq, and_true] at j2
    obtain ⟨rfl, rfl, rfl⟩ := j2
    simp only [M.Ok] at hzok
    obtain ⟨o1, o2, o3, ⟨kk, o4, o4'⟩, o5, o6⟩ := hzok
    simp only [M.In] at hin
    simp only [M.ids, List.nodup_cons] at hnd
    rw [M.dataL_length] at hle
    have hcl : (M.cellsL (ys.drop len)).length = (ys.length - len) * e := by rw [M.cellsL_len (fun y hy => o3 y (List.mem_of_mem_drop hy)), List.length_drop]
    have hrl : (M.cellsL (ys.drop len) ++ rest).length = (ys.length - len + kk) * e := by rw [List.length_append, hcl, o4, Nat.add_mul]
    have hsplit : M.cellsL (ys.take len) ++ (M.cellsL (ys.drop len) ++ rest) = M.cellsL ys ++ rest := by rw [← List.append_assoc, ← M.cellsL_append, List.take_append_drop]
    have hsubid : ∀ g' ∈ M.idsL (ys.take len), g' ∈ M.idsL ys := fun g' hg' => by
      obtain ⟨y, hy, hg''⟩ := M.mem_idsL.1 hg'
      exact M.mem_idsL.2 ⟨y, List.mem_of_mem_take hy, hg''⟩
    have hndt : (M.idsL (ys.take len)).Nodup := by
      have := hnd.2
      rw [← List.take_append_drop len ys, M.idsL_append] at this
      exact (List.nodup_append.1 this).1
    have h6 := hd2.2.2.2.2.2
    refine ⟨.lst g te te' e (ys.take len) (M.cellsL (ys.drop len) ++ rest) fr, ?_, ?_, ?_⟩
    · refine hm.sub ?_ ?_ ?_ ?_
      · simp only [M.OkL, M.Ok]
        refine ⟨⟨o1, M.OkL_iff.2 fun y hy => M.OkL_iff.1 o2 y (List.mem_of_mem_take hy), fun y hy => o3 y (List.mem_of_mem_take hy), ⟨_, hrl, ?_⟩, o5, ?_⟩, ht.hok⟩
        · rw [List.length_take]; omega
        · rw [hrl, ← Nat.add_mul, List.length_take, Nat.min_eq_left (by omega)]
          intro i hi
          refine o6 i ?_
          rw [o4, ← Nat.add_mul]
          rwa [show len + (ys.length - len + kk) = ys.length + kk by omega] at hi
      · simp only [M.InL, M.In, hsplit]
        exact ⟨⟨hin.1, M.InL_iff.2 fun y hy => M.InL_iff.1 hin.2 y (List.mem_of_mem_take hy)⟩, ht.hin⟩
      · simp only [M.idsL, M.ids, List.cons_append]
        refine List.nodup_cons.2 ⟨?_, List.nodup_append.2 ⟨hndt, ht.hnd, fun a ha b hb e' => ?_⟩⟩
        · simp only [List.mem_append, not_or]
          exact ⟨fun hh => hnd.1 (hsubid _ hh), fun hh => h6 g (by simp [M.ids]) hh⟩
        · subst e'
          exact h6 a (by simp only [M.ids, List.mem_cons]; exact .inr (hsubid a ha)) hb
      · intro g' hg'
        simp only [M.idsL, M.ids, List.cons_append, List.mem_cons, List.mem_append] at hg' ⊢
        rcases hg' with h | h | h
        · exact .inl h
        · exact .inr (.inl (hsubid g' h))
        · exact .inr (.inr h)
    · simp only [M.cells, List.cons.injEq, Value.slice.injEq, and_true]
      rw [List.length_take, Nat.min_eq_left (by omega)]
      refine ⟨?_, rfl, ?_⟩
      · have := j6 (.inr rfl)
        rw [this]; simp [Addr.add]
      · rw [hrl, Nat.mul_div_cancel _ o1]
        rw [o4, Nat.mul_div_cancel _ o1] at j4
        omega
    · simp only [M.data, M.dataL_map, List.map_take]
  · simp only [M.cells, List.cons.injEq, Value.slice.injEq, and_true] at j2
    obtain ⟨rfl, rfl, rfl⟩ := j2
    have hl0 : len = 0 := by simp at hle; omega
    subst hl0
    have hc0 : c = 0 := by omega
    subst hc0
    have ha0 := j6 (.inr rfl)
    simp only [Option.map_none] at ha0
    subst ha0
    exact ⟨_, hm, rfl, by simp [M.data]⟩
  · simp only [M.cells, List.cons.injEq, Value.slice.injEq, and_true] at j2
    obtain ⟨rfl, rfl, rfl⟩ := j2
    have hfr : FRep w Fz [.slice ad2 xs.length cap2] (.lst false te e xs) := by simp only [FRep]; exact ⟨ad2, cap2, rfl, q1, q2⟩
    have := slcVal_frz hfr j4 j5 j6
    exact ⟨.leaf (.slice a' len c) (.lst false te e (xs.take len)), ht.leaf (by simp only [M.Ok, isAgg]; exact ⟨by simpa using this, trivial⟩) (by simp only [M.In]) rfl, rfl, rfl⟩

theorem fits_one (hT : TbOk P T) {t : Nat} (h : fitsTy (T.ty t) .undef = true) : ∃ i, P.info? t = some i ∧ i.size = 1 := by
  unfold fitsTy at h
  have h := of_decide_eq_true h
  simp only [isAgg, D.size] at h
  obtain ⟨d, i, h1, h2, h3, h4⟩ := hT.lay t (lay_ne h (by omega))
  exact ⟨i, h2, by rw [h3, h]⟩

theorem fits_size (hT : TbOk P T) {t : Nat} {d : D} (h : fitsTy (T.ty t) d = true) (hp : isAgg d = false ∨ 0 < D.size d ∨ isAgg d = true) : ∃ i, P.info? t = some i ∧ i.size = D.size d := by
  unfold fitsTy at h
  have h := of_decide_eq_true h
  have hne : T.ty t ≠ .other := by
    cases ha : isAgg d
    · exact lay_ne h (D.size_pos ha)
    · intro e; rw [e, ha] at h; simp [layOf] at h
  obtain ⟨d', i, h1, h2, h3, h4⟩ := hT.lay t hne
  exact ⟨i, h2, by rw [h3, h]⟩

theorem upd_upd {α β : Type} [DecidableEq α] (f : α → β) (k : α) (u v : β) : upd (upd f k u) k v = upd f k v := by funext i; unfold upd; split <;> rfl

/-- A taken datum is stored. -/
theorem store_took {mv : Nat → Bool} (hT : TbOk P T) {o : Oper} {t : Nat} {ax x : Operand} (ho : o.op = .store t ax x) (hi : Inv Z gs Fz st a w) (hd : ∀ t, o.dst = some t → t < a.tmps.size) {r : Rid} {p : List Stp} {d old : D} {k : Taken} {root : Root} {c' : D}
    (hva : VV w Fz (ptrOk Z gs) (slcOk gs) (a.eval ax) (.ptr r p)) (hvx : VV w Fz (ptrOk Z gs) (slcOk gs) (a.eval x) d) (hp : isPlain d = true) (hk : take mv st.rs d = some k)
    (h1 : updAll k.upd st.rs r = some root) (h2 : root.c.get p = some old) (h3 : root.c.put p k.d = some c') (h4 : D.size old = D.size k.d) (h5 : ∃ i, P.info? t = some i ∧ i.size = D.size k.d) :
    OpSound P Z o a w (st.app o.dst ⟨.undef, k.upd ++ [(r, some { root with c := c' })], k.kill ++ [⟨r, p, false, true⟩]⟩) := by
  obtain ⟨gs', Fz', m, tk, hdm⟩ := take_ok hi.mem hi.rs (Thin.refl gs) (fun _ h => h) (hvx.cells hp) hk
  have hc := tk.cells
  simp only [M.cellsL, List.append_nil] at hc
  rw [tk.rs] at h1
  obtain ⟨x1, hx, rfl⟩ := Option.map_eq_some_iff.1 h1
  obtain ⟨z, hz, hdz, hzok⟩ := M.get_data p (tk.mem.ok r x1 hx) h2
  obtain ⟨x2, g0, o0, e1, e2, _, e3⟩ := tk.thin.ptr hva.ptr_inv hx hz
  rw [hx] at e1
  obtain rfl := Option.some.inj e1
  obtain ⟨hmok, _⟩ := tk.mem.head
  have hlm : (M.cells m).length = D.size k.d := by rw [M.len hmok, hdm]
  have hlz : (M.cells m).length = (M.cells z).length := by rw [hlm, M.len hzok, hdz, h4]
  obtain ⟨i, q1, q2⟩ := h5
  refine store_hand ho hi hd rfl tk.mem hx hz hlz ?_ ?_ e2 e3 hc.symm q1 (by rw [q2, hlm])
  · intro r'
    rw [updAll_append]
    simp only [updAll]
    exact rs_upd tk.rs (congrArg some (root_put hz (hdm.symm ▸ h3))) r'
  · intro w' hw
    exact Lives.krs_trans tk.lives (lives_store hx hz hlz hw)

section ops
variable (hT : TbOk P T) (hi : Inv Z gs Fz st a w) {dst : Option Nat} {ty : Nat} {pos : String} {after : Array Edge} {g : Option (Nat × Bool)} (hd : ∀ t, dst = some t → t < a.tmps.size) {e : Eff}
include hT hi hd

theorem store_ok {t : Nat} {ax x : Operand} (h : plainEff T (dst.getD 0) ty st (.store t ax x) = some e) : OpSound P Z ⟨dst, .store t ax x, ty, pos, after, g⟩ a w (st.app dst e) := by
  simp only [plainEff, Option.bind_eq_some_iff] at h
  obtain ⟨ad, h1, xd, h2, h3⟩ := h
  have hva := ev_ok hT hi h1
  have hvx := ev_ok hT hi h2
  have scalar : ∀ {r : Rid} {p : List Stp} {xd : D} {v : Value}, ad = .ptr r p → a.eval x = v → VC w Fz (ptrOk Z gs) (slcOk gs) [v] xd → FRep w Fz [v] xd → isScalar xd = true → v.cells = #[v] →
      ((st.rs r).bind fun root => (root.c.get p).bind fun old =>
        if isScalar old = true ∧ fitsTy (T.ty t) (.undef) = true then (root.c.put p xd).map fun c' => (⟨.undef, [(r, some { root with c := c' })], []⟩ : Eff) else none) = some e → OpSound P Z ⟨dst, .store t ax x, ty, pos, after, g⟩ a w (st.app dst e) := by
    intro r p xd v had hex hvc hfr hsc hcv h3'
    subst had
    clear h3
    have h3 := h3'
    clear h3'
    rw [Option.bind_eq_some_iff] at h3
    obtain ⟨root, h4, h3⟩ := h3
    rw [Option.bind_eq_some_iff] at h3
    obtain ⟨old, h5, h6⟩ := h3
    split at h6
    · rename_i hc
      simp only [Option.map_eq_some_iff] at h6
      obtain ⟨c', h7, rfl⟩ := h6
      obtain ⟨i, q1, q2⟩ := fits_one hT hc.2
      obtain ⟨x1, z, hx, rfl, hz, hdz, hzok⟩ := hi.part h4 h5
      obtain ⟨x2, z2, g0, o0, e1, e2, e3, e4⟩ := ptr_place hva.ptr_inv
      rw [hx] at e1
      obtain rfl := Option.some.inj e1
      have hag : isAgg xd = false := by cases xd <;> simp [isScalar] at hsc <;> rfl
      have hm := hi.mem.leaf (m := .leaf v xd) (by simp only [M.Ok]; exact ⟨hfr, hag⟩) (by simp only [M.In]) rfl
      have hzl : ∃ u, z = .leaf u old := by
        cases z with
        | leaf u d0 => simp only [M.data] at hdz; subst hdz; exact ⟨u, rfl⟩
        | agg ys => simp only [M.data] at hdz; subst hdz; simp [isScalar] at hc
        | lst => simp only [M.data] at hdz; subst hdz; simp [isScalar] at hc
      obtain ⟨u, rfl⟩ := hzl
      refine store_hand rfl hi hd rfl hm hx hz (by simp [M.cells]) ?_ ?_ e3 e4 (by rw [hex, hcv]; rfl) q1 (by rw [q2]; rfl)
      · intro r'
        simp only [updAll]
        exact rs_upd hi.rs (congrArg some (root_put (y := .leaf v xd) hz h7)) r'
      · intro w' hw
        refine lives_leaf hx hz rfl (fun off len u' hs => ?_) hw
        obtain ⟨own, te, e', ys, _, _, _, _, _, j1, _⟩ := hs
        simp only [M.data] at j1
        subst j1
        simp [isScalar] at hc
    · cases h6
  cases ad with
  | ptr r p =>
    cases xd with
    | slc r' p' off len =>
      simp only [storeEff] at h3
      split at h3
      · rename_i hsame
        obtain ⟨rfl, rfl, rfl⟩ := hsame
        simp only [Option.bind_eq_some_iff] at h3
        obtain ⟨root, h4, d0, h5, h6⟩ := h3
        obtain ⟨x1, z, hx, rfl, hz, rfl, hzok⟩ := hi.part h4 h5
        cases hdz : M.data z <;> simp only [hdz] at h6 <;> try (cases h6; done)
        rename_i own te' e' xs
        split at h6
        · rename_i hc
          obtain ⟨_, hle, hfit⟩ := hc
          simp only [Option.map_eq_some_iff] at h6
          obtain ⟨c', h7, rfl⟩ := h6
          obtain ⟨x2, m2, e1, e2, hs⟩ := hvx.slc_inv
          rw [hx] at e1
          obtain rfl := Option.some.inj e1
          rw [hz] at e2
          obtain rfl := Option.some.inj e2
          obtain ⟨x2, z2, g0, o0, e1, e2, e3, e4⟩ := ptr_place hva.ptr_inv
          rw [hx] at e1
          obtain rfl := Option.some.inj e1
          obtain ⟨y, hp1, hp2, hp3, hp4, _⟩ := hi.mem.pull hx hz
          obtain ⟨m, hc1, hc2, hc3⟩ := hp1.cut hdz hs hle
          obtain ⟨i, q1, q2⟩ := fits_one hT hfit
          have hly : (M.cells y).length = 1 := by rw [hp2, M.len hzok, hdz]; rfl
          have hv1 : (a.eval x).cells.toList = [a.eval x] := by
            obtain ⟨_, _, _, _, _, _, _, _, _, _, _, he, _⟩ := hs
            rw [he]; rfl
          have hput : (x1.put p' y).put p' m = x1.put p' m := by simp only [G.put, M.put_put p' hz]
          refine store_hand (i := i) rfl hi hd rfl hc1 (upd_self ..) (x1 := x1.put p' y) (z := y) (by simp only [G.put]; exact M.get_put p' hz) (by rw [hc2, hly]; rfl) ?_ ?_ (by rw [G.put_at hz (behind_self p') hz (by rw [hp2])]; exact e3) e4 (by rw [hv1, hc2]) q1 (by rw [q2, hc2]; rfl)
          · intro r1
            rw [upd_upd, hput]
            simp only [updAll]
            exact rs_upd hi.rs (congrArg some (root_put (y := m) hz (hc3 ▸ h7))) r1
          · intro w' hw
            rw [upd_upd, hput]
            exact lives_store hx hz (by rw [hc2, ← hp2, hly]; rfl) hw
        · cases h6
      · simp only [Option.bind_eq_some_iff] at h3
        obtain ⟨k, h4, root, h5, old, h6, h7⟩ := h3
        split at h7
        · rename_i hc
          simp only [Option.map_eq_some_iff] at h7
          obtain ⟨c', h8, rfl⟩ := h7
          obtain ⟨i, q1, q2⟩ := fits_one hT hc.2.2
          have hsz : D.size k.d = 1 := by
            have hv2 := hvx.cells (d := .slc r' p' off len) rfl
            obtain ⟨gs', Fz', m, tk, hdm⟩ := take_ok hi.mem hi.rs (Thin.refl gs) (fun _ h => h) hv2 h4
            have hcc := tk.cells
            simp only [M.cellsL, List.append_nil] at hcc
            have hl := M.len tk.mem.head.1
            rw [hcc, hv2.len, hdm] at hl
            rw [← hl]; rfl
          exact store_took (mv := T.mv) hT rfl hi hd hva hvx rfl h4 h5 h6 h8 (by rw [hsz]; exact hc.1) ⟨i, q1, by rw [q2, hsz]⟩
        · cases h7
    | agg xs =>
      simp only [storeEff, Option.bind_eq_some_iff] at h3
      obtain ⟨k, h4, root, h5, old, h6, h7⟩ := h3
      split at h7
      · rename_i hc
        simp only [Option.map_eq_some_iff] at h7
        obtain ⟨c', h8, rfl⟩ := h7
        have hag : isAgg k.d = true := by
          simp only [take, Option.map_eq_some_iff] at h4
          obtain ⟨y, _, rfl⟩ := h4
          rfl
        exact store_took (mv := T.mv) hT rfl hi hd hva hvx rfl h4 h5 h6 h8 hc.2.1 (fits_size hT hc.1 (.inr (.inr hag)))
      · cases h7
    | lst own te e' xs =>
      simp only [storeEff, Option.bind_eq_some_iff] at h3
      obtain ⟨root, h5, old, h6, h7⟩ := h3
      split at h7
      · rename_i hc
        simp only [Option.map_eq_some_iff] at h7
        obtain ⟨c', h8, rfl⟩ := h7
        obtain ⟨i, q1, q2⟩ := fits_one hT hc.2.2
        have := store_took (mv := T.mv) (k := ⟨.lst own te e' xs, [], []⟩) (o := ⟨dst, .store t ax x, ty, pos, after, g⟩) hT rfl hi hd hva hvx rfl rfl h5 h6 h8 hc.1 ⟨i, q1, q2⟩
        simpa using this
      · cases h7
    | int kk n => exact scalar rfl (hvx.int_inv) (by simp [VC, FRep]) (by simp [FRep]) rfl rfl h3
    | bool b => exact scalar rfl (hvx.bool_inv) (by simp [VC, FRep]) (by simp [FRep]) rfl rfl h3
    | str s => exact scalar rfl (hvx.str_inv) (by simp [VC, FRep]) (by simp [FRep]) rfl rfl h3
    | _ => simp [storeEff] at h3
  | _ => simp [storeEff] at h3

end ops
end
end Go.Lft

/- The operations are sound: slice literals, made slices, conversions, small built-ins. -/
namespace Go.Lft

section
variable {P : Program} {T : Tb} {Z : Zone} {gs gs' : Rid → Option G} {hs : List M} {Fz Fz' : Nat → Prop} {st : St} {a : Act} {w w' : World}

theorem M.idsL_set {xs : List M} {i : Nat} {z y : M} (h : xs[i]? = some z) : ∃ A C, M.idsL xs = A ++ M.ids z ++ C ∧ M.idsL (xs.set i y) = A ++ M.ids y ++ C := by
  have hi := lt_of_get? h
  have hz : xs[i] = z := by rw [List.getElem?_eq_getElem hi] at h; exact Option.some.inj h
  refine ⟨M.idsL (xs.take i), M.idsL (xs.drop (i + 1)), ?_, ?_⟩
  · conv => lhs; rw [← List.take_append_drop i xs, List.drop_eq_getElem_cons hi, hz]
    simp only [M.idsL_append, M.idsL, List.append_assoc]
  · rw [List.set_eq_take_append_cons_drop, if_pos hi]
    simp only [M.idsL_append, M.idsL, List.append_assoc]

/-- One of those in hand is set in another's place. -/
theorem Mem.set_hand {m : M} {ms : List M} (hm : Mem Z gs (m :: ms) Fz w) {i : Nat} {z : M} (h : ms[i]? = some z) : Mem Z gs (ms.set i m) Fz w := by
  have a1 := hm.hok
  have a2 := hm.hin
  have a3 := hm.hnd
  simp only [M.OkL] at a1
  simp only [M.InL] at a2
  simp only [M.idsL] at a3
  obtain ⟨A, C, h1, h2⟩ := M.idsL_set (y := m) h
  refine hm.sub (M.OkL_iff.2 fun x hx => ?_) (M.InL_iff.2 fun x hx => ?_) ?_ ?_
  · rcases List.mem_or_eq_of_mem_set hx with hx | rfl
    · exact M.OkL_iff.1 a1.2 x hx
    · exact a1.1
  · rcases List.mem_or_eq_of_mem_set hx with hx | rfl
    · exact M.InL_iff.1 a2.2 x hx
    · exact a2.1
  · rw [h1] at a3
    rw [h2]
    have p1 : (M.ids m ++ (A ++ C)).Nodup := by
      refine List.Nodup.sublist ?_ a3
      exact List.Sublist.append (List.Sublist.refl _) (List.Sublist.append (List.sublist_append_left A _) (List.Sublist.refl C))
    refine (List.Perm.nodup_iff ?_).1 p1
    rw [← List.append_assoc]
    exact List.Perm.append_right C List.perm_append_comm
  · intro g hg
    rw [h2] at hg
    simp only [M.idsL, h1, List.mem_append] at hg ⊢
    rcases hg with (h | h) | h <;> simp [h]

theorem fillL_ok (hT : TbOk P T) (hi : Inv Z gs Fz st a w) {e : Nat} : ∀ {l : List (Nat × Operand)} {xs : List D} {upds : List (Rid × Option Root)} {kills : List Kill} {y : List D × List (Rid × Option Root) × List Kill} {gs1 : Rid → Option G} {Fz1 : Nat → Prop} {ms : List M} {cells : Array Value},
    Mem Z gs1 ms Fz1 w → (∀ r, updAll upds st.rs r = (gs1 r).map G.root) → Thin gs gs1 → (∀ g, Fz g → Fz1 g) → Lives w w Fz Fz1 (ptrOk Z gs) (ptrOk Z gs1) (slcOk gs) (slcOk gs1) (krs kills) →
    M.dataL ms = xs → (∀ m ∈ ms, (M.cells m).length = e) → cells.toList = M.cellsL ms → fillL T st xs upds kills l = some y →
    ∃ gs2 Fz2 ms2 cells2, Mem Z gs2 ms2 Fz2 w ∧ (∀ r, updAll y.2.1 st.rs r = (gs2 r).map G.root) ∧ Lives w w Fz Fz2 (ptrOk Z gs) (ptrOk Z gs2) (slcOk gs) (slcOk gs2) (krs y.2.2) ∧ M.dataL ms2 = y.1 ∧ (∀ m ∈ ms2, (M.cells m).length = e) ∧ ms2.length = ms.length ∧
      cells2.toList = M.cellsL ms2 ∧ Instr.fill (fun i => some (i * e, e)) cells (l.map fun (i, x) => (i, a.eval x)) = some cells2
  | [], xs, upds, kills, y, gs1, Fz1, ms, cells, hm, hrs, ht, hf, hl, hd, he, hc, h => by
    simp only [fillL, Option.some.injEq] at h
    subst h
    exact ⟨gs1, Fz1, ms, cells, hm, hrs, hl, hd, he, rfl, hc, rfl⟩
  | (i, x) :: l, xs, upds, kills, y, gs1, Fz1, ms, cells, hm, hrs, ht, hf, hl, hd, he, hc, h => by
    simp only [fillL, Option.bind_eq_some_iff] at h
    obtain ⟨old, h1, d, h2, k, h3, h4⟩ := h
    split at h4
    · rename_i hsz
      have hv := evPart_ok hT hi h2
      have hp : isPlain d = true := by cases d <;> simp [take] at h3 <;> rfl
      obtain ⟨gs', Fz', m, tk, hdm⟩ := take_ok hm hrs ht hf (hv.cells hp) h3
      subst hd
      obtain ⟨z, hz, hdz⟩ := M.dataL_get h1
      have hzl := he z (List.mem_of_getElem? hz)
      have hzok := M.OkL_iff.1 hm.hok z (List.mem_of_getElem? hz)
      have hmok := tk.mem.head.1
      have hcm := tk.cells
      simp only [M.cellsL, List.append_nil] at hcm
      have hml : (M.cells m).length = e := by rw [M.len hmok, hdm, hsz.1, ← hdz, ← M.len hzok, hzl]
      have hset := (show Mem Z gs' (m :: ms) Fz' w from tk.mem).set_hand hz
      have he' : ∀ m' ∈ ms.set i m, (M.cells m').length = e := by
        intro m' hm'
        rcases List.mem_or_eq_of_mem_set hm' with hx | rfl
        · exact he m' hx
        · exact hml
      have hil := lt_of_get? hz
      have hcells : (((a.eval x).cells.zipIdx).foldl (fun cs (c, j) => cs.setIfInBounds (i * e + j) c) cells).toList = M.cellsL (ms.set i m) := by
        rw [M.cellsL_set hz, hcm]
        exact foldl_set_cells (by rw [hc, M.cellsL_split hz]) (take_mul_len he (by omega)) (by rw [hzl, ← Array.length_toList, ← hcm, hml])
      have hl2 := hl.krs_trans tk.lives
      obtain ⟨gs2, Fz2, ms2, cells2, q1, q2, q3, q4, q5, q6, q7, q8⟩ := fillL_ok hT hi hset (by intro r; rw [updAll_append]; exact tk.rs r) (ht.trans tk.thin) (fun g hg => tk.fz g (hf g hg)) hl2 (by rw [M.dataL_set, hdm]) he' hcells h4
      refine ⟨gs2, Fz2, ms2, cells2, q1, q2, q3, q4, q5, by rw [q6, List.length_set], q7, ?_⟩
      simp only [List.map_cons, Instr.fill]
      have hsize : (a.eval x).cells.size = e := by rw [← Array.length_toList, ← hcm, hml]
      rw [if_neg]
      · simpa using q8
      · have hcs : cells.size = ms.length * e := by rw [← Array.length_toList, hc, M.cellsL_len he]
        simp only [Bool.or_eq_true, decide_eq_true_eq, not_or, ne_eq, Decidable.not_not]
        refine ⟨by simpa using hsize, ?_⟩
        rw [hsize, hcs]
        have := Nat.mul_le_mul_right e (show i + 1 ≤ ms.length by omega)
        rw [Nat.succ_mul] at this
        omega
    · cases h4

/-! ### Cells of zeros -/
theorem madeCells_list (z : Array Value) : ∀ (n : Nat), ((Array.range (n * z.size)).map (z[· % z.size]!)).toList = (List.replicate n z.toList).flatten
  | 0 => by simp
  | n + 1 => by
    have ih := madeCells_list z n
    rw [Array.toList_map, Array.toList_range] at ih ⊢
    rw [Nat.succ_mul, List.range_add, List.map_append, ih, List.map_map, List.replicate_succ']
    simp only [List.flatten_append, List.flatten_cons, List.flatten_nil, List.append_nil, List.append_cancel_left_eq]
    apply List.ext_getElem
    · simp
    · intro i h1 h2
      have hi : i < z.size := by simpa using h1
      simp [Nat.mod_eq_of_lt hi, getElem!_pos, hi]

theorem cellsL_replicate (m : M) : ∀ (n : Nat), M.cellsL (List.replicate n m) = (List.replicate n (M.cells m)).flatten
  | 0 => rfl
  | n + 1 => by simp [List.replicate_succ, M.cellsL, cellsL_replicate m n]
theorem dataL_replicate (m : M) (n : Nat) : M.dataL (List.replicate n m) = List.replicate n (M.data m) := by rw [M.dataL_map, List.map_replicate]
theorem idsL_replicate {m : M} (h : M.ids m = []) : ∀ (n : Nat), M.idsL (List.replicate n m) = []
  | 0 => rfl
  | n + 1 => by simp [List.replicate_succ, M.idsL, h, idsL_replicate h n]

theorem zeros_hand (hm : Mem Z gs hs Fz w) {m : M} (h1 : M.Ok w Fz m) (h2 : M.In w m) (h3 : M.ids m = []) (n : Nat) : Mem Z gs (List.replicate n m ++ hs) Fz w :=
  hm.leaves (M.OkL_iff.2 fun x hx => by rw [(List.mem_replicate.1 hx).2]; exact h1) (M.InL_iff.2 fun x hx => by rw [(List.mem_replicate.1 hx).2]; exact h2) (idsL_replicate h3 n)

theorem run_buildSlice0 {P : Program} (w : World) (t e : TypeId) (len : Nat) (parts : Array (Nat × Value)) (cells : Array Value) (ie : TypeInfo) (z : Value)
    (hu : P.underlying t = some (.slice e)) (hie : P.info? e = some ie) (hz : ie.zero = some z) (hsmall : ¬ len * ie.size > 2 ^ 24)
    (h : Instr.fill (fun i => some (i * ie.size, ie.size)) ((Array.range (len * ie.size)).map (z.cells[· % z.cells.size]!)) parts.toList = some cells) :
    (Instr.buildSlice t len parts).run P w = .ok (.slice (some ⟨w.heap.size, 0, none⟩) len len) (w.alloc (.cells cells e)) := by
  by_cases h0 : len * ie.size = 0
  · have hr : Array.range 0 = #[] := rfl
    rw [h0, hr] at h
    simp only [List.map_toArray, List.map_nil] at h
    simp [Instr.buildSlice, run_underlying hu, sizeOf, typeInfo, zeroValue, hie, hz, h0, h, Go.newRow, hr]
  · exact run_buildSlice w t e len parts cells ie z hu hie hz hsmall h0 h

/-- A slice type's element, and its zero. -/
theorem slice_zero (hT : TbOk P T) (w : World) (Fz : Nat → Prop) {t te e b : Nat} {z : D} (h : T.ty t = .slice te e b) (hz : T.zero te = some z) :
    ∃ i zv m, P.underlying t = some (.slice te) ∧ P.info? te = some i ∧ i.zero = some zv ∧ i.size = e ∧ i.bytes = b ∧ 0 < e ∧ zv.cells.size = e ∧ M.Ok w Fz m ∧ M.In w m ∧ M.ids m = [] ∧ M.cells m = zv.cells.toList ∧ M.data m = z ∧ (M.cells m).length = e ∧ 0 < b := by
  obtain ⟨k0, i, zv, k1, k2, k3, k4, k5, k6, k7⟩ := hT.slice _ _ _ _ h
  obtain ⟨i2, zv2, m, q1, q2, q3, q4, q5, q6, q7⟩ := zero_ghost hT w Fz hz
  rw [k1] at q1
  obtain rfl := Option.some.inj q1
  rw [k5] at q2
  obtain rfl := Option.some.inj q2
  exact ⟨i, zv, m, k0, k1, k5, k2, k3, k4, k6, q3, q4, q5, q6, q7, by rw [q6, Array.length_toList, k6], k7⟩

section ops
variable (hT : TbOk P T) (hi : Inv Z gs Fz st a w) {dst : Option Nat} {ty : Nat} {pos : String} {after : Array Edge} {g : Option (Nat × Bool)} (hd : ∀ t, dst = some t → t < a.tmps.size) {e : Eff}
include hT hi hd

theorem buildSlice_ok {t len : Nat} {parts : Array (Nat × Operand)} (h : plainEff T (dst.getD 0) ty st (.buildSlice t len parts) = some e) : OpSound P Z ⟨dst, .buildSlice t len parts, ty, pos, after, g⟩ a w (st.app dst e) := by
  simp only [plainEff] at h
  split at h
  · rename_i te el b hty
    simp only [Option.bind_eq_some_iff] at h
    obtain ⟨z, h1, h2⟩ := h
    split at h2
    · rename_i hlen
      simp only [Option.map_eq_some_iff] at h2
      obtain ⟨y, h3, rfl⟩ := h2
      obtain ⟨i, zv, m, k0, k1, k2, k3, k4, k5, k6, q1, q2, q3, q4, q5, q6, q7⟩ := slice_zero hT w Fz hty h1
      have hm := zeros_hand hi.mem q1 q2 q3 len
      rw [List.append_nil] at hm
      have hcells : (madeCells zv.cells (len * el)).toList = M.cellsL (List.replicate len m) := by
        rw [cellsL_replicate, q4, ← k6]
        exact madeCells_list zv.cells len
      obtain ⟨gs2, Fz2, ms2, cells2, r1, r2, r3, r4, r5, r6, r7, r8⟩ := fillL_ok (e := el) hT hi hm (upds := []) (kills := []) hi.rs (Thin.refl gs) (fun _ h => h) (Lives.nil_iff.1 (lives_hand (fun _ _ => rfl) fun _ h => h)) (by rw [dataL_replicate, q5]) (fun m' hm' => (by rw [(List.mem_replicate.1 hm').2]; exact q6)) hcells h3
      rw [List.length_replicate] at r6
      have hle : len * el = len * i.size := by rw [k3]
      have hnr := (show Mem Z gs2 (ms2 ++ []) Fz2 w by rwa [List.append_nil]).new_row (tg := te) (te := te) (e := el) (k := 0) (rest := []) (fr := (0, 0)) k5 r5 (by simp) (by
        have h0 : ms2.length ≤ len * el := by rw [r6]; exact Nat.le_mul_of_pos_right _ k5
        simp only [maxLen]; omega) (fun _ => ⟨rfl, rfl⟩) (fun i _ => by simp)
      rw [List.append_nil] at hnr
      have hrun := run_buildSlice0 (P := P) w t te len (parts.map fun (i, x) => (i, a.eval x)) cells2 i zv k0 k1 k2 (by rw [k3]; omega) (by
        rw [k3, Array.toList_map]
        simpa [madeCells] using r8)
      have hlv : Lives w (w.alloc (rowObj te (M.cellsL ms2) (0, 0))) Fz Fz2 (ptrOk Z gs) (ptrOk Z gs2) (slcOk gs) (slcOk gs2) (krs y.2.2) := by
        have := r3.krs_trans (lives_alloc (gs := gs2) r1.fz (rowObj te (M.cellsL ms2) (0, 0)))
        rwa [List.append_nil] at this
      have hyl : y.1.length = len := by rw [← r4, M.dataL_length, r6]
      refine op_row (P := P) (o := ⟨dst, .buildSlice t len parts, ty, pos, after, g⟩) (te := te) (e := el) (xs := y.1) (v := .slice (some ⟨w.heap.size, 0, none⟩) len len) hi hd hnr r2 hlv ?_ ?_ ⟨_, _, by rw [hyl]⟩ ?_
      · simp only [M.data, r4]
      · simp only [M.cells, r6, List.length_nil, Nat.zero_div, Nat.add_zero]
      · have : cells2 = (M.cellsL ms2).toArray := by rw [← r7]
        simp [execOp, hrun, rowObj, this]
    · cases h2
  · cases h

theorem makeSlice_ok {t : Nat} {l c : Operand} (h : plainEff T (dst.getD 0) ty st (.makeSlice t l c) = some e) : OpSound P Z ⟨dst, .makeSlice t l c, ty, pos, after, g⟩ a w (st.app dst e) := by
  simp only [plainEff] at h
  split at h
  · rename_i te el b hty
    simp only [Option.bind_eq_some_iff] at h
    obtain ⟨n, ⟨ld, h1, h2⟩, c1, ⟨cd, h3, h4⟩, z, h5, h6⟩ := h
    split at h6
    · rename_i hc
      obtain rfl := Option.some.inj h6
      obtain ⟨hn, hnc, hcb, hcr⟩ := hc
      have hl1 : ld = .int .i64 n := by
        cases ld <;> simp [int?] at h2
        rename_i k' n'
        cases k' <;> simp [int?] at h2
        rw [h2]
      have hl2 : cd = .int .i64 c1 := by
        cases cd <;> simp [int?] at h4
        rename_i k' n'
        cases k' <;> simp [int?] at h4
        rw [h4]
      subst hl1 hl2
      have e1 := (ev_ok hT hi h1).int_inv
      have e2 := (ev_ok hT hi h3).int_inv
      obtain ⟨i, zv, m, k0, k1, k2, k3, k4, k5, k6, q1, q2, q3, q4, q5, q6, q7⟩ := slice_zero hT w Fz hty h5
      have hm := zeros_hand hi.mem q1 q2 q3 n.toNat
      have hnr := hm.new_row (tg := te) (te := te) (e := el) (k := c1.toNat - n.toNat) (rest := M.cellsL (List.replicate (c1.toNat - n.toNat) m)) (fr := (0, 0)) k5 (fun x hx => by rw [(List.mem_replicate.1 hx).2]; exact q6)
        (by rw [M.cellsL_len (e := el) (fun x hx => (by rw [(List.mem_replicate.1 hx).2]; exact q6)), List.length_replicate]) (by rw [List.length_replicate]; simp only [roomMax] at hcr; simp only [maxLen]; omega) (fun _ => ⟨rfl, rfl⟩) (fun i _ => by simp)
      have hcat : M.cellsL (List.replicate n.toNat m) ++ M.cellsL (List.replicate (c1.toNat - n.toNat) m) = (madeCells zv.cells (c1.toNat * i.size)).toList := by
        rw [← M.cellsL_append, List.replicate_append_replicate, show n.toNat + (c1.toNat - n.toNat) = c1.toNat by omega, cellsL_replicate, q4, k3, ← k6]
        exact (madeCells_list zv.cells c1.toNat).symm
      rw [hcat] at hnr
      have hrun := run_make (P := P) w t te i zv k0 k1 k2 .i64 .i64 n c1 hn hnc (by
        rw [k4]
        simp only [roomMax] at hcb
        have h0 : 0 ≤ c1 := by omega
        have : (c1.toNat : Int) = c1 := Int.toNat_of_nonneg h0
        have h2 : ((b * c1.toNat : Nat) : Int) = (b : Int) * c1 := by rw [Int.natCast_mul, this]
        rw [← h2]
        rw [Nat.mul_comm]
        have hb : c1.toNat * b ≤ 140737488351232 := by
          have h3 : ((c1.toNat * b : Nat) : Int) ≤ 140737488351232 := by rw [Int.natCast_mul, this]; exact hcb
          omega
        omega) (by simp only [roomMax] at hcr; omega)
      have hlv := lives_alloc (Z := Z) (gs := gs) (w := w) hi.fz (rowObj te (madeCells zv.cells (c1.toNat * i.size)).toList (0, 0))
      have := op_row (P := P) (o := ⟨dst, .makeSlice t l c, ty, pos, after, g⟩) (te := te) (e := el) (xs := List.replicate n.toNat z) (u1 := []) (k1 := []) (v := .slice (some ⟨w.heap.size, 0, none⟩) n.toNat c1.toNat) hi hd hnr hi.rs hlv
        (by simp only [M.data, dataL_replicate, q5]) (by
          simp only [M.cells, List.length_replicate]
          rw [M.cellsL_len (e := el) (fun x hx => by rw [(List.mem_replicate.1 hx).2]; exact q6), List.length_replicate, Nat.mul_div_cancel _ k5, show n.toNat + (c1.toNat - n.toNat) = c1.toNat by omega]) ⟨_, _, by rw [List.length_replicate]⟩ (by
          simp [execOp, e1, e2, hrun, rowObj])
      simpa using this
    · cases h6
  · cases h

theorem convert_ok {src t : Nat} {x : Operand} (h : plainEff T (dst.getD 0) ty st (.convert src t x) = some e) : OpSound P Z ⟨dst, .convert src t x, ty, pos, after, g⟩ a w (st.app dst e) := by
  simp only [plainEff, Option.bind_eq_some_iff] at h
  obtain ⟨d, h1, h2⟩ := h
  have hv := ev_ok hT hi h1
  split at h2
  · rename_i k' k k0 n hs ht
    obtain rfl := Option.some.inj h2
    have he := hv.int_inv
    exact op_value hi hd (o := ⟨dst, .convert src t x, ty, pos, after, g⟩) (v := .int k (k.wrap n)) (by simp [execOp, convert, run_underlying (hT.int _ _ hs), run_underlying (hT.int _ _ ht), he, Conv.intToInt]) (by simp [VV, VC, FRep])
  · rename_i s hs ht
    obtain rfl := Option.some.inj h2
    have he := hv.str_inv
    exact op_value hi hd (o := ⟨dst, .convert src t x, ty, pos, after, g⟩) (v := .string ⟨s.toArray⟩) (by simp [execOp, convert, run_underlying (hT.str _ hs), run_underlying (hT.str _ ht), he]) (by simp [VV, VC, FRep])
  · rename_i te el b s hs ht
    split at h2
    · rename_i hte
      split at h2
      · rename_i hc
        obtain rfl := Option.some.inj h2
        obtain ⟨rfl, hlen⟩ := hc
        have he := hv.str_inv
        have hbs : (⟨s.toArray⟩ : ByteArray).size = s.length := by simp [ByteArray.size]
        have hrun := run_bytes_of_string (P := P) w src t te ⟨s.toArray⟩ (hT.str _ hs) (hT.slice _ _ _ _ ht).1 (hT.int _ _ hte)
        rw [hbs] at hrun
        have hge := grownCap_ge w s.length 0 te
        have hle := grownCap_le_maxLen w s.length 0 te (by simp only [roomMax] at hlen; simp only [maxLen]; omega)
        generalize hcap : grownCap w s.length 0 te = cap at hrun hge hle
        let ms : List M := s.map fun b => .leaf (.int .u8 b.toNat) (.int .u8 b.toNat)
        have hmsok : M.OkL w.drew Fz ms := M.OkL_iff.2 fun m hm => by
          obtain ⟨b, _, rfl⟩ := List.mem_map.1 hm
          simp [M.Ok, FRep, isAgg]
        have hmsin : M.InL w.drew ms := M.InL_iff.2 fun m hm => by
          obtain ⟨b, _, rfl⟩ := List.mem_map.1 hm
          simp [M.In]
        have hmsids : M.idsL ms = [] := by
          have : ∀ l : List UInt8, M.idsL (l.map fun b => M.leaf (.int .u8 b.toNat) (.int .u8 b.toNat)) = [] := by
            intro l; induction l with
            | nil => rfl
            | cons x l ih => simp [M.idsL, M.ids, ih]
          exact this s
        have hmsc : M.cellsL ms = s.map fun b => Value.int .u8 b.toNat := by
          have : ∀ l : List UInt8, M.cellsL (l.map fun b => M.leaf (.int .u8 b.toNat) (.int .u8 b.toNat)) = l.map fun b => Value.int .u8 b.toNat := by
            intro l; induction l with
            | nil => rfl
            | cons x l ih => simp [M.cellsL, M.cells, ih]
          exact this s
        have hmsd : M.dataL ms = ofBytes s := by simp [ms, M.dataL_map, ofBytes, M.data]
        have hmsl : ms.length = s.length := by simp [ms]
        have hm := hi.mem.drew.leaves hmsok hmsin hmsids
        have hrow : (bytesRow ⟨s.toArray⟩ cap) = (M.cellsL ms ++ List.replicate (cap - s.length) (Value.int .u8 0)).toArray := by
          rw [hmsc]
          unfold bytesRow
          rw [hbs]
          apply Array.ext'
          simp
        have hrl : (bytesRow ⟨s.toArray⟩ cap).size = cap := by
          rw [hrow]
          simp [hmsc]
          omega
        have hnr := hm.new_row (tg := te + 1000000) (te := te) (e := 1) (k := cap - s.length) (rest := List.replicate (cap - s.length) (.int .u8 0)) (fr := (cap, cap + 1)) (by omega) (fun m hm => by
          obtain ⟨b, _, rfl⟩ := List.mem_map.1 hm
          rfl) (by simp) (by rw [hmsl]; omega) (fun h => by omega) (fun i hi => by simp [hmsl] at hi ⊢; omega)
        have hlv := (lives_drew (Z := Z) (w := w) (gs := gs) (Fz := Fz)).krs_trans (lives_alloc (Z := Z) (gs := gs) (w := w.drew) hi.mem.drew.fz (rowObj te (M.cellsL ms ++ List.replicate (cap - s.length) (.int .u8 0)) (cap, cap + 1)))
        have := op_row (P := P) (o := ⟨dst, .convert src t x, ty, pos, after, g⟩) (te := te + 1000000) (e := 1) (xs := ofBytes s) (u1 := []) (k1 := [] ++ []) (v := .slice (some ⟨w.heap.size, 0, none⟩) s.length cap) hi hd hnr hi.rs hlv
          (by simp only [M.data, hmsd]) (by
            simp only [M.cells, List.length_replicate, hmsl, Nat.div_one, World.size_drew]
            rw [show s.length + (cap - s.length) = cap by omega]) ⟨some ⟨w.heap.size, 0, none⟩, cap, by simp [ofBytes]⟩ (by
            rw [hrl, hrow] at hrun
            simp [execOp, he, hrun, rowObj])
        simpa using this
      · cases h2
    · cases h2
  · rename_i te el b d hs ht
    split at h2
    · rename_i hte
      simp only [Option.bind_eq_some_iff, Option.map_eq_some_iff] at h2
      obtain ⟨xs, h3, s, h4, rfl⟩ := h2
      have hr := toBytes_ok hi hT hs ht hte hv h3 h4
      exact op_value hi hd (o := ⟨dst, .convert src t x, ty, pos, after, g⟩) (v := .string ⟨s.toArray⟩) (by simp [execOp, hr]) (by simp [VV, VC, FRep])
    · cases h2
  · cases h2
end ops

/-! ### Small built-ins -/
theorem vvs_one {d : D} {vs : List Value} {pp : PP} {ps : PS} (h : VVs w Fz pp ps vs [d]) : ∃ v, vs = [v] ∧ VV w Fz pp ps v d := by
  simp only [VVs] at h
  obtain ⟨v, _, rfl, h1, rfl⟩ := h
  exact ⟨v, rfl, h1⟩
theorem vvs_two {d e : D} {vs : List Value} {pp : PP} {ps : PS} (h : VVs w Fz pp ps vs [d, e]) : ∃ u v, vs = [u, v] ∧ VV w Fz pp ps u d ∧ VV w Fz pp ps v e := by
  simp only [VVs] at h
  obtain ⟨u, _, rfl, h1, v, _, rfl, h2, rfl⟩ := h
  exact ⟨u, v, rfl, h1, h2⟩

theorem args_array {args : Array Operand} {vs : List Value} (h : args.toList.map a.eval = vs) : args.map a.eval = vs.toArray := by
  rw [← h]
  apply Array.ext'
  simp

theorem elem_slice (hT : TbOk P T) {t : Nat} (h : (elemOf? (T.ty t)).isSome = true) : ∃ te, P.underlying t = some (.slice te) := by
  obtain ⟨e, he⟩ := Option.isSome_iff_exists.1 h
  obtain ⟨te, _, h1, _⟩ := elem_size hT he
  exact ⟨te, h1⟩

theorem slc_value {gs : Rid → Option G} {v : Value} {r : Rid} {p : List Stp} {off len : Nat} (h : slcOk gs r p off len v) : ∃ a' c, v = .slice a' len c := by
  obtain ⟨x, m, _, _, own, te, e, xs, ad, n, cap, a', c, _, _, rfl, _⟩ := h
  exact ⟨a', c, rfl⟩
theorem lst_value {v : Value} {o : Bool} {te e : Nat} {xs : List D} (h : FRep w Fz [v] (.lst o te e xs)) : ∃ a' c, v = .slice a' xs.length c := by
  cases o
  · simp only [FRep] at h; obtain ⟨a, cap, h1, _⟩ := h; simp only [List.cons.injEq, and_true] at h1; exact ⟨a, cap, h1⟩
  · simp only [FRep] at h; obtain ⟨rfl, h1⟩ := h; simp only [List.cons.injEq, and_true] at h1; exact ⟨none, 0, h1⟩

theorem execOp_builtin (P : Program) (a : Act) (w : World) (dst : Option Nat) (b : Builtin) (args : Array Operand) (tys : Array TypeId) (ty : Nat) (pos : String) (after : Array Edge) (g : Option (Nat × Bool)) :
    ∃ cs, (execOp a.eval ⟨dst, .call ⟨.builtin b, args, tys⟩, ty, pos, after, g⟩).run P w = (builtin b tys ty cs (args.map a.eval)).run P w := by
  refine ⟨args.map fun | .const _ => true | _ => false, ?_⟩
  simp [execOp, resolve, invoke]
  rfl

theorem bytes_size (s : List UInt8) : (⟨s.toArray⟩ : ByteArray).size = s.length := by simp [ByteArray.size]

section ops
variable (hT : TbOk P T) (hi : Inv Z gs Fz st a w) {dst : Option Nat} {ty : Nat} {pos : String} {after : Array Edge} {g : Option (Nat × Bool)} (hd : ∀ t, dst = some t → t < a.tmps.size) {e : Eff}
include hT hi hd

theorem len_ok {args : Array Operand} {tys : Array TypeId} {x d : D} {t0 : Nat} (h1 : evL T st tys.toList args.toList = some [x]) (h0 : tys.toList = [t0]) (h2 : lenEff T t0 x = some d) :
    OpSound P Z ⟨dst, .call ⟨.builtin .len, args, tys⟩, ty, pos, after, g⟩ a w (st.app dst (pureE d)) := by
  obtain ⟨v, k1, k2⟩ := vvs_one (evL_ok hT hi h1)
  have hargs := args_array k1
  have htys : tys = #[t0] := by rw [← Array.toArray_toList (xs := tys), h0]
  have slice : ∀ {n : Nat}, (∃ a' c, v = .slice a' n c) → (elemOf? (T.ty t0)).isSome = true → d = .int .i64 n → OpSound P Z ⟨dst, .call ⟨.builtin .len, args, tys⟩, ty, pos, after, g⟩ a w (st.app dst (pureE d)) := by
    rintro n ⟨a', c, rfl⟩ he rfl
    obtain ⟨te, hte⟩ := elem_slice hT he
    refine op_value hi hd (v := .int .i64 n) ?_ (by simp [VV, VC, FRep])
    obtain ⟨cs, hcs⟩ := execOp_builtin P a w dst .len args tys ty pos after g
    rw [hcs, hargs, htys]
    simp [builtin, Builtin.len_, run_underlying hte, goInt]
  cases x with
  | str s =>
    simp only [lenEff] at h2
    split at h2
    · rename_i hs
      obtain rfl := Option.some.inj h2
      obtain rfl := k2.str_inv
      refine op_value hi hd (v := .int .i64 s.length) ?_ (by simp [VV, VC, FRep])
      obtain ⟨cs, hcs⟩ := execOp_builtin P a w dst .len args tys ty pos after g
      rw [hcs, hargs, htys]
      simp [builtin, Builtin.len_, run_underlying (ty_str hT hs), goInt, bytes_size]
    · cases h2
  | slc r p off len =>
    simp only [lenEff] at h2
    split at h2
    · rename_i hs
      exact slice (slc_value k2.slc_inv) hs (Option.some.inj h2).symm
    · cases h2
  | lst own te e xs =>
    have hf := lst_value (k2.frep_inv (.inl ⟨_, _, _, _, rfl⟩))
    cases own with
    | false =>
      simp only [lenEff] at h2
      split at h2
      · rename_i hs
        exact slice hf hs (Option.some.inj h2).symm
      · cases h2
    | true =>
      cases xs with
      | nil =>
        simp only [lenEff] at h2
        split at h2
        · rename_i hs
          exact slice hf hs (Option.some.inj h2).symm
        · cases h2
      | cons => simp [lenEff] at h2
  | _ => simp [lenEff] at h2

theorem max_ok {args : Array Operand} {tys : Array TypeId} {k k' : IntKind} {x y : Int} (h1 : evL T st tys.toList args.toList = some [.int k x, .int k' y]) :
    OpSound P Z ⟨dst, .call ⟨.builtin .max, args, tys⟩, ty, pos, after, g⟩ a w (st.app dst (pureE (.int k (if y > x then y else x)))) := by
  obtain ⟨u, v, k1, k2, k3⟩ := vvs_two (evL_ok hT hi h1)
  have hargs := args_array k1
  obtain rfl := k2.int_inv
  obtain rfl := k3.int_inv
  refine op_value hi hd (v := .int k (if y > x then y else x)) ?_ (by simp [VV, VC, FRep])
  obtain ⟨cs, hcs⟩ := execOp_builtin P a w dst .max args tys ty pos after g
  rw [hcs, hargs]
  simp [builtin, Builtin.max_, Builtin.max2]

theorem min_ok {args : Array Operand} {tys : Array TypeId} {k k' : IntKind} {x y : Int} (h1 : evL T st tys.toList args.toList = some [.int k x, .int k' y]) :
    OpSound P Z ⟨dst, .call ⟨.builtin .min, args, tys⟩, ty, pos, after, g⟩ a w (st.app dst (pureE (.int k (if y < x then y else x)))) := by
  obtain ⟨u, v, k1, k2, k3⟩ := vvs_two (evL_ok hT hi h1)
  have hargs := args_array k1
  obtain rfl := k2.int_inv
  obtain rfl := k3.int_inv
  refine op_value hi hd (v := .int k (if y < x then y else x)) ?_ (by simp [VV, VC, FRep])
  obtain ⟨cs, hcs⟩ := execOp_builtin P a w dst .min args tys ty pos after g
  rw [hcs, hargs]
  simp [builtin, Builtin.min_, Builtin.min2]
end ops
end
end Go.Lft

/- The operations are sound: append, copy, clear. -/
namespace Go.Lft

section
variable {P : Program} {T : Tb} {Z : Zone} {gs gs' : Rid → Option G} {hs : List M} {Fz Fz' : Nat → Prop} {st : St} {a : Act} {w w' : World}

/-- What is in hand is told anew; some of its blocks are read from now on. -/
theorem Mem.refreeze {m m' : M} (hm : Mem Z gs (m :: hs) Fz w) (I : List Nat) (h1 : ∀ g ∈ I, g ∈ M.ids m) (h2 : ∀ g ∈ M.ids m', g ∈ M.ids m ∧ g ∉ I) (h3 : (M.ids m').Nodup) (h4 : M.Ok w (fun g => Fz g ∨ g ∈ I) m') (h5 : M.In w m') :
    Mem Z gs (m' :: hs) (fun g => Fz g ∨ g ∈ I) w := by
  obtain ⟨k1, k2, k3, k4, k5, k6⟩ := hm.head
  have ht := hm.tail
  have hf : ∀ g, Fz g → Fz g ∨ g ∈ I := fun g h => .inl h
  refine { ok := fun r x h => (hm.ok r x h).stab (fun _ _ => rfl) hf, ins := hm.ins, nd := hm.nd, row := hm.row, own := ?_, dis := hm.dis, hok := ?_, hin := ?_, hnd := ?_, hown := ?_, hdis := ?_, fz := ?_, fz0 := fun g h => .inl (hm.fz0 g h), fzo := ?_, keeps := hm.keeps, lent := hm.lent }
  · intro r x h g hg
    refine ⟨(hm.own r x h g hg).1, fun hh => ?_⟩
    rcases hh with hh | hh
    · exact (hm.own r x h g hg).2 hh
    · exact k5 r x h g hg (h1 g hh)
  · simp only [M.OkL]
    exact ⟨h4, ht.hok.stab (fun _ _ => rfl) hf⟩
  · simp only [M.InL]
    exact ⟨h5, ht.hin⟩
  · simp only [M.idsL, List.nodup_append]
    exact ⟨h3, ht.hnd, fun a ha b hb e => k6 a (h2 a ha).1 (e ▸ hb)⟩
  · intro g hg
    simp only [M.idsL, List.mem_append] at hg
    rcases hg with hg | hg
    · refine ⟨(k4 g (h2 g hg).1).1, fun hh => ?_⟩
      rcases hh with hh | hh
      · exact (k4 g (h2 g hg).1).2 hh
      · exact (h2 g hg).2 hh
    · refine ⟨(ht.hown g hg).1, fun hh => ?_⟩
      rcases hh with hh | hh
      · exact (ht.hown g hg).2 hh
      · exact k6 g (h1 g hh) hg
  · intro r x h g hg hh
    simp only [M.idsL, List.mem_append] at hh
    rcases hh with hh | hh
    · exact k5 r x h g hg (h2 g hh).1
    · exact ht.hdis r x h g hg hh
  · intro g hg
    rcases hg with hg | hg
    · exact hm.fz g hg
    · exact k2.lt g (h1 g hg)
  · intro g hg
    rcases hg with hg | hg
    · exact hm.fzo g hg
    · exact .inr (k4 g (h1 g hg)).1

theorem upd_same {gs : Rid → Option G} {r : Rid} {x : G} (h : gs r = some x) : upd gs r (some x) = gs := by
  funext i; unfold upd; split
  · rename_i e; rw [e, h]
  · rfl

theorem FItems.size {ao : Option Addr} {e : Nat} : ∀ {xs : List D} {i : Nat}, FItems w Fz ao e i xs → ∀ x ∈ xs, D.size x = e
  | [], i, h, x, hx => by cases hx
  | y :: ys, i, h, x, hx => by
    simp only [FItems] at h
    obtain ⟨⟨ad, c, h0, h1, h2, h3, h4⟩, h5⟩ := h
    rcases List.mem_cons.1 hx with rfl | hx
    · rw [← h4.len, h2]
    · exact FItems.size h5 x hx

/-- What a value of a source holds. -/
def SrcVal (w : World) (v : Value) (e : Nat) (ms : List M) : Prop :=
  (∃ s : List UInt8, v = .string ⟨s.toArray⟩ ∧ M.cellsL ms = s.map (fun b => .int .u8 b.toNat) ∧ ms.length = s.length ∧ e = 1) ∨
  (∃ ao c, v = .slice ao ms.length c ∧ (0 < ms.length → ∃ ad, ao = some ad ∧ CellsAt w ad (M.cellsL ms)))

/-- What is read of frozen elements. -/
theorem items_ghosts {ao : Option Addr} {e : Nat} {xs : List D} (h : FItems w Fz ao e 0 xs) : ∃ ms, M.OkL w Fz ms ∧ M.InL w ms ∧ M.idsL ms = [] ∧ M.dataL ms = xs ∧ (∀ m ∈ ms, (M.cells m).length = e) ∧ (0 < ms.length → ∃ ad, ao = some ad ∧ CellsAt w ad (M.cellsL ms)) := by
  obtain ⟨ms, cs, h1, h2, h3, h4, h5, h6⟩ : ∃ ms cs, M.OkL w Fz ms ∧ M.InL w ms ∧ M.idsL ms = [] ∧ M.dataL ms = xs ∧ M.cellsL ms = cs ∧ (0 < xs.length → ∃ ad, ao = some ad ∧ CellsAt w ad cs) := by
    cases xs with
    | nil => exact ⟨[], [], by simp only [M.OkL], by simp only [M.InL], rfl, rfl, rfl, fun h => by simp at h⟩
    | cons x xs =>
      obtain ⟨ad, rfl, _⟩ := h.some
      obtain ⟨cs, r1, r2, r3⟩ := h.all
      obtain ⟨ms, b1, b2, b3, b4, b5⟩ := M.of_frepL r3
      exact ⟨ms, cs, b1, b2, b3, b5, b4, fun _ => ⟨ad, rfl, by simpa [Addr.add] using r1⟩⟩
  refine ⟨ms, h1, h2, h3, h4, fun m hm => ?_, fun hp => ?_⟩
  · rw [M.len (M.OkL_iff.1 h1 m hm)]
    refine h.size _ ?_
    rw [← h4, M.dataL_map]
    exact List.mem_map.2 ⟨m, hm, rfl⟩
  · rw [h5]; exact h6 (by rw [← h4, M.dataL_length]; exact hp)

theorem ofBytes_ghosts (s : List UInt8) : ∃ ms : List M, M.OkL w Fz ms ∧ M.InL w ms ∧ M.idsL ms = [] ∧ M.dataL ms = ofBytes s ∧ (∀ m ∈ ms, (M.cells m).length = 1) ∧ M.cellsL ms = s.map (fun b => .int .u8 b.toNat) ∧ ms.length = s.length := by
  refine ⟨s.map fun b => .leaf (.int .u8 b.toNat) (.int .u8 b.toNat), ?_, ?_, ?_, ?_, ?_, ?_, by simp⟩
  · refine M.OkL_iff.2 fun m hm => ?_
    obtain ⟨b, _, rfl⟩ := List.mem_map.1 hm
    simp [M.Ok, FRep, isAgg]
  · refine M.InL_iff.2 fun m hm => ?_
    obtain ⟨b, _, rfl⟩ := List.mem_map.1 hm
    simp [M.In]
  · induction s with
    | nil => rfl
    | cons x l ih => simp [M.idsL, M.ids, ih]
  · simp [M.dataL_map, ofBytes, M.data]
  · intro m hm
    obtain ⟨b, _, rfl⟩ := List.mem_map.1 hm
    rfl
  · induction s with
    | nil => rfl
    | cons x l ih => simp [M.cellsL, M.cells, ih]

/-- The elements of a row are read from now on, the row stays one's own. -/
theorem sub_frzL {g tg te e : Nat} {ys : List M} {rest : List Value} {fr : Nat × Nat} : Sub (.lst g tg te e ys rest fr) (.lst g tg te e (M.frzL ys) rest fr) := by
  have hlen : (M.frzL ys).length = ys.length := by rw [M.frzL_map, List.length_map]
  refine ⟨rfl, fun q m' h => ?_⟩
  cases q with
  | nil =>
    rw [M.get_nil] at h
    obtain rfl := Option.some.inj h
    exact ⟨_, M.get_nil _, fun _ => ⟨by simp [M.data], fun off len v hs => hs.head (HeadSame.lst hlen)⟩, fun g o => by rw [M.at_nil, M.at_nil]⟩
  | cons s q =>
    cases s with
    | fld i => simp [M.get] at h
    | elm i =>
      simp only [M.get, Option.bind_eq_some_iff, M.frzL_map, List.getElem?_map, Option.map_eq_some_iff] at h
      obtain ⟨y, ⟨u, h1, rfl⟩, h2⟩ := h
      obtain ⟨x, h3, rfl⟩ := M.frz_get q h2
      refine ⟨x, by simp [M.get, h1, h3], fun hn => ⟨fun hu => hn (by rw [M.frz_data, hu]; simp only [D.freeze]), fun off len v hs => hs.frz⟩, fun g o => ?_⟩
      simp only [M.at_, M.frzL_map, List.getElem?_map, h1, Option.map_some, Option.bind_some]
      exact M.frz_at q _ _ h2

theorem dataL_maps : ∀ ys : List M, M.dataL ys = ys.map M.data
  | [] => rfl
  | y :: ys => by simp only [M.dataL, dataL_maps ys, List.map_cons]
structure SrcOk (Z : Zone) (gs : Rid → Option G) (Fz : Nat → Prop) (w : World) (st : St) (v : Value) (y : Src) (gs' : Rid → Option G) (Fz' : Nat → Prop) (ms : List M) : Prop where
  mem : Mem Z gs' ms Fz' w
  rs : ∀ r, updAll y.upd st.rs r = (gs' r).map G.root
  thin : Thin gs gs'
  fz : ∀ g, Fz g → Fz' g
  lives : Lives w w Fz Fz' (ptrOk Z gs) (ptrOk Z gs') (slcOk gs) (slcOk gs') (krs y.kill)
  data : M.dataL ms = y.xs
  cells : ∀ m ∈ ms, (M.cells m).length = y.e
  val : SrcVal w v y.e ms

theorem lives_refl : Lives w w Fz Fz (ptrOk Z gs) (ptrOk Z gs) (slcOk gs) (slcOk gs) (krs []) := Lives.nil_iff.1 (lives_hand (fun _ _ => rfl) fun _ h => h)

theorem appendSrc_ok (hi : Inv Z gs Fz st a w) {v : Value} {d : D} {r0 : Option Rid} {y : Src} (hv : VV w Fz (ptrOk Z gs) (slcOk gs) v d) (h : appendSrc st r0 d = some y) : ∃ gs' Fz' ms, SrcOk Z gs Fz w st v y gs' Fz' ms := by
  have plain : ∀ {e : Nat} {xs : List D} {ms : List M}, M.OkL w Fz ms → M.InL w ms → M.idsL ms = [] → M.dataL ms = xs → (∀ m ∈ ms, (M.cells m).length = e) → SrcVal w v e ms → SrcOk Z gs Fz w st v ⟨e, xs, [], []⟩ gs Fz ms := by
    intro e xs ms h1 h2 h3 h4 h5 h6
    exact { mem := by simpa using hi.mem.leaves h1 h2 h3, rs := hi.rs, thin := Thin.refl gs, fz := fun _ h => h, lives := lives_refl, data := h4, cells := h5, val := h6 }
  cases d with
  | str s =>
    simp only [appendSrc, Option.some.injEq] at h
    subst h
    obtain rfl := hv.str_inv
    obtain ⟨ms, h1, h2, h3, h4, h5, h6, h7⟩ := ofBytes_ghosts (w := w) (Fz := Fz) s
    exact ⟨gs, Fz, ms, plain h1 h2 h3 h4 h5 (.inl ⟨s, rfl, h6, h7, rfl⟩)⟩
  | lst own te e xs =>
    cases own with
    | true =>
      cases xs with
      | nil =>
        simp only [appendSrc, Option.some.injEq] at h
        subst h
        obtain ⟨a', c, rfl⟩ := lst_value (hv.frep_inv (.inl ⟨_, _, _, _, rfl⟩))
        exact ⟨gs, Fz, [], plain (by simp only [M.OkL]) (by simp only [M.InL]) rfl rfl (fun m hm => by cases hm) (.inr ⟨a', c, rfl, fun h => by simp at h⟩)⟩
      | cons => simp [appendSrc] at h
    | false =>
      simp only [appendSrc, Option.some.injEq] at h
      subst h
      have hf := hv.frep_inv (.inl ⟨_, _, _, _, rfl⟩)
      simp only [FRep] at hf
      obtain ⟨ao, cap, e1, e2, e3⟩ := hf
      simp only [List.cons.injEq, and_true] at e1
      subst e1
      obtain ⟨ms, h1, h2, h3, h4, h5, h6⟩ := items_ghosts e3
      exact ⟨gs, Fz, ms, plain h1 h2 h3 h4 h5 (.inr ⟨ao, cap, by rw [← h4, M.dataL_length], h6⟩)⟩
  | slc r p off len =>
    simp only [appendSrc, Option.bind_eq_some_iff] at h
    obtain ⟨root, h1, d0, h2, h3⟩ := h
    obtain ⟨x, z, hx, rfl, hz, rfl, hzok⟩ := hi.part h1 h2
    obtain ⟨x2, m2, hx2, hz2, hs⟩ := hv.slc_inv
    rw [hx] at hx2
    obtain rfl := Option.some.inj hx2
    rw [hz] at hz2
    obtain rfl := Option.some.inj hz2
    cases hdz : M.data z <;> simp only [hdz] at h3 <;> try (cases h3; done)
    rename_i own te e xs
    have hm := hi.mem
    split at h3
    · rename_i hle
      split at h3
      · -- all of a row goes
        rename_i hc
        obtain ⟨rfl, rfl, hbox, rfl, rfl, _⟩ := hc
        obtain rfl := Option.some.inj h3
        have hb : x.bx = none := by simpa [G.root] using hbox
        rw [M.get_nil] at hz
        obtain rfl := Option.some.inj hz
        have hl := hm.lift hx
        have hrs' : ∀ r', updAll [(r, (none : Option Root))] st.rs r' = (upd gs r none r').map G.root := by simp only [updAll]; exact rs_upd hi.rs rfl
        have hlv : Lives w w Fz Fz (ptrOk Z gs) (ptrOk Z (upd gs r none)) (slcOk gs) (slcOk (upd gs r none)) (krs [⟨r, [], true, true⟩]) := lives_gone (fun r' h => upd_ne _ _ h) (fun _ _ => rfl) fun _ h => h
        have hin := (hi.ins r x hx).2
        rcases row_cases hdz hzok with ⟨_, g, te', ys, rest, fr, he, rfl⟩ | ⟨_, rfl, he⟩ | ⟨hh, _⟩
        · obtain ⟨a', c, rfl, e1, e2, e3⟩ := slcVal_own hs he
          rw [he] at hzok hin hl
          simp only [M.Ok] at hzok
          obtain ⟨o1, o2, o3, o4, o5, o6⟩ := hzok
          simp only [M.In] at hin
          have hlies := own_sub_lies hin.1 o3 o6 (off := 0) (len := ys.length) (by omega)
          rw [List.drop_zero, List.take_length] at hlies
          have hl2 : Mem Z (upd gs r none) ys Fz w := by
            have hnd := hl.head.2.2.1
            simp only [M.ids, List.nodup_cons] at hnd
            exact hl.sub o2 hin.2 hnd.2 (fun g' hg' => by simp only [M.idsL, M.ids, List.append_nil]; exact List.mem_cons_of_mem _ hg')
          refine ⟨upd gs r none, Fz, ys, { mem := hl2, rs := hrs', thin := thin_none gs r, fz := fun _ h => h, lives := hlv, data := rfl, cells := o3, val := .inr ⟨a', c, by rw [M.dataL_length], fun _ => ⟨_, e3 (.inr rfl), hlies.cells⟩⟩ }⟩
        · obtain ⟨a', c, rfl⟩ := slc_value hv.slc_inv
          exact ⟨upd gs r none, Fz, [], { mem := (hm.drop r), rs := hrs', thin := thin_none gs r, fz := fun _ h => h, lives := hlv, data := rfl, cells := (fun m hm => by cases hm), val := .inr ⟨a', c, rfl, fun h => by simp at h⟩ }⟩
        · cases hh
      · split at h3
        · -- scalars: nothing is shared
          rename_i hc
          obtain ⟨rfl, _, hsc⟩ := hc
          obtain rfl := Option.some.inj h3
          have hin : M.In w z := M.get_in p (hi.ins r x hx).2 hz
          rcases row_cases hdz hzok with ⟨_, g, te', ys, rest, fr, rfl, rfl⟩ | ⟨_, rfl, rfl⟩ | ⟨hh, _⟩
          · obtain ⟨a', c, rfl, e1, e2, e3⟩ := slcVal_own hs rfl
            simp only [M.Ok] at hzok
            obtain ⟨o1, o2, o3, o4, o5, o6⟩ := hzok
            simp only [M.In] at hin
            have hle' : off + len ≤ ys.length := by rw [M.dataL_length] at hle; exact hle
            have hlies := own_sub_lies hin.1 o3 o6 (off := off) (len := len) hle'
            have hids : M.idsL ((ys.drop off).take len) = [] := by
              have : ∀ l : List M, (∀ m ∈ l, M.ids m = []) → M.idsL l = [] := by
                intro l; induction l with
                | nil => intro _; rfl
                | cons m l ih => intro h; simp only [M.idsL, h m (List.mem_cons_self ..), ih fun m hm => h m (List.mem_cons_of_mem _ hm), List.append_nil]
              refine this _ fun m hm => ?_
              have hm2 := List.mem_of_mem_drop (List.mem_of_mem_take hm)
              have hd : M.data m ∈ M.dataL ys := by
                rw [dataL_maps]; exact List.mem_map.2 ⟨m, hm2, rfl⟩
              have hs1 := List.all_eq_true.1 hsc _ hd
              cases m <;> simp only [M.data, isScalar] at hs1 <;> first | rfl | (cases hs1)
            have hml : ((ys.drop off).take len).length = len := by simp; omega
            refine ⟨gs, Fz, (ys.drop off).take len, plain (o2.drop_take off len) (hin.2.drop_take off len) hids (by rw [M.dataL_drop_take]) (fun m hm => o3 m (List.mem_of_mem_drop (List.mem_of_mem_take hm))) (.inr ⟨a', c, by rw [hml], fun hp => ?_⟩)⟩
            rw [hml] at hp
            have hlc : 0 < c := by
              rcases Nat.eq_zero_or_pos c with h0 | h0
              · exfalso; have hd := Nat.zero_le (rest.length / e); omega
              · exact h0
            exact ⟨_, e3 (.inl hlc), hlies.cells⟩
          · obtain ⟨a', c, rfl⟩ := slc_value hv.slc_inv
            have hl0 : len = 0 := by simp at hle; omega
            subst hl0
            exact ⟨gs, Fz, [], plain (by simp only [M.OkL]) (by simp only [M.InL]) rfl (by simp [M.dataL]) (fun m hm => by cases hm) (.inr ⟨a', c, rfl, fun h => by simp at h⟩)⟩
          · cases hh
        split at h3
        · -- its elements are read from now on
          rename_i hown
          subst hown
          simp only [Option.map_eq_some_iff] at h3
          obtain ⟨c', h4, rfl⟩ := h3
          have hin : M.In w z := M.get_in p (hi.ins r x hx).2 hz
          rcases row_cases hdz hzok with ⟨_, g, te', ys, rest, fr, rfl, rfl⟩ | ⟨_, rfl, rfl⟩ | ⟨hh, _⟩
          · obtain ⟨a', c, rfl, e1, e2, e3⟩ := slcVal_own hs rfl
            have hzok' := hzok
            simp only [M.Ok] at hzok
            obtain ⟨o1, o2, o3, o4, o5, o6⟩ := hzok
            simp only [M.In] at hin
            obtain ⟨j, hp1, hp2, hp3, hp4, _⟩ := hm.pull hx hz
            have hnd := hp1.head.2.2.1
            simp only [M.ids, List.nodup_cons] at hnd
            have hff : ∀ g, Fz g → Fz g ∨ g ∈ M.idsL ys := fun g h => .inl h
            have hfok := M.frzL_ok hff o2 hin.2 (fun g hg => .inr hg)
            have hfl : (M.frzL ys).length = ys.length := by rw [M.frzL_map, List.length_map]
            have hfc : ∀ m ∈ M.frzL ys, (M.cells m).length = e := by
              intro m hm
              rw [M.frzL_map] at hm
              obtain ⟨u, hu, rfl⟩ := List.mem_map.1 hm
              rw [M.frz_cells]; exact o3 u hu
            have hr := hp1.refreeze (m' := .lst g te te' e (M.frzL ys) rest fr) (M.idsL ys) (fun g' hg' => by simp only [M.ids]; exact List.mem_cons_of_mem _ hg')
              (fun g' hg' => by
                simp only [M.ids, M.frzL_ids, List.mem_singleton] at hg'
                subst hg'
                exact ⟨by simp [M.ids], hnd.1⟩)
              (by simp [M.ids, M.frzL_ids])
              (by simp only [M.Ok, hfl]; exact ⟨o1, hfok, hfc, o4, o5, o6⟩)
              (by simp only [M.In, M.frzL_cells]; exact ⟨hin.1, M.frzL_in ys⟩)
            have hbk := hr.back hz (by rw [hp2]; simp only [M.cells, hfl]) (by rw [hp3]; rfl)
            have hsub : Sub (.lst g te te' e ys rest fr) (.lst g te te' e (M.frzL ys) rest fr) := sub_frzL
            have hdy : M.data (.lst g te te' e (M.frzL ys) rest fr) = .lst true te e (D.freezeL (M.dataL ys)) := by simp only [M.data, M.frzL_data]
            have hok2 : M.OkL w (fun g => Fz g ∨ g ∈ M.idsL ys) (((M.frzL ys).drop off).take len) := hfok.drop_take off len
            have hids : M.idsL (((M.frzL ys).drop off).take len) = [] := by
              have : ∀ l : List M, (∀ m ∈ l, M.ids m = []) → M.idsL l = [] := by
                intro l; induction l with
                | nil => intro _; rfl
                | cons m l ih => intro h; simp only [M.idsL, h m (List.mem_cons_self ..), ih fun m hm => h m (List.mem_cons_of_mem _ hm), List.append_nil]
              refine this _ fun m hm => ?_
              have := List.mem_of_mem_drop (List.mem_of_mem_take hm)
              rw [M.frzL_map] at this
              obtain ⟨u, _, rfl⟩ := List.mem_map.1 this
              exact M.frz_ids u
            have hmem := hbk.leaves hok2 ((M.frzL_in ys).drop_take off len) hids
            rw [List.append_nil] at hmem
            have hlies := own_sub_lies hin.1 o3 o6 (off := off) (len := len) (by rw [M.dataL_length] at hle; exact hle)
            have hcl : M.cellsL (((M.frzL ys).drop off).take len) = M.cellsL ((ys.drop off).take len) := by
              rw [M.frzL_map, ← List.map_drop, ← List.map_take, ← M.frzL_map, M.frzL_cells]
            have hml : (((M.frzL ys).drop off).take len).length = len := by rw [M.dataL_length] at hle; simp [hfl]; omega
            refine ⟨_, _, _, { mem := hmem, rs := ?_, thin := thin_put hx hz hsub, fz := hff, lives := ?_, data := ?_, cells := fun m hm => hfc m (List.mem_of_mem_drop (List.mem_of_mem_take hm)), val := .inr ⟨a', c, by rw [hml], fun hp => ?_⟩ }⟩
            · simp only [updAll]
              exact rs_upd hi.rs (congrArg some (root_put hz (hdy.symm ▸ h4)))
            · exact lives_put hx hz rfl (fun q _ h => kill_ptr h) (fun q _ h => ⟨(kill_slc h).1, fun _ off len v hs => hs.head (HeadSame.lst hfl)⟩) (fun _ _ => rfl) hff
            · rw [M.dataL_drop_take, M.frzL_data, D.freezeL_drop_take]
            · rw [hml] at hp
              have hlc : 0 < c := by
                rcases Nat.eq_zero_or_pos c with h0 | h0
                · exfalso; rw [M.dataL_length] at hle; have hd := Nat.zero_le (rest.length / e); omega
                · exact h0
              exact ⟨_, e3 (.inl hlc), by rw [hcl]; exact hlies.cells⟩
          · obtain ⟨a', c, rfl⟩ := slc_value hv.slc_inv
            have hl0 : len = 0 := by simp at hle; omega
            subst hl0
            have hself : x.put p (.leaf (.slice none 0 0) (.lst true te e [])) = x := by simp only [G.put, M.put_self p hz]
            refine ⟨gs, Fz, [], { mem := hm, rs := ?_, thin := Thin.refl gs, fz := fun _ h => h, lives := ?_, data := by simp [D.freezeL, M.dataL], cells := (fun m hm => by cases hm), val := .inr ⟨a', c, rfl, fun h => by simp at h⟩ }⟩
            · intro r'
              have := root_put (y := .leaf (.slice none 0 0) (.lst true te e [])) hz (by simpa [M.data, D.freezeL] using h4)
              rw [hself] at this
              have hh := rs_upd (r := r) hi.rs (o := some { x.root with c := c' }) (g := some x) (congrArg some this) r'
              rw [upd_same hx] at hh
              simpa only [updAll] using hh
            · exact ⟨fun _ _ => rfl, fun _ h => h, fun _ _ _ _ h => h, fun _ _ _ _ _ _ h => h⟩
          · cases hh
        · -- read already
          rename_i hown
          obtain rfl : own = false := by simpa using hown
          obtain rfl := Option.some.inj h3
          rcases row_cases hdz hzok with ⟨hh, _⟩ | ⟨hh, _⟩ | ⟨_, ad2, cap2, rfl, q1, q2⟩
          · cases hh
          · cases hh
          · obtain ⟨own1, te1, e1, xs1, ad, n, cap, a', c, j1, j2, rfl, j4, j5, j6⟩ := hs
            simp only [M.data, D.lst.injEq] at j1
            obtain ⟨rfl, rfl, rfl, rfl⟩ := j1
            simp only [M.cells, List.cons.injEq, Value.slice.injEq, and_true] at j2
            obtain ⟨rfl, rfl, rfl⟩ := j2
            have hfr : FRep w Fz [.slice ad2 xs.length cap2] (.lst false te e xs) := by simp only [FRep]; exact ⟨ad2, cap2, rfl, q1, q2⟩
            have hsub := slcVal_frz hfr j4 j5 j6
            simp only [FRep] at hsub
            obtain ⟨ao, cap', s1, s2, s3⟩ := hsub
            simp only [List.cons.injEq, Value.slice.injEq, and_true] at s1
            obtain ⟨rfl, s1, rfl⟩ := s1
            obtain ⟨ms, k1, k2, k3, k4, k5, k6⟩ := items_ghosts s3
            exact ⟨gs, Fz, ms, plain k1 k2 k3 k4 k5 (.inr ⟨a', c, by rw [s1, ← k4, M.dataL_length], k6⟩)⟩
    · cases h3
  | _ => simp [appendSrc] at h

/-! ### What the source yields -/
theorem srcVal_len {v : Value} {e : Nat} {ms : List M} (h : SrcVal w v e ms) (w1 : World) : (Builtin.lenOf v).run P w1 = .ok ms.length w1 := by
  rcases h with ⟨s, rfl, h1, h2, _⟩ | ⟨ao, c, rfl, _⟩
  · simp [Builtin.lenOf, bytes_size, h2]
  · simp [Builtin.lenOf]

theorem srcVal_cells {v : Value} {e n : Nat} {ms : List M} (h : SrcVal w v e ms) (hc : ∀ m ∈ ms, (M.cells m).length = e) (hn : n ≤ ms.length) {w1 : World} (hw : ∀ ad, w1.cell? ad = w.cell? ad) : (Builtin.firstCells e n v).run P w1 = .ok (M.cellsL (ms.take n)).toArray w1 := by
  rcases h with ⟨s, rfl, h1, h2, rfl⟩ | ⟨ao, c, rfl, h1⟩
  · have hlen : (M.cellsL (ms.take n)).length = n := by rw [take_mul_len hc hn, Nat.mul_one]
    have hcat : M.cellsL ms = M.cellsL (ms.take n) ++ M.cellsL (ms.drop n) := by rw [← M.cellsL_append, List.take_append_drop]
    have : M.cellsL (ms.take n) = (s.take n).map fun b => .int .u8 b.toNat := by
      rw [List.map_take, ← h1, hcat, List.take_left' hlen]
    rw [this]
    simp [Builtin.firstCells, ByteArray.extract_mk]
  · rcases Nat.eq_zero_or_pos n with rfl | hp
    · cases ao with
      | none => simp [Builtin.firstCells, M.cellsL]
      | some ad =>
        have := run_loadCells_at P (w := w1) (a := ad) (cs := []) (fun j hj => by simp at hj)
        simpa [Builtin.firstCells, M.cellsL] using this
    · obtain ⟨ad, rfl, hcs⟩ := h1 (by omega)
      have hlen : (M.cellsL (ms.take n)).length = n * e := take_mul_len hc hn
      have hcat : M.cellsL ms = M.cellsL (ms.take n) ++ M.cellsL (ms.drop n) := by rw [← M.cellsL_append, List.take_append_drop]
      have hcs2 : CellsAt w1 ad (M.cellsL (ms.take n)) := by
        intro j hj
        rw [hw]
        have := hcs j (by rw [hcat, List.length_append]; omega)
        rw [this]
        simp only [hcat]
        rw [List.getElem_append_left hj]
      have := run_loadCells_at P hcs2
      rw [hlen] at this
      simpa [Builtin.firstCells] using this

end
end Go.Lft

/- The operations are sound: append, copy, clear; the operations all together. -/
namespace Go.Lft

section
variable {P : Program} {T : Tb} {Z : Zone} {gs gs' : Rid → Option G} {hs : List M} {Fz Fz' : Nat → Prop} {st : St} {a : Act} {w w' : World}

theorem zeroCells_list (z : Array Value) (n : Nat) : (Builtin.zeroCells z n).toList = (List.replicate n z.toList).flatten := by
  unfold Builtin.zeroCells
  exact madeCells_list z n

def notInt (d : TypeDesc) : Prop := d = .string ∨ ∃ te, d = .slice te

theorem run_append_room {t0 t1 ty te : Nat} {d1 : TypeDesc} {i : TypeInfo} {base : Option Addr} {sLen sCap e : Nat} {v : Value} {ms : List M} (ht : P.underlying t0 = some (.slice te)) (h1 : P.underlying t1 = some d1) (hd1 : notInt d1) (hti : P.info? te = some i) (hie : i.size = e)
    (hv : SrcVal w v e ms) (hc : ∀ m ∈ ms, (M.cells m).length = e) (hroom : sLen + ms.length ≤ sCap) (hst : ∀ a, base = some a → (storeCells (a.add (sLen * e)) (M.cellsL ms)).run P w = .ok () w') (hb : base = none → w' = w) :
    (Builtin.append_ #[t0, t1] ty #[.slice base sLen sCap, v]).run P w = .ok (.slice base (sLen + ms.length) sCap) w' := by
  subst hie
  have hl := srcVal_len (P := P) hv w
  have hf := srcVal_cells (P := P) hv hc (Nat.le_refl _) (w1 := w) (fun _ => rfl)
  rw [List.take_length] at hf
  rcases hd1 with rfl | ⟨te1, rfl⟩
  · cases base with
    | none =>
      obtain rfl := hb rfl
      simp [Builtin.append_, run_underlying ht, run_underlying h1, sizeOf, typeInfo, hti, hl, hf, hroom]
    | some ad =>
      have := hst ad rfl
      simp [Builtin.append_, run_underlying ht, run_underlying h1, sizeOf, typeInfo, hti, hl, hf, hroom, this]
  · cases base with
    | none =>
      obtain rfl := hb rfl
      simp [Builtin.append_, run_underlying ht, run_underlying h1, sizeOf, typeInfo, hti, hl, hf, hroom]
    | some ad =>
      have := hst ad rfl
      simp [Builtin.append_, run_underlying ht, run_underlying h1, sizeOf, typeInfo, hti, hl, hf, hroom, this]

theorem run_append_more {t0 t1 ty te : Nat} {d1 : TypeDesc} {i : TypeInfo} {z : Value} {base : Option Addr} {sLen sCap e : Nat} {v : Value} {ms : List M} {olds : List Value} (ht : P.underlying t0 = some (.slice te)) (h1 : P.underlying t1 = some d1) (hd1 : notInt d1) (hti : P.info? te = some i) (hie : i.size = e) (hz : i.zero = some z)
    (hv : SrcVal w v e ms) (hc : ∀ m ∈ ms, (M.cells m).length = e) (hroom : ¬ sLen + ms.length ≤ sCap) (hold : (Builtin.firstCells e sLen (.slice base sLen sCap)).run P w.drew = .ok olds.toArray w.drew)
    (h63 : sLen + ms.length ≤ maxLen) (hfit : Builtin.nextslicecap (sLen + ms.length) sCap * i.bytes ≤ 281474976710656) :
    (Builtin.append_ #[t0, t1] ty #[.slice base sLen sCap, v]).run P w = .ok (.slice (some ⟨w.heap.size, 0, none⟩) (sLen + ms.length) (grownCap w (sLen + ms.length) sCap te))
      (w.drew.alloc (.cells (olds.toArray ++ ((M.cellsL ms).toArray ++ Builtin.zeroCells z.cells (grownCap w (sLen + ms.length) sCap te - (sLen + ms.length)))) te)) := by
  subst hie
  have hl := srcVal_len (P := P) hv w
  have hf := srcVal_cells (P := P) hv hc (Nat.le_refl _) (w1 := w.drew) (fun _ => by simp)
  rw [List.take_length] at hf
  have h63' : ¬ (9223372036854775807 < ((sLen : Int) + (ms.length : Int))) := by simp only [maxLen] at h63; omega
  have h48' : ¬ (281474976710656 < Builtin.nextslicecap (sLen + ms.length) sCap * i.bytes) := by omega
  rcases hd1 with rfl | ⟨te1, rfl⟩
  · simp [Builtin.append_, run_underlying ht, run_underlying h1, sizeOf, typeInfo, zeroValue, hti, hz, hl, hf, hold, hroom, h63', h48', Question.forced, Go.newRow, grownCap]
  · simp [Builtin.append_, run_underlying ht, run_underlying h1, sizeOf, typeInfo, zeroValue, hti, hz, hl, hf, hold, hroom, h63', h48', Question.forced, Go.newRow, grownCap]

/-- A row in hand is written. -/
theorem Mem.row_write {g tg te e k : Nat} {ys ms ys' : List M} {rest rest' : List Value} {fr : Nat × Nat} (hm : Mem Z gs (.lst g tg te e ys rest fr :: (ms ++ hs)) Fz w) {L c R : List Value} (h1 : M.cellsL ys ++ rest = L ++ c ++ R)
    (hw : Written w w' g L.length (M.cellsL ms)) (hc : c.length = (M.cellsL ms).length) (hsz : w'.heap.size = w.heap.size) (hsm : Same w w') (h2 : M.cellsL ys' ++ rest' = L ++ M.cellsL ms ++ R) (h3 : ∀ x ∈ ys', x ∈ ys ∨ x ∈ ms)
    (h4 : (M.idsL ys').Nodup) (h5 : ∀ x ∈ ys', (M.cells x).length = e) (hk : rest'.length = k * e) (hk' : ys'.length + k ≤ maxLen) (hlen : ys'.length * e + rest'.length = ys.length * e + rest.length) :
    Mem Z gs (.lst g tg te e ys' rest' fr :: hs) Fz w' := by
  obtain ⟨k1, k2, k3, k4, k5, k6⟩ := hm.head
  have ht := hm.tail
  obtain ⟨hgo, hgf⟩ := k4 g (by simp [M.ids])
  have hoth : ∀ g', g' ≠ g → w'.heap[g']? = w.heap[g']? := by obtain ⟨_, _, _, _, _, _, _, _, _, h⟩ := hw; exact h
  have hfz : ∀ g', Fz g' → w'.heap[g']? = w.heap[g']? := fun g' hg' => hoth g' (by rintro rfl; exact hgf hg')
  simp only [M.Ok] at k1
  simp only [M.In] at k2
  simp only [M.ids, List.nodup_cons, List.mem_cons] at k3 k4 k5 k6
  obtain ⟨o1, o2, o3, o4, o5, o6⟩ := k1
  have t1 := ht.hok
  have t2 := ht.hin
  have t3 := ht.hnd
  rw [M.OkL_append] at t1
  rw [M.InL_append] at t2
  rw [M.idsL_append] at t3 k6
  have hids : ∀ g' ∈ M.idsL ys', g' ∈ M.idsL ys ∨ g' ∈ M.idsL ms := by
    intro g' hg'
    obtain ⟨x, hx, hgx⟩ := M.mem_idsL.1 hg'
    rcases h3 x hx with h | h
    · exact .inl (M.mem_idsL.2 ⟨x, h, hgx⟩)
    · exact .inr (M.mem_idsL.2 ⟨x, h, hgx⟩)
  have hgn : ∀ g', g' ∈ M.idsL ys' → g' ≠ g := by
    rintro g' hg' rfl
    rcases hids _ hg' with h | h
    · exact k3.1 h
    · exact k6 _ (.inl rfl) (List.mem_append_left _ h)
  have hok' : ∀ x ∈ ys', M.Ok w Fz x ∧ M.In w x := by
    intro x hx
    rcases h3 x hx with h | h
    · exact ⟨M.OkL_iff.1 o2 x h, M.InL_iff.1 k2.2 x h⟩
    · exact ⟨M.OkL_iff.1 t1.1 x h, M.InL_iff.1 t2.1 x h⟩
  have hblock : w'.heap[g]? = some (rowObj te (M.cellsL ys' ++ rest') fr) := by
    obtain ⟨te', fr', L', c', R', e1, e2, e3, e4, e5⟩ := hw
    rw [k2.1, h1] at e3
    simp only [rowObj, Option.some.injEq, Obj.cells.injEq] at e3
    obtain ⟨e3, rfl, rfl⟩ := e3
    replace e3 : L ++ c ++ R = L' ++ c' ++ R' := by have := congrArg Array.toList e3; simpa using this
    obtain ⟨f1, rfl⟩ := List.append_inj e3 (by simp only [List.length_append]; omega)
    obtain ⟨rfl, rfl⟩ := List.append_inj f1 (by omega)
    rw [e4, h2]
  refine { ok := fun r x h => (hm.ok r x h).stab hfz fun _ h => h, ins := ?_, nd := hm.nd, row := hm.row, own := hm.own, dis := hm.dis, hok := ?_, hin := ?_, hnd := ?_, hown := ?_, hdis := ?_, fz := fz_lt_stab hm.fz hsz, fz0 := hm.fz0, fzo := hm.fzo, keeps := hm.keeps.step hsm hsz hgo hoth, lent := hm.lent }
  · intro r x h
    exact (hm.ins r x h).stab fun g' hg' => hoth g' (by rintro rfl; exact k5 r x h _ hg' (.inl rfl))
  · simp only [M.OkL, M.Ok]
    refine ⟨⟨o1, M.OkL_iff.2 fun x hx => (hok' x hx).1.stab hfz fun _ h => h, h5, ⟨k, hk, hk'⟩, o5, ?_⟩, t1.2.stab hfz fun _ h => h⟩
    rw [hlen]; exact o6
  · simp only [M.InL, M.In]
    refine ⟨⟨hblock, M.InL.stab (fun g' hg' => hoth g' (hgn g' hg')) (M.InL_iff.2 fun x hx => (hok' x hx).2)⟩, M.InL.stab (fun g' hg' => hoth g' ?_) t2.2⟩
    rintro rfl
    exact k6 _ (.inl rfl) (List.mem_append_right _ hg')
  · simp only [M.idsL, M.ids, List.cons_append, List.nodup_cons, List.nodup_append, List.mem_append, not_or]
    refine ⟨⟨fun h => hgn g h rfl, fun h => k6 g (.inl rfl) (List.mem_append_right _ h)⟩, h4, (List.nodup_append.1 t3).2.1, fun x hx y hy e => ?_⟩
    subst e
    rcases hids x hx with h | h
    · exact k6 x (.inr h) (List.mem_append_right _ hy)
    · exact (List.nodup_append.1 t3).2.2 x h x hy rfl
  · intro g' hg'
    simp only [M.idsL, M.ids, List.cons_append, List.mem_cons, List.mem_append] at hg'
    rcases hg' with rfl | hg' | hg'
    · exact ⟨hgo, hgf⟩
    · rcases hids g' hg' with h | h
      · exact k4 g' (.inr h)
      · exact ht.hown g' (by rw [M.idsL_append]; exact List.mem_append_left _ h)
    · exact ht.hown g' (by rw [M.idsL_append]; exact List.mem_append_right _ hg')
  · intro r x h g' hg' hh
    simp only [M.idsL, M.ids, List.cons_append, List.mem_cons, List.mem_append] at hh
    rcases hh with rfl | hh | hh
    · exact k5 r x h _ hg' (.inl rfl)
    · rcases hids g' hh with h' | h'
      · exact k5 r x h g' hg' (.inr h')
      · exact ht.hdis r x h g' hg' (by rw [M.idsL_append]; exact List.mem_append_left _ h')
    · exact ht.hdis r x h g' hg' (by rw [M.idsL_append]; exact List.mem_append_right _ hh)

/-- The ids of a row with some elements replaced. -/
theorem idsL_mid {ys ms : List M} (h1 : (M.idsL ys).Nodup) (h2 : (M.idsL ms).Nodup) (h3 : ∀ g ∈ M.idsL ys, g ∉ M.idsL ms) (i n : Nat) : (M.idsL (ys.take i ++ ms ++ ys.drop (i + n))).Nodup := by
  have hA : ∀ g ∈ M.idsL (ys.take i), g ∈ M.idsL ys := fun g hg => by
    obtain ⟨x, hx, h⟩ := M.mem_idsL.1 hg
    exact M.mem_idsL.2 ⟨x, List.mem_of_mem_take hx, h⟩
  have hC : ∀ g ∈ M.idsL (ys.drop (i + n)), g ∈ M.idsL ys := fun g hg => by
    obtain ⟨x, hx, h⟩ := M.mem_idsL.1 hg
    exact M.mem_idsL.2 ⟨x, List.mem_of_mem_drop hx, h⟩
  have hsplit : M.idsL ys = M.idsL (ys.take i) ++ (M.idsL ((ys.drop i).take n) ++ M.idsL (ys.drop (i + n))) := by
    rw [← M.idsL_append, ← M.idsL_append, show ys.drop (i + n) = (ys.drop i).drop n by rw [List.drop_drop], List.take_append_drop, List.take_append_drop]
  rw [hsplit, List.nodup_append, List.nodup_append] at h1
  obtain ⟨a1, ⟨a2, a3, a4⟩, a5⟩ := h1
  simp only [M.idsL_append, List.nodup_append, List.mem_append]
  refine ⟨⟨a1, h2, fun x hx y hy e => h3 x (hA x hx) (e ▸ hy)⟩, a3, fun x hx y hy e => ?_⟩
  subst e
  rcases hx with hx | hx
  · exact a5 x hx x (List.mem_append_right _ hy) rfl
  · exact h3 x (hC x hy) hx

theorem cellsL_mid {e : Nat} {ys ms : List M} {rest : List Value} (hc : ∀ m ∈ ys, (M.cells m).length = e) (hm : ∀ m ∈ ms, (M.cells m).length = e) {i : Nat} (hi : i + ms.length ≤ ys.length) :
    ∃ L c R, M.cellsL ys ++ rest = L ++ c ++ R ∧ L.length = i * e ∧ c.length = (M.cellsL ms).length ∧ M.cellsL (ys.take i ++ ms ++ ys.drop (i + ms.length)) ++ rest = L ++ M.cellsL ms ++ R := by
  refine ⟨M.cellsL (ys.take i), M.cellsL ((ys.drop i).take ms.length), M.cellsL (ys.drop (i + ms.length)) ++ rest, ?_, take_mul_len hc (by omega), ?_, ?_⟩
  · rw [← List.append_assoc, ← M.cellsL_append, ← M.cellsL_append, List.append_assoc (ys.take i), show ys.drop (i + ms.length) = (ys.drop i).drop ms.length by rw [List.drop_drop], List.take_append_drop, List.take_append_drop]
  · rw [M.cellsL_len hm, M.cellsL_len (fun y hy => hc y (List.mem_of_mem_drop (List.mem_of_mem_take hy))), List.length_take, List.length_drop, Nat.min_eq_left (by omega)]
  · simp only [M.cellsL_append, List.append_assoc]

/-- Elements of a row of a root's are written in place. -/
theorem row_inplace (P : Program) {ms : List M} (hm : Mem Z gs ms Fz w) {r : Rid} {x : G} {p : List Stp} {g tg te e i : Nat} {ys : List M} {rest : List Value} {fr : Nat × Nat} (hx : gs r = some x) (hz : M.get x.m p = some (.lst g tg te e ys rest fr))
    (hc : ∀ m ∈ ms, (M.cells m).length = e) (hi : i + ms.length ≤ ys.length) :
    ∃ w', (storeCells ⟨g, i * e, none⟩ (M.cellsL ms)).run P w = .ok () w' ∧ Mem Z (upd gs r (some (x.put p (.lst g tg te e (ys.take i ++ ms ++ ys.drop (i + ms.length)) rest fr)))) [] Fz w' ∧
      Lives w w' Fz Fz (ptrOk Z gs) (ptrOk Z (upd gs r (some (x.put p (.lst g tg te e (ys.take i ++ ms ++ ys.drop (i + ms.length)) rest fr))))) (slcOk gs) (slcOk (upd gs r (some (x.put p (.lst g tg te e (ys.take i ++ ms ++ ys.drop (i + ms.length)) rest fr))))) (krs [⟨r, p, false, false⟩]) := by
  obtain ⟨hzok, hzin⟩ := hm.part hx hz
  obtain ⟨j, hp1, hp2, hp3, hp4, _⟩ := hm.pull hx hz
  have hhead := hp1.head
  have htail := hp1.tail
  simp only [M.Ok] at hzok
  obtain ⟨o1, o2, o3, ⟨k, o4, o4'⟩, o5, o6⟩ := hzok
  simp only [M.In] at hzin
  obtain ⟨L, c, R, c1, c2, c3, c4⟩ := cellsL_mid (rest := rest) o3 hc hi
  have hlies : Lies w g L.length c := by
    refine ⟨te, fr, L, R, rfl, by rw [hzin.1, c1], ?_⟩
    have := congrArg List.length c1
    simp only [List.length_append] at this
    rw [M.cellsL_len o3] at this
    rw [← this]; exact o6
  have hone : ∀ v ∈ M.cellsL ms, v.oneCell' = true := (M.frepL (Fz' := fun _ => True) (fun _ _ => trivial) htail.hok htail.hin (fun _ _ => trivial)).one
  obtain ⟨w', r1, r2, r3, r4⟩ := run_storeCells_written P hlies c3 hone
  rw [c2] at r1
  have hlen2 : (ys.take i ++ ms ++ ys.drop (i + ms.length)).length = ys.length := by simp; omega
  have hnd := hhead.2.2.1
  simp only [M.ids, List.nodup_cons] at hnd
  have hrw := (show Mem Z _ (.lst g tg te e ys rest fr :: (ms ++ [])) Fz w by rw [List.append_nil]; exact hp1).row_write (k := k) (ys' := ys.take i ++ ms ++ ys.drop (i + ms.length)) (rest' := rest) c1 r2 c3 r3 r4 c4
    (fun y hy => by
      simp only [List.mem_append] at hy
      rcases hy with (h | h) | h
      · exact .inl (List.mem_of_mem_take h)
      · exact .inr h
      · exact .inl (List.mem_of_mem_drop h))
    (idsL_mid hnd.2 htail.hnd (fun g' hg' => hhead.2.2.2.2.2 g' (by simp only [M.ids, List.mem_cons]; exact .inr hg')) i ms.length)
    (fun y hy => by
      simp only [List.mem_append] at hy
      rcases hy with (h | h) | h
      · exact o3 y (List.mem_of_mem_take h)
      · exact hc y h
      · exact o3 y (List.mem_of_mem_drop h))
    o4 (by rw [hlen2]; exact o4') (by rw [hlen2])
  have hbk := hrw.back hz (by rw [hp2]; simp only [M.cells, hlen2]) (by rw [hp3]; rfl)
  refine ⟨w', r1, hbk, ?_⟩
  have hfz : ∀ g', Fz g' → w'.heap[g']? = w.heap[g']? := fun g' hg' => by
    obtain ⟨_, _, _, _, _, _, _, _, _, h⟩ := r2
    exact h g' (by rintro rfl; exact (hhead.2.2.2.1 _ (by simp [M.ids])).2 hg')
  exact lives_put hx hz rfl (fun q _ h => kill_ptr h) (fun q _ h => ⟨(kill_slc h).1, fun _ off len v hs => hs.head (HeadSame.lst hlen2)⟩) hfz fun _ h => h

/-- A row leaves its root's place for the hand. -/
theorem row_leaves (hm : Mem Z gs hs Fz w) {rs : Rid → Option Root} (hrs : ∀ r, rs r = (gs r).map G.root) {r : Rid} {x : G} {p : List Stp} {z : M} (hx : gs r = some x) (hz : M.get x.m p = some z) (hza : isAgg (M.data z) = false) {root' : Option Root}
    (h : (if p = [] ∧ x.root.box = false then some (none : Option Root) else (x.root.c.put p .undef).map fun c' => some { x.root with c := c' }) = some root') :
    ∃ gs2, Mem Z gs2 (z :: hs) Fz w ∧ (∀ r', upd rs r root' r' = (gs2 r').map G.root) ∧ Lives w w Fz Fz (ptrOk Z gs) (ptrOk Z gs2) (slcOk gs) (slcOk gs2) (krs [⟨r, p, false, true⟩]) := by
  split at h
  · rename_i hc
    obtain ⟨rfl, hbox⟩ := hc
    obtain rfl := Option.some.inj h
    rw [M.get_nil] at hz
    obtain rfl := Option.some.inj hz
    refine ⟨_, hm.lift hx, rs_upd hrs rfl, fun _ _ => rfl, fun _ h => h, fun r' q v hk hp => ?_, fun r' q off len v hk hp => ?_⟩
    · obtain ⟨x', g, o, h1, h2, h3, h4⟩ := hp
      by_cases hr : r' = r
      · subst hr
        exfalso
        rw [hx] at h1
        obtain rfl := Option.some.inj h1
        have hb := kill_ptr hk
        cases q with
        | nil =>
          have hbn : x.bx = none := by simpa [G.root] using hbox
          unfold G.at_ at h2
          simp [hbn] at h2
        | cons s q => simp [behind] at hb
      · exact ⟨x', g, o, by rw [upd_ne _ _ hr, h1], h2, h3, h4⟩
    · obtain ⟨x', m, h1, h2, h3⟩ := hp
      by_cases hr : r' = r
      · subst hr
        exfalso
        obtain ⟨k1, k2⟩ := kill_slc hk
        cases q with
        | nil => exact k2 rfl rfl
        | cons s q => simp [behind] at k1
      · exact ⟨x', m, by rw [upd_ne _ _ hr, h1], h2, h3⟩
  · simp only [Option.map_eq_some_iff] at h
    obtain ⟨c', h1, rfl⟩ := h
    obtain ⟨j, hp1, hp2, hp3, hp4, hp5⟩ := hm.pull hx hz
    exact ⟨_, hp1, rs_upd hrs (congrArg some (root_put hz (by rw [hp5 hza]; exact h1))), lives_store hx hz (by rw [hp2]) fun _ _ => rfl⟩

theorem tys_two {tys : Array TypeId} {t0 t1 : Nat} (h : tys.toList = [t0, t1]) : tys = #[t0, t1] := by rw [← Array.toArray_toList (xs := tys), h]
theorem tys_one {tys : Array TypeId} {t0 : Nat} (h : tys.toList = [t0]) : tys = #[t0] := by rw [← Array.toArray_toList (xs := tys), h]

end
end Go.Lft

/- The operations are sound: append, copy, clear. -/
namespace Go.Lft

section
variable {P : Program} {T : Tb} {Z : Zone} {gs gs' : Rid → Option G} {hs : List M} {Fz Fz' : Nat → Prop} {st : St} {a : Act} {w w' : World}

theorem not_int (hT : TbOk P T) {t : Nat} (h : (isStr (T.ty t) || (elemOf? (T.ty t)).isSome) = true) : ∃ d, P.underlying t = some d ∧ notInt d := by
  rw [Bool.or_eq_true] at h
  rcases h with h | h
  · exact ⟨_, ty_str hT h, .inl rfl⟩
  · obtain ⟨te, hte⟩ := elem_slice hT h
    exact ⟨_, hte, .inr ⟨te, rfl⟩⟩

theorem frOk0 (n : Nat) : frOk (0, 0) n := fun i _ => by simp

/-- A new row of what is in hand. -/
theorem grown_row {ms : List M} (hm : Mem Z gs ms Fz w) {te el n k : Nat} {zv : Array Value} (he : 0 < el) (hz : zv.size = el) (hc : ∀ m ∈ ms, (M.cells m).length = el) (hn : ms.length = n) (hk : n ≤ k) (hmax : k ≤ maxLen) {cs : Array Value}
    (hcs : cs.toList = M.cellsL ms ++ (Builtin.zeroCells zv (k - n)).toList) :
    Mem Z gs [.lst w.heap.size te te el ms (Builtin.zeroCells zv (k - n)).toList (0, 0)] Fz (w.drew.alloc (.cells cs te)) ∧ M.cells (.lst w.heap.size te te el ms (Builtin.zeroCells zv (k - n)).toList (0, 0)) = [.slice (some ⟨w.heap.size, 0, none⟩) n k] ∧
      Lives w (w.drew.alloc (.cells cs te)) Fz Fz (ptrOk Z gs) (ptrOk Z gs) (slcOk gs) (slcOk gs) (krs []) := by
  have hrl : (Builtin.zeroCells zv (k - n)).toList.length = (k - n) * el := by
    rw [zeroCells_list, List.length_flatten, List.map_replicate, List.sum_replicate_nat, Array.length_toList, hz]
  have hrow : Obj.cells cs te = rowObj te (M.cellsL ms ++ (Builtin.zeroCells zv (k - n)).toList) (0, 0) := by rw [← hcs]; simp [rowObj]
  have := (show Mem Z gs (ms ++ []) Fz w.drew by rw [List.append_nil]; exact hm.drew).new_row (tg := te) (te := te) (e := el) (k := k - n) (rest := (Builtin.zeroCells zv (k - n)).toList) (fr := (0, 0)) he hc hrl (by omega) (fun _ => ⟨rfl, rfl⟩) (frOk0 _)
  rw [hrow]
  refine ⟨this, ?_, ?_⟩
  · simp only [M.cells, hn, hrl, Nat.mul_div_cancel _ he]
    rw [show n + (k - n) = k by omega]
  · exact (lives_drew (Z := Z) (w := w) (gs := gs) (Fz := Fz)).krs_trans (lives_alloc (Z := Z) (gs := gs) (w := w.drew) hm.drew.fz _)

section ops
variable (hT : TbOk P T) (hi : Inv Z gs Fz st a w) {dst : Option Nat} {ty : Nat} {pos : String} {after : Array Edge} {g : Option (Nat × Bool)} (hd : ∀ t, dst = some t → t < a.tmps.size) {e : Eff}
include hT hi hd

/-- An append to nothing. -/
theorem append_nil_ok {args : Array Operand} {t0 t1 te el b : Nat} {v : Value} {d1 : TypeDesc} {u1 : List (Rid × Option Root)} {k1 : List Kill} {gs1 : Rid → Option G} {Fz1 : Nat → Prop} {ms : List M} {xs : List D}
    (hty : T.ty t0 = .slice te el b) (hd1 : P.underlying t1 = some d1) (hn1 : notInt d1) (hargs : args.map a.eval = #[.slice none 0 0, v])
    (hm : Mem Z gs1 ms Fz1 w) (hrs : ∀ r, updAll u1 st.rs r = (gs1 r).map G.root) (hl : Lives w w Fz Fz1 (ptrOk Z gs) (ptrOk Z gs1) (slcOk gs) (slcOk gs1) (krs k1))
    (hdx : M.dataL ms = xs) (hc : ∀ m ∈ ms, (M.cells m).length = el) (hsv : SrcVal w v el ms) (hroom : xs.length * b ≤ roomMax) :
    OpSound P Z ⟨dst, .call ⟨.builtin .append, args, #[t0, t1]⟩, ty, pos, after, g⟩ a w (st.app dst ⟨(newRow (dst.getD 0) te el xs).val, u1 ++ (newRow (dst.getD 0) te el xs).upd, k1 ++ (newRow (dst.getD 0) te el xs).kill⟩) := by
  obtain ⟨s1, i, zv, s2, s3, s4, s5, s6, s7, s8⟩ := hT.slice _ _ _ _ hty
  obtain ⟨cs, hcs⟩ := execOp_builtin P a w dst .append args #[t0, t1] ty pos after g
  have hml : ms.length = xs.length := by rw [← hdx, M.dataL_length]
  rcases Nat.eq_zero_or_pos ms.length with h0 | h0
  · obtain rfl : ms = [] := List.eq_nil_of_length_eq_zero h0
    simp only [M.dataL] at hdx
    subst hdx
    have hrun := run_append_room (P := P) (w := w) (w' := w) (ty := ty) (sLen := 0) (sCap := 0) (base := none) s1 hd1 hn1 s2 s3 hsv hc (Nat.le_refl _) (fun a h => by cases h) (fun _ => rfl)
    have hleaf := hm.leaf (m := .leaf (.slice none 0 0) (.lst true te el [])) (by simp [M.Ok, FRep, isAgg]) (by simp only [M.In]) rfl
    refine op_row (P := P) (o := ⟨dst, .call ⟨.builtin .append, args, #[t0, t1]⟩, ty, pos, after, g⟩) (v := .slice none 0 0) hi hd hleaf hrs hl rfl rfl ⟨_, _, rfl⟩ ?_
    rw [hcs, hargs]
    simp only [List.length_nil, Nat.add_zero] at hrun
    simp [builtin, hrun]
  · have hle : xs.length ≤ roomMax := Nat.le_trans (Nat.le_mul_of_pos_right _ s8) hroom
    have hfit := growslice_fits (need := 0 + ms.length) (old := 0) (bytes := i.bytes) (by omega) (by rw [s4, Nat.zero_add, hml]; simp only [roomMax] at hroom; omega)
    have hrun := run_append_more (P := P) (w := w) (ty := ty) (sLen := 0) (sCap := 0) (base := none) (olds := []) s1 hd1 hn1 s2 s3 s6 hsv hc (by omega) (by simp [Builtin.firstCells]) (by simp only [roomMax] at hle; simp only [maxLen]; omega) hfit
    have hge := grownCap_ge w (0 + ms.length) 0 te
    have hgm := grownCap_le_maxLen w (0 + ms.length) 0 te (by simp only [roomMax] at hle; simp only [maxLen]; omega)
    generalize grownCap w (0 + ms.length) 0 te = cap at hrun hge hgm
    obtain ⟨r1, r2, r3⟩ := grown_row (te := te) (k := cap) (cs := ([] : List Value).toArray ++ ((M.cellsL ms).toArray ++ Builtin.zeroCells zv.cells (cap - (0 + ms.length)))) hm s5 s7 hc rfl (by omega) hgm (by simp)
    have hlv := hl.krs_trans r3
    rw [List.append_nil] at hlv
    refine op_row (P := P) (o := ⟨dst, .call ⟨.builtin .append, args, #[t0, t1]⟩, ty, pos, after, g⟩) (v := .slice (some ⟨w.heap.size, 0, none⟩) ms.length cap) hi hd r1 hrs hlv (by simp only [M.data, hdx]) r2 ⟨_, _, by rw [hml]⟩ ?_
    rw [hcs, hargs]
    rw [Nat.zero_add] at hrun
    simp [builtin, hrun]

theorem append_ok {args : Array Operand} {tys : Array TypeId} {t0 t1 : Nat} {s x : D} (h1 : evL T st tys.toList args.toList = some [s, x]) (h0 : tys.toList = [t0, t1]) (hck : (isStr (T.ty t1) || (elemOf? (T.ty t1)).isSome) = true)
    (h2 : appendEff T (dst.getD 0) t0 st s x = some e) : OpSound P Z ⟨dst, .call ⟨.builtin .append, args, tys⟩, ty, pos, after, g⟩ a w (st.app dst e) := by
  obtain rfl := tys_two h0
  obtain ⟨u, v, k1, k2, k3⟩ := vvs_two (evL_ok hT hi h1)
  have hargs := args_array k1
  obtain ⟨d1, hd1, hn1⟩ := not_int hT hck
  unfold appendEff at h2
  split at h2
  · rename_i te el b hty
    simp only [Option.bind_eq_some_iff] at h2
    obtain ⟨y, h3, h4⟩ := h2
    obtain ⟨gs', Fz', ms, so⟩ := appendSrc_ok hi k3 h3
    split at h4
    · rename_i hye
      have hcl : ∀ m ∈ ms, (M.cells m).length = el := fun m hm => by rw [so.cells m hm, hye]
      have hsv := so.val
      rw [hye] at hsv
      have hml : ms.length = y.xs.length := by rw [← so.data, M.dataL_length]
      cases s with
      | lst own te1 e1 xs1 =>
        cases own with
        | false => cases h4
        | true =>
          cases xs1 with
          | cons => cases h4
          | nil =>
            simp only at h4
            split at h4
            · rename_i hroom
              obtain rfl := Option.some.inj h4
              have hf := k2.frep_inv (.inl ⟨_, _, _, _, rfl⟩)
              simp only [FRep, List.cons.injEq, and_true, true_and] at hf
              subst hf
              exact append_nil_ok hT hi hd hty hd1 hn1 hargs so.mem so.rs so.lives so.data hcl hsv hroom
            · cases h4
      | slc r p off len =>
        simp only [Option.bind_eq_some_iff] at h4
        obtain ⟨root, h5, d0, h6, h7⟩ := h4
        rw [so.rs] at h5
        obtain ⟨x1, hx, rfl⟩ := Option.map_eq_some_iff.1 h5
        obtain ⟨z, hz, rfl, hzok⟩ := M.get_data p (so.mem.ok r x1 hx) h6
        have hs0 := so.thin.slc r p off len u x1 z k2.slc_inv hx hz
        cases hdz : M.data z <;> simp only [hdz] at h7 <;> try (cases h7; done)
        rename_i own te' e' xs
        have hs := hs0 (by rw [hdz]; simp)
        cases own <;> simp only at h7
        · cases h7
        split at h7
        · rename_i hte
          obtain ⟨hte1, hte2⟩ := hte
          subst te'
          subst e'
          obtain ⟨s1, i, zv, s2, s3, s4, s5, s6, s7, s8⟩ := hT.slice _ _ _ _ hty
          split at h7
          · -- at the row's end
            rename_i hend
            obtain ⟨rfl, rfl⟩ := hend
            split at h7
            · rename_i hroom
              simp only [Option.bind_eq_some_iff, Option.some.injEq] at h7
              obtain ⟨root', h8, rfl⟩ := h7
              obtain ⟨gs2, q1, q2, q3⟩ := row_leaves so.mem so.rs hx hz (by rw [hdz]; rfl) h8
              have hrs2 : ∀ r', updAll (y.upd ++ [(r, root')]) st.rs r' = (gs2 r').map G.root := by intro r'; rw [updAll_append]; exact q2 r'
              have hlv := so.lives.krs_trans q3
              rcases row_cases hdz hzok with ⟨_, g1, te', ys, rest, fr, rfl, rfl⟩ | ⟨_, rfl, rfl⟩ | ⟨hh, _⟩
              · obtain ⟨a', c, rfl, e1, e2, e3⟩ := slcVal_own hs rfl
                have ha' := e3 (.inr rfl)
                subst ha'
                simp only [M.dataL_length] at hargs hroom e1 e2
                have hhead := q1.head
                have hzok2 := hhead.1
                have hzin := hhead.2.1
                have hnd := hhead.2.2.1
                simp only [M.Ok] at hzok2
                simp only [M.In] at hzin
                simp only [M.ids, List.nodup_cons] at hnd
                obtain ⟨o1, o2, o3, ⟨k, o4, o4'⟩, o5, o6⟩ := hzok2
                have hck : c = ys.length + k := by rw [o4, Nat.mul_div_cancel _ o1] at e2; omega
                subst hck
                obtain ⟨cs, hcs⟩ := execOp_builtin P a w dst .append args #[t0, t1] ty pos after g
                have hdd : M.dataL (ys ++ ms) = M.dataL ys ++ y.xs := by rw [← so.data]; simp only [M.dataL_map, List.map_append]
                have hndm : (M.idsL (ys ++ ms)).Nodup := by
                  have hq := q1.hnd
                  simp only [M.idsL, M.ids, List.cons_append, List.nodup_cons] at hq
                  rw [M.idsL_append]; exact hq.2
                by_cases hrm : ys.length + ms.length ≤ ys.length + k
                · -- there is room
                  have hrest : rest = rest.take (ms.length * el) ++ rest.drop (ms.length * el) := (List.take_append_drop ..).symm
                  have hml2 : ms.length * el ≤ rest.length := by rw [o4]; exact Nat.mul_le_mul_right _ (by omega)
                  have hlies : Lies w g1 (ys.length * el) (rest.take (ms.length * el)) := by
                    refine ⟨te', fr, M.cellsL ys, rest.drop (ms.length * el), M.cellsL_len o3, ?_, ?_⟩
                    · rw [hzin.1, List.append_assoc, ← hrest]
                    · intro j hj
                      refine o6 j ?_
                      rw [M.cellsL_len o3, List.length_take, List.length_drop, Nat.min_eq_left hml2] at hj
                      omega
                  have hone : ∀ v ∈ M.cellsL ms, v.oneCell' = true := (M.frepL (Fz' := fun _ => True) (fun _ _ => trivial) so.mem.hok so.mem.hin (fun _ _ => trivial)).one
                  have hl2 : (rest.take (ms.length * el)).length = (M.cellsL ms).length := by rw [List.length_take, Nat.min_eq_left hml2, M.cellsL_len hcl]
                  obtain ⟨w', r1, r2, r3, r4⟩ := run_storeCells_written P hlies hl2 hone
                  have hrun := run_append_room (P := P) (w := w) (w' := w') (ty := ty) (sLen := ys.length) (sCap := ys.length + k) (base := some ⟨g1, 0, none⟩) s1 hd1 hn1 s2 s3 hsv hcl hrm (fun ad had => by
                    obtain rfl := Option.some.inj had
                    rw [lit_add]; exact r1) (fun h => by cases h)
                  have hrw := (show Mem Z gs2 (.lst g1 te te' el ys rest fr :: (ms ++ [])) Fz' w by rw [List.append_nil]; exact q1).row_write (k := k - ms.length) (ys' := ys ++ ms) (rest' := rest.drop (ms.length * el)) (L := M.cellsL ys) (c := rest.take (ms.length * el)) (R := rest.drop (ms.length * el))
                    (by rw [List.append_assoc, ← hrest]) (by rw [M.cellsL_len o3]; exact r2) hl2 r3 r4 (by rw [M.cellsL_append]) (fun m hm => List.mem_append.1 hm) hndm (fun m hm => by
                      rcases List.mem_append.1 hm with h | h
                      · exact o3 m h
                      · exact hcl m h) (by rw [List.length_drop, o4, Nat.sub_mul]) (by rw [List.length_append]; omega) (by rw [List.length_append, List.length_drop, Nat.add_mul]; omega)
                  have hfz : ∀ g', Fz' g' → w'.heap[g']? = w.heap[g']? := fun g' hg' => by
                    obtain ⟨_, _, _, _, _, _, _, _, _, h⟩ := r2
                    exact h g' (by rintro rfl; exact (hhead.2.2.2.1 _ (by simp [M.ids])).2 hg')
                  have hlv2 := hlv.krs_trans (Lives.nil_iff.1 (lives_hand (Z := Z) (gs := gs2) hfz fun _ h => h))
                  rw [List.append_nil] at hlv2
                  have := op_row (P := P) (o := ⟨dst, .call ⟨.builtin .append, args, #[t0, t1]⟩, ty, pos, after, g⟩) (te := te) (e := el) (xs := M.dataL ys ++ y.xs) (v := .slice (some ⟨g1, 0, none⟩) (ys.length + ms.length) (ys.length + k)) hi hd hrw hrs2 hlv2 (by simp only [M.data, hdd]) (by
                    simp only [M.cells, List.length_append, List.length_drop, o4]
                    rw [← Nat.sub_mul, Nat.mul_div_cancel _ o1, show ys.length + ms.length + (k - ms.length) = ys.length + k by omega]) ⟨some ⟨g1, 0, none⟩, ys.length + k, by rw [List.length_append, M.dataL_length, hml]⟩ (by
                    rw [hcs, hargs]; simp [builtin, hrun])
                  simpa only [List.append_assoc] using this
                · -- a new row
                  have hcap63 : ys.length + ms.length ≤ roomMax := by
                    rw [hml]
                    exact Nat.le_trans (Nat.le_mul_of_pos_right _ s8) hroom
                  have hfit := growslice_fits (need := ys.length + ms.length) (old := ys.length + k) (bytes := i.bytes) (by omega) (by rw [s4, hml]; simp only [roomMax] at hroom; omega)
                  have hold : (Builtin.firstCells el ys.length (.slice (some ⟨g1, 0, none⟩) ys.length (ys.length + k))).run P w.drew = .ok (M.cellsL ys).toArray w.drew := by
                    have hlies : Lies w g1 0 (M.cellsL ys) := by
                      have := own_sub_lies hzin.1 o3 o6 (off := 0) (len := ys.length) (by omega)
                      rw [List.drop_zero, List.take_length, Nat.zero_mul] at this
                      exact this
                    have hca : CellsAt w.drew ⟨g1, 0, none⟩ (M.cellsL ys) := fun j hj => by rw [World.cell?_drew]; exact hlies.cells j hj
                    have := run_loadCells_at P hca
                    rw [M.cellsL_len o3] at this
                    simpa [Builtin.firstCells] using this
                  have hrun := run_append_more (P := P) (w := w) (ty := ty) (sLen := ys.length) (sCap := ys.length + k) (base := some ⟨g1, 0, none⟩) (olds := M.cellsL ys) s1 hd1 hn1 s2 s3 s6 hsv hcl hrm hold (by simp only [roomMax] at hcap63; simp only [maxLen]; omega) hfit
                  have hge := grownCap_ge w (ys.length + ms.length) (ys.length + k) te
                  have hgm := grownCap_le_maxLen w (ys.length + ms.length) (ys.length + k) te (by simp only [roomMax] at hcap63; simp only [maxLen]; omega)
                  generalize grownCap w (ys.length + ms.length) (ys.length + k) te = cap at hrun hge hgm
                  have hm3 : Mem Z gs2 (ys ++ ms) Fz' w := by
                    have a1 := q1.hok
                    have a2 := q1.hin
                    simp only [M.OkL, M.Ok] at a1
                    simp only [M.InL, M.In] at a2
                    exact q1.sub (a1.1.2.1.append a1.2) (M.InL_append.2 ⟨a2.1.2, a2.2⟩) hndm (fun g' hg' => by
                      simp only [M.idsL, M.ids, List.cons_append]
                      rw [M.idsL_append] at hg'
                      exact List.mem_cons_of_mem _ hg')
                  obtain ⟨r1, r2, r3⟩ := grown_row (te := te) (n := ys.length + ms.length) (k := cap) (cs := (M.cellsL ys).toArray ++ ((M.cellsL ms).toArray ++ Builtin.zeroCells zv.cells (cap - (ys.length + ms.length)))) hm3 s5 s7 (fun m hm => by
                    rcases List.mem_append.1 hm with h | h
                    · exact o3 m h
                    · exact hcl m h) (by rw [List.length_append]) hge hgm (by simp [M.cellsL_append])
                  have hlv2 := hlv.krs_trans r3
                  rw [List.append_nil] at hlv2
                  have := op_row (P := P) (o := ⟨dst, .call ⟨.builtin .append, args, #[t0, t1]⟩, ty, pos, after, g⟩) (te := te) (e := el) (xs := M.dataL ys ++ y.xs) (v := .slice (some ⟨w.heap.size, 0, none⟩) (ys.length + ms.length) cap) hi hd r1 hrs2 hlv2 (by simp only [M.data, hdd]) r2 ⟨some ⟨w.heap.size, 0, none⟩, cap, by rw [List.length_append, M.dataL_length, hml]⟩ (by
                    rw [hcs, hargs]; simp [builtin, hrun])
                  simpa only [List.append_assoc] using this
              · obtain ⟨own1, te1, e1, xs1, ad, n, cap, a', c, j1, j2, rfl, j4, j5, j6⟩ := hs
                simp only [M.cells, List.cons.injEq, Value.slice.injEq, and_true] at j2
                obtain ⟨rfl, rfl, rfl⟩ := j2
                have hc0 : c = 0 := by omega
                subst hc0
                have ha0 := j6 (.inr rfl)
                simp only [Option.map_none] at ha0
                subst ha0
                have := append_nil_ok hT hi hd (dst := dst) (ty := ty) (pos := pos) (after := after) (g := g) (u1 := y.upd ++ [(r, root')]) hty hd1 hn1 hargs q1.tail hrs2 hlv so.data hcl hsv (by simpa using hroom)
                simpa only [List.append_assoc, List.nil_append] using this
              · cases hh
            · cases h7
          · split at h7
            · -- within the row
              rename_i hend hin
              simp only [Option.map_eq_some_iff] at h7
              obtain ⟨c', h8, rfl⟩ := h7
              obtain ⟨cs, hcs⟩ := execOp_builtin P a w dst .append args #[t0, t1] ty pos after g
              rcases row_cases hdz hzok with ⟨_, g1, te', ys, rest, fr, rfl, rfl⟩ | ⟨_, rfl, rfl⟩ | ⟨hh, _⟩
              · obtain ⟨a', c, rfl, e1, e2, e3⟩ := slcVal_own hs rfl
                have hzok' := hzok
                simp only [M.Ok] at hzok
                obtain ⟨o1, o2, o3, ⟨k, o4, o4'⟩, o5, o6⟩ := hzok
                rw [o4, Nat.mul_div_cancel _ o1] at e2
                rw [M.dataL_length] at hin
                obtain ⟨w', r1, r2, r3⟩ := row_inplace P so.mem (i := off + len) hx hz hcl (by rw [hml]; exact hin)
                have hrm : len + ms.length ≤ c := by rw [hml]; omega
                have hrun := run_append_room (P := P) (w := w) (w' := w') (ty := ty) (sLen := len) (sCap := c) (base := a') s1 hd1 hn1 s2 s3 hsv hcl hrm (fun ad had => by
                  by_cases hz0 : 0 < c ∨ off = 0
                  · rw [e3 hz0] at had
                    obtain rfl := Option.some.inj had
                    rw [show (⟨g1, off * el, none⟩ : Addr).add (len * el) = ⟨g1, (off + len) * el, none⟩ by unfold Addr.add; split <;> simp_all [Nat.add_mul]]
                    exact r1
                  · have hms : ms = [] := List.eq_nil_of_length_eq_zero (by omega)
                    subst hms
                    simp only [M.cellsL, storeCells] at r1 ⊢
                    exact r1) (fun hn => by
                  have hz0 : ¬ (0 < c ∨ off = 0) := fun h => by rw [e3 h] at hn; cases hn
                  have hms : ms = [] := List.eq_nil_of_length_eq_zero (by omega)
                  subst hms
                  simp only [M.cellsL, storeCells, Sem.run_pure, Result.ok.injEq, true_and] at r1
                  exact r1.symm)
                have hlv := so.lives.krs_trans r3
                have hdd : M.data (.lst g1 te te' el (ys.take (off + len) ++ ms ++ ys.drop (off + len + ms.length)) rest fr) = .lst true te el ((M.dataL ys).take (off + len) ++ y.xs ++ (M.dataL ys).drop (off + len + y.xs.length)) := by
                  rw [← hml, ← so.data]
                  simp only [M.data, M.dataL_map, List.map_append, List.map_take, List.map_drop]
                refine op_mem (o := ⟨dst, .call ⟨.builtin .append, args, #[t0, t1]⟩, ty, pos, after, g⟩) (v := .slice a' (len + ms.length) c) hi hd (by rw [hcs, hargs]; simp [builtin, hrun]) r2 ?_ hlv ?_
                · intro r'
                  rw [updAll_append]
                  simp only [updAll]
                  exact rs_upd so.rs (congrArg some (root_put hz (hdd.symm ▸ h8))) r'
                · simp only [VV, VC]
                  refine ⟨_, rfl, _, _, upd_self .., by simp only [G.put]; exact M.get_put p hz, true, te, el, _, some ⟨g1, 0, none⟩, ys.length, ys.length + k, a', c, hdd, ?_, by rw [hml], e2, by rw [← hml]; omega, fun h => by rw [e3 h]; simp [lit_add]⟩
                  have : (ys.take (off + len) ++ ms ++ ys.drop (off + len + ms.length)).length = ys.length := by rw [← hml] at hin; simp; omega
                  simp only [M.cells, this, o4, Nat.mul_div_cancel _ o1]
              · exfalso
                have h0 : off = 0 ∧ len = 0 := by simp at hin; omega
                exact hend ⟨h0.1, h0.2⟩
              · cases hh
            · cases h7
        · cases h7
      | _ => cases h4
    · cases h4
  · cases h2

end ops
end
end Go.Lft

/- The operations are sound: copy, clear; all operations but calls. -/
namespace Go.Lft

section
variable {P : Program} {T : Tb} {Z : Zone} {gs gs' : Rid → Option G} {hs : List M} {Fz Fz' : Nat → Prop} {st : St} {a : Act} {w w' : World}

theorem M.OkL.take' {ms : List M} (h : M.OkL w Fz ms) (n : Nat) : M.OkL w Fz (ms.take n) := M.OkL_iff.2 fun x hx => M.OkL_iff.1 h x (List.mem_of_mem_take hx)

theorem Mem.take_hand {ms : List M} (hm : Mem Z gs ms Fz w) (n : Nat) : Mem Z gs (ms.take n) Fz w := by
  have h3 := hm.hnd
  rw [← List.take_append_drop n ms, M.idsL_append] at h3
  refine hm.sub (hm.hok.take' n) (M.InL_iff.2 fun x hx => M.InL_iff.1 hm.hin x (List.mem_of_mem_take hx)) (List.nodup_append.1 h3).1 fun g hg => ?_
  obtain ⟨x, hx, h⟩ := M.mem_idsL.1 hg
  exact M.mem_idsL.2 ⟨x, List.mem_of_mem_take hx, h⟩

section ops
variable (hT : TbOk P T) (hi : Inv Z gs Fz st a w) {dst : Option Nat} {ty : Nat} {pos : String} {after : Array Edge} {g : Option (Nat × Bool)} (hd : ∀ t, dst = some t → t < a.tmps.size) {e : Eff}
include hT hi hd

theorem copy_ok {args : Array Operand} {tys : Array TypeId} {t0 t1 : Nat} {s x : D} (h1 : evL T st tys.toList args.toList = some [s, x]) (h0 : tys.toList = [t0, t1])
    (h2 : copyEff T t0 st s x = some e) : OpSound P Z ⟨dst, .call ⟨.builtin .copy, args, tys⟩, ty, pos, after, g⟩ a w (st.app dst e) := by
  obtain rfl := tys_two h0
  obtain ⟨u, v, k1, k2, k3⟩ := vvs_two (evL_ok hT hi h1)
  have hargs := args_array k1
  cases s with
  | slc r p off len =>
    simp only [copyEff, Option.bind_eq_some_iff] at h2
    obtain ⟨y, h3, root, h5, d0, h6, h7⟩ := h2
    obtain ⟨gs', Fz', ms, so⟩ := appendSrc_ok hi k3 h3
    rw [so.rs] at h5
    obtain ⟨x1, hx, rfl⟩ := Option.map_eq_some_iff.1 h5
    obtain ⟨z, hz, rfl, hzok⟩ := M.get_data p (so.mem.ok r x1 hx) h6
    have hs0 := so.thin.slc r p off len u x1 z k2.slc_inv hx hz
    cases hdz : M.data z <;> simp only [hdz] at h7 <;> try (cases h7; done)
    rename_i own te el xs
    have hs := hs0 (by rw [hdz]; simp)
    cases own <;> simp only at h7
    · cases h7
    split at h7
    · rename_i hc
      obtain ⟨hye, hle, hel⟩ := hc
      simp only [Option.map_eq_some_iff] at h7
      obtain ⟨c', h8, rfl⟩ := h7
      obtain ⟨tE, i, q1, q2, q3⟩ := elem_size hT hel
      have hml : ms.length = y.xs.length := by rw [← so.data, M.dataL_length]
      have hcl : ∀ m ∈ ms, (M.cells m).length = el := fun m hm => by rw [so.cells m hm, hye]
      have hsv := so.val
      rw [hye] at hsv
      obtain ⟨cs, hcs⟩ := execOp_builtin P a w dst .copy args #[t0, t1] ty pos after g
      have hlen := srcVal_len (P := P) hsv w
      have hn : min len ms.length ≤ ms.length := Nat.min_le_right ..
      have hcells := srcVal_cells (P := P) hsv hcl hn (w1 := w) (fun _ => rfl)
      have hcl2 : ∀ m ∈ ms.take (min len ms.length), (M.cells m).length = el := fun m hm => hcl m (List.mem_of_mem_take hm)
      have hl2 : (ms.take (min len ms.length)).length = min len ms.length := by rw [List.length_take, Nat.min_eq_left hn]
      have hmin : Nat.min ms.length len = min len ms.length := Nat.min_comm ..
      rcases row_cases hdz hzok with ⟨_, g1, te', ys, rest, fr, rfl, rfl⟩ | ⟨_, rfl, rfl⟩ | ⟨hh, _⟩
      · obtain ⟨a', c, rfl, e1, e2, e3⟩ := slcVal_own hs rfl
        rw [M.dataL_length] at hle
        obtain ⟨w', r1, r2, r3⟩ := row_inplace P (so.mem.take_hand (min len ms.length)) (i := off) hx hz hcl2 (by rw [hl2]; have := Nat.min_le_left len ms.length; omega)
        rw [hl2] at r2 r3
        have hrun : (builtin .copy #[t0, t1] ty cs (args.map a.eval)).run P w = .ok (.value (.int .i64 (min len ms.length : Nat))) w' := by
          rw [hargs]
          cases a' with
          | none =>
            have hz0 : ¬ (0 < c ∨ off = 0) := fun h => by cases e3 h
            have hlen0 : min len ms.length = 0 := by have := Nat.min_le_left len ms.length; have hd := Nat.zero_le (rest.length / el); omega
            rw [hlen0, List.take_zero] at r1
            simp only [M.cellsL, storeCells, Sem.run_pure, Result.ok.injEq, true_and] at r1
            rw [hlen0] at hcells ⊢
            rw [r1] at hlen hcells ⊢
            simp [builtin, Builtin.copy_, run_underlying q1, hlen, sizeOf, typeInfo, q2, q3, hmin, hlen0, hcells, goInt]
          | some ad =>
            have hst : (storeCells ad (M.cellsL (ms.take (min len ms.length)))).run P w = .ok () w' := by
              by_cases hz0 : 0 < c ∨ off = 0
              · have := e3 hz0
                obtain rfl := Option.some.inj this
                exact r1
              · have hlen0 : min len ms.length = 0 := by have := Nat.min_le_left len ms.length; have hd := Nat.zero_le (rest.length / el); omega
                rw [hlen0, List.take_zero] at r1 ⊢
                exact r1
            simp [builtin, Builtin.copy_, run_underlying q1, hlen, sizeOf, typeInfo, q2, q3, hmin, hcells, hst, goInt]
        have hdd : M.data (.lst g1 te te' el (ys.take off ++ ms.take (min len ms.length) ++ ys.drop (off + min len ms.length)) rest fr) = .lst true te el ((M.dataL ys).take off ++ y.xs.take (min len y.xs.length) ++ (M.dataL ys).drop (off + min len y.xs.length)) := by
          rw [← hml, ← so.data]
          simp only [M.data, M.dataL_map, List.map_append, List.map_take, List.map_drop]
        rw [hml] at hrun
        refine op_mem (o := ⟨dst, .call ⟨.builtin .copy, args, #[t0, t1]⟩, ty, pos, after, g⟩) (v := .int .i64 (min len y.xs.length : Nat)) hi hd (by rw [hcs, hrun]) r2 ?_ (so.lives.krs_trans r3) (by simp [VV, VC, FRep]; omega)
        intro r'
        rw [updAll_append]
        simp only [updAll]
        exact rs_upd so.rs (congrArg some (root_put hz (hdd.symm ▸ h8))) r'
      · obtain ⟨own1, te1, e1, xs1, ad, n, cap, a', c, j1, j2, rfl, j4, j5, j6⟩ := hs
        simp only [M.cells, List.cons.injEq, Value.slice.injEq, and_true] at j2
        obtain ⟨rfl, rfl, rfl⟩ := j2
        have h00 : off = 0 ∧ len = 0 := by simp at hle; omega
        obtain ⟨rfl, rfl⟩ := h00
        have ha0 := j6 (.inr rfl)
        simp only [Option.map_none] at ha0
        subst ha0
        rw [Nat.zero_min] at hcells hmin
        have hrun : (builtin .copy #[t0, t1] ty cs (args.map a.eval)).run P w = .ok (.value (.int .i64 0)) w := by
          rw [hargs]
          simp [builtin, Builtin.copy_, run_underlying q1, hlen, sizeOf, typeInfo, q2, q3, hmin, hcells, goInt]
        have hself : x1.put p (.leaf (.slice none 0 0) (.lst true te el [])) = x1 := by simp only [G.put, M.put_self p hz]
        refine op_mem (o := ⟨dst, .call ⟨.builtin .copy, args, #[t0, t1]⟩, ty, pos, after, g⟩) (v := .int .i64 0) hi hd (by rw [hcs, hrun]) so.mem ?_ (so.lives.krs_trans ⟨fun _ _ => rfl, fun _ h => h, fun _ _ _ _ h => h, fun _ _ _ _ _ _ h => h⟩) (by simp [VV, VC, FRep]; omega)
        intro r'
        rw [updAll_append]
        simp only [updAll]
        have h9 := root_put (y := .leaf (.slice none 0 0) (.lst true te el [])) hz (by simpa [M.data] using h8)
        rw [hself] at h9
        have := rs_upd (r := r) so.rs (o := some { x1.root with c := c' }) (g := some x1) (congrArg some h9) r'
        rwa [upd_same hx] at this
      · cases hh
    · cases h7
  | _ => cases h2

theorem clear_ok {args : Array Operand} {tys : Array TypeId} {t0 : Nat} {s : D} (h1 : evL T st tys.toList args.toList = some [s]) (h0 : tys.toList = [t0])
    (h2 : clearEff T t0 st s = some e) : OpSound P Z ⟨dst, .call ⟨.builtin .clear, args, tys⟩, ty, pos, after, g⟩ a w (st.app dst e) := by
  obtain rfl := tys_one h0
  obtain ⟨u, k1, k2⟩ := vvs_one (evL_ok hT hi h1)
  have hargs := args_array k1
  cases s with
  | slc r p off len =>
    simp only [clearEff, Option.bind_eq_some_iff] at h2
    obtain ⟨root, h5, d0, h6, h7⟩ := h2
    obtain ⟨x1, z, hx, rfl, hz, rfl, hzok⟩ := hi.part h5 h6
    obtain ⟨x2, m2, e1, e2, hs⟩ := k2.slc_inv
    rw [hx] at e1
    obtain rfl := Option.some.inj e1
    rw [hz] at e2
    obtain rfl := Option.some.inj e2
    cases hdz : M.data z <;> simp only [hdz] at h7 <;> try (cases h7; done)
    rename_i own te el xs
    cases own <;> simp only at h7
    · cases h7
    split at h7
    · rename_i hle
      simp only [Option.bind_eq_some_iff] at h7
      obtain ⟨zd, h8, h9⟩ := h7
      split at h9
      · rename_i hzs
        simp only [Option.map_eq_some_iff] at h9
        obtain ⟨c', h10, rfl⟩ := h9
        split at h8
        · rename_i te' el' b' hty
          obtain ⟨i, zv, m, k0, kk1, kk2, k3, k4, k5, k6, q1, q2, q3, q4, q5, q6, q7⟩ := slice_zero hT w Fz hty h8
          have hml : (M.cells m).length = el := by rw [M.len q1, q5, hzs]
          obtain ⟨cs, hcs⟩ := execOp_builtin P a w dst .clear args #[t0] ty pos after g
          have hzc : (Builtin.zeroCells zv.cells len).toList = M.cellsL (List.replicate len m) := by rw [zeroCells_list, cellsL_replicate, q4]
          have hm := zeros_hand hi.mem q1 q2 q3 len
          rw [List.append_nil] at hm
          have hcl2 : ∀ m' ∈ List.replicate len m, (M.cells m').length = el := fun m' hm' => by rw [(List.mem_replicate.1 hm').2]; exact hml
          rcases row_cases hdz hzok with ⟨_, g1, te2, ys, rest, fr, rfl, rfl⟩ | ⟨_, rfl, rfl⟩ | ⟨hh, _⟩
          · obtain ⟨a', c, rfl, e1, e2, e3⟩ := slcVal_own hs rfl
            rw [M.dataL_length] at hle
            obtain ⟨w', r1, r2, r3⟩ := row_inplace P hm (i := off) hx hz hcl2 (by rw [List.length_replicate]; exact hle)
            rw [List.length_replicate] at r2 r3
            have hrun : (builtin .clear #[t0] ty cs (args.map a.eval)).run P w = .ok (.value (.tuple #[])) w' := by
              rw [hargs]
              rcases Nat.eq_zero_or_pos len with rfl | hp
              · simp only [List.replicate_zero, M.cellsL, storeCells, Sem.run_pure, Result.ok.injEq, true_and] at r1
                subst r1
                cases a' <;> simp [builtin, Builtin.clear_, run_underlying k0]
              · have hcp : 0 < c := by
                  rcases Nat.eq_zero_or_pos c with h0 | h0
                  · exfalso; have hd := Nat.zero_le (rest.length / el); omega
                  · exact h0
                have ha := e3 (.inl hcp)
                subst ha
                rw [← hzc] at r1
                obtain ⟨l, rfl⟩ := Nat.exists_eq_succ_of_ne_zero (Nat.pos_iff_ne_zero.1 hp)
                simp [builtin, Builtin.clear_, run_underlying k0, zeroValue, typeInfo, kk1, kk2, r1]
            have hdd : M.data (.lst g1 te te2 el (ys.take off ++ List.replicate len m ++ ys.drop (off + len)) rest fr) = .lst true te el ((M.dataL ys).take off ++ List.replicate len zd ++ (M.dataL ys).drop (off + len)) := by
              rw [← q5]
              simp only [M.data, M.dataL_map, List.map_append, List.map_take, List.map_drop, List.map_replicate]
            refine op_mem (o := ⟨dst, .call ⟨.builtin .clear, args, #[t0]⟩, ty, pos, after, g⟩) (v := .tuple #[]) hi hd (by rw [hcs, hrun]) r2 ?_ r3 (by simp [VV, VVs])
            intro r'
            simp only [updAll]
            exact rs_upd hi.rs (congrArg some (root_put hz (hdd.symm ▸ h10))) r'
          · obtain ⟨a', c, rfl⟩ := slc_value k2.slc_inv
            have h00 : off = 0 ∧ len = 0 := by simp at hle; omega
            obtain ⟨rfl, rfl⟩ := h00
            have hrun : (builtin .clear #[t0] ty cs (args.map a.eval)).run P w = .ok (.value (.tuple #[])) w := by
              rw [hargs]
              cases a' <;> simp [builtin, Builtin.clear_, run_underlying k0]
            have hself : x1.put p (.leaf (.slice none 0 0) (.lst true te el [])) = x1 := by simp only [G.put, M.put_self p hz]
            refine op_mem (o := ⟨dst, .call ⟨.builtin .clear, args, #[t0]⟩, ty, pos, after, g⟩) (v := .tuple #[]) hi hd (by rw [hcs, hrun]) hi.mem ?_ ⟨fun _ _ => rfl, fun _ h => h, fun _ _ _ _ h => h, fun _ _ _ _ _ _ h => h⟩ (by simp [VV, VVs])
            intro r'
            simp only [updAll]
            have h11 := root_put (y := .leaf (.slice none 0 0) (.lst true te el [])) hz (by simpa [M.data] using h10)
            rw [hself] at h11
            have := rs_upd (r := r) hi.rs (o := some { x1.root with c := c' }) (g := some x1) (congrArg some h11) r'
            rwa [upd_same hx] at this
          · cases hh
        · cases h8
      · cases h9
    · cases h7
  | _ => cases h2

/-- All built-ins. -/
theorem builtin_ok {b : Builtin} {args : Array Operand} {tys : Array TypeId} (h : builtinEff T (dst.getD 0) st b ⟨.builtin b, args, tys⟩ = some e) : OpSound P Z ⟨dst, .call ⟨.builtin b, args, tys⟩, ty, pos, after, g⟩ a w (st.app dst e) := by
  unfold builtinEff at h
  simp only [Option.bind_eq_some_iff] at h
  obtain ⟨xs, h1, h2⟩ := h
  split at h2
  · rename_i x t0 h0
    simp only [Option.map_eq_some_iff] at h2
    obtain ⟨d, h3, rfl⟩ := h2
    exact len_ok hT hi hd h1 h0 h3
  · rename_i s x t0 t1 h0
    split at h2
    · rename_i hck
      exact append_ok hT hi hd h1 h0 hck h2
    · cases h2
  · rename_i s x t0 t1 h0
    exact copy_ok hT hi hd h1 h0 h2
  · rename_i s t0 h0
    exact clear_ok hT hi hd h1 h0 h2
  · obtain rfl := Option.some.inj h2
    exact max_ok hT hi hd h1
  · obtain rfl := Option.some.inj h2
    exact min_ok hT hi hd h1
  · cases h2

/-- All operations but calls. -/
theorem plain_ok {op : Op} (h : plainEff T (dst.getD 0) ty st op = some e) : OpSound P Z ⟨dst, op, ty, pos, after, g⟩ a w (st.app dst e) := by
  cases op with
  | move x => exact move_ok hT hi hd h
  | assign x => exact assign_ok hT hi hd h
  | pick c x y => exact pick_ok hT hi hd h
  | alloc t => exact alloc_ok hT hi hd h
  | box t x => exact box_ok hT hi hd h
  | build t ps => exact build_ok hT hi hd h
  | buildSlice t n ps => exact buildSlice_ok hT hi hd h
  | load t x => exact loadOp_ok hT hi hd h
  | store t x y => exact store_ok hT hi hd h
  | nilCheck x => exact nilCheck_ok hT hi hd h
  | binOp op t x y t' => exact binOp_ok hT hi hd h
  | unOp op t x => exact unOp_ok hT hi hd h
  | convert s t x => exact convert_ok hT hi hd h
  | makeFunc f xs ys => exact makeFunc_ok hT hi hd h
  | makeSlice t l c => exact makeSlice_ok hT hi hd h
  | slice t x lo hi' mx => exact sliceOp_ok hT hi hd h
  | fieldAddr s x f => exact fieldAddrOp_ok hT hi hd h
  | field s x f => exact fieldOp_ok hT hi hd h
  | indexAddr t x i => exact indexAddrOp_ok hT hi hd h
  | index t x i => exact indexOp_ok hT hi hd h
  | extract x i => exact extract_ok hT hi hd h
  | _ => simp [plainEff] at h
end ops
end
end Go.Lft

/- Calls: what is asked of a function; what is handed over. -/
namespace Go.Lft

/-! ### What is asked of a function -/
/-- A call by an operation leads to K. -/
def CallsTo (P : Program) (f : FuncId) (vs : Array Value) (w : World) (K : Value → World → Prop) : Prop :=
  ∀ (o : Oper) (a : Act) (next : Act → World → Prop) (Q : Exit → Act → World → Prop), (∀ v w', K v w' → next (a.put o.dst v) w') → o.upon P a next Q ((callFunc f vs).run P w)

/-- A call of f, whose first argument is a struct, leads to what a call of g with its slice at that place leads to, in a world with one block more. -/
def WrapTo (P : Program) (f off g : Nat) : Prop :=
  ∀ (cs : List Value) (sv kv : Value) (w : World) (K : Value → World → Prop), cs[off]? = some sv → (∀ b : Obj, CallsTo P g #[sv, kv] { w with heap := w.heap.push b } K) → CallsTo P f #[.agg cs.toArray, kv] w K

def One (v : Value) (m : M) : Prop := v.cells.toList = M.cells m ∧ (isAgg (M.data m) = true → ∃ cs, v = .agg cs) ∧ (isAgg (M.data m) = false → M.cells m = [v])

def ResL : List Value → List D → List M → Prop
  | [], [], [] => True
  | v :: vs, d :: ds, m :: ms => M.data m = d ∧ One v m ∧ ResL vs ds ms
  | _, _, _ => False

def ResV (v : Value) (d : D) (ms : List M) : Prop :=
  match d with
  | .tup [.undef, c] => ∃ g te e m, ms = [.lst g te te e [m] [] (0, 0)] ∧ v = .pointer (some ⟨g, 0, none⟩) ∧ M.data m = c
  | .tup ds => ∃ vs : List Value, v = .tuple vs.toArray ∧ ResL vs ds ms
  | d => ResL [v] [d] ms

def backD (x : G) : D := if x.bx.isSome = true then .pto (M.data x.m) else M.data x.m

def LentOk (gs : Rid → Option G) : List Nat → List D → Prop
  | [], [] => True
  | i :: l, d :: ds => (if i < 1000 then ∃ x, gs (i, 99) = some x ∧ d = backD x else d = .undef) ∧ LentOk gs l ds
  | _, _ => False

def ResOk (Z : Zone) (md : List Nat) (res : D × List D) (v : Value) (w : World) : Prop := ∃ gs Fz ms, Mem Z gs ms Fz w ∧ ResV v res.1 ms ∧ LentOk gs md res.2

structure EntryOk (Z : Zone) (md : List Nat) (args : List D) (vs : List Value) (gs0 : Rid → Option G) : Prop where
  mem : Mem Z gs0 [] Z.Fz0 Z.w0
  rs : ∀ r, initRs md args r = (gs0 r).map G.root
  lent : ∀ r : Rid, r.2 = 99 → Z.lent r = (gs0 r).map fun x => (x.bx, M.cells x.m)
  len : vs.length = args.length
  env : ∀ (t : Nat) (v : Value), vs[t]? = some v → VV Z.w0 Z.Fz0 (ptrOk Z gs0) (slcOk gs0) v (initEnv md args t)

def FunOk (P : Program) (kn : World → Prop) (md : List Nat) (f : FuncId) (args : List D) (res : D × List D) : Prop :=
  ∀ (Z : Zone) (vs : List Value) (gs0 : Rid → Option G), EntryOk Z md args vs gs0 → Z.kn = kn → CallsTo P f vs.toArray Z.w0 (ResOk Z md res)

section
variable {P : Program} {T : Tb} {Z : Zone} {gs gs' : Rid → Option G} {hs : List M} {Fz Fz' : Nat → Prop} {st : St} {a : Act} {w w' : World}

/-! ### Memory at a later world -/
theorem Mem.step (hm : Mem Z gs [] Fz w) {Fz2 : Nat → Prop} (h1 : ∀ r x, gs r = some x → ∀ g ∈ x.ids, w'.heap[g]? = w.heap[g]? ∧ ¬ Fz2 g) (h2 : ∀ g, Fz g → w'.heap[g]? = w.heap[g]? ∧ Fz2 g) (h3 : ∀ g, Fz2 g → g < w'.heap.size) (h4 : ∀ g, Fz2 g → Z.Fz0 g ∨ Z.Own g) (hk : Keeps Z w') : Mem Z gs [] Fz2 w' :=
  { ok := fun r x h => (hm.ok r x h).stab (fun g hg => (h2 g hg).1) (fun g hg => (h2 g hg).2)
    ins := fun r x h => (hm.ins r x h).stab fun g hg => (h1 r x h g hg).1
    nd := hm.nd
    row := hm.row
    own := fun r x h g hg => ⟨(hm.own r x h g hg).1, (h1 r x h g hg).2⟩
    dis := hm.dis
    hok := trivial
    hin := trivial
    hnd := List.nodup_nil
    hown := fun g hg => by cases hg
    hdis := fun _ _ _ _ _ hg => by cases hg
    fz := h3
    fz0 := fun g h => (h2 g (hm.fz0 g h)).2
    fzo := h4
    keeps := hk
    lent := hm.lent }

/-- The hand is filled from elsewhere. -/
theorem Mem.fill (hm : Mem Z gs [] Fz w) {ms : List M} (h1 : M.OkL w Fz ms) (h2 : M.InL w ms) (h3 : (M.idsL ms).Nodup) (h4 : ∀ g ∈ M.idsL ms, Z.Own g ∧ ¬ Fz g) (h5 : ∀ r x, gs r = some x → ∀ g ∈ x.ids, g ∉ M.idsL ms) : Mem Z gs ms Fz w :=
  { hm with hok := h1, hin := h2, hnd := h3, hown := h4, hdis := h5 }

/-! ### Data that tell nothing of frozen blocks -/
mutual
theorem FRep.warm {Fz2 : Nat → Prop} : ∀ {d : D} {cs : List Value}, D.cold d = false → FRep w Fz cs d → FRep w Fz2 cs d
  | .int k n, cs, hc, h => by simp only [FRep] at h ⊢; exact h
  | .bool b, cs, hc, h => by simp only [FRep] at h ⊢; exact h
  | .str s, cs, hc, h => by simp only [FRep] at h ⊢; exact h
  | .agg xs, cs, hc, h => by simp only [FRep] at h ⊢; simp only [D.cold] at hc; exact FRepL.warm hc h
  | .lst true _ _ xs, cs, hc, h => by simp only [FRep] at h ⊢; exact h
  | .lst false _ e xs, cs, hc, h => by simp [D.cold] at hc
  | .fn f caps, cs, hc, h => by simp [D.cold] at hc
  | .ifc b, cs, hc, h => by simp only [FRep] at h ⊢; exact h
  | .pto x, cs, hc, h => by simp [D.cold] at hc
  | .ptr .., cs, hc, h => by simp only [FRep] at h
  | .slc .., cs, hc, h => by simp only [FRep] at h
  | .tup _, cs, hc, h => by simp only [FRep] at h
  | .undef, cs, hc, h => by simp only [FRep] at h ⊢; exact h
theorem FRepL.warm {Fz2 : Nat → Prop} : ∀ {xs : List D} {cs : List Value}, D.coldL xs = false → FRepL w Fz cs xs → FRepL w Fz2 cs xs
  | [], cs, hc, h => by simp only [FRepL] at h ⊢; exact h
  | x :: xs, cs, hc, h => by
    simp only [FRepL] at h ⊢
    simp only [D.coldL, Bool.or_eq_false_iff] at hc
    obtain ⟨c1, c2, h0, h1, h2⟩ := h
    exact ⟨c1, c2, h0, FRep.warm hc.1 h1, FRepL.warm hc.2 h2⟩
end
mutual
theorem M.Ok.warm {Fz2 : Nat → Prop} : ∀ {m : M}, D.cold (M.data m) = false → M.Ok w Fz m → M.Ok w Fz2 m
  | .leaf v d, hc, h => by simp only [M.Ok] at h ⊢; exact ⟨h.1.warm hc, h.2⟩
  | .agg xs, hc, h => by simp only [M.Ok] at h ⊢; simp only [M.data, D.cold] at hc; exact M.OkL.warm hc h
  | .lst g tg te e xs rest fr, hc, h => by
    simp only [M.Ok] at h ⊢
    simp only [M.data, D.cold, Bool.not_true, Bool.false_or] at hc
    exact ⟨h.1, M.OkL.warm hc h.2.1, h.2.2⟩
theorem M.OkL.warm {Fz2 : Nat → Prop} : ∀ {ms : List M}, D.coldL (M.dataL ms) = false → M.OkL w Fz ms → M.OkL w Fz2 ms
  | [], hc, h => by simp only [M.OkL]
  | m :: ms, hc, h => by
    simp only [M.OkL] at h ⊢
    simp only [M.dataL, D.coldL, Bool.or_eq_false_iff] at hc
    exact ⟨M.Ok.warm hc.1 h.1, M.OkL.warm hc.2 h.2⟩
end

/-! ### What is handed over to be read -/
/-- The blocks of the parts at these places. -/
def readIds (gs : Rid → Option G) (reads : List (Rid × List Stp)) (g : Nat) : Prop := ∃ q ∈ reads, ∃ x z, gs q.1 = some x ∧ M.get x.m q.2 = some z ∧ g ∈ M.ids z

/-- Blocks that nobody writes while the call lasts. -/
def quietBlock (Z : Zone) (gs : Rid → Option G) (reads : List (Rid × List Stp)) (g : Nat) : Prop := (¬ Z.Own g ∧ g < Z.w0.heap.size) ∨ ∃ q ∈ reads, ∃ x, gs q.1 = some x ∧ g ∈ x.ids

mutual
theorem close_ok (hm : Mem Z gs [] Fz w) {rs : Rid → Option Root} (hrs : ∀ r, rs r = (gs r).map G.root) {reads : List (Rid × List Stp)} {pp' : PP} {ps' : PS} (hst : ∀ g, quietBlock Z gs reads g → pp'.st g) :
    ∀ {d d' : D} {cs : List Value}, (∀ q ∈ spoken d, q ∈ reads) → VC w Fz (ptrOk Z gs) (slcOk gs) cs d → close rs d = some d' → VC w (fun g => Fz g ∨ readIds gs reads g) pp' ps' cs d'
  | .int k n, d', cs, hr, hv, h => by simp only [close, Option.some.injEq] at h; subst h; simp only [VC] at hv ⊢; exact hv.stab (fun _ _ => rfl) fun _ h => .inl h
  | .bool b, d', cs, hr, hv, h => by simp only [close, Option.some.injEq] at h; subst h; simp only [VC] at hv ⊢; exact hv.stab (fun _ _ => rfl) fun _ h => .inl h
  | .str s, d', cs, hr, hv, h => by simp only [close, Option.some.injEq] at h; subst h; simp only [VC] at hv ⊢; exact hv.stab (fun _ _ => rfl) fun _ h => .inl h
  | .ifc b, d', cs, hr, hv, h => by simp only [close, Option.some.injEq] at h; subst h; simp only [VC] at hv ⊢; exact hv.stab (fun _ _ => rfl) fun _ h => .inl h
  | .lst o te e xs, d', cs, hr, hv, h => by
    simp only [VC] at hv
    have hv' := FRep.stab (w' := w) (Fz' := fun g => Fz g ∨ readIds gs reads g) (fun _ _ => rfl) (fun _ h => .inl h) hv
    cases o with
    | false => simp only [close, Option.some.injEq] at h; subst h; simp only [VC]; exact hv'
    | true =>
      cases xs with
      | nil =>
        simp only [close, Option.some.injEq] at h; subst h
        have := hv'.freeze
        simp only [D.freeze, D.freezeL] at this
        simp only [VC]; exact this
      | cons => simp only [FRep] at hv; cases hv.1
  | .pto x, d', cs, hr, hv, h => by
    simp only [close, Option.some.injEq] at h; subst h
    simp only [VC] at hv ⊢
    obtain ⟨ad, c, h1, h2, h3, h4⟩ := hv
    refine ⟨ad, c, h1, ?_, h3, h4.stab (fun _ _ => rfl) fun _ h => .inl h⟩
    rcases h2 with h2 | h2
    · exact .inl (.inl h2)
    · exact .inr (hst _ (.inl h2))
  | .tup _, d', cs, hr, hv, h => by simp [close] at h
  | .undef, d', cs, hr, hv, h => by simp [close] at h
  | .agg xs, d', cs, hr, hv, h => by
    simp only [close, Option.map_eq_some_iff] at h
    obtain ⟨ys, h1, rfl⟩ := h
    simp only [VC] at hv ⊢
    exact closeL_ok hm hrs hst (by simpa only [spoken] using hr) hv h1
  | .fn f xs, d', cs, hr, hv, h => by
    simp only [close, Option.map_eq_some_iff] at h
    obtain ⟨ys, h1, rfl⟩ := h
    simp only [VC] at hv ⊢
    obtain ⟨capt, e1, e2⟩ := hv
    exact ⟨capt, e1, closeC_ok hm hrs hst (by simpa only [spoken] using hr) e2 h1⟩
  | .ptr r p, d', cs, hr, hv, h => by
    simp only [close, Option.bind_eq_some_iff, Option.map_eq_some_iff] at h
    obtain ⟨root, h1, d0, h2, rfl⟩ := h
    rw [hrs] at h1
    obtain ⟨x, hx, rfl⟩ := Option.map_eq_some_iff.1 h1
    obtain ⟨z, hz, rfl, hzok⟩ := M.get_data p (hm.ok r x hx) h2
    simp only [VC] at hv ⊢
    obtain ⟨v, rfl, hp⟩ := hv
    obtain ⟨x2, z2, g, o, e1, e2, e3, rfl⟩ := ptr_place hp
    rw [hx] at e1
    obtain rfl := Option.some.inj e1
    obtain ⟨hl, hin, _⟩ := hm.lies hx hz e3
    have hmem : (r, p) ∈ reads := hr _ (by simp [spoken])
    refine ⟨_, M.cells z, rfl, .inr (hst _ (.inr ⟨_, hmem, x, hx, G.at_mem (hm.row r x hx) hz e3⟩)), hl.cells, ?_⟩
    exact M.frep (fun _ h => .inl h) hzok hin (fun g' hg' => .inr ⟨_, hmem, x, z, hx, hz, hg'⟩)
  | .slc r p off len, d', cs, hr, hv, h => by
    simp only [close, Option.bind_eq_some_iff] at h
    obtain ⟨root, h1, d0, h2, h3⟩ := h
    rw [hrs] at h1
    obtain ⟨x, hx, rfl⟩ := Option.map_eq_some_iff.1 h1
    obtain ⟨z, hz, rfl, hzok⟩ := M.get_data p (hm.ok r x hx) h2
    cases hdz : M.data z <;> simp only [hdz] at h3 <;> try (cases h3; done)
    rename_i own te e xs
    split at h3
    · rename_i hle
      obtain rfl := Option.some.inj h3
      simp only [VC] at hv ⊢
      obtain ⟨v, rfl, x2, m2, e1, e2, hs⟩ := hv
      rw [hx] at e1
      obtain rfl := Option.some.inj e1
      rw [hz] at e2
      obtain rfl := Option.some.inj e2
      obtain ⟨own1, te1, e1, xs1, ad, n, cap, a', c, j1, j2, rfl, j4, j5, j6⟩ := hs
      rw [hdz] at j1
      simp only [D.lst.injEq] at j1
      obtain ⟨rfl, rfl, rfl, rfl⟩ := j1
      have hmem : (r, p) ∈ reads := hr _ (by simp [spoken])
      have hf : FRep w (fun g => Fz g ∨ readIds gs reads g) (M.cells z) (D.freeze (M.data z)) := M.frep (fun _ h => .inl h) hzok (M.get_in p (hm.ins r x hx).2 hz) (fun g' hg' => .inr ⟨_, hmem, x, z, hx, hz, hg'⟩)
      rw [j2, hdz] at hf
      have hf2 : FRep w (fun g => Fz g ∨ readIds gs reads g) [.slice ad n cap] (.lst false te e (D.freezeL xs)) := by cases own <;> simpa only [D.freeze] using hf
      have := slcVal_frz hf2 j4 j5 j6
      rwa [D.freezeL_take_drop] at this
    · cases h3
theorem closeL_ok (hm : Mem Z gs [] Fz w) {rs : Rid → Option Root} (hrs : ∀ r, rs r = (gs r).map G.root) {reads : List (Rid × List Stp)} {pp' : PP} {ps' : PS} (hst : ∀ g, quietBlock Z gs reads g → pp'.st g) :
    ∀ {xs ys : List D} {cs : List Value}, (∀ q ∈ spokenL xs, q ∈ reads) → VCL w Fz (ptrOk Z gs) (slcOk gs) cs xs → closeL rs xs = some ys → VCL w (fun g => Fz g ∨ readIds gs reads g) pp' ps' cs ys
  | [], ys, cs, hr, hv, h => by simp only [closeL, Option.some.injEq] at h; subst h; simp only [VCL] at hv ⊢; exact hv
  | x :: xs, ys, cs, hr, hv, h => by
    simp only [closeL, Option.bind_eq_some_iff, Option.map_eq_some_iff] at h
    obtain ⟨y, h1, ys', h2, rfl⟩ := h
    simp only [VCL] at hv ⊢
    obtain ⟨c1, c2, h0, hv1, hv2⟩ := hv
    simp only [spokenL, List.mem_append] at hr
    exact ⟨c1, c2, h0, close_ok hm hrs hst (fun q hq => hr q (.inl hq)) hv1 h1, closeL_ok hm hrs hst (fun q hq => hr q (.inr hq)) hv2 h2⟩
theorem closeC_ok (hm : Mem Z gs [] Fz w) {rs : Rid → Option Root} (hrs : ∀ r, rs r = (gs r).map G.root) {reads : List (Rid × List Stp)} {pp' : PP} {ps' : PS} (hst : ∀ g, quietBlock Z gs reads g → pp'.st g) :
    ∀ {xs ys : List D} {vs : List Value}, (∀ q ∈ spokenL xs, q ∈ reads) → VCs w Fz (ptrOk Z gs) (slcOk gs) vs xs → closeL rs xs = some ys → VCs w (fun g => Fz g ∨ readIds gs reads g) pp' ps' vs ys
  | [], ys, cs, hr, hv, h => by simp only [closeL, Option.some.injEq] at h; subst h; simp only [VCs] at hv ⊢; exact hv
  | x :: xs, ys, cs, hr, hv, h => by
    simp only [closeL, Option.bind_eq_some_iff, Option.map_eq_some_iff] at h
    obtain ⟨y, h1, ys', h2, rfl⟩ := h
    simp only [VCs] at hv ⊢
    obtain ⟨v, vs', h0, hv1, hv2⟩ := hv
    simp only [spokenL, List.mem_append] at hr
    exact ⟨v, vs', h0, close_ok hm hrs hst (fun q hq => hr q (.inl hq)) hv1 h1, closeC_ok hm hrs hst (fun q hq => hr q (.inr hq)) hv2 h2⟩
end

theorem close_shape {rs : Rid → Option Root} {d d' : D} (h : close rs d = some d') : isAgg d' = isAgg d ∧ isPlain d = true ∧ isPlain d' = true := by
  cases d with
  | agg xs => simp only [close, Option.map_eq_some_iff] at h; obtain ⟨ys, _, rfl⟩ := h; exact ⟨rfl, rfl, rfl⟩
  | fn f xs => simp only [close, Option.map_eq_some_iff] at h; obtain ⟨ys, _, rfl⟩ := h; exact ⟨rfl, rfl, rfl⟩
  | ptr r p => simp only [close, Option.bind_eq_some_iff, Option.map_eq_some_iff] at h; obtain ⟨_, _, _, _, rfl⟩ := h; exact ⟨rfl, rfl, rfl⟩
  | slc r p off len =>
    simp only [close, Option.bind_eq_some_iff] at h
    obtain ⟨_, _, d0, _, h3⟩ := h
    cases d0 <;> simp only at h3 <;> try (cases h3; done)
    split at h3
    · obtain rfl := Option.some.inj h3; exact ⟨rfl, rfl, rfl⟩
    · cases h3
  | lst o te e xs =>
    cases o with
    | false => simp only [close, Option.some.injEq] at h; subst h; exact ⟨rfl, rfl, rfl⟩
    | true => cases xs <;> (simp only [close, Option.some.injEq] at h; subst h; exact ⟨rfl, rfl, rfl⟩)
  | tup _ => simp [close] at h
  | undef => simp [close] at h
  | _ => simp only [close, Option.some.injEq] at h; subst h; exact ⟨rfl, rfl, rfl⟩

theorem VV.of_VC_plain {v : Value} {d : D} {pp : PP} {ps : PS} (h : VC w Fz pp ps v.cells.toList d) (hp : isPlain d = true) (ha : isAgg d = true → ∃ cs, v = .agg cs) (hn : isAgg d = false → v.cells = #[v]) : VV w Fz pp ps v d := by
  cases hag : isAgg d with
  | true =>
    obtain ⟨cs, rfl⟩ := ha hag
    cases d <;> simp [isAgg] at hag
    simp only [VV]
    exact ⟨cs.toList, by simp, by simpa only [VC, Value.cells] using h⟩
  | false =>
    rw [hn hag] at h
    exact VV.of_VC h hag

theorem VV.cells_one {v : Value} {d : D} (h : VV w Fz (ptrOk Z gs) (slcOk gs) v d) (hp : isPlain d = true) (ha : isAgg d = false) : v.cells = #[v] := by
  cases d with
  | agg xs => simp [isAgg] at ha
  | tup _ => simp [isPlain] at hp
  | undef => simp [isPlain] at hp
  | ptr r p => obtain ⟨x, g, o, _, _, _, rfl⟩ := h.ptr_inv; rfl
  | slc r p off len => obtain ⟨x, m, _, _, own, te, e, xs, a, n, cap, a', c, _, _, rfl, _⟩ := h.slc_inv; rfl
  | fn f caps => simp only [VV, VC] at h; obtain ⟨capt, h1, h2⟩ := h; simp only [List.cons.injEq, and_true] at h1; subst h1; rfl
  | int k n => obtain rfl := h.int_inv; rfl
  | bool b => obtain rfl := h.bool_inv; rfl
  | str s => obtain rfl := h.str_inv; rfl
  | lst o te e xs => obtain ⟨a', c, rfl⟩ := lst_value (h.frep_inv (.inl ⟨_, _, _, _, rfl⟩)); rfl
  | ifc b =>
    have hf := h.frep_inv (.inr ⟨_, rfl⟩)
    simp only [FRep] at hf
    obtain ⟨u, e1, e2⟩ := hf
    simp only [List.cons.injEq, and_true] at e1
    subst e1
    cases b
    · simp at e2; obtain ⟨t, x, rfl⟩ := e2; rfl
    · simp at e2; subst e2; rfl
  | pto x => obtain ⟨ad, c, e1, _⟩ := h.pto_inv; subst e1; rfl

/-- An argument that is read. -/
theorem closeV_ok (hm : Mem Z gs [] Fz w) {rs : Rid → Option Root} (hrs : ∀ r, rs r = (gs r).map G.root) {reads : List (Rid × List Stp)} {pp' : PP} {ps' : PS} (hst : ∀ g, quietBlock Z gs reads g → pp'.st g) {d d' : D} {v : Value}
    (hr : ∀ q ∈ spoken d, q ∈ reads) (hv : VV w Fz (ptrOk Z gs) (slcOk gs) v d) (h : close rs d = some d') : VV w (fun g => Fz g ∨ readIds gs reads g) pp' ps' v d' := by
  obtain ⟨h1, h2, h3⟩ := close_shape h
  refine VV.of_VC_plain (close_ok hm hrs hst hr (hv.cells h2) h) h3 (fun ha => ?_) fun hn => hv.cells_one h2 (h1 ▸ hn)
  rw [h1] at ha
  cases d <;> simp [isAgg] at ha
  simp only [VV] at hv
  obtain ⟨cs, rfl, _⟩ := hv
  exact ⟨_, rfl⟩

/-! ### What is handed over to be written -/
def lendG (gs : Rid → Option G) (l : Lent) : Option G := if l.var = true then gs l.r else (gs l.r).bind fun x => (M.get x.m l.p).map fun z => ⟨none, z⟩

/-- An argument that is lent, as the caller has it. -/
def LendOk (gs : Rid → Option G) (l : Lent) (d : D) (v : Value) : Prop := ∃ x z, gs l.r = some x ∧ M.get x.m l.p = some z ∧
  (l.var = false → (∃ te e xs, M.data z = .lst true te e xs ∧ d = .lst true te e xs) ∧ M.cells z = [v]) ∧
  (l.var = true → l.p = [] ∧ d = .pto (M.data x.m) ∧ ∃ g te, x.bx = some (g, te) ∧ v = .pointer (some ⟨g, 0, none⟩))

theorem lend_ok (hm : Mem Z gs [] Fz w) {rs : Rid → Option Root} (hrs : ∀ r, rs r = (gs r).map G.root) {j : Nat} {d : D} {v : Value} {y : Lent × D} (hv : VV w Fz (ptrOk Z gs) (slcOk gs) v d) (h : lend rs j d = some y) : LendOk gs y.1 y.2 v ∧ y.1.j = j := by
  cases d with
  | ptr r p =>
    simp only [lend, Option.bind_eq_some_iff] at h
    obtain ⟨root, h1, h2⟩ := h
    split at h2
    · rename_i hc
      obtain rfl := Option.some.inj h2
      obtain ⟨rfl, hbox⟩ := hc
      rw [hrs] at h1
      obtain ⟨x, hx, rfl⟩ := Option.map_eq_some_iff.1 h1
      obtain ⟨x2, z2, g, o, e1, e2, e3, rfl⟩ := ptr_place hv.ptr_inv
      rw [hx] at e1
      obtain rfl := Option.some.inj e1
      have hb : ∃ b, x.bx = some b := Option.isSome_iff_exists.1 (by simpa [G.root] using hbox)
      obtain ⟨⟨g0, te⟩, hb⟩ := hb
      have e3' := e3
      unfold G.at_ at e3'
      simp only [hb, M.at_nil, Option.some.injEq, Prod.mk.injEq] at e3'
      obtain ⟨rfl, rfl⟩ := e3'
      exact ⟨⟨x, x.m, hx, M.get_nil _, fun h => (by cases h), fun _ => ⟨rfl, rfl, _, _, hb, rfl⟩⟩, rfl⟩
    · cases h2
  | slc r p off len =>
    simp only [lend, Option.bind_eq_some_iff] at h
    obtain ⟨root, h1, d0, h2, h3⟩ := h
    rw [hrs] at h1
    obtain ⟨x, hx, rfl⟩ := Option.map_eq_some_iff.1 h1
    obtain ⟨z, hz, rfl, hzok⟩ := M.get_data p (hm.ok r x hx) h2
    cases hdz : M.data z <;> simp only [hdz] at h3 <;> try (cases h3; done)
    rename_i own te e xs
    cases own <;> simp only at h3
    · cases h3
    split at h3
    · rename_i hc
      obtain rfl := Option.some.inj h3
      obtain ⟨rfl, rfl⟩ := hc
      obtain ⟨x2, m2, e1, e2, hs⟩ := hv.slc_inv
      rw [hx] at e1
      obtain rfl := Option.some.inj e1
      rw [hz] at e2
      obtain rfl := Option.some.inj e2
      refine ⟨⟨x, z, hx, hz, fun _ => ⟨⟨te, e, xs, hdz, rfl⟩, ?_⟩, fun h => (by cases h)⟩, rfl⟩
      obtain ⟨own1, te1, e1, xs1, ad, n, cap, a', c, j1, j2, rfl, j4, j5, j6⟩ := hs
      rw [hdz] at j1
      simp only [D.lst.injEq] at j1
      obtain ⟨_, rfl, rfl, rfl⟩ := j1
      rw [j2]
      have ha := j6 (.inr rfl)
      rw [add0] at ha
      subst ha
      have hn : n = xs.length := by
        rcases row_cases hdz hzok with ⟨_, g, te', ys, rest, fr, rfl, rfl⟩ | ⟨_, rfl, rfl⟩ | ⟨hh, _⟩
        · simp only [M.cells, List.cons.injEq, Value.slice.injEq, and_true] at j2
          rw [M.dataL_length]; exact j2.2.1.symm
        · simp only [M.cells, List.cons.injEq, Value.slice.injEq, and_true] at j2
          simpa using j2.2.1.symm
        · cases hh
      rw [hn, show c = cap by omega]
    · cases h3
  | _ => simp [lend] at h

end
end Go.Lft

/- Calls: a function's entry. -/
namespace Go.Lft

section
variable {P : Program} {T : Tb} {Z : Zone} {gs gs' : Rid → Option G} {hs : List M} {Fz Fz' : Nat → Prop} {st : St} {a : Act} {w w' : World}

structure ArgsOk (gs : Rid → Option G) (w : World) (F : Nat → Prop) (pp : PP) (ps : PS) (md : List Nat) (i : Nat) (vs : List Value) (ds : List D) (ls : List Lent) : Prop where
  len : vs.length = ds.length
  env : ∀ t v, vs[t]? = some v → (lentAt md (i + t) = true ∧ ∃ l ∈ ls, l.j = i + t ∧ ∃ d, ds[t]? = some d ∧ LendOk gs l d v) ∨ (lentAt md (i + t) = false ∧ ∃ d, ds[t]? = some d ∧ VV w F pp ps v d)
  lents : ∀ l ∈ ls, ∃ t d v, l.j = i + t ∧ lentAt md (i + t) = true ∧ vs[t]? = some v ∧ ds[t]? = some d ∧ LendOk gs l d v
  uniq : ls.Pairwise fun l l' => l.j < l'.j

theorem args_ok (hm : Mem Z gs [] Fz w) {rs : Rid → Option Root} (hrs : ∀ r, rs r = (gs r).map G.root) {reads : List (Rid × List Stp)} {pp' : PP} {ps' : PS} (hst : ∀ g, quietBlock Z gs reads g → pp'.st g) {md : List Nat} :
    ∀ {xs : List D} {vs : List Value} {i : Nat} {y : List D × List Lent × List (Rid × List Stp)}, (∀ q ∈ y.2.2, q ∈ reads) → VVs w Fz (ptrOk Z gs) (slcOk gs) vs xs → argsOf rs md i xs = some y → ArgsOk gs w (fun g => Fz g ∨ readIds gs reads g) pp' ps' md i vs y.1 y.2.1
  | [], vs, i, y, hr, hv, h => by
    simp only [argsOf, Option.some.injEq] at h
    subst h
    simp only [VVs] at hv
    subst hv
    exact ⟨rfl, fun t v h => by simp at h, fun l hl => (by cases hl), List.Pairwise.nil⟩
  | x :: xs, vs, i, y, hr, hv, h => by
    simp only [VVs] at hv
    obtain ⟨v, vs', rfl, hv1, hv2⟩ := hv
    simp only [argsOf] at h
    have hshift : ∀ t, i + 1 + t = i + (t + 1) := fun t => by omega
    split at h
    · rename_i hl
      simp only [Option.bind_eq_some_iff, Option.map_eq_some_iff] at h
      obtain ⟨q, h1, z, h2, rfl⟩ := h
      have ih := args_ok (ps' := ps') hm hrs hst (y := z) hr hv2 h2
      obtain ⟨hlo, hj⟩ := lend_ok hm hrs hv1 h1
      refine ⟨by simp [ih.len], fun t u hu => ?_, fun l hl' => ?_, ?_⟩
      · cases t with
        | zero =>
          simp only [List.getElem?_cons_zero, Option.some.injEq] at hu
          subst hu
          exact .inl ⟨hl, q.1, List.mem_cons_self .., hj, q.2, rfl, hlo⟩
        | succ t =>
          simp only [List.getElem?_cons_succ] at hu ⊢
          rcases ih.env t u hu with ⟨e1, l, e2, e3, e4⟩ | ⟨e1, e2⟩
          · exact .inl ⟨by rw [← hshift]; exact e1, l, List.mem_cons_of_mem _ e2, by rw [← hshift]; exact e3, e4⟩
          · exact .inr ⟨by rw [← hshift]; exact e1, e2⟩
      · rcases List.mem_cons.1 hl' with rfl | hl'
        · exact ⟨0, q.2, v, hj, hl, rfl, rfl, hlo⟩
        · obtain ⟨t, d, u, e1, e2, e3, e4, e5⟩ := ih.lents l hl'
          exact ⟨t + 1, d, u, by rw [← hshift]; exact e1, by rw [← hshift]; exact e2, e3, e4, e5⟩
      · refine List.Pairwise.cons (fun l hl' => ?_) ih.uniq
        obtain ⟨t, d, u, e1, _⟩ := ih.lents l hl'
        rw [hj, e1]; omega
    · rename_i hl
      have hl : lentAt md i = false := by simpa using hl
      simp only [Option.bind_eq_some_iff, Option.map_eq_some_iff] at h
      obtain ⟨q, h1, z, h2, rfl⟩ := h
      have ih := args_ok (ps' := ps') hm hrs hst (y := z) (fun q hq => hr q (List.mem_append_right _ hq)) hv2 h2
      have hcl := closeV_ok (ps' := ps') hm hrs hst (fun q hq => hr q (List.mem_append_left _ hq)) hv1 h1
      refine ⟨by simp [ih.len], fun t u hu => ?_, fun l hl' => ?_, ih.uniq⟩
      · cases t with
        | zero =>
          simp only [List.getElem?_cons_zero, Option.some.injEq] at hu
          subst hu
          exact .inr ⟨hl, q, rfl, hcl⟩
        | succ t =>
          simp only [List.getElem?_cons_succ] at hu ⊢
          rcases ih.env t u hu with ⟨e1, l, e2, e3, e4⟩ | ⟨e1, e2⟩
          · exact .inl ⟨by rw [← hshift]; exact e1, l, e2, by rw [← hshift]; exact e3, e4⟩
          · exact .inr ⟨by rw [← hshift]; exact e1, e2⟩
      · obtain ⟨t, d, u, e1, e2, e3, e4, e5⟩ := ih.lents l hl'
        exact ⟨t + 1, d, u, by rw [← hshift]; exact e1, by rw [← hshift]; exact e2, e3, e4, e5⟩

theorem apartAll_iff : ∀ {ls : List Lent} {m : List (Rid × List Stp)}, apartAll ls m = true → (ls.Pairwise fun l l' => l'.r ≠ l.r) ∧ ∀ l ∈ ls, ∀ q ∈ m, q.1 ≠ l.r
  | [], m, h => ⟨List.Pairwise.nil, fun l hl => (by cases hl)⟩
  | l :: ls, m, h => by
    simp only [apartAll, Bool.and_eq_true, List.all_eq_true, decide_eq_true_eq] at h
    obtain ⟨⟨h1, h2⟩, h3⟩ := h
    obtain ⟨i1, i2⟩ := apartAll_iff h3
    refine ⟨List.Pairwise.cons h2 i1, fun l' hl' q hq => ?_⟩
    rcases List.mem_cons.1 hl' with rfl | hl'
    · exact h1 q hq
    · exact i2 l' hl' q hq

/-! ### The callee's zone -/
def entryG (gs : Rid → Option G) (ls : List Lent) (r : Rid) : Option G := if r.2 = 99 then (ls.find? fun l => l.j == r.1).bind (lendG gs) else none

theorem entryG_some {ls : List Lent} {r : Rid} {y : G} (h : entryG gs ls r = some y) : r.2 = 99 ∧ ∃ l ∈ ls, l.j = r.1 ∧ lendG gs l = some y := by
  unfold entryG at h
  split at h
  · rename_i h99
    simp only [Option.bind_eq_some_iff] at h
    obtain ⟨l, h1, h2⟩ := h
    have := List.find?_some h1
    exact ⟨h99, l, List.mem_of_find?_eq_some h1, by simpa using this, h2⟩
  · cases h

theorem find_lent : ∀ {ls : List Lent}, (ls.Pairwise fun l l' => l.j < l'.j) → ∀ l ∈ ls, ls.find? (fun l' => l'.j == l.j) = some l
  | [], hu, l, hl => by cases hl
  | l0 :: ls, hu, l, hl => by
    rw [List.pairwise_cons] at hu
    rcases List.mem_cons.1 hl with rfl | hl
    · simp
    · rw [List.find?_cons_of_neg]
      · exact find_lent hu.2 l hl
      · have := hu.1 l hl
        simp; omega

theorem entryG_lent {ls : List Lent} (hu : ls.Pairwise fun l l' => l.j < l'.j) {l : Lent} (hl : l ∈ ls) : entryG gs ls (l.j, 99) = lendG gs l := by
  simp only [entryG, if_true, find_lent hu l hl, Option.bind_some]

theorem lendG_some {l : Lent} {y : G} (h : lendG gs l = some y) : (l.var = true ∧ gs l.r = some y) ∨ (l.var = false ∧ ∃ x z, gs l.r = some x ∧ M.get x.m l.p = some z ∧ y = ⟨none, z⟩) := by
  unfold lendG at h
  split at h
  · rename_i hv; exact .inl ⟨hv, h⟩
  · rename_i hv
    simp only [Option.bind_eq_some_iff, Option.map_eq_some_iff] at h
    obtain ⟨x, h1, z, h2, rfl⟩ := h
    exact .inr ⟨by simpa using hv, x, z, h1, h2, rfl⟩

/-- What is lent has its blocks in its root. -/
theorem lendG_ids {l : Lent} {y : G} (h : lendG gs l = some y) : ∃ x, gs l.r = some x ∧ ∀ g ∈ y.ids, g ∈ x.ids := by
  rcases lendG_some h with ⟨_, hx⟩ | ⟨_, x, z, hx, hz, rfl⟩
  · exact ⟨y, hx, fun _ h => h⟩
  · obtain ⟨A, B, h1, _⟩ := G.put_ids (x := x) hz
    exact ⟨x, hx, fun g hg => by rw [h1]; simp only [G.ids] at hg; simp [hg]⟩

def calleeZone (hm : Mem Z gs [] Fz w) (ls : List Lent) (reads : List (Rid × List Stp)) : Zone where
  w0 := w
  Own g := w.heap.size ≤ g ∨ ∃ r x, entryG gs ls r = some x ∧ g ∈ x.ids
  Fz0 g := Fz g ∨ readIds gs reads g
  lent r := (entryG gs ls r).map fun x => (x.bx, M.cells x.m)
  lent99 r b h := by
    simp only [Option.map_eq_some_iff] at h
    obtain ⟨x, h1, _⟩ := h
    exact (entryG_some h1).1
  fresh g h := .inl h
  kn := Z.kn
  knOk w' h := Z.knOk w' fun g hg => by
    rw [h g fun hh => hg ?_, hm.keeps.block g hg]
    rcases hh with hh | ⟨r, x, hx, hgx⟩
    · exact Z.fresh g (Nat.le_trans hm.keeps.size hh)
    · obtain ⟨_, l, hl, hj, hlg⟩ := entryG_some hx
      obtain ⟨x', hx', hsub⟩ := lendG_ids hlg
      exact (hm.own _ x' hx' g (hsub g hgx)).1

theorem roots_eq {ls : List Lent} (hd : ls.Pairwise fun l l' => l'.r ≠ l.r) {l l' : Lent} (h : l ∈ ls) (h' : l' ∈ ls) (hr : l.r = l'.r) : l = l' := by
  induction hd with
  | nil => cases h
  | cons h1 h2 ih =>
    rcases List.mem_cons.1 h with e | k
    · rcases List.mem_cons.1 h' with e' | k'
      · rw [e, e']
      · exact absurd (e ▸ hr).symm (h1 l' k')
    · rcases List.mem_cons.1 h' with e' | k'
      · exact absurd (e' ▸ hr) (h1 l k)
      · exact ih k k'

theorem entry_mem (hm : Mem Z gs [] Fz w) {ls : List Lent} {reads : List (Rid × List Stp)} (hd : ls.Pairwise fun l l' => l'.r ≠ l.r) (hu : ls.Pairwise fun l l' => l.j < l'.j) (ha : ∀ l ∈ ls, ∀ q ∈ reads, q.1 ≠ l.r)
    (hrow : ∀ l ∈ ls, l.var = false → ∀ x z, gs l.r = some x → M.get x.m l.p = some z → isAgg (M.data z) = false) : Mem (calleeZone hm ls reads) (entryG gs ls) [] (fun g => Fz g ∨ readIds gs reads g) w := by
  have hnr : ∀ r y, entryG gs ls r = some y → ∀ g ∈ y.ids, ¬ (Fz g ∨ readIds gs reads g) := by
    intro r y hy g hg hh
    obtain ⟨_, l, hl, hj, hlg⟩ := entryG_some hy
    obtain ⟨x, hx, hsub⟩ := lendG_ids hlg
    rcases hh with hh | ⟨q, hq, x2, z2, hx2, hz2, hg2⟩
    · exact (hm.own l.r x hx g (hsub g hg)).2 hh
    · have hne := ha l hl q hq
      obtain ⟨A, B, h1, _⟩ := G.put_ids (x := x2) hz2
      exact hm.dis q.1 l.r x2 x hx2 hx hne g (by rw [h1]; simp [hg2]) (hsub g hg)
  refine { ok := ?_, ins := ?_, nd := ?_, row := ?_, own := ?_, dis := ?_, hok := trivial, hin := trivial, hnd := List.nodup_nil, hown := fun g hg => (by cases hg), hdis := fun _ _ _ _ _ hg => (by cases hg), fz := ?_, fz0 := fun g h => h, fzo := fun g h => .inl h, keeps := ⟨rfl, rfl, rfl, Nat.le_refl _, fun _ _ => rfl⟩, lent := ?_ }
  · intro r y hy
    obtain ⟨_, l, hl, hj, hlg⟩ := entryG_some hy
    rcases lendG_some hlg with ⟨_, hx⟩ | ⟨_, x, z, hx, hz, rfl⟩
    · exact (hm.ok _ y hx).stab (fun _ _ => rfl) fun _ h => .inl h
    · exact (hm.part hx hz).1.stab (fun _ _ => rfl) fun _ h => .inl h
  · intro r y hy
    obtain ⟨_, l, hl, hj, hlg⟩ := entryG_some hy
    rcases lendG_some hlg with ⟨_, hx⟩ | ⟨_, x, z, hx, hz, rfl⟩
    · exact hm.ins _ y hx
    · exact ⟨fun g te h => (by cases h), (hm.part hx hz).2⟩
  · intro r y hy
    obtain ⟨_, l, hl, hj, hlg⟩ := entryG_some hy
    rcases lendG_some hlg with ⟨_, hx⟩ | ⟨_, x, z, hx, hz, rfl⟩
    · exact hm.nd _ y hx
    · obtain ⟨A, B, h1, _⟩ := G.put_ids (x := x) hz
      have := hm.nd _ x hx
      rw [h1, List.nodup_append, List.nodup_append] at this
      exact this.1.2.1
  · intro r y hy hb
    obtain ⟨_, l, hl, hj, hlg⟩ := entryG_some hy
    rcases lendG_some hlg with ⟨_, hx⟩ | ⟨hv, x, z, hx, hz, rfl⟩
    · exact hm.row _ y hx hb
    · exact hrow l hl hv x z hx hz
  · intro r y hy g hg
    exact ⟨.inr ⟨r, y, hy, hg⟩, hnr r y hy g hg⟩
  · intro r r' y y' hy hy' hne g hg hg'
    obtain ⟨h99, l, hl, hj, hlg⟩ := entryG_some hy
    obtain ⟨h99', l', hl', hj', hlg'⟩ := entryG_some hy'
    obtain ⟨x, hx, hsub⟩ := lendG_ids hlg
    obtain ⟨x', hx', hsub'⟩ := lendG_ids hlg'
    by_cases hrr : l.r = l'.r
    · have := roots_eq hd hl hl' hrr
      subst this
      exact hne (Prod.ext (hj.symm.trans hj') (h99.trans h99'.symm))
    · exact hm.dis l.r l'.r x x' hx hx' hrr g (hsub g hg) (hsub' g hg')
  · intro g hg
    rcases hg with hg | ⟨q, hq, x2, z2, hx2, hz2, hg2⟩
    · exact hm.fz g hg
    · exact (hm.part hx2 hz2).2.lt g hg2
  · intro r y b hy hb
    simp only [calleeZone, hy, Option.map_some, Option.some.injEq] at hb
    subst hb
    exact ⟨rfl, fun _ => rfl⟩

theorem entry_ok (hm : Mem Z gs [] Fz w) {rs : Rid → Option Root} (hrs : ∀ r, rs r = (gs r).map G.root) {md : List Nat} {xs : List D} {vs : List Value} {y : List D × List Lent × List (Rid × List Stp)} (hv : VVs w Fz (ptrOk Z gs) (slcOk gs) vs xs)
    (hng : md ≠ [2000]) (h : argsOf rs md 0 xs = some y) (hap : apartAll y.2.1 y.2.2 = true) :
    EntryOk (calleeZone hm y.2.1 y.2.2) md y.1 vs (entryG gs y.2.1) ∧ ArgsOk gs w (fun g => Fz g ∨ readIds gs y.2.2 g) (ptrOk (calleeZone hm y.2.1 y.2.2) (entryG gs y.2.1)) (slcOk (entryG gs y.2.1)) md 0 vs y.1 y.2.1 := by
  obtain ⟨hd, har⟩ := apartAll_iff hap
  have hst : ∀ g, quietBlock Z gs y.2.2 g → (ptrOk (calleeZone hm y.2.1 y.2.2) (entryG gs y.2.1)).st g := by
    intro g hg
    rcases hg with ⟨h1, h2⟩ | ⟨q, hq, x, hx, hgx⟩
    · refine ⟨fun hh => ?_, Nat.lt_of_lt_of_le h2 hm.keeps.size⟩
      rcases hh with hh | ⟨r, x, hx, hgx⟩
      · exact absurd (Nat.lt_of_lt_of_le h2 hm.keeps.size) (Nat.not_lt.2 hh)
      · obtain ⟨_, l, hl, hj, hlg⟩ := entryG_some hx
        obtain ⟨x', hx', hsub⟩ := lendG_ids hlg
        exact h1 (hm.own _ x' hx' g (hsub g hgx)).1
    · refine ⟨fun hh => ?_, (hm.ins _ x hx).lt g hgx⟩
      rcases hh with hh | ⟨r, x2, hx2, hgx2⟩
      · exact absurd ((hm.ins _ x hx).lt g hgx) (Nat.not_lt.2 hh)
      · obtain ⟨_, l, hl, hj, hlg⟩ := entryG_some hx2
        obtain ⟨x', hx', hsub⟩ := lendG_ids hlg
        exact hm.dis q.1 l.r x x' hx hx' (har l hl q hq) g hgx (hsub g hgx2)
  have hargs := args_ok (ps' := slcOk (entryG gs y.2.1)) hm hrs (reads := y.2.2) hst (fun q hq => hq) hv h
  have hrow : ∀ l ∈ y.2.1, l.var = false → ∀ x z, gs l.r = some x → M.get x.m l.p = some z → isAgg (M.data z) = false := by
    intro l hl hvr x z hx hz
    obtain ⟨t, d, v, _, _, _, _, x0, z0, e1, e2, hro, _⟩ := hargs.lents l hl
    obtain ⟨⟨te, e, zs, h1, _⟩, _⟩ := hro hvr
    rw [hx] at e1
    obtain rfl := Option.some.inj e1
    rw [hz] at e2
    obtain rfl := Option.some.inj e2
    rw [h1]; rfl
  refine ⟨{ mem := entry_mem hm hd hargs.uniq har hrow, rs := ?_, lent := fun r _ => rfl, len := hargs.len, env := ?_ }, hargs⟩
  · intro r
    unfold initRs
    split
    · rename_i hc
      obtain ⟨h99, hl⟩ := hc
      have hr : r = (r.1, 99) := Prod.ext rfl h99
      cases hds : y.1[r.1]? with
      | none =>
        simp only [Option.bind_none]
        cases he : entryG gs y.2.1 r with
        | none => rfl
        | some g0 =>
          exfalso
          obtain ⟨_, l, hl', hj, _⟩ := entryG_some he
          obtain ⟨t, d, v, e1, _, _, e4, _⟩ := hargs.lents l hl'
          rw [Nat.zero_add] at e1
          rw [← hj, e1, e4] at hds
          cases hds
      | some d =>
        have hlt := lt_of_get? hds
        have hvs : ∃ v, vs[r.1]? = some v := ⟨_, List.getElem?_eq_getElem (by rw [hargs.len]; exact hlt)⟩
        obtain ⟨v, hvs⟩ := hvs
        rcases hargs.env r.1 v hvs with ⟨e1, l, e2, e3, d', e4, x0, z0, hx0, hz0, hro, hva⟩ | ⟨e1, _⟩
        · rw [Nat.zero_add] at e3
          rw [hds] at e4
          obtain rfl := Option.some.inj e4
          have he : entryG gs y.2.1 r = lendG gs l := by rw [hr, ← e3]; exact entryG_lent hargs.uniq e2
          rw [he]
          simp only [Option.bind_some]
          cases hvar : l.var with
          | true =>
            obtain ⟨_, rfl, g, te, hb, _⟩ := hva hvar
            simp only [lendG, hvar, if_true, hx0, Option.map_some, G.root, hb, Option.isSome_some]
          | false =>
            obtain ⟨⟨te, e, zs, h1, rfl⟩, _⟩ := hro hvar
            simp only [lendG, hvar, Bool.false_eq_true, if_false, hx0, Option.bind_some, hz0, Option.map_some, G.root, h1, Option.isSome_none]
        · rw [Nat.zero_add] at e1; rw [hl] at e1; cases e1
    · rename_i hc
      try rw [if_neg hng]
      cases he : entryG gs y.2.1 r with
      | none => rfl
      | some g0 =>
        exfalso
        obtain ⟨h99, l, hl', hj, _⟩ := entryG_some he
        obtain ⟨t, d, v, e1, e2, _⟩ := hargs.lents l hl'
        rw [Nat.zero_add] at e1 e2
        exact hc ⟨h99, by rw [← hj, e1]; exact e2⟩
  · intro t v hvt
    unfold initEnv
    rcases hargs.env t v hvt with ⟨e1, l, e2, e3, d, e4, x0, z0, hx0, hz0, hro, hva⟩ | ⟨e1, d, e4, e5⟩
    · rw [Nat.zero_add] at e1 e3
      rw [e4]
      simp only [e1, if_true]
      have he : entryG gs y.2.1 (t, 99) = lendG gs l := by rw [← e3]; exact entryG_lent hargs.uniq e2
      cases hvar : l.var with
      | true =>
        obtain ⟨_, rfl, g, te, hb, rfl⟩ := hva hvar
        simp only [VV, VC]
        refine ⟨_, rfl, x0, g, 0, by rw [he]; simp only [lendG, hvar, if_true, hx0], ?_, by rw [M.get_nil]; rfl, rfl⟩
        unfold G.at_
        simp only [hb, M.at_nil]
      | false =>
        obtain ⟨⟨te, e, zs, h1, rfl⟩, h2⟩ := hro hvar
        simp only [VV, VC]
        refine ⟨_, rfl, ⟨none, z0⟩, z0, by rw [he]; simp only [lendG, hvar, Bool.false_eq_true, if_false, hx0, Option.bind_some, hz0, Option.map_some], M.get_nil _, ?_⟩
        have hzok := (hm.part hx0 hz0).1
        rcases row_cases h1 hzok with ⟨_, g, te', ys, rest, fr, he', rfl⟩ | ⟨_, rfl, he'⟩ | ⟨hh, _⟩
        · rw [he'] at h2
          simp only [M.cells, List.cons.injEq, and_true] at h2
          subst h2
          rw [M.dataL_length]
          exact slcVal_row h1 (by rw [he']; rfl)
        · rw [he'] at h2
          simp only [M.cells, List.cons.injEq, and_true] at h2
          subst h2
          exact slcVal_row h1 (by rw [he']; rfl)
        · cases hh
    · rw [Nat.zero_add] at e1
      rw [e4]
      simp only [e1, Bool.false_eq_true, if_false]
      try rw [if_neg fun h => hng h.1]
      exact e5

end
end Go.Lft

/- Calls: what was read stands frozen; what was lent is pulled. -/
namespace Go.Lft

section
variable {P : Program} {T : Tb} {Z : Zone} {gs gs' : Rid → Option G} {hs : List M} {Fz Fz' : Nat → Prop} {st : St} {a : Act} {w w' : World}

theorem M.ids_get : ∀ (p : List Stp) {m z : M}, M.get m p = some z → ∀ g ∈ M.ids z, g ∈ M.ids m := by
  intro p m z h g hg
  obtain ⟨A, B, h1, _⟩ := M.ids_split p h
  rw [h1]; simp [hg]

/-- A part after another has been frozen: what blocks it has lost are the other's. -/
theorem M.frz_ids_sub : ∀ (p q : List Stp) {m z zq z' : M}, M.get m p = some z → M.get m q = some zq → M.get (M.put m p (M.frz z)) q = some z' → ∀ g ∈ M.ids zq, g ∈ M.ids z' ∨ g ∈ M.ids z
  | [], q, m, z, zq, z', h1, h2, h3, g, hg => by
    rw [M.get_nil] at h1
    obtain rfl := Option.some.inj h1
    exact .inr (M.ids_get q h2 g hg)
  | s :: p, [], m, z, zq, z', h1, h2, h3, g, hg => by
    rw [M.get_nil] at h2 h3
    obtain rfl := Option.some.inj h2
    obtain rfl := Option.some.inj h3
    obtain ⟨A, B, e1, e2⟩ := M.ids_split (s :: p) h1
    rw [e1] at hg
    rw [e2]
    simp only [List.mem_append] at hg ⊢
    rcases hg with (h | h) | h
    · exact .inl (.inl (.inl h))
    · exact .inr h
    · exact .inl (.inr h)
  | s :: p, t :: q, m, z, zq, z', h1, h2, h3, g, hg => by
    cases m with
    | leaf v d => cases s <;> simp [M.get] at h1
    | agg xs =>
      cases s with
      | elm i => simp [M.get] at h1
      | fld i =>
        cases t with
        | elm j => simp [M.get] at h2
        | fld j =>
          simp only [M.get, Option.bind_eq_some_iff] at h1 h2
          obtain ⟨a, h4, h5⟩ := h1
          obtain ⟨b, h6, h7⟩ := h2
          simp only [M.put, h4, M.get, Option.bind_eq_some_iff] at h3
          obtain ⟨c, h8, h9⟩ := h3
          by_cases hij : i = j
          · subst hij
            rw [h4] at h6
            obtain rfl := Option.some.inj h6
            rw [get?_set_self h4] at h8
            obtain rfl := Option.some.inj h8
            exact M.frz_ids_sub p q h5 h7 h9 g hg
          · rw [List.getElem?_set_ne hij, h6] at h8
            obtain rfl := Option.some.inj h8
            rw [h7] at h9
            obtain rfl := Option.some.inj h9
            exact .inl hg
    | lst g1 tg te e xs rest fr =>
      cases s with
      | fld i => simp [M.get] at h1
      | elm i =>
        cases t with
        | fld j => simp [M.get] at h2
        | elm j =>
          simp only [M.get, Option.bind_eq_some_iff] at h1 h2
          obtain ⟨a, h4, h5⟩ := h1
          obtain ⟨b, h6, h7⟩ := h2
          simp only [M.put, h4, M.get, Option.bind_eq_some_iff] at h3
          obtain ⟨c, h8, h9⟩ := h3
          by_cases hij : i = j
          · subst hij
            rw [h4] at h6
            obtain rfl := Option.some.inj h6
            rw [get?_set_self h4] at h8
            obtain rfl := Option.some.inj h8
            exact M.frz_ids_sub p q h5 h7 h9 g hg
          · rw [List.getElem?_set_ne hij, h6] at h8
            obtain rfl := Option.some.inj h8
            rw [h7] at h9
            obtain rfl := Option.some.inj h9
            exact .inl hg

/-- .. and it has gained none. -/
theorem M.frz_ids_sup : ∀ (p q : List Stp) {m z zq z' : M}, M.get m p = some z → M.get m q = some zq → M.get (M.put m p (M.frz z)) q = some z' → ∀ g ∈ M.ids z', g ∈ M.ids zq
  | [], q, m, z, zq, z', h1, h2, h3, g, hg => by
    rw [M.put_nil] at h3
    have := M.ids_get q h3 g hg
    rw [M.frz_ids] at this
    cases this
  | s :: p, [], m, z, zq, z', h1, h2, h3, g, hg => by
    rw [M.get_nil] at h2 h3
    obtain rfl := Option.some.inj h2
    obtain rfl := Option.some.inj h3
    obtain ⟨A, B, e1, e2⟩ := M.ids_split (s :: p) h1
    rw [e2, M.frz_ids] at hg
    rw [e1]
    simp only [List.mem_append, List.append_nil] at hg ⊢
    rcases hg with h | h
    · exact .inl (.inl h)
    · exact .inr h
  | s :: p, t :: q, m, z, zq, z', h1, h2, h3, g, hg => by
    cases m with
    | leaf v d => cases s <;> simp [M.get] at h1
    | agg xs =>
      cases s with
      | elm i => simp [M.get] at h1
      | fld i =>
        cases t with
        | elm j => simp [M.get] at h2
        | fld j =>
          simp only [M.get, Option.bind_eq_some_iff] at h1 h2
          obtain ⟨a, h4, h5⟩ := h1
          obtain ⟨b, h6, h7⟩ := h2
          simp only [M.put, h4, M.get, Option.bind_eq_some_iff] at h3
          obtain ⟨c, h8, h9⟩ := h3
          by_cases hij : i = j
          · subst hij
            rw [h4] at h6
            obtain rfl := Option.some.inj h6
            rw [get?_set_self h4] at h8
            obtain rfl := Option.some.inj h8
            exact M.frz_ids_sup p q h5 h7 h9 g hg
          · rw [List.getElem?_set_ne hij, h6] at h8
            obtain rfl := Option.some.inj h8
            rw [h7] at h9
            obtain rfl := Option.some.inj h9
            exact hg
    | lst g1 tg te e xs rest fr =>
      cases s with
      | fld i => simp [M.get] at h1
      | elm i =>
        cases t with
        | fld j => simp [M.get] at h2
        | elm j =>
          simp only [M.get, Option.bind_eq_some_iff] at h1 h2
          obtain ⟨a, h4, h5⟩ := h1
          obtain ⟨b, h6, h7⟩ := h2
          simp only [M.put, h4, M.get, Option.bind_eq_some_iff] at h3
          obtain ⟨c, h8, h9⟩ := h3
          by_cases hij : i = j
          · subst hij
            rw [h4] at h6
            obtain rfl := Option.some.inj h6
            rw [get?_set_self h4] at h8
            obtain rfl := Option.some.inj h8
            exact M.frz_ids_sup p q h5 h7 h9 g hg
          · rw [List.getElem?_set_ne hij, h6] at h8
            obtain rfl := Option.some.inj h8
            rw [h7] at h9
            obtain rfl := Option.some.inj h9
            exact hg

theorem krs_cons (k : Kill) (ks : List Kill) : krs (k :: ks) = Kr.or (krs [k]) (krs ks) := by rw [krs_one]; rfl

structure FrozeOk (Z : Zone) (gs : Rid → Option G) (Fz : Nat → Prop) (w : World) (rs' : Rid → Option Root) (cold : List (Rid × List Stp)) (gs' : Rid → Option G) (Fz' : Nat → Prop) : Prop where
  mem : Mem Z gs' [] Fz' w
  rs : ∀ r, rs' r = (gs' r).map G.root
  lives : Lives w w Fz Fz' (ptrOk Z gs) (ptrOk Z gs') (slcOk gs) (slcOk gs') (krs (cold.map killAt))
  fz : ∀ g, Fz g → Fz' g
  read : ∀ g, readIds gs cold g → Fz' g
  fzi : ∀ g, Fz' g → Fz g ∨ readIds gs cold g
  other : ∀ r, (∀ q ∈ cold, q.1 ≠ r) → gs' r = gs r
  ids : ∀ r x', gs' r = some x' → ∃ x, gs r = some x ∧ ∀ g ∈ x'.ids, g ∈ x.ids
  places : ∀ q ∈ cold, ∃ x z, gs q.1 = some x ∧ M.get x.m q.2 = some z

theorem freezeAll_ok : ∀ {cold : List (Rid × List Stp)} {gs : Rid → Option G} {Fz : Nat → Prop} {rs : Rid → Option Root} {fr : List (Rid × Option Root)}, Mem Z gs [] Fz w → (∀ r, rs r = (gs r).map G.root) → freezeAll rs cold = some fr →
    ∃ gs' Fz', FrozeOk Z gs Fz w (updAll fr rs) cold gs' Fz'
  | [], gs, Fz, rs, fr, hm, hrs, h => by
    simp only [freezeAll, Option.some.injEq] at h
    subst h
    exact ⟨gs, Fz, { mem := hm, rs := hrs, lives := lives_refl, fz := fun _ h => h, read := fun g ⟨q, hq, _⟩ => (by cases hq), fzi := fun g h => .inl h, other := fun _ _ => rfl, ids := fun r x h => ⟨x, h, fun _ h => h⟩, places := fun q hq => (by cases hq) }⟩
  | (r, p) :: cold, gs, Fz, rs, fr, hm, hrs, h => by
    simp only [freezeAll, freezeAt, Option.bind_eq_some_iff, Option.map_eq_some_iff] at h
    obtain ⟨u, ⟨root, h1, d, h2, c', h3, rfl⟩, us, h4, rfl⟩ := h
    rw [hrs] at h1
    obtain ⟨x, hx, rfl⟩ := Option.map_eq_some_iff.1 h1
    obtain ⟨z, hz, rfl, hzok⟩ := M.get_data p (hm.ok r x hx) h2
    have hfz := hm.freeze_at hx hz
    have hrs1 : ∀ r', updAll [(r, some ({ x.root with c := c' } : Root))] rs r' = (upd gs r (some (x.put p (M.frz z))) r').map G.root := by
      simp only [updAll]; exact rs_upd hrs (congrArg some (root_put hz (by rw [M.frz_data]; exact h3)))
    obtain ⟨gs', Fz', ih⟩ := freezeAll_ok hfz hrs1 h4
    obtain ⟨A, B, i1, i2⟩ := G.put_ids (x := x) hz
    refine ⟨gs', Fz', { mem := ih.mem, rs := fun r' => ?_, lives := ?_, fz := fun g hg => ih.fz g (.inl hg), read := ?_, fzi := ?_, other := ?_, ids := ?_, places := ?_ }⟩
    · have := ih.rs r'
      simpa only [updAll] using this
    · have h5 : Lives w w Fz (fun g => Fz g ∨ g ∈ M.ids z) (ptrOk Z gs) (ptrOk Z (upd gs r (some (x.put p (M.frz z))))) (slcOk gs) (slcOk (upd gs r (some (x.put p (M.frz z))))) (krs [⟨r, p, false, false⟩]) := lives_frz hx hz fun _ h => .inl h
      have := h5.trans ih.lives
      rw [List.map_cons, krs_cons]
      exact this
    · rintro g ⟨q, hq, x2, z2, hx2, hz2, hg⟩
      rcases List.mem_cons.1 hq with rfl | hq
      · rw [hx] at hx2
        obtain rfl := Option.some.inj hx2
        rw [hz] at hz2
        obtain rfl := Option.some.inj hz2
        exact ih.fz g (.inr hg)
      · -- a later place
        by_cases hr : q.1 = r
        · obtain ⟨x3, z3, e1, e2⟩ := ih.places q hq
          rw [hr, upd_self] at e1
          obtain rfl := Option.some.inj e1
          rw [hr, hx] at hx2
          obtain rfl := Option.some.inj hx2
          rcases M.frz_ids_sub p q.2 hz hz2 e2 g hg with h | h
          · exact ih.read g ⟨q, hq, _, z3, by rw [hr]; exact upd_self .., e2, h⟩
          · exact ih.fz g (.inr h)
        · exact ih.read g ⟨q, hq, x2, z2, by rw [upd_ne _ _ hr]; exact hx2, hz2, hg⟩
    · intro g hg
      rcases ih.fzi g hg with (h | h) | ⟨q, hq, x3, z3, e1, e2, e3⟩
      · exact .inl h
      · exact .inr ⟨(r, p), List.mem_cons_self .., x, z, hx, hz, h⟩
      · refine .inr ⟨q, List.mem_cons_of_mem _ hq, ?_⟩
        by_cases hr : q.1 = r
        · obtain ⟨x4, z4, f1, f2, _⟩ := (thin_frz hx hz).place q.1 q.2 x3 z3 e1 e2
          rw [hr, hx] at f1
          obtain rfl := Option.some.inj f1
          rw [hr, upd_self] at e1
          obtain rfl := Option.some.inj e1
          exact ⟨x, z4, by rw [hr]; exact hx, f2, M.frz_ids_sup p q.2 hz f2 e2 g e3⟩
        · rw [upd_ne _ _ hr] at e1
          exact ⟨x3, z3, e1, e2, e3⟩
    · intro r' hr'
      rw [ih.other r' fun q hq => hr' q (List.mem_cons_of_mem _ hq)]
      exact upd_ne _ _ (fun e => hr' (r, p) (List.mem_cons_self ..) e.symm)
    · intro r' x' hx'
      obtain ⟨x1, e1, e2⟩ := ih.ids r' x' hx'
      unfold upd at e1
      split at e1
      · rename_i e
        subst e
        obtain rfl := Option.some.inj e1
        refine ⟨x, hx, fun g hg => ?_⟩
        have := e2 g hg
        rw [i2, M.frz_ids] at this
        rw [i1]
        simp only [List.mem_append, List.append_nil] at this ⊢
        rcases this with h | h
        · exact .inl (.inl h)
        · exact .inr h
      · exact ⟨x1, e1, e2⟩
    · intro q hq
      rcases List.mem_cons.1 hq with rfl | hq
      · exact ⟨x, z, hx, hz⟩
      · obtain ⟨x3, z3, e1, e2⟩ := ih.places q hq
        obtain ⟨x4, z4, f1, f2, _⟩ := (thin_frz hx hz).place q.1 q.2 x3 z3 e1 e2
        exact ⟨x4, z4, f1, f2⟩

/-! ### What was lent is pulled -/
structure PulledOk (gs gsR : Rid → Option G) (l : Lent) : Prop where
  var : l.var = true → gsR l.r = none
  row : l.var = false → ∃ x z y, gs l.r = some x ∧ M.get x.m l.p = some z ∧ gsR l.r = some (x.put l.p y) ∧ M.cells y = M.cells z ∧ isAgg (M.data y) = isAgg (M.data z) ∧ M.ids y = [] ∧ (isAgg (M.data z) = false → M.data y = .undef)

theorem pull_all : ∀ {ls : List Lent} {gs : Rid → Option G}, (ls.Pairwise fun l l' => l'.r ≠ l.r) → (∀ l ∈ ls, ∃ x z, gs l.r = some x ∧ M.get x.m l.p = some z) → Mem Z gs [] Fz w →
    ∃ gsR, Mem Z gsR [] Fz w ∧ (∀ r, (∀ l ∈ ls, l.r ≠ r) → gsR r = gs r) ∧ ∀ l ∈ ls, PulledOk gs gsR l
  | [], gs, hd, hp, hm => ⟨gs, hm, fun _ _ => rfl, fun l hl => (by cases hl)⟩
  | l :: ls, gs, hd, hp, hm => by
    rw [List.pairwise_cons] at hd
    obtain ⟨x, z, hx, hz⟩ := hp l (List.mem_cons_self ..)
    have hone : ∃ gs1, Mem Z gs1 [] Fz w ∧ (∀ r, l.r ≠ r → gs1 r = gs r) ∧ PulledOk gs gs1 l := by
      cases hv : l.var with
      | true => exact ⟨_, hm.drop l.r, fun r hr => upd_ne _ _ (Ne.symm hr), fun _ => upd_self .., fun h => by rw [hv] at h; cases h⟩
      | false =>
        obtain ⟨y, h1, h2, h3, h4, h5⟩ := hm.pull hx hz
        exact ⟨_, h1.tail, fun r hr => upd_ne _ _ (Ne.symm hr), (fun h => by rw [hv] at h; cases h), fun _ => ⟨x, z, y, hx, hz, upd_self .., h2, h3, h4, h5⟩⟩
    obtain ⟨gs1, m1, m2, m3⟩ := hone
    obtain ⟨gsR, n1, n2, n3⟩ := pull_all hd.2 (fun l' hl' => by
      obtain ⟨x', z', e1, e2⟩ := hp l' (List.mem_cons_of_mem _ hl')
      exact ⟨x', z', by rw [m2 _ (Ne.symm (hd.1 l' hl'))]; exact e1, e2⟩) m1
    refine ⟨gsR, n1, fun r hr => ?_, fun l' hl' => ?_⟩
    · rw [n2 r fun l' hl' => hr l' (List.mem_cons_of_mem _ hl'), m2 r (hr l (List.mem_cons_self ..))]
    · rcases List.mem_cons.1 hl' with rfl | hl'
      · have : gsR l'.r = gs1 l'.r := n2 _ fun l2 hl2 => hd.1 l2 hl2
        exact ⟨fun h => by rw [this]; exact m3.var h, fun h => by rw [this]; exact m3.row h⟩
      · have hq := n3 l' hl'
        refine ⟨hq.var, fun h => ?_⟩
        obtain ⟨x', z', y', e1, e2⟩ := hq.row h
        exact ⟨x', z', y', by rw [← m2 _ (Ne.symm (hd.1 l' hl'))]; exact e1, e2⟩

/-! ### After the call -/
/-- What the caller still has, and what the call has brought. -/
structure Brought (Z Z' : Zone) (c : Prop) (gs1 : Rid → Option G) (ms : List M) (Fz2 : Nat → Prop) (w' : World) : Prop where
  ok : ∀ r x, gs1 r = some x → (c ∨ D.cold (M.data x.m) = false) → M.Ok w' Fz2 x.m
  hok : M.OkL w' Fz2 ms
  own : ∀ g, Z'.Own g → Z.Own g
  nfz : ∀ r x, gs1 r = some x → ∀ g ∈ x.ids, ¬ Fz2 g
  hnfz : ∀ g ∈ M.idsL ms, ¬ Fz2 g

/-- The hand takes up what a root of the call's bears. -/
theorem Mem.take_up (hm : Mem Z gs hs Fz w) {m : M} (h1 : M.Ok w Fz m) (h2 : M.In w m) (h3 : (M.ids m).Nodup) (h4 : ∀ g ∈ M.ids m, Z.Own g ∧ ¬ Fz g) (h5 : ∀ r x, gs r = some x → ∀ g ∈ x.ids, g ∉ M.ids m) (h6 : ∀ g ∈ M.ids m, g ∉ M.idsL hs) : Mem Z gs (m :: hs) Fz w :=
  { hm with
    hok := by simp only [M.OkL]; exact ⟨h1, hm.hok⟩
    hin := by simp only [M.InL]; exact ⟨h2, hm.hin⟩
    hnd := by simp only [M.idsL, List.nodup_append]; exact ⟨h3, hm.hnd, fun a ha b hb e => h6 a ha (e ▸ hb)⟩
    hown := fun g hg => by
      simp only [M.idsL, List.mem_append] at hg
      rcases hg with hg | hg
      · exact h4 g hg
      · exact hm.hown g hg
    hdis := fun r x hx g hg hh => by
      simp only [M.idsL, List.mem_append] at hh
      rcases hh with hh | hh
      · exact h5 r x hx g hg hh
      · exact hm.hdis r x hx g hg hh }

end
end Go.Lft

/- Calls: what was lent comes back. -/
namespace Go.Lft

section
variable {P : Program} {T : Tb} {Z Z' : Zone} {gs gs' : Rid → Option G} {hs : List M} {Fz Fz' : Nat → Prop} {st : St} {a : Act} {w w' : World}

/-- Of one that was lent: what the zone of the call says. -/
def LentSaid (Z' : Zone) (gsF : Rid → Option G) (l : Lent) : Prop := ∃ x z b, gsF l.r = some x ∧ M.get x.m l.p = some z ∧ Z'.lent (l.j, 99) = some b ∧
  (l.var = true → l.p = [] ∧ x.bx.isSome = true ∧ b.1 = x.bx) ∧ (l.var = false → b.1 = none ∧ b.2 = M.cells z ∧ isAgg (M.data z) = false)

def Gave (Z : Zone) (gsF gsG : Rid → Option G) (k : Kr) (l : Lent) : Prop :=
  (∀ q v, k.ptr l.r q = false → ptrOk Z gsF l.r q v → ptrOk Z gsG l.r q v) ∧ (∀ q off len v, k.slc l.r q = false → slcOk gsF l.r q off len v → slcOk gsG l.r q off len v)

theorem ptrOk_at {gs gs' : Rid → Option G} {r : Rid} (h : gs' r = gs r) {q : List Stp} {v : Value} : ptrOk Z gs r q v → ptrOk Z gs' r q v := by
  rintro ⟨x, g, o, h1, h2⟩
  exact ⟨x, g, o, by rw [h]; exact h1, h2⟩
theorem slcOk_at {gs gs' : Rid → Option G} {r : Rid} (h : gs' r = gs r) {q : List Stp} {off len : Nat} {v : Value} : slcOk gs r q off len v → slcOk gs' r q off len v := by
  rintro ⟨x, m, h1, h2⟩
  exact ⟨x, m, by rw [h]; exact h1, h2⟩

theorem gave_lives {gsF gs2 gsG : Rid → Option G} {Fz Fz' : Nat → Prop} {k : Kill} {ks : List Kill} {l : Lent} (hl : Lives w w Fz Fz' (ptrOk Z gsF) (ptrOk Z gs2) (slcOk gsF) (slcOk gs2) (krs [k])) (hg : gsG l.r = gs2 l.r) : Gave Z gsF gsG (krs (k :: ks)) l := by
  rw [krs_cons]
  refine ⟨fun q v hk hp => ?_, fun q off len v hk hp => ?_⟩
  · simp only [Kr.or, Bool.or_eq_false_iff] at hk
    exact ptrOk_at hg (hl.ptr _ _ _ hk.1 hp)
  · simp only [Kr.or, Bool.or_eq_false_iff] at hk
    exact slcOk_at hg (hl.slc _ _ _ _ _ hk.1 hp)

theorem gave_more {gsF gsG : Rid → Option G} {k : Kill} {ks : List Kill} {l : Lent} (h : Gave Z gsF gsG (krs ks) l) : Gave Z gsF gsG (krs (k :: ks)) l := by
  rw [krs_cons]
  refine ⟨fun q v hk hp => ?_, fun q off len v hk hp => ?_⟩
  · simp only [Kr.or, Bool.or_eq_false_iff] at hk
    exact h.1 q v hk.2 hp
  · simp only [Kr.or, Bool.or_eq_false_iff] at hk
    exact h.2 q off len v hk.2 hp

theorem give_all {gsF gs1 : Rid → Option G} {ms : List M} {Fz1 Fz2 : Nat → Prop} (hc : Mem Z' gs1 ms Fz1 w') {c : Prop} (hb : Brought Z Z' c gs1 ms Fz2 w') (hlF : ∀ r x b, gsF r = some x → Z.lent r = some b → x.bx = b.1 ∧ (b.1 = none → M.cells x.m = b.2)) :
    ∀ {md : List Nat} {ls : List Lent} {ds : List D} {gsK : Rid → Option G} {rsK : Rid → Option Root} {g : List (Rid × Option Root) × List Kill}, Mem Z gsK ms Fz2 w' →
      (∀ r x, gsK r = some x → ∀ b ∈ x.ids, ¬ Z'.Own b ∨ ∃ j y, gs1 (j, 99) = some y ∧ b ∈ y.ids ∧ ∀ l ∈ ls, l.j ≠ j) →
      (∀ r, (∀ l ∈ ls, l.r ≠ r) → rsK r = (gsK r).map G.root) → (∀ l ∈ ls, PulledOk gsF gsK l ∧ rsK l.r = (gsF l.r).map G.root ∧ LentSaid Z' gsF l) →
      (ls.Pairwise fun l l' => l'.r ≠ l.r) → (ls.Pairwise fun l l' => l.j < l'.j) → LentOk gs1 md ds → (∀ d ∈ ds, c ∨ coldB d = false) → giveBack rsK md ls ds = some g →
      ∃ gsG, Mem Z gsG ms Fz2 w' ∧ (∀ r, updAll g.1 rsK r = (gsG r).map G.root) ∧ (∀ r, (∀ l ∈ ls, l.r ≠ r) → gsG r = gsK r) ∧ ∀ l ∈ ls, Gave Z gsF gsG (krs g.2) l
  | [], [], [], gsK, rsK, g, hm, hids, hrs, hrem, hd, hu, hlo, hw, h => by
    simp only [giveBack, Option.some.injEq] at h
    subst h
    exact ⟨gsK, hm, fun r => hrs r fun l hl => (by cases hl), fun _ _ => rfl, fun l hl => (by cases hl)⟩
  | i :: md, l :: ls, d :: ds, gsK, rsK, g, hm, hids, hrs, hrem, hd, hu, hlo, hw, h => by
    simp only [giveBack] at h
    split at h
    · rename_i hij
      simp only [Option.bind_eq_some_iff, Option.map_eq_some_iff] at h
      obtain ⟨g1, h1, g2, h2, rfl⟩ := h
      rw [List.pairwise_cons] at hd hu
      obtain ⟨hpl, hrl, x, z, b, hx, hz, hzl, hsv, hsr⟩ := hrem l (List.mem_cons_self ..)
      simp only [LentOk] at hlo
      obtain ⟨hlo1, hlo2⟩ := hlo
      -- what the call has made of it
      have hy : i < 1000 → ∃ y, gs1 (l.j, 99) = some y ∧ d = backD y ∧ y.bx = b.1 ∧ (b.1 = none → M.cells y.m = b.2) := by
        intro hi
        rw [if_pos hi] at hlo1
        obtain ⟨y, e1, e2⟩ := hlo1
        have : i = l.j := by rw [← hij, Nat.mod_eq_of_lt hi]
        rw [this] at e1
        obtain ⟨e3, e4⟩ := hc.lent _ y b e1 hzl
        exact ⟨y, e1, e2, e3, e4⟩
      have hup : ∀ y, gs1 (l.j, 99) = some y → (c ∨ D.cold (M.data y.m) = false) → Mem Z gsK (y.m :: ms) Fz2 w' ∧ ∀ r x, gsK r = some x → ∀ b ∈ x.ids, b ∉ y.ids := by
        intro y hy hcold
        have hdis : ∀ r x, gsK r = some x → ∀ b ∈ x.ids, b ∉ y.ids := by
          intro r x hx b hbx hby
          rcases hids r x hx b hbx with h | ⟨j, y', e1, e2, e3⟩
          · exact h (hc.own _ y hy b hby).1
          · have hne := e3 l (List.mem_cons_self ..)
            exact hc.dis (j, 99) (l.j, 99) y' y e1 hy (fun e => hne (Prod.mk.inj e).1.symm) b e2 hby
        refine ⟨hm.take_up (hb.ok _ y hy hcold) (hc.ins _ y hy).2 (G.ids_nodup (hc.nd _ y hy)) (fun b hbm => ⟨hb.own b (hc.own _ y hy b (y.ids_m b hbm)).1, hb.nfz _ y hy b (y.ids_m b hbm)⟩) (fun r x hx b hbx hbm => hdis r x hx b hbx (y.ids_m b hbm)) (fun b hbm => hc.hdis _ y hy b (y.ids_m b hbm)), hdis⟩
      -- one step, then the rest
      have rest : ∀ (gsK' : Rid → Option G), Mem Z gsK' ms Fz2 w' → (∀ r, r ≠ l.r → gsK' r = gsK r) → (∀ x', gsK' l.r = some x' → ∀ b ∈ x'.ids, ¬ Z'.Own b ∨ ∃ j y, gs1 (j, 99) = some y ∧ b ∈ y.ids ∧ ∀ l' ∈ ls, l'.j ≠ j) →
          updAll [g1.1] rsK l.r = (gsK' l.r).map G.root → g1.1.1 = l.r → (∀ gsG, gsG l.r = gsK' l.r → Gave Z gsF gsG (krs (g1.2 :: g2.2)) l) →
          ∃ gsG, Mem Z gsG ms Fz2 w' ∧ (∀ r, updAll (g1.1 :: g2.1) rsK r = (gsG r).map G.root) ∧ (∀ r, (∀ l' ∈ l :: ls, l'.r ≠ r) → gsG r = gsK r) ∧ ∀ l' ∈ l :: ls, Gave Z gsF gsG (krs (g1.2 :: g2.2)) l' := by
        intro gsK' m1 m2 m3 m4 m5 m6
        have hrs1 : ∀ r, r ≠ l.r → updAll [g1.1] rsK r = rsK r := by
          intro r hr
          obtain ⟨⟨r1, o1⟩, k1⟩ := g1
          simp only at m5
          subst m5
          simp only [updAll]
          exact upd_ne _ _ hr
        obtain ⟨gsG, n1, n2, n3, n4⟩ := give_all hc hb hlF (gsK := gsK') (rsK := updAll [g1.1] rsK) m1 (fun r x' hx' b hb' => by
            by_cases hr : r = l.r
            · subst hr; exact m3 x' hx' b hb'
            · rw [m2 r hr] at hx'
              rcases hids r x' hx' b hb' with h | ⟨j, y, e1, e2, e3⟩
              · exact .inl h
              · exact .inr ⟨j, y, e1, e2, fun l' hl' => e3 l' (List.mem_cons_of_mem _ hl')⟩)
          (fun r hr => by
            by_cases hrl : r = l.r
            · subst hrl; exact m4
            · rw [hrs1 r hrl, m2 r hrl]
              exact hrs r fun l' hl' => by
                rcases List.mem_cons.1 hl' with rfl | hl'
                · exact fun e => hrl e.symm
                · exact hr l' hl')
          (fun l' hl' => by
            obtain ⟨p1, p2, p3⟩ := hrem l' (List.mem_cons_of_mem _ hl')
            have hne := hd.1 l' hl'
            refine ⟨⟨fun hv => by rw [m2 _ hne]; exact p1.var hv, fun hv => by rw [m2 _ hne]; exact p1.row hv⟩, by rw [hrs1 _ hne]; exact p2, p3⟩)
          hd.2 hu.2 hlo2 (fun d' hd' => hw d' (List.mem_cons_of_mem _ hd')) h2
        refine ⟨gsG, n1, fun r => ?_, fun r hr => ?_, fun l' hl' => ?_⟩
        · rw [show g1.1 :: g2.1 = [g1.1] ++ g2.1 from rfl, updAll_append]; exact n2 r
        · rw [n3 r fun l' hl' => hr l' (List.mem_cons_of_mem _ hl'), m2 r fun e => hr l (List.mem_cons_self ..) e.symm]
        · rcases List.mem_cons.1 hl' with rfl | hl'
          · exact m6 gsG (n3 _ fun l2 hl2 => hd.1 l2 hl2)
          · exact gave_more (n4 l' hl')
      have hroot : rsK l.r = some x.root := by rw [hrl, hx]; rfl
      simp only [giveOne, hroot, Option.bind_some] at h1
      split at h1
      · -- a variable
        rename_i hvar
        obtain ⟨hp0, hbx, hbb⟩ := hsv hvar
        split at h1
        · rename_i c0
          obtain rfl := Option.some.inj h1
          have hi : i < 1000 := by
            rcases Nat.lt_or_ge i 1000 with h | h
            · exact h
            · rw [if_neg (by omega)] at hlo1; cases hlo1
          obtain ⟨y, e1, e2, e3, _⟩ := hy hi
          have hyb : y.bx = x.bx := e3.trans hbb
          have hybs : y.bx.isSome = true := by rw [hyb]; exact hbx
          have hcy : c0 = M.data y.m := by
            unfold backD at e2
            rw [if_pos hybs] at e2
            exact D.pto.inj e2
          subst hcy
          obtain ⟨hup1, hup2⟩ := hup y e1 (hw _ (List.mem_cons_self ..))
          have hyn := hc.nd _ y e1
          have hroot' := hup1.root' l.r y (fun b' hb' => by
              obtain ⟨q1, q2⟩ := hlF l.r x b' hx hb'
              refine ⟨hyb.trans q1, fun hn => ?_⟩
              rw [← q1] at hn
              rw [hn] at hbx; cases hbx) rfl (fun hn => by rw [hn] at hybs; cases hybs) (fun g0 te hg => by
              have hgy : g0 ∈ y.ids := by unfold G.ids; rw [hg]; exact List.mem_cons_self ..
              refine ⟨(hc.ins _ y e1).1 g0 te hg, hb.own _ (hc.own _ y e1 g0 hgy).1, hb.nfz _ y e1 g0 hgy, fun r x' hx' hh => hup2 r x' hx' g0 hh hgy, ?_, hc.hdis _ y e1 g0 hgy⟩
              unfold G.ids at hyn
              rw [hg] at hyn
              exact (List.nodup_cons.1 hyn).1)
          refine rest _ hroot' (fun r hr => upd_ne _ _ hr) (fun x' hx' b' hb' => ?_) ?_ rfl (fun gsG hgG => ?_)
          · rw [upd_self] at hx'
            obtain rfl := Option.some.inj hx'
            exact .inr ⟨l.j, y, e1, hb', fun l' hl' => by have := hu.1 l' hl'; omega⟩
          · simp only [updAll, upd_self, Option.map_some, G.root, hyb]
          · rw [upd_self] at hgG
            rw [krs_cons]
            refine ⟨fun q v hk hp => ?_, fun q off len v hk hp => ?_⟩
            · simp only [Kr.or, Bool.or_eq_false_iff] at hk
              have hbq := kill_ptr hk.1
              cases q with
              | cons s q => simp [behind] at hbq
              | nil =>
                obtain ⟨x', g0, o0, q1, q2, q3, q4⟩ := hp
                rw [hx] at q1
                obtain rfl := Option.some.inj q1
                refine ⟨y, g0, o0, hgG, ?_, by rw [M.get_nil]; rfl, q4⟩
                unfold G.at_ at q2 ⊢
                rw [hyb]
                cases hxb : x.bx with
                | none => rw [hxb] at q2; exact q2
                | some bb => rw [hxb] at q2; simp only [M.at_nil] at q2 ⊢; exact q2
            · simp only [Kr.or, Bool.or_eq_false_iff] at hk
              obtain ⟨h5, h6⟩ := kill_slc hk.1
              cases q with
              | nil => exact absurd rfl (h6 rfl)
              | cons s q => simp [behind] at h5
        · cases h1
      · -- a row
        rename_i hvar
        have hvar : l.var = false := by simpa using hvar
        obtain ⟨hb1, hb2, hag⟩ := hsr hvar
        obtain ⟨x', z', y0, p1, p2, p3, p4, p5, p6, p7⟩ := hpl.row hvar
        rw [hx] at p1
        obtain rfl := Option.some.inj p1
        rw [hz] at p2
        obtain rfl := Option.some.inj p2
        simp only [Option.bind_eq_some_iff] at h1
        obtain ⟨d0, h3, h4⟩ := h1
        have hd0 : d0 = M.data z := by
          have := M.get_data' l.p hz
          simp only [G.root] at h3
          rw [this] at h3
          exact (Option.some.inj h3).symm
        subst hd0
        have hsame : gsK = upd gsK l.r (some (x.put l.p y0)) := (upd_same p3).symm
        have hxids : ∀ b' ∈ (x.put l.p y0).ids, ¬ Z'.Own b' ∨ ∃ j y, gs1 (j, 99) = some y ∧ b' ∈ y.ids ∧ ∀ l' ∈ ls, l'.j ≠ j := by
          intro b' hb'
          rcases hids l.r _ p3 b' hb' with h | ⟨j, y, e1, e2, e3⟩
          · exact .inl h
          · exact .inr ⟨j, y, e1, e2, fun l' hl' => e3 l' (List.mem_cons_of_mem _ hl')⟩
        cases hdz : M.data z <;> simp only [hdz] at h4 <;> try (cases h4; done)
        rename_i own te e xs
        cases own <;> simp only at h4
        · cases h4
        split at h4
        · rename_i te' e' xs'
          split at h4
          · rename_i hck
            obtain ⟨hck1, hck2, hck3⟩ := hck
            subst hck1
            subst hck2
            simp only [Option.map_eq_some_iff] at h4
            obtain ⟨c', h5, rfl⟩ := h4
            have hi : i < 1000 := by
              rcases Nat.lt_or_ge i 1000 with h | h
              · exact h
              · rw [if_neg (by omega)] at hlo1; cases hlo1
            obtain ⟨y, e1, e2, e3, e4⟩ := hy hi
            have hyn : y.bx = none := e3.trans hb1
            have hdy : M.data y.m = .lst true te' e' xs' := by
              unfold backD at e2
              rw [hyn] at e2
              simpa using e2.symm
            obtain ⟨hup1, hup2⟩ := hup y e1 (by rw [hdy]; exact hw _ (List.mem_cons_self ..))
            have hcy : M.cells y.m = M.cells z := by rw [e4 hb1, hb2]
            rw [hsame] at hup1
            have hbk := hup1.back hz (by rw [hcy, p4]) (by rw [hdy, p5, hdz]; rfl)
            refine rest _ hbk (fun r hr => upd_ne _ _ hr) (fun x' hx' b' hb' => ?_) ?_ rfl (fun gsG hgG => ?_)
            · rw [upd_self] at hx'
              obtain rfl := Option.some.inj hx'
              obtain ⟨A, B, i1, i2⟩ := G.put_ids (x := x) hz
              rw [i2] at hb'
              simp only [List.mem_append] at hb'
              rcases hb' with (h | h) | h
              · exact hxids b' (by rw [i2]; simp [h])
              · exact .inr ⟨l.j, y, e1, y.ids_m b' h, fun l' hl' => by have := hu.1 l' hl'; omega⟩
              · exact hxids b' (by rw [i2]; simp [h])
            · simp only [updAll, upd_self, Option.map_some, root_put hz (hdy.symm ▸ h5)]
            · have hlv : Lives w' w' Fz2 Fz2 (ptrOk Z gsF) (ptrOk Z (upd gsF l.r (some (x.put l.p y.m)))) (slcOk gsF) (slcOk (upd gsF l.r (some (x.put l.p y.m)))) (krs [⟨l.r, l.p, false, false⟩]) :=
                lives_put hx hz (by rw [hcy]) (fun q _ h => kill_ptr h) (fun q _ h => ⟨(kill_slc h).1, fun _ off len v hs => by
                  obtain ⟨own1, te1, e1', xs1, ad, n, cap, a', c, j1, j2, j3⟩ := hs
                  rw [hdz] at j1
                  simp only [D.lst.injEq] at j1
                  obtain ⟨rfl, rfl, rfl, rfl⟩ := j1
                  exact ⟨true, te', e', xs', ad, n, cap, a', c, hdy, by rw [hcy, j2], j3⟩⟩) (fun _ _ => rfl) fun _ h => h
              exact gave_lives hlv (by rw [hgG, upd_self, upd_self])
          · cases h4
        · -- kept by the call
          simp only [Option.map_eq_some_iff] at h4
          obtain ⟨c', h5, rfl⟩ := h4
          have hdy : M.data y0 = .undef := p7 hag
          refine rest gsK hm (fun r hr => rfl) (fun x' hx' b' hb' => ?_) ?_ rfl (fun gsG hgG => ?_)
          · rw [p3] at hx'
            obtain rfl := Option.some.inj hx'
            exact hxids b' hb'
          · simp only [updAll, upd_self, p3, Option.map_some, root_put hz (hdy.symm ▸ h5)]
          · have hlv : Lives w' w' Fz2 Fz2 (ptrOk Z gsF) (ptrOk Z (upd gsF l.r (some (x.put l.p y0)))) (slcOk gsF) (slcOk (upd gsF l.r (some (x.put l.p y0)))) (krs [⟨l.r, l.p, false, true⟩]) := lives_store hx hz (by rw [p4]) fun _ _ => rfl
            exact gave_lives hlv (by rw [hgG, upd_self, p3])
        · cases h4
    · cases h
  | [], [], d :: ds, gsK, rsK, g, hm, hids, hrs, hrem, hd, hu, hlo, hw, h => by simp [giveBack] at h
  | [], l :: ls, ds, gsK, rsK, g, hm, hids, hrs, hrem, hd, hu, hlo, hw, h => by simp [giveBack] at h
  | i :: md, [], ds, gsK, rsK, g, hm, hids, hrs, hrem, hd, hu, hlo, hw, h => by simp [giveBack] at h
  | i :: md, l :: ls, [], gsK, rsK, g, hm, hids, hrs, hrem, hd, hu, hlo, hw, h => by simp [giveBack] at h

end
end Go.Lft

