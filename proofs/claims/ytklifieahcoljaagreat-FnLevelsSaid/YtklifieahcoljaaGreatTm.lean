/-
  How terms lie in memory: the reading of a Go value of 'Term' as a plain tree, with the list of the blocks that it passes through; what keeps such a reading.
-/
import Derived.Test.YtklifieahcoljaaGreatRep
namespace Go.Proofs.YtklifieahcoljaaGreat
open Go.RowKit
set_option linter.unusedVariables false
set_option linter.unusedSimpArgs false

theorem Tm.ind' {P : Tm → Prop} (h : ∀ t, (∀ x ∈ t.args, P x) → P t) (t : Tm) : P t := Tm.ind (fun k nm ot n ty re xs ih => h ⟨k, nm, ot, n, ty, re, xs⟩ ih) t

/-- The letters of a term's three slices. -/
structure Lt where
  ta : Option Addr
  tn : Nat
  tc : Nat
  ra : Option Addr
  rn : Nat
  rc : Nat
  aa : Option Addr
  an : Nat
  ac : Nat

/-- The nine cells of a term. -/
def tcells (t : Tm) (l : Lt) : List Value := [.int .i64 t.kind, .string t.name, .string t.other, .int .i64 t.n, .int .i64 t.type.kind, .slice l.ta l.tn l.tc, .int .i64 t.res.kind, .slice l.ra l.rn l.rc, .slice l.aa l.an l.ac]
theorem tcells_len (t : Tm) (l : Lt) : (tcells t l).length = 9 := rfl

/-- From 'off' on block b holds these cells. -/
def CellsAt (w : World) (b off : Nat) (vs : List Value) : Prop := ∀ i v, vs[i]? = some v → w.cell? ⟨b, off + i, none⟩ = some v
theorem CellsAt.nine {w : World} {b off : Nat} {t : Tm} {l : Lt} (h : CellsAt w b off (tcells t l)) :
    w.cell? ⟨b, off, none⟩ = some (.int .i64 t.kind) ∧ w.cell? ⟨b, off + 1, none⟩ = some (.string t.name) ∧ w.cell? ⟨b, off + 2, none⟩ = some (.string t.other) ∧ w.cell? ⟨b, off + 3, none⟩ = some (.int .i64 t.n) ∧
    w.cell? ⟨b, off + 4, none⟩ = some (.int .i64 t.type.kind) ∧ w.cell? ⟨b, off + 5, none⟩ = some (.slice l.ta l.tn l.tc) ∧ w.cell? ⟨b, off + 6, none⟩ = some (.int .i64 t.res.kind) ∧ w.cell? ⟨b, off + 7, none⟩ = some (.slice l.ra l.rn l.rc) ∧
    w.cell? ⟨b, off + 8, none⟩ = some (.slice l.aa l.an l.ac) :=
  ⟨h 0 _ rfl, h 1 _ rfl, h 2 _ rfl, h 3 _ rfl, h 4 _ rfl, h 5 _ rfl, h 6 _ rfl, h 7 _ rfl, h 8 _ rfl⟩
theorem CellsAt.keep {w w' : World} {b off : Nat} {vs : List Value} (h : CellsAt w b off vs) (hs : ∀ o, off ≤ o → o < off + vs.length → w'.cell? ⟨b, o, none⟩ = w.cell? ⟨b, o, none⟩) : CellsAt w' b off vs := fun i v hv => by
  have hi : i < vs.length := by
    rcases Nat.lt_or_ge i vs.length with h | h
    · exact h
    · rw [List.getElem?_eq_none h] at hv
      cases hv
  exact (hs _ (by omega) (by omega)).trans (h i v hv)

mutual
/-- The cells 'tcells t l' read as the term t; 'fp': the blocks that its slices lie in. -/
def RM (w : World) : Tm → Lt → List Nat → Prop
  | ⟨k, nm, ot, n, ty, re, xs⟩, l, fp => (i64 k ∧ i64 n ∧ nm.size ≤ 9223372036854775807 ∧ ot.size ≤ 9223372036854775807) ∧ (l.an = xs.length ∧ l.an ≤ l.ac ∧ l.ac ≤ maxLen) ∧
      ∃ f1 f2 f3, fp = f1 ++ (f2 ++ f3) ∧ RT w ty (.int .i64 ty.kind) (.slice l.ta l.tn l.tc) f1 ∧ RT w re (.int .i64 re.kind) (.slice l.ra l.rn l.rc) f2 ∧
        ((xs = [] ∧ f3 = []) ∨ xs ≠ [] ∧ ∃ b off fps, l.aa = some ⟨b, off, none⟩ ∧ f3 = b :: fps ∧ RMs w xs b off fps)
/-- The cells from 'off' on in block b read as terms, nine cells each. -/
def RMs (w : World) : List Tm → Nat → Nat → List Nat → Prop
  | [], _, _, fp => fp = []
  | t :: ts, b, off, fp => ∃ l f g, fp = f ++ g ∧ CellsAt w b off (tcells t l) ∧ RM w t l f ∧ RMs w ts b (off + 9) g
end

theorem RMs_keep_of {w w' : World} (xs : List Tm) (ih : ∀ t ∈ xs, ∀ l fp, RM w t l fp → (∀ b ∈ fp, SameB w w' b) → RM w' t l fp) :
    ∀ (b off : Nat) (fp : List Nat), RMs w xs b off fp → (∀ o, off ≤ o → o < off + 9 * xs.length → w'.cell? ⟨b, o, none⟩ = w.cell? ⟨b, o, none⟩) → (∀ b ∈ fp, SameB w w' b) → RMs w' xs b off fp := by
  induction xs with
  | nil => intro b off fp h _ _; rw [RMs] at h ⊢; exact h
  | cons t ts its =>
    intro b off fp h hb hf
    rw [RMs] at h ⊢
    obtain ⟨l, f, g, rfl, h0, ht, hts⟩ := h
    simp only [List.length_cons] at hb
    exact ⟨l, f, g, rfl, h0.keep fun o h1 h2 => hb o h1 (by rw [tcells_len] at h2; omega), ih t (by simp) _ _ ht (fun x hx => hf x (by simp [hx])),
      its (fun u hu => ih u (by simp [hu])) _ _ _ hts (fun o h1 h2 => hb o (by omega) (by omega)) (fun x hx => hf x (by simp [hx]))⟩

/-- A reading is kept by whatever leaves its blocks alone. -/
theorem RM.keep {w w' : World} (t : Tm) : ∀ l fp, RM w t l fp → (∀ b ∈ fp, SameB w w' b) → RM w' t l fp := by
  refine Tm.ind (P := fun t => ∀ l fp, RM w t l fp → (∀ b ∈ fp, SameB w w' b) → RM w' t l fp) ?_ t
  intro k nm ot n ty re xs ih l fp h hf
  rw [RM] at h ⊢
  obtain ⟨h0, h1, f1, f2, f3, rfl, ht, hr, h⟩ := h
  refine ⟨h0, h1, f1, f2, f3, rfl, RT.keep _ _ _ _ ht (fun x hx => hf x (by simp [hx])), RT.keep _ _ _ _ hr (fun x hx => hf x (by simp [hx])), ?_⟩
  rcases h with h | ⟨hne, b, off, fps, ha, hfp, hs⟩
  · exact .inl h
  · subst hfp
    exact .inr ⟨hne, b, off, fps, ha, rfl, RMs_keep_of xs ih b off fps hs (fun o _ _ => hf b (by simp) o) (fun x hx => hf x (by simp [hx]))⟩

theorem RMs.keep_part {w w' : World} {xs : List Tm} {b off : Nat} {fp : List Nat} (h : RMs w xs b off fp) (hb : ∀ o, off ≤ o → o < off + 9 * xs.length → w'.cell? ⟨b, o, none⟩ = w.cell? ⟨b, o, none⟩)
    (hf : ∀ b ∈ fp, SameB w w' b) : RMs w' xs b off fp :=
  RMs_keep_of xs (fun t _ => RM.keep t) b off fp h hb hf
theorem RMs.keep {w w' : World} {xs : List Tm} {b off : Nat} {fp : List Nat} (h : RMs w xs b off fp) (hb : SameB w w' b) (hf : ∀ b ∈ fp, SameB w w' b) : RMs w' xs b off fp :=
  h.keep_part (fun o _ _ => hb o) hf

theorem RMs_snoc {w : World} {t : Tm} {l : Lt} {f : List Nat} : ∀ (xs : List Tm) {b off : Nat} {fp : List Nat}, RMs w xs b off fp →
    CellsAt w b (off + xs.length * 9) (tcells t l) → RM w t l f → RMs w (xs ++ [t]) b off (fp ++ f)
  | [], b, off, fp, h, e0, ht => by
    rw [RMs] at h
    subst h
    simp only [List.nil_append, RMs]
    exact ⟨l, f, [], by simp, by simpa using e0, ht, rfl⟩
  | x :: xs, b, off, fp, h, e0, ht => by
    rw [RMs] at h
    obtain ⟨l1, f1, g, rfl, h0, hx, hxs⟩ := h
    rw [List.cons_append, RMs]
    refine ⟨l1, f1, g ++ f, by simp, h0, hx, RMs_snoc xs hxs ?_ ht⟩
    rw [show off + 9 + xs.length * 9 = off + (x :: xs).length * 9 by simp only [List.length_cons]; omega]
    exact e0

theorem RMs_lt_of {w : World} (xs : List Tm) (ih : ∀ t ∈ xs, ∀ l fp, RM w t l fp → ∀ b ∈ fp, b < w.heap.size) :
    ∀ (b off : Nat) (fp : List Nat), RMs w xs b off fp → (∀ b ∈ fp, b < w.heap.size) ∧ (xs ≠ [] → b < w.heap.size) := by
  induction xs with
  | nil => intro b off fp h; rw [RMs] at h; subst h; simp
  | cons t ts its =>
    intro b off fp h
    rw [RMs] at h
    obtain ⟨l, f, g, rfl, h0, ht, hts⟩ := h
    refine ⟨fun x hx => ?_, fun _ => lt_of_cell (h0 0 _ rfl)⟩
    rcases List.mem_append.1 hx with hx | hx
    · exact ih t (by simp) _ _ ht x hx
    · exact (its (fun u hu => ih u (by simp [hu])) _ _ _ hts).1 x hx

theorem RM.lt {w : World} (t : Tm) : ∀ l fp, RM w t l fp → ∀ b ∈ fp, b < w.heap.size := by
  refine Tm.ind (P := fun t => ∀ l fp, RM w t l fp → ∀ b ∈ fp, b < w.heap.size) ?_ t
  intro k nm ot n ty re xs ih l fp h
  rw [RM] at h
  obtain ⟨_, _, f1, f2, f3, rfl, ht, hr, h⟩ := h
  intro x hx
  rcases List.mem_append.1 hx with hx | hx
  · exact RT.lt _ _ _ _ ht x hx
  · rcases List.mem_append.1 hx with hx | hx
    · exact RT.lt _ _ _ _ hr x hx
    · rcases h with ⟨_, rfl⟩ | ⟨hne, b, off, fps, _, rfl, hs⟩
      · cases hx
      · have hl := RMs_lt_of xs ih b off fps hs
        rcases List.mem_cons.1 hx with rfl | hx
        · exact hl.2 hne
        · exact hl.1 x hx
theorem RMs.lt {w : World} {xs : List Tm} {b off : Nat} {fp : List Nat} (h : RMs w xs b off fp) : ∀ x ∈ fp, x < w.heap.size := (RMs_lt_of xs (fun t _ => RM.lt t) b off fp h).1

theorem RMs_get {w : World} {xs : List Tm} : ∀ {b off : Nat} {fp : List Nat}, RMs w xs b off fp → ∀ (i : Nat) (hi : i < xs.length),
    ∃ l f, CellsAt w b (off + i * 9) (tcells xs[i] l) ∧ RM w xs[i] l f ∧ ∀ x ∈ f, x ∈ fp := by
  induction xs with
  | nil => intro b off fp h i hi; simp at hi
  | cons t ts ih =>
    intro b off fp h i hi
    rw [RMs] at h
    obtain ⟨l, f, g, rfl, h0, ht, hts⟩ := h
    cases i with
    | zero => exact ⟨l, f, by simpa using h0, ht, fun x hx => by simp [hx]⟩
    | succ i =>
      obtain ⟨l', f', e0, ht', hs⟩ := ih hts i (by simpa using hi)
      exact ⟨l', f', by rw [show off + (i + 1) * 9 = off + 9 + i * 9 by omega]; exact e0, ht', fun x hx => by simp [hs x hx]⟩

/-- Letters that read as a term, by whatever blocks. -/
def Md (w : World) (t : Tm) (l : Lt) : Prop := ∃ fp, RM w t l fp
/-- A slice of terms by its letters, by whatever blocks. -/
def Mds (w : World) (xs : List Tm) (a : Option Addr) (n cap : Nat) : Prop := n = xs.length ∧ n ≤ cap ∧ cap ≤ maxLen ∧
  (xs = [] ∨ xs ≠ [] ∧ ∃ b off fps, a = some ⟨b, off, none⟩ ∧ RMs w xs b off fps)
theorem RM.md {w : World} {t : Tm} {l : Lt} {fp : List Nat} (h : RM w t l fp) : Md w t l := ⟨fp, h⟩

theorem Md.shape {w : World} {t : Tm} {l : Lt} (h : Md w t l) : (i64 t.kind ∧ i64 t.n ∧ t.name.size ≤ 9223372036854775807 ∧ t.other.size ≤ 9223372036854775807) ∧
    Rd w t.type (.int .i64 t.type.kind) (.slice l.ta l.tn l.tc) ∧ Rd w t.res (.int .i64 t.res.kind) (.slice l.ra l.rn l.rc) ∧ Mds w t.args l.aa l.an l.ac := by
  obtain ⟨fp, h⟩ := h
  obtain ⟨k, nm, ot, n, ty, re, xs⟩ := t
  rw [RM] at h
  obtain ⟨h0, ⟨h1, h2, h3⟩, f1, f2, f3, rfl, ht, hr, h⟩ := h
  refine ⟨h0, ⟨f1, ht⟩, ⟨f2, hr⟩, h1, h2, h3, ?_⟩
  rcases h with ⟨h, _⟩ | ⟨hne, b, off, fps, ha, _, hs⟩
  · exact .inl h
  · exact .inr ⟨hne, b, off, fps, ha, hs⟩
theorem Md.mk {w : World} {t : Tm} {l : Lt} (h0 : i64 t.kind ∧ i64 t.n ∧ t.name.size ≤ 9223372036854775807 ∧ t.other.size ≤ 9223372036854775807)
    (ht : Rd w t.type (.int .i64 t.type.kind) (.slice l.ta l.tn l.tc)) (hr : Rd w t.res (.int .i64 t.res.kind) (.slice l.ra l.rn l.rc)) (h : Mds w t.args l.aa l.an l.ac) : Md w t l := by
  obtain ⟨k, nm, ot, n, ty, re, xs⟩ := t
  obtain ⟨f1, ht⟩ := ht
  obtain ⟨f2, hr⟩ := hr
  obtain ⟨h1, h2, h3, h⟩ := h
  rcases h with h | ⟨hne, b, off, fps, ha, hs⟩
  · exact ⟨f1 ++ (f2 ++ []), by rw [RM]; exact ⟨h0, ⟨h1, h2, h3⟩, f1, f2, [], rfl, ht, hr, .inl ⟨h, rfl⟩⟩⟩
  · exact ⟨f1 ++ (f2 ++ (b :: fps)), by rw [RM]; exact ⟨h0, ⟨h1, h2, h3⟩, f1, f2, b :: fps, rfl, ht, hr, .inr ⟨hne, b, off, fps, ha, rfl, hs⟩⟩⟩

theorem Mds.get {w : World} {xs : List Tm} {a : Option Addr} {n cap : Nat} (h : Mds w xs a n cap) (i : Nat) (hi : i < xs.length) :
    ∃ b off l, a = some ⟨b, off, none⟩ ∧ b < w.heap.size ∧ CellsAt w b (off + i * 9) (tcells xs[i] l) ∧ Md w xs[i] l := by
  obtain ⟨_, _, _, h⟩ := h
  rcases h with h | ⟨hne, b, off, fps, ha, hs⟩
  · subst h; simp at hi
  · obtain ⟨l, f, e0, ht, _⟩ := RMs_get hs i hi
    exact ⟨b, off, l, ha, lt_of_cell (e0 0 _ rfl), e0, f, ht⟩

theorem RM.below {w w' : World} {t : Tm} {l : Lt} {fp : List Nat} (h : RM w t l fp) (hb : Below w.heap.size w w') : RM w' t l fp :=
  RM.keep t _ _ h fun b hbf => SameB.of_heap (hb.block b (RM.lt t _ _ h b hbf))
theorem Md.below {w w' : World} {t : Tm} {l : Lt} (h : Md w t l) (hb : Below w.heap.size w w') : Md w' t l :=
  let ⟨fp, h⟩ := h; ⟨fp, h.below hb⟩
theorem Mds.below {w w' : World} {xs : List Tm} {a : Option Addr} {n cap : Nat} (h : Mds w xs a n cap) (hb : Below w.heap.size w w') : Mds w' xs a n cap := by
  obtain ⟨h1, h2, h3, h⟩ := h
  refine ⟨h1, h2, h3, ?_⟩
  rcases h with h | ⟨hne, b, off, fps, ha, hs⟩
  · exact .inl h
  · have hl := RMs_lt_of xs (fun t _ => RM.lt t) b off fps hs
    exact .inr ⟨hne, b, off, fps, ha, hs.keep (SameB.of_heap (hb.block b (hl.2 hne))) fun x hx => SameB.of_heap (hb.block x (hl.1 x hx))⟩

/-- The nine cells of a block that is just a term's. -/
theorem Blk.nine {w : World} {g T : Nat} {t : Tm} {l : Lt} (h : Blk w g T #[.int .i64 t.kind, .string t.name, .string t.other, .int .i64 t.n, .int .i64 t.type.kind, .slice l.ta l.tn l.tc, .int .i64 t.res.kind, .slice l.ra l.rn l.rc, .slice l.aa l.an l.ac]) :
    w.cell? ⟨g, 0, none⟩ = some (.int .i64 t.kind) ∧ w.cell? ⟨g, 1, none⟩ = some (.string t.name) ∧ w.cell? ⟨g, 2, none⟩ = some (.string t.other) ∧ w.cell? ⟨g, 3, none⟩ = some (.int .i64 t.n) ∧
    w.cell? ⟨g, 4, none⟩ = some (.int .i64 t.type.kind) ∧ w.cell? ⟨g, 5, none⟩ = some (.slice l.ta l.tn l.tc) ∧ w.cell? ⟨g, 6, none⟩ = some (.int .i64 t.res.kind) ∧ w.cell? ⟨g, 7, none⟩ = some (.slice l.ra l.rn l.rc) ∧
    w.cell? ⟨g, 8, none⟩ = some (.slice l.aa l.an l.ac) :=
  ⟨h.cell 0, h.cell 1, h.cell 2, h.cell 3, h.cell 4, h.cell 5, h.cell 6, h.cell 7, h.cell 8⟩
end Go.Proofs.YtklifieahcoljaaGreat
