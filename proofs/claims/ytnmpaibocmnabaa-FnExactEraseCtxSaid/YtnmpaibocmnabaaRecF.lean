/-
  Records of one's own: cells that read as records, each type in blocks of its own.
-/
import Derived.Test.YtnmpaibocmnabaaRec
import Derived.Test.YtnmpaibocmnabaaMarkW
namespace Go.Proofs.Ytnmpaibocmnabaa
open Go.RowKit
set_option maxRecDepth 100000
set_option linter.unusedVariables false
set_option linter.unusedSimpArgs false

theorem RTa.keep {w w' : World} {xs : List Ty} {a : Option Addr} {n cap : Nat} {fp : List Nat} (h : RTa w xs a n cap fp) (hs : ∀ x ∈ fp, SameB w w' x) : RTa w' xs a n cap fp := by
  obtain ⟨h1, h2, h3, h4⟩ := h
  refine ⟨h1, h2, h3, ?_⟩
  rcases h4 with h4 | ⟨hne, b, off, fps, ha, rfl, hR⟩
  · exact .inl h4
  · exact .inr ⟨hne, b, off, fps, ha, rfl, hR.keep (hs b (by simp)) fun x hx => hs x (by simp [hx])⟩
theorem RTa.rd {w : World} {t : Ty} {a : Option Addr} {n cap : Nat} {fp : List Nat} (h : RTa w t.args a n cap fp) (hk : i64 t.kind) : RT w t (.int .i64 t.kind) (.slice a n cap) fp := by
  obtain ⟨k, xs⟩ := t
  have h1 := h.1
  subst h1
  exact RT_rta.2 ⟨rfl, hk, a, cap, rfl, h⟩
theorem RT.rta' {w : World} {t : Ty} {k : Value} {a : Option Addr} {n cap : Nat} {fp : List Nat} (h : RT w t k (.slice a n cap) fp) : RTa w t.args a n cap fp := by
  obtain ⟨k, xs⟩ := t
  obtain ⟨-, -, a', cap', e, hA⟩ := RT_rta.1 h
  injection e with e1 e2 e3
  subst e1 e2 e3
  exact hA

/-- The first k records of xs, four cells each, told by C; their types lie in the blocks F. -/
structure RecsF {α : Type} [Last α] (C : Nat → Option Value) (w : World) (xs : List (Rc α)) (k base : Nat) (F : Nat → List Nat) : Prop where
  at_ : ∀ i (h : i < xs.length), i < k → ∃ ta tn tc, C (i * 4) = some (.string xs[i].name) ∧ C (i * 4 + 1) = some (.int .i64 xs[i].type.kind) ∧ C (i * 4 + 2) = some (.slice ta tn tc) ∧
    C (i * 4 + 3) = some (Last.val xs[i].last) ∧ RTa w xs[i].type.args ta tn tc (F i)
  own : ∀ i, i < k → (F i).Nodup ∧ Free w (F i) ∧ ∀ b ∈ F i, base ≤ b ∧ b < w.heap.size
  dis : ∀ i j, i < j → j < k → ∀ b ∈ F i, b ∉ F j
variable {α : Type} [Last α]
theorem RecsF.nil (C : Nat → Option Value) (w : World) (xs : List (Rc α)) (base : Nat) (F : Nat → List Nat) : RecsF C w xs 0 base F :=
  ⟨fun i _ h => absurd h (Nat.not_lt_zero _), fun i h => absurd h (Nat.not_lt_zero _), fun i j _ h => absurd h (Nat.not_lt_zero _)⟩
theorem free_heap {w w' : World} {fp : List Nat} (h : Free w fp) (hk : ∀ b ∈ fp, w'.heap[b]? = w.heap[b]?) : Free w' fp := fun b hb o =>
  (World.frozen?_of_block (a := ⟨b, o, none⟩) (hk b hb)).trans (h b hb o)
theorem RecsF.keep {C C' : Nat → Option Value} {w w' : World} {xs : List (Rc α)} {k base : Nat} {F : Nat → List Nat} (h : RecsF C w xs k base F) (hC : ∀ o, o < k * 4 → C' o = C o)
    (hk : ∀ i, i < k → ∀ b ∈ F i, w'.heap[b]? = w.heap[b]?) (hsz : w.heap.size ≤ w'.heap.size) : RecsF C' w' xs k base F := by
  refine ⟨fun i hi hik => ?_, fun i hik => ?_, h.dis⟩
  · obtain ⟨ta, tn, tc, e0, e1, e2, e3, hr⟩ := h.at_ i hi hik
    exact ⟨ta, tn, tc, (hC _ (by omega)).trans e0, (hC _ (by omega)).trans e1, (hC _ (by omega)).trans e2, (hC _ (by omega)).trans e3, hr.keep fun b hb => SameB.of_heap (hk i hik b hb)⟩
  · obtain ⟨h1, h2, h3⟩ := h.own i hik
    exact ⟨h1, free_heap h2 (hk i hik), fun b hb => ⟨(h3 b hb).1, by have := (h3 b hb).2; omega⟩⟩
theorem RecsF.step {C C' : Nat → Option Value} {w w' : World} {xs : List (Rc α)} {k base : Nat} {F : Nat → List Nat} {f : List Nat} {ta : Option Addr} {tn tc : Nat} (h : RecsF C w xs k base F) (hkx : k < xs.length)
    (hC : ∀ o, o < k * 4 → C' o = C o) (c0 : C' (k * 4) = some (.string xs[k].name)) (c1 : C' (k * 4 + 1) = some (.int .i64 xs[k].type.kind)) (c2 : C' (k * 4 + 2) = some (.slice ta tn tc))
    (c3 : C' (k * 4 + 3) = some (Last.val xs[k].last)) (hA : RTa w' xs[k].type.args ta tn tc f) (hnd : f.Nodup) (hF : Free w' f) (hge : ∀ b ∈ f, w.heap.size ≤ b ∧ b < w'.heap.size) (hbs : base ≤ w.heap.size)
    (hk : ∀ i, i < k → ∀ b ∈ F i, w'.heap[b]? = w.heap[b]?) (hsz : w.heap.size ≤ w'.heap.size) : RecsF C' w' xs (k + 1) base (fun i => if i = k then f else F i) := by
  have h' := h.keep hC hk hsz
  refine ⟨fun i hi hik => ?_, fun i hik => ?_, fun i j hij hjk b hb => ?_⟩
  · by_cases e : i = k
    · subst e
      rw [if_pos rfl]
      exact ⟨ta, tn, tc, c0, c1, c2, c3, hA⟩
    · rw [if_neg e]
      exact h'.at_ i hi (by omega)
  · by_cases e : i = k
    · subst e
      rw [if_pos rfl]
      exact ⟨hnd, hF, fun b hb => ⟨by have := (hge b hb).1; omega, (hge b hb).2⟩⟩
    · rw [if_neg e]
      exact h'.own i (by omega)
  · rw [if_neg (by omega)] at hb
    by_cases e : j = k
    · subst e
      rw [if_pos rfl]
      intro hin
      have h1 := (hge b hin).1
      have h2 := ((h.own i hij).2.2 b hb).2
      omega
    · rw [if_neg e]
      exact h.dis i j hij (by omega) b hb

/-- What is asked of the records beside their cells. -/
def RcOk (xs : List (Rc α)) : Prop := ∀ r ∈ xs, r.name.size ≤ 9223372036854775807 ∧ Last.ok r.last ∧ i64 r.type.kind
theorem Rcs.rcok {w : World} {xs : List (Rc α)} {a : Option Addr} {n cap : Nat} (h : Rcs w xs a n cap) : RcOk xs := by
  intro r hr
  obtain ⟨i, hi, rfl⟩ := List.getElem_of_mem hr
  obtain ⟨b, off, -, -, h1, h2, ta, tn, tc, -, -, -, -, hd⟩ := h.get i hi
  obtain ⟨_, _, _, _, _, hk, _⟩ := hd.shape
  exact ⟨h1, h2, hk⟩
/-- Records of one's own in block g. -/
structure OwnR (T base : Nat) (w : World) (xs : List (Rc α)) (g : Nat) (F : Nat → List Nat) : Prop where
  ge : base ≤ g
  blk : ∃ cs, Blk w g T cs ∧ xs.length * 4 ≤ cs.size
  recs : RecsF (fun o => w.cell? ⟨g, o, none⟩) w xs xs.length base F
  ne : ∀ i, i < xs.length → g ∉ F i
theorem OwnR.lt {T base g : Nat} {w : World} {xs : List (Rc α)} {F : Nat → List Nat} (h : OwnR T base w xs g F) : g < w.heap.size := by
  obtain ⟨cs, hB, -⟩ := h.blk
  exact hB.lt
/-- Kept by whatever leaves its blocks alone. -/
theorem OwnR.keep {T base g : Nat} {w w' : World} {xs : List (Rc α)} {F : Nat → List Nat} (h : OwnR T base w xs g F) (hg : w'.heap[g]? = w.heap[g]?) (hk : ∀ i, i < xs.length → ∀ b ∈ F i, w'.heap[b]? = w.heap[b]?)
    (hsz : w.heap.size ≤ w'.heap.size) : OwnR T base w' xs g F := by
  obtain ⟨cs, hB, hs⟩ := h.blk
  have hB' : Blk w' g T cs := hg.trans hB
  exact ⟨h.ge, ⟨cs, hB', hs⟩, h.recs.keep (fun o _ => (hB'.cell o).trans (hB.cell o).symm) hk hsz, h.ne⟩
theorem OwnR.below {T base g : Nat} {w w' : World} {xs : List (Rc α)} {F : Nat → List Nat} (h : OwnR T base w xs g F) (hb : Below w.heap.size w w') : OwnR T base w' xs g F :=
  h.keep (hb.block _ h.lt) (fun i hi b hbf => hb.block _ ((h.recs.own i hi).2.2 b hbf).2) hb.size
/-- They read as records. -/
theorem OwnR.rcs {T base g : Nat} {w : World} {xs : List (Rc α)} {F : Nat → List Nat} (h : OwnR T base w xs g F) (hok : RcOk xs) {cap : Nat} (hc : xs.length ≤ cap) (hm : cap ≤ maxLen) : Rcs w xs (some ⟨g, 0, none⟩) xs.length cap := by
  refine ⟨rfl, hc, hm, ?_⟩
  by_cases hx : xs = []
  · exact .inl hx
  · refine .inr ⟨hx, g, 0, rfl, fun i hi => ?_⟩
    obtain ⟨ta, tn, tc, e0, e1, e2, e3, hr⟩ := h.recs.at_ i hi hi
    obtain ⟨o1, o2, o3⟩ := hok _ (List.getElem_mem hi)
    rw [Nat.zero_add]
    exact ⟨o1, o2, ta, tn, tc, e0, e1, e2, e3, F i, hr.rd o3⟩
end Go.Proofs.Ytnmpaibocmnabaa
