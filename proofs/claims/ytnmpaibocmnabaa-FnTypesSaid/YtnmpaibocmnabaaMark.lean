/-
  The walks of markTypeS, markType, heldTypeS, heldType: a type's nodes below the root are numbered through, and looked over again.
-/
import Derived.Test.YtnmpaibocmnabaaWrote
namespace Go.Proofs.Ytnmpaibocmnabaa
open Go.RowKit
set_option linter.unusedVariables false
set_option linter.unusedSimpArgs false

mutual
/-- The nodes numbered through from k on. -/
def Ty.mark (k : Int) : Ty → Ty
  | ⟨_, xs⟩ => ⟨k, Ty.marks (k + 1) xs⟩
def Ty.marks (k : Int) : List Ty → List Ty
  | [] => []
  | t :: ts => t.mark k :: Ty.marks (k + t.size) ts
end
theorem Ty.marks_len (xs : List Ty) : ∀ k, (Ty.marks k xs).length = xs.length := by
  induction xs with
  | nil => intro k; rfl
  | cons x xs ih => intro k; simp [Ty.marks, ih]
theorem Ty.marks_append (xs ys : List Ty) : ∀ k, Ty.marks k (xs ++ ys) = Ty.marks k xs ++ Ty.marks (k + Ty.sizes xs) ys := by
  induction xs with
  | nil => intro k; simp [Ty.marks, Ty.sizes]
  | cons x xs ih =>
    intro k
    simp only [List.cons_append, Ty.marks, ih, Ty.sizes, Int.natCast_add]
    rw [Int.add_assoc]
theorem Ty.mark_eq (t : Ty) (k : Int) : t.mark k = ⟨k, Ty.marks (k + 1) t.args⟩ := by cases t; rw [Ty.mark]

theorem RTs_append {w : World} : ∀ (xs ys : List Ty) {b off : Nat} {fp : List Nat}, RTs w (xs ++ ys) b off fp ↔ ∃ f g, fp = f ++ g ∧ RTs w xs b off f ∧ RTs w ys b (off + xs.length * 2) g
  | [], ys, b, off, fp => by
    simp only [List.nil_append, List.length_nil, Nat.zero_mul, Nat.add_zero]
    constructor
    · intro h
      exact ⟨[], fp, rfl, by rw [RTs], h⟩
    · rintro ⟨f, g, rfl, h1, h2⟩
      rw [RTs] at h1
      subst h1
      exact h2
  | x :: xs, ys, b, off, fp => by
    rw [List.cons_append, RTs]
    constructor
    · rintro ⟨c0, c1, f, g, rfl, h0, h1, hx, hr⟩
      obtain ⟨f2, g2, rfl, h2, h3⟩ := (RTs_append xs ys).1 hr
      refine ⟨f ++ f2, g2, by simp, by rw [RTs]; exact ⟨c0, c1, f, f2, rfl, h0, h1, hx, h2⟩, ?_⟩
      rw [show off + (x :: xs).length * 2 = off + 2 + xs.length * 2 by simp only [List.length_cons]; omega]
      exact h3
    · rintro ⟨f, g, rfl, h1, h2⟩
      rw [RTs] at h1
      obtain ⟨c0, c1, f1, f2, rfl, h0, h1, hx, hr⟩ := h1
      refine ⟨c0, c1, f1, f2 ++ g, by simp, h0, h1, hx, (RTs_append xs ys).2 ⟨f2, g, rfl, hr, ?_⟩⟩
      rw [show off + 2 + xs.length * 2 = off + (x :: xs).length * 2 by simp only [List.length_cons]; omega]
      exact h2

/-- A slice of types by its letters, with its blocks. -/
def RTa (w : World) (xs : List Ty) (a : Option Addr) (n cap : Nat) (fp : List Nat) : Prop := n = xs.length ∧ n ≤ cap ∧ cap ≤ maxLen ∧
  ((xs = [] ∧ fp = []) ∨ xs ≠ [] ∧ ∃ b off fps, a = some ⟨b, off, none⟩ ∧ fp = b :: fps ∧ RTs w xs b off fps)
theorem RT_rta {w : World} {k : Int} {xs : List Ty} {c0 c1 : Value} {fp : List Nat} : RT w ⟨k, xs⟩ c0 c1 fp ↔ c0 = .int .i64 k ∧ i64 k ∧ ∃ a cap, c1 = .slice a xs.length cap ∧ RTa w xs a xs.length cap fp := by
  rw [RT]
  constructor
  · rintro ⟨h0, hk, a, cap, h1, h2, h3, h4⟩
    exact ⟨h0, hk, a, cap, h1, rfl, h2, h3, h4⟩
  · rintro ⟨h0, hk, a, cap, h1, -, h2, h3, h4⟩
    exact ⟨h0, hk, a, cap, h1, h2, h3, h4⟩

/-- One element renumbered: its number stored, then its parts renumbered. -/
theorem mark_step {w : World} {xs : List Ty} {b off j : Nat} {q : Int} {fps : List Nat} (hj : j < xs.length) (hq : i64 q) (pre : List Ty) (hpre : pre.length = j)
    (hR : RTs w (pre ++ xs.drop j) b off fps) (hnd : (b :: fps).Nodup) :
    ∃ a n cap c0 fj, w.cell? ⟨b, off + j * 2, none⟩ = some c0 ∧ w.cell? ⟨b, off + j * 2 + 1, none⟩ = some (.slice a n cap) ∧ fj.Nodup ∧ (∀ x ∈ fj, x ∈ fps) ∧ b ∉ fj ∧
      RTa (w.setCell ⟨b, off + j * 2, none⟩ (.int .i64 q)) xs[j].args a n cap fj ∧
      (∀ w2, Wrote fj (w.setCell ⟨b, off + j * 2, none⟩ (.int .i64 q)) w2 → RTa w2 (Ty.marks (q + 1) xs[j].args) a n cap fj → RTs w2 ((pre ++ [xs[j].mark q]) ++ xs.drop (j + 1)) b off fps) := by
  rw [List.drop_eq_getElem_cons hj] at hR
  obtain ⟨f1, f23, rfl, h1, h23⟩ := (RTs_append _ _).1 hR
  rw [RTs] at h23
  obtain ⟨c0, c1, f2, f3, rfl, e0, e1, hx, h3⟩ := h23
  rw [hpre] at e0 e1 h3
  obtain ⟨kx, ax, hxx⟩ : ∃ kx ax, xs[j] = Ty.mk kx ax := by
    generalize xs[j] = t0
    cases t0
    exact ⟨_, _, rfl⟩
  rw [hxx] at hx
  rw [hxx]
  obtain ⟨rfl, hkx, a, cap, rfl, hA⟩ := RT_rta.1 hx
  have hnd' := hnd
  rw [List.nodup_cons] at hnd
  obtain ⟨hb, hn⟩ := hnd
  rw [List.nodup_append] at hn
  obtain ⟨hn1, hn23, hd1⟩ := hn
  rw [List.nodup_append] at hn23
  obtain ⟨hn2, hn3, hd2⟩ := hn23
  have hbf2 : b ∉ f2 := fun h => hb (by simp [h])
  have hset : ∀ x ∈ f1 ++ (f2 ++ f3), SameB w (w.setCell ⟨b, off + j * 2, none⟩ (.int .i64 q)) x := fun x hx => same_set (p := ⟨b, off + j * 2, none⟩) (fun e => hb (by simpa [e] using hx)) _
  have hlt1 := h1.lt
  have hlt3 := h3.lt
  have hcellb : ∀ o, o ≠ off + j * 2 → (w.setCell ⟨b, off + j * 2, none⟩ (.int .i64 q)).cell? ⟨b, o, none⟩ = w.cell? ⟨b, o, none⟩ := fun o ho =>
    World.cell?_setCell_other _ _ _ _ (fun e => ho (by injection e; omega))
  have hblt : b < w.heap.size := lt_of_cell e0
  refine ⟨a, ax.length, cap, _, f2, e0, e1, hn2, fun x hx => by simp [hx], hbf2, ?_, fun w2 hW hA2 => ?_⟩
  · obtain ⟨g1, g2, g3, g4⟩ := hA
    refine ⟨g1, g2, g3, ?_⟩
    rcases g4 with g4 | ⟨hne, b', off', fps', ha, hf, hs⟩
    · exact .inl g4
    · subst hf
      exact .inr ⟨hne, b', off', fps', ha, rfl, hs.keep (hset b' (by simp)) fun x hx => hset x (by simp [hx])⟩
  · have hsz : (w.setCell ⟨b, off + j * 2, none⟩ (.int .i64 q)).heap.size = w.heap.size := by simp [World.setCell]
    have same2 : ∀ x, x < w.heap.size → x ∉ f2 → SameB (w.setCell ⟨b, off + j * 2, none⟩ (.int .i64 q)) w2 x := fun x hx hn => hW.same (by rw [hsz]; exact hx) hn
    have cb : ∀ o, o ≠ off + j * 2 → w2.cell? ⟨b, o, none⟩ = w.cell? ⟨b, o, none⟩ := fun o ho => (same2 b hblt hbf2 o).trans (hcellb o ho)
    rw [List.append_assoc]
    refine (RTs_append _ _).2 ⟨f1, f2 ++ f3, rfl, ?_, ?_⟩
    · refine h1.keep_part (fun o h h' => cb o (by omega)) fun x hx => (hset x (by simp [hx])).trans (same2 x (hlt1 x hx) fun h => hd1 x hx x (by simp [h]) rfl)
    · rw [hpre, List.singleton_append, RTs]
      refine ⟨.int .i64 q, .slice a ax.length cap, f2, f3, rfl, ?_, (cb _ (by omega)).trans e1, ?_, ?_⟩
      · rw [same2 b hblt hbf2]
        exact World.cell?_setCell_same _ _ _ e0
      · rw [Ty.mark_eq]
        refine RT_rta.2 ⟨rfl, hq, a, cap, ?_, ?_⟩
        · rw [Ty.marks_len]
        · rw [Ty.marks_len]
          exact hA2
      · exact h3.keep_part (fun o h h' => cb o (by omega)) fun x hx => (hset x (by simp [hx])).trans (same2 x (hlt3 x hx) fun h => hd2 x h x hx rfl)
end Go.Proofs.Ytnmpaibocmnabaa
