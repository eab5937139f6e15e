/-
  Draws of terms: DrawIsValidTerm, DrawEqualTerm, DrawOpArity.
-/
import Derived.Test.YtklifieahcoljaaGreatBentM
import Derived.Test.YtklifieahcoljaaGreatCopyM
import Derived.Test.YtklifieahcoljaaGreatDrawEq
namespace Go.Proofs.YtklifieahcoljaaGreat
open Go.RowKit
set_option maxRecDepth 100000
set_option linter.unusedVariables false
set_option linter.unusedSimpArgs false

/-- What a draw of a term gives. -/
def DrawnM (w : World) (e : Ending) (w' : World) : Prop := ∃ (t : Tm) (l : Lt), e = .returned (.agg #[.int .i64 t.kind, .string t.name, .string t.other, .int .i64 t.n, .int .i64 t.type.kind, .slice l.ta l.tn l.tc, .int .i64 t.res.kind, .slice l.ra l.rn l.rc, .slice l.aa l.an l.ac]) ∧ Md w' t l ∧ t.wt ≤ 100000 ∧ Below w.heap.size w w'
/-- What a draw of two terms gives. -/
def DrawnM2 (w : World) (e : Ending) (w' : World) : Prop := ∃ (t u : Tm) (l m : Lt), e = .returned (.tuple #[.agg #[.int .i64 t.kind, .string t.name, .string t.other, .int .i64 t.n, .int .i64 t.type.kind, .slice l.ta l.tn l.tc, .int .i64 t.res.kind, .slice l.ra l.rn l.rc, .slice l.aa l.an l.ac], .agg #[.int .i64 u.kind, .string u.name, .string u.other, .int .i64 u.n, .int .i64 u.type.kind, .slice m.ta m.tn m.tc, .int .i64 u.res.kind, .slice m.ra m.rn m.rc, .slice m.aa m.an m.ac]]) ∧ Md w' t l ∧ Md w' u m ∧ t.wt ≤ 100000 ∧ u.wt ≤ 100000 ∧ Below w.heap.size w w'

theorem LaidM.rm {X base : Nat} {w : World} {t : Tm} {l : Lt} (h : LaidM X base w t l) : ∃ fp, RM w t l fp ∧ ∀ b ∈ fp, base ≤ b ∧ b ≠ X := by
  obtain ⟨hbX, hB, hi, cs, f1, f2, f3, h1, h2, hown, h3, hX3, hX1, hX2, hap⟩ := h
  have hlen : l.an = t.args.length ∧ l.an ≤ l.ac ∧ l.ac ≤ maxLen := by
    rcases hown.2 with ⟨hv, hn⟩ | ⟨g, cap, cur, hv, hg, hh, hle, hm, hsz, htk⟩
    · injection hv with q1 q2 q3
      rw [q2, q3]
      exact ⟨hn.symm, Nat.le_refl _, by simp⟩
    · injection hv with q1 q2 q3
      rw [q2, q3]
      exact ⟨rfl, hle, hm⟩
  have k1 : ∀ b ∈ f1, base ≤ b ∧ b ≠ X := fun b hb => ⟨h1.2 b hb, fun e => hX1 (by rw [← e]; exact hb)⟩
  have k2 : ∀ b ∈ f2, base ≤ b ∧ b ≠ X := fun b hb => ⟨h2.2 b hb, fun e => hX2 (by rw [← e]; exact hb)⟩
  by_cases hx : t.args = []
  · refine ⟨_, RM.mk (f3 := []) hi hlen h1.1 h2.1 (.inl ⟨hx, rfl⟩), fun b hb => ?_⟩
    rw [List.append_nil] at hb
    exact (List.mem_append.1 hb).elim (k1 b) (k2 b)
  · rcases hown.2 with ⟨hv, hn⟩ | ⟨g, cap, cur, hv, hg, hh, hle, hm, hsz, htk⟩
    · exact absurd (List.length_eq_zero_iff.1 hn) hx
    · have hgX := (hap g (by rw [hv]; rfl)).1
      have hR : RMs w t.args g 0 f3 := RCM_rms h3 fun j u hu => by
        have := hown.cells (g := g) (by rw [hv]; rfl) j u hu
        simpa [Addr.add_lit] using this
      injection hv with q1 q2 q3
      refine ⟨_, RM.mk (f3 := g :: f3) hi hlen h1.1 h2.1 (.inr ⟨hx, g, 0, f3, q1, rfl, hR⟩), fun b hb => ?_⟩
      rcases List.mem_append.1 hb with hb | hb
      · exact k1 b hb
      · rcases List.mem_append.1 hb with hb | hb
        · exact k2 b hb
        · rcases List.mem_cons.1 hb with rfl | hb
          · exact ⟨hg, hgX⟩
          · exact hX3 b hb
/-- A form of one part. -/
def wrapM (k : Int) (t : Tm) : Tm := ⟨k, ⟨#[]⟩, ⟨#[]⟩, 0, ty0, ty0, [t]⟩
def wrapL (g : Nat) : Lt := ⟨none, 0, 0, none, 0, 0, some ⟨g, 0, none⟩, 1, 1⟩
theorem wrapM_wt (k : Int) (t : Tm) : (wrapM k t).wt = 1 + t.wt := by
  rw [wrapM, Tm.wt, Tm.wts, Tm.wts, ty0]
  show (ByteArray.mk #[]).size + (ByteArray.mk #[]).size + Ty.sizes [] + Ty.sizes [] + (1 + t.wt + 0) = 1 + t.wt
  rw [Ty.sizes]
  have : (ByteArray.mk #[]).size = 0 := rfl
  omega
theorem LaidM.wrap {X base : Nat} {w : World} {t : Tm} {l : Lt} (h : LaidM X base w t l) (k : Int) (hk : i64 k) :
    LaidM X base ((putAt w X 0 (tcells (wrapM k t) (wrapL w.heap.size))).alloc (.cells #[.int .i64 t.kind, .string t.name, .string t.other, .int .i64 t.n, .int .i64 t.type.kind, .slice l.ta l.tn l.tc, .int .i64 t.res.kind, .slice l.ra l.rn l.rc, .slice l.aa l.an l.ac] 29)) (wrapM k t) (wrapL w.heap.size) := by
  obtain ⟨fp, hR, hfp⟩ := h.rm
  have hlX := h.lt
  have hsz := putAt_size (M := X) (tcells (wrapM k t) (wrapL w.heap.size)) w 0
  have hB := (put_box h.box rfl (wrapM k t) (wrapL w.heap.size)).alloc (.cells #[.int .i64 t.kind, .string t.name, .string t.other, .int .i64 t.n, .int .i64 t.type.kind, .slice l.ta l.tn l.tc, .int .i64 t.res.kind, .slice l.ra l.rn l.rc, .slice l.aa l.an l.ac] 29)
  have hl := RM.lt _ _ _ hR
  refine ⟨h.1, hB, ⟨hk, by simp [wrapM, i64], Nat.zero_le _, Nat.zero_le _⟩, tcells t l, [], [], fp, TyAt.nil _ _ _ ⟨by omega, by omega⟩, TyAt.nil _ _ _ ⟨by omega, by omega⟩, ?_, ?_, hfp, by simp, by simp, fun g hg => ?_⟩
  · refine ⟨rfl, .inr ⟨w.heap.size, 1, #[.int .i64 t.kind, .string t.name, .string t.other, .int .i64 t.n, .int .i64 t.type.kind, .slice l.ta l.tn l.tc, .int .i64 t.res.kind, .slice l.ra l.rn l.rc, .slice l.aa l.an l.ac], rfl, by have := h.1; omega, ?_, by simp [wrapM], by unfold maxLen; omega, rfl, rfl⟩⟩
    have := heap_alloc_new (putAt w X 0 (tcells (wrapM k t) (wrapL w.heap.size))) (.cells #[.int .i64 t.kind, .string t.name, .string t.other, .int .i64 t.n, .int .i64 t.type.kind, .slice l.ta l.tn l.tc, .int .i64 t.res.kind, .slice l.ra l.rn l.rc, .slice l.aa l.an l.ac] 29)
    rw [hsz] at this
    exact this
  · refine ⟨l, [], fp, [], by simp, by simp, RM.keep _ _ _ hR fun b hb => SameB.of_heap ?_, rfl, rfl⟩
    rw [Below.heap_alloc _ _ _ (by rw [hsz]; exact hl b hb), putAt_heap (hfp b hb).2]
  · have e : w.heap.size = g := Option.some.inj hg
    subst e
    exact ⟨by omega, by simp, by simp, fun hin => by have := hl _ hin; omega⟩

end Go.Proofs.YtklifieahcoljaaGreat
