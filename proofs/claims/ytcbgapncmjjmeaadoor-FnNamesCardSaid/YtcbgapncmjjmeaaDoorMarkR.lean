/-
  A list of one's own is marked, and what else is kept.
-/
import Derived.Test.YtcbgapncmjjmeaaDoorMarkT
namespace Go.Proofs.YtcbgapncmjjmeaaDoor
open Go.RowKit
set_option maxRecDepth 100000
set_option linter.unusedVariables false
set_option linter.unusedSimpArgs false

theorem Rss.wrote {w w' : World} {xs : List ByteArray} {a : Option Addr} {n cap : Nat} {fp : List Nat} (h : Rss w xs a n cap) (hw : Wrote fp w w') (hne : ∀ p, a = some p → p.block ∉ fp) : Rss w' xs a n cap := by
  obtain ⟨h1, h2, h3, hs, h4⟩ := h
  refine ⟨h1, h2, h3, hs, ?_⟩
  rcases h4 with h4 | ⟨hne', b, off, rfl, hc⟩
  · exact .inl h4
  · exact .inr ⟨hne', b, off, rfl, fun i hi => (hw.same (World.block_lt_of_cell? _ _ (hc i hi)) (hne ⟨b, off, none⟩ rfl) _).trans (hc i hi)⟩
theorem OwnS.at_ {base : Nat} {w : World} {xs ys : List ByteArray} {a : Option Addr} {cap : Nat} (h : OwnS base w (.slice a ys.length cap) xs) : ∀ p, a = some p → base ≤ p.block ∧ p.block < w.heap.size := by
  intro p hp
  exact h.lt p.block (by subst hp; rfl)
theorem size_of_rss {w : World} {g T : Nat} {cs : Array Value} {xs : List ByteArray} {n cap : Nat} (hB : Blk w g T cs) (h : Rss w xs (some ⟨g, 0, none⟩) n cap) : xs.length ≤ cs.size := by
  by_cases h0 : xs.length = 0
  · omega
  · obtain ⟨b, off, hp, -, hc⟩ := h.get (xs.length - 1) (by omega)
    injection hp with hp
    injection hp with e1 e2
    subst e1 e2
    rw [hB.cell] at hc
    have := (Array.getElem?_eq_some_iff.1 hc).1
    omega
theorem OwnS.wrote {base : Nat} {w w' : World} {v : Value} {xs : List ByteArray} {fp : List Nat} (h : OwnS base w v xs) (hw : Wrote fp w w') (hne : ∀ g, v.ownBlock = some g → g ∉ fp) : OwnS base w' v xs := by
  refine ⟨h.1, ?_⟩
  rcases h.2 with hn | ⟨g, cap, cur, rfl, hg, hh, r⟩
  · exact .inl hn
  · exact .inr ⟨g, cap, cur, rfl, hg, (hw.block g (Array.getElem?_eq_some_iff.1 hh).1 (hne g rfl)).trans hh, r⟩
theorem Wrote.sub {fp : List Nat} {w w' : World} {B : Nat} (h : Wrote fp w w') (hB : B ≤ w.heap.size) (hfp : ∀ b ∈ fp, B ≤ b) : Below B w w' := h.below hB hfp

/-- A result is marked. -/
theorem markRes {base : Nat} {w : World} {a : Option Addr} {cap : Nat} {xs : List ByteArray} (hO : OwnS base w (.slice a xs.length cap) xs) (hl : xs.length ≤ 8388608) :
    Calls Tryd.prog 24 #[.slice a xs.length cap, .int .i64 1] w fun e w' => e = .returned (.int .i64 ((1 + xs.length : Nat) : Int)) ∧ (∃ fp, (∀ b ∈ fp, base ≤ b ∧ b < w.heap.size) ∧ (∀ b ∈ fp, ∃ p, a = some p ∧ p.block = b) ∧ Wrote fp w w') ∧ Rss w' (marks 1 xs.length) a xs.length cap := by
  have hsz : ∀ x ∈ marks 1 xs.length, x.size ≤ 9223372036854775807 := by
    intro x hx
    simp only [marks, List.mem_map, List.mem_range] at hx
    obtain ⟨i, hi, rfl⟩ := hx
    exact mtext_size _ (by omega)
  rcases hO.2 with ⟨h, hn⟩ | ⟨g, cap', cur, hv, hb, hg, hle, hm, hs, htk⟩
  · injection h with h1 h2 h3
    subst h1 h3
    rw [hn]
    refine (markStringS_none 1 0 none w (by omega)).mono ?_
    rintro e w' ⟨rfl, rfl⟩
    exact ⟨rfl, ⟨[], by simp, by simp, Wrote.refl _ _⟩, rfl, Nat.le_refl _, by simp, by simp [marks], .inl rfl⟩
  · injection hv with h1 h2 h3
    subst h1 h3
    refine (markStringS_any 1 xs.length cap g cur w (by omega) hl hg (by omega)).mono ?_
    rintro e w' ⟨rfl, hw, hc⟩
    refine ⟨rfl, ⟨[g], by simp; exact ⟨hb, Blk.lt hg⟩, by simp, hw⟩, (marks_len _ _).symm, hle, hm, hsz, ?_⟩
    by_cases h0 : marks 1 xs.length = []
    · exact .inl h0
    · refine .inr ⟨h0, g, 0, rfl, fun i hi => ?_⟩
      rw [marks_get, Nat.zero_add]
      exact hc i (by rw [marks_len] at hi; exact hi)
end Go.Proofs.YtcbgapncmjjmeaaDoor
