/-
  A list of one's own is marked, and what else is kept.
-/
import Derived.Test.YtnmpaibocmnabaaMarkT
namespace Go.Proofs.Ytnmpaibocmnabaa
open Go.RowKit
set_option linter.unusedVariables false
set_option linter.unusedSimpArgs false

theorem Rss.wrote {w w' : World} {xs : List ByteArray} {a : Option Addr} {n cap : Nat} {fp : List Nat} (h : Rss w xs a n cap) (hw : Wrote fp w w') (hne : ∀ p, a = some p → p.block ∉ fp) : Rss w' xs a n cap := by
  obtain ⟨h1, h2, h3, hs, h4⟩ := h
  refine ⟨h1, h2, h3, hs, ?_⟩
  rcases h4 with h4 | ⟨hne', b, off, rfl, hc⟩
  · exact .inl h4
  · exact .inr ⟨hne', b, off, rfl, fun i hi => (hw.same (World.block_lt_of_cell? _ _ (hc i hi)) (hne ⟨b, off, none⟩ rfl) _).trans (hc i hi)⟩
theorem OwnS.at_ {base : Nat} {w : World} {xs ys : List ByteArray} {a : Option Addr} {cap : Nat} (h : OwnS base w (.slice a ys.length cap) xs) : ∀ p, a = some p → base ≤ p.block ∧ p.block < w.heap.size := by
  intro p hp
  exact h.lt p.block (by subst hp; rfl)
theorem size_of_rss {w : World} {g T : Nat} {cs : Array Value} {xs : List ByteArray} {n cap : Nat} (hB : Blk w g T cs) (h : Rss w xs (some ⟨g, 0, none⟩) n cap) : xs.length ≤ cs.size := by
  by_cases h0 : xs.length = 0
  · omega
  · obtain ⟨b, off, hp, -, hc⟩ := h.get (xs.length - 1) (by omega)
    injection hp with hp
    injection hp with e1 e2
    subst e1 e2
    rw [hB.cell] at hc
    have := (Array.getElem?_eq_some_iff.1 hc).1
    omega
theorem OwnS.wrote {base : Nat} {w w' : World} {v : Value} {xs : List ByteArray} {fp : List Nat} (h : OwnS base w v xs) (hw : Wrote fp w w') (hne : ∀ g, v.ownBlock = some g → g ∉ fp) : OwnS base w' v xs := by
  refine ⟨h.1, ?_⟩
  rcases h.2 with hn | ⟨g, cap, cur, rfl, hg, hh, r⟩
  · exact .inl hn
  · exact .inr ⟨g, cap, cur, rfl, hg, (hw.block g (Array.getElem?_eq_some_iff.1 hh).1 (hne g rfl)).trans hh, r⟩
theorem Wrote.sub {fp : List Nat} {w w' : World} {B : Nat} (h : Wrote fp w w') (hB : B ≤ w.heap.size) (hfp : ∀ b ∈ fp, B ≤ b) : Below B w w' := h.below hB hfp

end Go.Proofs.Ytnmpaibocmnabaa
