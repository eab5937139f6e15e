/-
  Lists of strings in memory of the call's own.
-/
import Derived.Test.YtnmpaibocmnabaaStr
import Derived.Test.YtnmpaibocmnabaaFreeP
import Derived.Deep.AppendLies
namespace Go.Proofs.Ytnmpaibocmnabaa
open Go.RowKit
set_option linter.unusedVariables false
set_option linter.unusedSimpArgs false

/-- Strings in memory of the call's own, from block 'base' on. -/
abbrev OwnS (base : Nat) (w : World) (v : Value) (xs : List ByteArray) : Prop := w.ownsRow base 9 1 v xs.length (xs.map Value.string)
theorem OwnS.read {base : Nat} {w : World} {v : Value} {xs : List ByteArray} (h : OwnS base w v xs) (hs : ∀ x ∈ xs, x.size ≤ 9223372036854775807) : ∃ a cap, v = .slice a xs.length cap ∧ Rss w xs a xs.length cap := by
  rcases h.2 with ⟨rfl, hn⟩ | ⟨g, cap, cur, rfl, hb, hg, hle, hm, hsz, htk⟩
  · have : xs = [] := List.length_eq_zero_iff.1 hn
    subst this
    exact ⟨none, 0, rfl, rfl, Nat.le_refl _, by simp, by simp, .inl rfl⟩
  · refine ⟨some ⟨g, 0, none⟩, cap, rfl, rfl, hle, hm, hs, ?_⟩
    by_cases hx : xs = []
    · exact .inl hx
    · refine .inr ⟨hx, g, 0, rfl, fun i hi => ?_⟩
      have := h.cells (g := g) rfl i (.string xs[i]) (by simp [hi])
      simpa [Addr.add_lit] using this
/-- An empty slice that is not nil. -/
theorem OwnS.none_ (w : World) (base : Nat) (hb : base ≤ w.heap.size) : OwnS base (w.alloc (.cells #[] 9)) (.slice (some ⟨w.heap.size, 0, none⟩) 0 0) [] :=
  World.ownsRow_made w #[] 0 hb (by simp) (by simp)
theorem OwnS.below {base : Nat} {w w' : World} {v : Value} {xs : List ByteArray} (h : OwnS base w v xs) (hb : Below w.heap.size w w') : OwnS base w' v xs := by
  refine ⟨h.1, ?_⟩
  rcases h.2 with hn | ⟨g, cap, cur, rfl, hg, hh, r⟩
  · exact .inl hn
  · exact .inr ⟨g, cap, cur, rfl, hg, (hb.block g (Array.getElem?_eq_some_iff.1 hh).1).trans hh, r⟩
theorem OwnS.free {base : Nat} {w : World} {v : Value} {xs : List ByteArray} (h : OwnS base w v xs) {a : Option Addr} {n cap : Nat} (hv : v = .slice a n cap) : ∀ p, a = some p → ∃ g cur, p = ⟨g, 0, none⟩ ∧ base ≤ g ∧ Blk w g 9 cur ∧ xs.length ≤ cur.size := by
  intro p hp
  subst hp
  rcases h.2 with ⟨rfl, _⟩ | ⟨g, cap', cur, rfl, hb, hg, hle, hm, hsz, htk⟩
  · cases hv
  · injection hv with h1 h2 h3
    injection h1 with h1
    exact ⟨g, cur, h1.symm, hb, hg, by omega⟩
theorem one_new (w : World) (x : Value) (T : TypeId) : ∀ j u, [x][j]? = some u → (w.alloc (.cells #[x] T)).cell? ((⟨w.heap.size, 0, none⟩ : Addr).add j) = some u :=
  World.news_of_block (cs := #[x]) (t := T) (fr := (0, 0)) (heap_alloc_new w _)
theorem one_cell (x : ByteArray) : ∀ u ∈ [Value.string x], u.oneCell' = true := by
  intro u hu
  simp at hu
  subst hu
  rfl
theorem own_step {base : Nat} {w1 : World} {v : Value} {xs ys : List ByteArray} {x : ByteArray} {q : Nat} {cs : List Value} (hq : q = xs.length) (hc : cs = xs.map Value.string)
    (h : w1.ownsRow base 9 1 v (q + 1) (cs ++ [.string x])) (hy : ys = xs ++ [x]) : OwnS base w1 v ys := by
  subst hq hc hy
  simpa [OwnS] using h
/-- What a call gives that makes a list of strings. -/
def GivesS (w : World) (xs : List ByteArray) (e : Ending) (w' : World) : Prop := ∃ v, e = .returned v ∧ OwnS w.heap.size w' v xs ∧ Below w.heap.size w w'

theorem Try.infoStr : (Try.prog.info? 9).map (fun i => (i.zero, i.size, i.bytes)) = some (some (.string ⟨#[]⟩), 1, 16) := by kernel_rfl

end Go.Proofs.Ytnmpaibocmnabaa
