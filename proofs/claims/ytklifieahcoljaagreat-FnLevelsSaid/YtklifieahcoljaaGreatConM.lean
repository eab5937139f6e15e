/-
  Contexts of a draw: their reading in blocks of one's own; l9Last, l9With.
-/
import Derived.Test.YtklifieahcoljaaGreatPickM
import Derived.Test.YtklifieahcoljaaGreatRec
namespace Go.Proofs.YtklifieahcoljaaGreat
open Go.RowKit
set_option maxRecDepth 100000
set_option linter.unusedVariables false
set_option linter.unusedSimpArgs false

/-- The cells of a context's row, four a typing; its types lie from 'base' on. -/
def RCC (base : Nat) (w : World) : List (Rc Int) → List Value → Prop
  | [], cs => cs = []
  | r :: rs, cs => ∃ a n c rest, cs = Value.string r.name :: .int .i64 r.type.kind :: .slice a n c :: .int .i64 r.last :: rest ∧ TyA base w r.type a n c ∧ (r.name.size ≤ 100 ∧ i64 r.last) ∧ RCC base w rs rest
theorem RCC_keep {base : Nat} {w w' : World} : ∀ {xs : List (Rc Int)} {cs : List Value}, RCC base w xs cs → Fresh base w w' → RCC base w' xs cs
  | [], _, h, _ => h
  | r :: rs, _, h, hk => by
    obtain ⟨a, n, c, rest, rfl, hT, hr, h2⟩ := h
    exact ⟨a, n, c, rest, rfl, hT.keep hk, hr, RCC_keep h2 hk⟩
theorem RCC_base {base base' : Nat} {w : World} (hb : base' ≤ base) : ∀ {xs : List (Rc Int)} {cs : List Value}, RCC base w xs cs → RCC base' w xs cs
  | [], _, h => h
  | r :: rs, _, h => by
    obtain ⟨a, n, c, rest, rfl, hT, hr, h2⟩ := h
    exact ⟨a, n, c, rest, rfl, hT.base hb, hr, RCC_base hb h2⟩
theorem RCC_len {base : Nat} {w : World} : ∀ {xs : List (Rc Int)} {cs : List Value}, RCC base w xs cs → cs.length = xs.length * 4
  | [], _, h => by
    have : _ = ([] : List Value) := h
    rw [this]
    rfl
  | r :: rs, _, h => by
    obtain ⟨a, n, c, rest, rfl, hT, hr, h2⟩ := h
    have := RCC_len h2
    simp only [List.length_cons]
    omega
theorem RCC_snoc {base : Nat} {w : World} {r : Rc Int} {a : Option Addr} {n c : Nat} (hT : TyA base w r.type a n c) (hr : r.name.size ≤ 100 ∧ i64 r.last) : ∀ {xs : List (Rc Int)} {cs : List Value}, RCC base w xs cs →
    RCC base w (xs ++ [r]) (cs ++ [Value.string r.name, .int .i64 r.type.kind, .slice a n c, .int .i64 r.last])
  | [], _, h => by
    have : _ = ([] : List Value) := h
    rw [this]
    exact ⟨a, n, c, [], rfl, hT, hr, rfl⟩
  | x :: xs, _, h => by
    obtain ⟨a', n', c', rest, rfl, hT', hr', h2⟩ := h
    exact ⟨a', n', c', rest ++ _, rfl, hT', hr', RCC_snoc hT hr h2⟩
theorem RCC_get {base : Nat} {w : World} : ∀ {xs : List (Rc Int)} {cs : List Value}, RCC base w xs cs → ∀ (i : Nat) (hi : i < xs.length), ∃ a n c, cs[i * 4]? = some (.string xs[i].name) ∧ cs[i * 4 + 1]? = some (.int .i64 xs[i].type.kind) ∧ cs[i * 4 + 2]? = some (.slice a n c) ∧
    cs[i * 4 + 3]? = some (.int .i64 xs[i].last) ∧ TyA base w xs[i].type a n c ∧ xs[i].name.size ≤ 100 ∧ i64 xs[i].last
  | [], _, h, i, hi => by simp at hi
  | r :: rs, _, h, 0, hi => by
    obtain ⟨a, n, c, rest, rfl, hT, hr, h2⟩ := h
    exact ⟨a, n, c, rfl, rfl, rfl, rfl, hT, hr⟩
  | r :: rs, _, h, i + 1, hi => by
    obtain ⟨a, n, c, rest, rfl, hT, hr, h2⟩ := h
    obtain ⟨a', n', c', e0, e1, e2, e3, hT', hr'⟩ := RCC_get h2 i (by simpa using hi)
    refine ⟨a', n', c', ?_, ?_, ?_, ?_, hT', hr'⟩
    · rw [show (i + 1) * 4 = i * 4 + 1 + 1 + 1 + 1 by omega]; exact e0
    · rw [show (i + 1) * 4 + 1 = i * 4 + 1 + 1 + 1 + 1 + 1 by omega]; exact e1
    · rw [show (i + 1) * 4 + 2 = i * 4 + 2 + 1 + 1 + 1 + 1 by omega]; exact e2
    · rw [show (i + 1) * 4 + 3 = i * 4 + 3 + 1 + 1 + 1 + 1 by omega]; exact e3
/-- A slice that reads as a context; it lies from 'base' on. -/
def CtxR (base : Nat) (w : World) (xs : List (Rc Int)) (a : Option Addr) (n cap : Nat) : Prop := n = xs.length ∧ n ≤ cap ∧ cap ≤ maxLen ∧ ∃ cs, RCC base w xs cs ∧
  (n = 0 ∨ n ≠ 0 ∧ ∃ b off, a = some ⟨b, off, none⟩ ∧ base ≤ b ∧ b < w.heap.size ∧ ∀ j u, cs[j]? = some u → w.cell? ⟨b, off + j, none⟩ = some u)
theorem CtxR.keep {base : Nat} {w w' : World} {xs : List (Rc Int)} {a : Option Addr} {n cap : Nat} (h : CtxR base w xs a n cap) (hk : Fresh base w w') : CtxR base w' xs a n cap := by
  obtain ⟨h1, h2, h3, cs, hc, h4⟩ := h
  refine ⟨h1, h2, h3, cs, RCC_keep hc hk, ?_⟩
  rcases h4 with h4 | ⟨hn, b, off, ha, hb, hl, he⟩
  · exact .inl h4
  · exact .inr ⟨hn, b, off, ha, hb, Nat.lt_of_lt_of_le hl hk.1, fun j u hj => (SameB.of_heap (hk.2 b hb hl) _).trans (he j u hj)⟩
theorem CtxR.base {base base' : Nat} {w : World} {xs : List (Rc Int)} {a : Option Addr} {n cap : Nat} (h : CtxR base w xs a n cap) (hb : base' ≤ base) : CtxR base' w xs a n cap := by
  obtain ⟨h1, h2, h3, cs, hc, h4⟩ := h
  refine ⟨h1, h2, h3, cs, RCC_base hb hc, ?_⟩
  rcases h4 with h4 | ⟨hn, b, off, ha, hb', r⟩
  · exact .inl h4
  · exact .inr ⟨hn, b, off, ha, Nat.le_trans hb hb', r⟩
theorem CtxR.get {base : Nat} {w : World} {xs : List (Rc Int)} {a : Option Addr} {n cap : Nat} (h : CtxR base w xs a n cap) (i : Nat) (hi : i < xs.length) :
    ∃ b off a' n' c', a = some ⟨b, off, none⟩ ∧ base ≤ b ∧ b < w.heap.size ∧ w.cell? ⟨b, off + i * 4, none⟩ = some (.string xs[i].name) ∧ w.cell? ⟨b, off + i * 4 + 1, none⟩ = some (.int .i64 xs[i].type.kind) ∧ w.cell? ⟨b, off + i * 4 + 2, none⟩ = some (.slice a' n' c') ∧
      w.cell? ⟨b, off + i * 4 + 3, none⟩ = some (.int .i64 xs[i].last) ∧ TyA base w xs[i].type a' n' c' ∧ xs[i].name.size ≤ 100 ∧ i64 xs[i].last := by
  obtain ⟨h1, h2, h3, cs, hc, h4⟩ := h
  rcases h4 with h4 | ⟨hn, b, off, ha, hb, hl, he⟩
  · omega
  · obtain ⟨a', n', c', e0, e1, e2, e3, hr⟩ := RCC_get hc i hi
    exact ⟨b, off, a', n', c', ha, hb, hl, he _ _ e0, by have := he _ _ e1; rwa [show off + i * 4 + 1 = off + (i * 4 + 1) by omega], by have := he _ _ e2; rwa [show off + i * 4 + 2 = off + (i * 4 + 2) by omega], by have := he _ _ e3; rwa [show off + i * 4 + 3 = off + (i * 4 + 3) by omega], hr⟩
/-- A row of one's own as a context. -/
theorem CtxR.of_row {base : Nat} {w : World} {xs : List (Rc Int)} {v : Value} {n : Nat} {cs : List Value} (h : w.ownsRow base 88 4 v n cs) (hn : n = xs.length) (hc : RCC base w xs cs) : ∃ a cap, v = .slice a n cap ∧ CtxR base w xs a n cap := by
  rcases h.2 with ⟨rfl, h0⟩ | ⟨g, cap, cur, rfl, hb, hg, hle, hm, hsz, htk⟩
  · subst h0
    exact ⟨none, 0, rfl, hn, Nat.le_refl _, by simp, cs, hc, .inl rfl⟩
  · refine ⟨some ⟨g, 0, none⟩, cap, rfl, hn, hle, hm, cs, hc, ?_⟩
    by_cases h0 : n = 0
    · exact .inl h0
    · refine .inr ⟨h0, g, 0, rfl, hb, (Array.getElem?_eq_some_iff.1 hg).1, fun j u hj => ?_⟩
      have := h.cells (g := g) rfl j u hj
      simpa [Addr.add_lit] using this
theorem CtxR.nil (base : Nat) (w : World) (a : Option Addr) : CtxR base w [] a 0 0 := ⟨rfl, Nat.le_refl _, by simp, [], rfl, .inl rfl⟩

set_option maxHeartbeats 800000 in
theorem l9Last_any (base : Nat) (xs : List (Rc Int)) (a : Option Addr) (n cap : Nat) (s : ByteArray) (w : World) (h : CtxR base w xs a n cap) (hn : n ≤ 1000) :
    Calls Tryz.prog 95 #[.slice a n cap, .string s] w fun e w' => ∃ r : Int, e = .returned (.int .i64 r) ∧ -1 ≤ r ∧ r < 1000 ∧ w = w' := by
  have hx := hide h.1
  go_enter Tryz.func95, Tryz.ntmps95
  go_wp2_with fail
  go_loopw [5] (fun i wr => ∃ k : Nat, k ≤ n ∧ i = .int .i64 ((k : Int) - 1) ∧ w = wr) (fun i _ => (intOf i + 1).toNat)
  case atStart => exact ⟨n, Nat.le_refl _, rfl, rfl⟩
  case round =>
    obtain ⟨k, hk, rfl, rfl⟩ := hrel
    by_cases hk0 : 0 < k
    · obtain ⟨j, rfl⟩ : ∃ j, k = j + 1 := ⟨k - 1, by omega⟩
      have hjx : j < xs.length := by have := hx.out; omega
      obtain ⟨b, off, a', n', c', rfl, -, hlt, e0, -⟩ := h.get j hjx
      rw [show ((j + 1 : Nat) : Int) - 1 = (j : Int) by omega]
      have hd : decide ((j : Int) ≥ 0) = true := by simp
      cases hq : (xs[j].name.toList == s.toList) with
      | true =>
        go_wp2_with fail
        go_ret
        exact ⟨_, rfl, by omega, by omega, rfl⟩
      | false =>
        go_wp2_with fail
        go_roundw
        case rel => exact ⟨j, by omega, by go_num, by trivial⟩
        case measure => simp [intOf]
    · obtain rfl : k = 0 := by omega
      go_wp2_with fail
      go_ret
      exact ⟨-1, rfl, by omega, by omega, rfl⟩
theorem Tryz.infoTyping : (Tryz.prog.info? 88).map (fun i => (i.zero, i.size, i.bytes)) = some (some (.agg #[.string ⟨#[]⟩, .int .i64 0, .slice none 0 0, .int .i64 0]), 4, 56) := by kernel_rfl
theorem Fresh.grown {base : Nat} {w w' : World} {row : Option Nat} (h : w.grownBy w' row) (hr : ∀ g, row = some g → g < base ∨ w.heap.size ≤ g) : Fresh base w w' :=
  ⟨h.size, fun b hb hl => h.block b hl fun e => by have := hr b e.symm; omega⟩
theorem RCC_one {base : Nat} {w : World} : ∀ {xs : List (Rc Int)} {cs : List Value}, RCC base w xs cs → ∀ u ∈ cs, u.oneCell' = true
  | [], _, h, u, hu => by
    have : _ = ([] : List Value) := h
    rw [this] at hu
    cases hu
  | r :: rs, _, h, u, hu => by
    obtain ⟨a, n, c, rest, rfl, hT, hr, h2⟩ := h
    simp only [List.mem_cons] at hu
    rcases hu with rfl | rfl | rfl | rfl | hu
    · rfl
    · rfl
    · rfl
    · rfl
    · exact RCC_one h2 u hu
theorem ownsRow_base {w : World} {base base' T size n : Nat} {v : Value} {cs : List Value} (h : w.ownsRow base T size v n cs) (hb : base' ≤ base) : w.ownsRow base' T size v n cs := by
  refine ⟨h.1, ?_⟩
  rcases h.2 with hn | ⟨g, cap, cur, hv, hg, r⟩
  · exact .inl hn
  · exact .inr ⟨g, cap, cur, hv, Nat.le_trans hb hg, r⟩
set_option maxHeartbeats 3200000 in
theorem l9With_any (base : Nat) (xs : List (Rc Int)) (a : Option Addr) (n cap : Nat) (s : ByteArray) (u : Ty) (ua : Option Addr) (un uc : Nat) (m : Int) (w : World) (h : CtxR base w xs a n cap) (hn : n ≤ 1000) (hs : s.size ≤ 100) (hm : i64 m) (hu : TyA base w u ua un uc) (hb : base ≤ w.heap.size) :
    Calls Tryz.prog 74 #[.slice a n cap, .string s, .agg #[.int .i64 u.kind, .slice ua un uc], .int .i64 m] w fun e w' => ∃ a' cap', e = .returned (.slice a' (n + 1) cap') ∧ CtxR base w' (xs ++ [⟨s, u, m⟩]) a' (n + 1) cap' ∧ Below w.heap.size w w' := by
  obtain ⟨i0, hi, hz0, hz1, hz2⟩ := info_parts Tryz.infoTyping
  have F1 := Fresh.of_below (base := base) (below_next (below_new w (.cells #[.int .i64 u.kind, .slice ua un uc] 26)) (below_new (w.alloc (.cells #[.int .i64 u.kind, .slice ua un uc] 26)) (.cells #[] 88)))
  have b1 := below_next (below_new w (.cells #[.int .i64 u.kind, .slice ua un uc] 26)) (below_new (w.alloc (.cells #[.int .i64 u.kind, .slice ua un uc] 26)) (.cells #[] 88))
  have U1 := (Blk.new w 26 #[.int .i64 u.kind, .slice ua un uc]).alloc (.cells #[] 88)
  have hO1 : ((w.alloc (.cells #[.int .i64 u.kind, .slice ua un uc] 26)).alloc (.cells #[] 88)).ownsRow (w.heap.size + 1) 88 4 (.slice (some ⟨w.heap.size + 1, 0, none⟩) 0 0) 0 [] := by
    have h0 : ((w.alloc (.cells #[.int .i64 u.kind, .slice ua un uc] 26)).alloc (.cells #[] 88)).ownsRow (w.heap.size + 1) 88 4 (.slice (some ⟨(w.alloc (.cells #[.int .i64 u.kind, .slice ua un uc] 26)).heap.size, 0, none⟩) 0 0) 0 [] :=
      World.ownsRow_made _ #[] 0 (by simp) (by simp) (by simp)
    simpa using h0
  have h1 := h.keep F1
  have hu1 := hu.keep F1
  have s1 := b1.size
  have s1' : ((w.alloc (.cells #[.int .i64 u.kind, .slice ua un uc] 26)).alloc (.cells #[] 88)).heap.size = w.heap.size + 1 + 1 := by simp
  go_enter Tryz.func74, Tryz.ntmps74
  go_upto_region 1 with fail
  go_cut [9] (fun s wx => ∃ cs, wx.ownsRow (w.heap.size + 1) 88 4 s n cs ∧ RCC base w xs cs ∧ Blk wx w.heap.size 26 #[.int .i64 u.kind, .slice ua un uc] ∧ Below w.heap.size w wx)
  case first =>
    by_cases h0 : n = 0
    · subst h0
      have hp : ∀ W : World, Sem.run Tryz.prog (pure #[] : Sem (Array Value)) W = .ok #[] W := fun W => rfl
      have hst : ∀ (ad : Addr) (W : World), Sem.run Tryz.prog (storeCells ad []) W = .ok () W := fun ad W => rfl
      obtain ⟨e1, e2, e3, cs, hc, h4⟩ := h1
      have hxs : xs = [] := List.length_eq_zero_iff.1 e1.symm
      subst hxs
      clear e1 e2 e3 hc h4 h
      cases a with
      | none =>
        go_wp2_with fail
        go_meet
        exact ⟨[], hO1, rfl, U1, b1⟩
      | some ad =>
        go_wp2_with fail
        go_meet
        exact ⟨[], hO1, rfl, U1, b1⟩
    · obtain ⟨e1, e2, e3, cs, hc, h4⟩ := h
      rcases h4 with h4 | ⟨-, b, off, rfl, hb', hl', he⟩
      · exact absurd h4 h0
      have he1 : ∀ j u', cs[j]? = some u' → ((w.alloc (.cells #[.int .i64 u.kind, .slice ua un uc] 26)).alloc (.cells #[] 88)).cell? ⟨b, off + j, none⟩ = some u' := fun j u' hj => (SameB.of_heap (F1.2 b hb' hl') _).trans (he j u' hj)
      have hcl := RCC_len hc
      rw [← e1] at hcl
      clear e1
      go_wp2_with (at_builtin; refine wpList_append_lies _ rfl _ _ 61 rfl (w.heap.size + 1) 88 i0 (.agg #[.string ⟨#[]⟩, .int .i64 0, .slice none 0 0, .int .i64 0]) 4 56 Tryz.underlying61 hi hz0 hz1 hz2 rfl (by decide) _ _ _ rfl hO1 ⟨b, off, none⟩ n cap cs rfl ?c1 ?c2 ?c3 ?c4 ?c5 ?c6 ?c7 _ rfl ?_)
      case c1 => exact hcl
      case c2 => exact fun j u hj => by have := he1 j u hj; simpa [Addr.add_lit] using this
      case c3 => exact RCC_one hc
      case c4 => omega
      case c5 => unfold maxLen; omega
      case c6 => omega
      case c7 => omega
      intro g cap' w2 hown hgrow hat hlt
      have hk : ∀ x, x < w.heap.size + 1 → w2.heap[x]? = ((w.alloc (.cells #[.int .i64 u.kind, .slice ua un uc] 26)).alloc (.cells #[] 88)).heap[x]? := fun x hx => hgrow.block x (by simp; omega) (fun e => by
        have e' : x = w.heap.size + 1 := by simpa [Value.ownBlock] using e
        omega)
      have b2 : Below w.heap.size w w2 := b1.grown hgrow (by omega) fun k hk => by
        have e' : k = w.heap.size + 1 := by simpa [Value.ownBlock] using hk.symm
        omega
      go_wp2_with fail
      go_meet
      exact ⟨cs, by simpa using hown, hc, (hk w.heap.size (by omega)).trans U1, b2⟩
  case rest =>
  clear hO1 h1 hu1 U1 b1 F1
  obtain ⟨cs, hO, hc, hU, hb2⟩ := hcut
  obtain ⟨y0, y1⟩ := hU.two
  have hsz := hb2.size
  have hlU := hU.lt
  have hxl := hide h.1
  clear h
  go_wp2_with (at_builtin; refine wpList_append_lies _ rfl _ _ 61 rfl (w.heap.size + 1) 88 i0 (.agg #[.string ⟨#[]⟩, .int .i64 0, .slice none 0 0, .int .i64 0]) 4 56 Tryz.underlying61 hi hz0 hz1 hz2 rfl (by decide) _ n cs rfl (hO.alloc _) ⟨wc.heap.size, 0, none⟩ 1 1 [.string s, .int .i64 u.kind, .slice ua un uc, .int .i64 m] rfl rfl (World.news_of_block (cs := #[.string s, .int .i64 u.kind, .slice ua un uc, .int .i64 m]) (t := 88) (fr := (0, 0)) (heap_alloc_new wc _)) ?c3 (by decide) ?c5 ?c6 ?c7 _ rfl ?_)
  case c3 => intro x hx; simp at hx; rcases hx with rfl | rfl | rfl | rfl <;> rfl
  case c5 => unfold maxLen; omega
  case c6 => omega
  case c7 => simp; omega
  intro g cap' w2 hown hgrow hat hlt
  go_wp2_with fail
  go_ret
  have hb3 : Below w.heap.size w w2 := (hb2.alloc hsz _).grown hgrow (by simp; omega) fun k hk => by have := (hO.lt k hk).1; omega
  have hk3 := Fresh.of_below (base := base) hb3
  obtain ⟨a', c', hv, hR⟩ := CtxR.of_row (ownsRow_base hown (show base ≤ w.heap.size + 1 by omega)) (show n + 1 = (xs ++ [(⟨s, u, m⟩ : Rc Int)]).length by rw [List.length_append, ← hxl.out]; rfl) (RCC_snoc (r := ⟨s, u, m⟩) (hu.keep hk3) ⟨hs, hm⟩ (RCC_keep hc hk3))
  exact ⟨a', c', congrArg Ending.returned hv, hR, hb3⟩
end Go.Proofs.YtklifieahcoljaaGreat
