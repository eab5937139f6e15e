/-
  The walks of EraseCtx in both texts: a list of typings in memory of its own.
-/
import Derived.Test.YtnmpaibocmnabaaRecTo
import Derived.Test.YtnmpaibocmnabaaRecSz
import Derived.Test.YtnmpaibocmnabaaEraseI
import Derived.Deep.RegionWith
namespace Go.Proofs.Ytnmpaibocmnabaa
open Go.RowKit
set_option maxRecDepth 100000
set_option linter.unusedVariables false
set_option linter.unusedSimpArgs false

/-- A typing erased. -/
def Rc.erase (r : Rc Int) : Rc Int := ⟨r.name, r.type.erase, 0⟩
def erases (xs : List (Rc Int)) : List (Rc Int) := xs.map Rc.erase
theorem erases_len (xs : List (Rc Int)) : (erases xs).length = xs.length := List.length_map ..
theorem erases_get (xs : List (Rc Int)) (i : Nat) (h : i < (erases xs).length) (h' : i < xs.length) : (erases xs)[i] = xs[i].erase := by simp [erases]

/-- What EraseCtx gives: records in memory of the call's own. -/
def GivesR (w : World) (ys : List (Rc Int)) (e : Ending) (w' : World) : Prop :=
  ∃ g cap F, e = .returned (.slice (some ⟨g, 0, none⟩) ys.length cap) ∧ OwnR 68 w.heap.size w' ys g F ∧ ys.length ≤ cap ∧ cap ≤ maxLen ∧ Below w.heap.size w w'

theorem Try.infoTyping2 : (Try.prog.info? 68).map (fun i => (i.zero, i.size, i.bytes)) = some (some (.agg #[.string ⟨#[]⟩, .int .i64 0, .slice none 0 0, .int .i64 0]), 4, 56) := by kernel_rfl

/-- What has been laid behind some rounds: a row of one's own, not nil, that reads as the first k records of ys. -/
def LaidR (base : Nat) (ys : List (Rc Int)) (k : Nat) (v : Value) (w : World) : Prop :=
  ∃ cs F, w.ownsRow base 68 4 v k cs ∧ RecsF (fun o => cs[o]?) w ys k base F ∧ (∃ g, v.ownBlock = some g ∧ ∀ i, i < k → g ∉ F i)
theorem LaidR.step {base k g : Nat} {ys : List (Rc Int)} {v v' : Value} {wr w1 w2 : World} {cs : List Value} {F : Nat → List Nat} {o : Obj} {xa : Option Addr} {xn xc : Nat} {f : List Nat} (hk : k < ys.length) (hbs : base ≤ wr.heap.size)
    (hown : wr.ownsRow base 68 4 v k cs) (hR : RecsF (fun o => cs[o]?) wr ys k base F) (hgF : ∀ g, v.ownBlock = some g → ∀ i, i < k → g ∉ F i)
    (b1 : Below wr.heap.size wr w1) (hT : RTa w1 ys[k].type.args xa xn xc f) (hnd : f.Nodup) (hF : Own wr.heap.size w1 f) (hfl : ∀ b ∈ f, b < w1.heap.size)
    (hown2 : w2.ownsRow base 68 4 v' (k + 1) (cs ++ [.string ys[k].name, .int .i64 ys[k].type.kind, .slice xa xn xc, .int .i64 ys[k].last])) (hgrow : (w1.alloc o).grownBy w2 v.ownBlock)
    (hv' : v'.ownBlock = some g) (hat : v.ownBlock = some g ∨ g = (w1.alloc o).heap.size) : LaidR base ys (k + 1) v' w2 := by
  have hvl := hown.lt
  have hcl : cs.length = k * 4 := by
    have := hown.1
    omega
  have s1 := b1.size
  have s2 := hgrow.size
  simp at s2
  have blk1 : ∀ i, i < k → ∀ x ∈ F i, w2.heap[x]? = wr.heap[x]? := fun i hi x hx => by
    have h3 := (hR.own i hi).2.2 x hx
    rw [hgrow.block x (by simp; omega) (fun e => hgF x e.symm i hi hx), Below.heap_alloc _ _ _ (by omega), b1.block x h3.2]
  have blk2 : ∀ x ∈ f, w2.heap[x]? = w1.heap[x]? := fun x hx => by
    have h1 := hfl x hx
    have h2 := hF.1 x hx
    rw [hgrow.block x (by simp; omega) (fun e => by have := (hvl x e.symm).2; omega), Below.heap_alloc _ _ _ h1]
  have get : ∀ j u, [Value.string ys[k].name, .int .i64 ys[k].type.kind, .slice xa xn xc, .int .i64 ys[k].last][j]? = some u → (cs ++ [Value.string ys[k].name, .int .i64 ys[k].type.kind, .slice xa xn xc, .int .i64 ys[k].last])[k * 4 + j]? = some u := fun j u hu => by
    rw [List.getElem?_append_right (by omega), hcl, Nat.add_sub_cancel_left]
    exact hu
  refine ⟨_, _, hown2, hR.step (ta := xa) (tn := xn) (tc := xc) (f := f) hk (fun o ho => ?_) (get 0 _ rfl) (get 1 _ rfl) (get 2 _ rfl) (get 3 _ rfl) (hT.keep fun b hb => SameB.of_heap (blk2 b hb)) hnd (free_heap hF.2 blk2) (fun b hb => ⟨hF.1 b hb, by have := hfl b hb; omega⟩) hbs blk1 (by omega), g, hv', fun i hi hin => ?_⟩
  · exact List.getElem?_append_left (by omega)
  · by_cases e : i = k
    · subst e
      rw [if_pos rfl] at hin
      rcases hat with h | h
      · have := (hvl g h).2
        have := hF.1 g hin
        omega
      · have := hfl g hin
        simp at h
        omega
    · rw [if_neg e] at hin
      rcases hat with h | h
      · exact hgF g h i (by omega) hin
      · have := ((hR.own i (by omega)).2.2 g hin).2
        simp at h
        omega
theorem LaidR.gives {base : Nat} {ys : List (Rc Int)} {v : Value} {w : World} (h : LaidR base ys ys.length v w) : ∃ g cap F, v = .slice (some ⟨g, 0, none⟩) ys.length cap ∧ OwnR 68 base w ys g F ∧ ys.length ≤ cap ∧ cap ≤ maxLen := by
  obtain ⟨cs, F, hown, hR, g, hg, hne⟩ := h
  have hlt := hown.lt
  have hcs := hown.1
  rcases hown.2 with ⟨rfl, hn⟩ | ⟨g', cap, cur, rfl, hge, hh, hle, hm, hsz, htk⟩
  · simp [Value.ownBlock] at hg
  · have : g' = g := by simpa [Value.ownBlock] using hg
    subst this
    have hB : Blk w g' 68 cur := hh
    refine ⟨g', cap, F, rfl, ⟨hge, ⟨cur, hB, by omega⟩, hR.keep (fun o ho => ?_) (fun i hi b hb => rfl) (Nat.le_refl _), hne⟩, hle, hm⟩
    have hoc : o < cs.length := by omega
    have := hown.cells (g := g') rfl o cs[o] (List.getElem?_eq_getElem hoc)
    rw [List.getElem?_eq_getElem hoc]
    simpa [Addr.add_lit] using this

theorem LaidR.nil (w : World) (ys : List (Rc Int)) : LaidR w.heap.size ys 0 (.slice (some ⟨w.heap.size, 0, none⟩) 0 0) (w.alloc (.cells #[] 68)) :=
  ⟨[], fun _ => [], World.ownsRow_made w #[] 0 (Nat.le_refl _) (by simp) (by simp), RecsF.nil _ _ _ _ _, w.heap.size, rfl, fun i h => absurd h (Nat.not_lt_zero _)⟩


set_option maxHeartbeats 3200000 in
theorem specEraseCtx_any (xs : List (Rc Int)) (a : Option Addr) (n cap : Nat) (w : World) (h : Rcs w xs a n cap) (hw : Rcs.wt xs ≤ 1048576) :
    Calls Try.prog 17 #[.slice a n cap] w (GivesR w (erases xs)) := by
  have hn : n ≤ 1048576 := by have := h.1; unfold Rcs.wt at hw; omega
  have hx := hide h.1
  have HW := hide (show ∀ k (hk : k < xs.length), Ty.sizes xs[k].type.args ≤ 1048576 from fun k hk => by
    have h1 := Rcs.sum_take xs k hk
    have h2 := Rcs.sum_le xs (k + 1)
    unfold Rcs.wt at hw
    unfold Rc.wt at h1 h2 hw
    omega)
  clear hw
  obtain ⟨i0, hi, hz0, hz1, hz2⟩ := info_parts Try.infoTyping2
  go_enter Try.func17, Try.ntmps17
  go_wp2_with fail
  go_loopw [3, 4] (fun v i wr => ∃ j : Nat, j ≤ n ∧ i = .int .i64 j ∧ (∃ z : Value, z = v ∧ LaidR w.heap.size (erases xs) j z wr) ∧ Below w.heap.size w wr) (fun _ i _ => n - (intOf i).toNat)
  case atStart => exact ⟨0, by omega, rfl, ⟨_, rfl, LaidR.nil w _⟩, below_new _ _⟩
  case round =>
    obtain ⟨j, hj, rfl, ⟨v, rfl, hL⟩, hb⟩ := hrel
    have hsz := hb.size
    by_cases hjn : j < n
    · have hjx : j < xs.length := by rw [← hx.out]; exact hjn
      obtain ⟨b, off, rfl, hlt, -, -, ta, tn, tc, e0, e1, e2, e3, hd⟩ := (h.below hb).get j hjx
      simp only [Last.val] at e3
      obtain ⟨cs, F, hown, hRC, g0, hg0, hgF⟩ := hL
      have HR := hide hRC
      have HG := hide (show ∀ g, v.ownBlock = some g → ∀ i, i < j → g ∉ F i from fun g hg i hi => by
        rw [hg0] at hg
        obtain rfl := Option.some.inj hg
        exact hgF i hi)
      have HE := hide (show (erases xs)[j]'(by rw [erases_len]; exact hjx) = xs[j].erase from erases_get xs j _ hjx)
      have hsz1 := HW.out j hjx
      have F0 := hide (fun (w1 : World) (b1 : Below wr.heap.size wr w1) => (b1.cell (p := ⟨b, off + j * 4, none⟩) hlt).trans e0)
      clear hRC hgF hg0
      go_wp2_with fail
      go_region_law (first
        | (go_simp; go_at_call 35; (with_reducible refine (specEraseType_any xs[j].type _ _ _ (hd.below (below_drew _)) hsz1).mono ?_); rintro e w1 ⟨d0, d1, f, rfl, hR1, hnd1, hO1, b1⟩; replace b1 : Below wr.heap.size wr w1 := below_next (below_drew _) b1; have f0 := F0.out _ b1; have s1 := b1.size; obtain ⟨xa, xn, xc, rfl, rfl, -, -⟩ := hR1.rd.shape)
        | (refine step_append_lies _ (by rfl) _ _ _ (by rfl) w.heap.size 68 i0 _ 4 56 Try.underlying32 hi hz0 hz1 hz2 rfl (by omega) v j cs (by rfl) ((own_below hown b1).alloc _) ⟨w1.heap.size, 0, none⟩ 1 1 [.string xs[j].name, .int .i64 xs[j].type.erase.kind, .slice xa xn xc, .int .i64 0] (by rfl) (by rfl) (World.news_of_block (cs := #[.string xs[j].name, .int .i64 xs[j].type.erase.kind, .slice xa xn xc, .int .i64 0]) (t := 68) (fr := (0, 0)) (heap_alloc_new w1 _)) (by simp [Value.oneCell']) (by omega) (by unfold maxLen; omega) (by omega) (by simp; omega) (w1.heap.size + 1) (by simp) ?_; intro gg cap' w2 hown2 hgrow hat hlt2))
      all_goals
        go_wp2_with fail
        go_roundw
        case rel =>
          refine ⟨j + 1, by omega, by go_num, ⟨_, rfl, ?_⟩, ((hb.trans (b1.mono hsz)).alloc (by omega) _).grown hgrow (by simp; omega) fun k hk => (hown.lt k hk).1⟩
          have hjE : j < (erases xs).length := by rw [erases_len]; exact hjx
          have hT : RTa w1 (erases xs)[j].type.args xa xn xc f := by rw [HE.out]; exact hR1.rta'
          refine LaidR.step hjE hsz hown HR.out HG.out b1 hT hnd1 hO1 (RT.lt _ _ _ _ hR1) ?_ hgrow rfl (by simpa using hat)
          rw [HE.out]
          exact hown2
        case measure => simp [intOf]; omega
    · go_wp2
      go_ret
      have h4 := hx.out
      obtain rfl : j = (erases xs).length := by rw [erases_len]; omega
      obtain ⟨g, c, F, rfl, hO, h1, h2⟩ := hL.gives
      exact ⟨g, c, F, rfl, hO, h1, h2, hb⟩

set_option maxHeartbeats 3200000 in
theorem implEraseCtx_any (xs : List (Rc Int)) (a : Option Addr) (n cap : Nat) (w : World) (h : Rcs w xs a n cap) (hw : Rcs.wt xs ≤ 1048576) :
    Calls Try.prog 18 #[.slice a n cap] w (GivesR w (erases xs)) := by
  have hn : n ≤ 1048576 := by have := h.1; unfold Rcs.wt at hw; omega
  have hx := hide h.1
  have HW := hide (show ∀ k (hk : k < xs.length), Ty.sizes xs[k].type.args ≤ 1048576 from fun k hk => by
    have h1 := Rcs.sum_take xs k hk
    have h2 := Rcs.sum_le xs (k + 1)
    unfold Rcs.wt at hw
    unfold Rc.wt at h1 h2 hw
    omega)
  clear hw
  obtain ⟨i0, hi, hz0, hz1, hz2⟩ := info_parts Try.infoTyping2
  go_enter Try.func18, Try.ntmps18
  go_wp2_with fail
  go_loopw [3, 9] (fun v i wr => ∃ j : Nat, j ≤ n ∧ i = .int .i64 j ∧ (∃ z : Value, z = v ∧ LaidR w.heap.size (erases xs) j z wr) ∧ Below w.heap.size w wr) (fun _ i _ => n - (intOf i).toNat)
  case atStart => exact ⟨0, by omega, rfl, ⟨_, rfl, LaidR.nil w _⟩, below_new _ _⟩
  case round =>
    obtain ⟨j, hj, rfl, ⟨v, rfl, hL⟩, hb⟩ := hrel
    have hsz := hb.size
    by_cases hjn : j < n
    · have hjx : j < xs.length := by rw [← hx.out]; exact hjn
      obtain ⟨b, off, rfl, hlt, -, -, ta, tn, tc, e0, e1, e2, e3, hd⟩ := (h.below hb).get j hjx
      simp only [Last.val] at e3
      obtain ⟨cs, F, hown, hRC, g0, hg0, hgF⟩ := hL
      have HR := hide hRC
      have HG := hide (show ∀ g, v.ownBlock = some g → ∀ i, i < j → g ∉ F i from fun g hg i hi => by
        rw [hg0] at hg
        obtain rfl := Option.some.inj hg
        exact hgF i hi)
      have HE := hide (show (erases xs)[j]'(by rw [erases_len]; exact hjx) = xs[j].erase from erases_get xs j _ hjx)
      have hsz1 := HW.out j hjx
      have F0 := hide (fun (w1 : World) (b1 : Below wr.heap.size wr w1) => (b1.cell (p := ⟨b, off + j * 4, none⟩) hlt).trans e0)
      clear hRC hgF hg0
      have hx5 : Below wr.heap.size wr (wr.alloc (.cells #[.string xs[j].name, .int .i64 xs[j].type.kind, .slice ta tn tc, .int .i64 xs[j].last] 68)) := below_new _ _
      have hX := Blk.new wr 68 #[.string xs[j].name, .int .i64 xs[j].type.kind, .slice ta tn tc, .int .i64 xs[j].last]
      have HX := hide hX
      have HX5 := hide hx5
      clear hX
      go_wp2_with fail
      go_region_law (first
        | (go_simp; go_at_call 26; (with_reducible refine (implEraseType_any xs[j].type _ _ _ ((hd.below HX5.out).below (below_drew _)) hsz1).mono ?_); rintro e w1 ⟨d0, d1, f, rfl, hR1, hnd1, hO1, b1⟩; have f0 := (Blk.under (w := (wr.alloc _).drew) HX.out b1).cell 0; simp at f0; replace hO1 : Own wr.heap.size w1 f := ⟨fun x hx => by have := hO1.1 x hx; simp at this; omega, hO1.2⟩; replace b1 : Below wr.heap.size wr w1 := below_next (below_next HX5.out (below_drew _)) b1; have s1 := b1.size; obtain ⟨xa, xn, xc, rfl, rfl, -, -⟩ := hR1.rd.shape)
        | (refine step_append_lies _ (by rfl) _ _ _ (by rfl) w.heap.size 68 i0 _ 4 56 Try.underlying32 hi hz0 hz1 hz2 rfl (by omega) v j cs (by rfl) ((own_below hown b1).alloc _) ⟨w1.heap.size, 0, none⟩ 1 1 [.string xs[j].name, .int .i64 xs[j].type.erase.kind, .slice xa xn xc, .int .i64 0] (by rfl) (by rfl) (World.news_of_block (cs := #[.string xs[j].name, .int .i64 xs[j].type.erase.kind, .slice xa xn xc, .int .i64 0]) (t := 68) (fr := (0, 0)) (heap_alloc_new w1 _)) (by simp [Value.oneCell']) (by omega) (by unfold maxLen; omega) (by omega) (by simp; omega) (w1.heap.size + 1) (by simp) ?_; intro gg cap' w2 hown2 hgrow hat hlt2))
      all_goals
        go_wp2_with fail
        go_roundw
        case rel =>
          refine ⟨j + 1, by omega, by go_num, ⟨_, rfl, ?_⟩, ((hb.trans (b1.mono hsz)).alloc (by omega) _).grown hgrow (by simp; omega) fun k hk => (hown.lt k hk).1⟩
          have hjE : j < (erases xs).length := by rw [erases_len]; exact hjx
          have hT : RTa w1 (erases xs)[j].type.args xa xn xc f := by rw [HE.out]; exact hR1.rta'
          refine LaidR.step hjE hsz hown HR.out HG.out b1 hT hnd1 hO1 (RT.lt _ _ _ _ hR1) ?_ hgrow rfl (by simpa using hat)
          rw [HE.out]
          exact hown2
        case measure => simp [intOf]; omega
    · go_wp2
      go_ret
      have h4 := hx.out
      obtain rfl : j = (erases xs).length := by rw [erases_len]; omega
      obtain ⟨g, c, F, rfl, hO, h1, h2⟩ := hL.gives
      exact ⟨g, c, F, rfl, hO, h1, h2, hb⟩
end Go.Proofs.Ytnmpaibocmnabaa
