/-
  Lists of strings in memory of the call's own.
-/
import Derived.Test.YtcbgapncmjjmeaaDoorStr
import Derived.Test.YtcbgapncmjjmeaaDoorFreeP
import Derived.Deep.AppendLies
namespace Go.Proofs.YtcbgapncmjjmeaaDoor
open Go.RowKit
set_option maxRecDepth 100000
set_option linter.unusedVariables false
set_option linter.unusedSimpArgs false

/-- Strings in memory of the call's own, from block 'base' on. -/
abbrev OwnS (base : Nat) (w : World) (v : Value) (xs : List ByteArray) : Prop := w.ownsRow base 9 1 v xs.length (xs.map Value.string)
theorem OwnS.read {base : Nat} {w : World} {v : Value} {xs : List ByteArray} (h : OwnS base w v xs) (hs : ∀ x ∈ xs, x.size ≤ 9223372036854775807) : ∃ a cap, v = .slice a xs.length cap ∧ Rss w xs a xs.length cap := by
  rcases h.2 with ⟨rfl, hn⟩ | ⟨g, cap, cur, rfl, hb, hg, hle, hm, hsz, htk⟩
  · have : xs = [] := List.length_eq_zero_iff.1 hn
    subst this
    exact ⟨none, 0, rfl, rfl, Nat.le_refl _, by simp, by simp, .inl rfl⟩
  · refine ⟨some ⟨g, 0, none⟩, cap, rfl, rfl, hle, hm, hs, ?_⟩
    by_cases hx : xs = []
    · exact .inl hx
    · refine .inr ⟨hx, g, 0, rfl, fun i hi => ?_⟩
      have := h.cells (g := g) rfl i (.string xs[i]) (by simp [hi])
      simpa [Addr.add_lit] using this
/-- An empty slice that is not nil. -/
theorem OwnS.none_ (w : World) (base : Nat) (hb : base ≤ w.heap.size) : OwnS base (w.alloc (.cells #[] 9)) (.slice (some ⟨w.heap.size, 0, none⟩) 0 0) [] :=
  World.ownsRow_made w #[] 0 hb (by simp) (by simp)
theorem OwnS.below {base : Nat} {w w' : World} {v : Value} {xs : List ByteArray} (h : OwnS base w v xs) (hb : Below w.heap.size w w') : OwnS base w' v xs := by
  refine ⟨h.1, ?_⟩
  rcases h.2 with hn | ⟨g, cap, cur, rfl, hg, hh, r⟩
  · exact .inl hn
  · exact .inr ⟨g, cap, cur, rfl, hg, (hb.block g (Array.getElem?_eq_some_iff.1 hh).1).trans hh, r⟩
theorem OwnS.free {base : Nat} {w : World} {v : Value} {xs : List ByteArray} (h : OwnS base w v xs) {a : Option Addr} {n cap : Nat} (hv : v = .slice a n cap) : ∀ p, a = some p → ∃ g cur, p = ⟨g, 0, none⟩ ∧ base ≤ g ∧ Blk w g 9 cur ∧ xs.length ≤ cur.size := by
  intro p hp
  subst hp
  rcases h.2 with ⟨rfl, _⟩ | ⟨g, cap', cur, rfl, hb, hg, hle, hm, hsz, htk⟩
  · cases hv
  · injection hv with h1 h2 h3
    injection h1 with h1
    exact ⟨g, cur, h1.symm, hb, hg, by omega⟩
theorem one_new (w : World) (x : Value) (T : TypeId) : ∀ j u, [x][j]? = some u → (w.alloc (.cells #[x] T)).cell? ((⟨w.heap.size, 0, none⟩ : Addr).add j) = some u :=
  World.news_of_block (cs := #[x]) (t := T) (fr := (0, 0)) (heap_alloc_new w _)
theorem one_cell (x : ByteArray) : ∀ u ∈ [Value.string x], u.oneCell' = true := by
  intro u hu
  simp at hu
  subst hu
  rfl
theorem own_step {base : Nat} {w1 : World} {v : Value} {xs ys : List ByteArray} {x : ByteArray} {q : Nat} {cs : List Value} (hq : q = xs.length) (hc : cs = xs.map Value.string)
    (h : w1.ownsRow base 9 1 v (q + 1) (cs ++ [.string x])) (hy : ys = xs ++ [x]) : OwnS base w1 v ys := by
  subst hq hc hy
  simpa [OwnS] using h
/-- What a call gives that makes a list of strings. -/
def GivesS (w : World) (xs : List ByteArray) (e : Ending) (w' : World) : Prop := ∃ v, e = .returned v ∧ OwnS w.heap.size w' v xs ∧ Below w.heap.size w w'

theorem Tryd.infoStr : (Tryd.prog.info? 9).map (fun i => (i.zero, i.size, i.bytes)) = some (some (.string ⟨#[]⟩), 1, 16) := by kernel_rfl

set_option maxHeartbeats 1600000 in
theorem specWithoutName_any (xs : List ByteArray) (s : ByteArray) (a : Option Addr) (n cap : Nat) (w : World) (h : Rss w xs a n cap) (hl : xs.length ≤ 2097152) :
    Calls Tryd.prog 41 #[.slice a n cap, .string s] w (GivesS w (withoutN xs s)) := by
  have hn : n ≤ 2097152 := by rw [h.1]; exact hl
  have hx := hide h.1
  obtain ⟨i0, hi, hz0, hz1, hz2⟩ := info_parts Tryd.infoStr
  go_enter Tryd.func41, Tryd.ntmps41
  go_wp2_with fail
  go_loopw [5, 6] (fun v i wr => ∃ j : Nat, j ≤ n ∧ i = .int .i64 j ∧ OwnS w.heap.size wr v (withoutN (xs.take j) s) ∧ Below w.heap.size w wr) (fun _ i _ => n - (intOf i).toNat)
  case atStart => exact ⟨0, by omega, rfl, OwnS.none_ w _ (Nat.le_refl _), below_new _ _⟩
  case round =>
    obtain ⟨j, hj, rfl, hO, hb⟩ := hrel
    have hsz := hb.size
    by_cases hjn : j < n
    · have hjx : j < xs.length := by rw [← hx.out]; exact hjn
      obtain ⟨b, off, rfl, hlt', e0⟩ := (h.below hb).get j hjx
      have hstep := withoutN_take xs s j hjx
      cases hq : (xs[j].toList == s.toList) with
      | true =>
        have hq2 : (xs[j].toList != s.toList) = false := by simp [bne, hq]
        rw [hq] at hstep
        replace hstep := hide hstep
        go_wp2_with fail
        go_roundw
        case rel =>
          refine ⟨j + 1, by omega, by go_num, ?_, hb⟩
          rw [hstep.out]
          simpa using hO
        case measure => simp [intOf]; omega
      | false =>
        have hq2 : (xs[j].toList != s.toList) = true := by simp [bne, hq]
        rw [hq] at hstep
        simp only [Bool.false_eq_true, if_false] at hstep
        replace hstep := hide hstep
        have hlen : (withoutN (xs.take j) s).length ≤ 2097152 := by
          have := List.length_filter_le (fun x => !(x.toList == s.toList)) (xs.take j)
          rw [List.length_take] at this
          unfold withoutN
          omega
        obtain ⟨q, hqn⟩ : ∃ q, q = (withoutN (xs.take j) s).length := ⟨_, rfl⟩
        obtain ⟨cs, hcs⟩ : ∃ cs, cs = (withoutN (xs.take j) s).map Value.string := ⟨_, rfl⟩
        unfold OwnS at hO
        rw [← hqn, ← hcs] at hO
        rw [← hqn] at hlen
        replace hqn := hide hqn
        replace hcs := hide hcs
        go_wp2_with (at_builtin; refine wpList_append_lies _ rfl _ _ 27 rfl w.heap.size 9 i0 (.string ⟨#[]⟩) 1 16 Tryd.underlying27 hi hz0 hz1 hz2 rfl (by decide) _ _ _ rfl (hO.alloc _) ⟨wr.heap.size, 0, none⟩ 1 1 [.string xs[j]] rfl rfl (one_new wr _ _) (one_cell _) (by decide) ?c3 ?c4 ?c5 _ rfl ?_)
        case c3 => unfold maxLen; omega
        case c4 => omega
        case c5 => simp; omega
        intro g cap' w1 hown hgrow hat hlt
        go_wp2_with fail
        go_roundw
        case rel =>
          refine ⟨j + 1, by omega, by go_num, own_step hqn.out hcs.out hown hstep.out, (hb.alloc hsz _).grown hgrow (by simp; omega) fun k hk => (hO.lt k hk).1⟩
        case measure => simp [intOf]; omega
    · go_wp2_with fail
      go_ret
      have h4 := hx.out
      rw [List.take_of_length_le (by omega)] at hO
      exact ⟨_, rfl, hO, hb⟩
theorem addN_yes {xs : List ByteArray} {s : ByteArray} (h : hasN xs s = true) : addN xs s = xs := by rw [addN, if_pos h]
theorem addN_no {xs : List ByteArray} {s : ByteArray} (h : hasN xs s = false) : addN xs s = xs ++ [s] := by rw [addN, if_neg (by rw [h]; simp)]
theorem uniteN_two (xs ys : List ByteArray) : uniteN xs ys = ys.foldl addN (xs.foldl addN []) := by rw [uniteN, List.foldl_append]
theorem fold_size {N : Nat} {a b : List ByteArray} (ha : ∀ x ∈ a, x.size ≤ N) (hb : ∀ x ∈ b, x.size ≤ N) : ∀ x ∈ b.foldl addN a, x.size ≤ N := fun x hx => (foldl_addN_mem b a x hx).elim (ha x) (hb x)

set_option maxHeartbeats 3200000 in
theorem specUniteNames_any (xs ys : List ByteArray) (a a' : Option Addr) (n cap n' cap' : Nat) (w : World) (h : Rss w xs a n cap) (h' : Rss w ys a' n' cap') (hl : xs.length + ys.length ≤ 4194304) :
    Calls Tryd.prog 39 #[.slice a n cap, .slice a' n' cap'] w (GivesS w (uniteN xs ys)) := by
  have hn : n ≤ 4194304 := by rw [h.1]; omega
  have hn' : n' ≤ 4194304 := by rw [h'.1]; omega
  have hx := hide h.1
  have hy := hide h'.1
  have HL := hide hl
  clear hl
  obtain ⟨i0, hi, hz0, hz1, hz2⟩ := info_parts Tryd.infoStr
  go_enter Tryd.func39, Tryd.ntmps39
  go_wp2_with fail
  go_loopw [5, 6] (fun v i wr => ∃ j : Nat, j ≤ n ∧ i = .int .i64 j ∧ OwnS w.heap.size wr v ((xs.take j).foldl addN []) ∧ Below w.heap.size w wr) (fun _ i _ => n - (intOf i).toNat)
  case atStart => exact ⟨0, by omega, rfl, OwnS.none_ w _ (Nat.le_refl _), below_new _ _⟩
  case round =>
    obtain ⟨j, hj, rfl, hO, hb⟩ := hrel
    have hsz := hb.size
    by_cases hjn : j < n
    · have hjx : j < xs.length := by rw [← hx.out]; exact hjn
      obtain ⟨b, off, rfl, hlt', e0⟩ := (h.below hb).get j hjx
      have hstep := foldl_take xs [] j hjx
      obtain ⟨zs, hzs⟩ : ∃ zs, zs = (xs.take j).foldl addN [] := ⟨_, rfl⟩
      rw [← hzs] at hO hstep
      have hlen : zs.length ≤ 4194304 := by
        have := (foldl_addN_len (xs.take j) []).2
        rw [List.length_take] at this
        have := HL.out
        rw [hzs]
        simp only [List.length_nil] at *
        omega
      obtain ⟨va, vc, hv, hR⟩ := hO.read (fun x hx => by rw [hzs] at hx; exact (foldl_addN_mem _ _ x hx).elim (fun h => by cases h) fun hin => h.2.2.2.1 x (List.mem_of_mem_take hin))
      have CI := fun W hW => specIndexOf_any zs xs[j] va zs.length vc W hW
      have hneg := fIdx_has zs xs[j]
      replace hzs := hide hzs
      subst hv
      cases hq : hasN zs xs[j] with
      | true =>
        rw [addN_yes hq] at hstep
        rw [hq] at hneg
        replace hq := hide hq
        replace hstep := hide hstep
        replace CI := hide CI
        simp only [Bool.not_true, decide_eq_false_iff_not] at hneg
        generalize fIdx (fun x => xs[j].toList == x.toList) zs = idx at hneg CI
        go_wp2_with (go_at_call 52; (with_reducible refine (CI.out _ hR).mono ?_); rintro e w1 ⟨rfl, rfl⟩)
        go_roundw
        case rel =>
          exact ⟨j + 1, by omega, by go_num, by rw [hstep.out]; exact hO, hb⟩
        case measure => simp [intOf]; omega
      | false =>
        rw [addN_no hq] at hstep
        rw [hq] at hneg
        replace hq := hide hq
        replace hstep := hide hstep
        replace CI := hide CI
        simp only [Bool.not_false, decide_eq_true_eq] at hneg
        generalize fIdx (fun x => xs[j].toList == x.toList) zs = idx at hneg CI
        obtain ⟨q, hqn⟩ : ∃ q, q = zs.length := ⟨_, rfl⟩
        obtain ⟨cs, hcs⟩ : ∃ cs, cs = zs.map Value.string := ⟨_, rfl⟩
        unfold OwnS at hO
        rw [← hqn, ← hcs] at hO
        rw [← hqn] at hlen hR CI ⊢
        replace hqn := hide hqn
        replace hcs := hide hcs
        go_wp2_with (first
          | (go_at_call 52; (with_reducible refine (CI.out _ hR).mono ?_); rintro e w1 ⟨rfl, rfl⟩)
          | (at_builtin; refine wpList_append_lies _ rfl _ _ 27 rfl w.heap.size 9 i0 (.string ⟨#[]⟩) 1 16 Tryd.underlying27 hi hz0 hz1 hz2 rfl (by decide) _ _ _ rfl (hO.alloc _) ⟨wr.heap.size, 0, none⟩ 1 1 [.string xs[j]] rfl rfl (one_new wr _ _) (one_cell _) (by decide) ?c3 ?c4 ?c5 _ rfl ?_))
        case c3 => unfold maxLen; omega
        case c4 => omega
        case c5 => simp; omega
        intro g cap2 w1 hown hgrow hat hlt
        go_wp2_with fail
        go_roundw
        case rel =>
          exact ⟨j + 1, by omega, by go_num, own_step hqn.out hcs.out hown hstep.out, (hb.alloc hsz _).grown hgrow (by simp; omega) fun k hk => (hO.lt k hk).1⟩
        case measure => simp [intOf]; omega
    · have h4 := hx.out
      rw [List.take_of_length_le (by omega)] at hO
      obtain ⟨z0, hz⟩ : ∃ z0, z0 = xs.foldl addN [] := ⟨_, rfl⟩
      have Z1 := hide (show ∀ x ∈ z0, x.size ≤ 9223372036854775807 by rw [hz]; exact fold_size (fun x hx => by cases hx) h.2.2.2.1)
      have Z2 := hide (show z0.length ≤ xs.length by rw [hz]; have := (foldl_addN_len xs []).2; simpa using this)
      rw [← hz] at hO
      replace hz := hide hz
      clear h4 hj
      have hbk := hb
      have hOk := hO
      clear hb hO
      go_wp2_with fail
      go_loopw [5, 7] (fun v i wr => ∃ j : Nat, j ≤ n' ∧ i = .int .i64 j ∧ OwnS w.heap.size wr v ((ys.take j).foldl addN z0) ∧ Below w.heap.size w wr) (fun _ i _ => n' - (intOf i).toNat)
      case atStart => exact ⟨0, by omega, rfl, by simpa using hOk, hbk⟩
      case round =>
        clear hbk hOk
        obtain ⟨j, hj, rfl, hO, hb⟩ := hrel
        have hsz := hb.size
        by_cases hjn : j < n'
        · have hjx : j < ys.length := by rw [← hy.out]; exact hjn
          obtain ⟨b, off, rfl, hlt', e0⟩ := (h'.below hb).get j hjx
          have hstep := foldl_take ys z0 j hjx
          obtain ⟨zs, hzs⟩ : ∃ zs, zs = (ys.take j).foldl addN z0 := ⟨_, rfl⟩
          rw [← hzs] at hO hstep
          have hlen : zs.length ≤ 4194304 := by
            have := (foldl_addN_len (ys.take j) z0).2
            rw [List.length_take] at this
            have := HL.out
            have := Z2.out
            rw [hzs]
            omega
          obtain ⟨va, vc, hv, hR⟩ := hO.read (fun x hx => by rw [hzs] at hx; exact (foldl_addN_mem _ _ x hx).elim (fun h1 => Z1.out x h1) fun hin => h'.2.2.2.1 x (List.mem_of_mem_take hin))
          have CI := fun W hW => specIndexOf_any zs ys[j] va zs.length vc W hW
          have hneg := fIdx_has zs ys[j]
          replace hzs := hide hzs
          subst hv
          cases hq : hasN zs ys[j] with
          | true =>
            rw [addN_yes hq] at hstep
            rw [hq] at hneg
            replace hq := hide hq
            replace hstep := hide hstep
            replace CI := hide CI
            simp only [Bool.not_true, decide_eq_false_iff_not] at hneg
            generalize fIdx (fun x => ys[j].toList == x.toList) zs = idx at hneg CI
            go_wp2_with (go_at_call 52; (with_reducible refine (CI.out _ hR).mono ?_); rintro e w1 ⟨rfl, rfl⟩)
            go_roundw
            case rel =>
              exact ⟨j + 1, by omega, by go_num, by rw [hstep.out]; exact hO, hb⟩
            case measure => simp [intOf]; omega
          | false =>
            rw [addN_no hq] at hstep
            rw [hq] at hneg
            replace hq := hide hq
            replace hstep := hide hstep
            replace CI := hide CI
            simp only [Bool.not_false, decide_eq_true_eq] at hneg
            generalize fIdx (fun x => ys[j].toList == x.toList) zs = idx at hneg CI
            obtain ⟨q, hqn⟩ : ∃ q, q = zs.length := ⟨_, rfl⟩
            obtain ⟨cs, hcs⟩ : ∃ cs, cs = zs.map Value.string := ⟨_, rfl⟩
            unfold OwnS at hO
            rw [← hqn, ← hcs] at hO
            rw [← hqn] at hlen hR CI ⊢
            replace hqn := hide hqn
            replace hcs := hide hcs
            go_wp2_with (first
              | (go_at_call 52; (with_reducible refine (CI.out _ hR).mono ?_); rintro e w1 ⟨rfl, rfl⟩)
              | (at_builtin; refine wpList_append_lies _ rfl _ _ 27 rfl w.heap.size 9 i0 (.string ⟨#[]⟩) 1 16 Tryd.underlying27 hi hz0 hz1 hz2 rfl (by decide) _ _ _ rfl (hO.alloc _) ⟨wr.heap.size, 0, none⟩ 1 1 [.string ys[j]] rfl rfl (one_new wr _ _) (one_cell _) (by decide) ?c3 ?c4 ?c5 _ rfl ?_))
            case c3 => unfold maxLen; omega
            case c4 => omega
            case c5 => simp; omega
            intro g cap2 w1 hown hgrow hat hlt
            go_wp2_with fail
            go_roundw
            case rel =>
              exact ⟨j + 1, by omega, by go_num, own_step hqn.out hcs.out hown hstep.out, (hb.alloc hsz _).grown hgrow (by simp; omega) fun k hk => (hO.lt k hk).1⟩
            case measure => simp [intOf]; omega
        · have h4 := hy.out
          rw [List.take_of_length_le (by omega), hz.out, ← uniteN_two] at hO
          go_wp2_with fail
          go_ret
          exact ⟨_, rfl, hO, hb⟩
end Go.Proofs.YtcbgapncmjjmeaaDoor
