/-
  The free names of a term: the texts FreeP, OwnS, DelS, OwnI, MarkT, MarkR, BoundM, FreeS, FreeI and Closed in one.
-/
import Derived.Test.YtknlbhclfeldbaaPlain
import Derived.Test.YtknlbhclfeldbaaTm
import Derived.Test.YtknlbhclfeldbaaStr
import Derived.Deep.AppendLies
import Derived.Test.YtknlbhclfeldbaaWrote
import Derived.Lib.SliceRun
import Derived.Lib.AppendZerosOnto
import Derived.Laws.IdiomStrings
import Derived.Deep.RegionHeld3
import Derived.Test.YtknlbhclfeldbaaTmSz
namespace Go.Proofs.Ytknlbhclfeldbaa
set_option linter.unusedVariables false
set_option linter.unusedSimpArgs false

theorem toList_inj {a b : ByteArray} (h : (a.toList == b.toList) = true) : a.toList = b.toList := by simpa using h

/-- s is among the names. -/
def hasN (xs : List ByteArray) (s : ByteArray) : Bool := xs.any fun x => s.toList == x.toList
/-- One name more, unless it is there. -/
def addN (xs : List ByteArray) (s : ByteArray) : List ByteArray := if hasN xs s then xs else xs ++ [s]
def uniteN (a b : List ByteArray) : List ByteArray := (a ++ b).foldl addN []
def withoutN (xs : List ByteArray) (s : ByteArray) : List ByteArray := xs.filter fun x => !(x.toList == s.toList)
theorem fIdx_has (xs : List ByteArray) (s : ByteArray) : decide (fIdx (fun x => s.toList == x.toList) xs < 0) = !hasN xs s := by
  have h := fIdx_ge (fun x => s.toList == x.toList) xs
  rw [hasN, ← h, Bool.eq_iff_iff]
  simp
theorem foldl_addN_len (b : List ByteArray) : ∀ a : List ByteArray, a.length ≤ (b.foldl addN a).length ∧ (b.foldl addN a).length ≤ a.length + b.length := by
  induction b with
  | nil => intro a; simp
  | cons x xs ih =>
    intro a
    have h := ih (addN a x)
    have h1 : a.length ≤ (addN a x).length ∧ (addN a x).length ≤ a.length + 1 := by
      unfold addN
      split <;> simp
    simp only [List.foldl_cons, List.length_cons]
    omega
theorem uniteN_len (a b : List ByteArray) : (uniteN a b).length ≤ a.length + b.length := by
  have := (foldl_addN_len (a ++ b) []).2
  simpa [uniteN] using this
theorem foldl_addN_mem (b : List ByteArray) : ∀ a : List ByteArray, ∀ x ∈ b.foldl addN a, x ∈ a ∨ x ∈ b := by
  induction b with
  | nil => intro a x hx; exact .inl hx
  | cons y ys ih =>
    intro a x hx
    rcases ih (addN a y) x hx with h | h
    · unfold addN at h
      split at h
      · exact .inl h
      · rcases List.mem_append.1 h with h | h
        · exact .inl h
        · exact .inr (by simp at h; simp [h])
    · exact .inr (by simp [h])
theorem uniteN_mem {a b : List ByteArray} {x : ByteArray} (h : x ∈ uniteN a b) : x ∈ a ∨ x ∈ b := by
  rcases foldl_addN_mem _ _ x h with h | h
  · cases h
  · exact List.mem_append.1 h
theorem withoutN_take (xs : List ByteArray) (s : ByteArray) (k : Nat) (h : k < xs.length) : withoutN (xs.take (k + 1)) s = withoutN (xs.take k) s ++ (if xs[k].toList == s.toList then [] else [xs[k]]) := by
  rw [take_snoc xs k h, withoutN, List.filter_append]
  congr 1
  cases hq : (xs[k].toList == s.toList) <;> simp [hq]
theorem foldl_take (xs : List ByteArray) (a : List ByteArray) (k : Nat) (h : k < xs.length) : (xs.take (k + 1)).foldl addN a = addN ((xs.take k).foldl addN a) xs[k] := by
  rw [take_snoc xs k h, List.foldl_append]
  rfl

/-- The names that a node binds, and in which part. -/
def boundN (t : Tm) : List ByteArray × Int :=
  if t.kind == 6 && t.args.length == 1 then ([t.name], 0) else if t.kind == 8 && t.args.length == 2 then ([t.name], 1) else if t.kind == 9 && t.args.length == 1 then ([t.name, t.other], 0) else ([], -1)
mutual
/-- The free names. -/
def Tm.free : Tm → List ByteArray
  | ⟨k, nm, ot, n, ty, re, xs⟩ => if k == 1 then [nm] else Tm.frees (boundN ⟨k, nm, ot, n, ty, re, xs⟩) xs 0 []
def Tm.frees (b : List ByteArray × Int) : List Tm → Nat → List ByteArray → List ByteArray
  | [], _, out => out
  | t :: ts, i, out => Tm.frees b ts (i + 1) (uniteN out (if (i : Int) == b.2 then t.free.filter (fun s => !hasN b.1 s) else t.free))
end
theorem Tm.free_eq (t : Tm) : t.free = if t.kind == 1 then [t.name] else Tm.frees (boundN t) t.args 0 [] := by cases t; rw [Tm.free]
theorem Tm.frees_append (b : List ByteArray × Int) (xs ys : List Tm) : ∀ i out, Tm.frees b (xs ++ ys) i out = Tm.frees b ys (i + xs.length) (Tm.frees b xs i out) := by
  induction xs with
  | nil => intro i out; rfl
  | cons x xs ih =>
    intro i out
    rw [List.cons_append, Tm.frees, Tm.frees, ih]
    congr 1
    simp only [List.length_cons]
    omega
/-- What a part adds. -/
def partN (b : List ByteArray × Int) (t : Tm) (i : Nat) : List ByteArray := if (i : Int) == b.2 then t.free.filter (fun s => !hasN b.1 s) else t.free
theorem Tm.frees_take (b : List ByteArray × Int) (xs : List Tm) (k : Nat) (h : k < xs.length) : Tm.frees b (xs.take (k + 1)) 0 [] = uniteN (Tm.frees b (xs.take k) 0 []) (partN b xs[k] k) := by
  rw [take_snoc xs k h, Tm.frees_append]
  have : (xs.take k).length = k := by simp; omega
  rw [Tm.frees, Tm.frees, this, Nat.zero_add]
  rfl
theorem partN_len (b : List ByteArray × Int) (t : Tm) (i : Nat) : (partN b t i).length ≤ t.free.length := by
  unfold partN
  split
  · exact List.length_filter_le _ _
  · exact Nat.le_refl _
theorem Tm.frees_len_of (b : List ByteArray × Int) (xs : List Tm) (h : ∀ t ∈ xs, t.free.length ≤ t.size) : ∀ i out, (Tm.frees b xs i out).length ≤ out.length + Tm.sizes xs := by
  induction xs with
  | nil => intro i out; rw [Tm.frees]; omega
  | cons x xs ih =>
    intro i out
    rw [Tm.frees]
    have h1 := h x (by simp)
    have h2 := ih (fun t ht => h t (by simp [ht])) (i + 1) (uniteN out (partN b x i))
    have h3 := uniteN_len out (partN b x i)
    have h4 := partN_len b x i
    simp only [Tm.sizes]
    unfold partN at h2 h3 h4
    omega
theorem Tm.free_len (t : Tm) : t.free.length ≤ t.size := by
  induction t using Tm.ind' with | h t ih => ?_
  rw [Tm.free_eq]
  have := Tm.frees_len_of (boundN t) t.args ih 0 []
  have := t.size_eq
  split
  · simp only [List.length_cons, List.length_nil]; omega
  · simp only [List.length_nil] at *; omega
theorem Tm.frees_size_of (b : List ByteArray × Int) (N : Nat) (xs : List Tm) (h : ∀ t ∈ xs, ∀ s ∈ t.free, s.size ≤ N) : ∀ i out, (∀ s ∈ out, s.size ≤ N) → ∀ s ∈ Tm.frees b xs i out, s.size ≤ N := by
  induction xs with
  | nil => intro i out ho; rw [Tm.frees]; exact ho
  | cons x xs ih =>
    intro i out ho
    rw [Tm.frees]
    refine ih (fun t ht => h t (by simp [ht])) _ _ fun s hs => ?_
    rcases uniteN_mem hs with hs | hs
    · exact ho s hs
    · split at hs
      · exact h x (by simp) s ((List.mem_filter.1 hs).1)
      · exact h x (by simp) s hs
end Go.Proofs.Ytknlbhclfeldbaa

namespace Go.Proofs.Ytknlbhclfeldbaa
open Go.RowKit
set_option linter.unusedVariables false
set_option linter.unusedSimpArgs false

/-- Strings in memory of the call's own, from block 'base' on. -/
abbrev OwnS (base : Nat) (w : World) (v : Value) (xs : List ByteArray) : Prop := w.ownsRow base 9 1 v xs.length (xs.map Value.string)
theorem OwnS.read {base : Nat} {w : World} {v : Value} {xs : List ByteArray} (h : OwnS base w v xs) (hs : ∀ x ∈ xs, x.size ≤ 9223372036854775807) : ∃ a cap, v = .slice a xs.length cap ∧ Rss w xs a xs.length cap := by
  rcases h.2 with ⟨rfl, hn⟩ | ⟨g, cap, cur, rfl, hb, hg, hle, hm, hsz, htk⟩
  · have : xs = [] := List.length_eq_zero_iff.1 hn
    subst this
    exact ⟨none, 0, rfl, rfl, Nat.le_refl _, by simp, by simp, .inl rfl⟩
  · refine ⟨some ⟨g, 0, none⟩, cap, rfl, rfl, hle, hm, hs, ?_⟩
    by_cases hx : xs = []
    · exact .inl hx
    · refine .inr ⟨hx, g, 0, rfl, fun i hi => ?_⟩
      have := h.cells (g := g) rfl i (.string xs[i]) (by simp [hi])
      simpa [Addr.add_lit] using this
/-- An empty slice that is not nil. -/
theorem OwnS.none_ (w : World) (base : Nat) (hb : base ≤ w.heap.size) : OwnS base (w.alloc (.cells #[] 9)) (.slice (some ⟨w.heap.size, 0, none⟩) 0 0) [] :=
  World.ownsRow_made w #[] 0 hb (by simp) (by simp)
theorem OwnS.below {base : Nat} {w w' : World} {v : Value} {xs : List ByteArray} (h : OwnS base w v xs) (hb : Below w.heap.size w w') : OwnS base w' v xs := by
  refine ⟨h.1, ?_⟩
  rcases h.2 with hn | ⟨g, cap, cur, rfl, hg, hh, r⟩
  · exact .inl hn
  · exact .inr ⟨g, cap, cur, rfl, hg, (hb.block g (Array.getElem?_eq_some_iff.1 hh).1).trans hh, r⟩
theorem OwnS.free {base : Nat} {w : World} {v : Value} {xs : List ByteArray} (h : OwnS base w v xs) {a : Option Addr} {n cap : Nat} (hv : v = .slice a n cap) : ∀ p, a = some p → ∃ g cur, p = ⟨g, 0, none⟩ ∧ base ≤ g ∧ Blk w g 9 cur ∧ xs.length ≤ cur.size := by
  intro p hp
  subst hp
  rcases h.2 with ⟨rfl, _⟩ | ⟨g, cap', cur, rfl, hb, hg, hle, hm, hsz, htk⟩
  · cases hv
  · injection hv with h1 h2 h3
    injection h1 with h1
    exact ⟨g, cur, h1.symm, hb, hg, by omega⟩
theorem one_new (w : World) (x : Value) (T : TypeId) : ∀ j u, [x][j]? = some u → (w.alloc (.cells #[x] T)).cell? ((⟨w.heap.size, 0, none⟩ : Addr).add j) = some u :=
  World.news_of_block (cs := #[x]) (t := T) (fr := (0, 0)) (heap_alloc_new w _)
theorem one_cell (x : ByteArray) : ∀ u ∈ [Value.string x], u.oneCell' = true := by
  intro u hu
  simp at hu
  subst hu
  rfl
theorem own_step {base : Nat} {w1 : World} {v : Value} {xs ys : List ByteArray} {x : ByteArray} {q : Nat} {cs : List Value} (hq : q = xs.length) (hc : cs = xs.map Value.string)
    (h : w1.ownsRow base 9 1 v (q + 1) (cs ++ [.string x])) (hy : ys = xs ++ [x]) : OwnS base w1 v ys := by
  subst hq hc hy
  simpa [OwnS] using h
/-- What a call gives that makes a list of strings. -/
def GivesS (w : World) (xs : List ByteArray) (e : Ending) (w' : World) : Prop := ∃ v, e = .returned v ∧ OwnS w.heap.size w' v xs ∧ Below w.heap.size w w'

theorem Try.infoStr : (Try.prog.info? 9).map (fun i => (i.zero, i.size, i.bytes)) = some (some (.string ⟨#[]⟩), 1, 16) := by kernel_rfl

set_option maxHeartbeats 1600000 in
theorem specWithoutName_any (xs : List ByteArray) (s : ByteArray) (a : Option Addr) (n cap : Nat) (w : World) (h : Rss w xs a n cap) (hl : xs.length ≤ 2097152) :
    Calls Try.prog 9 #[.slice a n cap, .string s] w (GivesS w (withoutN xs s)) := by
  have hn : n ≤ 2097152 := by rw [h.1]; exact hl
  have hx := hide h.1
  obtain ⟨i0, hi, hz0, hz1, hz2⟩ := info_parts Try.infoStr
  go_enter Try.func9, Try.ntmps9
  go_wp2_with fail
  go_loopw [5, 6] (fun v i wr => ∃ j : Nat, j ≤ n ∧ i = .int .i64 j ∧ OwnS w.heap.size wr v (withoutN (xs.take j) s) ∧ Below w.heap.size w wr) (fun _ i _ => n - (intOf i).toNat)
  case atStart => exact ⟨0, by omega, rfl, OwnS.none_ w _ (Nat.le_refl _), below_new _ _⟩
  case round =>
    obtain ⟨j, hj, rfl, hO, hb⟩ := hrel
    have hsz := hb.size
    by_cases hjn : j < n
    · have hjx : j < xs.length := by rw [← hx.out]; exact hjn
      obtain ⟨b, off, rfl, hlt', e0⟩ := (h.below hb).get j hjx
      have hstep := withoutN_take xs s j hjx
      cases hq : (xs[j].toList == s.toList) with
      | true =>
        have hq2 : (xs[j].toList != s.toList) = false := by simp [bne, hq]
        rw [hq] at hstep
        replace hstep := hide hstep
        go_wp2_with fail
        go_roundw
        case rel =>
          refine ⟨j + 1, by omega, by go_num, ?_, hb⟩
          rw [hstep.out]
          simpa using hO
        case measure => simp [intOf]; omega
      | false =>
        have hq2 : (xs[j].toList != s.toList) = true := by simp [bne, hq]
        rw [hq] at hstep
        simp only [Bool.false_eq_true, if_false] at hstep
        replace hstep := hide hstep
        have hlen : (withoutN (xs.take j) s).length ≤ 2097152 := by
          have := List.length_filter_le (fun x => !(x.toList == s.toList)) (xs.take j)
          rw [List.length_take] at this
          unfold withoutN
          omega
        obtain ⟨q, hqn⟩ : ∃ q, q = (withoutN (xs.take j) s).length := ⟨_, rfl⟩
        obtain ⟨cs, hcs⟩ : ∃ cs, cs = (withoutN (xs.take j) s).map Value.string := ⟨_, rfl⟩
        unfold OwnS at hO
        rw [← hqn, ← hcs] at hO
        rw [← hqn] at hlen
        replace hqn := hide hqn
        replace hcs := hide hcs
        go_wp2_with (at_builtin; refine wpList_append_lies _ rfl _ _ 22 rfl w.heap.size 9 i0 (.string ⟨#[]⟩) 1 16 Try.underlying22 hi hz0 hz1 hz2 rfl (by decide) _ _ _ rfl (hO.alloc _) ⟨wr.heap.size, 0, none⟩ 1 1 [.string xs[j]] rfl rfl (one_new wr _ _) (one_cell _) (by decide) ?c3 ?c4 ?c5 _ rfl ?_)
        case c3 => unfold maxLen; omega
        case c4 => omega
        case c5 => simp; omega
        intro g cap' w1 hown hgrow hat hlt
        go_wp2_with fail
        go_roundw
        case rel =>
          refine ⟨j + 1, by omega, by go_num, own_step hqn.out hcs.out hown hstep.out, (hb.alloc hsz _).grown hgrow (by simp; omega) fun k hk => (hO.lt k hk).1⟩
        case measure => simp [intOf]; omega
    · go_wp2_with fail
      go_ret
      have h4 := hx.out
      rw [List.take_of_length_le (by omega)] at hO
      exact ⟨_, rfl, hO, hb⟩
theorem addN_yes {xs : List ByteArray} {s : ByteArray} (h : hasN xs s = true) : addN xs s = xs := by rw [addN, if_pos h]
theorem addN_no {xs : List ByteArray} {s : ByteArray} (h : hasN xs s = false) : addN xs s = xs ++ [s] := by rw [addN, if_neg (by rw [h]; simp)]
theorem uniteN_two (xs ys : List ByteArray) : uniteN xs ys = ys.foldl addN (xs.foldl addN []) := by rw [uniteN, List.foldl_append]
theorem fold_size {N : Nat} {a b : List ByteArray} (ha : ∀ x ∈ a, x.size ≤ N) (hb : ∀ x ∈ b, x.size ≤ N) : ∀ x ∈ b.foldl addN a, x.size ≤ N := fun x hx => (foldl_addN_mem b a x hx).elim (ha x) (hb x)

set_option maxHeartbeats 3200000 in
theorem specUniteNames_any (xs ys : List ByteArray) (a a' : Option Addr) (n cap n' cap' : Nat) (w : World) (h : Rss w xs a n cap) (h' : Rss w ys a' n' cap') (hl : xs.length + ys.length ≤ 4194304) :
    Calls Try.prog 15 #[.slice a n cap, .slice a' n' cap'] w (GivesS w (uniteN xs ys)) := by
  have hn : n ≤ 4194304 := by rw [h.1]; omega
  have hn' : n' ≤ 4194304 := by rw [h'.1]; omega
  have hx := hide h.1
  have hy := hide h'.1
  have HL := hide hl
  clear hl
  obtain ⟨i0, hi, hz0, hz1, hz2⟩ := info_parts Try.infoStr
  go_enter Try.func15, Try.ntmps15
  go_wp2_with fail
  go_loopw [5, 6] (fun v i wr => ∃ j : Nat, j ≤ n ∧ i = .int .i64 j ∧ OwnS w.heap.size wr v ((xs.take j).foldl addN []) ∧ Below w.heap.size w wr) (fun _ i _ => n - (intOf i).toNat)
  case atStart => exact ⟨0, by omega, rfl, OwnS.none_ w _ (Nat.le_refl _), below_new _ _⟩
  case round =>
    obtain ⟨j, hj, rfl, hO, hb⟩ := hrel
    have hsz := hb.size
    by_cases hjn : j < n
    · have hjx : j < xs.length := by rw [← hx.out]; exact hjn
      obtain ⟨b, off, rfl, hlt', e0⟩ := (h.below hb).get j hjx
      have hstep := foldl_take xs [] j hjx
      obtain ⟨zs, hzs⟩ : ∃ zs, zs = (xs.take j).foldl addN [] := ⟨_, rfl⟩
      rw [← hzs] at hO hstep
      have hlen : zs.length ≤ 4194304 := by
        have := (foldl_addN_len (xs.take j) []).2
        rw [List.length_take] at this
        have := HL.out
        rw [hzs]
        simp only [List.length_nil] at *
        omega
      obtain ⟨va, vc, hv, hR⟩ := hO.read (fun x hx => by rw [hzs] at hx; exact (foldl_addN_mem _ _ x hx).elim (fun h => by cases h) fun hin => h.2.2.2.1 x (List.mem_of_mem_take hin))
      have CI := fun W hW => specIndexOf_any zs xs[j] va zs.length vc W hW
      have hneg := fIdx_has zs xs[j]
      replace hzs := hide hzs
      subst hv
      cases hq : hasN zs xs[j] with
      | true =>
        rw [addN_yes hq] at hstep
        rw [hq] at hneg
        replace hq := hide hq
        replace hstep := hide hstep
        replace CI := hide CI
        simp only [Bool.not_true, decide_eq_false_iff_not] at hneg
        generalize fIdx (fun x => xs[j].toList == x.toList) zs = idx at hneg CI
        go_wp2_with (go_at_call 31; (with_reducible refine (CI.out _ hR).mono ?_); rintro e w1 ⟨rfl, rfl⟩)
        go_roundw
        case rel =>
          exact ⟨j + 1, by omega, by go_num, by rw [hstep.out]; exact hO, hb⟩
        case measure => simp [intOf]; omega
      | false =>
        rw [addN_no hq] at hstep
        rw [hq] at hneg
        replace hq := hide hq
        replace hstep := hide hstep
        replace CI := hide CI
        simp only [Bool.not_false, decide_eq_true_eq] at hneg
        generalize fIdx (fun x => xs[j].toList == x.toList) zs = idx at hneg CI
        obtain ⟨q, hqn⟩ : ∃ q, q = zs.length := ⟨_, rfl⟩
        obtain ⟨cs, hcs⟩ : ∃ cs, cs = zs.map Value.string := ⟨_, rfl⟩
        unfold OwnS at hO
        rw [← hqn, ← hcs] at hO
        rw [← hqn] at hlen hR CI ⊢
        replace hqn := hide hqn
        replace hcs := hide hcs
        go_wp2_with (first
          | (go_at_call 31; (with_reducible refine (CI.out _ hR).mono ?_); rintro e w1 ⟨rfl, rfl⟩)
          | (at_builtin; refine wpList_append_lies _ rfl _ _ 22 rfl w.heap.size 9 i0 (.string ⟨#[]⟩) 1 16 Try.underlying22 hi hz0 hz1 hz2 rfl (by decide) _ _ _ rfl (hO.alloc _) ⟨wr.heap.size, 0, none⟩ 1 1 [.string xs[j]] rfl rfl (one_new wr _ _) (one_cell _) (by decide) ?c3 ?c4 ?c5 _ rfl ?_))
        case c3 => unfold maxLen; omega
        case c4 => omega
        case c5 => simp; omega
        intro g cap2 w1 hown hgrow hat hlt
        go_wp2_with fail
        go_roundw
        case rel =>
          exact ⟨j + 1, by omega, by go_num, own_step hqn.out hcs.out hown hstep.out, (hb.alloc hsz _).grown hgrow (by simp; omega) fun k hk => (hO.lt k hk).1⟩
        case measure => simp [intOf]; omega
    · have h4 := hx.out
      rw [List.take_of_length_le (by omega)] at hO
      obtain ⟨z0, hz⟩ : ∃ z0, z0 = xs.foldl addN [] := ⟨_, rfl⟩
      have Z1 := hide (show ∀ x ∈ z0, x.size ≤ 9223372036854775807 by rw [hz]; exact fold_size (fun x hx => by cases hx) h.2.2.2.1)
      have Z2 := hide (show z0.length ≤ xs.length by rw [hz]; have := (foldl_addN_len xs []).2; simpa using this)
      rw [← hz] at hO
      replace hz := hide hz
      clear h4 hj
      have hbk := hb
      have hOk := hO
      clear hb hO
      go_wp2_with fail
      go_loopw [5, 7] (fun v i wr => ∃ j : Nat, j ≤ n' ∧ i = .int .i64 j ∧ OwnS w.heap.size wr v ((ys.take j).foldl addN z0) ∧ Below w.heap.size w wr) (fun _ i _ => n' - (intOf i).toNat)
      case atStart => exact ⟨0, by omega, rfl, by simpa using hOk, hbk⟩
      case round =>
        clear hbk hOk
        obtain ⟨j, hj, rfl, hO, hb⟩ := hrel
        have hsz := hb.size
        by_cases hjn : j < n'
        · have hjx : j < ys.length := by rw [← hy.out]; exact hjn
          obtain ⟨b, off, rfl, hlt', e0⟩ := (h'.below hb).get j hjx
          have hstep := foldl_take ys z0 j hjx
          obtain ⟨zs, hzs⟩ : ∃ zs, zs = (ys.take j).foldl addN z0 := ⟨_, rfl⟩
          rw [← hzs] at hO hstep
          have hlen : zs.length ≤ 4194304 := by
            have := (foldl_addN_len (ys.take j) z0).2
            rw [List.length_take] at this
            have := HL.out
            have := Z2.out
            rw [hzs]
            omega
          obtain ⟨va, vc, hv, hR⟩ := hO.read (fun x hx => by rw [hzs] at hx; exact (foldl_addN_mem _ _ x hx).elim (fun h1 => Z1.out x h1) fun hin => h'.2.2.2.1 x (List.mem_of_mem_take hin))
          have CI := fun W hW => specIndexOf_any zs ys[j] va zs.length vc W hW
          have hneg := fIdx_has zs ys[j]
          replace hzs := hide hzs
          subst hv
          cases hq : hasN zs ys[j] with
          | true =>
            rw [addN_yes hq] at hstep
            rw [hq] at hneg
            replace hq := hide hq
            replace hstep := hide hstep
            replace CI := hide CI
            simp only [Bool.not_true, decide_eq_false_iff_not] at hneg
            generalize fIdx (fun x => ys[j].toList == x.toList) zs = idx at hneg CI
            go_wp2_with (go_at_call 31; (with_reducible refine (CI.out _ hR).mono ?_); rintro e w1 ⟨rfl, rfl⟩)
            go_roundw
            case rel =>
              exact ⟨j + 1, by omega, by go_num, by rw [hstep.out]; exact hO, hb⟩
            case measure => simp [intOf]; omega
          | false =>
            rw [addN_no hq] at hstep
            rw [hq] at hneg
            replace hq := hide hq
            replace hstep := hide hstep
            replace CI := hide CI
            simp only [Bool.not_false, decide_eq_true_eq] at hneg
            generalize fIdx (fun x => ys[j].toList == x.toList) zs = idx at hneg CI
            obtain ⟨q, hqn⟩ : ∃ q, q = zs.length := ⟨_, rfl⟩
            obtain ⟨cs, hcs⟩ : ∃ cs, cs = zs.map Value.string := ⟨_, rfl⟩
            unfold OwnS at hO
            rw [← hqn, ← hcs] at hO
            rw [← hqn] at hlen hR CI ⊢
            replace hqn := hide hqn
            replace hcs := hide hcs
            go_wp2_with (first
              | (go_at_call 31; (with_reducible refine (CI.out _ hR).mono ?_); rintro e w1 ⟨rfl, rfl⟩)
              | (at_builtin; refine wpList_append_lies _ rfl _ _ 22 rfl w.heap.size 9 i0 (.string ⟨#[]⟩) 1 16 Try.underlying22 hi hz0 hz1 hz2 rfl (by decide) _ _ _ rfl (hO.alloc _) ⟨wr.heap.size, 0, none⟩ 1 1 [.string ys[j]] rfl rfl (one_new wr _ _) (one_cell _) (by decide) ?c3 ?c4 ?c5 _ rfl ?_))
            case c3 => unfold maxLen; omega
            case c4 => omega
            case c5 => simp; omega
            intro g cap2 w1 hown hgrow hat hlt
            go_wp2_with fail
            go_roundw
            case rel =>
              exact ⟨j + 1, by omega, by go_num, own_step hqn.out hcs.out hown hstep.out, (hb.alloc hsz _).grown hgrow (by simp; omega) fun k hk => (hO.lt k hk).1⟩
            case measure => simp [intOf]; omega
        · have h4 := hy.out
          rw [List.take_of_length_le (by omega), hz.out, ← uniteN_two] at hO
          go_wp2_with fail
          go_ret
          exact ⟨_, rfl, hO, hb⟩
end Go.Proofs.Ytknlbhclfeldbaa

namespace Go.Proofs.Ytknlbhclfeldbaa
open Go.RowKit
set_option linter.unusedVariables false
set_option linter.unusedSimpArgs false

theorem OwnS.mono {base base' : Nat} {w : World} {v : Value} {xs : List ByteArray} (h : OwnS base w v xs) (hb : base' ≤ base) : OwnS base' w v xs := by
  refine ⟨h.1, ?_⟩
  rcases h.2 with hn | ⟨g, cap, cur, hv, hg, r⟩
  · exact .inl hn
  · exact .inr ⟨g, cap, cur, hv, Nat.le_trans hb hg, r⟩
theorem Rss.news {w : World} {xs : List ByteArray} {p : Addr} {n cap : Nat} (h : Rss w xs (some p) n cap) : ∀ j u, (xs.map Value.string)[j]? = some u → w.cell? (p.add j) = some u := by
  intro j u hu
  rw [List.getElem?_map] at hu
  obtain ⟨x, hx, rfl⟩ := Option.map_eq_some_iff.1 hu
  obtain ⟨hj, rfl⟩ := List.getElem?_eq_some_iff.1 hx
  obtain ⟨b, off, hp, -, hc⟩ := h.get j hj
  injection hp with hp
  subst hp
  rw [Addr.add_lit]
  exact hc
theorem strings_cell (xs : List ByteArray) : ∀ u ∈ xs.map Value.string, u.oneCell' = true := by
  intro u hu
  obtain ⟨x, -, rfl⟩ := List.mem_map.1 hu
  rfl

set_option maxHeartbeats 800000 in
theorem cloneS_any (xs : List ByteArray) (p : Addr) (n cap : Nat) (w : World) (h : Rss w xs (some p) n cap) (hl : xs.length ≤ 2097152) :
    Calls Try.prog 28 #[.slice (some p) n cap] w (GivesS w xs) := by
  have hn : n = xs.length := h.1
  obtain ⟨i0, hi, hz0, hz1, hz2⟩ := info_parts Try.infoStr
  have hnil := fun W => Lib.run_eql_slice_nil (P := Try.prog) W 22 9 (some p) n cap 0 0 Try.underlying22
  simp only [Option.isNone_some] at hnil
  have hO := OwnS.none_ w w.heap.size (Nat.le_refl _)
  have hR := h.below (below_new w (.cells #[] 9))
  replace hn := hide hn
  go_enter Try.func28, Try.ntmps28
  go_wp2_with (at_builtin; refine wpList_append_own _ rfl _ _ 22 rfl w.heap.size 9 i0 (.string ⟨#[]⟩) 1 16 Try.underlying22 hi hz0 hz1 hz2 rfl (by decide) _ _ _ rfl hO p n cap (xs.map Value.string) rfl ?c0 hR.news (strings_cell xs) ?c3 ?c4 ?c5 ?_)
  case c0 => rw [List.length_map, hn.out, Nat.mul_one]
  case c3 => have := hn.out; simp only [List.length_nil]; unfold maxLen; omega
  case c4 => have := hn.out; simp only [List.length_nil]; omega
  case c5 => simp
  intro v' w1 hown hgrow _
  go_wp2_with fail
  go_ret
  refine ⟨v', rfl, ?_, (below_new w _).grown hgrow (by simp) fun k hk => (hO.lt k hk).1⟩
  rw [hn.out] at hown
  simpa [OwnS] using hown

/-- What is left. -/
def keptN (q : ByteArray → Bool) (xs : List ByteArray) : List ByteArray := xs.filter fun x => !q x
theorem keptN_take (q : ByteArray → Bool) (xs : List ByteArray) (k : Nat) (h : k < xs.length) : keptN q (xs.take (k + 1)) = keptN q (xs.take k) ++ (if q xs[k] then [] else [xs[k]]) := by
  rw [take_snoc xs k h, keptN, List.filter_append]
  congr 1
  cases hq : q xs[k] <;> simp [hq]
theorem keptN_le (q : ByteArray → Bool) (xs : List ByteArray) (k : Nat) : (keptN q (xs.take k)).length ≤ k := by
  have h := List.length_filter_le (fun x => !q x) (xs.take k)
  rw [List.length_take] at h
  unfold keptN
  omega
theorem keptN_all {q : ByteArray → Bool} {xs : List ByteArray} (h : ∀ i (hi : i < xs.length), q xs[i] = false) : keptN q xs = xs := by
  rw [keptN, List.filter_eq_self]
  intro x hx
  obtain ⟨i, hi, rfl⟩ := List.getElem_of_mem hx
  rw [h i hi]
  rfl
theorem Blk.setCells {w : World} {g T : Nat} : ∀ (vs : List Value) (o : Nat) {w : World} {cs : Array Value}, Blk w g T cs → ∃ cs', Blk (w.setCells g o vs) g T cs' ∧ cs'.size = cs.size ∧ ∀ i, i < o → cs'[i]? = cs[i]?
  | [], o, w, cs, h => ⟨cs, h, rfl, fun _ _ => rfl⟩
  | v :: vs, o, w, cs, h => by
    obtain ⟨cs', h1, h2, h3⟩ := Blk.setCells (w := w) vs (o + 1) (h.set_ o v)
    refine ⟨cs', h1, by rw [h2]; simp, fun i hi => ?_⟩
    rw [h3 i (by omega), Array.getElem?_setIfInBounds_ne (by omega)]
theorem Wrote.setCells {g : Nat} : ∀ (vs : List Value) (o : Nat) (w : World), Wrote [g] w (w.setCells g o vs)
  | [], o, w => Wrote.refl _ _
  | v :: vs, o, w => (Wrote.setCell (p := ⟨g, o, none⟩) (by simp) v).trans (Wrote.setCells vs (o + 1) _)
theorem Try.zeroStr : ∀ w, (zeroValue 9).run Try.prog w = .ok (.string ⟨#[]⟩) w := fun w => by kernel_rfl

set_option maxHeartbeats 800000 in
theorem indexFuncS_Without (q : ByteArray → Bool) (bx : Nat) (xs : List ByteArray) (a : Option Addr) (n cap : Nat) (w : World) (h : Rss w xs a n cap)
    (HP : ∀ x ∈ xs, Calls Try.prog 29 #[.string x, .pointer (some ⟨bx, 0, none⟩)] w fun e w' => e = .returned (.bool (q x)) ∧ w = w') :
    Calls Try.prog 47 #[.slice a n cap, .func (.func 29) #[] #[.pointer (some ⟨bx, 0, none⟩)]] w fun e w' => e = .returned (.int .i64 (fIdx q xs)) ∧ w = w' := by
  have hn : n ≤ 9223372036854775807 := by obtain ⟨_, h2, h3, _⟩ := h; unfold maxLen at h3; omega
  have hx := hide h.1
  have HP := hide HP
  go_enter Try.func47, Try.ntmps47
  go_wp2_with fail
  go_loopw [8] (fun i wr => ∃ j : Nat, j ≤ n ∧ i = .int .i64 j ∧ Hid (∀ i (h : i < xs.length), i < j → q xs[i] = false) ∧ w = wr) (fun i _ => n - (intOf i).toNat)
  case atStart => exact ⟨0, by omega, rfl, fun i _ hi => by omega, rfl⟩
  case round =>
    obtain ⟨j, hj, rfl, HR, rfl⟩ := hrel
    by_cases hjn : j < n
    · have hjx : j < xs.length := by rw [← hx.out]; exact hjn
      obtain ⟨b, off, rfl, hlt', e0⟩ := h.get j hjx
      have C := HP.out _ (List.getElem_mem hjx)
      cases hq : q xs[j] with
      | true =>
        rw [hq] at C
        replace C := hide C
        replace hq := hide hq
        go_wp2_with (go_at_call 29; (with_reducible refine C.out.mono ?_); rintro e w1 ⟨rfl, rfl⟩)
        go_ret
        exact ⟨ret_int (fIdx_at hjx hq.out HR.out).symm, rfl⟩
      | false =>
        rw [hq] at C
        replace C := hide C
        replace hq := hide hq
        go_wp2_with (go_at_call 29; (with_reducible refine C.out.mono ?_); rintro e w1 ⟨rfl, rfl⟩)
        go_roundw
        case rel =>
          refine ⟨j + 1, by omega, by go_num, fun i hi hij => ?_, by trivial⟩
          by_cases hij' : i < j
          · exact HR.out i hi hij'
          · obtain rfl : i = j := by omega
            exact hq.out
        case measure => simp [intOf]; omega
    · go_wp2
      go_ret
      have h4 := hx.out
      exact ⟨ret_int (fIdx_none fun i hi => HR.out i hi (by omega)).symm, rfl⟩

set_option maxHeartbeats 3200000 in
theorem deleteFuncS_Without (q : ByteArray → Bool) (bx g : Nat) (K : World → Prop) (HK : ∀ W i u, K W → K (W.setCell ⟨g, i, none⟩ u)) (xs : List ByteArray)
    (HP : ∀ x ∈ xs, ∀ W, K W → Calls Try.prog 29 #[.string x, .pointer (some ⟨bx, 0, none⟩)] W fun e w' => e = .returned (.bool (q x)) ∧ W = w')
    (cap : Nat) (cur : Array Value) (w : World) (hk : K w) (hB : Blk w g 9 cur) (hcur : ∀ i (h : i < xs.length), cur[i]? = some (.string xs[i])) (hcs : xs.length ≤ cur.size)
    (hR : Rss w xs (some ⟨g, 0, none⟩) xs.length cap) (hl : xs.length ≤ 2097152) :
    Calls Try.prog 27 #[.slice (some ⟨g, 0, none⟩) xs.length cap, .func (.func 29) #[] #[.pointer (some ⟨bx, 0, none⟩)]] w
      fun e w' => e = .returned (.slice (some ⟨g, 0, none⟩) (keptN q xs).length cap) ∧ Wrote [g] w w' ∧ ∃ cur', Blk w' g 9 cur' ∧ cur'.size = cur.size ∧ ∀ i (h : i < (keptN q xs).length), cur'[i]? = some (.string (keptN q xs)[i]) := by
  have CI := indexFuncS_Without q bx xs _ _ cap w hR (fun x hx => HP x hx w hk)
  have hcap : xs.length ≤ cap := hR.2.1
  have hcm : cap ≤ 9223372036854775807 := by have := hR.2.2.1; unfold maxLen at this; omega
  replace HP := hide HP
  replace HK := hide HK
  have HR := hide hR
  have HCUR := hide hcur
  obtain ⟨n, hn⟩ : ∃ n, n = xs.length := ⟨_, rfl⟩
  rw [← hn] at CI hcs hl hcap ⊢
  replace hn := hide hn
  clear hR hcur
  rcases Int.lt_or_le (fIdx q xs) 0 with hneg | hpos
  · have hall : ∀ i (hi : i < xs.length), q xs[i] = false := fun i hi => by
      have h := fIdx_ge q xs
      rw [decide_eq_false (by omega)] at h
      exact List.any_eq_false.1 h.symm _ (List.getElem_mem hi) |> Bool.eq_false_iff.2
    have e1 : fIdx q xs = -1 := fIdx_none hall
    have hkp := hide (keptN_all hall)
    rw [e1] at CI
    replace CI := hide CI
    clear e1 hneg hall
    go_enter Try.func27, Try.ntmps27
    go_wp2_with (go_at_call 47; (with_reducible refine CI.out.mono ?_); rintro e w1 ⟨rfl, rfl⟩)
    go_ret
    refine ⟨by rw [hkp.out, ← hn.out]; rfl, Wrote.refl _ _, cur, hB, rfl, fun i h => ?_⟩
    have := HCUR.out i (by rw [hkp.out] at h; exact h)
    simpa [hkp.out] using this
  · obtain ⟨k0, hk0, e1, ht, hf⟩ : ∃ (k0 : Nat) (h : k0 < xs.length), fIdx q xs = (k0 : Int) ∧ q xs[k0] = true ∧ ∀ i (hi : i < xs.length), i < k0 → q xs[i] = false := by
      cases e : xs.findIdx? q with
      | none => simp [fIdx, e] at hpos
      | some i =>
        obtain ⟨h1, h2, h3⟩ := List.findIdx?_eq_some_iff_getElem.1 e
        exact ⟨i, h1, by simp [fIdx, e], h2, fun j hj hji => by simpa using h3 j hji⟩
    rw [e1] at CI
    have hk0' : keptN q (xs.take (k0 + 1)) = xs.take k0 := by
      rw [keptN_take q xs k0 hk0, ht]
      simp only [if_true, List.append_nil]
      refine keptN_all fun i hi => ?_
      rw [List.getElem_take]
      exact hf i _ (by rw [List.length_take] at hi; omega)
    have hk0n : k0 < n := by rw [hn.out]; exact hk0
    replace CI := hide CI
    replace hf := hide hf
    replace ht := hide ht
    replace hk0' := hide hk0'
    clear e1 hpos
    go_enter Try.func27, Try.ntmps27
    go_wp2_with (go_at_call 47; (with_reducible refine CI.out.mono ?_); rintro e w1 ⟨rfl, rfl⟩)
    go_loopw [5, 6, 7] (fun i j _ wr => ∃ i' j' : Nat, i = .int .i64 i' ∧ j = .int .i64 j' ∧ i' < j' ∧ j' ≤ n ∧ Hid (i' = (keptN q (xs.take j')).length) ∧ (∃ cur' : Array Value, Blk wr g 9 cur' ∧ cur'.size = cur.size ∧
        Hid (∀ p (h : p < (keptN q (xs.take j')).length), cur'[p]? = some (.string (keptN q (xs.take j'))[p])) ∧ Hid (∀ p (h : p < xs.length), j' ≤ p → cur'[p]? = some (.string xs[p]))) ∧ K wr ∧ Wrote [g] w wr) (fun _ j _ _ => n - (intOf j).toNat)
    case atStart =>
      refine ⟨k0, k0 + 1, rfl, by go_num, by omega, by omega, ?_, ⟨cur, hB, rfl, ?_, fun p h _ => HCUR.out p h⟩, hk, Wrote.refl _ _⟩
      · rw [Hid, hk0'.out, List.length_take]
        omega
      · intro p h
        have h1 : p < xs.length := by rw [hk0'.out, List.length_take] at h; omega
        have := HCUR.out p h1
        simp only [hk0'.out, List.getElem_take]
        exact this
    case round =>
      obtain ⟨i', j', rfl, rfl, hij, hj, HI, ⟨cur', hB', hcs', HC1, HC2⟩, hkw, hb⟩ := hrel
      have hgl := hB'.lt
      by_cases hjn : j' < n
      · have hjx : j' < xs.length := by rw [← hn.out]; exact hjn
        have c0 : wr.cell? ⟨g, j', none⟩ = some (.string xs[j']) := by rw [hB'.cell]; exact HC2.out j' hjx (Nat.le_refl _)
        have z0 := hB'.free i'
        have w0 := hB'.at_ (i := i') (by omega)
        have C := HP.out _ (List.getElem_mem hjx) wr hkw
        have hstep := keptN_take q xs j' hjx
        cases hq : q xs[j'] with
        | true =>
          rw [hq] at C hstep
          simp only [if_true, List.append_nil] at hstep
          replace C := hide C
          replace hstep := hide hstep
          replace hkw := hide hkw
          clear hq w0 z0
          go_wp2_with (go_at_call 29; (with_reducible refine C.out.mono ?_); rintro e w1 ⟨rfl, rfl⟩)
          go_roundw
          case rel =>
            (repeat apply Exists.intro)
            refine ⟨?_, rfl⟩
            refine ⟨i', j' + 1, rfl, by go_num, by omega, by omega, by rw [Hid, hstep.out]; exact HI.out, ⟨cur', hB', hcs', ?_, fun p h hp => HC2.out p h (by omega)⟩, hkw.out, hb⟩
            rw [Hid, hstep.out]
            exact HC1.out
          case measure => simp [intOf]; omega
        | false =>
          rw [hq] at C hstep
          simp only [Bool.false_eq_true, if_false] at hstep
          replace C := hide C
          replace hstep := hide hstep
          replace hkw := hide hkw
          clear hq
          go_wp2_with (go_at_call 29; (with_reducible refine C.out.mono ?_); rintro e w1 ⟨rfl, rfl⟩)
          go_roundw
          case rel =>
            have hI := HI.out
            (repeat apply Exists.intro)
            refine ⟨?_, rfl⟩
            refine ⟨i' + 1, j' + 1, by go_num, by go_num, by omega, by omega, by rw [Hid, hstep.out, List.length_append]; simpa using hI, ⟨_, hB'.set_ i' _, by simpa using hcs', ?_, ?_⟩, HK.out _ _ _ hkw.out, hb.trans (Wrote.setCell (by simp) _)⟩
            · intro p h
              by_cases hp : p = i'
              · subst hp
                rw [Array.getElem?_setIfInBounds_self_of_lt (by omega)]
                simp only [hstep.out]
                rw [List.getElem_append_right (by omega)]
                simp
              · rw [Array.getElem?_setIfInBounds_ne (by omega)]
                have h1 : p < (keptN q (xs.take j')).length := by rw [hstep.out, List.length_append] at h; simp at h; omega
                simp only [hstep.out]
                rw [List.getElem_append_left h1]
                exact HC1.out p h1
            · intro p h hp
              rw [Array.getElem?_setIfInBounds_ne (by omega)]
              exact HC2.out p h (by omega)
          case measure => simp [intOf]; omega
      · have hjn' : j' = n := by omega
        have htk : xs.take j' = xs := List.take_of_length_le (by rw [hjn', hn.out]; exact Nat.le_refl _)
        have hI := HI.out
        have hC := HC1.out
        rw [htk] at hI hC
        have hcl : ∀ ty, (Builtin.clear_ #[22] ty #[.slice (some ⟨g, i', none⟩) (n - i') (cap - i')]).run Try.prog wr = .ok (.tuple #[]) (wr.setCells g i' (List.replicate (n - i') (.string ⟨#[]⟩))) :=
          fun ty => Lib.run_clear_slice wr _ _ ty _ Try.underlying22 Try.zeroStr rfl rfl g i' _ _ (by omega) (fun t ht => by rw [hB'.cell, Array.getElem?_eq_getElem (by omega)]; rfl) (fun t ht => hB'.free _)
        replace hI := hide hI
        replace hC := hide hC
        clear htk hjn
        go_wp2_with fail
        go_ret
        obtain ⟨cs2, B2, s2, k2⟩ := Blk.setCells (w := wr) (List.replicate (n - i') (.string ⟨#[]⟩)) i' hB'
        refine ⟨by first | rfl | (rw [hI.out]; rfl), hb.trans (Wrote.setCells _ _ _), cs2, B2, by rw [s2, hcs'], fun p h => ?_⟩
        rw [k2 p (by rw [hI.out]; exact h)]
        exact hC.out p h
set_option maxHeartbeats 800000 in
theorem indexFuncS_Free (q : ByteArray → Bool) (bx : Nat) (xs : List ByteArray) (a : Option Addr) (n cap : Nat) (w : World) (h : Rss w xs a n cap)
    (HP : ∀ x ∈ xs, Calls Try.prog 40 #[.string x, .pointer (some ⟨bx, 0, none⟩)] w fun e w' => e = .returned (.bool (q x)) ∧ w = w') :
    Calls Try.prog 47 #[.slice a n cap, .func (.func 40) #[] #[.pointer (some ⟨bx, 0, none⟩)]] w fun e w' => e = .returned (.int .i64 (fIdx q xs)) ∧ w = w' := by
  have hn : n ≤ 9223372036854775807 := by obtain ⟨_, h2, h3, _⟩ := h; unfold maxLen at h3; omega
  have hx := hide h.1
  have HP := hide HP
  go_enter Try.func47, Try.ntmps47
  go_wp2_with fail
  go_loopw [8] (fun i wr => ∃ j : Nat, j ≤ n ∧ i = .int .i64 j ∧ Hid (∀ i (h : i < xs.length), i < j → q xs[i] = false) ∧ w = wr) (fun i _ => n - (intOf i).toNat)
  case atStart => exact ⟨0, by omega, rfl, fun i _ hi => by omega, rfl⟩
  case round =>
    obtain ⟨j, hj, rfl, HR, rfl⟩ := hrel
    by_cases hjn : j < n
    · have hjx : j < xs.length := by rw [← hx.out]; exact hjn
      obtain ⟨b, off, rfl, hlt', e0⟩ := h.get j hjx
      have C := HP.out _ (List.getElem_mem hjx)
      cases hq : q xs[j] with
      | true =>
        rw [hq] at C
        replace C := hide C
        replace hq := hide hq
        go_wp2_with (go_at_call 40; (with_reducible refine C.out.mono ?_); rintro e w1 ⟨rfl, rfl⟩)
        go_ret
        exact ⟨ret_int (fIdx_at hjx hq.out HR.out).symm, rfl⟩
      | false =>
        rw [hq] at C
        replace C := hide C
        replace hq := hide hq
        go_wp2_with (go_at_call 40; (with_reducible refine C.out.mono ?_); rintro e w1 ⟨rfl, rfl⟩)
        go_roundw
        case rel =>
          refine ⟨j + 1, by omega, by go_num, fun i hi hij => ?_, by trivial⟩
          by_cases hij' : i < j
          · exact HR.out i hi hij'
          · obtain rfl : i = j := by omega
            exact hq.out
        case measure => simp [intOf]; omega
    · go_wp2
      go_ret
      have h4 := hx.out
      exact ⟨ret_int (fIdx_none fun i hi => HR.out i hi (by omega)).symm, rfl⟩

set_option maxHeartbeats 3200000 in
theorem deleteFuncS_Free (q : ByteArray → Bool) (bx g : Nat) (K : World → Prop) (HK : ∀ W i u, K W → K (W.setCell ⟨g, i, none⟩ u)) (xs : List ByteArray)
    (HP : ∀ x ∈ xs, ∀ W, K W → Calls Try.prog 40 #[.string x, .pointer (some ⟨bx, 0, none⟩)] W fun e w' => e = .returned (.bool (q x)) ∧ W = w')
    (cap : Nat) (cur : Array Value) (w : World) (hk : K w) (hB : Blk w g 9 cur) (hcur : ∀ i (h : i < xs.length), cur[i]? = some (.string xs[i])) (hcs : xs.length ≤ cur.size)
    (hR : Rss w xs (some ⟨g, 0, none⟩) xs.length cap) (hl : xs.length ≤ 2097152) :
    Calls Try.prog 27 #[.slice (some ⟨g, 0, none⟩) xs.length cap, .func (.func 40) #[] #[.pointer (some ⟨bx, 0, none⟩)]] w
      fun e w' => e = .returned (.slice (some ⟨g, 0, none⟩) (keptN q xs).length cap) ∧ Wrote [g] w w' ∧ ∃ cur', Blk w' g 9 cur' ∧ cur'.size = cur.size ∧ ∀ i (h : i < (keptN q xs).length), cur'[i]? = some (.string (keptN q xs)[i]) := by
  have CI := indexFuncS_Free q bx xs _ _ cap w hR (fun x hx => HP x hx w hk)
  have hcap : xs.length ≤ cap := hR.2.1
  have hcm : cap ≤ 9223372036854775807 := by have := hR.2.2.1; unfold maxLen at this; omega
  replace HP := hide HP
  replace HK := hide HK
  have HR := hide hR
  have HCUR := hide hcur
  obtain ⟨n, hn⟩ : ∃ n, n = xs.length := ⟨_, rfl⟩
  rw [← hn] at CI hcs hl hcap ⊢
  replace hn := hide hn
  clear hR hcur
  rcases Int.lt_or_le (fIdx q xs) 0 with hneg | hpos
  · have hall : ∀ i (hi : i < xs.length), q xs[i] = false := fun i hi => by
      have h := fIdx_ge q xs
      rw [decide_eq_false (by omega)] at h
      exact List.any_eq_false.1 h.symm _ (List.getElem_mem hi) |> Bool.eq_false_iff.2
    have e1 : fIdx q xs = -1 := fIdx_none hall
    have hkp := hide (keptN_all hall)
    rw [e1] at CI
    replace CI := hide CI
    clear e1 hneg hall
    go_enter Try.func27, Try.ntmps27
    go_wp2_with (go_at_call 47; (with_reducible refine CI.out.mono ?_); rintro e w1 ⟨rfl, rfl⟩)
    go_ret
    refine ⟨by rw [hkp.out, ← hn.out]; rfl, Wrote.refl _ _, cur, hB, rfl, fun i h => ?_⟩
    have := HCUR.out i (by rw [hkp.out] at h; exact h)
    simpa [hkp.out] using this
  · obtain ⟨k0, hk0, e1, ht, hf⟩ : ∃ (k0 : Nat) (h : k0 < xs.length), fIdx q xs = (k0 : Int) ∧ q xs[k0] = true ∧ ∀ i (hi : i < xs.length), i < k0 → q xs[i] = false := by
      cases e : xs.findIdx? q with
      | none => simp [fIdx, e] at hpos
      | some i =>
        obtain ⟨h1, h2, h3⟩ := List.findIdx?_eq_some_iff_getElem.1 e
        exact ⟨i, h1, by simp [fIdx, e], h2, fun j hj hji => by simpa using h3 j hji⟩
    rw [e1] at CI
    have hk0' : keptN q (xs.take (k0 + 1)) = xs.take k0 := by
      rw [keptN_take q xs k0 hk0, ht]
      simp only [if_true, List.append_nil]
      refine keptN_all fun i hi => ?_
      rw [List.getElem_take]
      exact hf i _ (by rw [List.length_take] at hi; omega)
    have hk0n : k0 < n := by rw [hn.out]; exact hk0
    replace CI := hide CI
    replace hf := hide hf
    replace ht := hide ht
    replace hk0' := hide hk0'
    clear e1 hpos
    go_enter Try.func27, Try.ntmps27
    go_wp2_with (go_at_call 47; (with_reducible refine CI.out.mono ?_); rintro e w1 ⟨rfl, rfl⟩)
    go_loopw [5, 6, 7] (fun i j _ wr => ∃ i' j' : Nat, i = .int .i64 i' ∧ j = .int .i64 j' ∧ i' < j' ∧ j' ≤ n ∧ Hid (i' = (keptN q (xs.take j')).length) ∧ (∃ cur' : Array Value, Blk wr g 9 cur' ∧ cur'.size = cur.size ∧
        Hid (∀ p (h : p < (keptN q (xs.take j')).length), cur'[p]? = some (.string (keptN q (xs.take j'))[p])) ∧ Hid (∀ p (h : p < xs.length), j' ≤ p → cur'[p]? = some (.string xs[p]))) ∧ K wr ∧ Wrote [g] w wr) (fun _ j _ _ => n - (intOf j).toNat)
    case atStart =>
      refine ⟨k0, k0 + 1, rfl, by go_num, by omega, by omega, ?_, ⟨cur, hB, rfl, ?_, fun p h _ => HCUR.out p h⟩, hk, Wrote.refl _ _⟩
      · rw [Hid, hk0'.out, List.length_take]
        omega
      · intro p h
        have h1 : p < xs.length := by rw [hk0'.out, List.length_take] at h; omega
        have := HCUR.out p h1
        simp only [hk0'.out, List.getElem_take]
        exact this
    case round =>
      obtain ⟨i', j', rfl, rfl, hij, hj, HI, ⟨cur', hB', hcs', HC1, HC2⟩, hkw, hb⟩ := hrel
      have hgl := hB'.lt
      by_cases hjn : j' < n
      · have hjx : j' < xs.length := by rw [← hn.out]; exact hjn
        have c0 : wr.cell? ⟨g, j', none⟩ = some (.string xs[j']) := by rw [hB'.cell]; exact HC2.out j' hjx (Nat.le_refl _)
        have z0 := hB'.free i'
        have w0 := hB'.at_ (i := i') (by omega)
        have C := HP.out _ (List.getElem_mem hjx) wr hkw
        have hstep := keptN_take q xs j' hjx
        cases hq : q xs[j'] with
        | true =>
          rw [hq] at C hstep
          simp only [if_true, List.append_nil] at hstep
          replace C := hide C
          replace hstep := hide hstep
          replace hkw := hide hkw
          clear hq w0 z0
          go_wp2_with (go_at_call 40; (with_reducible refine C.out.mono ?_); rintro e w1 ⟨rfl, rfl⟩)
          go_roundw
          case rel =>
            (repeat apply Exists.intro)
            refine ⟨?_, rfl⟩
            refine ⟨i', j' + 1, rfl, by go_num, by omega, by omega, by rw [Hid, hstep.out]; exact HI.out, ⟨cur', hB', hcs', ?_, fun p h hp => HC2.out p h (by omega)⟩, hkw.out, hb⟩
            rw [Hid, hstep.out]
            exact HC1.out
          case measure => simp [intOf]; omega
        | false =>
          rw [hq] at C hstep
          simp only [Bool.false_eq_true, if_false] at hstep
          replace C := hide C
          replace hstep := hide hstep
          replace hkw := hide hkw
          clear hq
          go_wp2_with (go_at_call 40; (with_reducible refine C.out.mono ?_); rintro e w1 ⟨rfl, rfl⟩)
          go_roundw
          case rel =>
            have hI := HI.out
            (repeat apply Exists.intro)
            refine ⟨?_, rfl⟩
            refine ⟨i' + 1, j' + 1, by go_num, by go_num, by omega, by omega, by rw [Hid, hstep.out, List.length_append]; simpa using hI, ⟨_, hB'.set_ i' _, by simpa using hcs', ?_, ?_⟩, HK.out _ _ _ hkw.out, hb.trans (Wrote.setCell (by simp) _)⟩
            · intro p h
              by_cases hp : p = i'
              · subst hp
                rw [Array.getElem?_setIfInBounds_self_of_lt (by omega)]
                simp only [hstep.out]
                rw [List.getElem_append_right (by omega)]
                simp
              · rw [Array.getElem?_setIfInBounds_ne (by omega)]
                have h1 : p < (keptN q (xs.take j')).length := by rw [hstep.out, List.length_append] at h; simp at h; omega
                simp only [hstep.out]
                rw [List.getElem_append_left h1]
                exact HC1.out p h1
            · intro p h hp
              rw [Array.getElem?_setIfInBounds_ne (by omega)]
              exact HC2.out p h (by omega)
          case measure => simp [intOf]; omega
      · have hjn' : j' = n := by omega
        have htk : xs.take j' = xs := List.take_of_length_le (by rw [hjn', hn.out]; exact Nat.le_refl _)
        have hI := HI.out
        have hC := HC1.out
        rw [htk] at hI hC
        have hcl : ∀ ty, (Builtin.clear_ #[22] ty #[.slice (some ⟨g, i', none⟩) (n - i') (cap - i')]).run Try.prog wr = .ok (.tuple #[]) (wr.setCells g i' (List.replicate (n - i') (.string ⟨#[]⟩))) :=
          fun ty => Lib.run_clear_slice wr _ _ ty _ Try.underlying22 Try.zeroStr rfl rfl g i' _ _ (by omega) (fun t ht => by rw [hB'.cell, Array.getElem?_eq_getElem (by omega)]; rfl) (fun t ht => hB'.free _)
        replace hI := hide hI
        replace hC := hide hC
        clear htk hjn
        go_wp2_with fail
        go_ret
        obtain ⟨cs2, B2, s2, k2⟩ := Blk.setCells (w := wr) (List.replicate (n - i') (.string ⟨#[]⟩)) i' hB'
        refine ⟨by first | rfl | (rw [hI.out]; rfl), hb.trans (Wrote.setCells _ _ _), cs2, B2, by rw [s2, hcs'], fun p h => ?_⟩
        rw [k2 p (by rw [hI.out]; exact h)]
        exact hC.out p h
end Go.Proofs.Ytknlbhclfeldbaa

namespace Go.Proofs.Ytknlbhclfeldbaa
open Go.RowKit
set_option linter.unusedVariables false
set_option linter.unusedSimpArgs false

set_option maxHeartbeats 1600000 in
theorem growS_any (n : Nat) (w : World) (hl : n ≤ 4194304) :
    Calls Try.prog 48 #[.slice none 0 0, .int .i64 (n : Int)] w (GivesS w []) := by
  obtain ⟨i0, hi, hz0, hz1, hz2⟩ := info_parts Try.infoStr
  by_cases h0 : n = 0
  · subst h0
    go_enter Try.func48, Try.ntmps48
    go_wp2_with fail
    go_ret
    exact ⟨_, rfl, World.ownsRow_nil _ _ _ _, Below.refl _ _⟩
  · have hrz : ∀ ty, (Builtin.append_ #[22, 3] ty #[.slice none 0 0, .int .i64 (n : Int)]).run Try.prog w =
        .ok (.slice (some ⟨w.heap.size, 0, none⟩) n (grownCap w n 0 9)) (w.drew.alloc (.cells (#[] ++ Builtin.zeroCells (Value.string ⟨#[]⟩).cells n ++ Builtin.zeroCells (Value.string ⟨#[]⟩).cells (grownCap w n 0 9 - n)) 9)) := fun ty => by
      have h := Lib.run_append_grow_zeros (P := Try.prog) w 22 3 ty 9 i0 (.string ⟨#[]⟩) .i64 .i64 Try.underlying22 Try.underlying3 hi hz0 none 0 0 [] (run_firstCells_none w.drew i0.size 0 0 0) n (by omega) (by rw [hz1]; decide) (by omega) (by omega)
        (by rw [hz2]; omega) (growslice_fits (by omega) (by rw [hz2]; omega))
      simpa using h
    have hge : n ≤ grownCap w n 0 9 := grownCap_ge w _ _ _
    obtain ⟨G, hG⟩ : ∃ G, G = grownCap w n 0 9 := ⟨_, rfl⟩
    have hG63 := grownCap_le_maxLen w n 0 9 (by unfold maxLen; omega)
    rw [← hG] at hrz hge hG63
    have hG64 : G ≤ 9223372036854775807 := by unfold maxLen at hG63; omega
    have h4 : (n : Int) > 0 := by omega
    replace hG := hide hG
    replace hG63 := hide hG63
    go_enter Try.func48, Try.ntmps48
    go_wp2_with (at_builtin; refine Lib.wpList_append_run _ rfl _ _ 22 3 rfl _ _ rfl rfl _ _ (hrz _) ?_)
    go_wp2_with fail
    go_ret
    refine ⟨_, rfl, ?_, ((Below.refl _ w).drew).alloc (Nat.le_refl _) _⟩
    refine ⟨by simp, .inr ⟨w.heap.size, G, _, rfl, Nat.le_refl _, heap_alloc_new w.drew _, Nat.zero_le _, hG63.out, ?_, by simp⟩⟩
    simp [Builtin.zeroCells, Value.cells]
    omega

set_option maxHeartbeats 3200000 in
theorem concatS_any (xs ys : List ByteArray) (p p' : Addr) (n cap n' cap' B : Nat) (w : World) (h : Rss w xs (some p) n cap) (h' : Rss w ys (some p') n' cap') (hB : Blk w B 22 #[.slice (some p) n cap, .slice (some p') n' cap']) (hl : xs.length + ys.length ≤ 4194304) :
    Calls Try.prog 32 #[.slice (some ⟨B, 0, none⟩) 2 2] w (GivesS w (xs ++ ys)) := by
  have hn : n + n' ≤ 4194304 := by rw [h.1, h'.1]; exact hl
  have hx := hide h.1
  have hy := hide h'.1
  obtain ⟨i0, hi, hz0, hz1, hz2⟩ := info_parts Try.infoStr
  obtain ⟨c0, c1⟩ := hB.two
  replace hl := hide hl
  have CG := hide fun W => growS_any (n + n') W hn
  go_enter Try.func32, Try.ntmps32
  go_wp2_with fail
  go_loopw [3, 11] (fun s i wr => ((i = .int .i64 0 ∧ s = .int .i64 0) ∨ (i = .int .i64 1 ∧ s = .int .i64 (n : Int)) ∨ (i = .int .i64 2 ∧ s = .int .i64 ((n + n' : Nat) : Int))) ∧ w = wr) (fun _ i _ => 2 - (intOf i).toNat)
  case atStart => exact ⟨.inl ⟨rfl, rfl⟩, rfl⟩
  case round =>
    obtain ⟨hr, rfl⟩ := hrel
    rcases hr with ⟨rfl, rfl⟩ | ⟨rfl, rfl⟩ | ⟨rfl, rfl⟩
    · go_wp2_with fail
      go_roundw
      case rel => exact ⟨.inr (.inl ⟨rfl, rfl⟩), by trivial⟩
      case measure => simp [intOf]
    · go_wp2_with fail
      go_roundw
      case rel => exact ⟨.inr (.inr ⟨rfl, by first | rfl | (congr 1; omega)⟩), by trivial⟩
      case measure => simp [intOf]
    · go_wp2_with fail
      refine (CG.out _).mono ?_
      rintro e w1 ⟨v, rfl, hO, b1⟩
      have B1 := hB.under b1
      have r1 := h.below b1
      have r2 := h'.below b1
      obtain ⟨d0, d1⟩ := B1.two
      clear c0 c1
      go_wp2_with fail
      go_loopw [6, 27] (fun v i wr => ((i = .int .i64 0 ∧ OwnS w.heap.size wr v []) ∨ (i = .int .i64 1 ∧ OwnS w.heap.size wr v xs) ∨ (i = .int .i64 2 ∧ OwnS w.heap.size wr v (xs ++ ys))) ∧ Below w.heap.size w wr) (fun _ i _ => 2 - (intOf i).toNat)
      case atStart => exact ⟨.inl ⟨rfl, hO⟩, b1⟩
      case round =>
        clear hO d0 d1 r1 r2 B1
        obtain ⟨hr, hb⟩ := hrel
        have hsz := hb.size
        have B1 := hB.under hb
        have r1 := h.below hb
        have r2 := h'.below hb
        obtain ⟨d0, d1⟩ := B1.two
        rcases hr with ⟨rfl, hO⟩ | ⟨rfl, hO⟩ | ⟨rfl, hO⟩
        · go_wp2_with (at_builtin; refine wpList_append_own _ rfl _ _ 22 rfl w.heap.size 9 i0 (.string ⟨#[]⟩) 1 16 Try.underlying22 hi hz0 hz1 hz2 rfl (by decide) _ _ _ rfl hO p n cap (xs.map Value.string) rfl ?c0 r1.news (strings_cell xs) ?c3 ?c4 ?c5 ?_)
          case c0 => rw [List.length_map, hx.out, Nat.mul_one]
          case c3 => simp only [List.length_nil]; unfold maxLen; omega
          case c4 => simp only [List.length_nil]; omega
          case c5 => exact hsz
          intro v' w2 hown hgrow _
          go_wp2_with fail
          go_roundw
          case rel =>
            refine ⟨.inr (.inl ⟨rfl, ?_⟩), hb.grown hgrow hsz fun k hk => (hO.lt k hk).1⟩
            have h9 := hx.out
            rw [h9] at hown
            simpa [OwnS] using hown
          case measure => simp [intOf]
        · go_wp2_with (at_builtin; refine wpList_append_own _ rfl _ _ 22 rfl w.heap.size 9 i0 (.string ⟨#[]⟩) 1 16 Try.underlying22 hi hz0 hz1 hz2 rfl (by decide) _ _ _ rfl hO p' n' cap' (ys.map Value.string) rfl ?c0 r2.news (strings_cell ys) ?c3 ?c4 ?c5 ?_)
          case c0 => rw [List.length_map, hy.out, Nat.mul_one]
          case c3 => have := hx.out; unfold maxLen; omega
          case c4 => have := hx.out; omega
          case c5 => exact hsz
          intro v' w2 hown hgrow _
          go_wp2_with fail
          go_roundw
          case rel =>
            refine ⟨.inr (.inr ⟨rfl, ?_⟩), hb.grown hgrow hsz fun k hk => (hO.lt k hk).1⟩
            have h9 := hy.out
            rw [h9] at hown
            simpa [OwnS] using hown
          case measure => simp [intOf]
        · go_wp2_with fail
          go_ret
          exact ⟨_, rfl, hO, hb⟩
/-- What a call gives that makes a list of strings that is not nil. -/
def GivesN (w : World) (xs : List ByteArray) (e : Ending) (w' : World) : Prop := ∃ v, e = .returned v ∧ OwnS w.heap.size w' v xs ∧ Below w.heap.size w w' ∧ v.ownBlock.isSome = true
theorem GivesN.gives {w : World} {xs : List ByteArray} {e : Ending} {w' : World} (h : GivesN w xs e w') : GivesS w xs e w' := by
  obtain ⟨v, h1, h2, h3, -⟩ := h
  exact ⟨v, h1, h2, h3⟩
theorem Rss.grown {w w' : World} {xs : List ByteArray} {a : Option Addr} {n cap : Nat} {row : Option Nat} (h : Rss w xs a n cap) (hg : w.grownBy w' row) (hne : ∀ p, a = some p → some p.block ≠ row) : Rss w' xs a n cap := by
  obtain ⟨h1, h2, h3, hs, h4⟩ := h
  refine ⟨h1, h2, h3, hs, ?_⟩
  rcases h4 with h4 | ⟨hne', b, off, rfl, hc⟩
  · exact .inl h4
  · exact .inr ⟨hne', b, off, rfl, fun i hi => hg.cell (hc i hi) (by simpa using hne ⟨b, off, none⟩ rfl)⟩
theorem hasN_contains (xs : List ByteArray) (s : ByteArray) : (xs.any fun x => s.toList == x.toList) = hasN xs s := rfl

set_option maxHeartbeats 3200000 in
theorem implUniteNames_nn (xs ys : List ByteArray) (p p' : Addr) (n cap n' cap' : Nat) (w : World) (h : Rss w xs (some p) n cap) (h' : Rss w ys (some p') n' cap') (hl : xs.length + ys.length ≤ 4194304) :
    Calls Try.prog 16 #[.slice (some p) n cap, .slice (some p') n' cap'] w (GivesN w (uniteN xs ys)) := by
  obtain ⟨i0, hi, hz0, hz1, hz2⟩ := info_parts Try.infoStr
  have k0 : Below w.heap.size w ((w.alloc (.cells #[] 9)).alloc (.cells #[.slice (some p) n cap, .slice (some p') n' cap'] 22)) := (below_new _ _).alloc (by simp) _
  have CC := hide (concatS_any xs ys p p' n cap n' cap' _ _ (h.below k0) (h'.below k0) (Blk.new2 w _ _ _) hl)
  have hO0 := OwnS.none_ w w.heap.size (Nat.le_refl _)
  have hsz4 : ∀ x ∈ xs ++ ys, x.size ≤ 9223372036854775807 := fun x hx => (List.mem_append.1 hx).elim (h.2.2.2.1 x) (h'.2.2.2.1 x)
  obtain ⟨zs, hzs⟩ : ∃ zs, zs = xs ++ ys := ⟨_, rfl⟩
  have hu : uniteN xs ys = zs.foldl addN [] := by rw [hzs]; rfl
  have hzl : zs.length ≤ 4194304 := by rw [hzs, List.length_append]; exact hl
  rw [← hzs] at CC hsz4
  rw [hu]
  replace hzs := hide hzs
  replace hsz4 := hide hsz4
  clear hu hl h h'
  go_enter Try.func16, Try.ntmps16
  go_wp2_with fail
  refine CC.out.mono ?_
  rintro e w1 ⟨vz, rfl, hZ, b1⟩
  obtain ⟨az, cz, rfl, hRz⟩ := hZ.read hsz4.out
  have hgz := hide (show ∀ q, az = some q → w.heap.size + 1 + 1 ≤ q.block by
    intro q hq
    obtain ⟨g, cur, rfl, hbase, -, -⟩ := hZ.free rfl q hq
    simpa using hbase)
  have hO1 : OwnS w.heap.size w1 (.slice (some ⟨w.heap.size, 0, none⟩) 0 0) [] := OwnS.below (OwnS.mono (World.ownsRow.alloc hO0 _) (Nat.le_refl _)) b1
  have hb1 := k0.trans (b1.mono k0.size)
  obtain ⟨nz, hnz⟩ : ∃ nz, nz = zs.length := ⟨_, rfl⟩
  rw [← hnz] at hRz hzl ⊢
  replace hnz := hide hnz
  have hRz := hide hRz
  clear hZ
  go_wp2_with fail
  go_loopw [5, 14] (fun v i wr => ∃ j : Nat, j ≤ nz ∧ i = .int .i64 j ∧ OwnS w.heap.size wr v ((zs.take j).foldl addN []) ∧ Hid (Rss wr zs az nz cz) ∧ Hid (∀ q, az = some q → v.ownBlock ≠ some q.block) ∧ Hid (v.ownBlock.isSome = true) ∧ Below w.heap.size w wr ∧ w1.heap.size ≤ wr.heap.size) (fun _ i _ => nz - (intOf i).toNat)
  case atStart =>
    refine ⟨0, by omega, rfl, hO1, hRz, fun q hq e => ?_, rfl, hb1, Nat.le_refl _⟩
    have := hgz.out q hq
    simp [Value.ownBlock] at e
    omega
  case round =>
    clear hO1 hb1
    obtain ⟨j, hj, rfl, hO, HR, HN, HS, hb, hsw⟩ := hrel
    have hsz := hb.size
    by_cases hjn : j < nz
    · have hjx : j < zs.length := by rw [← hnz.out]; exact hjn
      obtain ⟨b, off, haz, hlt', e0⟩ := HR.out.get j hjx
      have hstep := foldl_take zs [] j hjx
      obtain ⟨acc, hacc⟩ : ∃ acc, acc = (zs.take j).foldl addN [] := ⟨_, rfl⟩
      rw [← hacc] at hO hstep
      have hlen : acc.length ≤ 4194304 := by
        have := (foldl_addN_len (zs.take j) []).2
        rw [List.length_take] at this
        rw [hacc]
        simp only [List.length_nil] at *
        omega
      obtain ⟨va, vc, hv, hR⟩ := hO.read (fun x hx => by rw [hacc] at hx; exact (foldl_addN_mem _ _ x hx).elim (fun h => by cases h) fun hin => hsz4.out x (List.mem_of_mem_take hin))
      have CI := fun W hW => containsString_any acc zs[j] va acc.length vc W hW
      replace hacc := hide hacc
      subst hv
      have hltd := hide (show ∀ q, az = some q → q.block < wr.heap.size from fun q hq => by rw [haz] at hq; injection hq with hq; subst hq; exact hlt')
      rw [haz] at HR HN hltd ⊢
      clear haz
      cases hq : hasN acc zs[j] with
      | true =>
        rw [addN_yes hq] at hstep
        simp only [hasN_contains, hq] at CI
        replace hq := hide hq
        replace hstep := hide hstep
        replace CI := hide CI
        go_wp2_with (go_at_call 33; (with_reducible refine (CI.out _ hR).mono ?_); rintro e w2 ⟨rfl, rfl⟩)
        go_roundw
        case rel =>
          exact ⟨j + 1, by omega, by go_num, by rw [hstep.out]; exact hO, HR, HN, HS, hb, hsw⟩
        case measure => simp [intOf]; omega
      | false =>
        rw [addN_no hq] at hstep
        simp only [hasN_contains, hq] at CI
        replace hq := hide hq
        replace hstep := hide hstep
        replace CI := hide CI
        obtain ⟨q, hqn⟩ : ∃ q, q = acc.length := ⟨_, rfl⟩
        obtain ⟨cs, hcs⟩ : ∃ cs, cs = acc.map Value.string := ⟨_, rfl⟩
        unfold OwnS at hO
        rw [← hqn, ← hcs] at hO
        rw [← hqn] at hlen hR CI HN ⊢
        replace hqn := hide hqn
        replace hcs := hide hcs
        go_wp2_with (first
          | (go_at_call 33; (with_reducible refine (CI.out _ hR).mono ?_); rintro e w2 ⟨rfl, rfl⟩)
          | (at_builtin; refine wpList_append_lies _ rfl _ _ 22 rfl w.heap.size 9 i0 (.string ⟨#[]⟩) 1 16 Try.underlying22 hi hz0 hz1 hz2 rfl (by decide) _ _ _ rfl (hO.alloc _) ⟨wr.heap.size, 0, none⟩ 1 1 [.string zs[j]] rfl rfl (one_new wr _ _) (one_cell _) (by decide) ?c3 ?c4 ?c5 _ rfl ?_))
        case c3 => unfold maxLen; omega
        case c4 => omega
        case c5 => simp; omega
        intro g cap2 w2 hown hgrow hat hlt
        go_wp2_with fail
        go_roundw
        case rel =>
          refine ⟨j + 1, by omega, by go_num, own_step hqn.out hcs.out hown hstep.out, ?_, ?_, rfl, (hb.alloc hsz _).grown hgrow (by simp; omega) fun k hk => (hO.lt k hk).1, ?_⟩
          · exact (HR.out.below (below_new _ _)).grown hgrow fun p hp e => HN.out p hp e.symm
          · intro p hp e
            have e' : g = p.block := by simpa [Value.ownBlock] using e
            rcases hat with h1 | h1
            · exact HN.out p hp (by rw [h1, e'])
            · have := hltd.out p hp
              try simp at h1
              omega
          · have := hgrow.size
            simp at this
            omega
        case measure => simp [intOf]; omega
    · have h4 := hnz.out
      rw [List.take_of_length_le (by omega)] at hO
      go_wp2_with fail
      go_ret
      exact ⟨_, rfl, hO, hb, HS.out⟩
theorem implUniteNames_any (xs ys : List ByteArray) (p p' : Addr) (n cap n' cap' : Nat) (w : World) (h : Rss w xs (some p) n cap) (h' : Rss w ys (some p') n' cap') (hl : xs.length + ys.length ≤ 4194304) :
    Calls Try.prog 16 #[.slice (some p) n cap, .slice (some p') n' cap'] w (GivesS w (uniteN xs ys)) := (implUniteNames_nn xs ys p p' n cap n' cap' w h h' hl).mono fun _ _ h => h.gives
theorem OwnS.parts {base g cap : Nat} {w : World} {xs : List ByteArray} (h : OwnS base w (.slice (some ⟨g, 0, none⟩) xs.length cap) xs) : ∃ cur, Blk w g 9 cur ∧ cur.size = cap ∧ xs.length ≤ cap ∧ cap ≤ maxLen := by
  rcases h.2 with ⟨h, _⟩ | ⟨g', cap', cur, hv, hb, hg, hle, hm, hsz, htk⟩
  · cases h
  · injection hv with h1 h2 h3
    injection h1 with h1
    injection h1 with h1
    subst h1 h3
    exact ⟨cur, hg, by omega, hle, hm⟩
theorem own_of_blk {base g cap : Nat} {w : World} {xs : List ByteArray} {cur : Array Value} (hB : Blk w g 9 cur) (hb : base ≤ g) (hle : xs.length ≤ cap) (hm : cap ≤ maxLen) (hs : cur.size = cap)
    (hc : ∀ i (h : i < xs.length), cur[i]? = some (.string xs[i])) : OwnS base w (.slice (some ⟨g, 0, none⟩) xs.length cap) xs := by
  refine ⟨by simp, .inr ⟨g, cap, cur, rfl, hb, hB, hle, hm, by omega, ?_⟩⟩
  refine List.ext_getElem? fun i => ?_
  rw [List.getElem?_take, List.getElem?_map]
  by_cases hi : i < xs.length
  · rw [if_pos (by omega), List.getElem?_eq_getElem hi]
    have := hc i hi
    simpa using this
  · rw [if_neg (by omega), List.getElem?_eq_none (by omega)]
    rfl
theorem deleteNil_Without (bx : Nat) (q : ByteArray → Bool) (w : World)
    (CI : Calls Try.prog 47 #[.slice none 0 0, .func (.func 29) #[] #[.pointer (some ⟨bx, 0, none⟩)]] w fun e w' => e = .returned (.int .i64 (fIdx q [])) ∧ w = w') :
    Calls Try.prog 27 #[.slice none 0 0, .func (.func 29) #[] #[.pointer (some ⟨bx, 0, none⟩)]] w fun e w' => e = .returned (.slice none 0 0) ∧ w = w' := by
  have e1 : fIdx q [] = -1 := rfl
  rw [e1] at CI
  replace CI := hide CI
  go_enter Try.func27, Try.ntmps27
  go_wp2_with (go_at_call 47; (with_reducible refine CI.out.mono ?_); rintro e w1 ⟨rfl, rfl⟩)
  go_ret
  exact ⟨rfl, rfl⟩
theorem deleteNil_Free (bx : Nat) (q : ByteArray → Bool) (w : World)
    (CI : Calls Try.prog 47 #[.slice none 0 0, .func (.func 40) #[] #[.pointer (some ⟨bx, 0, none⟩)]] w fun e w' => e = .returned (.int .i64 (fIdx q [])) ∧ w = w') :
    Calls Try.prog 27 #[.slice none 0 0, .func (.func 40) #[] #[.pointer (some ⟨bx, 0, none⟩)]] w fun e w' => e = .returned (.slice none 0 0) ∧ w = w' := by
  have e1 : fIdx q [] = -1 := rfl
  rw [e1] at CI
  replace CI := hide CI
  go_enter Try.func27, Try.ntmps27
  go_wp2_with (go_at_call 47; (with_reducible refine CI.out.mono ?_); rintro e w1 ⟨rfl, rfl⟩)
  go_ret
  exact ⟨rfl, rfl⟩
theorem withoutLit_any (x s : ByteArray) (bx : Nat) (w : World) (hA : w.cell? ⟨bx, 0, none⟩ = some (.string s)) :
    Calls Try.prog 29 #[.string x, .pointer (some ⟨bx, 0, none⟩)] w fun e w' => e = .returned (.bool (x.toList == s.toList)) ∧ w = w' := by
  go_enter Try.func29, Try.ntmps29
  go_wp2_with fail
  go_ret
  exact ⟨rfl, rfl⟩
set_option maxHeartbeats 1600000 in
theorem implWithoutName_any (xs : List ByteArray) (s : ByteArray) (p : Addr) (n cap : Nat) (w : World) (h : Rss w xs (some p) n cap) (hl : xs.length ≤ 2097152) :
    Calls Try.prog 11 #[.slice (some p) n cap, .string s] w (GivesS w (withoutN xs s)) := by
  have C1 := hide (cloneS_any xs p n cap _ (h.below (below_new w (.cells #[.string s] 9))) hl)
  have hsz := h.2.2.2.1
  have B0 := Blk.new w 9 #[.string s]
  clear h
  go_enter Try.func11, Try.ntmps11
  go_wp2_with fail
  refine C1.out.mono ?_
  rintro e w1 ⟨v, rfl, hO, b1⟩
  have k1 := below_of_alloc b1
  have B1 := B0.under b1
  obtain ⟨a, vc, rfl, hR⟩ := hO.read hsz
  by_cases hx0 : ∃ q, a = some q
  · obtain ⟨q, rfl⟩ := hx0
    obtain ⟨g, cur, rfl, hbase, hG, hlen⟩ := hO.free rfl q rfl
    have hne : w.heap.size ≠ g := by simp at hbase; omega
    have hcur : ∀ i (h : i < xs.length), cur[i]? = some (.string xs[i]) := fun i hi => by
      obtain ⟨b, off, hp, -, hc⟩ := hR.get i hi
      injection hp with hp
      injection hp with e1 e2 e3
      subst e1 e2
      rw [← hG.cell]
      simpa using hc
    have CD := hide (deleteFuncS_Without (fun x => x.toList == s.toList) w.heap.size g (fun W => W.cell? ⟨w.heap.size, 0, none⟩ = some (.string s)) (fun W i u hW => by rw [World.cell?_setCell_other _ _ _ _ (by simp [hne])]; exact hW) xs
      (fun x hx W hW => withoutLit_any x s w.heap.size W hW) vc cur w1 (B1.cell 0) hG hcur hlen hR hl)
    go_wp2_with fail
    refine CD.out.mono ?_
    rintro e w2 ⟨rfl, hw2, cur', hG', hs', hc'⟩
    go_wp2_with fail
    go_ret
    obtain ⟨cur2, hG2, p1, p2, p3⟩ := hO.parts
    have hcc : cur2 = cur := by
      have := hG2.symm.trans hG
      injection this with this
      injection this
    refine ⟨_, rfl, own_of_blk hG' (by simp at hbase; omega) (Nat.le_trans (List.length_filter_le _ _) p2) p3 (by rw [hs', ← hcc]; exact p1) hc', k1.trans (hw2.below k1.size (by intro b hb; simp at hb hbase; omega))⟩
  · have ha : a = none := by
      cases a with
      | none => rfl
      | some q => exact absurd ⟨q, rfl⟩ hx0
    subst ha
    have hx : xs = [] := by
      rcases hR.2.2.2.2 with h | ⟨_, _, _, h, _⟩
      · exact h
      · cases h
    subst hx
    obtain rfl : vc = 0 := by
      rcases hO.2 with ⟨h, -⟩ | ⟨g, cap', cur, h, -⟩
      · injection h
      · cases h
    have CI := hide (indexFuncS_Without (fun x => x.toList == s.toList) w.heap.size [] none 0 0 w1 hR (fun x hx => by cases hx))
    go_wp2_with fail
    refine (deleteNil_Without w.heap.size (fun x => x.toList == s.toList) w1 CI.out).mono ?_
    rintro e w2 ⟨rfl, rfl⟩
    go_wp2_with fail
    go_ret
    exact ⟨_, rfl, World.ownsRow_nil _ _ _ _, k1⟩
end Go.Proofs.Ytknlbhclfeldbaa

namespace Go.Proofs.Ytknlbhclfeldbaa
open Go.RowKit
set_option linter.unusedVariables false
set_option linter.unusedSimpArgs false

/-- The last digit. -/
def dgt (k : Nat) : UInt8 := UInt8.ofNat (48 + k % 10)
theorem dgt_nat (k : Nat) : (dgt k).toNat = 48 + k % 10 := by
  rw [dgt, UInt8.toNat_ofNat']
  omega
/-- The digits of a number ahead of a text. -/
def mdig (k : Nat) (out : ByteArray) : ByteArray := if h : k = 0 then out else mdig (k / 10) (⟨#[dgt k]⟩ ++ out)
termination_by k
decreasing_by omega
theorem mdig_zero (out : ByteArray) : mdig 0 out = out := by rw [mdig]; simp
theorem mdig_pos {k : Nat} (h : 0 < k) (out : ByteArray) : mdig k out = mdig (k / 10) (⟨#[dgt k]⟩ ++ out) := by
  rw [mdig]
  rw [dif_neg (by omega)]
theorem mdig_size (k : Nat) : ∀ out : ByteArray, (mdig k out).size ≤ k + out.size := by
  induction k using Nat.strongRecOn with
  | _ k ih =>
    intro out
    by_cases h : k = 0
    · subst h
      rw [mdig_zero]
      omega
    · rw [mdig_pos (by omega)]
      have := ih (k / 10) (by omega) (⟨#[dgt k]⟩ ++ out)
      rw [ByteArray.size_append] at this
      have h1 : (ByteArray.mk #[dgt k]).size = 1 := rfl
      omega
/-- The text that marks the number k. -/
def mtext (k : Nat) : ByteArray := if k = 0 then ⟨#[109, 48]⟩ else ⟨#[109]⟩ ++ mdig k ⟨#[]⟩
theorem mtext_size (k : Nat) (h : k ≤ 16777216) : (mtext k).size ≤ 9223372036854775807 := by
  unfold mtext
  split
  · decide
  · rw [ByteArray.size_append]
    have := mdig_size k ⟨#[]⟩
    have h1 : (ByteArray.mk #[109]).size = 1 := rfl
    have h2 : (ByteArray.mk #[]).size = 0 := rfl
    omega

/-- One digit as a text. -/
theorem digit_text {P : Program} (w : World) (src dst e : TypeId) (hs : P.underlying src = some (.slice e)) (he : P.underlying e = some (.int .u8)) (hd : P.underlying dst = some .string) (q : Nat) :
    Sem.run P (convert src dst (.slice (some ⟨w.heap.size, 0, none⟩) 1 1)) (w.alloc (.cells #[.int .u8 (48 + (q : Int) % 10)] e)) =
      .ok (.string ⟨#[dgt q]⟩) (w.alloc (.cells #[.int .u8 (48 + (q : Int) % 10)] e)) := by
  have h := run_convert_bytes_back (P := P) (w.alloc (.cells #[.int .u8 (48 + (q : Int) % 10)] e)) src dst e ⟨w.heap.size, 0, none⟩ 1 [dgt q] hs he hd (fun j hj => by
    have : j = 0 := by simpa using hj
    subst this
    have hc := (Blk.new w e #[.int .u8 (48 + (q : Int) % 10)]).cell 0
    simp only [Addr.add_lit, Nat.add_zero, List.getElem_cons_zero]
    rw [hc]
    rw [dgt_nat]
    simp)
  exact h

set_option maxHeartbeats 1600000 in
theorem markText_any (k : Nat) (w : World) (hk : k ≤ 16777216) : Calls Try.prog 30 #[.int .i64 (k : Int)] w fun e w' => e = .returned (.string (mtext k)) ∧ Below w.heap.size w w' := by
  by_cases h0 : k = 0
  · subst h0
    go_enter Try.func30, Try.ntmps30
    go_wp2_with fail
    go_ret
    exact ⟨rfl, Below.refl _ _⟩
  · have hm : mtext k = ⟨#[109]⟩ ++ mdig k ⟨#[]⟩ := by rw [mtext, if_neg h0]
    have hd : decide ((k : Int) ≤ 0) = false := by simp; omega
    have hbound := mdig_size k ⟨#[]⟩
    have hz : (ByteArray.mk #[]).size = 0 := rfl
    replace hm := hide hm
    go_enter Try.func30, Try.ntmps30
    go_wp2_with fail
    go_loopw [0, 3] (fun c o wr => ∃ q : Nat, q ≤ k ∧ c = .int .i64 (q : Int) ∧ (∃ s : ByteArray, o = .string s ∧ s.size + q ≤ k ∧ Hid (mdig q s = mdig k ⟨#[]⟩)) ∧ Below w.heap.size w wr) (fun c _ _ => (intOf c).toNat)
    case atStart => exact ⟨k, by omega, rfl, ⟨⟨#[]⟩, rfl, by rw [hz]; omega, rfl⟩, Below.refl _ _⟩
    case round =>
      obtain ⟨q, hq, rfl, ⟨s, rfl, hs, Hs⟩, hb⟩ := hrel
      have hsz := hb.size
      by_cases hq0 : q = 0
      · subst hq0
        have h3 := Hs.out
        rw [mdig_zero] at h3
        replace h3 := hide h3
        go_wp2_with fail
        go_ret
        exact ⟨by rw [hm.out, ← h3.out]; rfl, hb⟩
      · have hcv : Sem.run Try.prog (convert 65 9 (.slice (some ⟨wr.heap.size, 0, none⟩) 1 1)) (wr.alloc (.cells #[.int .u8 (48 + (q : Int) % 10)] 5)) =
            .ok (.string ⟨#[dgt q]⟩) (wr.alloc (.cells #[.int .u8 (48 + (q : Int) % 10)] 5)) := digit_text _ _ _ _ Try.underlying65 Try.underlying5 Try.underlying9 q
        have hstep := hide (mdig_pos (k := q) (by omega) s)
        have h1 : (ByteArray.mk #[dgt q]).size = 1 := rfl
        have hdiv : ((q / 10 : Nat) : Int) = (q : Int) / 10 := by omega
        have hsum : (ByteArray.mk #[dgt q] ++ s).size = 1 + s.size := by rw [ByteArray.size_append, h1]
        replace hsum := hide hsum
        replace hdiv := hide hdiv
        go_wp2_with fail
        go_roundw
        case rel =>
          refine ⟨q / 10, by omega, by rw [hdiv.out], ⟨_, rfl, ?_, ?_⟩, hb.alloc hsz _⟩
          · rw [hsum.out]
            omega
          · rw [Hid, ← hstep.out]
            exact Hs.out
        case measure => simp [intOf]; omega

/-- The texts that mark n places, from k on. -/
def marks (k n : Nat) : List ByteArray := (List.range n).map fun i => mtext (k + i)
theorem marks_len (k n : Nat) : (marks k n).length = n := by simp [marks]
theorem marks_get (k n i : Nat) (h : i < (marks k n).length) : (marks k n)[i] = mtext (k + i) := by simp [marks]

set_option maxHeartbeats 1600000 in
theorem markStringS_any (k n cap g : Nat) (cs : Array Value) (w : World) (hk : k ≤ 4194304) (hn : n ≤ 8388608) (hB : Blk w g 9 cs) (hcs : n ≤ cs.size) :
    Calls Try.prog 13 #[.slice (some ⟨g, 0, none⟩) n cap, .int .i64 (k : Int)] w fun e w' => e = .returned (.int .i64 ((k + n : Nat) : Int)) ∧ Wrote [g] w w' ∧ (∀ i, i < n → w'.cell? ⟨g, i, none⟩ = some (.string (mtext (k + i)))) := by
  have hg := hB.lt
  go_enter Try.func13, Try.ntmps13
  go_wp2_with fail
  go_loopw [1, 5] (fun c i wr => ∃ j : Nat, j ≤ n ∧ i = .int .i64 j ∧ c = .int .i64 ((k : Int) + (j : Int)) ∧ (∃ cs' : Array Value, Blk wr g 9 cs' ∧ n ≤ cs'.size ∧ Hid (∀ i, i < j → cs'[i]? = some (.string (mtext (k + i))))) ∧ Wrote [g] w wr) (fun _ i _ => n - (intOf i).toNat)
  case atStart => exact ⟨0, by omega, rfl, by simp, ⟨cs, hB, hcs, fun i hi => by omega⟩, Wrote.refl _ _⟩
  case round =>
    obtain ⟨j, hj, rfl, rfl, ⟨cs', hB', hcs', HC⟩, hb⟩ := hrel
    by_cases hjn : j < n
    · have CM := fun W => markText_any (k + j) W (by omega)
      rw [Int.natCast_add] at CM
      replace CM := hide CM
      have HG := hide (show ∀ w' : World, Below wr.heap.size wr w' → Blk w' g 9 cs' from fun w' hw => hB'.under hw)
      go_wp2_with (go_at_call 30; (with_reducible refine (CM.out _).mono ?_); rintro e w1 ⟨rfl, b1⟩; have B1 := HG.out _ b1; have c1 := B1.at_ (i := j) (by omega); have z1 := B1.free j)
      go_roundw
      case rel =>
        refine ⟨j + 1, by omega, by go_num, (by first | go_num | (congr 1; omega)), ⟨_, B1.set_ j _, by simpa using hcs', fun i hi => ?_⟩, (hb.trans (Wrote.of_below b1)).trans (Wrote.setCell (by simp) _)⟩
        by_cases hij : i < j
        · rw [Array.getElem?_setIfInBounds_ne (by omega)]
          exact HC.out i hij
        · obtain rfl : i = j := by omega
          rw [Array.getElem?_setIfInBounds_self_of_lt (by omega)]
      case measure => simp [intOf]; omega
    · obtain rfl : j = n := by omega
      go_wp2_with fail
      go_ret
      exact ⟨ret_int (by omega), hb, fun i hi => by rw [hB'.cell]; exact HC.out i hi⟩
theorem markStringS_none (k cap : Nat) (a : Option Addr) (w : World) (hk : k ≤ 4194304) :
    Calls Try.prog 13 #[.slice a 0 cap, .int .i64 (k : Int)] w fun e w' => e = .returned (.int .i64 (k : Int)) ∧ w' = w := by
  go_enter Try.func13, Try.ntmps13
  go_wp2_with fail
  refine wp_loop_rounds 1 ?_
  rw [rounds_succ]
  go_wp2_with fail
  go_ret
  exact ⟨rfl, rfl⟩
set_option maxHeartbeats 1600000 in
theorem heldStringS_any (k n cap : Nat) (a : Option Addr) (w : World) (hk : k ≤ 4194304) (hn : n ≤ 8388608) (h : Rss w (marks k n) a n cap) :
    Calls Try.prog 14 #[.slice a n cap, .int .i64 (k : Int)] w fun e w' => e = .returned (.int .i64 ((k + n : Nat) : Int)) ∧ Below w.heap.size w w' := by
  go_enter Try.func14, Try.ntmps14
  go_wp2_with fail
  go_loopw [1, 5] (fun c i wr => ∃ j : Nat, j ≤ n ∧ i = .int .i64 j ∧ c = .int .i64 ((k : Int) + (j : Int)) ∧ Below w.heap.size w wr) (fun _ i _ => n - (intOf i).toNat)
  case atStart => exact ⟨0, by omega, rfl, by simp, Below.refl _ _⟩
  case round =>
    obtain ⟨j, hj, rfl, rfl, hb⟩ := hrel
    have hsz := hb.size
    by_cases hjn : j < n
    · have hjx : j < (marks k n).length := by rw [marks_len]; exact hjn
      obtain ⟨b, off, rfl, hlt', e0⟩ := (h.below hb).get j hjx
      rw [marks_get] at e0
      have CM := fun W => markText_any (k + j) W (by omega)
      rw [Int.natCast_add] at CM
      replace CM := hide CM
      have i0 : (0 : Int) ≤ (j : Int) := by omega
      have i1 : (j : Int) < (n : Int) := by omega
      have HB := hide hlt'
      go_wp2_with fail
      go_region_held3 (fun W => W.cell? ⟨b, off + j, none⟩ = some (.string (mtext (k + j))))
        (first | exact e0 | exact c1)
        (first
          | (go_at_call 30; (with_reducible refine (CM.out _).mono ?_); rintro e w1 ⟨rfl, b1⟩
             have c1 : w1.cell? ⟨b, off + j, none⟩ = some (.string (mtext (k + j))) := (b1.cell (p := ⟨b, off + j, none⟩) HB.out).trans e0
             have k1 : Below w.heap.size w w1 := (hb.drew).trans (b1.mono hsz)))
      go_wp2_with fail
      go_roundw
      case rel => exact ⟨j + 1, by omega, by go_num, (by first | go_num | (congr 1; omega)), k1⟩
      case measure => simp [intOf]; omega
    · obtain rfl : j = n := by omega
      go_wp2_with fail
      go_ret
      exact ⟨ret_int (by omega), hb⟩
end Go.Proofs.Ytknlbhclfeldbaa

namespace Go.Proofs.Ytknlbhclfeldbaa
open Go.RowKit
set_option linter.unusedVariables false
set_option linter.unusedSimpArgs false

theorem Rss.wrote {w w' : World} {xs : List ByteArray} {a : Option Addr} {n cap : Nat} {fp : List Nat} (h : Rss w xs a n cap) (hw : Wrote fp w w') (hne : ∀ p, a = some p → p.block ∉ fp) : Rss w' xs a n cap := by
  obtain ⟨h1, h2, h3, hs, h4⟩ := h
  refine ⟨h1, h2, h3, hs, ?_⟩
  rcases h4 with h4 | ⟨hne', b, off, rfl, hc⟩
  · exact .inl h4
  · exact .inr ⟨hne', b, off, rfl, fun i hi => (hw.same (World.block_lt_of_cell? _ _ (hc i hi)) (hne ⟨b, off, none⟩ rfl) _).trans (hc i hi)⟩
theorem OwnS.at_ {base : Nat} {w : World} {xs ys : List ByteArray} {a : Option Addr} {cap : Nat} (h : OwnS base w (.slice a ys.length cap) xs) : ∀ p, a = some p → base ≤ p.block ∧ p.block < w.heap.size := by
  intro p hp
  exact h.lt p.block (by subst hp; rfl)
theorem size_of_rss {w : World} {g T : Nat} {cs : Array Value} {xs : List ByteArray} {n cap : Nat} (hB : Blk w g T cs) (h : Rss w xs (some ⟨g, 0, none⟩) n cap) : xs.length ≤ cs.size := by
  by_cases h0 : xs.length = 0
  · omega
  · obtain ⟨b, off, hp, -, hc⟩ := h.get (xs.length - 1) (by omega)
    injection hp with hp
    injection hp with e1 e2
    subst e1 e2
    rw [hB.cell] at hc
    have := (Array.getElem?_eq_some_iff.1 hc).1
    omega
theorem OwnS.wrote {base : Nat} {w w' : World} {v : Value} {xs : List ByteArray} {fp : List Nat} (h : OwnS base w v xs) (hw : Wrote fp w w') (hne : ∀ g, v.ownBlock = some g → g ∉ fp) : OwnS base w' v xs := by
  refine ⟨h.1, ?_⟩
  rcases h.2 with hn | ⟨g, cap, cur, rfl, hg, hh, r⟩
  · exact .inl hn
  · exact .inr ⟨g, cap, cur, rfl, hg, (hw.block g (Array.getElem?_eq_some_iff.1 hh).1 (hne g rfl)).trans hh, r⟩
theorem Wrote.sub {fp : List Nat} {w w' : World} {B : Nat} (h : Wrote fp w w') (hB : B ≤ w.heap.size) (hfp : ∀ b ∈ fp, B ≤ b) : Below B w w' := h.below hB hfp

/-- A result is marked. -/
theorem markRes {base : Nat} {w : World} {a : Option Addr} {cap : Nat} {xs : List ByteArray} (hO : OwnS base w (.slice a xs.length cap) xs) (hl : xs.length ≤ 8388608) :
    Calls Try.prog 13 #[.slice a xs.length cap, .int .i64 1] w fun e w' => e = .returned (.int .i64 ((1 + xs.length : Nat) : Int)) ∧ (∃ fp, (∀ b ∈ fp, base ≤ b ∧ b < w.heap.size) ∧ (∀ b ∈ fp, ∃ p, a = some p ∧ p.block = b) ∧ Wrote fp w w') ∧ Rss w' (marks 1 xs.length) a xs.length cap := by
  have hsz : ∀ x ∈ marks 1 xs.length, x.size ≤ 9223372036854775807 := by
    intro x hx
    simp only [marks, List.mem_map, List.mem_range] at hx
    obtain ⟨i, hi, rfl⟩ := hx
    exact mtext_size _ (by omega)
  rcases hO.2 with ⟨h, hn⟩ | ⟨g, cap', cur, hv, hb, hg, hle, hm, hs, htk⟩
  · injection h with h1 h2 h3
    subst h1 h3
    rw [hn]
    refine (markStringS_none 1 0 none w (by omega)).mono ?_
    rintro e w' ⟨rfl, rfl⟩
    exact ⟨rfl, ⟨[], by simp, by simp, Wrote.refl _ _⟩, rfl, Nat.le_refl _, by simp, by simp [marks], .inl rfl⟩
  · injection hv with h1 h2 h3
    subst h1 h3
    refine (markStringS_any 1 xs.length cap g cur w (by omega) hl hg (by omega)).mono ?_
    rintro e w' ⟨rfl, hw, hc⟩
    refine ⟨rfl, ⟨[g], by simp; exact ⟨hb, Blk.lt hg⟩, by simp, hw⟩, (marks_len _ _).symm, hle, hm, hsz, ?_⟩
    by_cases h0 : marks 1 xs.length = []
    · exact .inl h0
    · refine .inr ⟨h0, g, 0, rfl, fun i hi => ?_⟩
      rw [marks_get, Nat.zero_add]
      exact hc i (by rw [marks_len] at hi; exact hi)
end Go.Proofs.Ytknlbhclfeldbaa

namespace Go.Proofs.Ytknlbhclfeldbaa
open Go.RowKit
set_option linter.unusedVariables false
set_option linter.unusedSimpArgs false

theorem OwnS.new (w : World) (base : Nat) (hb : base ≤ w.heap.size) (xs : List ByteArray) (hl : xs.length ≤ 16) : OwnS base (w.alloc (.cells (xs.map Value.string).toArray 9)) (.slice (some ⟨w.heap.size, 0, none⟩) xs.length xs.length) xs :=
  ⟨by simp, .inr ⟨w.heap.size, xs.length, _, rfl, hb, heap_alloc_new w _, Nat.le_refl _, by unfold maxLen; omega, by simp, by rw [Nat.mul_one]; exact List.take_of_length_le (by simp)⟩⟩
theorem boundN_eq (t : Tm) : boundN t = if (t.kind == 6) && (t.args.length == 1) then ([t.name], 0) else if (t.kind == 8) && (t.args.length == 2) then ([t.name], 1) else if (t.kind == 9) && (t.args.length == 1) then ([t.name, t.other], 0) else ([], -1) := rfl

set_option maxHeartbeats 3200000 in
theorem l7Bound_any (t : Tm) (l : Lt) (w : World) (h : Md w t l) :
    Calls Try.prog 36 #[.agg #[.int .i64 t.kind, .string t.name, .string t.other, .int .i64 t.n, .int .i64 t.type.kind, .slice l.ta l.tn l.tc, .int .i64 t.res.kind, .slice l.ra l.rn l.rc, .slice l.aa l.an l.ac]] w fun e w' => ∃ v, e = .returned (.tuple #[v, .int .i64 (boundN t).2]) ∧ OwnS w.heap.size w' v (boundN t).1 ∧ Below w.heap.size w w' := by
  obtain ⟨-, -, -, hr⟩ := h.shape
  have hn : l.an = t.args.length := hr.1
  have k0 : Below w.heap.size w (w.alloc (.cells #[.int .i64 t.kind, .string t.name, .string t.other, .int .i64 t.n, .int .i64 t.type.kind, .slice l.ta l.tn l.tc, .int .i64 t.res.kind, .slice l.ra l.rn l.rc, .slice l.aa l.an l.ac] 42)) := below_new _ _
  have hE := boundN_eq t
  have e1 : ((l.an : Int) == 1) = (t.args.length == 1) := by rw [hn, Bool.eq_iff_iff]; simp; omega
  have e2 : ((l.an : Int) == 2) = (t.args.length == 2) := by rw [hn, Bool.eq_iff_iff]; simp; omega
  have O0 := fun xs hl => OwnS.new (w.alloc (.cells #[.int .i64 t.kind, .string t.name, .string t.other, .int .i64 t.n, .int .i64 t.type.kind, .slice l.ta l.tn l.tc, .int .i64 t.res.kind, .slice l.ra l.rn l.rc, .slice l.aa l.an l.ac] 42)) w.heap.size (by simp) xs hl
  rw [← e1, ← e2] at hE
  clear hr hn e1 e2 h
  by_cases k6 : t.kind = 6
  · have g6 := beq_iff_eq.2 k6
    have g8 : (t.kind == 8) = false := by rw [k6]; rfl
    have g9 : (t.kind == 9) = false := by rw [k6]; rfl
    clear k6
    cases c : ((l.an : Int) == 1) with
    | true =>
      simp only [g6, c, Bool.and_true, if_true] at hE
      rw [hE]
      replace hE := hide hE
      have O1 := hide (O0 [t.name] (by simp))
      clear O0
      go_enter Try.func36, Try.ntmps36
      go_wp2_with fail
      go_ret2
      first
        | exact ⟨_, rfl, by simpa using O1.out, k0.alloc (by simp) _⟩
        | exact ⟨_, rfl, World.ownsRow_nil _ _ _ _, k0⟩
    | false =>
      simp only [g6, g8, g9, c, Bool.and_false, Bool.false_and, Bool.false_eq_true, if_false] at hE
      rw [hE]
      replace hE := hide hE
      have O1 := hide (O0 [] (by simp))
      clear O0
      go_enter Try.func36, Try.ntmps36
      go_wp2_with fail
      go_ret2
      first
        | exact ⟨_, rfl, by simpa using O1.out, k0.alloc (by simp) _⟩
        | exact ⟨_, rfl, World.ownsRow_nil _ _ _ _, k0⟩
  have g6 := beq_eq_false_iff_ne.2 k6
  by_cases k8 : t.kind = 8
  · have g8 := beq_iff_eq.2 k8
    have g9 : (t.kind == 9) = false := by rw [k8]; rfl
    clear k8 k6
    cases c : ((l.an : Int) == 2) with
    | true =>
      simp only [g6, g8, c, Bool.and_true, Bool.false_and, Bool.false_eq_true, if_false, if_true] at hE
      rw [hE]
      replace hE := hide hE
      have O1 := hide (O0 [t.name] (by simp))
      clear O0
      go_enter Try.func36, Try.ntmps36
      go_wp2_with fail
      go_ret2
      first
        | exact ⟨_, rfl, by simpa using O1.out, k0.alloc (by simp) _⟩
        | exact ⟨_, rfl, World.ownsRow_nil _ _ _ _, k0⟩
    | false =>
      simp only [g6, g8, g9, c, Bool.and_false, Bool.false_and, Bool.false_eq_true, if_false] at hE
      rw [hE]
      replace hE := hide hE
      have O1 := hide (O0 [] (by simp))
      clear O0
      go_enter Try.func36, Try.ntmps36
      go_wp2_with fail
      go_ret2
      first
        | exact ⟨_, rfl, by simpa using O1.out, k0.alloc (by simp) _⟩
        | exact ⟨_, rfl, World.ownsRow_nil _ _ _ _, k0⟩
  have g8 := beq_eq_false_iff_ne.2 k8
  by_cases k9 : t.kind = 9
  · have g9 := beq_iff_eq.2 k9
    clear k9 k8 k6
    cases c : ((l.an : Int) == 1) with
    | true =>
      simp only [g6, g8, g9, c, Bool.and_true, Bool.false_and, Bool.false_eq_true, if_false, if_true] at hE
      rw [hE]
      replace hE := hide hE
      have O1 := hide (O0 [t.name, t.other] (by simp))
      clear O0
      go_enter Try.func36, Try.ntmps36
      go_wp2_with fail
      go_ret2
      first
        | exact ⟨_, rfl, by simpa using O1.out, k0.alloc (by simp) _⟩
        | exact ⟨_, rfl, World.ownsRow_nil _ _ _ _, k0⟩
    | false =>
      simp only [g6, g8, g9, c, Bool.and_false, Bool.false_and, Bool.false_eq_true, if_false] at hE
      rw [hE]
      replace hE := hide hE
      have O1 := hide (O0 [] (by simp))
      clear O0
      go_enter Try.func36, Try.ntmps36
      go_wp2_with fail
      go_ret2
      first
        | exact ⟨_, rfl, by simpa using O1.out, k0.alloc (by simp) _⟩
        | exact ⟨_, rfl, World.ownsRow_nil _ _ _ _, k0⟩
  have g9 := beq_eq_false_iff_ne.2 k9
  clear k9 k8 k6
  simp only [g6, g8, g9, Bool.false_and, Bool.false_eq_true, if_false] at hE
  rw [hE]
  replace hE := hide hE
  have O1 := hide (O0 [] (by simp))
  clear O0
  go_enter Try.func36, Try.ntmps36
  go_wp2_with fail
  go_ret2
  first
    | exact ⟨_, rfl, by simpa using O1.out, k0.alloc (by simp) _⟩
    | exact ⟨_, rfl, World.ownsRow_nil _ _ _ _, k0⟩
set_option maxHeartbeats 3200000 in
theorem bound_any (t : Tm) (l : Lt) (w : World) (h : Md w t l) :
    Calls Try.prog 39 #[.agg #[.int .i64 t.kind, .string t.name, .string t.other, .int .i64 t.n, .int .i64 t.type.kind, .slice l.ta l.tn l.tc, .int .i64 t.res.kind, .slice l.ra l.rn l.rc, .slice l.aa l.an l.ac]] w fun e w' => ∃ v, e = .returned (.tuple #[v, .int .i64 (boundN t).2]) ∧ OwnS w.heap.size w' v (boundN t).1 ∧ Below w.heap.size w w' := by
  obtain ⟨-, -, -, hr⟩ := h.shape
  have hn : l.an = t.args.length := hr.1
  have k0 : Below w.heap.size w (w.alloc (.cells #[.int .i64 t.kind, .string t.name, .string t.other, .int .i64 t.n, .int .i64 t.type.kind, .slice l.ta l.tn l.tc, .int .i64 t.res.kind, .slice l.ra l.rn l.rc, .slice l.aa l.an l.ac] 42)) := below_new _ _
  have hE := boundN_eq t
  have e1 : ((l.an : Int) == 1) = (t.args.length == 1) := by rw [hn, Bool.eq_iff_iff]; simp; omega
  have e2 : ((l.an : Int) == 2) = (t.args.length == 2) := by rw [hn, Bool.eq_iff_iff]; simp; omega
  have O0 := fun xs hl => OwnS.new (w.alloc (.cells #[.int .i64 t.kind, .string t.name, .string t.other, .int .i64 t.n, .int .i64 t.type.kind, .slice l.ta l.tn l.tc, .int .i64 t.res.kind, .slice l.ra l.rn l.rc, .slice l.aa l.an l.ac] 42)) w.heap.size (by simp) xs hl
  rw [← e1, ← e2] at hE
  clear hr hn e1 e2 h
  by_cases k6 : t.kind = 6
  · have g6 := beq_iff_eq.2 k6
    have g8 : (t.kind == 8) = false := by rw [k6]; rfl
    have g9 : (t.kind == 9) = false := by rw [k6]; rfl
    clear k6
    cases c : ((l.an : Int) == 1) with
    | true =>
      simp only [g6, c, Bool.and_true, if_true] at hE
      rw [hE]
      replace hE := hide hE
      have O1 := hide (O0 [t.name] (by simp))
      clear O0
      go_enter Try.func39, Try.ntmps39
      go_wp2_with fail
      go_ret2
      first
        | exact ⟨_, rfl, by simpa using O1.out, k0.alloc (by simp) _⟩
        | exact ⟨_, rfl, World.ownsRow_nil _ _ _ _, k0⟩
    | false =>
      simp only [g6, g8, g9, c, Bool.and_false, Bool.false_and, Bool.false_eq_true, if_false] at hE
      rw [hE]
      replace hE := hide hE
      have O1 := hide (O0 [] (by simp))
      clear O0
      go_enter Try.func39, Try.ntmps39
      go_wp2_with fail
      go_ret2
      first
        | exact ⟨_, rfl, by simpa using O1.out, k0.alloc (by simp) _⟩
        | exact ⟨_, rfl, World.ownsRow_nil _ _ _ _, k0⟩
  have g6 := beq_eq_false_iff_ne.2 k6
  by_cases k8 : t.kind = 8
  · have g8 := beq_iff_eq.2 k8
    have g9 : (t.kind == 9) = false := by rw [k8]; rfl
    clear k8 k6
    cases c : ((l.an : Int) == 2) with
    | true =>
      simp only [g6, g8, c, Bool.and_true, Bool.false_and, Bool.false_eq_true, if_false, if_true] at hE
      rw [hE]
      replace hE := hide hE
      have O1 := hide (O0 [t.name] (by simp))
      clear O0
      go_enter Try.func39, Try.ntmps39
      go_wp2_with fail
      go_ret2
      first
        | exact ⟨_, rfl, by simpa using O1.out, k0.alloc (by simp) _⟩
        | exact ⟨_, rfl, World.ownsRow_nil _ _ _ _, k0⟩
    | false =>
      simp only [g6, g8, g9, c, Bool.and_false, Bool.false_and, Bool.false_eq_true, if_false] at hE
      rw [hE]
      replace hE := hide hE
      have O1 := hide (O0 [] (by simp))
      clear O0
      go_enter Try.func39, Try.ntmps39
      go_wp2_with fail
      go_ret2
      first
        | exact ⟨_, rfl, by simpa using O1.out, k0.alloc (by simp) _⟩
        | exact ⟨_, rfl, World.ownsRow_nil _ _ _ _, k0⟩
  have g8 := beq_eq_false_iff_ne.2 k8
  by_cases k9 : t.kind = 9
  · have g9 := beq_iff_eq.2 k9
    clear k9 k8 k6
    cases c : ((l.an : Int) == 1) with
    | true =>
      simp only [g6, g8, g9, c, Bool.and_true, Bool.false_and, Bool.false_eq_true, if_false, if_true] at hE
      rw [hE]
      replace hE := hide hE
      have O1 := hide (O0 [t.name, t.other] (by simp))
      clear O0
      go_enter Try.func39, Try.ntmps39
      go_wp2_with fail
      go_ret2
      first
        | exact ⟨_, rfl, by simpa using O1.out, k0.alloc (by simp) _⟩
        | exact ⟨_, rfl, World.ownsRow_nil _ _ _ _, k0⟩
    | false =>
      simp only [g6, g8, g9, c, Bool.and_false, Bool.false_and, Bool.false_eq_true, if_false] at hE
      rw [hE]
      replace hE := hide hE
      have O1 := hide (O0 [] (by simp))
      clear O0
      go_enter Try.func39, Try.ntmps39
      go_wp2_with fail
      go_ret2
      first
        | exact ⟨_, rfl, by simpa using O1.out, k0.alloc (by simp) _⟩
        | exact ⟨_, rfl, World.ownsRow_nil _ _ _ _, k0⟩
  have g9 := beq_eq_false_iff_ne.2 k9
  clear k9 k8 k6
  simp only [g6, g8, g9, Bool.false_and, Bool.false_eq_true, if_false] at hE
  rw [hE]
  replace hE := hide hE
  have O1 := hide (O0 [] (by simp))
  clear O0
  go_enter Try.func39, Try.ntmps39
  go_wp2_with fail
  go_ret2
  first
    | exact ⟨_, rfl, by simpa using O1.out, k0.alloc (by simp) _⟩
    | exact ⟨_, rfl, World.ownsRow_nil _ _ _ _, k0⟩
end Go.Proofs.Ytknlbhclfeldbaa

namespace Go.Proofs.Ytknlbhclfeldbaa
open Go.RowKit
set_option linter.unusedVariables false
set_option linter.unusedSimpArgs false

theorem withoutN_fold (ns : List ByteArray) : ∀ xs : List ByteArray, ns.foldl withoutN xs = xs.filter fun s => !hasN ns s := by
  induction ns with
  | nil =>
    intro xs
    rw [List.foldl_nil, eq_comm, List.filter_eq_self]
    intro x _
    rfl
  | cons n ns ih =>
    intro xs
    rw [List.foldl_cons, ih, withoutN, List.filter_filter]
    congr 1
    funext s
    simp only [hasN, List.any_cons, Bool.not_or]
    rw [Bool.and_comm]
theorem fold_take (ns : List ByteArray) (a : List ByteArray) (k : Nat) (h : k < ns.length) : (ns.take (k + 1)).foldl withoutN a = withoutN ((ns.take k).foldl withoutN a) ns[k] := by
  rw [take_snoc ns k h, List.foldl_append]
  rfl
theorem foldW_len (ns a : List ByteArray) : (ns.foldl withoutN a).length ≤ a.length := by rw [withoutN_fold]; exact List.length_filter_le _ _
theorem foldW_mem {ns a : List ByteArray} {x : ByteArray} (h : x ∈ ns.foldl withoutN a) : x ∈ a := by
  rw [withoutN_fold] at h
  exact (List.mem_filter.1 h).1
theorem partN_mem {b : List ByteArray × Int} {t : Tm} {i : Nat} {x : ByteArray} (h : x ∈ partN b t i) : x ∈ t.free := by
  unfold partN at h
  split at h
  · exact (List.mem_filter.1 h).1
  · exact h
theorem Tm.free_size (N : Nat) (t : Tm) : t.wt ≤ N → ∀ s ∈ t.free, s.size ≤ N := by
  induction t using Tm.ind' with | h t ih => ?_
  intro hw s hs
  have hwt := t.wt_eq
  rw [Tm.free_eq] at hs
  split at hs
  · have : s = t.name := by simpa using hs
    subst this
    omega
  · refine Tm.frees_size_of _ N t.args (fun x hx => ih x hx ?_) 0 [] (fun s hs => by cases hs) s hs
    have h1 : 1 + x.wt ≤ Tm.wts t.args := by
      clear ih hs
      have := t.args
      revert hx
      generalize t.args = xs
      intro hx
      induction xs with
      | nil => cases hx
      | cons y ys ih2 =>
        rw [Tm.wts]
        rcases List.mem_cons.1 hx with rfl | h
        · omega
        · have := ih2 h
          omega
    omega
theorem boundN_len (t : Tm) : (boundN t).1.length ≤ 2 := by
  unfold boundN
  split
  · simp
  · split
    · simp
    · split <;> simp
theorem boundN_size (t : Tm) (N : Nat) (h1 : t.name.size ≤ N) (h2 : t.other.size ≤ N) : ∀ s ∈ (boundN t).1, s.size ≤ N := by
  intro s hs
  unfold boundN at hs
  split at hs
  · simp at hs; subst hs; exact h1
  · split at hs
    · simp at hs; subst hs; exact h1
    · split at hs
      · simp at hs
        rcases hs with rfl | rfl
        · exact h1
        · exact h2
      · cases hs
theorem frees_size {t : Tm} (N : Nat) (h : t.wt ≤ N) (k : Nat) : ∀ s ∈ Tm.frees (boundN t) (t.args.take k) 0 [], s.size ≤ N := by
  refine Tm.frees_size_of _ N _ (fun x hx => Tm.free_size N x ?_) 0 [] fun s hs => by cases hs
  have hx := List.mem_of_mem_take hx
  have hwt := t.wt_eq
  have h1 : ∀ xs : List Tm, x ∈ xs → 1 + x.wt ≤ Tm.wts xs := fun xs => by
    induction xs with
    | nil => intro hx; cases hx
    | cons y ys ih =>
      intro hx
      rw [Tm.wts]
      rcases List.mem_cons.1 hx with rfl | h
      · omega
      · have := ih h
        omega
  have := h1 _ hx
  omega
theorem frees_len {t : Tm} (k : Nat) : (Tm.frees (boundN t) (t.args.take k) 0 []).length ≤ Tm.sizes (t.args.take k) := by
  have := Tm.frees_len_of (boundN t) (t.args.take k) (fun x _ => x.free_len) 0 []
  simpa using this

set_option maxHeartbeats 6400000 in
theorem specFreeVars_any (t : Tm) : ∀ (l : Lt) (w : World), Md w t l → t.wt ≤ 1048576 → Calls Try.prog 18 #[.agg #[.int .i64 t.kind, .string t.name, .string t.other, .int .i64 t.n, .int .i64 t.type.kind, .slice l.ta l.tn l.tc, .int .i64 t.res.kind, .slice l.ra l.rn l.rc, .slice l.aa l.an l.ac]] w (GivesS w t.free) := by
  induction t using Tm.ind' with | h t ih => ?_
  intro l w h hw
  have IH := hide ih
  clear ih
  have hfree := t.free_eq
  have hwt := t.wt_eq
  have k0 : Below w.heap.size w (w.alloc (.cells #[.int .i64 t.kind, .string t.name, .string t.other, .int .i64 t.n, .int .i64 t.type.kind, .slice l.ta l.tn l.tc, .int .i64 t.res.kind, .slice l.ra l.rn l.rc, .slice l.aa l.an l.ac] 42)) := below_new _ _
  have B0 := Blk.new w 42 #[.int .i64 t.kind, .string t.name, .string t.other, .int .i64 t.n, .int .i64 t.type.kind, .slice l.ta l.tn l.tc, .int .i64 t.res.kind, .slice l.ra l.rn l.rc, .slice l.aa l.an l.ac]
  cases hk : (t.kind == 1) with
  | true =>
    rw [hk] at hfree
    simp only [if_true] at hfree
    rw [hfree]
    have O1 := hide (OwnS.new (w.alloc (.cells #[.int .i64 t.kind, .string t.name, .string t.other, .int .i64 t.n, .int .i64 t.type.kind, .slice l.ta l.tn l.tc, .int .i64 t.res.kind, .slice l.ra l.rn l.rc, .slice l.aa l.an l.ac] 42)) w.heap.size (by simp) [t.name] (by simp))
    clear hfree h hwt hw
    go_enter Try.func18, Try.ntmps18
    go_wp2_with fail
    go_ret
    exact ⟨_, rfl, by simpa using O1.out, k0.alloc (by simp) _⟩
  | false =>
    rw [hk] at hfree
    simp only [Bool.false_eq_true, if_false] at hfree
    rw [hfree]
    have hns := boundN_size t 1048576 (by omega) (by omega)
    have hnl := boundN_len t
    have hfs := fun k => frees_size (t := t) 1048576 hw k
    have hfl := fun k => frees_len (t := t) k
    have CB := hide (l7Bound_any t l _ (h.below k0))
    obtain ⟨-, -, -, hr⟩ := h.shape
    have hz := Nat.le_trans t.args_le_wt hw
    have hn : l.an ≤ 1048576 := by
      have := Tm.length_le_sizes t.args
      have h1 : l.an = t.args.length := hr.1
      omega
    have HA := hide (show ∀ j (hj : j < t.args.length), t.args[j].wt ≤ 1048576 from fun j hj => by
      have h1 := Tm.wts_take t.args j hj
      have h2 := Tm.wts_take_le t.args (j + 1)
      omega)
    obtain ⟨bb, hbb⟩ : ∃ bb, bb = boundN t := ⟨_, rfl⟩
    rw [← hbb] at CB hns hnl hfs hfl ⊢
    replace hbb := hide hbb
    replace hns := hide hns
    replace hfs := hide hfs
    replace hfl := hide hfl
    obtain ⟨names, at_⟩ := bb
    dsimp only at *
    clear hfree h hwt
    go_enter Try.func18, Try.ntmps18
    go_wp2_with fail
    refine CB.out.mono ?_
    rintro e w1 ⟨vn, rfl, hN, b1⟩
    have k1 := below_next k0 b1
    have B1 := B0.under b1
    obtain ⟨na, nc, rfl, hNR⟩ := hN.read (fun x hx => Nat.le_trans (hns.out x hx) (by decide))
    have k2 := k1.alloc (o := .cells #[] 9) k1.size
    have O1 : OwnS w.heap.size (w1.alloc (.cells #[] 9)) _ [] := OwnS.none_ w1 w.heap.size k1.size
    replace B1 := B1.alloc (.cells #[] 9)
    replace hNR := hide (hNR.below (below_new w1 (.cells #[] 9)))
    clear hN
    go_wp2_with fail
    go_loopw [5, 6, 7, 8] (fun v i _ _ wr => ∃ j : Nat, j ≤ l.an ∧ i = .int .i64 j ∧ OwnS w.heap.size wr v (Tm.frees (names, at_) (t.args.take j) 0 []) ∧ Hid (Rss wr names na names.length nc) ∧ Blk wr w.heap.size 42 #[.int .i64 t.kind, .string t.name, .string t.other, .int .i64 t.n, .int .i64 t.type.kind, .slice l.ta l.tn l.tc, .int .i64 t.res.kind, .slice l.ra l.rn l.rc, .slice l.aa l.an l.ac] ∧ Below w.heap.size w wr) (fun _ i _ _ _ => l.an - (intOf i).toNat)
    case atStart => exact ⟨0, by omega, rfl, O1, hNR, B1, k2⟩
    case round =>
      clear O1 hNR B1 k2 k1
      obtain ⟨j, hj, rfl, hO, HNR, hB, hb⟩ := hrel
      have hsz := hb.size
      obtain ⟨v0, v1, v2, v3, v4, v5, v6, v7, hcell8⟩ := hB.nine
      by_cases hjn : j < l.an
      · have hjx : j < t.args.length := by rw [← hr.1]; exact hjn
        obtain ⟨b, off, l', ha, hlt, hc, hd⟩ := (hr.below hb).get j hjx
        obtain ⟨e0, e1, e2, e3, e4, e5, e6, e7, e8⟩ := hc.nine
        clear hc
        rw [ha] at hcell8 ⊢
        have hwx := HA.out j hjx
        have C := hide (fun W hW => IH.out _ (List.getElem_mem hjx) l' W hW hwx)
        have hxs := hide (Tm.free_size 1048576 t.args[j] hwx)
        have hxl := t.args[j].free_len
        have HSTEP := hide (Tm.frees_take (names, at_) t.args j hjx).symm
        have hal := hfl.out j
        have has := hide (hfs.out j)
        have hs1 := Tm.sizes_take t.args j hjx
        have hs2 := Tm.sizes_take_le t.args (j + 1)
        have hs3 := t.args[j].size_eq
        obtain ⟨acc, hacc⟩ : ∃ acc, acc = Tm.frees (names, at_) (t.args.take j) 0 [] := ⟨_, rfl⟩
        rw [← hacc] at hO HSTEP hal has
        replace hacc := hide hacc
        obtain ⟨xf, hxf⟩ : ∃ xf, xf = t.args[j].free := ⟨_, rfl⟩
        rw [← hxf] at C hxs hxl
        have hsum : acc.length + xf.length ≤ 2097152 := by omega
        replace hxl := hide hxl
        replace hal := hide hal
        have HAA := hide ha
        have hpart : partN (names, at_) t.args[j] j = if ((j : Int) == at_) then xf.filter (fun s => !hasN names s) else xf := by rw [partN, ← hxf]
        replace hxf := hide hxf
        clear hs1 hs2 hs3 ha
        go_wp2_with fail
        refine (C.out _ hd).mono ?_
        rintro e w2 ⟨v7', rfl, hX, b2⟩
        have k2 := hb.trans (b2.mono hsz)
        have hO2 := OwnS.below hO b2
        have HNR2 := hide (HNR.out.below b2)
        have hB2 := hB.under b2
        have hX2 := OwnS.mono hX hsz
        clear hO HNR hB hX v0 v1 v2 v3 v4 v5 v6 v7 hcell8 e0 e1 e2 e3 e4 e5 e6 e7 e8 hd
        obtain ⟨va, vc, rfl, -⟩ := hO2.read (fun x hx => Nat.le_trans (has.out x hx) (by decide))
        go_wp2_with fail
        go_loopw [7, 8] (fun p i wr' => ∃ q : Nat, q ≤ names.length ∧ i = .int .i64 q ∧ Hid (((j : Int) == at_) = false → q = 0) ∧ OwnS w.heap.size wr' p ((names.take q).foldl withoutN xf) ∧ OwnS w.heap.size wr' (.slice va acc.length vc) acc ∧ Hid (Rss wr' names na names.length nc) ∧ Blk wr' w.heap.size 42 #[.int .i64 t.kind, .string t.name, .string t.other, .int .i64 t.n, .int .i64 t.type.kind, .slice l.ta l.tn l.tc, .int .i64 t.res.kind, .slice l.ra l.rn l.rc, .slice l.aa l.an l.ac] ∧ Below w.heap.size w wr') (fun _ i _ => names.length - (intOf i).toNat)
        case atStart => exact ⟨0, by omega, rfl, fun _ => rfl, hX2, hO2, HNR2, hB2, k2⟩
        case round =>
          clear hX2 hO2 HNR2 hB2 k2
          obtain ⟨q, hq, rfl, HQ, hP, hO', HNR', hB', hb'⟩ := hrel
          have hsz' := hb'.size
          have hRv : Rss wr acc va acc.length vc := by
            obtain ⟨a9, c9, e9, h9⟩ := hO'.read (fun x hx => Nat.le_trans (has.out x hx) (by decide))
            injection e9 with g1 g2 g3
            subst g1 g3
            exact h9
          obtain ⟨part, hpt⟩ : ∃ part, part = (names.take q).foldl withoutN xf := ⟨_, rfl⟩
          rw [← hpt] at hP
          have hpl : part.length ≤ xf.length := by rw [hpt]; exact foldW_len _ _
          obtain ⟨pa, pc, rfl, hRp⟩ := hP.read (fun x hx => Nat.le_trans (hxs.out x (by rw [hpt] at hx; exact foldW_mem hx)) (by decide))
          cases hpq : ((j : Int) == at_) with
          | true =>
            by_cases hqn : q < names.length
            · obtain ⟨b9, off9, hna, hlt9, c9⟩ := HNR'.out.get q hqn
              have CW := hide (fun W hW => specWithoutName_any part names[q] pa part.length pc W hW (by omega))
              have hst := hide (fold_take names xf q hqn)
              replace hpt := hide hpt
              have HNA := hide hna
              rw [hna]
              have hgd : decide ((q : Int) < (names.length : Int)) = true := by simp; omega
              clear hna
              go_wp2_with (go_at_call 9; (with_reducible refine (CW.out _ hRp).mono ?_); rintro e w3 ⟨v9, rfl, hW9, b9'⟩)
              go_roundw
              case rel =>
                refine ⟨q + 1, by omega, by go_num, ?_, ?_, OwnS.below hO' b9', ?_, hB'.under b9', hb'.trans (b9'.mono hsz')⟩
                · intro h; first | cases h | (rw [hpq] at h; cases h)
                · rw [hst.out, ← hpt.out]; exact OwnS.mono hW9 hsz'
                · have h9 := HNR'.out.below b9'
                  first | exact h9 | (rw [HNA.out] at h9; exact h9)
              case measure => simp [intOf]; omega
            · have hqe : q = names.length := by omega
              have HPART := hide (show part = partN (names, at_) t.args[j] j by rw [hpart, if_pos hpq, hpt, hqe, List.take_of_length_le (Nat.le_refl _), withoutN_fold])
              replace hpt := hide hpt
              replace hpq := hide hpq
              clear hpart
              go_wp2_with fail
              refine (specUniteNames_any acc part _ _ _ _ _ _ _ hRv hRp (by omega)).mono ?_
              rintro e w4 ⟨v', rfl, hU, b4⟩
              have k4 := hb'.trans (b4.mono hb'.size)
              have HR4 := hide (HNR'.out.below b4)
              have B4 := hB'.under b4
              have hU' := OwnS.mono hU hb'.size
              rw [HPART.out, HSTEP.out] at hU'
              clear hU
              go_wp2_with fail
              go_roundw
              case rel => exact ⟨j + 1, by omega, by go_num, hU', HR4, (by first | exact B4 | (have := B4; rw [HAA.out] at this; exact this)), k4⟩
              case measure => simp [intOf]; omega
          | false =>
            have hq0 : q = 0 := HQ.out hpq
            subst hq0
            have HPART := hide (show part = partN (names, at_) t.args[j] j by rw [hpart, if_neg (by rw [hpq]; exact Bool.false_ne_true), hpt]; rfl)
            replace hpt := hide hpt
            clear hpart
            by_cases hne : 0 < names.length
            · have hgd : decide ((0 : Int) < (names.length : Int)) = true := by simp; omega
              go_wp2_with fail
              refine (specUniteNames_any acc part _ _ _ _ _ _ _ hRv hRp (by omega)).mono ?_
              rintro e w4 ⟨v', rfl, hU, b4⟩
              have k4 := hb'.trans (b4.mono hb'.size)
              have HR4 := hide (HNR'.out.below b4)
              have B4 := hB'.under b4
              have hU' := OwnS.mono hU hb'.size
              rw [HPART.out, HSTEP.out] at hU'
              clear hU
              go_wp2_with fail
              go_roundw
              case rel => exact ⟨j + 1, by omega, by go_num, hU', HR4, (by first | exact B4 | (have := B4; rw [HAA.out] at this; exact this)), k4⟩
              case measure => simp [intOf]; omega
            · have hgd : decide ((0 : Int) < (names.length : Int)) = false := decide_eq_false (by omega)
              go_wp2_with fail
              refine (specUniteNames_any acc part _ _ _ _ _ _ _ hRv hRp (by omega)).mono ?_
              rintro e w4 ⟨v', rfl, hU, b4⟩
              have k4 := hb'.trans (b4.mono hb'.size)
              have HR4 := hide (HNR'.out.below b4)
              have B4 := hB'.under b4
              have hU' := OwnS.mono hU hb'.size
              rw [HPART.out, HSTEP.out] at hU'
              clear hU
              go_wp2_with fail
              go_roundw
              case rel => exact ⟨j + 1, by omega, by go_num, hU', HR4, (by first | exact B4 | (have := B4; rw [HAA.out] at this; exact this)), k4⟩
              case measure => simp [intOf]; omega
      · have h4 : l.an = t.args.length := hr.1
        rw [List.take_of_length_le (by omega)] at hO
        go_wp2_with fail
        go_ret
        exact ⟨_, rfl, hO, hb⟩
end Go.Proofs.Ytknlbhclfeldbaa

namespace Go.Proofs.Ytknlbhclfeldbaa
open Go.RowKit
set_option linter.unusedVariables false
set_option linter.unusedSimpArgs false

theorem OwnS.nn {base : Nat} {w : World} {v : Value} {xs : List ByteArray} (h : OwnS base w v xs) (hs : v.ownBlock.isSome = true) (hsz : ∀ x ∈ xs, x.size ≤ 9223372036854775807) :
    ∃ g cap cur, v = .slice (some ⟨g, 0, none⟩) xs.length cap ∧ base ≤ g ∧ g < w.heap.size ∧ Blk w g 9 cur ∧ cur.size = cap ∧ xs.length ≤ cap ∧ cap ≤ maxLen ∧ Rss w xs (some ⟨g, 0, none⟩) xs.length cap ∧ ∀ i (h : i < xs.length), cur[i]? = some (.string xs[i]) := by
  obtain ⟨a, cap, rfl, hR⟩ := h.read hsz
  cases a with
  | none => cases hs
  | some p =>
    obtain ⟨g, cur, rfl, hb, hG, hle⟩ := h.free rfl p rfl
    obtain ⟨cur2, hG2, p1, p2, p3⟩ := OwnS.parts h
    have hcc : cur2 = cur := by
      have := hG2.symm.trans hG
      injection this with this
      injection this
    subst hcc
    refine ⟨g, cap, cur2, rfl, hb, hG.lt, hG, p1, p2, p3, hR, fun i hi => ?_⟩
    obtain ⟨b, off, hp, -, hc⟩ := hR.get i hi
    injection hp with hp
    injection hp with e1 e2 e3
    subst e1 e2
    rw [← hG.cell]
    simpa using hc

theorem freeLit_any (x : ByteArray) (names : List ByteArray) (na : Option Addr) (nc bx : Nat) (w : World) (hA : w.cell? ⟨bx, 0, none⟩ = some (.slice na names.length nc)) (h : Rss w names na names.length nc) :
    Calls Try.prog 40 #[.string x, .pointer (some ⟨bx, 0, none⟩)] w fun e w' => e = .returned (.bool (hasN names x)) ∧ w = w' := by
  have C := hide (containsString_any names x na names.length nc w h)
  clear h
  go_enter Try.func40, Try.ntmps40
  go_wp2_with (go_at_call 33; (with_reducible refine C.out.mono ?_); rintro e w1 ⟨rfl, rfl⟩)
  go_ret
  exact ⟨ret_bool (hasN_contains _ _), rfl⟩

set_option maxHeartbeats 6400000 in
theorem implFreeVars_any (t : Tm) : ∀ (l : Lt) (w : World), Md w t l → t.wt ≤ 1048576 → Calls Try.prog 20 #[.agg #[.int .i64 t.kind, .string t.name, .string t.other, .int .i64 t.n, .int .i64 t.type.kind, .slice l.ta l.tn l.tc, .int .i64 t.res.kind, .slice l.ra l.rn l.rc, .slice l.aa l.an l.ac]] w (GivesN w t.free) := by
  induction t using Tm.ind' with | h t ih => ?_
  intro l w h hw
  have IH := hide ih
  clear ih
  have hfree := t.free_eq
  have hwt := t.wt_eq
  have k0 : Below w.heap.size w (w.alloc (.cells #[.int .i64 t.kind, .string t.name, .string t.other, .int .i64 t.n, .int .i64 t.type.kind, .slice l.ta l.tn l.tc, .int .i64 t.res.kind, .slice l.ra l.rn l.rc, .slice l.aa l.an l.ac] 42)) := below_new _ _
  have B0 := Blk.new w 42 #[.int .i64 t.kind, .string t.name, .string t.other, .int .i64 t.n, .int .i64 t.type.kind, .slice l.ta l.tn l.tc, .int .i64 t.res.kind, .slice l.ra l.rn l.rc, .slice l.aa l.an l.ac]
  cases hk : (t.kind == 1) with
  | true =>
    rw [hk] at hfree
    simp only [if_true] at hfree
    rw [hfree]
    have O1 := hide (OwnS.new (w.alloc (.cells #[.int .i64 t.kind, .string t.name, .string t.other, .int .i64 t.n, .int .i64 t.type.kind, .slice l.ta l.tn l.tc, .int .i64 t.res.kind, .slice l.ra l.rn l.rc, .slice l.aa l.an l.ac] 42)) w.heap.size (by simp) [t.name] (by simp))
    clear hfree h hwt hw
    go_enter Try.func20, Try.ntmps20
    go_wp2_with fail
    go_ret
    exact ⟨_, rfl, by simpa using O1.out, k0.alloc (by simp) _, rfl⟩
  | false =>
    rw [hk] at hfree
    simp only [Bool.false_eq_true, if_false] at hfree
    rw [hfree]
    have hns := boundN_size t 1048576 (by omega) (by omega)
    have hnl := boundN_len t
    have hfs := fun k => frees_size (t := t) 1048576 hw k
    have hfl := fun k => frees_len (t := t) k
    have CB := hide (bound_any t l _ (h.below k0))
    obtain ⟨-, -, -, hr⟩ := h.shape
    have hz := Nat.le_trans t.args_le_wt hw
    have hn : l.an ≤ 1048576 := by
      have := Tm.length_le_sizes t.args
      have h1 : l.an = t.args.length := hr.1
      omega
    have HA := hide (show ∀ j (hj : j < t.args.length), t.args[j].wt ≤ 1048576 from fun j hj => by
      have h1 := Tm.wts_take t.args j hj
      have h2 := Tm.wts_take_le t.args (j + 1)
      omega)
    obtain ⟨bb, hbb⟩ : ∃ bb, bb = boundN t := ⟨_, rfl⟩
    rw [← hbb] at CB hns hnl hfs hfl ⊢
    replace hbb := hide hbb
    replace hns := hide hns
    replace hfs := hide hfs
    replace hfl := hide hfl
    obtain ⟨names, at_⟩ := bb
    dsimp only at *
    clear hfree h hwt
    go_enter Try.func20, Try.ntmps20
    go_wp2_with fail
    refine CB.out.mono ?_
    rintro e w1 ⟨vn, rfl, hN, b1⟩
    have k1 := below_next k0 b1
    have B1 := B0.under b1
    obtain ⟨na, nc, rfl, hNR⟩ := hN.read (fun x hx => Nat.le_trans (hns.out x hx) (by decide))
    have hnb := hide (show ∀ p, na = some p → p.block < w1.heap.size from fun p hp => (hN.lt p.block (by subst hp; rfl)).2)
    obtain ⟨nl, hnl2⟩ : ∃ nl, nl = names.length := ⟨_, rfl⟩
    rw [← hnl2] at hNR ⊢
    replace hnl2 := hide hnl2
    have k2 := (k1.alloc (o := .cells #[.slice na nl nc] 22) k1.size).alloc (o := .cells #[] 9) (by have := k1.size; simp; omega)
    have N1 := (Blk.new w1 22 #[.slice na nl nc]).alloc (.cells #[] 9)
    have O1 : OwnS w.heap.size ((w1.alloc (.cells #[.slice na nl nc] 22)).alloc (.cells #[] 9)) _ [] := OwnS.none_ _ w.heap.size (by have := k1.size; simp; omega)
    replace B1 := (B1.alloc (.cells #[.slice na nl nc] 22)).alloc (.cells #[] 9)
    obtain ⟨z0, z1, z2, z3, z4, z5, z6, z7, z8⟩ := B1.nine
    replace hNR := hide ((hNR.below (below_new w1 (.cells #[.slice na nl nc] 22))).below (below_new _ (.cells #[] 9)))
    clear hN
    go_wp2_with fail
    go_loopw [5, 6, 7, 8, 24] (fun v _ _ _ i wr => ∃ j : Nat, j ≤ l.an ∧ i = .int .i64 j ∧ OwnS w.heap.size wr v (Tm.frees (names, at_) (t.args.take j) 0 []) ∧ Hid (v.ownBlock.isSome = true) ∧ Hid (Rss wr names na nl nc) ∧ Blk wr w1.heap.size 22 #[.slice na nl nc] ∧ Below w.heap.size w wr ∧ w1.heap.size < wr.heap.size) (fun _ _ _ _ i _ => l.an - (intOf i).toNat)
    case atStart => exact ⟨0, by omega, rfl, by simpa [Tm.frees] using O1, rfl, hNR, N1, k2, by simp; omega⟩
    case round =>
      clear O1 hNR N1 B1 k2 z0 z1 z2 z3 z4 z5 z6 z7 z8
      obtain ⟨j, hj, rfl, hO, HS, HNR, hB, hb, hsw⟩ := hrel
      have hsz := hb.size
      have k1s := k1.size
      by_cases hjn : j < l.an
      · have hjx : j < t.args.length := by rw [← hr.1]; exact hjn
        obtain ⟨b, off, l', ha, hlt, hc, hd⟩ := (hr.below hb).get j hjx
        obtain ⟨e0, e1, e2, e3, e4, e5, e6, e7, e8⟩ := hc.nine
        clear hc
        rw [ha]
        have hwx := HA.out j hjx
        have C := hide (fun W hW => IH.out _ (List.getElem_mem hjx) l' W hW hwx)
        have hxs := hide (show ∀ s ∈ t.args[j].free, s.size ≤ 9223372036854775807 from fun s hs => Nat.le_trans (Tm.free_size 1048576 t.args[j] hwx s hs) (by decide))
        have hxl := t.args[j].free_len
        have HSTEP := hide (Tm.frees_take (names, at_) t.args j hjx).symm
        have hal := hfl.out j
        have has := hide (show ∀ s ∈ Tm.frees (names, at_) (t.args.take j) 0 [], s.size ≤ 9223372036854775807 from fun s hs => Nat.le_trans (hfs.out j s hs) (by decide))
        have hs1 := Tm.sizes_take t.args j hjx
        have hs2 := Tm.sizes_take_le t.args (j + 1)
        have hs3 := t.args[j].size_eq
        obtain ⟨acc, hacc⟩ : ∃ acc, acc = Tm.frees (names, at_) (t.args.take j) 0 [] := ⟨_, rfl⟩
        rw [← hacc] at hO HSTEP hal has
        replace hacc := hide hacc
        obtain ⟨xf, hxf⟩ : ∃ xf, xf = t.args[j].free := ⟨_, rfl⟩
        rw [← hxf] at C hxs hxl
        have hsum : acc.length + xf.length ≤ 2097152 := by omega
        replace hxl := hide hxl
        replace hal := hide hal
        have HAA := hide ha
        have hpart : partN (names, at_) t.args[j] j = if ((j : Int) == at_) then xf.filter (fun s => !hasN names s) else xf := by rw [partN, ← hxf]
        replace hxf := hide hxf
        clear hs1 hs2 hs3 ha
        cases hpq : ((j : Int) == at_) with
        | true =>
          rw [hpq] at hpart
          simp only [if_true] at hpart
          rw [hpart] at HSTEP
          clear hpart
          go_wp2_with fail
          refine (C.out _ (hd.below (below_new _ _))).mono ?_
          rintro e w2 ⟨vx, rfl, hX, b2, hxn⟩
          have kx := below_of_alloc b2
          have hb2 := hb.trans (kx.mono hsz)
          obtain ⟨ga, ca, cra, rfl, ha1, ha2, ha3, -, -, -, hRa, -⟩ := OwnS.nn hO HS.out has.out
          obtain ⟨gx, cx, cur, rfl, hx1, hx2, hx3, hx4, hx5, hx6, hRx, hcur⟩ := OwnS.nn hX hxn hxs.out
          simp at hx1
          have hO2 := OwnS.below hO kx
          have HNR2 := HNR.out.below kx
          have hB2 := hB.under kx
          have hnab : ∀ p, na = some p → p.block ∉ [gx] := fun p hp => by
            have := hnb.out p hp
            simp
            omega
          have CD := hide (deleteFuncS_Free (fun s => hasN names s) w1.heap.size gx (fun W => W.cell? ⟨w1.heap.size, 0, none⟩ = some (.slice na nl nc) ∧ Rss W names na nl nc)
            (fun W i u hW => ⟨by rw [World.cell?_setCell_other _ _ _ _ (by first | (simp; done) | (simp; omega))]; exact hW.1, hW.2.wrote (Wrote.setCell (p := ⟨gx, i, none⟩) (fp := [gx]) (by simp) u) hnab⟩) xf
            (fun x hx W hW => by have h9 := hW; rw [hnl2.out] at h9; exact freeLit_any x names na nc w1.heap.size W h9.1 h9.2) cx cur w2 ⟨hB2.cell 0, HNR2⟩ hx3 hcur (by omega) hRx (by omega))
          replace HNR2 := hide HNR2
          have hnab := hide hnab
          clear hO HNR hB hX e0 e1 e2 e3 e4 e5 e6 e7 e8 hd hRa hRx hcur
          go_wp2_with fail
          refine CD.out.mono ?_
          rintro e w3 ⟨rfl, hw3, cur', hG', hs', hc'⟩
          have hP := own_of_blk (base := wr.heap.size) (xs := keptN (fun s => hasN names s) xf) (cap := cx) hG' (by omega) (Nat.le_trans (List.length_filter_le _ _) hx5) hx6 (by rw [hs']; exact hx4) hc'
          obtain ⟨a9, c9, e9, hRp⟩ := hP.read (fun x hx => hxs.out x (List.mem_filter.1 hx).1)
          injection e9 with g1 g2 g3
          subst g1 g3
          have hO3 := OwnS.wrote hO2 hw3 (fun g hg => by simp [Value.ownBlock] at hg; subst hg; simp; omega)
          obtain ⟨a8, c8, e8, hRa⟩ := hO3.read has.out
          injection e8 with f1 f2 f3
          subst f1 f3
          have hb3 := hb2.trans (hw3.below hb2.size (by intro b hb; simp at hb; omega))
          have HNR3 := hide (HNR2.out.wrote hw3 hnab.out)
          have hB3 : Blk w3 w1.heap.size 22 #[.slice na nl nc] := (hw3.block w1.heap.size hB2.lt (by simp; omega)).trans hB2
          have hkl : (keptN (fun s => hasN names s) xf).length ≤ xf.length := List.length_filter_le _ _
          obtain ⟨part, hpt⟩ : ∃ part, part = keptN (fun s => hasN names s) xf := ⟨_, rfl⟩
          rw [← hpt] at hRp hkl ⊢
          have hpt2 := hide (show xf.filter (fun s => !hasN names s) = part by rw [hpt]; rfl)
          rw [hpt2.out] at HSTEP
          have hw3s : w1.heap.size < w3.heap.size := hB3.lt
          clear hO2 HNR2 hB2 hP hO3 hpt hw3 cur' hG' hs' hc'
          go_wp2_with fail
          refine (implUniteNames_nn acc part _ _ _ _ _ _ _ hRa hRp (by omega)).mono ?_
          rintro e w4 ⟨v', rfl, hU, b4, hun⟩
          have k4 := hb3.trans (b4.mono hb3.size)
          have HR4 := hide (HNR3.out.below b4)
          have B4 := hB3.under b4
          have hU' := OwnS.mono hU hb3.size
          rw [HSTEP.out] at hU'
          have hun := hide hun
          clear hU
          go_wp2_with fail
          go_roundw
          case rel => exact ⟨j + 1, by omega, by go_num, hU', hun, HR4, B4, k4, B4.lt⟩
          case measure => simp [intOf]; omega
        | false =>
          rw [hpq] at hpart
          simp only [Bool.false_eq_true, if_false] at hpart
          rw [hpart] at HSTEP
          clear hpart
          go_wp2_with fail
          refine (C.out _ (hd.below (below_new _ _))).mono ?_
          rintro e w2 ⟨vx, rfl, hX, b2, hxn⟩
          have kx := below_of_alloc b2
          have hb2 := hb.trans (kx.mono hsz)
          obtain ⟨ga, ca, cra, rfl, ha1, ha2, ha3, -, -, -, hRa, -⟩ := OwnS.nn (OwnS.below hO kx) HS.out has.out
          obtain ⟨gx, cx, cur, rfl, hx1, hx2, hx3, hx4, hx5, hx6, hRx, hcur⟩ := OwnS.nn hX hxn hxs.out
          have HNR2 := hide (HNR.out.below kx)
          have hB2 := hB.under kx
          clear hO HNR hB hX e0 e1 e2 e3 e4 e5 e6 e7 e8 hd hcur
          go_wp2_with fail
          refine (implUniteNames_nn acc xf _ _ _ _ _ _ _ hRa hRx (by omega)).mono ?_
          rintro e w4 ⟨v', rfl, hU, b4, hun⟩
          have k4 := hb2.trans (b4.mono hb2.size)
          have HR4 := hide (HNR2.out.below b4)
          have B4 := hB2.under b4
          have hU' := OwnS.mono hU hb2.size
          rw [HSTEP.out] at hU'
          have hun := hide hun
          clear hU
          go_wp2_with fail
          go_roundw
          case rel => exact ⟨j + 1, by omega, by go_num, hU', hun, HR4, B4, k4, B4.lt⟩
          case measure => simp [intOf]; omega
      · have h4 : l.an = t.args.length := hr.1
        rw [List.take_of_length_le (by omega)] at hO
        go_wp2_with fail
        go_ret
        exact ⟨_, rfl, hO, hb, HS.out⟩
end Go.Proofs.Ytknlbhclfeldbaa

namespace Go.Proofs.Ytknlbhclfeldbaa
open Go.RowKit
set_option linter.unusedVariables false
set_option linter.unusedSimpArgs false

/-- No name is free. -/
def Tm.closed (t : Tm) : Bool := (t.free.length : Int) == 0
theorem Tm.free_small (t : Tm) (hw : t.wt ≤ 1048576) : (∀ s ∈ t.free, s.size ≤ 9223372036854775807) ∧ t.free.length ≤ 1048577 := by
  refine ⟨fun s hs => Nat.le_trans (Tm.free_size 1048576 t hw s hs) (by decide), ?_⟩
  have h1 := t.free_len
  have h2 := t.size_eq
  have h3 := t.args_le_wt
  omega
set_option maxHeartbeats 800000 in
theorem specIsClosed_any (t : Tm) (l : Lt) (w : World) (h : Md w t l) (hw : t.wt ≤ 1048576) :
    Calls Try.prog 23 #[.agg #[.int .i64 t.kind, .string t.name, .string t.other, .int .i64 t.n, .int .i64 t.type.kind, .slice l.ta l.tn l.tc, .int .i64 t.res.kind, .slice l.ra l.rn l.rc, .slice l.aa l.an l.ac]] w fun e w' => e = .returned (.bool t.closed) ∧ Below w.heap.size w w' := by
  have hC := specFreeVars_any t l _ (h.below (below_new w (.cells #[.int .i64 t.kind, .string t.name, .string t.other, .int .i64 t.n, .int .i64 t.type.kind, .slice l.ta l.tn l.tc, .int .i64 t.res.kind, .slice l.ra l.rn l.rc, .slice l.aa l.an l.ac] 42))) hw
  have C := hide (hC)
  clear hC
  obtain ⟨hsz, hln⟩ := t.free_small hw
  have hcl := hide (show t.closed = ((t.free.length : Int) == 0) from rfl)
  clear h
  go_enter Try.func23, Try.ntmps23
  go_wp2_with fail
  refine C.out.mono ?_
  rintro e w1 ⟨v, rfl, hO, b1⟩
  obtain ⟨a, c, rfl, -⟩ := hO.read hsz
  go_wp2_with fail
  go_ret
  exact ⟨ret_bool hcl.out.symm, below_of_alloc b1⟩
set_option maxHeartbeats 800000 in
theorem implIsClosed_any (t : Tm) (l : Lt) (w : World) (h : Md w t l) (hw : t.wt ≤ 1048576) :
    Calls Try.prog 24 #[.agg #[.int .i64 t.kind, .string t.name, .string t.other, .int .i64 t.n, .int .i64 t.type.kind, .slice l.ta l.tn l.tc, .int .i64 t.res.kind, .slice l.ra l.rn l.rc, .slice l.aa l.an l.ac]] w fun e w' => e = .returned (.bool t.closed) ∧ Below w.heap.size w w' := by
  have hC := implFreeVars_any t l _ (h.below (below_new w (.cells #[.int .i64 t.kind, .string t.name, .string t.other, .int .i64 t.n, .int .i64 t.type.kind, .slice l.ta l.tn l.tc, .int .i64 t.res.kind, .slice l.ra l.rn l.rc, .slice l.aa l.an l.ac] 42))) hw
  have C := hide (hC.mono fun _ _ h => h.gives)
  clear hC
  obtain ⟨hsz, hln⟩ := t.free_small hw
  have hcl := hide (show t.closed = ((t.free.length : Int) == 0) from rfl)
  clear h
  go_enter Try.func24, Try.ntmps24
  go_wp2_with fail
  refine C.out.mono ?_
  rintro e w1 ⟨v, rfl, hO, b1⟩
  obtain ⟨a, c, rfl, -⟩ := hO.read hsz
  go_wp2_with fail
  go_ret
  exact ⟨ret_bool hcl.out.symm, below_of_alloc b1⟩
end Go.Proofs.Ytknlbhclfeldbaa
