/-
  The draws of names: l2List, and the draws of the laws on names.
-/
import Derived.Test.YtcbgapncmjjmeaaDoorDrawN
import Derived.Test.YtcbgapncmjjmeaaDoorOwnS
import Derived.Test.YtcbgapncmjjmeaaDoorMarkR
namespace Go.Proofs.YtcbgapncmjjmeaaDoor
open Go.RowKit
set_option maxRecDepth 100000
set_option linter.unusedVariables false
set_option linter.unusedSimpArgs false

theorem Drew.past {p : Nat} {w w1 w2 : World} (hC : Cur w p) (hd : Drew p w w1) (hB : Below w.heap.size w1 w2) : Drew p w w2 := by
  have hp := hC.lt
  exact ⟨hd.1.keep fun b hb => hB.block b (by omega), hB.os.trans hd.2.os, hB.tape.trans hd.2.tape, hB.output.trans hd.2.output, Nat.le_trans hd.size hB.size, fun b hb hn => (hB.block b hb).trans (hd.2.block b hb hn), fun b o hb => (hB.frozen (p := ⟨b, o, none⟩) hb).trans (hd.2.frozen b o hb)⟩
theorem lits_ok (xs : List ByteArray) (h : (xs.all fun x => decide (x.size ≤ 1000)) = true) : ∀ j (hj : j < ((xs.map Value.string).toArray).size), ∃ z : ByteArray, ((xs.map Value.string).toArray)[j] = .string z ∧ z.size ≤ 1000 := by
  intro j hj
  simp only [List.size_toArray, List.length_map] at hj
  refine ⟨xs[j], by simp, ?_⟩
  simpa using List.all_eq_true.1 h _ (List.getElem_mem hj)
theorem nums_ok (xs : List Int) (h : (xs.all fun x => decide (-9223372036854775808 ≤ x) && decide (x ≤ 9223372036854775807)) = true) : ∀ j (hj : j < ((xs.map (Value.int .i64)).toArray).size), ∃ z : Int, ((xs.map (Value.int .i64)).toArray)[j] = .int .i64 z ∧ i64 z := by
  intro j hj
  simp only [List.size_toArray, List.length_map] at hj
  refine ⟨xs[j], by simp, ?_⟩
  have := List.all_eq_true.1 h _ (List.getElem_mem hj)
  simpa [i64] using this
/-- A short list of short names, in blocks of one's own. -/
def GivesL (p : Nat) (w : World) (e : Ending) (w' : World) : Prop := ∃ (g c : Nat) (xs : List ByteArray), e = .returned (.slice (some ⟨g, 0, none⟩) xs.length c) ∧ OwnS w.heap.size w' (.slice (some ⟨g, 0, none⟩) xs.length c) xs ∧ xs.length ≤ 5 ∧ (∀ x ∈ xs, x.size ≤ 1000) ∧ Drew p w w'
theorem OwnS.drew {p base : Nat} {w w' : World} {v : Value} {xs : List ByteArray} (h : OwnS base w v xs) (hd : Drew p w w') (hp : p < base) : OwnS base w' v xs :=
  h.wrote hd.2 fun g hg hm => by
    have := (h.lt g hg).1
    simp at hm
    omega

set_option maxHeartbeats 1600000 in
theorem l2List_any (p : Nat) (w : World) (hC : Cur w p) : Calls Tryd.prog 62 #[.pointer (some ⟨p, 0, none⟩)] w (GivesL p w) := by
  have hlt := hC.lt
  obtain ⟨i0, hi, hz0, hz1, hz2⟩ := info_parts Tryd.infoStr
  have d0 := hC.new (.cells #[] 9)
  have O0 := OwnS.none_ w _ (Nat.le_refl _)
  go_enter Tryd.func62, Tryd.ntmps62
  go_wp2_with fail
  refine (l1Below_any p 6 _ d0.cur (by omega)).mono ?_
  rintro e w1 ⟨n, rfl, n0, n1, d1⟩
  replace n0 := n0 (by omega)
  have hn5 : n ≤ 5 := by omega
  have O1 := O0.drew d1 hlt
  have d01 := d0.trans d1
  clear n0 n1 O0 d0
  go_wp2_with fail
  go_loopw [3, 5] (fun v i wr => ∃ k : Nat, k ≤ n ∧ i = .int .i64 k ∧ (∃ xs : List ByteArray, OwnS w.heap.size wr v xs ∧ Hid ((xs.length = k ∧ ∀ x ∈ xs, x.size ≤ 1000) ∧ v ≠ .slice none 0 0)) ∧ Drew p w wr) (fun _ i _ => n - (intOf i).toNat)
  case atStart => exact ⟨0, by omega, rfl, ⟨[], O1, ⟨rfl, by simp⟩, by simp⟩, d01⟩
  case round =>
    obtain ⟨k, hk, rfl, ⟨xs, hO, HX⟩, hd⟩ := hrel
    have hsz := hd.size
    have hCr := hd.cur
    by_cases hkn : k < n
    · go_wp2_with fail
      refine (l1Pick_any p wr.heap.size 6 9 _ _ (hCr.new _).cur (Blk.new wr _ _) hCr.lt rfl (by omega) (by omega) (lits_ok [⟨#[120]⟩, ⟨#[121]⟩, ⟨#[118, 49]⟩, ⟨#[118, 50]⟩, ⟨#[102]⟩, ⟨#[120]⟩] (by decide))).mono ?_
      rintro e w2 ⟨z, rfl, hz, -, d2⟩
      have d3 := (hCr.new _).trans d2
      have dd := hd.trans d3
      have hO2 := hO.drew d3 hlt
      have hsz2 := dd.size
      obtain ⟨q, hqn⟩ : ∃ q, q = xs.length := ⟨_, rfl⟩
      obtain ⟨cs, hcs⟩ : ∃ cs, cs = xs.map Value.string := ⟨_, rfl⟩
      have hq5 : q ≤ 5 := by have := HX.out.1.1; omega
      clear hO
      unfold OwnS at hO2
      rw [← hqn, ← hcs] at hO2
      replace hqn := hide hqn
      replace hcs := hide hcs
      go_wp2_with (at_builtin; refine wpList_append_lies _ rfl _ _ 27 rfl w.heap.size 9 i0 (.string ⟨#[]⟩) 1 16 Tryd.underlying27 hi hz0 hz1 hz2 rfl (by decide) _ _ _ rfl (hO2.alloc _) ⟨w2.heap.size, 0, none⟩ 1 1 [.string z] rfl rfl (one_new w2 _ _) (one_cell _) (by decide) ?c3 ?c4 ?c5 _ rfl ?_)
      case c3 => unfold maxLen; omega
      case c4 => omega
      case c5 => simp; omega
      intro g cap' w3 hown hgrow hat hlt3
      go_wp2_with fail
      go_roundw
      case rel =>
        have hB : Below w.heap.size w2 w3 := ((Below.refl _ w2).alloc hsz2 _).grown hgrow (by simp; omega) fun k hk => (hO2.lt k hk).1
        refine ⟨k + 1, by omega, by go_num, ⟨xs ++ [z], own_step hqn.out hcs.out hown rfl, ⟨by simp; exact HX.out.1.1, ?_⟩, by simp⟩, Drew.past hC dd hB⟩
        intro x hx
        rcases List.mem_append.1 hx with h | h
        · exact HX.out.1.2 x h
        · simp at h
          subst h
          exact hz
      case measure => simp [intOf]; omega
    · go_wp2_with fail
      go_ret
      rcases hO.2 with ⟨h1, _⟩ | ⟨g, c, cur, rfl, _⟩
      · exact absurd h1 HX.out.2
      · exact ⟨g, c, xs, rfl, hO, by have := HX.out.1.1; omega, HX.out.1.2, hd⟩
set_option maxHeartbeats 400000 in
theorem sameTexts_any (xs : List ByteArray) (a a' : Option Addr) (n cap cap' : Nat) (w : World) (h : Rss w xs a n cap) (h' : Rss w xs a' n cap') :
    Calls Tryd.prog 38 #[.slice a n cap, .slice a' n cap'] w fun e w' => e = .returned (.bool true) ∧ Below w.heap.size w w' := by
  have hn : n ≤ 9223372036854775807 := by obtain ⟨_, h2, h3, _⟩ := h; unfold maxLen at h3; omega
  have hx := hide h.1
  have e1 : ((n : Int) != (n : Int)) = false := by simp
  go_enter Tryd.func38, Tryd.ntmps38
  go_wp2_with fail
  go_loopw [5] (fun i wr => ∃ k : Nat, k ≤ n ∧ i = .int .i64 k ∧ Below w.heap.size w wr) (fun i _ => n - (intOf i).toNat)
  case atStart => exact ⟨0, by omega, rfl, Below.refl _ _⟩
  case round =>
    obtain ⟨k, hk, rfl, hb⟩ := hrel
    have hsz := hb.size
    by_cases hkn : k < n
    · have hkx : k < xs.length := by rw [← hx.out]; exact hkn
      obtain ⟨b, off, rfl, hlt, e0⟩ := (h.below hb).get k hkx
      obtain ⟨b', off', rfl, hlt', f0⟩ := (h'.below hb).get k hkx
      go_wp2_with fail
      go_quiet (fail)
      go_wp2_with fail
      go_roundw
      case rel => exact ⟨k + 1, by omega, by go_num, hb.trans (by repeat (first | exact Below.refl _ _ | assumption | refine Below.drew ?_ | refine below_drewN ?_ _ | refine Below.alloc ?_ (by first | omega | (simp; done) | (simp; omega)) _ | refine Below.setCell ?_ (by first | omega | (simp; done) | (simp; omega)) _))⟩
      case measure => simp [intOf]; omega
    · go_wp2
      go_ret
      exact ⟨rfl, hb⟩
/-- A list of short names is drawn. -/
def DrewL (w : World) (g c : Nat) (xs : List ByteArray) (w' : World) : Prop := OwnS w.heap.size w' (.slice (some ⟨g, 0, none⟩) xs.length c) xs ∧ Rss w' xs (some ⟨g, 0, none⟩) xs.length c ∧ xs.length ≤ 5 ∧ ∀ x ∈ xs, x.size ≤ 1000
theorem own_rss {base : Nat} {w : World} {g c : Nat} {xs : List ByteArray} (h : OwnS base w (.slice (some ⟨g, 0, none⟩) xs.length c) xs) (hs : ∀ x ∈ xs, x.size ≤ 1000) : Rss w xs (some ⟨g, 0, none⟩) xs.length c := by
  obtain ⟨a, cap, e, R⟩ := h.read fun x hx => by have := hs x hx; omega
  injection e with e1 e2 e3
  subst e1 e3
  exact R
theorem drawFresh_any (a : Option Addr) (n cap : Nat) (w : World) (h : Rbs w a n cap) :
    Calls Tryd.prog 31 #[.slice a n cap] w fun e w' => ∃ g c xs, e = .returned (.slice (some ⟨g, 0, none⟩) xs.length c) ∧ Rss w' xs (some ⟨g, 0, none⟩) xs.length c ∧ xs.length ≤ 5 ∧ Below w.heap.size w w' := by
  go_enter Tryd.func31, Tryd.ntmps31
  go_wp2_with fail
  refine (l1New_any a n cap _ h).mono ?_
  rintro e w1 ⟨p, rfl, hp, hC, b1⟩
  go_wp2_with fail
  refine (l2List_any p _ hC).mono ?_
  rintro e w2 ⟨g, c, xs, rfl, hO, hl, hs, d2⟩
  have R := own_rss hO hs
  go_wp2_with fail
  go_ret
  exact ⟨g, c, xs, rfl, R, hl, b1.trans (d2.2.below b1.size (by simp; omega))⟩
theorem drawUnite_any (a : Option Addr) (n cap : Nat) (w : World) (h : Rbs w a n cap) :
    Calls Tryd.prog 32 #[.slice a n cap] w fun e w' => ∃ g c xs g' c' ys, e = .returned (.tuple #[.slice (some ⟨g, 0, none⟩) xs.length c, .slice (some ⟨g', 0, none⟩) ys.length c']) ∧ Rss w' xs (some ⟨g, 0, none⟩) xs.length c ∧ Rss w' ys (some ⟨g', 0, none⟩) ys.length c' ∧ xs.length ≤ 5 ∧ ys.length ≤ 5 ∧ Below w.heap.size w w' := by
  go_enter Tryd.func32, Tryd.ntmps32
  go_wp2_with fail
  refine (l1New_any a n cap _ h).mono ?_
  rintro e w1 ⟨p, rfl, hp, hC, b1⟩
  have hlt := hC.lt
  go_wp2_with fail
  refine (l2List_any p _ hC).mono ?_
  rintro e w2 ⟨g, c, xs, rfl, hO, hl, hs, d2⟩
  go_wp2_with fail
  refine (l2List_any p _ d2.cur).mono ?_
  rintro e w3 ⟨g', c', ys, rfl, hO', hl', hs', d3⟩
  have R := own_rss (hO.drew d3 hlt) hs
  have R' := own_rss hO' hs'
  have dd := d2.trans d3
  go_wp2_with fail
  go_ret2
  exact ⟨g, c, xs, g', c', ys, rfl, R, R', hl, hl', b1.trans (dd.2.below b1.size (by simp; omega))⟩
theorem drawIndexOf_any (a : Option Addr) (n cap : Nat) (w : World) (h : Rbs w a n cap) :
    Calls Tryd.prog 65 #[.slice a n cap] w fun e w' => ∃ g c xs s, e = .returned (.tuple #[.slice (some ⟨g, 0, none⟩) xs.length c, .string s]) ∧ Rss w' xs (some ⟨g, 0, none⟩) xs.length c ∧ xs.length ≤ 5 ∧ s.size ≤ 1000 ∧ Below w.heap.size w w' := by
  go_enter Tryd.func65, Tryd.ntmps65
  go_wp2_with fail
  refine (l1New_any a n cap _ h).mono ?_
  rintro e w1 ⟨p, rfl, hp, hC, b1⟩
  have hlt := hC.lt
  go_wp2_with fail
  refine (l2List_any p _ hC).mono ?_
  rintro e w2 ⟨g, c, xs, rfl, hO, hl, hs, d2⟩
  have hC2 := d2.cur
  go_wp2_with fail
  refine (l1Pick_any p w2.heap.size 3 9 _ _ (hC2.new _).cur (Blk.new w2 _ _) hC2.lt rfl (by omega) (by omega) (lits_ok [⟨#[120]⟩, ⟨#[102]⟩, ⟨#[113]⟩] (by decide))).mono ?_
  rintro e w3 ⟨z, rfl, hz, -, d3⟩
  have d4 := (hC2.new _).trans d3
  have R := own_rss (hO.drew d4 hlt) hs
  have dd := d2.trans d4
  go_wp2_with fail
  go_ret2
  exact ⟨g, c, xs, z, rfl, R, hl, hz, b1.trans (dd.2.below b1.size (by simp; omega))⟩
theorem drawWithout_any (a : Option Addr) (n cap : Nat) (w : World) (h : Rbs w a n cap) :
    Calls Tryd.prog 34 #[.slice a n cap] w fun e w' => ∃ g c xs s, e = .returned (.tuple #[.slice (some ⟨g, 0, none⟩) xs.length c, .string s]) ∧ Rss w' xs (some ⟨g, 0, none⟩) xs.length c ∧ xs.length ≤ 5 ∧ s.size ≤ 1000 ∧ Below w.heap.size w w' := by
  go_enter Tryd.func34, Tryd.ntmps34
  go_wp2_with fail
  refine (drawIndexOf_any a n cap _ h).mono ?_
  rintro e w1 ⟨g, c, xs, s, rfl, R, hl, hs, b1⟩
  go_wp2_with fail
  go_ret2
  exact ⟨g, c, xs, s, rfl, R, hl, hs, b1⟩
set_option maxHeartbeats 800000 in
theorem drawReduce_any (a : Option Addr) (n cap : Nat) (w : World) (h : Rbs w a n cap) :
    Calls Tryd.prog 35 #[.slice a n cap] w fun e w' => ∃ z : Int, e = .returned (.int .i64 z) ∧ i64 z ∧ Below w.heap.size w w' := by
  go_enter Tryd.func35, Tryd.ntmps35
  go_wp2_with fail
  refine (l1New_any a n cap _ h).mono ?_
  rintro e w1 ⟨p, rfl, hp, hC, b1⟩
  go_wp2_with fail
  refine (l1Below_any p 30000 _ hC (by omega)).mono ?_
  rintro e w2 ⟨x, rfl, x0, x1, d2⟩
  have hC2 := d2.cur
  go_wp2_with fail
  refine (l1PickInt_any p w2.heap.size 10 3 _ _ (hC2.new _).cur (Blk.new w2 _ _) hC2.lt rfl (by omega) (by omega) (nums_ok [0, 10006, 10007, -1, -10007, -10008, 123456789, 9223372036854775807, -9223372036854775808, (x : Int)] (by simp; omega))).mono ?_
  rintro e w3 ⟨z, rfl, hz, -, d3⟩
  have dd := (d2.trans (hC2.new _)).trans d3
  go_wp2_with fail
  go_ret
  exact ⟨z, rfl, hz, b1.trans (dd.2.below b1.size (by simp; omega))⟩
set_option maxHeartbeats 1600000 in
theorem drawApplyOp_any (a : Option Addr) (n cap : Nat) (w : World) (h : Rbs w a n cap) :
    Calls Tryd.prog 43 #[.slice a n cap] w fun e w' => ∃ (s : ByteArray) (x y : Int), e = .returned (.tuple #[.string s, .int .i64 x, .int .i64 y]) ∧ i64 x ∧ i64 y ∧ Below w.heap.size w w' := by
  go_enter Tryd.func43, Tryd.ntmps43
  go_wp2_with fail
  refine (l1New_any a n cap _ h).mono ?_
  rintro e w1 ⟨p, rfl, hp, hC, b1⟩
  go_wp2_with fail
  refine (l1Pick_any p w1.heap.size 10 9 _ _ (hC.new _).cur (Blk.new w1 _ _) hC.lt rfl (by omega) (by omega) (lits_ok [⟨#[43]⟩, ⟨#[45]⟩, ⟨#[42]⟩, ⟨#[61]⟩, ⟨#[60]⟩, ⟨#[38]⟩, ⟨#[124]⟩, ⟨#[33]⟩, ⟨#[47]⟩, ⟨#[]⟩] (by decide))).mono ?_
  rintro e w2 ⟨s, rfl, hs, -, d2⟩
  have d3 := (hC.new _).trans d2
  have hC2 := d3.cur
  go_wp2_with fail
  refine (l1PickInt_any p w2.heap.size 7 3 _ _ (hC2.new _).cur (Blk.new w2 _ _) hC2.lt rfl (by omega) (by omega) (nums_ok [0, 1, 2, 10006, 10007, -1, 5000] (by decide))).mono ?_
  rintro e w3 ⟨x, rfl, hx, -, d4⟩
  have d5 := (d3.trans (hC2.new _)).trans d4
  have hC3 := d5.cur
  go_wp2_with fail
  refine (l1PickInt_any p w3.heap.size 6 3 _ _ (hC3.new _).cur (Blk.new w3 _ _) hC3.lt rfl (by omega) (by omega) (nums_ok [0, 1, 3, 10006, 10007, 5008] (by decide))).mono ?_
  rintro e w4 ⟨y, rfl, hy, -, d6⟩
  have dd := (d5.trans (hC3.new _)).trans d6
  go_wp2_with fail
  refine bodyPost_ret (v := .tuple #[.string s, .int .i64 x, .int .i64 y]) ?_ rfl ⟨s, x, y, rfl, hx, hy, b1.trans (dd.2.below b1.size (by simp; omega))⟩
  simp [results, Tryd.results43, go_sem]
set_option maxHeartbeats 800000 in
theorem drawIsName_any (a : Option Addr) (n cap : Nat) (w : World) (h : Rbs w a n cap) :
    Calls Tryd.prog 46 #[.slice a n cap] w fun e w' => ∃ s : ByteArray, e = .returned (.string s) ∧ s.size ≤ 1000 ∧ Below w.heap.size w w' := by
  go_enter Tryd.func46, Tryd.ntmps46
  go_wp2_with fail
  refine (l1New_any a n cap _ h).mono ?_
  rintro e w1 ⟨p, rfl, hp, hC, b1⟩
  go_wp2_with fail
  refine (l1Pick_any p w1.heap.size 14 9 _ _ (hC.new _).cur (Blk.new w1 _ _) hC.lt rfl (by omega) (by omega) (lits_ok [⟨#[120]⟩, ⟨#[120, 49]⟩, ⟨#[49, 120]⟩, ⟨#[88]⟩, ⟨#[97, 98, 99, 100]⟩, ⟨#[97, 98, 99, 100, 101]⟩, ⟨#[]⟩, ⟨#[105, 102]⟩, ⟨#[108, 101, 116]⟩, ⟨#[114, 101, 99]⟩, ⟨#[114, 117, 110]⟩, ⟨#[108, 105, 102, 116]⟩, ⟨#[114, 117, 110, 115]⟩, ⟨#[97, 45]⟩] (by decide))).mono ?_
  rintro e w2 ⟨s, rfl, hs, -, d2⟩
  have dd := (hC.new _).trans d2
  go_wp2_with fail
  go_ret
  exact ⟨s, rfl, hs, b1.trans (dd.2.below b1.size (by simp; omega))⟩
end Go.Proofs.YtcbgapncmjjmeaaDoor
