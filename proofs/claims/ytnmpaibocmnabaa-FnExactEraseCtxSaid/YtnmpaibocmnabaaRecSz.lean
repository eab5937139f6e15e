/-
  The walks of szTyping, szTypingS, szParam, szParamS.
-/
import Derived.Test.YtnmpaibocmnabaaRec
import Derived.Deep.AppendLies
namespace Go.Proofs.Ytnmpaibocmnabaa
open Go.RowKit
set_option maxRecDepth 100000
set_option linter.unusedVariables false
set_option linter.unusedSimpArgs false

theorem Rcs.wt_name' {α : Type} (xs : List (Rc α)) (k : Nat) (h : k < xs.length) : xs[k].name.size ≤ Rcs.wt xs := by
  have h1 := Rcs.sum_take xs k h
  have h2 := Rcs.sum_le xs (k + 1)
  unfold Rcs.wt
  unfold Rc.wt at h1 h2 ⊢
  omega
theorem own_down {w w' : World} {base T size n : Nat} {v : Value} {xs : List Value} (h : w.ownsRow base T size v n xs) (hb : Below w.heap.size w w') : w'.ownsRow base T size v n xs := by
  refine ⟨h.1, ?_⟩
  rcases h.2 with hn | ⟨g, cap, cur, rfl, hg, hh, r⟩
  · exact .inl hn
  · exact .inr ⟨g, cap, cur, rfl, hg, (hb.block g (Array.getElem?_eq_some_iff.1 hh).1).trans hh, r⟩

set_option maxHeartbeats 800000 in
theorem szTyping_any (r : Rc Int) (ta : Option Addr) (tn tc : Nat) (left : Int) (w : World) (h : Rd w r.type (.int .i64 r.type.kind) (.slice ta tn tc)) (hsz : r.name.size ≤ 9223372036854775807) (hl0 : 0 ≤ left) (hl1 : left ≤ 1048576) :
    Calls Try.prog 44 #[.agg #[.string r.name, .int .i64 r.type.kind, .slice ta tn tc, .int .i64 r.last], .int .i64 left] w fun e w' => e = .returned (.int .i64 (lessN r.wt left)) ∧ Below w.heap.size w w' := by
  have hwt := hide (show r.wt = r.name.size + Ty.sizes r.type.args from rfl)
  have h1 := h.below (below_new w (.cells #[.string r.name, .int .i64 r.type.kind, .slice ta tn tc, .int .i64 r.last] 66))
  clear h
  by_cases h2 : left < r.name.size
  · have hd1 : decide (left - (r.name.size : Int) < 0) = true := by simp; omega
    go_enter Try.func44, Try.ntmps44
    go_wp2_with fail
    go_ret
    exact ⟨ret_int (lessN_neg (by have := hwt.out; omega)).symm, below_new _ _⟩
  · have hd1 : decide (left - (r.name.size : Int) < 0) = false := by simp; omega
    go_enter Try.func44, Try.ntmps44
    go_wp2_with fail
    refine (szType_any r.type _ _ _ _ h1 (by omega) (by omega)).mono ?_
    rintro e w1 ⟨rfl, b1⟩
    go_wp2_with fail
    · go_ret
      rename_i hneg
      have h3 := lessN_lt (by omega) hneg
      exact ⟨ret_int (lessN_neg (by have := hwt.out; omega)).symm, below_of_alloc b1⟩
    · go_ret
      rename_i hge
      have h3 := lessN_ge hge
      exact ⟨ret_int (by rw [lessN_pos h3, lessN_pos (by have := hwt.out; omega), hwt.out]; omega), below_of_alloc b1⟩
set_option maxHeartbeats 800000 in
theorem szTypingS_any (xs : List (Rc Int)) (a : Option Addr) (n cap : Nat) (left : Int) (w : World) (h : Rcs w xs a n cap) (hl0 : 0 ≤ left) (hl1 : left ≤ 1048576) :
    Calls Try.prog 12 #[.slice a n cap, .int .i64 left] w fun e w' => e = .returned (.int .i64 (lessN (Rcs.wt xs) left)) ∧ Below w.heap.size w w' := by
  have hn : n ≤ 9223372036854775807 := by obtain ⟨_, h2, h3, _⟩ := h; unfold maxLen at h3; omega
  have hx := hide h.1
  have hws := hide (show Rcs.wt xs = xs.length + (xs.map Rc.wt).sum from rfl)
  by_cases hlt : left < n
  · go_enter Try.func12, Try.ntmps12
    go_wp2
    go_ret
    have := hx.out
    have := hws.out
    exact ⟨ret_int (lessN_neg (by omega)).symm, Below.refl _ _⟩
  · have hd : decide (left - (n : Int) < 0) = false := by simp; omega
    go_enter Try.func12, Try.ntmps12
    go_wp2_with fail
    go_loopw [1, 5] (fun l i wr => ∃ k : Nat, k ≤ n ∧ i = .int .i64 k ∧ (∃ s : Int, l = .int .i64 s ∧ 0 ≤ s ∧ s ≤ left ∧ Hid (s = left - n - ((xs.take k).map Rc.wt).sum)) ∧ Below w.heap.size w wr) (fun _ i _ => n - (intOf i).toNat)
    case atStart => exact ⟨0, by omega, rfl, ⟨_, rfl, by omega, by omega, by simp [Hid]⟩, Below.refl _ _⟩
    case round =>
      obtain ⟨k, hk, rfl, ⟨s, rfl, hs0, hs1, Hs⟩, hb⟩ := hrel
      by_cases hkn : k < n
      · have hkx : k < xs.length := by rw [← hx.out]; exact hkn
        obtain ⟨b, off, rfl, hlt', hsz, -, ta, tn, tc, e0, e1, e2, e3, hr⟩ := (h.below hb).get k hkx
        have C := hide (szTyping_any xs[k] ta tn tc s wr hr hsz hs0 (by omega))
        simp only [Last.val] at e3
        go_wp2_with (go_at_call 44; refine C.out.mono ?_; rintro e w' ⟨rfl, hb'⟩)
        · go_ret
          have hneg := lessN_lt hs0 ‹lessN xs[k].wt s < 0›
          have h1 := Rcs.sum_take xs k hkx
          have h2 := Rcs.sum_le xs (k + 1)
          have h3 := Hs.out
          have h4 := hx.out
          have h5 := hws.out
          exact ⟨ret_int (lessN_neg (by omega)).symm, hb.trans (hb'.mono hb.size)⟩
        · have hle := lessN_ge ‹0 ≤ lessN xs[k].wt s›
          go_roundw
          case rel =>
            refine ⟨k + 1, by omega, by go_num, ⟨_, by rw [lessN_pos hle], by omega, by omega, ?_⟩, hb.trans (hb'.mono hb.size)⟩
            have h1 := Rcs.sum_take xs k hkx
            have h3 := Hs.out
            unfold Hid
            omega
          case measure => simp [intOf]; omega
      · go_wp2
        go_ret
        have h3 := Hs.out
        have h4 := hx.out
        have h5 := hws.out
        rw [List.take_of_length_le (by omega)] at h3
        exact ⟨ret_int (by rw [lessN_pos (by omega)]; omega), hb⟩
set_option maxHeartbeats 800000 in
theorem szParam_any (r : Rc Bool) (ta : Option Addr) (tn tc : Nat) (left : Int) (w : World) (h : Rd w r.type (.int .i64 r.type.kind) (.slice ta tn tc)) (hsz : r.name.size ≤ 9223372036854775807) (hl0 : 0 ≤ left) (hl1 : left ≤ 1048576) :
    Calls Try.prog 36 #[.agg #[.string r.name, .int .i64 r.type.kind, .slice ta tn tc, .bool r.last], .int .i64 left] w fun e w' => e = .returned (.int .i64 (lessN r.wt left)) ∧ Below w.heap.size w w' := by
  have hwt := hide (show r.wt = r.name.size + Ty.sizes r.type.args from rfl)
  have h1 := h.below (below_new w (.cells #[.string r.name, .int .i64 r.type.kind, .slice ta tn tc, .bool r.last] 55))
  clear h
  by_cases h2 : left < r.name.size
  · have hd1 : decide (left - (r.name.size : Int) < 0) = true := by simp; omega
    go_enter Try.func36, Try.ntmps36
    go_wp2_with fail
    go_ret
    exact ⟨ret_int (lessN_neg (by have := hwt.out; omega)).symm, below_new _ _⟩
  · have hd1 : decide (left - (r.name.size : Int) < 0) = false := by simp; omega
    go_enter Try.func36, Try.ntmps36
    go_wp2_with fail
    refine (szType_any r.type _ _ _ _ h1 (by omega) (by omega)).mono ?_
    rintro e w1 ⟨rfl, b1⟩
    go_wp2_with fail
    · go_ret
      rename_i hneg
      have h3 := lessN_lt (by omega) hneg
      exact ⟨ret_int (lessN_neg (by have := hwt.out; omega)).symm, below_of_alloc b1⟩
    · go_ret
      rename_i hge
      have h3 := lessN_ge hge
      exact ⟨ret_int (by rw [lessN_pos h3, lessN_pos (by have := hwt.out; omega), hwt.out]; omega), below_of_alloc b1⟩
set_option maxHeartbeats 800000 in
theorem szParamS_any (xs : List (Rc Bool)) (a : Option Addr) (n cap : Nat) (left : Int) (w : World) (h : Rcs w xs a n cap) (hl0 : 0 ≤ left) (hl1 : left ≤ 1048576) :
    Calls Try.prog 7 #[.slice a n cap, .int .i64 left] w fun e w' => e = .returned (.int .i64 (lessN (Rcs.wt xs) left)) ∧ Below w.heap.size w w' := by
  have hn : n ≤ 9223372036854775807 := by obtain ⟨_, h2, h3, _⟩ := h; unfold maxLen at h3; omega
  have hx := hide h.1
  have hws := hide (show Rcs.wt xs = xs.length + (xs.map Rc.wt).sum from rfl)
  by_cases hlt : left < n
  · go_enter Try.func7, Try.ntmps7
    go_wp2
    go_ret
    have := hx.out
    have := hws.out
    exact ⟨ret_int (lessN_neg (by omega)).symm, Below.refl _ _⟩
  · have hd : decide (left - (n : Int) < 0) = false := by simp; omega
    go_enter Try.func7, Try.ntmps7
    go_wp2_with fail
    go_loopw [1, 5] (fun l i wr => ∃ k : Nat, k ≤ n ∧ i = .int .i64 k ∧ (∃ s : Int, l = .int .i64 s ∧ 0 ≤ s ∧ s ≤ left ∧ Hid (s = left - n - ((xs.take k).map Rc.wt).sum)) ∧ Below w.heap.size w wr) (fun _ i _ => n - (intOf i).toNat)
    case atStart => exact ⟨0, by omega, rfl, ⟨_, rfl, by omega, by omega, by simp [Hid]⟩, Below.refl _ _⟩
    case round =>
      obtain ⟨k, hk, rfl, ⟨s, rfl, hs0, hs1, Hs⟩, hb⟩ := hrel
      by_cases hkn : k < n
      · have hkx : k < xs.length := by rw [← hx.out]; exact hkn
        obtain ⟨b, off, rfl, hlt', hsz, -, ta, tn, tc, e0, e1, e2, e3, hr⟩ := (h.below hb).get k hkx
        have C := hide (szParam_any xs[k] ta tn tc s wr hr hsz hs0 (by omega))
        simp only [Last.val] at e3
        go_wp2_with (go_at_call 36; refine C.out.mono ?_; rintro e w' ⟨rfl, hb'⟩)
        · go_ret
          have hneg := lessN_lt hs0 ‹lessN xs[k].wt s < 0›
          have h1 := Rcs.sum_take xs k hkx
          have h2 := Rcs.sum_le xs (k + 1)
          have h3 := Hs.out
          have h4 := hx.out
          have h5 := hws.out
          exact ⟨ret_int (lessN_neg (by omega)).symm, hb.trans (hb'.mono hb.size)⟩
        · have hle := lessN_ge ‹0 ≤ lessN xs[k].wt s›
          go_roundw
          case rel =>
            refine ⟨k + 1, by omega, by go_num, ⟨_, by rw [lessN_pos hle], by omega, by omega, ?_⟩, hb.trans (hb'.mono hb.size)⟩
            have h1 := Rcs.sum_take xs k hkx
            have h3 := Hs.out
            unfold Hid
            omega
          case measure => simp [intOf]; omega
      · go_wp2
        go_ret
        have h3 := Hs.out
        have h4 := hx.out
        have h5 := hws.out
        rw [List.take_of_length_le (by omega)] at h3
        exact ⟨ret_int (by rw [lessN_pos (by omega)]; omega), hb⟩
end Go.Proofs.Ytnmpaibocmnabaa
