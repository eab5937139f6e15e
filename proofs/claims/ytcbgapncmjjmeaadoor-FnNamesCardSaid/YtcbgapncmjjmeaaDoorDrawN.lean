/-
  The draws of numbers: l1Whole, DrawFormatInt, DrawParseNumber.
-/
import Derived.Test.YtcbgapncmjjmeaaDoorDraw
import Derived.Test.YtcbgapncmjjmeaaDoorItoa
namespace Go.Proofs.YtcbgapncmjjmeaaDoor
open Go.RowKit
set_option maxRecDepth 100000
set_option linter.unusedVariables false
set_option linter.unusedSimpArgs false

theorem Cur.new {w : World} {p : Nat} (h : Cur w p) (o : Obj) : Drew p w (w.alloc o) := Drew.of_below h (below_new w o)
theorem wholes : ∀ j (hj : j < (#[.int .i64 0, .int .i64 1, .int .i64 (-1), .int .i64 9, .int .i64 10, .int .i64 999999, .int .i64 1000000, .int .i64 999999999999, .int .i64 1000000000000, .int .i64 (-999999999999), .int .i64 9223372036854775807, .int .i64 (-9223372036854775808)] : Array Value).size),
    ∃ z : Int, (#[.int .i64 0, .int .i64 1, .int .i64 (-1), .int .i64 9, .int .i64 10, .int .i64 999999, .int .i64 1000000, .int .i64 999999999999, .int .i64 1000000000000, .int .i64 (-999999999999), .int .i64 9223372036854775807, .int .i64 (-9223372036854775808)] : Array Value)[j] = .int .i64 z ∧ i64 z := by
  intro j hj
  have hj' : j < 12 := hj
  match j, hj' with
  | 0, _ | 1, _ | 2, _ | 3, _ | 4, _ | 5, _ | 6, _ | 7, _ | 8, _ | 9, _ | 10, _ | 11, _ => exact ⟨_, rfl, by unfold i64; omega⟩
  | n + 12, h => omega

theorem bigN_any (a : Option Addr) (n cap : Nat) (w : World) (hn : n ≤ 9223372036854775807) : Calls Tryd.prog 26 #[.slice a n cap] w fun e w' => e = .returned (.bool (decide ((n : Int) > 1048576))) ∧ w = w' := by
  go_enter Tryd.func26, Tryd.ntmps26
  go_wp2_with fail
  go_ret
  exact ⟨rfl, rfl⟩
set_option maxHeartbeats 1600000 in
theorem l1Whole_any (p : Nat) (w : World) (h : Cur w p) : Calls Tryd.prog 56 #[.pointer (some ⟨p, 0, none⟩)] w fun e w' => ∃ z : Int, e = .returned (.int .i64 z) ∧ i64 z ∧ Drew p w w' := by
  go_enter Tryd.func56, Tryd.ntmps56
  go_wp2_with fail
  refine (l1Below_any p 3 _ h (by omega)).mono ?_
  rintro e w1 ⟨x, rfl, x0, x1, d1⟩
  replace x0 := x0 (by omega)
  have hC1 := d1.cur
  have hx : x = 0 ∨ x = 1 ∨ x = 2 := by omega
  clear x0 x1
  rcases hx with rfl | rfl | rfl
  · go_wp2_with fail
    refine (l1PickInt_any p w1.heap.size 12 3 _ _ (hC1.new _).cur (Blk.new w1 _ _) hC1.lt rfl (by omega) (by omega) wholes).mono ?_
    rintro e w2 ⟨z, rfl, hz, -, d2⟩
    have d3 := (d1.trans (hC1.new _)).trans d2
    go_wp2_with fail
    go_ret
    exact ⟨z, rfl, hz, d3⟩
  · go_wp2_with fail
    refine (l1Below_any p 1000000 _ hC1 (by omega)).mono ?_
    rintro e w2 ⟨y, rfl, y0, y1, d2⟩
    replace y0 := y0 (by omega)
    go_wp2_with fail
    go_ret
    exact ⟨_, rfl, by unfold i64; omega, d1.trans d2⟩
  · go_wp2_with fail
    refine (l1Below_any p 20 _ hC1 (by omega)).mono ?_
    rintro e w2 ⟨y, rfl, y0, y1, d2⟩
    replace y0 := y0 (by omega)
    go_wp2_with fail
    go_ret
    exact ⟨_, rfl, by unfold i64; omega, d1.trans d2⟩
theorem drawFormatInt_any (a : Option Addr) (n cap : Nat) (w : World) (h : Rbs w a n cap) : Calls Tryd.prog 27 #[.slice a n cap] w fun e w' => ∃ z : Int, e = .returned (.int .i64 z) ∧ i64 z ∧ Below w.heap.size w w' := by
  go_enter Tryd.func27, Tryd.ntmps27
  go_wp2_with fail
  refine (l1New_any a n cap _ h).mono ?_
  rintro e w1 ⟨p, rfl, hp, hC, b1⟩
  go_wp2_with fail
  refine (l1Whole_any p _ hC).mono ?_
  rintro e w2 ⟨z, rfl, hz, d2⟩
  go_wp2_with fail
  go_ret
  exact ⟨z, rfl, hz, b1.trans (d2.2.below b1.size (by simp; omega))⟩
theorem itoaS_le (n : Int) (h : i64 n) : (itoaS n).size ≤ 21 := by
  have h := Lib.itoa_length_le n h.1 h.2
  simpa [itoaS, ByteArray.size] using h
theorem texts12 : ∀ j (hj : j < (#[.string ⟨#[]⟩, .string ⟨#[48, 48]⟩, .string ⟨#[48, 49]⟩, .string ⟨#[45, 49]⟩, .string ⟨#[43, 49]⟩, .string ⟨#[120]⟩, .string ⟨#[57, 57, 57, 57, 57, 57]⟩, .string ⟨#[49, 48, 48, 48, 48, 48, 48]⟩, .string ⟨#[45, 48]⟩, .string ⟨#[45]⟩, .string ⟨#[32, 49]⟩, .string ⟨#[49, 32]⟩] : Array Value).size),
    ∃ z : ByteArray, (#[.string ⟨#[]⟩, .string ⟨#[48, 48]⟩, .string ⟨#[48, 49]⟩, .string ⟨#[45, 49]⟩, .string ⟨#[43, 49]⟩, .string ⟨#[120]⟩, .string ⟨#[57, 57, 57, 57, 57, 57]⟩, .string ⟨#[49, 48, 48, 48, 48, 48, 48]⟩, .string ⟨#[45, 48]⟩, .string ⟨#[45]⟩, .string ⟨#[32, 49]⟩, .string ⟨#[49, 32]⟩] : Array Value)[j] = .string z ∧ z.size ≤ 1000 := by
  intro j hj
  have hj' : j < 12 := hj
  match j, hj' with
  | 0, _ | 1, _ | 2, _ | 3, _ | 4, _ | 5, _ | 6, _ | 7, _ | 8, _ | 9, _ | 10, _ | 11, _ => exact ⟨_, rfl, by simp [ByteArray.size]⟩
  | n + 12, h => omega
set_option maxHeartbeats 1600000 in
theorem drawParseNumber_any (a : Option Addr) (n cap : Nat) (w : World) (h : Rbs w a n cap) : Calls Tryd.prog 28 #[.slice a n cap] w fun e w' => ∃ s : ByteArray, e = .returned (.string s) ∧ s.size ≤ 1000 ∧ Below w.heap.size w w' := by
  go_enter Tryd.func28, Tryd.ntmps28
  go_wp2_with fail
  refine (l1New_any a n cap _ h).mono ?_
  rintro e w1 ⟨p, rfl, hp, hC, b1⟩
  have s1 := b1.size
  go_wp2_with fail
  refine (l1Once_any p 2 _ hC (by omega)).mono ?_
  rintro e w2 ⟨b, rfl, d2⟩
  have hC2 := d2.cur
  cases b with
  | true =>
    go_wp2_with fail
    refine (l1Whole_any p _ hC2).mono ?_
    rintro e w3 ⟨z, rfl, hz, d3⟩
    have k3 := b1.trans ((d2.trans d3).2.below b1.size (by simp; omega))
    have hsm := itoaS_le z hz
    go_wp2_with fail
    refine (specFormatInt_any z _ hz).mono ?_
    rintro e w4 ⟨rfl, b4⟩
    go_wp2_with fail
    go_ret
    exact ⟨_, rfl, by omega, below_next k3 b4⟩
  | false =>
    go_wp2_with fail
    refine (l1Pick_any p w2.heap.size 12 9 _ _ (hC2.new _).cur (Blk.new w2 _ _) hC2.lt rfl (by omega) (by omega) texts12).mono ?_
    rintro e w3 ⟨z, rfl, hz, -, d3⟩
    have d4 := (d2.trans (hC2.new _)).trans d3
    go_wp2_with fail
    go_ret
    exact ⟨z, rfl, hz, b1.trans (d4.2.below b1.size (by simp; omega))⟩
end Go.Proofs.YtcbgapncmjjmeaaDoor
