/-
  The draw of a text and a byte to cut it at.
-/
import Derived.Test.YtcbgapncmjjmeaaDoorDrawN
namespace Go.Proofs.YtcbgapncmjjmeaaDoor
open Go.RowKit
set_option maxRecDepth 100000
set_option linter.unusedVariables false
set_option linter.unusedSimpArgs false

theorem texts6 : ∀ j (hj : j < (#[.string ⟨#[]⟩, .string ⟨#[97]⟩, .string ⟨#[97, 44, 98]⟩, .string ⟨#[44]⟩, .string ⟨#[97, 44, 44, 98, 44]⟩, .string ⟨#[97, 10, 98, 10]⟩] : Array Value).size),
    ∃ z : ByteArray, (#[.string ⟨#[]⟩, .string ⟨#[97]⟩, .string ⟨#[97, 44, 98]⟩, .string ⟨#[44]⟩, .string ⟨#[97, 44, 44, 98, 44]⟩, .string ⟨#[97, 10, 98, 10]⟩] : Array Value)[j] = .string z ∧ z.size ≤ 1000 := by
  intro j hj
  have hj' : j < 6 := hj
  match j, hj' with
  | 0, _ | 1, _ | 2, _ | 3, _ | 4, _ | 5, _ => exact ⟨_, rfl, by simp [ByteArray.size]⟩
  | n + 6, h => omega
theorem ints2 : ∀ j (hj : j < (#[.int .i64 44, .int .i64 10] : Array Value).size), ∃ z : Int, (#[.int .i64 44, .int .i64 10] : Array Value)[j] = .int .i64 z ∧ i64 z := by
  intro j hj
  have hj' : j < 2 := hj
  match j, hj' with
  | 0, _ | 1, _ => exact ⟨_, rfl, by unfold i64; omega⟩
  | n + 2, h => omega
theorem of_ints2 {z : Int} (h : ∃ j : Nat, (#[.int .i64 44, .int .i64 10] : Array Value)[j]? = some (.int .i64 z)) : z = 44 ∨ z = 10 := by
  obtain ⟨j, hj⟩ := h
  match j, hj with
  | 0, hj => simp at hj; exact .inl hj.symm
  | 1, hj => simp at hj; exact .inr hj.symm
  | n + 2, hj => simp at hj
set_option maxHeartbeats 1600000 in
theorem drawSplit_any (a : Option Addr) (n cap : Nat) (w : World) (h : Rbs w a n cap) :
    Calls Tryd.prog 29 #[.slice a n cap] w fun e w' => ∃ (s : ByteArray) (c : UInt8), e = .returned (.tuple #[.string s, .int .u8 (c.toNat : Int)]) ∧ s.size ≤ 1000 ∧ Below w.heap.size w w' := by
  go_enter Tryd.func29, Tryd.ntmps29
  go_wp2_with fail
  refine (l1New_any a n cap _ h).mono ?_
  rintro e w1 ⟨p, rfl, hp, hC, b1⟩
  have s1 := b1.size
  go_wp2_with fail
  refine (l1Pick_any p w1.heap.size 6 9 _ _ (hC.new _).cur (Blk.new w1 _ _) hC.lt rfl (by omega) (by omega) texts6).mono ?_
  rintro e w2 ⟨s, rfl, hs, -, d2⟩
  have d3 := (hC.new _).trans d2
  have hC2 := d3.cur
  go_wp2_with fail
  refine (l1PickInt_any p w2.heap.size 2 3 _ _ (hC2.new _).cur (Blk.new w2 _ _) hC2.lt rfl (by omega) (by omega) ints2).mono ?_
  rintro e w3 ⟨z, rfl, hz, hzj, d4⟩
  have d5 := (d3.trans (hC2.new _)).trans d4
  have hz2 := of_ints2 hzj
  have k5 : Below w.heap.size w w3 := b1.trans (d5.2.below b1.size (by simp; omega))
  clear hzj hz
  rcases hz2 with rfl | rfl
  · go_wp2_with fail
    go_ret2
    exact ⟨s, 44, rfl, hs, k5⟩
  · go_wp2_with fail
    go_ret2
    exact ⟨s, 10, rfl, hs, k5⟩
end Go.Proofs.YtcbgapncmjjmeaaDoor
