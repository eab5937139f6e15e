/-
  The cursor over the bytes of a draw: l1New, l1Byte, l1Below, l1Once, l1PickInt, l1Pick.
-/
import Derived.Test.YtklifieahcoljaaGreatNum
import Derived.Test.YtklifieahcoljaaGreatWrote
import Derived.StillTailTactics
import Derived.Deep.RegionHeld3
namespace Go.Proofs.YtklifieahcoljaaGreat
open Go.RowKit
set_option maxRecDepth 100000
set_option linter.unusedVariables false
set_option linter.unusedSimpArgs false

/-- A slice that reads as n bytes. -/
def Rbs (w : World) (a : Option Addr) (n cap : Nat) : Prop :=
  n ≤ cap ∧ cap ≤ maxLen ∧ (n = 0 ∨ n ≠ 0 ∧ ∃ b off, a = some ⟨b, off, none⟩ ∧ ∀ j, j < n → ∃ c : Int, 0 ≤ c ∧ c ≤ 255 ∧ w.cell? ⟨b, off + j, none⟩ = some (.int .u8 c))
theorem Rbs.at_ {w : World} {a : Option Addr} {n cap : Nat} (h : Rbs w a n cap) (j : Nat) (hj : j < n) : ∃ b off, a = some ⟨b, off, none⟩ ∧ b < w.heap.size ∧ ∃ c : Int, 0 ≤ c ∧ c ≤ 255 ∧ w.cell? ⟨b, off + j, none⟩ = some (.int .u8 c) := by
  obtain ⟨h1, h2, h3⟩ := h
  rcases h3 with h3 | ⟨_, b, off, rfl, hc⟩
  · omega
  · obtain ⟨c, c0, c1, e⟩ := hc j hj
    exact ⟨b, off, rfl, World.block_lt_of_cell? _ _ e, c, c0, c1, e⟩
theorem Rbs.keep {w w' : World} {a : Option Addr} {n cap : Nat} (h : Rbs w a n cap) (hk : ∀ b off, a = some ⟨b, off, none⟩ → n ≠ 0 → SameB w w' b) : Rbs w' a n cap := by
  obtain ⟨h1, h2, h3⟩ := h
  refine ⟨h1, h2, ?_⟩
  rcases h3 with h3 | ⟨hn, b, off, rfl, hc⟩
  · exact .inl h3
  · refine .inr ⟨hn, b, off, rfl, fun j hj => ?_⟩
    obtain ⟨c, c0, c1, e⟩ := hc j hj
    exact ⟨c, c0, c1, (hk b off rfl hn (off + j)).trans e⟩
theorem Rbs.below {w w' : World} {a : Option Addr} {n cap : Nat} (h : Rbs w a n cap) (hb : Below w.heap.size w w') : Rbs w' a n cap := by
  refine h.keep fun b off ha hn => ?_
  obtain ⟨b', off', ha', hlt, -⟩ := h.at_ 0 (by omega)
  rw [ha] at ha'
  injection ha' with ha'
  injection ha' with e1 e2
  subst e1
  exact SameB.of_heap (hb.block b hlt)

/-- A cursor in block p: the bytes lie below it. -/
def Cur (w : World) (p : Nat) : Prop := ∃ (a : Option Addr) (n cap i : Nat) (h : Int), Blk w p 49 #[.slice a n cap, .int .i64 i, .int .i64 h] ∧ i ≤ n ∧ n ≤ 9223372036854775807 ∧ Rbs w a n cap ∧ ∀ b off, a = some ⟨b, off, none⟩ → n ≠ 0 → b < p
theorem Cur.lt {w : World} {p : Nat} (h : Cur w p) : p < w.heap.size := by
  obtain ⟨a, n, cap, i, hh, hB, -⟩ := h
  exact hB.lt
theorem Cur.keep {w w' : World} {p : Nat} (h : Cur w p) (hk : ∀ b, b ≤ p → w'.heap[b]? = w.heap[b]?) : Cur w' p := by
  obtain ⟨a, n, cap, i, hh, hB, h1, h2, h3, h4⟩ := h
  exact ⟨a, n, cap, i, hh, (hk p (Nat.le_refl _)).trans hB, h1, h2, h3.keep fun b off ha hn => SameB.of_heap (hk b (Nat.le_of_lt (h4 b off ha hn))), h4⟩
theorem Cur.below {w w' : World} {p : Nat} (h : Cur w p) (hb : Below w.heap.size w w') : Cur w' p := h.keep fun b hb' => hb.block b (Nat.lt_of_le_of_lt hb' h.lt)
/-- What a draw does beside its result: it moves the cursor, and makes memory. -/
def Drew (p : Nat) (w w' : World) : Prop := Cur w' p ∧ Wrote [p] w w'
theorem Drew.cur {p : Nat} {w w' : World} (h : Drew p w w') : Cur w' p := h.1
theorem Drew.trans {p : Nat} {a b c : World} (h : Drew p a b) (k : Drew p b c) : Drew p a c := ⟨k.1, h.2.trans k.2⟩
theorem Drew.size {p : Nat} {w w' : World} (h : Drew p w w') : w.heap.size ≤ w'.heap.size := h.2.size
theorem Drew.block {p : Nat} {w w' : World} (h : Drew p w w') {b : Nat} (hb : b < w.heap.size) (hp : b ≠ p) : w'.heap[b]? = w.heap[b]? := h.2.block b hb (by simpa using hp)
theorem Drew.of_below {p : Nat} {w w' : World} (h : Cur w p) (hb : Below w.heap.size w w') : Drew p w w' := ⟨h.below hb, Wrote.of_below hb⟩
theorem Drew.next {p : Nat} {a b c : World} (h : Drew p a b) (hb : Below b.heap.size b c) : Drew p a c := h.trans (Drew.of_below h.1 hb)
theorem Drew.after {p : Nat} {a b c : World} (ha : Cur a p) (hb : Below a.heap.size a b) (h : Drew p b c) : Drew p a c := (Drew.of_below ha hb).trans h

theorem bits_255 (x : Int) : 0 ≤ bits .and .i64 x 255 ∧ bits .and .i64 x 255 ≤ 255 := by
  have h : (BitVec.ofInt 64 x &&& BitVec.ofInt 64 255).toNat ≤ 255 := by
    rw [BitVec.toNat_and]
    exact Nat.le_trans Nat.and_le_right (by decide)
  have e : bits .and .i64 x 255 = IntKind.i64.wrap (((BitVec.ofInt 64 x &&& BitVec.ofInt 64 255).toNat : Nat) : Int) := rfl
  rw [e]
  generalize (BitVec.ofInt 64 x &&& BitVec.ofInt 64 255).toNat = m at h
  have : IntKind.i64.wrap (m : Int) = m := IntWalk.i64_in _ (by omega)
  omega

set_option maxHeartbeats 800000 in
theorem l1New_any (a : Option Addr) (n cap : Nat) (w : World) (h : Rbs w a n cap) :
    Calls Tryz.prog 16 #[.slice a n cap] w fun e w' => ∃ p, e = .returned (.pointer (some ⟨p, 0, none⟩)) ∧ w.heap.size ≤ p ∧ Cur w' p ∧ Below w.heap.size w w' := by
  have hn : n ≤ 9223372036854775807 := by obtain ⟨h2, h3, _⟩ := h; unfold maxLen at h3; omega
  go_enter Tryz.func16, Tryz.ntmps16
  go_wp2_with fail
  go_loopw [3, 4] (fun s i wr => ∃ k : Nat, k ≤ n ∧ i = .int .i64 k ∧ (∃ z : Int, s = .int .i64 z) ∧ w = wr) (fun _ i _ => n - (intOf i).toNat)
  case atStart => exact ⟨0, by omega, rfl, ⟨_, rfl⟩, rfl⟩
  case round =>
    obtain ⟨k, hk, rfl, ⟨z, rfl⟩, rfl⟩ := hrel
    by_cases hkn : k < n
    · by_cases h4 : k < 4000
      · obtain ⟨b, off, rfl, hlt, c, c0, c1, e0⟩ := h.at_ k hkn
        go_wp2_with fail
        go_roundw
        case rel => exact ⟨k + 1, by omega, by go_num, ⟨_, rfl⟩, by trivial⟩
        case measure => simp [intOf]; omega
      · have hd : decide ((k : Int) < 4000) = false := by simp; omega
        go_wp2_with fail
        go_ret
        exact ⟨_, rfl, Nat.le_refl _, ⟨a, n, cap, 0, z, Blk.new _ _ _, by omega, hn, h.below (below_new _ _), fun b off ha h0 => by
          obtain ⟨b', off', ha', hlt, -⟩ := h.at_ 0 (by omega)
          rw [ha] at ha'
          injection ha' with ha'
          injection ha' with e1 e2
          omega⟩, below_new _ _⟩
    · go_wp2_with fail
      go_ret
      exact ⟨_, rfl, Nat.le_refl _, ⟨a, n, cap, 0, z, Blk.new _ _ _, by omega, hn, h.below (below_new _ _), fun b off ha h0 => by
        obtain ⟨b', off', ha', hlt, -⟩ := h.at_ 0 (by omega)
        rw [ha] at ha'
        injection ha' with ha'
        injection ha' with e1 e2
        omega⟩, below_new _ _⟩
set_option maxHeartbeats 1600000 in
theorem l1Byte_any (p : Nat) (w : World) (h : Cur w p) :
    Calls Tryz.prog 50 #[.pointer (some ⟨p, 0, none⟩)] w fun e w' => ∃ x : Int, e = .returned (.int .i64 x) ∧ 0 ≤ x ∧ x ≤ 255 ∧ Drew p w w' := by
  obtain ⟨a, n, cap, i, hh, hB, h1, h2, h3, h4⟩ := h
  have c0 := hB.cell 0
  have c1 := hB.cell 1
  have c2 := hB.cell 2
  have z1 := hB.free 1
  have z2 := hB.free 2
  simp at c0 c1 c2
  go_enter Tryz.func50, Tryz.ntmps50
  go_wp2_with fail
  have B1 := hB.set_ 2 (.int .i64 (wrap64 (wrap64 (hh * 6364136223846793005) + 1442695040888963407)))
  have W1 : Wrote [p] w _ := Wrote.setCell (p := ⟨p, 2, none⟩) (by simp) (.int .i64 (wrap64 (wrap64 (hh * 6364136223846793005) + 1442695040888963407)))
  have hlt := hB.lt
  have R1 : Rbs (w.setCell ⟨p, 2, none⟩ (.int .i64 (wrap64 (wrap64 (hh * 6364136223846793005) + 1442695040888963407)))) a n cap := h3.keep fun b off ha hn => W1.same (by have := h4 b off ha hn; omega) (by have := h4 b off ha hn; simp; omega)
  generalize wrap64 (wrap64 (hh * 6364136223846793005) + 1442695040888963407) = hq at B1 W1 R1 ⊢
  generalize w.setCell ⟨p, 2, none⟩ (.int .i64 hq) = w1 at B1 W1 R1 ⊢
  clear c0 c1 c2 z1 z2
  have c0 := B1.cell 0
  have c1 := B1.cell 1
  have c2 := B1.cell 2
  simp at c0 c1 c2
  go_quiet (fail)
  go_wp2_with fail
  obtain ⟨x0, x1⟩ := bits_255 (bits .xor .i64 (hq / 8589934592) (hq / 35184372088832))
  generalize bits .and .i64 (bits .xor .i64 (hq / 8589934592) (hq / 35184372088832)) 255 = x at x0 x1 ⊢
  have b2 : Below w1.heap.size w1 (w1.drewN nq) := below_drewN (Below.refl _ _) _
  have B2 := B1.under b2
  have R2 := R1.below b2
  have W2 := W1.trans (Wrote.of_below (fp := [p]) b2)
  generalize w1.drewN nq = w2 at B2 R2 W2 ⊢
  clear c0 c1 c2 B1 R1 W1 b2
  have c0 := B2.cell 0
  have c1 := B2.cell 1
  have c2 := B2.cell 2
  simp at c0 c1 c2
  by_cases hin : i < n
  · have hd : decide ((i : Int) < (n : Int)) = true := by simp; omega
    go_quiet (fail)
    go_wp2_with fail
    have b3 : Below w2.heap.size w2 (w2.drewN nq) := below_drewN (Below.refl _ _) _
    have B3 := B2.under b3
    have R3 := R2.below b3
    have W3 := W2.trans (Wrote.of_below (fp := [p]) b3)
    generalize w2.drewN nq = w3 at B3 R3 W3 ⊢
    clear c0 c1 c2 B2 R2 W2 b3
    have c0 := B3.cell 0
    have c1 := B3.cell 1
    have c2 := B3.cell 2
    simp at c0 c1 c2
    obtain ⟨b, off, rfl, hlb, c, cc0, cc1, e0⟩ := R3.at_ i hin
    have z1 := B3.free 1
    go_quiet (fail)
    go_wp2_with fail
    go_ret
    obtain ⟨y0, y1⟩ := bits_255 (x + c)
    have b4 : Below w3.heap.size w3 (w3.drewN nq) := below_drewN (Below.refl _ _) _
    have B4 := (B3.under b4).set_ 1 (.int .i64 ((i : Int) + 1))
    have W4 := (W3.trans (Wrote.of_below (fp := [p]) b4)).trans (Wrote.setCell (p := ⟨p, 1, none⟩) (by simp) (.int .i64 ((i : Int) + 1)))
    refine ⟨_, rfl, y0, y1, ⟨_, n, cap, i + 1, hq, B4, by omega, h2, h3.keep fun b' off' ha hn => W4.same (by have := h4 b' off' ha hn; omega) (by have := h4 b' off' ha hn; simp; omega), h4⟩, W4⟩
  · have hd : decide ((i : Int) < (n : Int)) = false := by simp; omega
    go_quiet (fail)
    go_wp2_with fail
    go_ret
    have b3 : Below w2.heap.size w2 (w2.drewN nq) := below_drewN (Below.refl _ _) _
    have B3 := B2.under b3
    have W3 := W2.trans (Wrote.of_below (fp := [p]) b3)
    exact ⟨x, rfl, x0, x1, ⟨_, n, cap, i, hq, B3, h1, h2, h3.keep fun b' off' ha hn => W3.same (by have := h4 b' off' ha hn; omega) (by have := h4 b' off' ha hn; simp; omega), h4⟩, W3⟩
set_option maxHeartbeats 1600000 in
theorem l1Below_any (p : Nat) (n : Int) (w : World) (h : Cur w p) (hn : n ≤ 4294967296) :
    Calls Tryz.prog 20 #[.pointer (some ⟨p, 0, none⟩), .int .i64 n] w fun e w' => ∃ x : Nat, e = .returned (.int .i64 (x : Int)) ∧ (0 < n → (x : Int) < n) ∧ (x : Int) < 4294967296 ∧ Drew p w w' := by
  by_cases h0 : n ≤ 0
  · go_enter Tryz.func20, Tryz.ntmps20
    go_wp2_with fail
    go_ret
    exact ⟨0, rfl, fun h => by omega, by omega, Drew.of_below h (Below.refl _ _)⟩
  · by_cases h1 : n ≤ 256
    · go_enter Tryz.func20, Tryz.ntmps20
      go_wp2_with (go_at_call 50; (with_reducible refine (l1Byte_any p _ (by assumption)).mono ?_); rintro e w1 ⟨x, rfl, x0, x1, d1⟩)
      go_ret
      have e0 := Int.emod_nonneg x (show n ≠ 0 by omega)
      have e1 := Int.emod_lt_of_pos x (show 0 < n by omega)
      exact ⟨(x % n).toNat, ret_int (by omega), fun h => by omega, by omega, d1⟩
    · go_enter Tryz.func20, Tryz.ntmps20
      go_wp2_with fail
      refine (l1Byte_any p _ h).mono ?_
      rintro e w1 ⟨x, rfl, x0, x1, d1⟩
      have hc1 := d1.cur
      go_wp2_with fail
      refine (l1Byte_any p _ hc1).mono ?_
      rintro e w2 ⟨y, rfl, y0, y1, d2⟩
      have hc2 := d2.cur
      go_wp2_with fail
      refine (l1Byte_any p _ hc2).mono ?_
      rintro e w3 ⟨z, rfl, z0, z1, d3⟩
      have hc3 := d3.cur
      go_wp2_with fail
      refine (l1Byte_any p _ hc3).mono ?_
      rintro e w4 ⟨v, rfl, v0, v1, d4⟩
      go_wp2_with fail
      go_ret
      have e0 := Int.emod_nonneg (x * 16777216 + y * 65536 + z * 256 + v) (show n ≠ 0 by omega)
      have e1 := Int.emod_lt_of_pos (x * 16777216 + y * 65536 + z * 256 + v) (show 0 < n by omega)
      exact ⟨((x * 16777216 + y * 65536 + z * 256 + v) % n).toNat, ret_int (by omega), fun h => by omega, by omega, ((d1.trans d2).trans d3).trans d4⟩
theorem l1Once_any (p : Nat) (n : Int) (w : World) (h : Cur w p) (hn : n ≤ 4294967296) :
    Calls Tryz.prog 18 #[.pointer (some ⟨p, 0, none⟩), .int .i64 n] w fun e w' => ∃ b : Bool, e = .returned (.bool b) ∧ Drew p w w' := by
  go_enter Tryz.func18, Tryz.ntmps18
  go_wp2_with (go_at_call 20; (with_reducible refine (l1Below_any p n _ h hn).mono ?_); rintro e w1 ⟨x, rfl, x0, x1, d1⟩)
  go_ret
  exact ⟨_, rfl, d1⟩
set_option maxHeartbeats 800000 in
theorem l1PickInt_any (p g n T : Nat) (cs : Array Value) (w : World) (h : Cur w p) (hB : Blk w g T cs) (hg : p < g) (hn : n = cs.size) (hn0 : 0 < n) (hn1 : n ≤ 4294967296) (hi : ∀ j (hj : j < cs.size), ∃ z : Int, cs[j] = .int .i64 z ∧ i64 z) :
    Calls Tryz.prog 40 #[.pointer (some ⟨p, 0, none⟩), .slice (some ⟨g, 0, none⟩) n n] w fun e w' => ∃ z : Int, e = .returned (.int .i64 z) ∧ i64 z ∧ (∃ j : Nat, cs[j]? = some (.int .i64 z)) ∧ Drew p w w' := by
  have HI := hide hi
  clear hi
  have HN := hide hn
  clear hn
  go_enter Tryz.func40, Tryz.ntmps40
  go_wp2_with fail
  refine (l1Below_any p (n : Int) _ h (by omega)).mono ?_
  rintro e w1 ⟨x, rfl, x0, x1, d1⟩
  have hx : x < n := by have := x0 (by omega); omega
  have hxs : x < cs.size := by rw [← HN.out]; exact hx
  obtain ⟨z, hz, hzi⟩ := HI.out x hxs
  have B1 : Blk w1 g T cs := (d1.block hB.lt (by omega)).trans hB
  have c0 := B1.at_ (i := x) hxs
  rw [hz] at c0
  have HZ := hide hz
  clear hz x0
  go_wp2_with fail
  go_ret
  exact ⟨z, rfl, hzi, ⟨x, by rw [Array.getElem?_eq_getElem hxs, HZ.out]⟩, d1⟩
set_option maxHeartbeats 800000 in
theorem l1Pick_any (p g n T : Nat) (cs : Array Value) (w : World) (h : Cur w p) (hB : Blk w g T cs) (hg : p < g) (hn : n = cs.size) (hn0 : 0 < n) (hn1 : n ≤ 4294967296) (hi : ∀ j (hj : j < cs.size), ∃ z : ByteArray, cs[j] = .string z ∧ z.size ≤ 1000) :
    Calls Tryz.prog 41 #[.pointer (some ⟨p, 0, none⟩), .slice (some ⟨g, 0, none⟩) n n] w fun e w' => ∃ z : ByteArray, e = .returned (.string z) ∧ z.size ≤ 1000 ∧ (∃ j : Nat, cs[j]? = some (.string z)) ∧ Drew p w w' := by
  have HI := hide hi
  clear hi
  have HN := hide hn
  clear hn
  go_enter Tryz.func41, Tryz.ntmps41
  go_wp2_with fail
  refine (l1Below_any p (n : Int) _ h (by omega)).mono ?_
  rintro e w1 ⟨x, rfl, x0, x1, d1⟩
  have hx : x < n := by have := x0 (by omega); omega
  have hxs : x < cs.size := by rw [← HN.out]; exact hx
  obtain ⟨z, hz, hzi⟩ := HI.out x hxs
  have B1 : Blk w1 g T cs := (d1.block hB.lt (by omega)).trans hB
  have c0 := B1.at_ (i := x) hxs
  rw [hz] at c0
  have HZ := hide hz
  clear hz x0
  go_wp2_with fail
  go_ret
  exact ⟨z, rfl, hzi, ⟨x, by rw [Array.getElem?_eq_getElem hxs, HZ.out]⟩, d1⟩
end Go.Proofs.YtklifieahcoljaaGreat
