/-
  The walks of markText, markStringS and heldStringS.
-/
import Derived.Test.YtcbgapncmjjmeaaDoorOwnS
import Derived.Test.YtcbgapncmjjmeaaDoorWrote
import Derived.Laws.IdiomStrings
import Derived.Deep.RegionHeld3
namespace Go.Proofs.YtcbgapncmjjmeaaDoor
open Go.RowKit
set_option maxRecDepth 100000
set_option linter.unusedVariables false
set_option linter.unusedSimpArgs false

/-- The last digit. -/
def dgt (k : Nat) : UInt8 := UInt8.ofNat (48 + k % 10)
theorem dgt_nat (k : Nat) : (dgt k).toNat = 48 + k % 10 := by
  rw [dgt, UInt8.toNat_ofNat']
  omega
/-- The digits of a number ahead of a text. -/
def mdig (k : Nat) (out : ByteArray) : ByteArray := if h : k = 0 then out else mdig (k / 10) (⟨#[dgt k]⟩ ++ out)
termination_by k
decreasing_by omega
theorem mdig_zero (out : ByteArray) : mdig 0 out = out := by rw [mdig]; simp
theorem mdig_pos {k : Nat} (h : 0 < k) (out : ByteArray) : mdig k out = mdig (k / 10) (⟨#[dgt k]⟩ ++ out) := by
  rw [mdig]
  rw [dif_neg (by omega)]
theorem mdig_size (k : Nat) : ∀ out : ByteArray, (mdig k out).size ≤ k + out.size := by
  induction k using Nat.strongRecOn with
  | _ k ih =>
    intro out
    by_cases h : k = 0
    · subst h
      rw [mdig_zero]
      omega
    · rw [mdig_pos (by omega)]
      have := ih (k / 10) (by omega) (⟨#[dgt k]⟩ ++ out)
      rw [ByteArray.size_append] at this
      have h1 : (ByteArray.mk #[dgt k]).size = 1 := rfl
      omega
/-- The text that marks the number k. -/
def mtext (k : Nat) : ByteArray := if k = 0 then ⟨#[109, 48]⟩ else ⟨#[109]⟩ ++ mdig k ⟨#[]⟩
theorem mtext_size (k : Nat) (h : k ≤ 16777216) : (mtext k).size ≤ 9223372036854775807 := by
  unfold mtext
  split
  · decide
  · rw [ByteArray.size_append]
    have := mdig_size k ⟨#[]⟩
    have h1 : (ByteArray.mk #[109]).size = 1 := rfl
    have h2 : (ByteArray.mk #[]).size = 0 := rfl
    omega

/-- One digit as a text. -/
theorem digit_text {P : Program} (w : World) (src dst e : TypeId) (hs : P.underlying src = some (.slice e)) (he : P.underlying e = some (.int .u8)) (hd : P.underlying dst = some .string) (q : Nat) :
    Sem.run P (convert src dst (.slice (some ⟨w.heap.size, 0, none⟩) 1 1)) (w.alloc (.cells #[.int .u8 (48 + (q : Int) % 10)] e)) =
      .ok (.string ⟨#[dgt q]⟩) (w.alloc (.cells #[.int .u8 (48 + (q : Int) % 10)] e)) := by
  have h := run_convert_bytes_back (P := P) (w.alloc (.cells #[.int .u8 (48 + (q : Int) % 10)] e)) src dst e ⟨w.heap.size, 0, none⟩ 1 [dgt q] hs he hd (fun j hj => by
    have : j = 0 := by simpa using hj
    subst this
    have hc := (Blk.new w e #[.int .u8 (48 + (q : Int) % 10)]).cell 0
    simp only [Addr.add_lit, Nat.add_zero, List.getElem_cons_zero]
    rw [hc]
    rw [dgt_nat]
    simp)
  exact h

set_option maxHeartbeats 1600000 in
theorem markText_any (k : Nat) (w : World) (hk : k ≤ 16777216) : Calls Tryd.prog 55 #[.int .i64 (k : Int)] w fun e w' => e = .returned (.string (mtext k)) ∧ Below w.heap.size w w' := by
  by_cases h0 : k = 0
  · subst h0
    go_enter Tryd.func55, Tryd.ntmps55
    go_wp2_with fail
    go_ret
    exact ⟨rfl, Below.refl _ _⟩
  · have hm : mtext k = ⟨#[109]⟩ ++ mdig k ⟨#[]⟩ := by rw [mtext, if_neg h0]
    have hd : decide ((k : Int) ≤ 0) = false := by simp; omega
    have hbound := mdig_size k ⟨#[]⟩
    have hz : (ByteArray.mk #[]).size = 0 := rfl
    replace hm := hide hm
    go_enter Tryd.func55, Tryd.ntmps55
    go_wp2_with fail
    go_loopw [0, 3] (fun c o wr => ∃ q : Nat, q ≤ k ∧ c = .int .i64 (q : Int) ∧ (∃ s : ByteArray, o = .string s ∧ s.size + q ≤ k ∧ Hid (mdig q s = mdig k ⟨#[]⟩)) ∧ Below w.heap.size w wr) (fun c _ _ => (intOf c).toNat)
    case atStart => exact ⟨k, by omega, rfl, ⟨⟨#[]⟩, rfl, by rw [hz]; omega, rfl⟩, Below.refl _ _⟩
    case round =>
      obtain ⟨q, hq, rfl, ⟨s, rfl, hs, Hs⟩, hb⟩ := hrel
      have hsz := hb.size
      by_cases hq0 : q = 0
      · subst hq0
        have h3 := Hs.out
        rw [mdig_zero] at h3
        replace h3 := hide h3
        go_wp2_with fail
        go_ret
        exact ⟨by rw [hm.out, ← h3.out]; rfl, hb⟩
      · have hcv : Sem.run Tryd.prog (convert 35 9 (.slice (some ⟨wr.heap.size, 0, none⟩) 1 1)) (wr.alloc (.cells #[.int .u8 (48 + (q : Int) % 10)] 5)) =
            .ok (.string ⟨#[dgt q]⟩) (wr.alloc (.cells #[.int .u8 (48 + (q : Int) % 10)] 5)) := digit_text _ _ _ _ Tryd.underlying35 Tryd.underlying5 Tryd.underlying9 q
        have hstep := hide (mdig_pos (k := q) (by omega) s)
        have h1 : (ByteArray.mk #[dgt q]).size = 1 := rfl
        have hdiv : ((q / 10 : Nat) : Int) = (q : Int) / 10 := by omega
        have hsum : (ByteArray.mk #[dgt q] ++ s).size = 1 + s.size := by rw [ByteArray.size_append, h1]
        replace hsum := hide hsum
        replace hdiv := hide hdiv
        go_wp2_with fail
        go_roundw
        case rel =>
          refine ⟨q / 10, by omega, by rw [hdiv.out], ⟨_, rfl, ?_, ?_⟩, hb.alloc hsz _⟩
          · rw [hsum.out]
            omega
          · rw [Hid, ← hstep.out]
            exact Hs.out
        case measure => simp [intOf]; omega

/-- The texts that mark n places, from k on. -/
def marks (k n : Nat) : List ByteArray := (List.range n).map fun i => mtext (k + i)
theorem marks_len (k n : Nat) : (marks k n).length = n := by simp [marks]
theorem marks_get (k n i : Nat) (h : i < (marks k n).length) : (marks k n)[i] = mtext (k + i) := by simp [marks]

set_option maxHeartbeats 1600000 in
theorem markStringS_any (k n cap g : Nat) (cs : Array Value) (w : World) (hk : k ≤ 4194304) (hn : n ≤ 8388608) (hB : Blk w g 9 cs) (hcs : n ≤ cs.size) :
    Calls Tryd.prog 24 #[.slice (some ⟨g, 0, none⟩) n cap, .int .i64 (k : Int)] w fun e w' => e = .returned (.int .i64 ((k + n : Nat) : Int)) ∧ Wrote [g] w w' ∧ (∀ i, i < n → w'.cell? ⟨g, i, none⟩ = some (.string (mtext (k + i)))) := by
  have hg := hB.lt
  go_enter Tryd.func24, Tryd.ntmps24
  go_wp2_with fail
  go_loopw [1, 5] (fun c i wr => ∃ j : Nat, j ≤ n ∧ i = .int .i64 j ∧ c = .int .i64 ((k : Int) + (j : Int)) ∧ (∃ cs' : Array Value, Blk wr g 9 cs' ∧ n ≤ cs'.size ∧ Hid (∀ i, i < j → cs'[i]? = some (.string (mtext (k + i))))) ∧ Wrote [g] w wr) (fun _ i _ => n - (intOf i).toNat)
  case atStart => exact ⟨0, by omega, rfl, by simp, ⟨cs, hB, hcs, fun i hi => by omega⟩, Wrote.refl _ _⟩
  case round =>
    obtain ⟨j, hj, rfl, rfl, ⟨cs', hB', hcs', HC⟩, hb⟩ := hrel
    by_cases hjn : j < n
    · have CM := fun W => markText_any (k + j) W (by omega)
      rw [Int.natCast_add] at CM
      replace CM := hide CM
      have HG := hide (show ∀ w' : World, Below wr.heap.size wr w' → Blk w' g 9 cs' from fun w' hw => hB'.under hw)
      go_wp2_with (go_at_call 55; (with_reducible refine (CM.out _).mono ?_); rintro e w1 ⟨rfl, b1⟩; have B1 := HG.out _ b1; have c1 := B1.at_ (i := j) (by omega); have z1 := B1.free j)
      go_roundw
      case rel =>
        refine ⟨j + 1, by omega, by go_num, (by first | go_num | (congr 1; omega)), ⟨_, B1.set_ j _, by simpa using hcs', fun i hi => ?_⟩, (hb.trans (Wrote.of_below b1)).trans (Wrote.setCell (by simp) _)⟩
        by_cases hij : i < j
        · rw [Array.getElem?_setIfInBounds_ne (by omega)]
          exact HC.out i hij
        · obtain rfl : i = j := by omega
          rw [Array.getElem?_setIfInBounds_self_of_lt (by omega)]
      case measure => simp [intOf]; omega
    · obtain rfl : j = n := by omega
      go_wp2_with fail
      go_ret
      exact ⟨ret_int (by omega), hb, fun i hi => by rw [hB'.cell]; exact HC.out i hi⟩
theorem markStringS_none (k cap : Nat) (a : Option Addr) (w : World) (hk : k ≤ 4194304) :
    Calls Tryd.prog 24 #[.slice a 0 cap, .int .i64 (k : Int)] w fun e w' => e = .returned (.int .i64 (k : Int)) ∧ w' = w := by
  go_enter Tryd.func24, Tryd.ntmps24
  go_wp2_with fail
  refine wp_loop_rounds 1 ?_
  rw [rounds_succ]
  go_wp2_with fail
  go_ret
  exact ⟨rfl, rfl⟩
set_option maxHeartbeats 1600000 in
theorem heldStringS_any (k n cap : Nat) (a : Option Addr) (w : World) (hk : k ≤ 4194304) (hn : n ≤ 8388608) (h : Rss w (marks k n) a n cap) :
    Calls Tryd.prog 25 #[.slice a n cap, .int .i64 (k : Int)] w fun e w' => e = .returned (.int .i64 ((k + n : Nat) : Int)) ∧ Below w.heap.size w w' := by
  go_enter Tryd.func25, Tryd.ntmps25
  go_wp2_with fail
  go_loopw [1, 5] (fun c i wr => ∃ j : Nat, j ≤ n ∧ i = .int .i64 j ∧ c = .int .i64 ((k : Int) + (j : Int)) ∧ Below w.heap.size w wr) (fun _ i _ => n - (intOf i).toNat)
  case atStart => exact ⟨0, by omega, rfl, by simp, Below.refl _ _⟩
  case round =>
    obtain ⟨j, hj, rfl, rfl, hb⟩ := hrel
    have hsz := hb.size
    by_cases hjn : j < n
    · have hjx : j < (marks k n).length := by rw [marks_len]; exact hjn
      obtain ⟨b, off, rfl, hlt', e0⟩ := (h.below hb).get j hjx
      rw [marks_get] at e0
      have CM := fun W => markText_any (k + j) W (by omega)
      rw [Int.natCast_add] at CM
      replace CM := hide CM
      have i0 : (0 : Int) ≤ (j : Int) := by omega
      have i1 : (j : Int) < (n : Int) := by omega
      have HB := hide hlt'
      go_wp2_with fail
      go_region_held3 (fun W => W.cell? ⟨b, off + j, none⟩ = some (.string (mtext (k + j))))
        (first | exact e0 | exact c1)
        (first
          | (go_at_call 55; (with_reducible refine (CM.out _).mono ?_); rintro e w1 ⟨rfl, b1⟩
             have c1 : w1.cell? ⟨b, off + j, none⟩ = some (.string (mtext (k + j))) := (b1.cell (p := ⟨b, off + j, none⟩) HB.out).trans e0
             have k1 : Below w.heap.size w w1 := (hb.drew).trans (b1.mono hsz)))
      go_wp2_with fail
      go_roundw
      case rel => exact ⟨j + 1, by omega, by go_num, (by first | go_num | (congr 1; omega)), k1⟩
      case measure => simp [intOf]; omega
    · obtain rfl : j = n := by omega
      go_wp2_with fail
      go_ret
      exact ⟨ret_int (by omega), hb⟩
end Go.Proofs.YtcbgapncmjjmeaaDoor
