/-
  The reader of a text, first part.
-/
import Derived.Test.YtklifieahcoljaaGreatGenM
import Derived.StillTailTactics
import Derived.Deep.LoopGhost
import Derived.Deep.DeepCutAuto
namespace Go.Proofs.YtklifieahcoljaaGreat
open Go.RowKit
set_option maxRecDepth 100000
set_option linter.unusedVariables false
set_option linter.unusedSimpArgs false

/-- Block q is a reader of s, so far read, bad or not. -/
def Rdr (w : World) (q : Nat) (s : ByteArray) (i : Nat) (b : Bool) : Prop := Blk w q 84 #[.string s, .int .i64 (i : Int), .bool b] ∧ i ≤ s.size ∧ s.size ≤ 1000

set_option maxHeartbeats 3200000 in
theorem l4Take_any (q : Nat) (s k : ByteArray) (i : Nat) (b : Bool) (w : World) (h : Rdr w q s i b) (hk : k.size ≤ 100) :
    Calls Tryz.prog 111 #[.pointer (some ⟨q, 0, none⟩), .string k] w fun e w' => ∃ r : Bool, e = .returned (.bool r) ∧ (r = false → Rdr w' q s i b) ∧ (r = true → b = false ∧ i + k.size ≤ s.size ∧ Rdr w' q s (i + k.size) false) ∧ Wrote [q] w w' := by
  obtain ⟨hB, hi, hs⟩ := h
  have c0 := hB.cell 0
  have c1 := hB.cell 1
  have c2 := hB.cell 2
  simp at c0 c1 c2
  have stay : Rdr w.drew q s i b := ⟨hB.under (below_drew w), hi, hs⟩
  cases b with
  | true =>
    go_enter Tryz.func111, Tryz.ntmps111
    go_wp2_with fail
    go_quiet (fail)
    go_wp2_with fail
    go_ret
    exact ⟨false, rfl, fun _ => ⟨hB.under (below_drewN (Below.refl _ _) _), hi, hs⟩, fun h => absurd h (by simp), Wrote.of_below (below_drewN (Below.refl _ _) _)⟩
  | false =>
    obtain ⟨e, he⟩ : ∃ e, e = i + k.size := ⟨_, rfl⟩
    have hwr : IntKind.i64.wrap ((i : Int) + (k.size : Int)) = (e : Int) := (IntWalk.i64_in _ (by omega)).trans (by omega)
    have hef : Hid (e = i + k.size) := hide he
    by_cases hgt : (s.size : Int) < (e : Int)
    · have hgt2 : ¬ (e : Int) ≤ (s.size : Int) := by omega
      clear he
      go_enter Tryz.func111, Tryz.ntmps111
      go_wp2_with fail
      go_quiet (fail)
      go_wp2_with fail
      go_ret
      exact ⟨false, rfl, fun _ => ⟨hB.under (below_drewN (Below.refl _ _) _), hi, hs⟩, fun h => absurd h (by simp), Wrote.of_below (below_drewN (Below.refl _ _) _)⟩
    · have hle : (e : Int) ≤ (s.size : Int) := by omega
      have hie : (i : Int) ≤ (e : Int) := by omega
      have hle2 : e ≤ s.size := by omega
      have hie2 : i ≤ e := by omega
      clear he
      cases hq : ((s.extract i e).toList == k.toList) with
      | false =>
        have hq2 : ((s.extract i e).toList != k.toList) = true := by simp [bne, hq]
        go_enter Tryz.func111, Tryz.ntmps111
        go_wp2_with fail
        go_quiet (fail)
        go_wp2_with fail
        go_ret
        exact ⟨false, rfl, fun _ => ⟨hB.under (below_drewN (Below.refl _ _) _), hi, hs⟩, fun h => absurd h (by simp), Wrote.of_below (below_drewN (Below.refl _ _) _)⟩
      | true =>
        have hq2 : ((s.extract i e).toList != k.toList) = false := by simp [bne, hq]
        go_enter Tryz.func111, Tryz.ntmps111
        go_wp2_with fail
        go_quiet (fail)
        have B2 := hB.under (below_drewN (Below.refl w.heap.size w) nq)
        have W2 : Wrote [q] w (w.drewN nq) := Wrote.of_below (below_drewN (Below.refl _ _) _)
        generalize w.drewN nq = w2 at B2 W2 ⊢
        clear c0 c1 c2
        have c0 := B2.cell 0
        have c1 := B2.cell 1
        have c2 := B2.cell 2
        have f1 := B2.free 1
        simp at c0 c1 c2
        go_wp2_with fail
        go_ret
        refine ⟨true, rfl, fun h => absurd h (by simp), fun _ => ⟨trivial, hef ▸ hle2, ⟨?_, hef ▸ hle2, hs⟩⟩, W2.trans (Wrote.setCell (by simp) _)⟩
        have B3 := B2.set_ 1 (.int .i64 (e : Int))
        have he2 : ((i + k.size : Nat) : Int) = (e : Int) := by rw [hef]
        rw [he2]
        simpa using B3

/-- .. or the reader turns bad. -/
theorem l4Must_any (q : Nat) (s k : ByteArray) (i : Nat) (b : Bool) (w : World) (h : Rdr w q s i b) (hk : k.size ≤ 100) :
    Calls Tryz.prog 112 #[.pointer (some ⟨q, 0, none⟩), .string k] w fun e w' => e = .returned (.tuple #[]) ∧ ∃ i' b', Rdr w' q s i' b' ∧ (b' = true → i' = i) ∧ (b' = false → b = false ∧ i' = i + k.size) ∧ Wrote [q] w w' := by
  have hB := h.1
  have c0 := hB.cell 0
  have c1 := hB.cell 1
  have c2 := hB.cell 2
  have f2 := hB.free 2
  simp at c0 c1 c2
  cases b with
  | true =>
    go_enter Tryz.func112, Tryz.ntmps112
    go_wp2_with fail
    go_end0
    refine ⟨rfl, i, true, ⟨?_, h.2⟩, fun _ => rfl, fun h => absurd h (by simp), Wrote.setCell (by simp) _⟩
    simpa using hB.set_ 2 (.bool true)
  | false =>
    clear f2 c2
    have c2 := hB.cell 2
    simp at c2
    go_enter Tryz.func112, Tryz.ntmps112
    have C : Hid (Calls Tryz.prog 111 #[.pointer (some ⟨q, 0, none⟩), .string k] w fun e w' => ∃ (i' : Nat) (r : Bool), e = .returned (.bool r) ∧ Rdr w' q s i' false ∧ (r = false → i' = i) ∧ (r = true → i' = i + k.size) ∧ Wrote [q] w w') :=
      hide ((l4Take_any q s k i false w h hk).mono fun e w' ⟨r, he, hf, ht, W⟩ => by
        cases r with
        | false => exact ⟨i, false, he, hf rfl, fun _ => rfl, fun h => absurd h (by simp), W⟩
        | true => exact ⟨_, true, he, (ht rfl).2.2, fun h => absurd h (by simp), fun _ => rfl, W⟩)
    go_wp2_with (go_at_call 111; (with_reducible refine C.out.mono ?_); rintro e w1 ⟨i', r, rfl, HR, hi', hi'', W1⟩; have hB1 := HR.1; have f2 := hB1.free 2; have c2 := hB1.cell 2; simp at c2)
    go_end0
    refine ⟨rfl, i', !r, ⟨?_, HR.2⟩, by cases r <;> simp_all, by cases r <;> simp_all, W1.trans (Wrote.setCell (by simp) _)⟩
    simpa using hB1.set_ 2 (.bool (!r))
end Go.Proofs.YtklifieahcoljaaGreat

namespace Go.Proofs.YtklifieahcoljaaGreat
open Go.RowKit
set_option maxRecDepth 100000
set_option linter.unusedVariables false
set_option linter.unusedSimpArgs false

/-- What a reader may still give: nothing once it is bad. -/
def phi (s : ByteArray) (i : Nat) (b : Bool) : Nat := if b then 0 else 10 * (s.size - i) + 4000
theorem phi_bad (s : ByteArray) (i : Nat) : phi s i true = 0 := rfl
theorem phi_good (s : ByteArray) (i : Nat) : phi s i false = 10 * (s.size - i) + 4000 := rfl
theorem Rdr.of_heap {w w' : World} {q : Nat} {s : ByteArray} {i : Nat} {b : Bool} (h : Rdr w q s i b) (hh : w'.heap[q]? = w.heap[q]?) : Rdr w' q s i b := ⟨hh.trans h.1, h.2⟩
theorem Rdr.lt {w : World} {q : Nat} {s : ByteArray} {i : Nat} {b : Bool} (h : Rdr w q s i b) : q < w.heap.size := h.1.lt
theorem Rdr.under {w w' : World} {q : Nat} {s : ByteArray} {i : Nat} {b : Bool} (h : Rdr w q s i b) (hb : Below w.heap.size w w') : Rdr w' q s i b := ⟨h.1.under hb, h.2⟩
theorem Rdr.alloc {w : World} {q : Nat} {s : ByteArray} {i : Nat} {b : Bool} (h : Rdr w q s i b) (o : Obj) : Rdr (w.alloc o) q s i b := ⟨h.1.alloc o, h.2⟩
theorem Wrote.blk {q b T : Nat} {w w' : World} {cs : Array Value} (h : Wrote [q] w w') (hB : Blk w b T cs) (hn : b ≠ q) : Blk w' b T cs := (h.block b hB.lt (by simpa using hn)).trans hB
theorem Wrote.fresh {q base : Nat} {w w' : World} (h : Wrote [q] w w') (hb : q < base) : Fresh base w w' := ⟨h.size, fun b hb' hl => h.block b hl (by simp; omega)⟩
theorem Wrote.alloc (q : Nat) (w : World) (o : Obj) : Wrote [q] w (w.alloc o) := Wrote.of_below (below_new w o)
theorem Wrote.next {q : Nat} {a b c : World} (h : Wrote [q] a b) (k : Below b.heap.size b c) : Wrote [q] a c := h.trans (Wrote.of_below k)
theorem Wrote.over {q : Nat} {w w1 w2 : World} (hd : Wrote [q] w w1) (hB : Below w.heap.size w1 w2) : Wrote [q] w w2 :=
  ⟨hB.os.trans hd.os, hB.tape.trans hd.tape, hB.output.trans hd.output, Nat.le_trans hd.size hB.size, fun b hb hn => (hB.block b hb).trans (hd.block b hb hn),
    fun b o hb => (hB.frozen (p := ⟨b, o, none⟩) hb).trans (hd.frozen b o hb)⟩

set_option maxHeartbeats 6400000 in
theorem l4Word_any (q : Nat) (s : ByteArray) (i : Nat) (b : Bool) (w : World) (h : Rdr w q s i b) :
    Calls Tryz.prog 115 #[.pointer (some ⟨q, 0, none⟩)] w fun e w' => ∃ (x : ByteArray) (i' : Nat), e = .returned (.string x) ∧ Rdr w' q s i' b ∧ i ≤ i' ∧ x.size = i' - i ∧ Wrote [q] w w' := by
  obtain ⟨hB, hi, hs⟩ := h
  have c0 := hB.cell 0
  have c1 := hB.cell 1
  simp at c0 c1
  have HB := hide hB
  go_enter Tryz.func115, Tryz.ntmps115
  go_wp2_with fail
  clear c0 c1
  go_loopg [] (s.size - i) (fun k wr => ∃ j : Nat, k = s.size - j ∧ i ≤ j ∧ Rdr wr q s j b ∧ Wrote [q] w wr)
  case atStart => exact ⟨i, rfl, Nat.le_refl _, ⟨HB.out, hi, hs⟩, Wrote.refl _ _⟩
  case round =>
    obtain ⟨j, rfl, hij, hR, hW⟩ := hrel
    obtain ⟨hBj, hj, -⟩ := hR
    have c0 := hBj.cell 0
    have c1 := hBj.cell 1
    have f1 := hBj.free 1
    simp at c0 c1
    have HBj := hide hBj
    have HW := hide hW
    clear hW
    have leave : ∀ n, Wrote [q] w (wr.drewN n) ∧ Rdr (wr.drewN n) q s j b := fun n => ⟨HW.out.next (below_drewN (Below.refl _ _) _), HBj.out.under (below_drewN (Below.refl _ _) _), hj, hs⟩
    have HL := hide leave
    clear leave
    by_cases hjs : j < s.size
    · have hjs1 : (j : Int) < (s.size : Int) := by omega
      obtain ⟨c, hc⟩ : ∃ c : Nat, s[j].toNat = c := ⟨_, rfl⟩
      have hc8 : c < 256 := by rw [← hc]; exact UInt8.toNat_lt _
      rcases (by omega : c < 48 ∨ (48 ≤ c ∧ c ≤ 57) ∨ (57 < c ∧ c < 97) ∨ (97 ≤ c ∧ c ≤ 122) ∨ 122 < c) with hc5 | hc5 | hc5 | hc5 | hc5
      · have g48 : decide (48 ≤ (c : Int)) = false := by simp; omega
        have g57 : decide ((c : Int) ≤ 57) = true := by simp; omega
        have g97 : decide (97 ≤ (c : Int)) = false := by simp; omega
        have g122 : decide ((c : Int) ≤ 122) = true := by simp; omega
        go_wp2_with fail
        go_quiet (fail)
        have HL2 := hide (HL.out nq)
        generalize wr.drewN nq = w2 at HL2 ⊢
        clear c0 c1 f1
        have c0 := HL2.out.2.1.cell 0
        have c1 := HL2.out.2.1.cell 1
        simp at c0 c1
        have hij1 : (i : Int) ≤ (j : Int) := by omega
        have hjs2 : (j : Int) ≤ (s.size : Int) := by omega
        go_wp2_with fail
        go_quiet (fail)
        go_wp2_with fail
        go_ret
        exact ⟨_, j, rfl, ⟨HL2.out.2.1.under (below_drewN (Below.refl _ _) _), hj, hs⟩, hij, by simp; omega, HL2.out.1.next (below_drewN (Below.refl _ _) _)⟩
      · have g48 : decide (48 ≤ (c : Int)) = true := by simp; omega
        have g57 : decide ((c : Int) ≤ 57) = true := by simp; omega
        have g97 : decide (97 ≤ (c : Int)) = false := by simp; omega
        have g122 : decide ((c : Int) ≤ 122) = true := by simp; omega
        go_wp2_with fail
        go_quiet (fail)
        have HL2 := hide (HL.out nq)
        generalize wr.drewN nq = w2 at HL2 ⊢
        clear c0 c1 f1
        have c0 := HL2.out.2.1.cell 0
        have c1 := HL2.out.2.1.cell 1
        have f1 := HL2.out.2.1.free 1
        simp at c0 c1
        have hwr : IntKind.i64.wrap ((j : Int) + 1) = ((j + 1 : Nat) : Int) := (IntWalk.i64_in _ (by omega)).trans (by omega)
        go_wp2_with fail
        go_roundg (s.size - (j + 1))
        case measure => omega
        case rel =>
          refine ⟨j + 1, rfl, by omega, ⟨?_, by omega, hs⟩, HL2.out.1.trans (Wrote.setCell (by simp) _)⟩
          simpa using HL2.out.2.1.set_ 1 (.int .i64 ((j + 1 : Nat) : Int))
      · have g48 : decide (48 ≤ (c : Int)) = true := by simp; omega
        have g57 : decide ((c : Int) ≤ 57) = false := by simp; omega
        have g97 : decide (97 ≤ (c : Int)) = false := by simp; omega
        have g122 : decide ((c : Int) ≤ 122) = true := by simp; omega
        go_wp2_with fail
        go_quiet (fail)
        have HL2 := hide (HL.out nq)
        generalize wr.drewN nq = w2 at HL2 ⊢
        clear c0 c1 f1
        have c0 := HL2.out.2.1.cell 0
        have c1 := HL2.out.2.1.cell 1
        simp at c0 c1
        have hij1 : (i : Int) ≤ (j : Int) := by omega
        have hjs2 : (j : Int) ≤ (s.size : Int) := by omega
        go_wp2_with fail
        go_quiet (fail)
        go_wp2_with fail
        go_ret
        exact ⟨_, j, rfl, ⟨HL2.out.2.1.under (below_drewN (Below.refl _ _) _), hj, hs⟩, hij, by simp; omega, HL2.out.1.next (below_drewN (Below.refl _ _) _)⟩
      · have g48 : decide (48 ≤ (c : Int)) = true := by simp; omega
        have g57 : decide ((c : Int) ≤ 57) = false := by simp; omega
        have g97 : decide (97 ≤ (c : Int)) = true := by simp; omega
        have g122 : decide ((c : Int) ≤ 122) = true := by simp; omega
        go_wp2_with fail
        go_quiet (fail)
        have HL2 := hide (HL.out nq)
        generalize wr.drewN nq = w2 at HL2 ⊢
        clear c0 c1 f1
        have c0 := HL2.out.2.1.cell 0
        have c1 := HL2.out.2.1.cell 1
        have f1 := HL2.out.2.1.free 1
        simp at c0 c1
        have hwr : IntKind.i64.wrap ((j : Int) + 1) = ((j + 1 : Nat) : Int) := (IntWalk.i64_in _ (by omega)).trans (by omega)
        go_wp2_with fail
        go_roundg (s.size - (j + 1))
        case measure => omega
        case rel =>
          refine ⟨j + 1, rfl, by omega, ⟨?_, by omega, hs⟩, HL2.out.1.trans (Wrote.setCell (by simp) _)⟩
          simpa using HL2.out.2.1.set_ 1 (.int .i64 ((j + 1 : Nat) : Int))
      · have g48 : decide (48 ≤ (c : Int)) = true := by simp; omega
        have g57 : decide ((c : Int) ≤ 57) = false := by simp; omega
        have g97 : decide (97 ≤ (c : Int)) = true := by simp; omega
        have g122 : decide ((c : Int) ≤ 122) = false := by simp; omega
        go_wp2_with fail
        go_quiet (fail)
        have HL2 := hide (HL.out nq)
        generalize wr.drewN nq = w2 at HL2 ⊢
        clear c0 c1 f1
        have c0 := HL2.out.2.1.cell 0
        have c1 := HL2.out.2.1.cell 1
        simp at c0 c1
        have hij1 : (i : Int) ≤ (j : Int) := by omega
        have hjs2 : (j : Int) ≤ (s.size : Int) := by omega
        go_wp2_with fail
        go_quiet (fail)
        go_wp2_with fail
        go_ret
        exact ⟨_, j, rfl, ⟨HL2.out.2.1.under (below_drewN (Below.refl _ _) _), hj, hs⟩, hij, by simp; omega, HL2.out.1.next (below_drewN (Below.refl _ _) _)⟩
    · have hjs1 : ¬ (j : Int) < (s.size : Int) := by omega
      go_wp2_with fail
      go_quiet (fail)
      have HL2 := hide (HL.out nq)
      generalize wr.drewN nq = w2 at HL2 ⊢
      clear c0 c1 f1
      have c0 := HL2.out.2.1.cell 0
      have c1 := HL2.out.2.1.cell 1
      simp at c0 c1
      have hij1 : (i : Int) ≤ (j : Int) := by omega
      have hjs2 : (j : Int) ≤ (s.size : Int) := by omega
      go_wp2_with fail
      go_quiet (fail)
      go_wp2_with fail
      go_ret
      exact ⟨_, j, rfl, ⟨HL2.out.2.1.under (below_drewN (Below.refl _ _) _), hj, hs⟩, hij, by simp; omega, HL2.out.1.next (below_drewN (Below.refl _ _) _)⟩
end Go.Proofs.YtklifieahcoljaaGreat

namespace Go.Proofs.YtklifieahcoljaaGreat
open Go.RowKit
set_option maxRecDepth 100000
set_option linter.unusedVariables false
set_option linter.unusedSimpArgs false

theorem Fresh.refl (base : Nat) (w : World) : Fresh base w w := ⟨Nat.le_refl _, fun _ _ _ => rfl⟩
theorem Rdr.set_ {w : World} {q : Nat} {s : ByteArray} {i : Nat} {b : Bool} (h : Rdr w q s i b) {p : Addr} (hp : q ≠ p.block) (u : Value) : Rdr (w.setCell p u) q s i b := h.of_heap (Below.heap_setCell w p u q hp)
theorem Rdr.bad {w : World} {q : Nat} {s : ByteArray} {i : Nat} {b : Bool} (h : Rdr w q s i b) (b' : Bool) : Rdr (w.setCell ⟨q, 2, none⟩ (.bool b')) q s i b' := by
  refine ⟨?_, h.2⟩
  simpa using h.1.set_ 2 (.bool b')
theorem TyA.row1 {base : Nat} {w : World} {u : Ty} {a : Option Addr} {n c : Nat} (h : TyA base w u a n c) (hb : base ≤ w.heap.size) {k : Int} (hk : i64 k) :
    TyA base (w.alloc (.cells #[.int .i64 u.kind, .slice a n c] 26)) ⟨k, [u]⟩ (some ⟨w.heap.size, 0, none⟩) 1 1 := by
  obtain ⟨fp, hT, hge⟩ := h
  exact TyA.of_own (OwnTy.lit (k := k) (ts := [u]) (cs := [.int .i64 u.kind, .slice a n c]) (fp := fp) hk (Fresh.refl _ _) rfl hb ⟨_, _, [], fp, [], rfl, by simp, hT, rfl, rfl⟩ hge rfl (by simp [maxLen]))
theorem TyA.row2 {base : Nat} {w : World} {u v : Ty} {a a' : Option Addr} {n c n' c' : Nat} (h : TyA base w u a n c) (h' : TyA base w v a' n' c') (hb : base ≤ w.heap.size) {k : Int} (hk : i64 k) :
    TyA base (w.alloc (.cells #[.int .i64 u.kind, .slice a n c, .int .i64 v.kind, .slice a' n' c'] 26)) ⟨k, [u, v]⟩ (some ⟨w.heap.size, 0, none⟩) 2 2 := by
  obtain ⟨fp, hT, hge⟩ := h
  obtain ⟨fp', hT', hge'⟩ := h'
  exact TyA.of_own (OwnTy.lit (k := k) (ts := [u, v]) (cs := [.int .i64 u.kind, .slice a n c, .int .i64 v.kind, .slice a' n' c']) (fp := fp ++ fp') hk (Fresh.refl _ _) rfl hb ⟨_, _, _, fp, fp', rfl, rfl, hT, ⟨_, _, [], fp', [], rfl, by simp, hT', rfl, rfl⟩⟩
    (fun b hb => (List.mem_append.1 hb).elim (hge b) (hge' b)) rfl (by simp [maxLen]))

/-- What a call gives that reads a type. -/
def GivesT (q : Nat) (s : ByteArray) (i : Nat) (b : Bool) (w : World) (e : Ending) (w' : World) : Prop :=
  ∃ (t : Ty) (a : Option Addr) (n c i' : Nat) (b' : Bool), e = .returned (.agg #[.int .i64 t.kind, .slice a n c]) ∧ TyA w.heap.size w' t a n c ∧ Rdr w' q s i' b' ∧ t.size + phi s i' b' ≤ 1 + phi s i b ∧ Wrote [q] w w'
theorem GivesT.mk {q : Nat} {s : ByteArray} {i : Nat} {b : Bool} {w w1 : World} {R base : Nat} {t : Ty} {a : Option Addr} {n c i' : Nat} {b' : Bool} (hq : q < w.heap.size) (hR : w.heap.size = R) (h : TyA base w1 t a n c) (hb : R < base) (hr : Rdr w1 q s i' b') (hp : t.size + phi s i' b' ≤ 1 + phi s i b) (hW : Wrote [q] w w1) :
    GivesT q s i b w (.returned (.agg #[.int .i64 t.kind, .slice a n c])) ((w1.setCell ⟨R, 0, none⟩ (.int .i64 t.kind)).setCell ⟨R, 1, none⟩ (.slice a n c)) := by
  subst hR
  exact ⟨t, a, n, c, i', b', rfl, (h.keep ((Fresh.set_ (p := ⟨w.heap.size, 0, none⟩) hb _).trans (Fresh.set_ (p := ⟨w.heap.size, 1, none⟩) hb _))).base (by omega),
    (hr.set_ (p := ⟨w.heap.size, 0, none⟩) (by simp; omega) _).set_ (p := ⟨w.heap.size, 1, none⟩) (by simp; omega) _, hp,
    hW.over (((Below.refl _ _).setCell (p := ⟨w.heap.size, 0, none⟩) (Nat.le_refl _) _).setCell (p := ⟨w.heap.size, 1, none⟩) (Nat.le_refl _) _)⟩
theorem phi_take {s : ByteArray} {i k : Nat} (h : i + k ≤ s.size) : phi s (i + k) false + 10 * k = phi s i false := by
  rw [phi_good, phi_good]
  omega
theorem phi_le (s : ByteArray) {i i' : Nat} {b b' : Bool} (h : b' = true ∨ b = false ∧ i ≤ i') : phi s i' b' ≤ phi s i b := by
  rcases h with rfl | ⟨rfl, h⟩
  · exact Nat.zero_le _
  · cases b'
    · rw [phi_good, phi_good]
      omega
    · exact Nat.zero_le _

theorem Blk.aside {w : World} {b T : Nat} {cs : Array Value} (h : Blk w b T cs) {p : Addr} (hp : b ≠ p.block) (u : Value) : Blk (w.setCell p u) b T cs := (Below.heap_setCell w p u b hp).trans h
theorem Wrote.set_ {q : Nat} {w w1 : World} (h : Wrote [q] w w1) (o : Nat) (u : Value) : Wrote [q] w (w1.setCell ⟨q, o, none⟩ u) := h.trans (Wrote.setCell (by simp) _)
theorem l4Take_good (q : Nat) (s k : ByteArray) (i : Nat) (w : World) (h : Rdr w q s i false) (hk : k.size ≤ 100) :
    Calls Tryz.prog 111 #[.pointer (some ⟨q, 0, none⟩), .string k] w fun e w' => ∃ (r : Bool) (i' : Nat), e = .returned (.bool r) ∧ Rdr w' q s i' false ∧ (r = false → i' = i) ∧ (r = true → phi s i' false + 10 * k.size = phi s i false) ∧ Wrote [q] w w' :=
  (l4Take_any q s k i false w h hk).mono fun e w' ⟨r, he, hf, ht, W⟩ => by
    cases r with
    | false => exact ⟨false, i, he, hf rfl, fun _ => rfl, fun h => absurd h (by simp), W⟩
    | true => exact ⟨true, _, he, (ht rfl).2.2, fun h => absurd h (by simp), fun _ => phi_take (ht rfl).2.1, W⟩
theorem l4Must_phi (q : Nat) (s k : ByteArray) (i : Nat) (b : Bool) (w : World) (h : Rdr w q s i b) (hk : k.size ≤ 100) :
    Calls Tryz.prog 112 #[.pointer (some ⟨q, 0, none⟩), .string k] w fun e w' => e = .returned (.tuple #[]) ∧ ∃ (i' : Nat) (b' : Bool), Rdr w' q s i' b' ∧ phi s i' b' ≤ phi s i b ∧ (b' = false → b = false ∧ phi s i' b' + 10 * k.size = phi s i b) ∧ Wrote [q] w w' :=
  (l4Must_any q s k i b w h hk).mono fun e w' ⟨he, i', b', hR, hf, ht, W⟩ => by
    refine ⟨he, i', b', hR, ?_, ?_, W⟩
    · cases b' with
      | true => exact Nat.zero_le _
      | false =>
        obtain ⟨rfl, rfl⟩ := ht rfl
        exact phi_le s (.inr ⟨rfl, by omega⟩)
    · rintro rfl
      obtain ⟨rfl, rfl⟩ := ht rfl
      exact ⟨rfl, phi_take hR.2.1⟩
set_option maxHeartbeats 12800000 in
theorem l4Type_any (q : Nat) (s : ByteArray) (m : Nat) : ∀ (d : Nat), m + d = 9 → ∀ (i : Nat) (b : Bool) (w : World), Rdr w q s i b →
    Calls Tryz.prog 119 #[.pointer (some ⟨q, 0, none⟩), .int .i64 (d : Int)] w (GivesT q s i b w) := by
  induction m with
  | zero =>
    intro d hd i b w h
    obtain rfl : d = 9 := by omega
    have hq := h.lt
    have B0 := Blk.new w 26 #[.int .i64 0, .slice none 0 0]
    have R0 := h.alloc (.cells #[.int .i64 0, .slice none 0 0] 26)
    have W0 := Wrote.alloc q w (.cells #[.int .i64 0, .slice none 0 0] 26)
    go_enter Tryz.func119, Tryz.ntmps119
    go_upto_region 1 with fail
    generalize w.alloc (.cells #[.int .i64 0, .slice none 0 0] 26) = w0 at B0 R0 W0 ⊢
    have c2 := R0.1.cell 2
    have f2 := R0.1.free 2
    have r0 := B0.free 0
    have r1 := B0.free 1
    obtain ⟨u0, u1⟩ := B0.two
    simp at c2
    have hT := GivesT.mk (q := q) (s := s) (i := i) (b := b) hq rfl (TyA.nil (w.heap.size + 1) (w0.setCell ⟨q, 2, none⟩ (.bool true)) 0 ⟨by omega, by omega⟩) (by omega) (R0.bad true) (by simp [Ty.size, Ty.sizes, phi_bad]) (W0.trans (Wrote.setCell (by simp) _))
    replace hT := hide hT
    cases b with
    | true =>
      go_wp2_with fail
      exact bodyPost_ret (v := .agg #[.int .i64 0, .slice none 0 0]) (by simp [results, Tryz.results119, go_sem, u0, u1]) rfl hT.out
    | false =>
      go_wp2_with fail
      exact bodyPost_ret (v := .agg #[.int .i64 0, .slice none 0 0]) (by simp [results, Tryz.results119, go_sem, u0, u1]) rfl hT.out
  | succ m ih =>
    intro d hd i b w h
    have IH := hide (ih (d + 1) (by omega))
    clear ih
    have hd9 : ¬ (8 : Int) < (d : Int) := by omega
    have hd8 : (d : Int) ≤ 8 := by omega
    have hwd : IntKind.i64.wrap ((d : Int) + 1) = ((d + 1 : Nat) : Int) := (IntWalk.i64_in _ (by omega)).trans (by omega)
    have hq := h.lt
    have B0 := Blk.new w 26 #[.int .i64 0, .slice none 0 0]
    have R0 := h.alloc (.cells #[.int .i64 0, .slice none 0 0] 26)
    have W0 := Wrote.alloc q w (.cells #[.int .i64 0, .slice none 0 0] 26)
    go_enter Tryz.func119, Tryz.ntmps119
    go_upto_region 1 with fail
    generalize w.alloc (.cells #[.int .i64 0, .slice none 0 0] 26) = w0 at B0 R0 W0 ⊢
    have c2 := R0.1.cell 2
    have f2 := R0.1.free 2
    simp at c2
    cases b with
    | true =>
      have r0 := B0.free 0
      have r1 := B0.free 1
      obtain ⟨u0, u1⟩ := B0.two
      have hT := GivesT.mk (q := q) (s := s) (i := i) (b := true) hq rfl (TyA.nil (w.heap.size + 1) (w0.setCell ⟨q, 2, none⟩ (.bool true)) 0 ⟨by omega, by omega⟩) (by omega) (R0.bad true) (by simp [Ty.size, Ty.sizes, phi_bad]) (W0.trans (Wrote.setCell (by simp) _))
      replace hT := hide hT
      go_wp2_with fail
      exact bodyPost_ret (v := .agg #[.int .i64 0, .slice none 0 0]) (by simp [results, Tryz.results119, go_sem, u0, u1]) rfl hT.out
    | false =>
      have R1 := R0.bad false
      have B1 := B0.aside (p := ⟨q, 2, none⟩) (by simp; omega) (.bool false)
      have W1 := W0.set_ 2 (.bool false)
      go_upto_region 2 with fail
      generalize w0.setCell ⟨q, 2, none⟩ (.bool false) = w1 at R1 B1 W1 ⊢
      clear c2 f2 B0 R0 W0
      have c2 := R1.1.cell 2
      simp at c2
      go_wp2_with fail
      refine (l4Take_good q s ⟨#[73]⟩ i w1 R1 (by decide)).mono ?_
      rintro e w2 ⟨r, i2, rfl, R2, hr0, hr1, k2⟩
      have B2 := k2.blk B1 (by omega)
      have W2 := W1.trans k2
      cases r with
      | true =>
        replace hr1 : _ + 10 * 1 = _ := hr1 rfl
        go_wp2_with fail
        refine (l3Int_eq w2).mono ?_
        rintro e w3 ⟨rfl, b3⟩
        have B3 := B2.under b3
        have R3 := R2.under b3
        have r0 := B3.free 0
        have r1 := B3.free 1
        obtain ⟨u0, u1⟩ := B3.two
        have hT := hide (GivesT.mk (q := q) (s := s) (i := i) (b := false) (t := ⟨1, []⟩) hq rfl (TyA.nil (w.heap.size + 1) w3 1 ⟨by omega, by omega⟩) (by omega) R3 (by simp [Ty.size, Ty.sizes]; omega) (W2.next b3))
        go_wp2_with fail
        exact bodyPost_ret (v := .agg #[.int .i64 1, .slice none 0 0]) (by simp [results, Tryz.results119, go_sem, u0, u1]) rfl hT.out
      | false =>
      have hi2 := (hr0 rfl).symm
      subst hi2
      clear hr0 hr1 c2 R1 B1 W1 k2
      go_wp2_with fail
      refine (l4Take_good q s ⟨#[66]⟩ i w2 R2 (by decide)).mono ?_
      rintro e w1 ⟨r, i3, rfl, R1, hr0, hr1, k2⟩
      have B1 := k2.blk B2 (by omega)
      have W1 := W2.trans k2
      cases r with
      | true =>
        replace hr1 : _ + 10 * 1 = _ := hr1 rfl
        go_wp2_with fail
        refine (l3Bool_eq w1).mono ?_
        rintro e w3 ⟨rfl, b3⟩
        have B3 := B1.under b3
        have R3 := R1.under b3
        have r0 := B3.free 0
        have r1 := B3.free 1
        obtain ⟨u0, u1⟩ := B3.two
        have hT := hide (GivesT.mk (q := q) (s := s) (i := i) (b := false) (t := ⟨2, []⟩) hq rfl (TyA.nil (w.heap.size + 1) w3 2 ⟨by omega, by omega⟩) (by omega) R3 (by simp [Ty.size, Ty.sizes]; omega) (W1.next b3))
        go_wp2_with fail
        exact bodyPost_ret (v := .agg #[.int .i64 2, .slice none 0 0]) (by simp [results, Tryz.results119, go_sem, u0, u1]) rfl hT.out
      | false =>
      have hi2 := (hr0 rfl).symm
      subst hi2
      clear hr0 hr1 R2 B2 W2 k2
      go_wp2_with fail
      refine (l4Take_good q s ⟨#[60]⟩ i w1 R1 (by decide)).mono ?_
      rintro e w2 ⟨r, i2, rfl, R2, hr0, hr1, k2⟩
      have B2 := k2.blk B1 (by omega)
      have W2 := W1.trans k2
      have hs2 := W2.size
      cases r with
      | true =>
        replace hr1 : _ + 10 * 1 = _ := hr1 rfl
        go_wp2_with fail
        refine (IH.out _ _ _ R2).mono ?_
        rintro e w3 ⟨t, a, n, c, i4, b4, rfl, hT4, R4, hp4, k4⟩
        have B4 := k4.blk B2 (by omega)
        have W4 := W2.trans k4
        go_wp2_with fail
        have X5 := Blk.new2 w3 (.cells #[.int .i64 t.kind, .slice a n c] 26) 26 #[.int .i64 4, .slice (some ⟨w3.heap.size, 0, none⟩) 1 1]
        have R5 := (R4.alloc (.cells #[.int .i64 t.kind, .slice a n c] 26)).alloc (.cells #[.int .i64 4, .slice (some ⟨w3.heap.size, 0, none⟩) 1 1] 26)
        have B5 := (B4.alloc (.cells #[.int .i64 t.kind, .slice a n c] 26)).alloc (.cells #[.int .i64 4, .slice (some ⟨w3.heap.size, 0, none⟩) 1 1] 26)
        have W5 := (W4.next (below_new w3 (.cells #[.int .i64 t.kind, .slice a n c] 26))).next (below_new _ (.cells #[.int .i64 4, .slice (some ⟨w3.heap.size, 0, none⟩) 1 1] 26))
        have T5 := (hT4.row1 (k := 4) k4.size ⟨by omega, by omega⟩).keep (Fresh.of_below (below_new _ (.cells #[.int .i64 4, .slice (some ⟨w3.heap.size, 0, none⟩) 1 1] 26)))
        have hs3 := k4.size
        have hlt2 := B2.lt
        generalize (w3.alloc (.cells #[.int .i64 t.kind, .slice a n c] 26)).alloc (.cells #[.int .i64 4, .slice (some ⟨w3.heap.size, 0, none⟩) 1 1] 26) = w5 at X5 R5 B5 W5 T5 ⊢
        refine (l4Must_phi q s ⟨#[62]⟩ i4 b4 w5 R5 (by decide)).mono ?_
        rintro e w6 ⟨rfl, i6, b6, R6, hp6, -, k6⟩
        have X6 := k6.blk X5 (by omega)
        have B6 := k6.blk B5 (by omega)
        have W6 := W5.trans k6
        have T6 := T5.keep (k6.fresh (by omega))
        obtain ⟨u0, u1⟩ := B6.two
        obtain ⟨x0, x1⟩ := X6.two
        have r0 := B6.free 0
        have r1 := B6.free 1
        have hT := hide (GivesT.mk (q := q) (s := s) (i := i) (b := false) (t := ⟨4, [t]⟩) hq rfl T6 (by omega) R6 (by rw [Ty.size_one]; omega) W6)
        go_wp2_with fail
        exact bodyPost_ret (v := .agg #[.int .i64 4, .slice (some ⟨w3.heap.size, 0, none⟩) 1 1]) (by simp [results, Tryz.results119, go_sem, u0, u1]) rfl hT.out
      | false =>
        have hi2 := (hr0 rfl).symm
        subst hi2
        clear hr0 hr1 R1 B1 W1 k2
        go_wp2_with fail
        refine (l4Must_phi q s ⟨#[40]⟩ i false w2 R2 (by decide)).mono ?_
        rintro e w3 ⟨rfl, i3, b3, R3, -, hp3, k3⟩
        have B3 := k3.blk B2 (by omega)
        have W3 := W2.trans k3
        have c2 := R3.1.cell 2
        simp at c2
        cases b3 with
        | true =>
          obtain ⟨u0, u1⟩ := B3.two
          have r0 := B3.free 0
          have r1 := B3.free 1
          have hT := hide (GivesT.mk (q := q) (s := s) (i := i) (b := false) hq rfl (TyA.nil (w.heap.size + 1) w3 0 ⟨by omega, by omega⟩) (by omega) R3 (by simp [Ty.size, Ty.sizes, phi_bad]) W3)
          go_wp2_with fail
          exact bodyPost_ret (v := .agg #[.int .i64 0, .slice none 0 0]) (by simp [results, Tryz.results119, go_sem, u0, u1]) rfl hT.out
        | false =>
          replace hp3 : _ + 10 * 1 = _ := (hp3 rfl).2
          have hs3 := W3.size
          have hl3 := B3.lt
          go_wp2_with fail
          refine (IH.out _ _ _ R3).mono ?_
          rintro e w4 ⟨t, a, n, c, i4, b4, rfl, hT4, R4, hp4, k4⟩
          have hs4 := k4.size
          have X4 := Blk.new w4 26 #[.int .i64 t.kind, .slice a n c]
          have B4 := (k4.blk B3 (by omega)).alloc (.cells #[.int .i64 t.kind, .slice a n c] 26)
          have W4 := (W3.trans k4).next (below_new w4 (.cells #[.int .i64 t.kind, .slice a n c] 26))
          have R5 := R4.alloc (.cells #[.int .i64 t.kind, .slice a n c] 26)
          have T4 := hT4.keep (Fresh.of_below (below_new w4 (.cells #[.int .i64 t.kind, .slice a n c] 26)))
          have hl4 : (w4.alloc (.cells #[.int .i64 t.kind, .slice a n c] 26)).heap.size = w4.heap.size + 1 := by simp
          go_wp2_with fail
          generalize w4.alloc (.cells #[.int .i64 t.kind, .slice a n c] 26) = w5 at X4 B4 W4 R5 T4 hl4 ⊢
          refine (l4Must_phi q s ⟨#[62]⟩ i4 b4 w5 R5 (by decide)).mono ?_
          rintro e w6 ⟨rfl, i6, b6, R6, hp6, -, k6⟩
          have X6 := k6.blk X4 (by omega)
          have B6 := k6.blk B4 (by omega)
          have W6 := W4.trans k6
          have T6 := T4.keep (k6.fresh (by omega))
          have hs6 := k6.size
          clear c2
          have c2 := R6.1.cell 2
          simp at c2
          cases b6 with
          | true =>
            obtain ⟨u0, u1⟩ := B6.two
            have r0 := B6.free 0
            have r1 := B6.free 1
            have hT := hide (GivesT.mk (q := q) (s := s) (i := i) (b := false) hq rfl (TyA.nil (w.heap.size + 1) w6 0 ⟨by omega, by omega⟩) (by omega) R6 (by simp [Ty.size, Ty.sizes, phi_bad]) W6)
            go_wp2_with fail
            exact bodyPost_ret (v := .agg #[.int .i64 0, .slice none 0 0]) (by simp [results, Tryz.results119, go_sem, u0, u1]) rfl hT.out
          | false =>
            go_wp2_with fail
            refine (IH.out _ _ _ R6).mono ?_
            rintro e w7 ⟨u, a', n', c', i7, b7, rfl, hT7, R7, hp7, k7⟩
            have hs7 := k7.size
            have Y7 := Blk.new w7 26 #[.int .i64 u.kind, .slice a' n' c']
            have X7 := (k7.blk X6 (by omega)).alloc (.cells #[.int .i64 u.kind, .slice a' n' c'] 26)
            have B7 := (k7.blk B6 (by omega)).alloc (.cells #[.int .i64 u.kind, .slice a' n' c'] 26)
            have W7 := (W6.trans k7).next (below_new w7 (.cells #[.int .i64 u.kind, .slice a' n' c'] 26))
            have R8 := R7.alloc (.cells #[.int .i64 u.kind, .slice a' n' c'] 26)
            have U7 := hT7.keep (Fresh.of_below (below_new w7 (.cells #[.int .i64 u.kind, .slice a' n' c'] 26)))
            have T7 := (T6.keep (k7.fresh (by omega))).keep (Fresh.of_below (below_new w7 (.cells #[.int .i64 u.kind, .slice a' n' c'] 26)))
            have hl7 : (w7.alloc (.cells #[.int .i64 u.kind, .slice a' n' c'] 26)).heap.size = w7.heap.size + 1 := by simp
            go_wp2_with fail
            generalize w7.alloc (.cells #[.int .i64 u.kind, .slice a' n' c'] 26) = w8 at Y7 X7 B7 W7 R8 U7 T7 hl7 ⊢
            refine (l4Must_phi q s ⟨#[41]⟩ i7 b7 w8 R8 (by decide)).mono ?_
            rintro e w9 ⟨rfl, i9, b9, R9, hp9, -, k9⟩
            have Y9 := k9.blk Y7 (by omega)
            have X9 := k9.blk X7 (by omega)
            have B9 := k9.blk B7 (by omega)
            have W9 := W7.trans k9
            have hs9 := k9.size
            have T9 := T7.keep (k9.fresh (by omega))
            have U9 := (U7.keep (k9.fresh (by omega))).base (base' := w3.heap.size) (by omega)
            have Q9 := T9.row2 U9 (k := 3) (by omega) ⟨by omega, by omega⟩
            have hT := hide (GivesT.mk (q := q) (s := s) (i := i) (b := false) (t := ⟨3, [t, u]⟩) hq rfl Q9 (by omega) (R9.alloc _) (by rw [Ty.size_two]; omega) (W9.next (below_new _ _)))
            have ho := T9.rd
            obtain ⟨u0, u1⟩ := B9.two
            obtain ⟨x0, x1⟩ := X9.two
            obtain ⟨y0, y1⟩ := Y9.two
            have r0 := B9.free 0
            have r1 := B9.free 1
            clear ho
            have B10 := B9.alloc (.cells #[.int .i64 t.kind, .slice a n c, .int .i64 u.kind, .slice a' n' c'] 26)
            obtain ⟨v0, v1⟩ := B10.two
            have z0 := B10.free 0
            have z1 := B10.free 1
            go_wp2_with fail
            exact bodyPost_ret (v := .agg #[.int .i64 3, .slice (some ⟨w9.heap.size, 0, none⟩) 2 2]) (by simp [results, Tryz.results119, go_sem, v0, v1]) rfl hT.out
end Go.Proofs.YtklifieahcoljaaGreat

namespace Go.Proofs.YtklifieahcoljaaGreat
open Go.RowKit
set_option maxRecDepth 100000
set_option linter.unusedVariables false
set_option linter.unusedSimpArgs false

/-- Letters that read as a term in blocks of which P holds. -/
def OwnP (P : Nat → Prop) (w : World) (t : Tm) (l : Lt) : Prop := t.fits ∧
  ∃ cs f1 f2 f3, TyAt 0 w t.type l.ta l.tn l.tc f1 ∧ TyAt 0 w t.res l.ra l.rn l.rc f2 ∧ w.ownsRow 0 29 9 (.slice l.aa l.an l.ac) t.args.length cs ∧ RCM w t.args cs f3 ∧
    (∀ g, (Value.slice l.aa l.an l.ac).ownBlock = some g → g ∉ f1 ∧ g ∉ f2 ∧ g ∉ f3 ∧ P g) ∧ (∀ b ∈ f1, P b) ∧ (∀ b ∈ f2, P b) ∧ (∀ b ∈ f3, P b)
theorem own_same {T size n : Nat} {w w' : World} {v : Value} {cs : List Value} (h : w.ownsRow 0 T size v n cs) (hk : ∀ g, v.ownBlock = some g → w'.heap[g]? = w.heap[g]?) : w'.ownsRow 0 T size v n cs := by
  refine ⟨h.1, ?_⟩
  rcases h.2 with hn | ⟨g, cap, cur, rfl, hg, hh, r⟩
  · exact .inl hn
  · exact .inr ⟨g, cap, cur, rfl, hg, (hk g rfl).trans hh, r⟩
theorem OwnP.keep {P : Nat → Prop} {w w' : World} {t : Tm} {l : Lt} (h : OwnP P w t l) (hk : ∀ b, P b → b < w.heap.size → w'.heap[b]? = w.heap[b]?) : OwnP P w' t l := by
  obtain ⟨hf, cs, f1, f2, f3, h1, h2, hown, h3, hap, p1, p2, p3⟩ := h
  exact ⟨hf, cs, f1, f2, f3, ⟨RT.keep _ _ _ _ h1.1 fun b hb => SameB.of_heap (hk b (p1 b hb) (RT.lt _ _ _ _ h1.1 b hb)), fun _ _ => Nat.zero_le _⟩,
    ⟨RT.keep _ _ _ _ h2.1 fun b hb => SameB.of_heap (hk b (p2 b hb) (RT.lt _ _ _ _ h2.1 b hb)), fun _ _ => Nat.zero_le _⟩, own_same hown fun g hg => hk g (hap g hg).2.2.2 (hown.lt g hg).2,
    RCM_keep h3 fun b hb => SameB.of_heap (hk b (p3 b hb) (RCM_lt h3 b hb)), hap, p1, p2, p3⟩
theorem OwnP.mono {P Q : Nat → Prop} {w : World} {t : Tm} {l : Lt} (h : OwnP P w t l) (hk : ∀ b, P b → b < w.heap.size → Q b) : OwnP Q w t l := by
  obtain ⟨hf, cs, f1, f2, f3, h1, h2, hown, h3, hap, p1, p2, p3⟩ := h
  exact ⟨hf, cs, f1, f2, f3, h1, h2, hown, h3, fun g hg => ⟨(hap g hg).1, (hap g hg).2.1, (hap g hg).2.2.1, hk g (hap g hg).2.2.2 (hown.lt g hg).2⟩,
    fun b hb => hk b (p1 b hb) (RT.lt _ _ _ _ h1.1 b hb), fun b hb => hk b (p2 b hb) (RT.lt _ _ _ _ h2.1 b hb), fun b hb => hk b (p3 b hb) (RCM_lt h3 b hb)⟩
theorem OwnP.of_own {base : Nat} {w : World} {t : Tm} {l : Lt} (h : OwnM base w t l) : OwnP (fun b => base ≤ b) w t l := by
  obtain ⟨hf, cs, f1, f2, f3, h1, h2, hown, h3, hge, hap⟩ := h
  refine ⟨hf, cs, f1, f2, f3, ⟨h1.1, fun _ _ => Nat.zero_le _⟩, ⟨h2.1, fun _ _ => Nat.zero_le _⟩, ⟨hown.1, ?_⟩, h3, fun g hg => ⟨(hap g hg).1, (hap g hg).2.1, (hap g hg).2.2, (hown.lt g hg).1⟩, h1.2, h2.2, hge⟩
  rcases hown.2 with hn | ⟨g, cap, cur, hv, hg, hh, r⟩
  · exact .inl hn
  · exact .inr ⟨g, cap, cur, hv, Nat.zero_le _, hh, r⟩
theorem OwnP.own {P : Nat → Prop} {base : Nat} {w : World} {t : Tm} {l : Lt} (h : OwnP P w t l) (hP : ∀ b, P b → base ≤ b) : OwnM base w t l := by
  obtain ⟨hf, cs, f1, f2, f3, h1, h2, hown, h3, hap, p1, p2, p3⟩ := h
  refine ⟨hf, cs, f1, f2, f3, ⟨h1.1, fun b hb => hP b (p1 b hb)⟩, ⟨h2.1, fun b hb => hP b (p2 b hb)⟩, ⟨hown.1, ?_⟩, h3, fun b hb => hP b (p3 b hb), fun g hg => ⟨(hap g hg).1, (hap g hg).2.1, (hap g hg).2.2.1⟩⟩
  rcases hown.2 with hn | ⟨g, cap, cur, hv, hg, hh, r⟩
  · exact .inl hn
  · exact .inr ⟨g, cap, cur, hv, hP g (hap g (by rw [hv]; rfl)).2.2.2, hh, r⟩
theorem OwnP.fields {P : Nat → Prop} {w : World} {t t' : Tm} {l : Lt} (h : OwnP P w t l) (hf : t'.fits) (e1 : t'.type = t.type) (e2 : t'.res = t.res) (e3 : t'.args = t.args) : OwnP P w t' l := by
  obtain ⟨-, cs, f1, f2, f3, h1, h2, hown, h3, hap, p1, p2, p3⟩ := h
  exact ⟨hf, cs, f1, f2, f3, e1 ▸ h1, e2 ▸ h2, e3 ▸ hown, e3 ▸ h3, hap, p1, p2, p3⟩
theorem OwnP.rm {P : Nat → Prop} {w : World} {t : Tm} {l : Lt} (h : OwnP P w t l) : ∃ fp, RM w t l fp ∧ ∀ b ∈ fp, P b := by
  obtain ⟨hi, cs, f1, f2, f3, h1, h2, hown, h3, hap, p1, p2, p3⟩ := h
  have hlen : l.an = t.args.length ∧ l.an ≤ l.ac ∧ l.ac ≤ maxLen := by
    rcases hown.2 with ⟨hv, hn⟩ | ⟨g, cap, cur, hv, hg, hh, hle, hm, hsz, htk⟩
    · injection hv with q1 q2 q3
      rw [q2, q3]
      exact ⟨hn.symm, Nat.le_refl _, by simp⟩
    · injection hv with q1 q2 q3
      rw [q2, q3]
      exact ⟨rfl, hle, hm⟩
  by_cases hx : t.args = []
  · refine ⟨_, RM.mk (f3 := []) hi hlen h1.1 h2.1 (.inl ⟨hx, rfl⟩), fun b hb => ?_⟩
    rw [List.append_nil] at hb
    exact (List.mem_append.1 hb).elim (p1 b) (p2 b)
  · rcases hown.2 with ⟨hv, hn⟩ | ⟨g, cap, cur, hv, hg, hh, hle, hm, hsz, htk⟩
    · exact absurd (List.length_eq_zero_iff.1 hn) hx
    · have hR : RMs w t.args g 0 f3 := RCM_rms h3 fun j u hu => by
        have := hown.cells (g := g) (by rw [hv]; rfl) j u hu
        simpa [Addr.add_lit] using this
      have hPg := (hap g (by rw [hv]; rfl)).2.2.2
      injection hv with q1 q2 q3
      refine ⟨_, RM.mk (f3 := g :: f3) hi hlen h1.1 h2.1 (.inr ⟨hx, g, 0, f3, q1, rfl, hR⟩), fun b hb => ?_⟩
      rcases List.mem_append.1 hb with hb | hb
      · exact p1 b hb
      · rcases List.mem_append.1 hb with hb | hb
        · exact p2 b hb
        · rcases List.mem_cons.1 hb with rfl | hb
          · exact hPg
          · exact p3 b hb
/-- A term of one part, in a row of its own. -/
theorem OwnP.wrap {P : Nat → Prop} {w : World} {t : Tm} {l : Lt} (h : OwnP P w t l) (k : Int) (hk : i64 k) :
    OwnP (fun b => P b ∨ b = w.heap.size) (w.alloc (.cells #[.int .i64 t.kind, .string t.name, .string t.other, .int .i64 t.n, .int .i64 t.type.kind, .slice l.ta l.tn l.tc, .int .i64 t.res.kind, .slice l.ra l.rn l.rc, .slice l.aa l.an l.ac] 29)) (wrapM k t) (wrapL w.heap.size) := by
  obtain ⟨fp, hR, hfp⟩ := h.rm
  have hl := RM.lt _ _ _ hR
  refine ⟨⟨hk, by simp [wrapM, i64], Nat.zero_le _, Nat.zero_le _⟩, tcells t l, [], [], fp, TyAt.nil _ _ _ ⟨by omega, by omega⟩, TyAt.nil _ _ _ ⟨by omega, by omega⟩, ?_, ?_, fun g hg => ?_, by simp, by simp, fun b hb => .inl (hfp b hb)⟩
  · exact ⟨rfl, .inr ⟨w.heap.size, 1, #[.int .i64 t.kind, .string t.name, .string t.other, .int .i64 t.n, .int .i64 t.type.kind, .slice l.ta l.tn l.tc, .int .i64 t.res.kind, .slice l.ra l.rn l.rc, .slice l.aa l.an l.ac], rfl, Nat.zero_le _, heap_alloc_new w _, by simp [wrapM], by unfold maxLen; omega, rfl, rfl⟩⟩
  · exact ⟨l, [], fp, [], by simp, by simp, RM.keep _ _ _ hR fun b hb => SameB.of_heap (Below.heap_alloc _ _ _ (hl b hb)), rfl, rfl⟩
  · have e : w.heap.size = g := Option.some.inj hg
    subst e
    exact ⟨by simp, by simp, fun hin => by have := hl _ hin; omega, .inr rfl⟩
/-- One part more: behind the append of a boxed part to the parts' row. -/
theorem OwnP.snoc {P : Nat → Prop} {g n : Nat} {t x : Tm} {l lx : Lt} {wr w1 w2 : World} {a' : Option Addr} {n' c' : Nat} {cs : List Value} {f1 f2 f3 fx : List Nat} {o : Obj} (hf : t.fits) (hn : n = t.args.length)
    (h1 : TyAt 0 wr t.type l.ta l.tn l.tc f1) (h2 : TyAt 0 wr t.res l.ra l.rn l.rc f2) (hown : wr.ownsRow 0 29 9 (.slice l.aa l.an l.ac) n cs) (h3 : RCM wr t.args cs f3)
    (hap : ∀ g, (Value.slice l.aa l.an l.ac).ownBlock = some g → g ∉ f1 ∧ g ∉ f2 ∧ g ∉ f3 ∧ P g) (p1 : ∀ b ∈ f1, P b) (p2 : ∀ b ∈ f2, P b) (p3 : ∀ b ∈ f3, P b)
    (s1 : wr.heap.size ≤ w1.heap.size) (hk : ∀ b, P b → b < wr.heap.size → w1.heap[b]? = wr.heap[b]?) (hx : RM w1 x lx fx) (hxf : ∀ b ∈ fx, wr.heap.size ≤ b)
    (hown2 : w2.ownsRow 0 29 9 (.slice a' n' c') (n + 1) (cs ++ tcells x lx)) (hgrow : (w1.alloc o).grownBy w2 (Value.slice l.aa l.an l.ac).ownBlock)
    (hv' : (Value.slice a' n' c').ownBlock = some g) (hat : (Value.slice l.aa l.an l.ac).ownBlock = some g ∨ g = (w1.alloc o).heap.size) :
    OwnP (fun b => P b ∨ wr.heap.size ≤ b) w2 { t with args := t.args ++ [x] } { l with aa := a', an := n', ac := c' } := by
  have hvl := hown.lt
  have lt1 : ∀ y ∈ f1, y < wr.heap.size := RT.lt _ _ _ _ h1.1
  have lt2 : ∀ y ∈ f2, y < wr.heap.size := RT.lt _ _ _ _ h2.1
  have lt3 : ∀ y ∈ f3, y < wr.heap.size := RCM_lt h3
  have ltx : ∀ y ∈ fx, y < w1.heap.size := RM.lt _ _ _ hx
  have old : ∀ y, P y → y < wr.heap.size → some y ≠ (Value.slice l.aa l.an l.ac).ownBlock → w2.heap[y]? = wr.heap[y]? := fun y hy hlt hne => by
    rw [hgrow.block y (by simp; omega) hne, Below.heap_alloc _ _ _ (by omega), hk y hy hlt]
  have new : ∀ y ∈ fx, w2.heap[y]? = w1.heap[y]? := fun y hy => by
    have q1 := hxf y hy
    have q2 := ltx y hy
    rw [hgrow.block y (by simp; omega) (fun e => by have := (hvl y e.symm).2; omega), Below.heap_alloc _ _ _ q2]
  refine ⟨hf, cs ++ tcells x lx, f1, f2, f3 ++ fx, ⟨RT.keep _ _ _ _ h1.1 fun b hb => SameB.of_heap (old b (p1 b hb) (lt1 b hb) fun e => (hap b e.symm).1 hb), fun _ _ => Nat.zero_le _⟩,
    ⟨RT.keep _ _ _ _ h2.1 fun b hb => SameB.of_heap (old b (p2 b hb) (lt2 b hb) fun e => (hap b e.symm).2.1 hb), fun _ _ => Nat.zero_le _⟩, ?_, ?_, ?_, fun b hb => .inl (p1 b hb), fun b hb => .inl (p2 b hb), ?_⟩
  · simpa [hn] using hown2
  · exact RCM_snoc (RCM_keep h3 fun b hb => SameB.of_heap (old b (p3 b hb) (lt3 b hb) fun e => (hap b e.symm).2.2.1 hb)) (RM.keep _ _ _ hx fun b hb => SameB.of_heap (new b hb))
  · intro g' hg'
    have e : g' = g := Option.some.inj (hg'.symm.trans hv')
    subst e
    rcases hat with h | h
    · have hl := hvl g' h
      obtain ⟨q1, q2, q3, q4⟩ := hap g' h
      refine ⟨q1, q2, fun hin => ?_, .inl q4⟩
      rcases List.mem_append.1 hin with hin | hin
      · exact q3 hin
      · have := hxf g' hin
        omega
    · simp at h
      refine ⟨fun hin => ?_, fun hin => ?_, fun hin => ?_, .inr (by omega)⟩
      · have := lt1 g' hin
        omega
      · have := lt2 g' hin
        omega
      · rcases List.mem_append.1 hin with hin | hin
        · have := lt3 g' hin
          omega
        · have := ltx g' hin
          omega
  · intro b hb
    rcases List.mem_append.1 hb with hb | hb
    · exact .inl (p3 b hb)
    · exact .inr (hxf b hb)

/-- Of what lay in w only block q and blocks of which P holds have turned. -/
structure Kept (q : Nat) (P : Nat → Prop) (w w' : World) : Prop where
  os : w'.os = w.os
  tape : w'.tape = w.tape
  output : w'.output = w.output
  size : w.heap.size ≤ w'.heap.size
  block : ∀ b, b < w.heap.size → b ≠ q → ¬ P b → w'.heap[b]? = w.heap[b]?
  frozen : ∀ b o, b < w.heap.size → ¬ P b → w'.frozen? ⟨b, o, none⟩ = w.frozen? ⟨b, o, none⟩
theorem Kept.of_wrote {q : Nat} {P : Nat → Prop} {w w' : World} (h : Wrote [q] w w') : Kept q P w w' :=
  ⟨h.os, h.tape, h.output, h.size, fun b hb hn _ => h.block b hb (by simpa using hn), fun b o hb _ => h.frozen b o hb⟩
theorem Kept.refl (q : Nat) (P : Nat → Prop) (w : World) : Kept q P w w := Kept.of_wrote (Wrote.refl _ _)
theorem Kept.trans {q : Nat} {P Q : Nat → Prop} {a b c : World} (h : Kept q P a b) (k : Kept q Q b c) (hQ : ∀ x, x < a.heap.size → Q x → P x) : Kept q P a c :=
  ⟨k.os.trans h.os, k.tape.trans h.tape, k.output.trans h.output, Nat.le_trans h.size k.size,
    fun x hx hn hp => (k.block x (Nat.lt_of_lt_of_le hx h.size) hn fun hq => hp (hQ x hx hq)).trans (h.block x hx hn hp),
    fun x o hx hp => (k.frozen x o (Nat.lt_of_lt_of_le hx h.size) fun hq => hp (hQ x hx hq)).trans (h.frozen x o hx hp)⟩
theorem Kept.next {q : Nat} {P : Nat → Prop} {a b c : World} (h : Kept q P a b) (k : Wrote [q] b c) : Kept q P a c := h.trans (Kept.of_wrote (P := P) k) fun _ _ h => h
theorem Kept.set_ {q : Nat} {P : Nat → Prop} {w w1 : World} (h : Kept q P w w1) {p : Addr} (hp : p.block < w.heap.size → P p.block) (u : Value) : Kept q P w (w1.setCell p u) :=
  ⟨h.os, h.tape, h.output, Nat.le_trans h.size (by simp [World.setCell]), fun x hx hn hq => (Below.heap_setCell w1 p u x fun e => hq (e ▸ hp (e ▸ hx))).trans (h.block x hx hn hq),
    fun x o hx hq => (World.frozen?_setCell _ _ _ _).trans (h.frozen x o hx hq)⟩
theorem Kept.grown {q : Nat} {P : Nat → Prop} {w w1 w2 : World} {row : Option Nat} (h : Kept q P w w1) (hg : w1.grownBy w2 row) (hr : ∀ g, row = some g → g < w.heap.size → P g) : Kept q P w w2 :=
  ⟨hg.os.trans h.os, hg.tape.trans h.tape, hg.output.trans h.output, Nat.le_trans h.size hg.size,
    fun x hx hn hp => (hg.block x (Nat.lt_of_lt_of_le hx h.size) fun e => hp (hr x e.symm hx)).trans (h.block x hx hn hp),
    fun x o hx hp => (World.frozen?_of_block (hg.block x (Nat.lt_of_lt_of_le hx h.size) fun e => hp (hr x e.symm hx))).trans (h.frozen x o hx hp)⟩
/-- From an elder world, below which none of these blocks lies. -/
theorem Kept.wrote {q : Nat} {P : Nat → Prop} {a w w' : World} (h : Wrote [q] a w) (k : Kept q P w w') (hP : ∀ b, b < a.heap.size → ¬ P b) : Wrote [q] a w' :=
  ⟨k.os.trans h.os, k.tape.trans h.tape, k.output.trans h.output, Nat.le_trans h.size k.size,
    fun b hb hn => (k.block b (Nat.lt_of_lt_of_le hb h.size) (by simpa using hn) (hP b hb)).trans (h.block b hb hn), fun b o hb => (k.frozen b o (Nat.lt_of_lt_of_le hb h.size) (hP b hb)).trans (h.frozen b o hb)⟩
theorem Kept.blk {q : Nat} {P : Nat → Prop} {w w' : World} {b T : Nat} {cs : Array Value} (h : Kept q P w w') (hB : Blk w b T cs) (hn : b ≠ q) (hP : ¬ P b) : Blk w' b T cs := (h.block b hB.lt hn hP).trans hB

/-- What a call gives that reads a term. -/
def GivesR (q : Nat) (s : ByteArray) (i : Nat) (b : Bool) (N : Nat) (w : World) (e : Ending) (w' : World) : Prop :=
  ∃ (t : Tm) (l : Lt) (i' : Nat) (b' : Bool), e = .returned (.agg #[.int .i64 t.kind, .string t.name, .string t.other, .int .i64 t.n, .int .i64 t.type.kind, .slice l.ta l.tn l.tc, .int .i64 t.res.kind, .slice l.ra l.rn l.rc, .slice l.aa l.an l.ac]) ∧ OwnM w.heap.size w' t l ∧ Rdr w' q s i' b' ∧ t.wt + phi s i' b' ≤ N + phi s i b ∧ Wrote [q] w w'
/-- What a call gives that goes on with a term. -/
def GivesA (q : Nat) (s : ByteArray) (i : Nat) (b : Bool) (N : Nat) (P : Nat → Prop) (w : World) (e : Ending) (w' : World) : Prop :=
  ∃ (t : Tm) (l : Lt) (i' : Nat) (b' : Bool), e = .returned (.agg #[.int .i64 t.kind, .string t.name, .string t.other, .int .i64 t.n, .int .i64 t.type.kind, .slice l.ta l.tn l.tc, .int .i64 t.res.kind, .slice l.ra l.rn l.rc, .slice l.aa l.an l.ac]) ∧ OwnP (fun b => P b ∨ w.heap.size ≤ b) w' t l ∧ Rdr w' q s i' b' ∧ t.wt + phi s i' b' ≤ N + phi s i b ∧ Kept q P w w'
theorem GivesR.mk {q : Nat} {s : ByteArray} {i i' : Nat} {b b' : Bool} {N R base : Nat} {w w1 : World} {t : Tm} {l : Lt} (hq : q < w.heap.size) (hR : w.heap.size = R) (ho : OwnM base w1 t l) (hb : R < base) (hr : Rdr w1 q s i' b') (hp : t.wt + phi s i' b' ≤ N + phi s i b) (hW : Wrote [q] w w1) :
    GivesR q s i b N w (.returned (.agg #[.int .i64 t.kind, .string t.name, .string t.other, .int .i64 t.n, .int .i64 t.type.kind, .slice l.ta l.tn l.tc, .int .i64 t.res.kind, .slice l.ra l.rn l.rc, .slice l.aa l.an l.ac])) (putAt w1 R 0 (tcells t l)) := by
  subst hR
  exact ⟨t, l, i', b', rfl, (ho.keep (putAt_fresh hb _ _ _)).base (by omega), hr.of_heap (putAt_heap (by omega) _ _ _), hp, hW.over (putAt_below (Nat.le_refl _) _ _ _ (Below.refl _ _))⟩
theorem GivesA.mk {q : Nat} {s : ByteArray} {i i' : Nat} {b b' : Bool} {N R : Nat} {P Q : Nat → Prop} {w w1 : World} {t : Tm} {l : Lt} (hq : q < w.heap.size) (hR : w.heap.size ≤ R) (ho : OwnP Q w1 t l) (hQ : ∀ b, Q b → b ≠ R ∧ (P b ∨ w.heap.size ≤ b)) (hr : Rdr w1 q s i' b') (hp : t.wt + phi s i' b' ≤ N + phi s i b) (hW : Kept q P w w1) :
    GivesA q s i b N P w (.returned (.agg #[.int .i64 t.kind, .string t.name, .string t.other, .int .i64 t.n, .int .i64 t.type.kind, .slice l.ta l.tn l.tc, .int .i64 t.res.kind, .slice l.ra l.rn l.rc, .slice l.aa l.an l.ac])) (putAt w1 R 0 (tcells t l)) := by
  refine ⟨t, l, i', b', rfl, ((ho.keep fun b hb _ => putAt_heap (hQ b hb).1 _ _ _).mono fun b hb _ => (hQ b hb).2), hr.of_heap (putAt_heap (by omega) _ _ _), hp, ?_⟩
  have k := putAt_below (M := R) (B := w.heap.size) hR (tcells t l) w1 0 (Below.refl _ _)
  exact ⟨k.os.trans hW.os, k.tape.trans hW.tape, k.output.trans hW.output, Nat.le_trans hW.size k.size, fun x hx hn hp => (k.block x hx).trans (hW.block x hx hn hp), fun x o hx hp => (k.frozen (p := ⟨x, o, none⟩) hx).trans (hW.frozen x o hx hp)⟩
end Go.Proofs.YtklifieahcoljaaGreat

namespace Go.Proofs.YtklifieahcoljaaGreat
open Go.RowKit
set_option maxRecDepth 100000
set_option linter.unusedVariables false
set_option linter.unusedSimpArgs false

/-- l6Term gives a term at this depth. -/
abbrev TermC (q : Nat) (s : ByteArray) (d : Nat) : Prop := ∀ (i : Nat) (b : Bool) (w : World), Rdr w q s i b → Calls Tryz.prog 92 #[.pointer (some ⟨q, 0, none⟩), .int .i64 (d : Int)] w (GivesR q s i b 0 w)
theorem wt_more (t x : Tm) : Tm.wt { t with args := t.args ++ [x] } = t.wt + 1 + x.wt := by
  cases t
  exact wt_snoc _ x _
set_option maxHeartbeats 12800000 in
theorem l6Args_of (q : Nat) (s : ByteArray) (d : Nat) (H : TermC q s d) (P : Nat → Prop) (n : Nat) (hn : n ≤ 3) (t : Tm) (l : Lt) (i : Nat) (b : Bool) (w : World) (h : Rdr w q s i b) (hPq : ¬ P q) (ho : OwnP P w t l) (hta : t.args.length ≤ 1) :
    Calls Tryz.prog 120 #[.pointer (some ⟨q, 0, none⟩), .agg #[.int .i64 t.kind, .string t.name, .string t.other, .int .i64 t.n, .int .i64 t.type.kind, .slice l.ta l.tn l.tc, .int .i64 t.res.kind, .slice l.ra l.rn l.rc, .slice l.aa l.an l.ac], .int .i64 (n : Int), .int .i64 (d : Int)] w (GivesA q s i b (t.wt + n) P w) := by
  have HI := hide H
  clear H
  have hq := h.lt
  obtain ⟨i0, hi0, hz0, hz1, hz2⟩ := info_parts Tryz.infoTerm
  have hX := (Blk.new w 29 #[.int .i64 t.kind, .string t.name, .string t.other, .int .i64 t.n, .int .i64 t.type.kind, .slice l.ta l.tn l.tc, .int .i64 t.res.kind, .slice l.ra l.rn l.rc, .slice l.aa l.an l.ac]).alloc (.cells #[.int .i64 0, .string ⟨#[]⟩, .string ⟨#[]⟩, .int .i64 0, .int .i64 0, .slice none 0 0, .int .i64 0, .slice none 0 0, .slice none 0 0] 29)
  have hR := Blk.new2 w (.cells #[.int .i64 t.kind, .string t.name, .string t.other, .int .i64 t.n, .int .i64 t.type.kind, .slice l.ta l.tn l.tc, .int .i64 t.res.kind, .slice l.ra l.rn l.rc, .slice l.aa l.an l.ac] 29) 29 #[.int .i64 0, .string ⟨#[]⟩, .string ⟨#[]⟩, .int .i64 0, .int .i64 0, .slice none 0 0, .int .i64 0, .slice none 0 0, .slice none 0 0]
  have hr0 := (h.alloc (.cells #[.int .i64 t.kind, .string t.name, .string t.other, .int .i64 t.n, .int .i64 t.type.kind, .slice l.ta l.tn l.tc, .int .i64 t.res.kind, .slice l.ra l.rn l.rc, .slice l.aa l.an l.ac] 29)).alloc (.cells #[.int .i64 0, .string ⟨#[]⟩, .string ⟨#[]⟩, .int .i64 0, .int .i64 0, .slice none 0 0, .int .i64 0, .slice none 0 0, .slice none 0 0] 29)
  have hW0 : Kept q P w ((w.alloc (.cells #[.int .i64 t.kind, .string t.name, .string t.other, .int .i64 t.n, .int .i64 t.type.kind, .slice l.ta l.tn l.tc, .int .i64 t.res.kind, .slice l.ra l.rn l.rc, .slice l.aa l.an l.ac] 29)).alloc (.cells #[.int .i64 0, .string ⟨#[]⟩, .string ⟨#[]⟩, .int .i64 0, .int .i64 0, .slice none 0 0, .int .i64 0, .slice none 0 0, .slice none 0 0] 29)) := Kept.of_wrote ((Wrote.alloc q w _).next (below_new _ _))
  have ho0 : OwnP (fun b => (P b ∧ b < w.heap.size) ∨ w.heap.size + 2 ≤ b) ((w.alloc (.cells #[.int .i64 t.kind, .string t.name, .string t.other, .int .i64 t.n, .int .i64 t.type.kind, .slice l.ta l.tn l.tc, .int .i64 t.res.kind, .slice l.ra l.rn l.rc, .slice l.aa l.an l.ac] 29)).alloc (.cells #[.int .i64 0, .string ⟨#[]⟩, .string ⟨#[]⟩, .int .i64 0, .int .i64 0, .slice none 0 0, .int .i64 0, .slice none 0 0, .slice none 0 0] 29)) t l :=
    (ho.mono (Q := fun b => (P b ∧ b < w.heap.size) ∨ w.heap.size + 2 ≤ b) fun b hb hl => .inl ⟨hb, hl⟩).keep fun b hb hl => ((Below.heap_alloc _ _ _ (by simp; omega)).trans (Below.heap_alloc _ _ _ hl))
  have hs0 : w.heap.size + 2 ≤ ((w.alloc (.cells #[.int .i64 t.kind, .string t.name, .string t.other, .int .i64 t.n, .int .i64 t.type.kind, .slice l.ta l.tn l.tc, .int .i64 t.res.kind, .slice l.ra l.rn l.rc, .slice l.aa l.an l.ac] 29)).alloc (.cells #[.int .i64 0, .string ⟨#[]⟩, .string ⟨#[]⟩, .int .i64 0, .int .i64 0, .slice none 0 0, .int .i64 0, .slice none 0 0, .slice none 0 0] 29)).heap.size := by simp
  go_enter Tryz.func120, Tryz.ntmps120
  go_wp2_with fail
  go_loopw [9] (fun x wr => ∃ j : Nat, j ≤ n ∧ x = .int .i64 j ∧ (∃ (t' : Tm) (lr : Lt) (i' : Nat) (b' : Bool), t'.args.length ≤ 1 + j ∧ OwnP (fun b => (P b ∧ b < w.heap.size) ∨ w.heap.size + 2 ≤ b) wr t' lr ∧ Blk wr w.heap.size 29 #[.int .i64 t'.kind, .string t'.name, .string t'.other, .int .i64 t'.n, .int .i64 t'.type.kind, .slice lr.ta lr.tn lr.tc, .int .i64 t'.res.kind, .slice lr.ra lr.rn lr.rc, .slice lr.aa lr.an lr.ac] ∧ Rdr wr q s i' b' ∧ Hid (t'.wt + phi s i' b' ≤ t.wt + j + phi s i b)) ∧ Blk wr (w.heap.size + 1) 29 #[.int .i64 0, .string ⟨#[]⟩, .string ⟨#[]⟩, .int .i64 0, .int .i64 0, .slice none 0 0, .int .i64 0, .slice none 0 0, .slice none 0 0] ∧ Kept q P w wr ∧ w.heap.size + 2 ≤ wr.heap.size) (fun x _ => n - (intOf x).toNat)
  case atStart => exact ⟨0, by omega, rfl, ⟨t, l, i, b, by omega, ho0, hX, hr0, by simp [Hid]⟩, hR, hW0, hs0⟩
  case round =>
    clear hX hR hr0 hW0 ho0 hs0
    obtain ⟨j, hj, rfl, ⟨t', lr, i', b', hlen, LO, LX, LR, HP⟩, RB, KW, hsz⟩ := hrel
    have c2 := LR.1.cell 2
    simp at c2
    by_cases hgo : j < n ∧ b' = false
    · obtain ⟨hjn, rfl⟩ := hgo
      have hjn1 : (j : Int) < (n : Int) := by omega
      by_cases hj0 : j = 0
      case' pos =>
        have hj1 : decide ((0 : Int) < (j : Int)) = false := by simp; omega
        obtain ⟨wx, i2, b2, e1, e2, e3⟩ : ∃ wx i2 b2, wx = wr ∧ i2 = i' ∧ b2 = false := ⟨_, _, _, rfl, rfl, rfl⟩
        rw [← e1] at LO LX LR RB KW hsz c2 ⊢
        rw [← e2, ← e3] at LR
        have HP2 : Hid (t'.wt + phi s i2 b2 ≤ t.wt + j + phi s i b) := by
          rw [e2, e3]
          exact HP
        replace HP := HP2
        clear HP2 e1 e2 e3
        go_upto_region 6 with fail
      case' neg =>
        have hj1 : decide ((0 : Int) < (j : Int)) = true := by simp; omega
        go_wp2_with fail
        refine (l4Must_phi q s ⟨#[32]⟩ i' false wr LR (by decide)).mono ?_
        rintro e wx ⟨rfl, i2, b2, R2, hp2, -, k2⟩
        replace LO := LO.keep fun b hb hl => k2.block b hl (by have : b ≠ q := (fun e => by subst e; rcases hb with hb | hb; exact hPq hb.1; omega); simpa using this)
        replace LX := k2.blk LX (by omega)
        replace RB := k2.blk RB (by omega)
        replace KW := KW.next k2
        replace hsz := Nat.le_trans hsz k2.size
        have HP2 : Hid (t'.wt + phi s i2 b2 ≤ t.wt + j + phi s i b) := by
          have h := HP.out
          rw [Hid]
          omega
        replace HP := HP2
        replace LR := R2
        clear R2 k2 hp2 c2 HP2
        go_upto_region 6 with fail
      all_goals
        clear hj1
        have HJ := hide hj0
        clear hj0
        obtain ⟨hf, cs, f1, f2, f3, h1, h2, hown, h3, hap, p1, p2, p3⟩ := LO
        obtain ⟨jt, hjt⟩ : ∃ jt, jt = t'.args.length := ⟨_, rfl⟩
        rw [← hjt] at hown
        have hjt4 : jt ≤ 4 := by omega
        replace hjt := hide hjt
        have HBX := hide LX
        have lS := LX.lt
        have s8 : wx.cell? ⟨w.heap.size, 8, none⟩ = some (.slice lr.aa lr.an lr.ac) := LX.cell 8
        have hRd := hide (LR.under (below_drew wx))
        go_region_law (first
          | (go_simp; go_at_call 92; (with_reducible refine (HI.out _ _ _ hRd.out).mono ?_); rintro e w5 ⟨x, lx, i5, b5, rfl, hO1, R5, hp5, k5⟩; replace hO1 : OwnM wx.heap.size w5 x lx := hO1; replace k5 : Wrote [q] wx w5 := (Wrote.of_below (below_drew wx)).trans k5; have s1 := k5.size; have B1 : Blk w5 w.heap.size 29 _ := k5.blk HBX.out (by omega); have y8 := B1.cell 8; have y8n := fun o => (B1.alloc o).cell 8)
          | (refine step_append_lies _ (by rfl) _ _ _ (by rfl) 0 29 i0 _ 9 136 Tryz.underlying27 hi0 hz0 hz1 hz2 rfl (by omega) (.slice lr.aa lr.an lr.ac) jt cs (by rfl) ((own_same hown fun g hg => k5.block g (hown.lt g hg).2 (by have h4 := (hap g hg).2.2.2; have : g ≠ q := (fun e => by subst e; rcases h4 with h4 | h4; exact hPq h4.1; omega); simpa using this)).alloc _) ⟨w5.heap.size, 0, none⟩ 1 1 (tcells x lx) (by rfl) (by rfl) (World.news_of_block (cs := #[.int .i64 x.kind, .string x.name, .string x.other, .int .i64 x.n, .int .i64 x.type.kind, .slice lx.ta lx.tn lx.tc, .int .i64 x.res.kind, .slice lx.ra lx.rn lx.rc, .slice lx.aa lx.an lx.ac]) (t := 29) (fr := (0, 0)) (heap_alloc_new w5 _)) (by simp [Value.oneCell', tcells]) (by omega) (by unfold maxLen; omega) (by omega) (by first | (simp; done) | (simp; omega)) (w5.heap.size + 1) (by simp) ?_; intro gg cap' w6 hown2 hgrow hat hlt6; have hB6 := box_grown (fun g hg => (show g ≠ w.heap.size by have h4 := (hap g hg).2.2.2; omega)) B1 hgrow; have z8 := hB6.cell 8; have x8 := hB6.free 8))
        all_goals
          go_wp2_with fail
          go_roundw
          case rel =>
            obtain ⟨fx, hx, hxf⟩ := hO1.rm
            have hne : ∀ g, (Value.slice lr.aa lr.an lr.ac).ownBlock = some g → g ≠ q ∧ g ≠ w.heap.size + 1 := fun g hg => by
              have h4 := (hap g hg).2.2.2
              exact ⟨fun e => by subst e; rcases h4 with h4 | h4; exact hPq h4.1; omega, by omega⟩
            have H := OwnP.snoc (t := t') (x := x) hf hjt.out h1 h2 hown h3 hap p1 p2 p3 s1 (fun b hb hl => k5.block b hl (by have : b ≠ q := (fun e => by subst e; rcases hb with hb | hb; exact hPq hb.1; omega); simpa using this)) hx hxf hown2 hgrow rfl (by simpa using hat)
            refine ⟨j + 1, by omega, by first | go_num | (have hz := HJ.out; rw [hz]; go_num), ⟨_, _, i5, b5, ?_, (H.mono (Q := fun b => (P b ∧ b < w.heap.size) ∨ w.heap.size + 2 ≤ b) fun b hb _ => ?_).keep fun b hb _ => Below.heap_setCell _ ⟨w.heap.size, 8, none⟩ _ b (by show b ≠ w.heap.size; omega), hB6.set_ 8 _, ?_, ?_⟩, ?_, ?_, ?_⟩
            · have := hjt.out
              simp only [List.length_append, List.length_singleton]
              omega
            · rcases hb with hb | hb
              · exact hb
              · exact .inr (by omega)
            · exact R5.of_heap ((Below.heap_setCell _ ⟨w.heap.size, 8, none⟩ _ q (by show q ≠ w.heap.size; omega)).trans ((hgrow.block q (by simp; omega) fun e => (hne q e.symm).1 rfl).trans (Below.heap_alloc _ _ _ R5.lt)))
            · have h := HP.out
              have e1 := wt_more t' x
              show Tm.wt { t' with args := t'.args ++ [x] } + _ ≤ _
              rw [e1]
              omega
            · exact (((k5.blk RB (by omega)).alloc _).grown hgrow fun e => (hne _ e.symm).2 rfl).aside (p := ⟨w.heap.size, 8, none⟩) (by simp) _
            · exact ((((KW.next k5).next (Wrote.alloc q w5 _)).grown hgrow fun g hg hl => by have h4 := (hap g hg).2.2.2; rcases h4 with h4 | h4; exact h4.1; omega).set_ (p := ⟨w.heap.size, 8, none⟩) (fun hl => absurd hl (by simp)) _)
            · have := hgrow.size
              simp at this ⊢
              omega
          case measure => (have hz := HJ.out; simp [intOf]; omega)
    · have hst : ¬ (j : Int) < (n : Int) ∨ (j : Int) < (n : Int) ∧ b' = true := by
        by_cases hjn : (j : Int) < (n : Int)
        · exact .inr ⟨hjn, by cases b'; exact absurd ⟨by omega, rfl⟩ hgo; rfl⟩
        · exact .inl hjn
      clear hgo
      have HPj : Hid (t'.wt + phi s i' b' ≤ t.wt + n + phi s i b) := by
        have h := HP.out
        rw [Hid]
        omega
      clear HP
      rcases hst with hjn | ⟨hjn, rfl⟩
      all_goals
        go_wp2_with fail
        refine (l4Must_phi q s ⟨#[41]⟩ i' _ wr LR (by decide)).mono ?_
        rintro e wx ⟨rfl, i2, b2, R2, hp2, -, k2⟩
        replace LO := LO.keep fun b hb hl => k2.block b hl (by have : b ≠ q := (fun e => by subst e; rcases hb with hb | hb; exact hPq hb.1; omega); simpa using this)
        replace LX := k2.blk LX (by omega)
        replace RB := k2.blk RB (by omega)
        replace KW := KW.next k2
        obtain ⟨s0, s1, s2, s3, s4, s5, s6, s7, s8⟩ := LX.nine
        obtain ⟨q0, q1, q2, q3, q4, q5, q6, q7, q8⟩ : _ ∧ _ ∧ _ ∧ _ ∧ _ ∧ _ ∧ _ ∧ _ ∧ _ := ⟨RB.cell 0, RB.cell 1, RB.cell 2, RB.cell 3, RB.cell 4, RB.cell 5, RB.cell 6, RB.cell 7, RB.cell 8⟩
        simp at q0 q1 q2 q3 q4 q5 q6 q7 q8
        obtain ⟨z0, z1, z2, z3, z4, z5, z6, z7, z8⟩ : _ ∧ _ ∧ _ ∧ _ ∧ _ ∧ _ ∧ _ ∧ _ ∧ _ := ⟨RB.free 0, RB.free 1, RB.free 2, RB.free 3, RB.free 4, RB.free 5, RB.free 6, RB.free 7, RB.free 8⟩
        have HD := hide (GivesA.mk (P := P) (i := i) (b := b) (N := t.wt + n) (R := w.heap.size + 1) hq (by omega) LO (fun b hb => ⟨by omega, by rcases hb with hb | hb; exact .inl hb.1; exact .inr (by omega)⟩) R2 (by have := HPj.out; omega) KW)
        have HB := hide (put_box RB rfl t' lr).nine
        go_wp2_with fail
        have E := putAt_zero wx (w.heap.size + 1) t' lr
        rw [← E]
        obtain ⟨r0, r1, r2, r3, r4, r5, r6, r7, r8⟩ := HB.out
        refine bodyPost_ret (v := .agg #[.int .i64 t'.kind, .string t'.name, .string t'.other, .int .i64 t'.n, .int .i64 t'.type.kind, .slice lr.ta lr.tn lr.tc, .int .i64 t'.res.kind, .slice lr.ra lr.rn lr.rc, .slice lr.aa lr.an lr.ac]) ?_ rfl HD.out
        simp [results, Tryz.results120, go_sem, r0, r1, r2, r3, r4, r5, r6, r7, r8]
end Go.Proofs.YtklifieahcoljaaGreat
