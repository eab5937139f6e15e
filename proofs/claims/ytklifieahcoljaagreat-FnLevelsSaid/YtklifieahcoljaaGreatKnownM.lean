/-
  The walk of l9Known: a variable of a type and level, if there is one.
-/
import Derived.Test.YtklifieahcoljaaGreatConM
import Derived.Test.YtklifieahcoljaaGreatEqualTy
import Derived.Test.YtklifieahcoljaaGreatHand
namespace Go.Proofs.YtklifieahcoljaaGreat
open Go.RowKit
set_option maxRecDepth 100000
set_option linter.unusedVariables false
set_option linter.unusedSimpArgs false

/-- The cells of variables of these names. -/
def leavesC : List ByteArray → List Value
  | [] => []
  | s :: ss => tcells (leafM 1 0 s) lt0 ++ leavesC ss
theorem leavesC_snoc (s : ByteArray) : ∀ (ss : List ByteArray), leavesC (ss ++ [s]) = leavesC ss ++ tcells (leafM 1 0 s) lt0
  | [] => by simp [leavesC]
  | x :: xs => by
    rw [List.cons_append, leavesC, leavesC, leavesC_snoc s xs, List.append_assoc]
theorem leavesC_get : ∀ (ss : List ByteArray) (j : Nat) (hj : j < ss.length) (i : Nat), i < 9 → (leavesC ss)[j * 9 + i]? = (tcells (leafM 1 0 ss[j]) lt0)[i]?
  | s :: ss, 0, _, i, hi => by
    rw [leavesC, Nat.zero_mul, Nat.zero_add, List.getElem?_append_left (by rw [tcells_len]; exact hi)]
    rfl
  | s :: ss, j + 1, hj, i, hi => by
    rw [leavesC, List.getElem?_append_right (by rw [tcells_len]; omega), tcells_len, show (j + 1) * 9 + i - 9 = j * 9 + i by omega]
    exact leavesC_get ss j (by simpa using hj) i hi
/-- What l9Known gives: a variable, or nothing. -/
def DrawsK (p : Nat) (w : World) (e : Ending) (w' : World) : Prop := ∃ (t : Tm) (l : Lt) (b : Bool), e = .returned (.tuple #[.agg #[.int .i64 t.kind, .string t.name, .string t.other, .int .i64 t.n, .int .i64 t.type.kind, .slice l.ta l.tn l.tc, .int .i64 t.res.kind, .slice l.ra l.rn l.rc, .slice l.aa l.an l.ac], .bool b]) ∧ OwnM w.heap.size w' t l ∧ t.wt ≤ 100 ∧ Drew p w w'

set_option maxHeartbeats 6400000 in
theorem l9Known_any (p base : Nat) (xs : List (Rc Int)) (a : Option Addr) (n cap : Nat) (t : Ty) (ta : Option Addr) (tn tc : Nat) (m : Int) (w : World) (hC : Cur w p) (hpb : p < base) (hbw : base ≤ w.heap.size) (h : CtxR base w xs a n cap) (hn : n ≤ 1000) (hT : TyA base w t ta tn tc) :
    Calls Tryz.prog 69 #[.pointer (some ⟨p, 0, none⟩), .slice a n cap, .agg #[.int .i64 t.kind, .slice ta tn tc], .int .i64 m] w (DrawsK p w) := by
  obtain ⟨i0, hi, hz0, hz1, hz2⟩ := info_parts Tryz.infoTerm
  have hx := hide h.1
  have hlt := hC.lt
  have b0 : Below w.heap.size w (((w.alloc (.cells #[.int .i64 t.kind, .slice ta tn tc] 26)).alloc (.cells #[.int .i64 0, .string ⟨#[]⟩, .string ⟨#[]⟩, .int .i64 0, .int .i64 0, .slice none 0 0, .int .i64 0, .slice none 0 0, .slice none 0 0] 29)).alloc (.cells #[] 29)) := (by repeat (first | exact Below.refl _ _ | assumption | refine Below.drew ?_ | refine below_drewN ?_ _ | refine Below.alloc ?_ (by first | omega | (simp; done) | (simp; omega)) _ | refine Below.setCell ?_ (by first | omega | (simp; done) | (simp; omega)) _))
  have T0 : Blk (((w.alloc (.cells #[.int .i64 t.kind, .slice ta tn tc] 26)).alloc (.cells #[.int .i64 0, .string ⟨#[]⟩, .string ⟨#[]⟩, .int .i64 0, .int .i64 0, .slice none 0 0, .int .i64 0, .slice none 0 0, .slice none 0 0] 29)).alloc (.cells #[] 29)) w.heap.size 26 #[.int .i64 t.kind, .slice ta tn tc] := ((Blk.new w _ _).alloc _).alloc _
  have R0 : Blk (((w.alloc (.cells #[.int .i64 t.kind, .slice ta tn tc] 26)).alloc (.cells #[.int .i64 0, .string ⟨#[]⟩, .string ⟨#[]⟩, .int .i64 0, .int .i64 0, .slice none 0 0, .int .i64 0, .slice none 0 0, .slice none 0 0] 29)).alloc (.cells #[] 29)) (w.heap.size + 1) 29 #[.int .i64 0, .string ⟨#[]⟩, .string ⟨#[]⟩, .int .i64 0, .int .i64 0, .slice none 0 0, .int .i64 0, .slice none 0 0, .slice none 0 0] := (Blk.new2 w _ _ _).alloc _
  have O0 : (((w.alloc (.cells #[.int .i64 t.kind, .slice ta tn tc] 26)).alloc (.cells #[.int .i64 0, .string ⟨#[]⟩, .string ⟨#[]⟩, .int .i64 0, .int .i64 0, .slice none 0 0, .int .i64 0, .slice none 0 0, .slice none 0 0] 29)).alloc (.cells #[] 29)).ownsRow (w.heap.size + 1 + 1) 29 9 (.slice (some ⟨w.heap.size + 1 + 1, 0, none⟩) 0 0) 0 (leavesC []) := by
    have h0 : (((w.alloc (.cells #[.int .i64 t.kind, .slice ta tn tc] 26)).alloc (.cells #[.int .i64 0, .string ⟨#[]⟩, .string ⟨#[]⟩, .int .i64 0, .int .i64 0, .slice none 0 0, .int .i64 0, .slice none 0 0, .slice none 0 0] 29)).alloc (.cells #[] 29)).ownsRow (w.heap.size + 1 + 1) 29 9 (.slice (some ⟨((w.alloc (.cells #[.int .i64 t.kind, .slice ta tn tc] 26)).alloc (.cells #[.int .i64 0, .string ⟨#[]⟩, .string ⟨#[]⟩, .int .i64 0, .int .i64 0, .slice none 0 0, .int .i64 0, .slice none 0 0, .slice none 0 0] 29)).heap.size, 0, none⟩) 0 0) 0 [] :=
      World.ownsRow_made _ #[] 0 (by simp) (by simp) (by simp)
    simpa [leavesC] using h0
  go_enter Tryz.func69, Tryz.ntmps69
  go_wp2_with fail
  go_loopw [10, 11] (fun v i wr => ∃ k : Nat, k ≤ n ∧ i = .int .i64 k ∧ (∃ ss q, wr.ownsRow (w.heap.size + 1 + 1) 29 9 v q (leavesC ss) ∧ q ≤ k ∧ Hid (q = ss.length ∧ ∀ s ∈ ss, s.size ≤ 100)) ∧ Blk wr w.heap.size 26 #[.int .i64 t.kind, .slice ta tn tc] ∧ Blk wr (w.heap.size + 1) 29 #[.int .i64 0, .string ⟨#[]⟩, .string ⟨#[]⟩, .int .i64 0, .int .i64 0, .slice none 0 0, .int .i64 0, .slice none 0 0, .slice none 0 0] ∧ Below w.heap.size w wr) (fun _ i _ => n - (intOf i).toNat)
  case atStart => exact ⟨0, by omega, rfl, ⟨[], 0, O0, Nat.le_refl _, rfl, by simp⟩, T0, R0, b0⟩
  case round =>
    clear b0 T0 R0 O0
    obtain ⟨k, hk, rfl, ⟨ss, q, hO, hq, HS⟩, hTB, hRB, hb⟩ := hrel
    have hsz := hb.size
    have lTB := hTB.lt
    have lRB := hRB.lt
    by_cases hkn : k < n
    · have hkx : k < xs.length := by rw [← hx.out]; exact hkn
      have hwr := h.keep (Fresh.of_below hb)
      obtain ⟨b, off, a', n', c', ha, hbb, hlt, e0, e1, e2, e3, hT1, hnm, hlv⟩ := hwr.get k hkx
      obtain ⟨u0, u1⟩ := hTB.two
      have HK := hide (fun (W : World) (hW : Below wr.heap.size wr W) => show (W.cell? ⟨b, off + k * 4, none⟩ = some (.string xs[k].name) ∧ W.cell? ⟨b, off + k * 4 + 1, none⟩ = some (.int .i64 xs[k].type.kind) ∧ W.cell? ⟨b, off + k * 4 + 2, none⟩ = some (.slice a' n' c') ∧ W.cell? ⟨b, off + k * 4 + 3, none⟩ = some (.int .i64 xs[k].last)) ∧ (W.cell? ⟨w.heap.size, 0, none⟩ = some (.int .i64 t.kind) ∧ W.cell? ⟨w.heap.size, 1, none⟩ = some (.slice ta tn tc)) from
        ⟨⟨(hW.cell hlt).trans e0, (hW.cell hlt).trans e1, (hW.cell hlt).trans e2, (hW.cell hlt).trans e3⟩, (hTB.under hW).two⟩)
      have hTw := (hT.keep (Fresh.of_below hb)).rd
      have CE := hide (fun (W : World) (hW : Below wr.heap.size wr W) => specEqualType_any xs[k].type t _ _ _ _ W (hT1.rd.below hW) (hTw.below hW))
      have CL := hide (fun (W : World) (hW : Below wr.heap.size wr W) => l9Last_any base xs a n cap xs[k].name W (hwr.keep (Fresh.of_below hW)) hn)
      rw [ha]
      rw [ha] at CL
      generalize xs[k].type.beq t = be at CE
      have kb := below_drew wr
      go_upto_region 5 with fail
      go_cut [45] from 13 to 54 (fun s wx => (∃ b : Bool, s = .bool b) ∧ Below wr.heap.size wr wx)
      case first =>
        have hun : undef = Value.tuple #[] := rfl
        have kc := below_drew wr
        by_cases hlm : xs[k].last = m
        · have hd : (xs[k].last == m) = true := beq_iff_eq.2 hlm
          clear hlm
          cases be with
          | false =>
            refine wp_region_noPanic ?_
            refine wp_region_held_drew (S := (fun W => (W.cell? ⟨b, off + k * 4, none⟩ = some (.string xs[k].name) ∧ W.cell? ⟨b, off + k * 4 + 1, none⟩ = some (.int .i64 xs[k].type.kind) ∧ W.cell? ⟨b, off + k * 4 + 2, none⟩ = some (.slice a' n' c') ∧ W.cell? ⟨b, off + k * 4 + 3, none⟩ = some (.int .i64 xs[k].last)) ∧ (W.cell? ⟨w.heap.size, 0, none⟩ = some (.int .i64 t.kind) ∧ W.cell? ⟨w.heap.size, 1, none⟩ = some (.slice ta tn tc)))) (by kernel_rfl) ?_ (fun hHeld => ?_)
            · (try dsimp only)
              exact HK.out _ kc
            refine takeW 0 (v := ?_) rfl (by kernel_rfl) (by kernel_rfl) (by kernel_rfl) (fun _ _ _ h => h) (by rfl) (by assumption) ?_ ?_
            rotate_left
            · intro w hSw
              (try dsimp only at hSw)
              go_simp
              (try with_reducible rfl)
            try simp only [Act.put, List.setIfInBounds_toArray, List.set_cons_zero, List.set_cons_succ]
            refine takeW 1 (v := ?_) rfl (by kernel_rfl) (by kernel_rfl) (by kernel_rfl) (fun _ _ _ h => h) (by rfl) (by assumption) ?_ ?_
            rotate_left
            · intro w hSw
              (try dsimp only at hSw)
              go_simp
              (try with_reducible rfl)
            try simp only [Act.put, List.setIfInBounds_toArray, List.set_cons_zero, List.set_cons_succ]
            refine takeW 2 (v := ?_) rfl (by kernel_rfl) (by kernel_rfl) (by kernel_rfl) (fun _ _ _ h => h) (by rfl) (by assumption) ?_ ?_
            rotate_left
            · intro w hSw
              (try dsimp only at hSw)
              go_simp
              (try with_reducible rfl)
            try simp only [Act.put, List.setIfInBounds_toArray, List.set_cons_zero, List.set_cons_succ]
            refine takeW 3 (v := ?_) rfl (by kernel_rfl) (by kernel_rfl) (by kernel_rfl) (fun _ _ _ h => h) (by rfl) (by assumption) ?_ ?_
            rotate_left
            · intro w hSw
              (try dsimp only at hSw)
              go_simp
              (try with_reducible rfl)
            try simp only [Act.put, List.setIfInBounds_toArray, List.set_cons_zero, List.set_cons_succ]
            refine takeW 4 (v := ?_) rfl (by kernel_rfl) (by kernel_rfl) (by kernel_rfl) (fun _ _ _ h => h) (by rfl) (by assumption) ?_ ?_
            rotate_left
            · intro w hSw
              (try dsimp only at hSw)
              go_simp
              (try with_reducible rfl)
            try simp only [Act.put, List.setIfInBounds_toArray, List.set_cons_zero, List.set_cons_succ]
            refine takeW 5 (v := ?_) rfl (by kernel_rfl) (by kernel_rfl) (by kernel_rfl) (fun _ _ _ h => h) (by rfl) (by assumption) ?_ ?_
            rotate_left
            · intro w hSw
              (try dsimp only at hSw)
              go_simp
              (try with_reducible rfl)
            try simp only [Act.put, List.setIfInBounds_toArray, List.set_cons_zero, List.set_cons_succ]
            refine takeW 6 (v := ?_) rfl (by kernel_rfl) (by kernel_rfl) (by kernel_rfl) (fun _ _ _ h => h) (by rfl) (by assumption) ?_ ?_
            rotate_left
            · intro w hSw
              (try dsimp only at hSw)
              go_simp
              (try with_reducible rfl)
            try simp only [Act.put, List.setIfInBounds_toArray, List.set_cons_zero, List.set_cons_succ]
            refine takeW 7 (v := ?_) rfl (by kernel_rfl) (by kernel_rfl) (by kernel_rfl) (fun _ _ _ h => h) (by rfl) (by assumption) ?_ ?_
            rotate_left
            · intro w hSw
              (try dsimp only at hSw)
              go_simp
              (try with_reducible rfl)
            try simp only [Act.put, List.setIfInBounds_toArray, List.set_cons_zero, List.set_cons_succ]
            refine takeW 8 (v := ?_) rfl (by kernel_rfl) (by kernel_rfl) (by kernel_rfl) (fun _ _ _ h => h) (by rfl) (by assumption) ?_ ?_
            rotate_left
            · intro w hSw
              (try dsimp only at hSw)
              go_simp
              (try with_reducible rfl)
            try simp only [Act.put, List.setIfInBounds_toArray, List.set_cons_zero, List.set_cons_succ]
            refine takeW 9 (v := ?_) rfl (by kernel_rfl) (by kernel_rfl) (by kernel_rfl) (fun _ _ _ h => h) (by rfl) (by assumption) ?_ ?_
            rotate_left
            · intro w hSw
              (try dsimp only at hSw)
              go_simp
              (try with_reducible rfl)
            try simp only [Act.put, List.setIfInBounds_toArray, List.set_cons_zero, List.set_cons_succ]
            refine takeW 10 (v := ?_) rfl (by kernel_rfl) (by kernel_rfl) (by kernel_rfl) (fun _ _ _ h => h) (by rfl) (by assumption) ?_ ?_
            rotate_left
            · intro w hSw
              (try dsimp only at hSw)
              go_simp
              (try with_reducible rfl)
            try simp only [Act.put, List.setIfInBounds_toArray, List.set_cons_zero, List.set_cons_succ]
            refine takeW 11 (v := ?_) rfl (by kernel_rfl) (by kernel_rfl) (by kernel_rfl) (fun _ _ _ h => h) (by rfl) (by assumption) ?_ ?_
            rotate_left
            · intro w hSw
              (try dsimp only at hSw)
              go_simp
              (try with_reducible rfl)
            try simp only [Act.put, List.setIfInBounds_toArray, List.set_cons_zero, List.set_cons_succ]
            refine takeW 12 (v := ?_) rfl (by kernel_rfl) (by kernel_rfl) (by kernel_rfl) (fun _ _ _ h => h) (by rfl) (by assumption) ?_ ?_
            rotate_left
            · intro w hSw
              (try dsimp only at hSw)
              go_simp
              (try with_reducible rfl)
            try simp only [Act.put, List.setIfInBounds_toArray, List.set_cons_zero, List.set_cons_succ]
            refine takeW 13 (v := ?_) rfl (by kernel_rfl) (by kernel_rfl) (by kernel_rfl) (fun _ _ _ h => h) (by rfl) (by assumption) ?_ ?_
            rotate_left
            · intro w hSw
              (try dsimp only at hSw)
              go_simp
              (try with_reducible rfl)
            try simp only [Act.put, List.setIfInBounds_toArray, List.set_cons_zero, List.set_cons_succ]
            refine goW 14 rfl (by kernel_rfl) (fun K hK => ?_)
            go_simp
            go_at_call 94; (with_reducible refine (CE.out _ kc).mono ?_); rintro e w6 ⟨rfl, b6⟩; have kc := below_next kc b6
            refine hK.out _ _ ?_ (fun hHeld => ?_)
            · (try dsimp only)
              exact HK.out _ kc
            clear hK K
            try simp only [Act.put, List.setIfInBounds_toArray, List.set_cons_zero, List.set_cons_succ]
            refine takeW 15 (v := ?_) rfl (by kernel_rfl) (by kernel_rfl) (by kernel_rfl) (fun _ _ _ h => h) (by rfl) (by assumption) ?_ ?_
            rotate_left
            · intro w hSw
              (try dsimp only at hSw)
              go_simp
              (try with_reducible rfl)
            try simp only [Act.put, List.setIfInBounds_toArray, List.set_cons_zero, List.set_cons_succ]
            refine takeW 16 (v := ?_) rfl (by kernel_rfl) (by kernel_rfl) (by kernel_rfl) (fun _ _ _ h => h) (by rfl) (by assumption) ?_ ?_
            rotate_left
            · intro w hSw
              (try dsimp only at hSw)
              go_simp
              (try with_reducible rfl)
            try simp only [Act.put, List.setIfInBounds_toArray, List.set_cons_zero, List.set_cons_succ]
            refine skipW 17 rfl (by kernel_rfl) (by kernel_rfl) (by kernel_rfl) (fun _ _ _ h => h) (by rfl) (by assumption) ?_
            try simp only [Act.put, List.setIfInBounds_toArray, List.set_cons_zero, List.set_cons_succ]
            refine skipW 18 rfl (by kernel_rfl) (by kernel_rfl) (by kernel_rfl) (fun _ _ _ h => h) (by rfl) (by assumption) ?_
            try simp only [Act.put, List.setIfInBounds_toArray, List.set_cons_zero, List.set_cons_succ]
            refine skipW 19 rfl (by kernel_rfl) (by kernel_rfl) (by kernel_rfl) (fun _ _ _ h => h) (by rfl) (by assumption) ?_
            try simp only [Act.put, List.setIfInBounds_toArray, List.set_cons_zero, List.set_cons_succ]
            refine skipW 20 rfl (by kernel_rfl) (by kernel_rfl) (by kernel_rfl) (fun _ _ _ h => h) (by rfl) (by assumption) ?_
            try simp only [Act.put, List.setIfInBounds_toArray, List.set_cons_zero, List.set_cons_succ]
            refine skipW 21 rfl (by kernel_rfl) (by kernel_rfl) (by kernel_rfl) (fun _ _ _ h => h) (by rfl) (by assumption) ?_
            try simp only [Act.put, List.setIfInBounds_toArray, List.set_cons_zero, List.set_cons_succ]
            refine skipW 22 rfl (by kernel_rfl) (by kernel_rfl) (by kernel_rfl) (fun _ _ _ h => h) (by rfl) (by assumption) ?_
            try simp only [Act.put, List.setIfInBounds_toArray, List.set_cons_zero, List.set_cons_succ]
            refine skipW 24 rfl (by kernel_rfl) (by kernel_rfl) (by kernel_rfl) (fun _ _ _ h => h) (by rfl) (by assumption) ?_
            try simp only [Act.put, List.setIfInBounds_toArray, List.set_cons_zero, List.set_cons_succ]
            refine goW 23 rfl (by kernel_rfl) (fun K hK => ?_)
            go_simp
            refine hK.out _ _ ?_ (fun hHeld => ?_)
            · (try dsimp only)
              exact HK.out _ kc
            clear hK K
            try simp only [Act.put, List.setIfInBounds_toArray, List.set_cons_zero, List.set_cons_succ]
            refine skipW 25 rfl (by kernel_rfl) (by kernel_rfl) (by kernel_rfl) (fun _ _ _ h => h) (by rfl) (by assumption) ?_
            try simp only [Act.put, List.setIfInBounds_toArray, List.set_cons_zero, List.set_cons_succ]
            refine takeW 26 (v := ?_) rfl (by kernel_rfl) (by kernel_rfl) (by kernel_rfl) (fun _ _ _ h => h) (by rfl) (by assumption) ?_ ?_
            rotate_left
            · intro w hSw
              (try dsimp only at hSw)
              go_simp
              (try with_reducible rfl)
            try simp only [Act.put, List.setIfInBounds_toArray, List.set_cons_zero, List.set_cons_succ]
            refine wpAnyH_done (by kernel_rfl) ?_ _
            refine NoPanic.normal ?_
            go_wp2_with fail
            go_meet
            exact ⟨⟨_, rfl⟩, kc⟩
          | true =>
            refine wp_region_noPanic ?_
            refine wp_region_held_drew (S := (fun W => (W.cell? ⟨b, off + k * 4, none⟩ = some (.string xs[k].name) ∧ W.cell? ⟨b, off + k * 4 + 1, none⟩ = some (.int .i64 xs[k].type.kind) ∧ W.cell? ⟨b, off + k * 4 + 2, none⟩ = some (.slice a' n' c') ∧ W.cell? ⟨b, off + k * 4 + 3, none⟩ = some (.int .i64 xs[k].last)) ∧ (W.cell? ⟨w.heap.size, 0, none⟩ = some (.int .i64 t.kind) ∧ W.cell? ⟨w.heap.size, 1, none⟩ = some (.slice ta tn tc)))) (by kernel_rfl) ?_ (fun hHeld => ?_)
            · (try dsimp only)
              exact HK.out _ kc
            refine takeW 0 (v := ?_) rfl (by kernel_rfl) (by kernel_rfl) (by kernel_rfl) (fun _ _ _ h => h) (by rfl) (by assumption) ?_ ?_
            rotate_left
            · intro w hSw
              (try dsimp only at hSw)
              go_simp
              (try with_reducible rfl)
            try simp only [Act.put, List.setIfInBounds_toArray, List.set_cons_zero, List.set_cons_succ]
            refine takeW 1 (v := ?_) rfl (by kernel_rfl) (by kernel_rfl) (by kernel_rfl) (fun _ _ _ h => h) (by rfl) (by assumption) ?_ ?_
            rotate_left
            · intro w hSw
              (try dsimp only at hSw)
              go_simp
              (try with_reducible rfl)
            try simp only [Act.put, List.setIfInBounds_toArray, List.set_cons_zero, List.set_cons_succ]
            refine takeW 2 (v := ?_) rfl (by kernel_rfl) (by kernel_rfl) (by kernel_rfl) (fun _ _ _ h => h) (by rfl) (by assumption) ?_ ?_
            rotate_left
            · intro w hSw
              (try dsimp only at hSw)
              go_simp
              (try with_reducible rfl)
            try simp only [Act.put, List.setIfInBounds_toArray, List.set_cons_zero, List.set_cons_succ]
            refine takeW 3 (v := ?_) rfl (by kernel_rfl) (by kernel_rfl) (by kernel_rfl) (fun _ _ _ h => h) (by rfl) (by assumption) ?_ ?_
            rotate_left
            · intro w hSw
              (try dsimp only at hSw)
              go_simp
              (try with_reducible rfl)
            try simp only [Act.put, List.setIfInBounds_toArray, List.set_cons_zero, List.set_cons_succ]
            refine takeW 4 (v := ?_) rfl (by kernel_rfl) (by kernel_rfl) (by kernel_rfl) (fun _ _ _ h => h) (by rfl) (by assumption) ?_ ?_
            rotate_left
            · intro w hSw
              (try dsimp only at hSw)
              go_simp
              (try with_reducible rfl)
            try simp only [Act.put, List.setIfInBounds_toArray, List.set_cons_zero, List.set_cons_succ]
            refine takeW 5 (v := ?_) rfl (by kernel_rfl) (by kernel_rfl) (by kernel_rfl) (fun _ _ _ h => h) (by rfl) (by assumption) ?_ ?_
            rotate_left
            · intro w hSw
              (try dsimp only at hSw)
              go_simp
              (try with_reducible rfl)
            try simp only [Act.put, List.setIfInBounds_toArray, List.set_cons_zero, List.set_cons_succ]
            refine takeW 6 (v := ?_) rfl (by kernel_rfl) (by kernel_rfl) (by kernel_rfl) (fun _ _ _ h => h) (by rfl) (by assumption) ?_ ?_
            rotate_left
            · intro w hSw
              (try dsimp only at hSw)
              go_simp
              (try with_reducible rfl)
            try simp only [Act.put, List.setIfInBounds_toArray, List.set_cons_zero, List.set_cons_succ]
            refine takeW 7 (v := ?_) rfl (by kernel_rfl) (by kernel_rfl) (by kernel_rfl) (fun _ _ _ h => h) (by rfl) (by assumption) ?_ ?_
            rotate_left
            · intro w hSw
              (try dsimp only at hSw)
              go_simp
              (try with_reducible rfl)
            try simp only [Act.put, List.setIfInBounds_toArray, List.set_cons_zero, List.set_cons_succ]
            refine takeW 8 (v := ?_) rfl (by kernel_rfl) (by kernel_rfl) (by kernel_rfl) (fun _ _ _ h => h) (by rfl) (by assumption) ?_ ?_
            rotate_left
            · intro w hSw
              (try dsimp only at hSw)
              go_simp
              (try with_reducible rfl)
            try simp only [Act.put, List.setIfInBounds_toArray, List.set_cons_zero, List.set_cons_succ]
            refine takeW 9 (v := ?_) rfl (by kernel_rfl) (by kernel_rfl) (by kernel_rfl) (fun _ _ _ h => h) (by rfl) (by assumption) ?_ ?_
            rotate_left
            · intro w hSw
              (try dsimp only at hSw)
              go_simp
              (try with_reducible rfl)
            try simp only [Act.put, List.setIfInBounds_toArray, List.set_cons_zero, List.set_cons_succ]
            refine takeW 10 (v := ?_) rfl (by kernel_rfl) (by kernel_rfl) (by kernel_rfl) (fun _ _ _ h => h) (by rfl) (by assumption) ?_ ?_
            rotate_left
            · intro w hSw
              (try dsimp only at hSw)
              go_simp
              (try with_reducible rfl)
            try simp only [Act.put, List.setIfInBounds_toArray, List.set_cons_zero, List.set_cons_succ]
            refine takeW 11 (v := ?_) rfl (by kernel_rfl) (by kernel_rfl) (by kernel_rfl) (fun _ _ _ h => h) (by rfl) (by assumption) ?_ ?_
            rotate_left
            · intro w hSw
              (try dsimp only at hSw)
              go_simp
              (try with_reducible rfl)
            try simp only [Act.put, List.setIfInBounds_toArray, List.set_cons_zero, List.set_cons_succ]
            refine takeW 12 (v := ?_) rfl (by kernel_rfl) (by kernel_rfl) (by kernel_rfl) (fun _ _ _ h => h) (by rfl) (by assumption) ?_ ?_
            rotate_left
            · intro w hSw
              (try dsimp only at hSw)
              go_simp
              (try with_reducible rfl)
            try simp only [Act.put, List.setIfInBounds_toArray, List.set_cons_zero, List.set_cons_succ]
            refine takeW 13 (v := ?_) rfl (by kernel_rfl) (by kernel_rfl) (by kernel_rfl) (fun _ _ _ h => h) (by rfl) (by assumption) ?_ ?_
            rotate_left
            · intro w hSw
              (try dsimp only at hSw)
              go_simp
              (try with_reducible rfl)
            try simp only [Act.put, List.setIfInBounds_toArray, List.set_cons_zero, List.set_cons_succ]
            refine goW 14 rfl (by kernel_rfl) (fun K hK => ?_)
            go_simp
            go_at_call 94; (with_reducible refine (CE.out _ kc).mono ?_); rintro e w6 ⟨rfl, b6⟩; have kc := below_next kc b6
            refine hK.out _ _ ?_ (fun hHeld => ?_)
            · (try dsimp only)
              exact HK.out _ kc
            clear hK K
            try simp only [Act.put, List.setIfInBounds_toArray, List.set_cons_zero, List.set_cons_succ]
            refine takeW 15 (v := ?_) rfl (by kernel_rfl) (by kernel_rfl) (by kernel_rfl) (fun _ _ _ h => h) (by rfl) (by assumption) ?_ ?_
            rotate_left
            · intro w hSw
              (try dsimp only at hSw)
              go_simp
              (try with_reducible rfl)
            try simp only [Act.put, List.setIfInBounds_toArray, List.set_cons_zero, List.set_cons_succ]
            refine takeW 16 (v := ?_) rfl (by kernel_rfl) (by kernel_rfl) (by kernel_rfl) (fun _ _ _ h => h) (by rfl) (by assumption) ?_ ?_
            rotate_left
            · intro w hSw
              (try dsimp only at hSw)
              go_simp
              (try with_reducible rfl)
            try simp only [Act.put, List.setIfInBounds_toArray, List.set_cons_zero, List.set_cons_succ]
            refine takeW 17 (v := ?_) rfl (by kernel_rfl) (by kernel_rfl) (by kernel_rfl) (fun _ _ _ h => h) (by rfl) (by assumption) ?_ ?_
            rotate_left
            · intro w hSw
              (try dsimp only at hSw)
              go_simp
              (try with_reducible rfl)
            try simp only [Act.put, List.setIfInBounds_toArray, List.set_cons_zero, List.set_cons_succ]
            refine takeW 18 (v := ?_) rfl (by kernel_rfl) (by kernel_rfl) (by kernel_rfl) (fun _ _ _ h => h) (by rfl) (by assumption) ?_ ?_
            rotate_left
            · intro w hSw
              (try dsimp only at hSw)
              go_simp
              (try with_reducible rfl)
            try simp only [Act.put, List.setIfInBounds_toArray, List.set_cons_zero, List.set_cons_succ]
            refine takeW 19 (v := ?_) rfl (by kernel_rfl) (by kernel_rfl) (by kernel_rfl) (fun _ _ _ h => h) (by rfl) (by assumption) ?_ ?_
            rotate_left
            · intro w hSw
              (try dsimp only at hSw)
              go_simp
              (try with_reducible rfl)
            try simp only [Act.put, List.setIfInBounds_toArray, List.set_cons_zero, List.set_cons_succ]
            refine takeW 20 (v := ?_) rfl (by kernel_rfl) (by kernel_rfl) (by kernel_rfl) (fun _ _ _ h => h) (by rfl) (by assumption) ?_ ?_
            rotate_left
            · intro w hSw
              (try dsimp only at hSw)
              go_simp
              (try with_reducible rfl)
            try simp only [Act.put, List.setIfInBounds_toArray, List.set_cons_zero, List.set_cons_succ]
            refine takeW 21 (v := ?_) rfl (by kernel_rfl) (by kernel_rfl) (by kernel_rfl) (fun _ _ _ h => h) (by rfl) (by assumption) ?_ ?_
            rotate_left
            · intro w hSw
              (try dsimp only at hSw)
              go_simp
              (try with_reducible rfl)
            try simp only [Act.put, List.setIfInBounds_toArray, List.set_cons_zero, List.set_cons_succ]
            refine takeW 22 (v := ?_) rfl (by kernel_rfl) (by kernel_rfl) (by kernel_rfl) (fun _ _ _ h => h) (by rfl) (by assumption) ?_ ?_
            rotate_left
            · intro w hSw
              (try dsimp only at hSw)
              go_simp
              (try with_reducible rfl)
            try simp only [Act.put, List.setIfInBounds_toArray, List.set_cons_zero, List.set_cons_succ]
            refine takeW 24 (v := ?_) rfl (by kernel_rfl) (by kernel_rfl) (by kernel_rfl) (fun _ _ _ h => h) (by rfl) (by assumption) ?_ ?_
            rotate_left
            · intro w hSw
              (try dsimp only at hSw)
              go_simp
              (try with_reducible rfl)
            try simp only [Act.put, List.setIfInBounds_toArray, List.set_cons_zero, List.set_cons_succ]
            refine goW 23 rfl (by kernel_rfl) (fun K hK => ?_)
            go_simp
            go_at_call 95; (with_reducible refine (CL.out _ kc).mono ?_); rintro e w7 ⟨r, rfl, hr0, hr1, rfl⟩
            refine hK.out _ _ ?_ (fun hHeld => ?_)
            · (try dsimp only)
              exact HK.out _ kc
            clear hK K
            try simp only [Act.put, List.setIfInBounds_toArray, List.set_cons_zero, List.set_cons_succ]
            refine takeW 25 (v := ?_) rfl (by kernel_rfl) (by kernel_rfl) (by kernel_rfl) (fun _ _ _ h => h) (by rfl) (by assumption) ?_ ?_
            rotate_left
            · intro w hSw
              (try dsimp only at hSw)
              go_simp
              (try with_reducible rfl)
            try simp only [Act.put, List.setIfInBounds_toArray, List.set_cons_zero, List.set_cons_succ]
            refine takeW 26 (v := ?_) rfl (by kernel_rfl) (by kernel_rfl) (by kernel_rfl) (fun _ _ _ h => h) (by rfl) (by assumption) ?_ ?_
            rotate_left
            · intro w hSw
              (try dsimp only at hSw)
              go_simp
              (try with_reducible rfl)
            try simp only [Act.put, List.setIfInBounds_toArray, List.set_cons_zero, List.set_cons_succ]
            refine wpAnyH_done (by kernel_rfl) ?_ _
            refine NoPanic.normal ?_
            go_wp2_with fail
            go_meet
            exact ⟨⟨_, rfl⟩, kc⟩
        · have hd : (xs[k].last == m) = false := beq_eq_false_iff_ne.2 hlm
          clear hlm
          refine wp_region_noPanic ?_
          refine wp_region_held_drew (S := (fun W => (W.cell? ⟨b, off + k * 4, none⟩ = some (.string xs[k].name) ∧ W.cell? ⟨b, off + k * 4 + 1, none⟩ = some (.int .i64 xs[k].type.kind) ∧ W.cell? ⟨b, off + k * 4 + 2, none⟩ = some (.slice a' n' c') ∧ W.cell? ⟨b, off + k * 4 + 3, none⟩ = some (.int .i64 xs[k].last)) ∧ (W.cell? ⟨w.heap.size, 0, none⟩ = some (.int .i64 t.kind) ∧ W.cell? ⟨w.heap.size, 1, none⟩ = some (.slice ta tn tc)))) (by kernel_rfl) ?_ (fun hHeld => ?_)
          · (try dsimp only)
            exact HK.out _ kc
          refine takeW 0 (v := ?_) rfl (by kernel_rfl) (by kernel_rfl) (by kernel_rfl) (fun _ _ _ h => h) (by rfl) (by assumption) ?_ ?_
          rotate_left
          · intro w hSw
            (try dsimp only at hSw)
            go_simp
            (try with_reducible rfl)
          try simp only [Act.put, List.setIfInBounds_toArray, List.set_cons_zero, List.set_cons_succ]
          refine takeW 1 (v := ?_) rfl (by kernel_rfl) (by kernel_rfl) (by kernel_rfl) (fun _ _ _ h => h) (by rfl) (by assumption) ?_ ?_
          rotate_left
          · intro w hSw
            (try dsimp only at hSw)
            go_simp
            (try with_reducible rfl)
          try simp only [Act.put, List.setIfInBounds_toArray, List.set_cons_zero, List.set_cons_succ]
          refine takeW 2 (v := ?_) rfl (by kernel_rfl) (by kernel_rfl) (by kernel_rfl) (fun _ _ _ h => h) (by rfl) (by assumption) ?_ ?_
          rotate_left
          · intro w hSw
            (try dsimp only at hSw)
            go_simp
            (try with_reducible rfl)
          try simp only [Act.put, List.setIfInBounds_toArray, List.set_cons_zero, List.set_cons_succ]
          refine takeW 3 (v := ?_) rfl (by kernel_rfl) (by kernel_rfl) (by kernel_rfl) (fun _ _ _ h => h) (by rfl) (by assumption) ?_ ?_
          rotate_left
          · intro w hSw
            (try dsimp only at hSw)
            go_simp
            (try with_reducible rfl)
          try simp only [Act.put, List.setIfInBounds_toArray, List.set_cons_zero, List.set_cons_succ]
          refine takeW 4 (v := ?_) rfl (by kernel_rfl) (by kernel_rfl) (by kernel_rfl) (fun _ _ _ h => h) (by rfl) (by assumption) ?_ ?_
          rotate_left
          · intro w hSw
            (try dsimp only at hSw)
            go_simp
            (try with_reducible rfl)
          try simp only [Act.put, List.setIfInBounds_toArray, List.set_cons_zero, List.set_cons_succ]
          refine takeW 5 (v := ?_) rfl (by kernel_rfl) (by kernel_rfl) (by kernel_rfl) (fun _ _ _ h => h) (by rfl) (by assumption) ?_ ?_
          rotate_left
          · intro w hSw
            (try dsimp only at hSw)
            go_simp
            (try with_reducible rfl)
          try simp only [Act.put, List.setIfInBounds_toArray, List.set_cons_zero, List.set_cons_succ]
          refine takeW 6 (v := ?_) rfl (by kernel_rfl) (by kernel_rfl) (by kernel_rfl) (fun _ _ _ h => h) (by rfl) (by assumption) ?_ ?_
          rotate_left
          · intro w hSw
            (try dsimp only at hSw)
            go_simp
            (try with_reducible rfl)
          try simp only [Act.put, List.setIfInBounds_toArray, List.set_cons_zero, List.set_cons_succ]
          refine takeW 7 (v := ?_) rfl (by kernel_rfl) (by kernel_rfl) (by kernel_rfl) (fun _ _ _ h => h) (by rfl) (by assumption) ?_ ?_
          rotate_left
          · intro w hSw
            (try dsimp only at hSw)
            go_simp
            (try with_reducible rfl)
          try simp only [Act.put, List.setIfInBounds_toArray, List.set_cons_zero, List.set_cons_succ]
          refine skipW 8 rfl (by kernel_rfl) (by kernel_rfl) (by kernel_rfl) (fun _ _ _ h => h) (by rfl) (by assumption) ?_
          try simp only [Act.put, List.setIfInBounds_toArray, List.set_cons_zero, List.set_cons_succ]
          refine skipW 9 rfl (by kernel_rfl) (by kernel_rfl) (by kernel_rfl) (fun _ _ _ h => h) (by rfl) (by assumption) ?_
          try simp only [Act.put, List.setIfInBounds_toArray, List.set_cons_zero, List.set_cons_succ]
          refine skipW 10 rfl (by kernel_rfl) (by kernel_rfl) (by kernel_rfl) (fun _ _ _ h => h) (by rfl) (by assumption) ?_
          try simp only [Act.put, List.setIfInBounds_toArray, List.set_cons_zero, List.set_cons_succ]
          refine skipW 11 rfl (by kernel_rfl) (by kernel_rfl) (by kernel_rfl) (fun _ _ _ h => h) (by rfl) (by assumption) ?_
          try simp only [Act.put, List.setIfInBounds_toArray, List.set_cons_zero, List.set_cons_succ]
          refine skipW 12 rfl (by kernel_rfl) (by kernel_rfl) (by kernel_rfl) (fun _ _ _ h => h) (by rfl) (by assumption) ?_
          try simp only [Act.put, List.setIfInBounds_toArray, List.set_cons_zero, List.set_cons_succ]
          refine skipW 13 rfl (by kernel_rfl) (by kernel_rfl) (by kernel_rfl) (fun _ _ _ h => h) (by rfl) (by assumption) ?_
          try simp only [Act.put, List.setIfInBounds_toArray, List.set_cons_zero, List.set_cons_succ]
          refine goW 14 rfl (by kernel_rfl) (fun K hK => ?_)
          go_simp
          refine hK.out _ _ ?_ (fun hHeld => ?_)
          · (try dsimp only)
            exact HK.out _ kc
          clear hK K
          try simp only [Act.put, List.setIfInBounds_toArray, List.set_cons_zero, List.set_cons_succ]
          refine takeW 15 (v := ?_) rfl (by kernel_rfl) (by kernel_rfl) (by kernel_rfl) (fun _ _ _ h => h) (by rfl) (by assumption) ?_ ?_
          rotate_left
          · intro w hSw
            (try dsimp only at hSw)
            go_simp
            (try with_reducible rfl)
          try simp only [Act.put, List.setIfInBounds_toArray, List.set_cons_zero, List.set_cons_succ]
          refine takeW 16 (v := ?_) rfl (by kernel_rfl) (by kernel_rfl) (by kernel_rfl) (fun _ _ _ h => h) (by rfl) (by assumption) ?_ ?_
          rotate_left
          · intro w hSw
            (try dsimp only at hSw)
            go_simp
            (try with_reducible rfl)
          try simp only [Act.put, List.setIfInBounds_toArray, List.set_cons_zero, List.set_cons_succ]
          refine skipW 17 rfl (by kernel_rfl) (by kernel_rfl) (by kernel_rfl) (fun _ _ _ h => h) (by rfl) (by assumption) ?_
          try simp only [Act.put, List.setIfInBounds_toArray, List.set_cons_zero, List.set_cons_succ]
          refine skipW 18 rfl (by kernel_rfl) (by kernel_rfl) (by kernel_rfl) (fun _ _ _ h => h) (by rfl) (by assumption) ?_
          try simp only [Act.put, List.setIfInBounds_toArray, List.set_cons_zero, List.set_cons_succ]
          refine skipW 19 rfl (by kernel_rfl) (by kernel_rfl) (by kernel_rfl) (fun _ _ _ h => h) (by rfl) (by assumption) ?_
          try simp only [Act.put, List.setIfInBounds_toArray, List.set_cons_zero, List.set_cons_succ]
          refine skipW 20 rfl (by kernel_rfl) (by kernel_rfl) (by kernel_rfl) (fun _ _ _ h => h) (by rfl) (by assumption) ?_
          try simp only [Act.put, List.setIfInBounds_toArray, List.set_cons_zero, List.set_cons_succ]
          refine skipW 21 rfl (by kernel_rfl) (by kernel_rfl) (by kernel_rfl) (fun _ _ _ h => h) (by rfl) (by assumption) ?_
          try simp only [Act.put, List.setIfInBounds_toArray, List.set_cons_zero, List.set_cons_succ]
          refine skipW 22 rfl (by kernel_rfl) (by kernel_rfl) (by kernel_rfl) (fun _ _ _ h => h) (by rfl) (by assumption) ?_
          try simp only [Act.put, List.setIfInBounds_toArray, List.set_cons_zero, List.set_cons_succ]
          refine skipW 24 rfl (by kernel_rfl) (by kernel_rfl) (by kernel_rfl) (fun _ _ _ h => h) (by rfl) (by assumption) ?_
          try simp only [Act.put, List.setIfInBounds_toArray, List.set_cons_zero, List.set_cons_succ]
          refine goW 23 rfl (by kernel_rfl) (fun K hK => ?_)
          go_simp
          refine hK.out _ _ ?_ (fun hHeld => ?_)
          · (try dsimp only)
            exact HK.out _ kc
          clear hK K
          try simp only [Act.put, List.setIfInBounds_toArray, List.set_cons_zero, List.set_cons_succ]
          refine skipW 25 rfl (by kernel_rfl) (by kernel_rfl) (by kernel_rfl) (fun _ _ _ h => h) (by rfl) (by assumption) ?_
          try simp only [Act.put, List.setIfInBounds_toArray, List.set_cons_zero, List.set_cons_succ]
          refine takeW 26 (v := ?_) rfl (by kernel_rfl) (by kernel_rfl) (by kernel_rfl) (fun _ _ _ h => h) (by rfl) (by assumption) ?_ ?_
          rotate_left
          · intro w hSw
            (try dsimp only at hSw)
            go_simp
            (try with_reducible rfl)
          try simp only [Act.put, List.setIfInBounds_toArray, List.set_cons_zero, List.set_cons_succ]
          refine wpAnyH_done (by kernel_rfl) ?_ _
          refine NoPanic.normal ?_
          go_wp2_with fail
          go_meet
          exact ⟨⟨_, rfl⟩, kc⟩
      case rest =>
      obtain ⟨⟨b45, rfl⟩, bx⟩ := hcut
      have hbx := below_next hb bx
      have hTBx := hTB.under bx
      have hRBx := hRB.under bx
      have hOx := own_below hO bx
      have hszx := hbx.size
      have lRx := hRBx.lt
      cases b45 with
      | false =>
        go_wp2_with fail
        go_roundw
        case rel =>
          exact ⟨k + 1, by omega, by go_num, ⟨ss, q, hOx, by omega, HS.out⟩, hTBx, hRBx, hbx⟩
        case measure => simp [intOf]; omega
      | true =>
        obtain ⟨⟨f0, f1, f2, f3⟩, -⟩ := HK.out _ bx
        have CV := hide (l5Var_eq xs[k].name wc)
        go_wp2_with (first
          | (go_at_call 42; (with_reducible refine CV.out.mono ?_); rintro e w1 ⟨rfl, b1⟩; have s1 := b1.size)
          | (at_builtin; refine wpList_append_lies _ rfl _ _ 27 rfl (w.heap.size + 1 + 1) 29 i0 _ 9 136 Tryz.underlying27 hi hz0 hz1 hz2 rfl (by decide) _ q (leavesC ss) rfl ((own_below hOx b1).alloc _) ⟨w1.heap.size, 0, none⟩ 1 1 (tcells (leafM 1 0 xs[k].name) lt0) rfl rfl (World.news_of_block (cs := #[.int .i64 (leafM 1 0 xs[k].name).kind, .string (leafM 1 0 xs[k].name).name, .string (leafM 1 0 xs[k].name).other, .int .i64 (leafM 1 0 xs[k].name).n, .int .i64 (leafM 1 0 xs[k].name).type.kind, .slice lt0.ta lt0.tn lt0.tc, .int .i64 (leafM 1 0 xs[k].name).res.kind, .slice lt0.ra lt0.rn lt0.rc, .slice lt0.aa lt0.an lt0.ac]) (t := 29) (fr := (0, 0)) (heap_alloc_new w1 _)) ?c3 (by decide) ?c5 ?c6 ?c7 _ rfl ?_))
        case c3 => simp [Value.oneCell', tcells]
        case c5 => unfold maxLen; omega
        case c6 => omega
        case c7 => simp; omega
        intro g cap' w2 hown hgrow hat hlt2
        have hgx : ∀ X, X < w.heap.size + 1 + 1 → some X ≠ Value.ownBlock _ := fun X hX e => by have := (hOx.lt X e.symm).1; omega
        go_wp2_with fail
        go_roundw
        case rel =>
          refine ⟨k + 1, by omega, by go_num, ⟨ss ++ [xs[k].name], q + 1, by rw [leavesC_snoc]; exact hown, by omega, by rw [List.length_append, HS.out.1]; rfl, fun s hs => (List.mem_append.1 hs).elim (HS.out.2 s) fun h => by rw [List.mem_singleton.1 h]; exact hnm⟩, ?_, ?_, ?_⟩
          · exact ((hTBx.under b1).alloc _).grown hgrow (hgx _ (by omega))
          · exact ((hRBx.under b1).alloc _).grown hgrow (hgx _ (by omega))
          · exact ((hbx.trans (b1.mono hszx)).alloc (by omega) _).grown hgrow (by simp; omega) fun k hk => by have := (hOx.lt k hk).1; omega
        case measure => simp [intOf]; omega
    · have hD : Drew p w wr := Drew.of_below hC hb
      obtain ⟨r0, r1, r2, r3, r4, r5, r6, r7, r8⟩ : _ ∧ _ ∧ _ ∧ _ ∧ _ ∧ _ ∧ _ ∧ _ ∧ _ := ⟨hRB.cell 0, hRB.cell 1, hRB.cell 2, hRB.cell 3, hRB.cell 4, hRB.cell 5, hRB.cell 6, hRB.cell 7, hRB.cell 8⟩
      simp at r0 r1 r2 r3 r4 r5 r6 r7 r8
      obtain ⟨z0, z1, z2, z3, z4, z5, z6, z7, z8⟩ : _ ∧ _ ∧ _ ∧ _ ∧ _ ∧ _ ∧ _ ∧ _ ∧ _ := ⟨hRB.free 0, hRB.free 1, hRB.free 2, hRB.free 3, hRB.free 4, hRB.free 5, hRB.free 6, hRB.free 7, hRB.free 8⟩
      by_cases hq0 : q = 0
      · subst hq0
        have hv : ∃ va vc, u10 = .slice va 0 vc := by
          rcases hO.2 with ⟨rfl, _⟩ | ⟨g, cap, cur, rfl, _⟩
          · exact ⟨_, _, rfl⟩
          · exact ⟨_, _, rfl⟩
        obtain ⟨va, vc, rfl⟩ := hv
        go_wp2_with fail
        obtain ⟨W, hW⟩ : ∃ W, W = putAt wr (w.heap.size + 1) 0 (tcells (leafM 0 0 ⟨#[]⟩) lt0) := ⟨_, rfl⟩
        have HB := (put_box hRB rfl (leafM 0 0 ⟨#[]⟩) lt0).nine
        have HD : DrawsK p w (.returned (.tuple #[.agg #[.int .i64 (leafM 0 0 ⟨#[]⟩).kind, .string (leafM 0 0 ⟨#[]⟩).name, .string (leafM 0 0 ⟨#[]⟩).other, .int .i64 (leafM 0 0 ⟨#[]⟩).n, .int .i64 (leafM 0 0 ⟨#[]⟩).type.kind, .slice lt0.ta lt0.tn lt0.tc, .int .i64 (leafM 0 0 ⟨#[]⟩).res.kind, .slice lt0.ra lt0.rn lt0.rc, .slice lt0.aa lt0.an lt0.ac], .bool false])) (putAt wr (w.heap.size + 1) 0 (tcells (leafM 0 0 ⟨#[]⟩) lt0)) :=
          ⟨_, lt0, false, rfl, leafM_own _ _ (by simp [i64]) (by simp [i64]) (by decide), by rw [leafM_wt]; exact Nat.zero_le _, Drew.put hC hD (by omega) _ _⟩
        rw [← hW] at HB HD
        rw [putAt_zero] at hW
        dsimp only [leafM, lt0, ty0] at hW HB
        rw [← hW]
        obtain ⟨y0, y1, y2, y3, y4, y5, y6, y7, y8⟩ := HB
        refine bodyPost_ret (v := .tuple #[.agg #[.int .i64 (leafM 0 0 ⟨#[]⟩).kind, .string (leafM 0 0 ⟨#[]⟩).name, .string (leafM 0 0 ⟨#[]⟩).other, .int .i64 (leafM 0 0 ⟨#[]⟩).n, .int .i64 (leafM 0 0 ⟨#[]⟩).type.kind, .slice lt0.ta lt0.tn lt0.tc, .int .i64 (leafM 0 0 ⟨#[]⟩).res.kind, .slice lt0.ra lt0.rn lt0.rc, .slice lt0.aa lt0.an lt0.ac], .bool false]) ?_ rfl HD
        simp [results, Tryz.results69, go_sem, y0, y1, y2, y3, y4, y5, y6, y7, y8, leafM, lt0, ty0]
      · obtain ⟨g, gc, rfl, hgb, hgl, hcell⟩ : ∃ g gc, u10 = .slice (some ⟨g, 0, none⟩) q gc ∧ w.heap.size + 1 + 1 ≤ g ∧ g < wr.heap.size ∧ ∀ j u', (leavesC ss)[j]? = some u' → wr.cell? ⟨g, j, none⟩ = some u' := by
          rcases hO.2 with ⟨_, h0⟩ | ⟨g, gc, cur, hv, hgb, hh, _⟩
          · exact absurd h0 hq0
          · refine ⟨g, gc, hv, hgb, (Array.getElem?_eq_some_iff.1 hh).1, fun j u' hj => ?_⟩
            have := hO.cells (g := g) (by rw [hv]; rfl) j u' hj
            simpa [Addr.add_lit] using this
        have hne : ((q : Int) == 0) = false := by simp; omega
        go_wp2_with fail
        refine (l1Below_any p (q : Int) _ hD.cur (by omega)).mono ?_
        rintro e w1 ⟨x, rfl, hx0, -, d1⟩
        have hxq : x < q := by have := hx0 (by omega); omega
        have hxs : x < ss.length := by rw [← HS.out.1]; exact hxq
        have hsx := HS.out.2 _ (List.getElem_mem hxs)
        have s1 := d1.size
        have hcx : ∀ i, i < 9 → w1.cell? ⟨g, x * 9 + i, none⟩ = (tcells (leafM 1 0 ss[x]) lt0)[i]? := fun i hi9 => by
          rw [SameB.of_heap (d1.block hgl (by omega)) _]
          have h9 := leavesC_get ss x hxs i hi9
          rw [← h9]
          have hlt9 : i < (tcells (leafM 1 0 ss[x]) lt0).length := by rw [tcells_len]; exact hi9
          rw [List.getElem?_eq_getElem hlt9] at h9
          rw [h9]
          exact hcell _ _ h9
        obtain ⟨y0, y1, y2, y3, y4, y5, y6, y7, y8⟩ : _ ∧ _ ∧ _ ∧ _ ∧ _ ∧ _ ∧ _ ∧ _ ∧ _ := ⟨hcx 0 (by omega), hcx 1 (by omega), hcx 2 (by omega), hcx 3 (by omega), hcx 4 (by omega), hcx 5 (by omega), hcx 6 (by omega), hcx 7 (by omega), hcx 8 (by omega)⟩
        simp [tcells, leafM, lt0, ty0] at y0 y1 y2 y3 y4 y5 y6 y7 y8
        have hRB1 : Blk w1 (w.heap.size + 1) 29 #[.int .i64 0, .string ⟨#[]⟩, .string ⟨#[]⟩, .int .i64 0, .int .i64 0, .slice none 0 0, .int .i64 0, .slice none 0 0, .slice none 0 0] := (d1.block lRB (by omega)).trans hRB
        clear r0 r1 r2 r3 r4 r5 r6 r7 r8 z0 z1 z2 z3 z4 z5 z6 z7 z8 hcx
        obtain ⟨r0, r1, r2, r3, r4, r5, r6, r7, r8⟩ : _ ∧ _ ∧ _ ∧ _ ∧ _ ∧ _ ∧ _ ∧ _ ∧ _ := ⟨hRB1.cell 0, hRB1.cell 1, hRB1.cell 2, hRB1.cell 3, hRB1.cell 4, hRB1.cell 5, hRB1.cell 6, hRB1.cell 7, hRB1.cell 8⟩
        simp at r0 r1 r2 r3 r4 r5 r6 r7 r8
        obtain ⟨z0, z1, z2, z3, z4, z5, z6, z7, z8⟩ : _ ∧ _ ∧ _ ∧ _ ∧ _ ∧ _ ∧ _ ∧ _ ∧ _ := ⟨hRB1.free 0, hRB1.free 1, hRB1.free 2, hRB1.free 3, hRB1.free 4, hRB1.free 5, hRB1.free 6, hRB1.free 7, hRB1.free 8⟩
        have hD1 := hD.trans d1
        generalize ss[x] = nm at hsx y1
        go_wp2_with fail
        obtain ⟨W, hW⟩ : ∃ W, W = putAt w1 (w.heap.size + 1) 0 (tcells (leafM 1 0 nm) lt0) := ⟨_, rfl⟩
        have HB := (put_box hRB1 rfl (leafM 1 0 nm) lt0).nine
        have HD : DrawsK p w (.returned (.tuple #[.agg #[.int .i64 (leafM 1 0 nm).kind, .string (leafM 1 0 nm).name, .string (leafM 1 0 nm).other, .int .i64 (leafM 1 0 nm).n, .int .i64 (leafM 1 0 nm).type.kind, .slice lt0.ta lt0.tn lt0.tc, .int .i64 (leafM 1 0 nm).res.kind, .slice lt0.ra lt0.rn lt0.rc, .slice lt0.aa lt0.an lt0.ac], .bool true])) (putAt w1 (w.heap.size + 1) 0 (tcells (leafM 1 0 nm) lt0)) :=
          ⟨_, lt0, true, rfl, leafM_own _ _ (by simp [i64]) (by simp [i64]) (by omega), by rw [leafM_wt]; exact hsx, Drew.put hC hD1 (by omega) _ _⟩
        rw [← hW] at HB HD
        rw [putAt_zero] at hW
        dsimp only [leafM, lt0, ty0] at hW HB
        rw [← hW]
        obtain ⟨y0', y1', y2', y3', y4', y5', y6', y7', y8'⟩ := HB
        refine bodyPost_ret (v := .tuple #[.agg #[.int .i64 (leafM 1 0 nm).kind, .string (leafM 1 0 nm).name, .string (leafM 1 0 nm).other, .int .i64 (leafM 1 0 nm).n, .int .i64 (leafM 1 0 nm).type.kind, .slice lt0.ta lt0.tn lt0.tc, .int .i64 (leafM 1 0 nm).res.kind, .slice lt0.ra lt0.rn lt0.rc, .slice lt0.aa lt0.an lt0.ac], .bool true]) ?_ rfl HD
        simp [results, Tryz.results69, go_sem, y0', y1', y2', y3', y4', y5', y6', y7', y8', leafM, lt0, ty0]
end Go.Proofs.YtklifieahcoljaaGreat
