/-
  The reader of a text, second part.
-/
import Derived.Test.YtklifieahcoljaaGreatPkRdA
import Derived.Test.YtklifieahcoljaaGreatOpAr
import Derived.Test.YtklifieahcoljaaGreatHand
import Derived.Deep.CutBlock
import Derived.Deep.RegionHeld3
import Derived.Deep.RegionLaw
namespace Go.Proofs.YtklifieahcoljaaGreat
open Go.RowKit
set_option maxRecDepth 100000
set_option linter.unusedVariables false
set_option linter.unusedSimpArgs false

set_option maxHeartbeats 12800000 in
theorem l6Rest_of (q : Nat) (s : ByteArray) (d : Nat) (H : TermC q s d) (P : Nat → Prop) (t : Tm) (l : Lt) (i : Nat) (b : Bool) (w : World) (h : Rdr w q s i b) (hPq : ¬ P q) (ho : OwnP P w t l) :
    Calls Tryz.prog 122 #[.pointer (some ⟨q, 0, none⟩), .agg #[.int .i64 t.kind, .string t.name, .string t.other, .int .i64 t.n, .int .i64 t.type.kind, .slice l.ta l.tn l.tc, .int .i64 t.res.kind, .slice l.ra l.rn l.rc, .slice l.aa l.an l.ac], .int .i64 (d : Int)] w (GivesA q s i b (t.wt + 3) P w) := by
  have HA := hide (l6Args_of q s d H)
  clear H
  have hq := h.lt
  have hX := Blk.new (((w.alloc (.cells #[.int .i64 t.kind, .string t.name, .string t.other, .int .i64 t.n, .int .i64 t.type.kind, .slice l.ta l.tn l.tc, .int .i64 t.res.kind, .slice l.ra l.rn l.rc, .slice l.aa l.an l.ac] 29)).alloc (.cells #[.int .i64 0, .string ⟨#[]⟩, .string ⟨#[]⟩, .int .i64 0, .int .i64 0, .slice none 0 0, .int .i64 0, .slice none 0 0, .slice none 0 0] 29)).alloc (.cells #[.int .i64 t.kind, .string t.name, .string t.other, .int .i64 t.n, .int .i64 t.type.kind, .slice l.ta l.tn l.tc, .int .i64 t.res.kind, .slice l.ra l.rn l.rc, .slice l.aa l.an l.ac] 29)) 29 #[.int .i64 (wrapM 7 t).kind, .string (wrapM 7 t).name, .string (wrapM 7 t).other, .int .i64 (wrapM 7 t).n, .int .i64 (wrapM 7 t).type.kind, .slice (wrapL (w.heap.size + 1 + 1)).ta (wrapL (w.heap.size + 1 + 1)).tn (wrapL (w.heap.size + 1 + 1)).tc, .int .i64 (wrapM 7 t).res.kind, .slice (wrapL (w.heap.size + 1 + 1)).ra (wrapL (w.heap.size + 1 + 1)).rn (wrapL (w.heap.size + 1 + 1)).rc, .slice (wrapL (w.heap.size + 1 + 1)).aa (wrapL (w.heap.size + 1 + 1)).an (wrapL (w.heap.size + 1 + 1)).ac]
  have RB0 := ((Blk.new2 w (.cells #[.int .i64 t.kind, .string t.name, .string t.other, .int .i64 t.n, .int .i64 t.type.kind, .slice l.ta l.tn l.tc, .int .i64 t.res.kind, .slice l.ra l.rn l.rc, .slice l.aa l.an l.ac] 29) 29 #[.int .i64 0, .string ⟨#[]⟩, .string ⟨#[]⟩, .int .i64 0, .int .i64 0, .slice none 0 0, .int .i64 0, .slice none 0 0, .slice none 0 0]).alloc (.cells #[.int .i64 t.kind, .string t.name, .string t.other, .int .i64 t.n, .int .i64 t.type.kind, .slice l.ta l.tn l.tc, .int .i64 t.res.kind, .slice l.ra l.rn l.rc, .slice l.aa l.an l.ac] 29)).alloc (.cells #[.int .i64 (wrapM 7 t).kind, .string (wrapM 7 t).name, .string (wrapM 7 t).other, .int .i64 (wrapM 7 t).n, .int .i64 (wrapM 7 t).type.kind, .slice (wrapL (w.heap.size + 1 + 1)).ta (wrapL (w.heap.size + 1 + 1)).tn (wrapL (w.heap.size + 1 + 1)).tc, .int .i64 (wrapM 7 t).res.kind, .slice (wrapL (w.heap.size + 1 + 1)).ra (wrapL (w.heap.size + 1 + 1)).rn (wrapL (w.heap.size + 1 + 1)).rc, .slice (wrapL (w.heap.size + 1 + 1)).aa (wrapL (w.heap.size + 1 + 1)).an (wrapL (w.heap.size + 1 + 1)).ac] 29)
  have LR0 := (((h.alloc (.cells #[.int .i64 t.kind, .string t.name, .string t.other, .int .i64 t.n, .int .i64 t.type.kind, .slice l.ta l.tn l.tc, .int .i64 t.res.kind, .slice l.ra l.rn l.rc, .slice l.aa l.an l.ac] 29)).alloc (.cells #[.int .i64 0, .string ⟨#[]⟩, .string ⟨#[]⟩, .int .i64 0, .int .i64 0, .slice none 0 0, .int .i64 0, .slice none 0 0, .slice none 0 0] 29)).alloc (.cells #[.int .i64 t.kind, .string t.name, .string t.other, .int .i64 t.n, .int .i64 t.type.kind, .slice l.ta l.tn l.tc, .int .i64 t.res.kind, .slice l.ra l.rn l.rc, .slice l.aa l.an l.ac] 29)).alloc (.cells #[.int .i64 (wrapM 7 t).kind, .string (wrapM 7 t).name, .string (wrapM 7 t).other, .int .i64 (wrapM 7 t).n, .int .i64 (wrapM 7 t).type.kind, .slice (wrapL (w.heap.size + 1 + 1)).ta (wrapL (w.heap.size + 1 + 1)).tn (wrapL (w.heap.size + 1 + 1)).tc, .int .i64 (wrapM 7 t).res.kind, .slice (wrapL (w.heap.size + 1 + 1)).ra (wrapL (w.heap.size + 1 + 1)).rn (wrapL (w.heap.size + 1 + 1)).rc, .slice (wrapL (w.heap.size + 1 + 1)).aa (wrapL (w.heap.size + 1 + 1)).an (wrapL (w.heap.size + 1 + 1)).ac] 29)
  have KW0 : Kept q P w ((((w.alloc (.cells #[.int .i64 t.kind, .string t.name, .string t.other, .int .i64 t.n, .int .i64 t.type.kind, .slice l.ta l.tn l.tc, .int .i64 t.res.kind, .slice l.ra l.rn l.rc, .slice l.aa l.an l.ac] 29)).alloc (.cells #[.int .i64 0, .string ⟨#[]⟩, .string ⟨#[]⟩, .int .i64 0, .int .i64 0, .slice none 0 0, .int .i64 0, .slice none 0 0, .slice none 0 0] 29)).alloc (.cells #[.int .i64 t.kind, .string t.name, .string t.other, .int .i64 t.n, .int .i64 t.type.kind, .slice l.ta l.tn l.tc, .int .i64 t.res.kind, .slice l.ra l.rn l.rc, .slice l.aa l.an l.ac] 29)).alloc (.cells #[.int .i64 (wrapM 7 t).kind, .string (wrapM 7 t).name, .string (wrapM 7 t).other, .int .i64 (wrapM 7 t).n, .int .i64 (wrapM 7 t).type.kind, .slice (wrapL (w.heap.size + 1 + 1)).ta (wrapL (w.heap.size + 1 + 1)).tn (wrapL (w.heap.size + 1 + 1)).tc, .int .i64 (wrapM 7 t).res.kind, .slice (wrapL (w.heap.size + 1 + 1)).ra (wrapL (w.heap.size + 1 + 1)).rn (wrapL (w.heap.size + 1 + 1)).rc, .slice (wrapL (w.heap.size + 1 + 1)).aa (wrapL (w.heap.size + 1 + 1)).an (wrapL (w.heap.size + 1 + 1)).ac] 29)) :=
    Kept.of_wrote ((((Wrote.alloc q w _).next (below_new _ _)).next (below_new _ _)).next (below_new _ _))
  have LO0 : OwnP (fun b => (P b ∧ b < w.heap.size) ∨ b = w.heap.size + 1 + 1) ((((w.alloc (.cells #[.int .i64 t.kind, .string t.name, .string t.other, .int .i64 t.n, .int .i64 t.type.kind, .slice l.ta l.tn l.tc, .int .i64 t.res.kind, .slice l.ra l.rn l.rc, .slice l.aa l.an l.ac] 29)).alloc (.cells #[.int .i64 0, .string ⟨#[]⟩, .string ⟨#[]⟩, .int .i64 0, .int .i64 0, .slice none 0 0, .int .i64 0, .slice none 0 0, .slice none 0 0] 29)).alloc (.cells #[.int .i64 t.kind, .string t.name, .string t.other, .int .i64 t.n, .int .i64 t.type.kind, .slice l.ta l.tn l.tc, .int .i64 t.res.kind, .slice l.ra l.rn l.rc, .slice l.aa l.an l.ac] 29)).alloc (.cells #[.int .i64 (wrapM 7 t).kind, .string (wrapM 7 t).name, .string (wrapM 7 t).other, .int .i64 (wrapM 7 t).n, .int .i64 (wrapM 7 t).type.kind, .slice (wrapL (w.heap.size + 1 + 1)).ta (wrapL (w.heap.size + 1 + 1)).tn (wrapL (w.heap.size + 1 + 1)).tc, .int .i64 (wrapM 7 t).res.kind, .slice (wrapL (w.heap.size + 1 + 1)).ra (wrapL (w.heap.size + 1 + 1)).rn (wrapL (w.heap.size + 1 + 1)).rc, .slice (wrapL (w.heap.size + 1 + 1)).aa (wrapL (w.heap.size + 1 + 1)).an (wrapL (w.heap.size + 1 + 1)).ac] 29)) (wrapM 7 t) (wrapL (w.heap.size + 1 + 1)) := by
    have h1 := ((ho.mono (Q := fun b => P b ∧ b < w.heap.size) fun b hb hl => ⟨hb, hl⟩).keep (w' := (w.alloc (.cells #[.int .i64 t.kind, .string t.name, .string t.other, .int .i64 t.n, .int .i64 t.type.kind, .slice l.ta l.tn l.tc, .int .i64 t.res.kind, .slice l.ra l.rn l.rc, .slice l.aa l.an l.ac] 29)).alloc (.cells #[.int .i64 0, .string ⟨#[]⟩, .string ⟨#[]⟩, .int .i64 0, .int .i64 0, .slice none 0 0, .int .i64 0, .slice none 0 0, .slice none 0 0] 29)) fun b hb hl => ((Below.heap_alloc _ _ _ (by simp; omega)).trans (Below.heap_alloc _ _ _ hl))).wrap 7 (by simp [i64])
    have e : ((w.alloc (.cells #[.int .i64 t.kind, .string t.name, .string t.other, .int .i64 t.n, .int .i64 t.type.kind, .slice l.ta l.tn l.tc, .int .i64 t.res.kind, .slice l.ra l.rn l.rc, .slice l.aa l.an l.ac] 29)).alloc (.cells #[.int .i64 0, .string ⟨#[]⟩, .string ⟨#[]⟩, .int .i64 0, .int .i64 0, .slice none 0 0, .int .i64 0, .slice none 0 0, .slice none 0 0] 29)).heap.size = w.heap.size + 1 + 1 := by simp
    rw [e] at h1
    exact h1.keep fun b hb hl => Below.heap_alloc _ _ _ hl
  have hs0 : ((((w.alloc (.cells #[.int .i64 t.kind, .string t.name, .string t.other, .int .i64 t.n, .int .i64 t.type.kind, .slice l.ta l.tn l.tc, .int .i64 t.res.kind, .slice l.ra l.rn l.rc, .slice l.aa l.an l.ac] 29)).alloc (.cells #[.int .i64 0, .string ⟨#[]⟩, .string ⟨#[]⟩, .int .i64 0, .int .i64 0, .slice none 0 0, .int .i64 0, .slice none 0 0, .slice none 0 0] 29)).alloc (.cells #[.int .i64 t.kind, .string t.name, .string t.other, .int .i64 t.n, .int .i64 t.type.kind, .slice l.ta l.tn l.tc, .int .i64 t.res.kind, .slice l.ra l.rn l.rc, .slice l.aa l.an l.ac] 29)).alloc (.cells #[.int .i64 (wrapM 7 t).kind, .string (wrapM 7 t).name, .string (wrapM 7 t).other, .int .i64 (wrapM 7 t).n, .int .i64 (wrapM 7 t).type.kind, .slice (wrapL (w.heap.size + 1 + 1)).ta (wrapL (w.heap.size + 1 + 1)).tn (wrapL (w.heap.size + 1 + 1)).tc, .int .i64 (wrapM 7 t).res.kind, .slice (wrapL (w.heap.size + 1 + 1)).ra (wrapL (w.heap.size + 1 + 1)).rn (wrapL (w.heap.size + 1 + 1)).rc, .slice (wrapL (w.heap.size + 1 + 1)).aa (wrapL (w.heap.size + 1 + 1)).an (wrapL (w.heap.size + 1 + 1)).ac] 29)).heap.size = w.heap.size + 1 + 1 + 1 + 1 := by simp
  have eX : (((w.alloc (.cells #[.int .i64 t.kind, .string t.name, .string t.other, .int .i64 t.n, .int .i64 t.type.kind, .slice l.ta l.tn l.tc, .int .i64 t.res.kind, .slice l.ra l.rn l.rc, .slice l.aa l.an l.ac] 29)).alloc (.cells #[.int .i64 0, .string ⟨#[]⟩, .string ⟨#[]⟩, .int .i64 0, .int .i64 0, .slice none 0 0, .int .i64 0, .slice none 0 0, .slice none 0 0] 29)).alloc (.cells #[.int .i64 t.kind, .string t.name, .string t.other, .int .i64 t.n, .int .i64 t.type.kind, .slice l.ta l.tn l.tc, .int .i64 t.res.kind, .slice l.ra l.rn l.rc, .slice l.aa l.an l.ac] 29)).heap.size = w.heap.size + 1 + 1 + 1 := by simp
  rw [eX] at hX
  clear eX
  dsimp only [wrapM, wrapL, ty0] at hX RB0 LR0 KW0 hs0
  go_enter Tryz.func122, Tryz.ntmps122
  go_upto_region 2 with fail
  have hX2 : Blk ((((w.alloc (.cells #[.int .i64 t.kind, .string t.name, .string t.other, .int .i64 t.n, .int .i64 t.type.kind, .slice l.ta l.tn l.tc, .int .i64 t.res.kind, .slice l.ra l.rn l.rc, .slice l.aa l.an l.ac] 29)).alloc (.cells #[.int .i64 0, .string ⟨#[]⟩, .string ⟨#[]⟩, .int .i64 0, .int .i64 0, .slice none 0 0, .int .i64 0, .slice none 0 0, .slice none 0 0] 29)).alloc (.cells #[.int .i64 t.kind, .string t.name, .string t.other, .int .i64 t.n, .int .i64 t.type.kind, .slice l.ta l.tn l.tc, .int .i64 t.res.kind, .slice l.ra l.rn l.rc, .slice l.aa l.an l.ac] 29)).alloc (.cells #[.int .i64 7, .string ⟨#[]⟩, .string ⟨#[]⟩, .int .i64 0, .int .i64 0, .slice none 0 0, .int .i64 0, .slice none 0 0, .slice (some ⟨w.heap.size + 1 + 1, 0, none⟩) 1 1] 29)) (w.heap.size + 1 + 1 + 1) 29 #[.int .i64 (wrapM 7 t).kind, .string (wrapM 7 t).name, .string (wrapM 7 t).other, .int .i64 (wrapM 7 t).n, .int .i64 (wrapM 7 t).type.kind, .slice (wrapL (w.heap.size + 1 + 1)).ta (wrapL (w.heap.size + 1 + 1)).tn (wrapL (w.heap.size + 1 + 1)).tc, .int .i64 (wrapM 7 t).res.kind, .slice (wrapL (w.heap.size + 1 + 1)).ra (wrapL (w.heap.size + 1 + 1)).rn (wrapL (w.heap.size + 1 + 1)).rc, .slice (wrapL (w.heap.size + 1 + 1)).aa (wrapL (w.heap.size + 1 + 1)).an (wrapL (w.heap.size + 1 + 1)).ac] := hX
  clear hX
  change OwnP _ ((((w.alloc (.cells #[.int .i64 t.kind, .string t.name, .string t.other, .int .i64 t.n, .int .i64 t.type.kind, .slice l.ta l.tn l.tc, .int .i64 t.res.kind, .slice l.ra l.rn l.rc, .slice l.aa l.an l.ac] 29)).alloc (.cells #[.int .i64 0, .string ⟨#[]⟩, .string ⟨#[]⟩, .int .i64 0, .int .i64 0, .slice none 0 0, .int .i64 0, .slice none 0 0, .slice none 0 0] 29)).alloc (.cells #[.int .i64 t.kind, .string t.name, .string t.other, .int .i64 t.n, .int .i64 t.type.kind, .slice l.ta l.tn l.tc, .int .i64 t.res.kind, .slice l.ra l.rn l.rc, .slice l.aa l.an l.ac] 29)).alloc (.cells #[.int .i64 7, .string ⟨#[]⟩, .string ⟨#[]⟩, .int .i64 0, .int .i64 0, .slice none 0 0, .int .i64 0, .slice none 0 0, .slice (some ⟨w.heap.size + 1 + 1, 0, none⟩) 1 1] 29)) _ _ at LO0
  generalize (((w.alloc (.cells #[.int .i64 t.kind, .string t.name, .string t.other, .int .i64 t.n, .int .i64 t.type.kind, .slice l.ta l.tn l.tc, .int .i64 t.res.kind, .slice l.ra l.rn l.rc, .slice l.aa l.an l.ac] 29)).alloc (.cells #[.int .i64 0, .string ⟨#[]⟩, .string ⟨#[]⟩, .int .i64 0, .int .i64 0, .slice none 0 0, .int .i64 0, .slice none 0 0, .slice none 0 0] 29)).alloc (.cells #[.int .i64 t.kind, .string t.name, .string t.other, .int .i64 t.n, .int .i64 t.type.kind, .slice l.ta l.tn l.tc, .int .i64 t.res.kind, .slice l.ra l.rn l.rc, .slice l.aa l.an l.ac] 29)).alloc (.cells #[.int .i64 7, .string ⟨#[]⟩, .string ⟨#[]⟩, .int .i64 0, .int .i64 0, .slice none 0 0, .int .i64 0, .slice none 0 0, .slice (some ⟨w.heap.size + 1 + 1, 0, none⟩) 1 1] 29) = w0 at hX2 RB0 LR0 KW0 hs0 LO0 ⊢
  have hwt0 : (wrapM 7 t).wt = 1 + t.wt := wrapM_wt 7 t
  have hl0 : (wrapM 7 t).args.length ≤ 1 := by simp [wrapM]
  have hn0 : (wrapM 7 t).name.size = 0 := rfl
  generalize wrapM 7 t = t0 at hX2 LO0 hwt0 hl0 hn0
  generalize wrapL (w.heap.size + 1 + 1) = l0 at hX2 LO0
  have hQq : ¬ ((P q ∧ q < w.heap.size) ∨ q = w.heap.size + 1 + 1) := fun hb => by rcases hb with hb | hb; exact hPq hb.1; omega
  go_wp2_with fail
  refine (l4Take_any q s ⟨#[32]⟩ i b w0 LR0 (by decide)).mono ?_
  rintro e w1 ⟨r, rfl, hrf, hrt, k1⟩
  have s1 := k1.size
  have X1 := k1.blk hX2 (by omega)
  have RB1 := k1.blk RB0 (by omega)
  have KW1 := KW0.next k1
  have LO1 := LO0.keep fun b hb hl => k1.block b hl (by have : b ≠ q := (fun e => by subst e; exact hQq hb); simpa using this)
  have s1' := KW1.size
  obtain ⟨s0, s1, s2, s3, s4, s5, s6, s7, s8⟩ := X1.nine
  cases r with
  | true =>
    obtain ⟨rfl, hle, LR1⟩ := hrt rfl
    have hph : phi s (i + 1) false + 10 * 1 = phi s i false := phi_take (k := 1) hle
    replace LR1 : Rdr w1 q s (i + 1) false := LR1
    clear hrf hrt hX2 RB0 LR0 KW0 LO0
    go_wp2_with fail
    refine (HA.out (fun b => (P b ∧ b < w.heap.size) ∨ b = w.heap.size + 1 + 1) 1 (by omega) t0 l0 (i + 1) false w1 LR1 (fun hb => by rcases hb with hb | hb; exact hPq hb.1; omega) LO1 hl0).mono ?_
    rintro e w3 ⟨t3, l3, i3, b3, rfl, LO3, R3, hp3, K3⟩
    have s3 := KW1.size
    have sR := RB1.lt
    have RB := K3.blk RB1 (by omega) (fun hb => by omega)
    obtain ⟨q0, q1, q2, q3, q4, q5, q6, q7, q8⟩ : _ ∧ _ ∧ _ ∧ _ ∧ _ ∧ _ ∧ _ ∧ _ ∧ _ := ⟨RB.cell 0, RB.cell 1, RB.cell 2, RB.cell 3, RB.cell 4, RB.cell 5, RB.cell 6, RB.cell 7, RB.cell 8⟩
    simp at q0 q1 q2 q3 q4 q5 q6 q7 q8
    obtain ⟨z0, z1, z2, z3, z4, z5, z6, z7, z8⟩ : _ ∧ _ ∧ _ ∧ _ ∧ _ ∧ _ ∧ _ ∧ _ ∧ _ := ⟨RB.free 0, RB.free 1, RB.free 2, RB.free 3, RB.free 4, RB.free 5, RB.free 6, RB.free 7, RB.free 8⟩
    have HD := hide (GivesA.mk (P := P) (i := i) (b := false) (N := t.wt + 3) (R := w.heap.size + 1) hq (by omega) LO3 (fun b hb => by rcases hb with (hb | hb) | hb; exact ⟨by omega, .inl hb.1⟩; exact ⟨by omega, .inr (by omega)⟩; exact ⟨by omega, .inr (by omega)⟩) R3 (by omega) (KW1.trans K3 fun x hx hb => by rcases hb with hb | hb; exact hb.1; omega))
    have HB := hide (put_box RB rfl t3 l3).nine
    go_wp2_with fail
    have E := putAt_zero w3 (w.heap.size + 1) t3 l3
    rw [← E]
    obtain ⟨r0, r1, r2, r3, r4, r5, r6, r7, r8⟩ := HB.out
    refine bodyPost_ret (v := .agg #[.int .i64 t3.kind, .string t3.name, .string t3.other, .int .i64 t3.n, .int .i64 t3.type.kind, .slice l3.ta l3.tn l3.tc, .int .i64 t3.res.kind, .slice l3.ra l3.rn l3.rc, .slice l3.aa l3.an l3.ac]) ?_ rfl HD.out
    simp [results, Tryz.results122, go_sem, r0, r1, r2, r3, r4, r5, r6, r7, r8]
  | false =>
    have LR1 := hrf rfl
    clear hrf hrt hX2 RB0 LR0 KW0 LO0
    go_upto_region 4 with fail
    go_cut [] (fun wx => ∃ bb : Bool, Rdr wx q s i bb ∧ (bb = false → b = false ∧ i < s.size) ∧ Blk wx (w.heap.size + 1 + 1 + 1) 29 #[.int .i64 t0.kind, .string t0.name, .string t0.other, .int .i64 t0.n, .int .i64 t0.type.kind, .slice l0.ta l0.tn l0.tc, .int .i64 t0.res.kind, .slice l0.ra l0.rn l0.rc, .slice l0.aa l0.an l0.ac] ∧ Blk wx (w.heap.size + 1) 29 #[.int .i64 0, .string ⟨#[]⟩, .string ⟨#[]⟩, .int .i64 0, .int .i64 0, .slice none 0 0, .int .i64 0, .slice none 0 0, .slice none 0 0] ∧ OwnP (fun b => (P b ∧ b < w.heap.size) ∨ b = w.heap.size + 1 + 1) wx t0 l0 ∧ Kept q P w wx)
    case first =>
      have HS : Hid (∀ W, Below w1.heap.size w1 W → (W.cell? ⟨q, 0, none⟩ = some (.string s) ∧ W.cell? ⟨q, 1, none⟩ = some (.int .i64 (i : Int)))) := hide fun W hW => ⟨(LR1.under hW).1.cell 0, (LR1.under hW).1.cell 1⟩
      have kc := below_drew w1
      have c2 := (LR1.under kc).1.cell 2
      have f2 := (LR1.under kc).1.free 2
      simp at c2
      have X2 := X1.under kc
      have RB2 := RB1.under kc
      have LR2 := LR1.under kc
      have LO2 := LO1.keep fun b hb hl => kc.block b hl
      have KW2 := KW1.next (Wrote.of_below kc)
      have fin : ∀ bb : Bool, Rdr (w1.drew.setCell ⟨q, 2, none⟩ (.bool bb)) q s i bb ∧ Blk (w1.drew.setCell ⟨q, 2, none⟩ (.bool bb)) (w.heap.size + 1 + 1 + 1) 29 #[.int .i64 t0.kind, .string t0.name, .string t0.other, .int .i64 t0.n, .int .i64 t0.type.kind, .slice l0.ta l0.tn l0.tc, .int .i64 t0.res.kind, .slice l0.ra l0.rn l0.rc, .slice l0.aa l0.an l0.ac] ∧ Blk (w1.drew.setCell ⟨q, 2, none⟩ (.bool bb)) (w.heap.size + 1) 29 #[.int .i64 0, .string ⟨#[]⟩, .string ⟨#[]⟩, .int .i64 0, .int .i64 0, .slice none 0 0, .int .i64 0, .slice none 0 0, .slice none 0 0] ∧ OwnP (fun b => (P b ∧ b < w.heap.size) ∨ b = w.heap.size + 1 + 1) (w1.drew.setCell ⟨q, 2, none⟩ (.bool bb)) t0 l0 ∧ Kept q P w (w1.drew.setCell ⟨q, 2, none⟩ (.bool bb)) := fun bb =>
        ⟨LR2.bad bb, X2.aside (p := ⟨q, 2, none⟩) (by simp; omega) _, RB2.aside (p := ⟨q, 2, none⟩) (by simp; omega) _, LO2.keep fun b hb hl => Below.heap_setCell _ ⟨q, 2, none⟩ _ b (fun e => by have e : b = q := e; subst e; exact hQq hb), KW2.next (Wrote.setCell (by simp) _)⟩
      have HF := hide fin
      have HX : Hid (∀ v : Value, (w1.drew.setCell ⟨q, 2, none⟩ v).cell? ⟨q, 0, none⟩ = some (.string s) ∧ (w1.drew.setCell ⟨q, 2, none⟩ v).cell? ⟨q, 1, none⟩ = some (.int .i64 (i : Int))) := hide fun v => ⟨(World.cell?_setCell_other _ _ _ _ (by simp)).trans (HS.out _ kc).1, (World.cell?_setCell_other _ _ _ _ (by simp)).trans (HS.out _ kc).2⟩
      clear fin X2 RB2 LR2 LO2 KW2 X1 RB1 KW1 LO1 s0 s1 s2 s3 s4 s5 s6 s7 s8
      cases b with
      | true =>
        refine wp_region_noPanic ?_
        refine wp_region_held_drew (S := (fun W => W.cell? ⟨q, 0, none⟩ = some (.string s) ∧ W.cell? ⟨q, 1, none⟩ = some (.int .i64 (i : Int)))) (by kernel_rfl) ?_ (fun hHeld => ?_)
        · (try dsimp only)
          exact HS.out _ kc
        refine takeW 0 (v := ?_) rfl (by kernel_rfl) (by kernel_rfl) (by kernel_rfl) (fun _ _ _ h => h) (by rfl) (by assumption) ?_ ?_
        rotate_left
        · intro w hSw
          (try dsimp only at hSw)
          go_simp
          (try with_reducible rfl)
        try simp only [Act.put, List.setIfInBounds_toArray, List.set_cons_zero, List.set_cons_succ]
        refine takeW 1 (v := ?_) rfl (by kernel_rfl) (by kernel_rfl) (by kernel_rfl) (fun _ _ _ h => h) (by rfl) (by assumption) ?_ ?_
        rotate_left
        · intro w hSw
          (try dsimp only at hSw)
          go_simp
          (try with_reducible rfl)
        try simp only [Act.put, List.setIfInBounds_toArray, List.set_cons_zero, List.set_cons_succ]
        refine takeW 2 (v := ?_) rfl (by kernel_rfl) (by kernel_rfl) (by kernel_rfl) (fun _ _ _ h => h) (by rfl) (by assumption) ?_ ?_
        rotate_left
        · intro w hSw
          (try dsimp only at hSw)
          go_simp
          (try with_reducible rfl)
        try simp only [Act.put, List.setIfInBounds_toArray, List.set_cons_zero, List.set_cons_succ]
        refine takeW 3 (v := ?_) rfl (by kernel_rfl) (by kernel_rfl) (by kernel_rfl) (fun _ _ _ h => h) (by rfl) (by assumption) ?_ ?_
        rotate_left
        · intro w hSw
          (try dsimp only at hSw)
          go_simp
          (try with_reducible rfl)
        try simp only [Act.put, List.setIfInBounds_toArray, List.set_cons_zero, List.set_cons_succ]
        refine goW 4 rfl (by kernel_rfl) (fun K hK => ?_)
        go_simp
        refine hK.out _ _ ?_ (fun hHeld => ?_)
        · (try dsimp only)
          exact HS.out _ kc
        clear hK K
        try simp only [Act.put, List.setIfInBounds_toArray, List.set_cons_zero, List.set_cons_succ]
        refine takeW 5 (v := ?_) rfl (by kernel_rfl) (by kernel_rfl) (by kernel_rfl) (fun _ _ _ h => h) (by rfl) (by assumption) ?_ ?_
        rotate_left
        · intro w hSw
          (try dsimp only at hSw)
          go_simp
          (try with_reducible rfl)
        try simp only [Act.put, List.setIfInBounds_toArray, List.set_cons_zero, List.set_cons_succ]
        refine skipW 6 rfl (by kernel_rfl) (by kernel_rfl) (by kernel_rfl) (fun _ _ _ h => h) (by rfl) (by assumption) ?_
        try simp only [Act.put, List.setIfInBounds_toArray, List.set_cons_zero, List.set_cons_succ]
        refine skipW 7 rfl (by kernel_rfl) (by kernel_rfl) (by kernel_rfl) (fun _ _ _ h => h) (by rfl) (by assumption) ?_
        try simp only [Act.put, List.setIfInBounds_toArray, List.set_cons_zero, List.set_cons_succ]
        refine skipW 8 rfl (by kernel_rfl) (by kernel_rfl) (by kernel_rfl) (fun _ _ _ h => h) (by rfl) (by assumption) ?_
        try simp only [Act.put, List.setIfInBounds_toArray, List.set_cons_zero, List.set_cons_succ]
        refine skipW 9 rfl (by kernel_rfl) (by kernel_rfl) (by kernel_rfl) (fun _ _ _ h => h) (by rfl) (by assumption) ?_
        try simp only [Act.put, List.setIfInBounds_toArray, List.set_cons_zero, List.set_cons_succ]
        refine skipW 10 rfl (by kernel_rfl) (by kernel_rfl) (by kernel_rfl) (fun _ _ _ h => h) (by rfl) (by assumption) ?_
        try simp only [Act.put, List.setIfInBounds_toArray, List.set_cons_zero, List.set_cons_succ]
        refine skipW 11 rfl (by kernel_rfl) (by kernel_rfl) (by kernel_rfl) (fun _ _ _ h => h) (by rfl) (by assumption) ?_
        try simp only [Act.put, List.setIfInBounds_toArray, List.set_cons_zero, List.set_cons_succ]
        refine skipW 12 rfl (by kernel_rfl) (by kernel_rfl) (by kernel_rfl) (fun _ _ _ h => h) (by rfl) (by assumption) ?_
        try simp only [Act.put, List.setIfInBounds_toArray, List.set_cons_zero, List.set_cons_succ]
        refine skipW 13 rfl (by kernel_rfl) (by kernel_rfl) (by kernel_rfl) (fun _ _ _ h => h) (by rfl) (by assumption) ?_
        try simp only [Act.put, List.setIfInBounds_toArray, List.set_cons_zero, List.set_cons_succ]
        refine skipW 14 rfl (by kernel_rfl) (by kernel_rfl) (by kernel_rfl) (fun _ _ _ h => h) (by rfl) (by assumption) ?_
        try simp only [Act.put, List.setIfInBounds_toArray, List.set_cons_zero, List.set_cons_succ]
        refine skipW 15 rfl (by kernel_rfl) (by kernel_rfl) (by kernel_rfl) (fun _ _ _ h => h) (by rfl) (by assumption) ?_
        try simp only [Act.put, List.setIfInBounds_toArray, List.set_cons_zero, List.set_cons_succ]
        refine takeW 16 (v := ?_) rfl (by kernel_rfl) (by kernel_rfl) (by kernel_rfl) (fun _ _ _ h => h) (by rfl) (by assumption) ?_ ?_
        rotate_left
        · intro w hSw
          (try dsimp only at hSw)
          go_simp
          (try with_reducible rfl)
        try simp only [Act.put, List.setIfInBounds_toArray, List.set_cons_zero, List.set_cons_succ]
        refine takeW 17 (v := ?_) rfl (by kernel_rfl) (by kernel_rfl) (by kernel_rfl) (fun _ _ _ h => h) (by rfl) (by assumption) ?_ ?_
        rotate_left
        · intro w hSw
          (try dsimp only at hSw)
          go_simp
          (try with_reducible rfl)
        try simp only [Act.put, List.setIfInBounds_toArray, List.set_cons_zero, List.set_cons_succ]
        refine takeW 18 (v := ?_) rfl (by kernel_rfl) (by kernel_rfl) (by kernel_rfl) (fun _ _ _ h => h) (by rfl) (by assumption) ?_ ?_
        rotate_left
        · intro w hSw
          (try dsimp only at hSw)
          go_simp
          (try with_reducible rfl)
        try simp only [Act.put, List.setIfInBounds_toArray, List.set_cons_zero, List.set_cons_succ]
        refine goW 19 rfl (by kernel_rfl) (fun K hK => ?_)
        go_simp
        refine hK.out _ _ ?_ (fun hHeld => ?_)
        · (try dsimp only)
          first | exact HX.out _ | exact HS.out _ kc
        clear hK K
        try simp only [Act.put, List.setIfInBounds_toArray, List.set_cons_zero, List.set_cons_succ]
        refine wpAnyH_done (by kernel_rfl) ?_ _
        refine NoPanic.normal ?_
        go_wp2_with fail
        go_meet
        exact ⟨true, (HF.out true).1, fun h => absurd h (by simp), (HF.out true).2⟩
      | false =>
        by_cases his : i < s.size
        · have his2 : ¬ (s.size : Int) ≤ (i : Int) := by omega
          refine wp_region_noPanic ?_
          refine wp_region_held_drew (S := (fun W => W.cell? ⟨q, 0, none⟩ = some (.string s) ∧ W.cell? ⟨q, 1, none⟩ = some (.int .i64 (i : Int)))) (by kernel_rfl) ?_ (fun hHeld => ?_)
          · (try dsimp only)
            exact HS.out _ kc
          refine takeW 0 (v := ?_) rfl (by kernel_rfl) (by kernel_rfl) (by kernel_rfl) (fun _ _ _ h => h) (by rfl) (by assumption) ?_ ?_
          rotate_left
          · intro w hSw
            (try dsimp only at hSw)
            go_simp
            (try with_reducible rfl)
          try simp only [Act.put, List.setIfInBounds_toArray, List.set_cons_zero, List.set_cons_succ]
          refine takeW 1 (v := ?_) rfl (by kernel_rfl) (by kernel_rfl) (by kernel_rfl) (fun _ _ _ h => h) (by rfl) (by assumption) ?_ ?_
          rotate_left
          · intro w hSw
            (try dsimp only at hSw)
            go_simp
            (try with_reducible rfl)
          try simp only [Act.put, List.setIfInBounds_toArray, List.set_cons_zero, List.set_cons_succ]
          refine takeW 2 (v := ?_) rfl (by kernel_rfl) (by kernel_rfl) (by kernel_rfl) (fun _ _ _ h => h) (by rfl) (by assumption) ?_ ?_
          rotate_left
          · intro w hSw
            (try dsimp only at hSw)
            go_simp
            (try with_reducible rfl)
          try simp only [Act.put, List.setIfInBounds_toArray, List.set_cons_zero, List.set_cons_succ]
          refine takeW 3 (v := ?_) rfl (by kernel_rfl) (by kernel_rfl) (by kernel_rfl) (fun _ _ _ h => h) (by rfl) (by assumption) ?_ ?_
          rotate_left
          · intro w hSw
            (try dsimp only at hSw)
            go_simp
            (try with_reducible rfl)
          try simp only [Act.put, List.setIfInBounds_toArray, List.set_cons_zero, List.set_cons_succ]
          refine goW 4 rfl (by kernel_rfl) (fun K hK => ?_)
          go_simp
          refine hK.out _ _ ?_ (fun hHeld => ?_)
          · (try dsimp only)
            exact HS.out _ kc
          clear hK K
          try simp only [Act.put, List.setIfInBounds_toArray, List.set_cons_zero, List.set_cons_succ]
          refine takeW 5 (v := ?_) rfl (by kernel_rfl) (by kernel_rfl) (by kernel_rfl) (fun _ _ _ h => h) (by rfl) (by assumption) ?_ ?_
          rotate_left
          · intro w hSw
            (try dsimp only at hSw)
            go_simp
            (try with_reducible rfl)
          try simp only [Act.put, List.setIfInBounds_toArray, List.set_cons_zero, List.set_cons_succ]
          refine takeW 6 (v := ?_) rfl (by kernel_rfl) (by kernel_rfl) (by kernel_rfl) (fun _ _ _ h => h) (by rfl) (by assumption) ?_ ?_
          rotate_left
          · intro w hSw
            (try dsimp only at hSw)
            go_simp
            (try with_reducible rfl)
          try simp only [Act.put, List.setIfInBounds_toArray, List.set_cons_zero, List.set_cons_succ]
          refine takeW 7 (v := ?_) rfl (by kernel_rfl) (by kernel_rfl) (by kernel_rfl) (fun _ _ _ h => h) (by rfl) (by assumption) ?_ ?_
          rotate_left
          · intro w hSw
            (try dsimp only at hSw)
            go_simp
            (try with_reducible rfl)
          try simp only [Act.put, List.setIfInBounds_toArray, List.set_cons_zero, List.set_cons_succ]
          refine takeW 8 (v := ?_) rfl (by kernel_rfl) (by kernel_rfl) (by kernel_rfl) (fun _ _ _ h => h) (by rfl) (by assumption) ?_ ?_
          rotate_left
          · intro w hSw
            (try dsimp only at hSw)
            go_simp
            (try with_reducible rfl)
          try simp only [Act.put, List.setIfInBounds_toArray, List.set_cons_zero, List.set_cons_succ]
          refine takeW 9 (v := ?_) rfl (by kernel_rfl) (by kernel_rfl) (by kernel_rfl) (fun _ _ _ h => h) (by rfl) (by assumption) ?_ ?_
          rotate_left
          · intro w hSw
            (try dsimp only at hSw)
            go_simp
            (try with_reducible rfl)
          try simp only [Act.put, List.setIfInBounds_toArray, List.set_cons_zero, List.set_cons_succ]
          refine takeW 10 (v := ?_) rfl (by kernel_rfl) (by kernel_rfl) (by kernel_rfl) (fun _ _ _ h => h) (by rfl) (by assumption) ?_ ?_
          rotate_left
          · intro w hSw
            (try dsimp only at hSw)
            go_simp
            (try with_reducible rfl)
          try simp only [Act.put, List.setIfInBounds_toArray, List.set_cons_zero, List.set_cons_succ]
          refine takeW 11 (v := ?_) rfl (by kernel_rfl) (by kernel_rfl) (by kernel_rfl) (fun _ _ _ h => h) (by rfl) (by assumption) ?_ ?_
          rotate_left
          · intro w hSw
            (try dsimp only at hSw)
            go_simp
            (try with_reducible rfl)
          try simp only [Act.put, List.setIfInBounds_toArray, List.set_cons_zero, List.set_cons_succ]
          refine takeW 12 (v := ?_) rfl (by kernel_rfl) (by kernel_rfl) (by kernel_rfl) (fun _ _ _ h => h) (by rfl) (by assumption) ?_ ?_
          rotate_left
          · intro w hSw
            (try dsimp only at hSw)
            go_simp
            (try with_reducible rfl)
          try simp only [Act.put, List.setIfInBounds_toArray, List.set_cons_zero, List.set_cons_succ]
          refine takeW 13 (v := ?_) rfl (by kernel_rfl) (by kernel_rfl) (by kernel_rfl) (fun _ _ _ h => h) (by rfl) (by assumption) ?_ ?_
          rotate_left
          · intro w hSw
            (try dsimp only at hSw)
            go_simp
            (try with_reducible rfl)
          try simp only [Act.put, List.setIfInBounds_toArray, List.set_cons_zero, List.set_cons_succ]
          refine takeW 14 (v := ?_) rfl (by kernel_rfl) (by kernel_rfl) (by kernel_rfl) (fun _ _ _ h => h) (by rfl) (by assumption) ?_ ?_
          rotate_left
          · intro w hSw
            (try dsimp only at hSw)
            go_simp
            (try with_reducible rfl)
          try simp only [Act.put, List.setIfInBounds_toArray, List.set_cons_zero, List.set_cons_succ]
          refine takeW 15 (v := ?_) rfl (by kernel_rfl) (by kernel_rfl) (by kernel_rfl) (fun _ _ _ h => h) (by rfl) (by assumption) ?_ ?_
          rotate_left
          · intro w hSw
            (try dsimp only at hSw)
            go_simp
            (try with_reducible rfl)
          try simp only [Act.put, List.setIfInBounds_toArray, List.set_cons_zero, List.set_cons_succ]
          refine takeW 16 (v := ?_) rfl (by kernel_rfl) (by kernel_rfl) (by kernel_rfl) (fun _ _ _ h => h) (by rfl) (by assumption) ?_ ?_
          rotate_left
          · intro w hSw
            (try dsimp only at hSw)
            go_simp
            (try with_reducible rfl)
          try simp only [Act.put, List.setIfInBounds_toArray, List.set_cons_zero, List.set_cons_succ]
          refine takeW 17 (v := ?_) rfl (by kernel_rfl) (by kernel_rfl) (by kernel_rfl) (fun _ _ _ h => h) (by rfl) (by assumption) ?_ ?_
          rotate_left
          · intro w hSw
            (try dsimp only at hSw)
            go_simp
            (try with_reducible rfl)
          try simp only [Act.put, List.setIfInBounds_toArray, List.set_cons_zero, List.set_cons_succ]
          refine takeW 18 (v := ?_) rfl (by kernel_rfl) (by kernel_rfl) (by kernel_rfl) (fun _ _ _ h => h) (by rfl) (by assumption) ?_ ?_
          rotate_left
          · intro w hSw
            (try dsimp only at hSw)
            go_simp
            (try with_reducible rfl)
          try simp only [Act.put, List.setIfInBounds_toArray, List.set_cons_zero, List.set_cons_succ]
          refine goW 19 rfl (by kernel_rfl) (fun K hK => ?_)
          go_simp
          refine hK.out _ _ ?_ (fun hHeld => ?_)
          · (try dsimp only)
            first | exact HX.out _ | exact HS.out _ kc
          clear hK K
          try simp only [Act.put, List.setIfInBounds_toArray, List.set_cons_zero, List.set_cons_succ]
          refine wpAnyH_done (by kernel_rfl) ?_ _
          refine NoPanic.normal ?_
          go_wp2_with fail
          go_meet
          exact ⟨false, (HF.out false).1, fun _ => ⟨by trivial, his⟩, (HF.out false).2⟩
        · have his2 : (s.size : Int) ≤ (i : Int) := by omega
          refine wp_region_noPanic ?_
          refine wp_region_held_drew (S := (fun W => W.cell? ⟨q, 0, none⟩ = some (.string s) ∧ W.cell? ⟨q, 1, none⟩ = some (.int .i64 (i : Int)))) (by kernel_rfl) ?_ (fun hHeld => ?_)
          · (try dsimp only)
            exact HS.out _ kc
          refine takeW 0 (v := ?_) rfl (by kernel_rfl) (by kernel_rfl) (by kernel_rfl) (fun _ _ _ h => h) (by rfl) (by assumption) ?_ ?_
          rotate_left
          · intro w hSw
            (try dsimp only at hSw)
            go_simp
            (try with_reducible rfl)
          try simp only [Act.put, List.setIfInBounds_toArray, List.set_cons_zero, List.set_cons_succ]
          refine takeW 1 (v := ?_) rfl (by kernel_rfl) (by kernel_rfl) (by kernel_rfl) (fun _ _ _ h => h) (by rfl) (by assumption) ?_ ?_
          rotate_left
          · intro w hSw
            (try dsimp only at hSw)
            go_simp
            (try with_reducible rfl)
          try simp only [Act.put, List.setIfInBounds_toArray, List.set_cons_zero, List.set_cons_succ]
          refine takeW 2 (v := ?_) rfl (by kernel_rfl) (by kernel_rfl) (by kernel_rfl) (fun _ _ _ h => h) (by rfl) (by assumption) ?_ ?_
          rotate_left
          · intro w hSw
            (try dsimp only at hSw)
            go_simp
            (try with_reducible rfl)
          try simp only [Act.put, List.setIfInBounds_toArray, List.set_cons_zero, List.set_cons_succ]
          refine takeW 3 (v := ?_) rfl (by kernel_rfl) (by kernel_rfl) (by kernel_rfl) (fun _ _ _ h => h) (by rfl) (by assumption) ?_ ?_
          rotate_left
          · intro w hSw
            (try dsimp only at hSw)
            go_simp
            (try with_reducible rfl)
          try simp only [Act.put, List.setIfInBounds_toArray, List.set_cons_zero, List.set_cons_succ]
          refine goW 4 rfl (by kernel_rfl) (fun K hK => ?_)
          go_simp
          refine hK.out _ _ ?_ (fun hHeld => ?_)
          · (try dsimp only)
            exact HS.out _ kc
          clear hK K
          try simp only [Act.put, List.setIfInBounds_toArray, List.set_cons_zero, List.set_cons_succ]
          refine takeW 5 (v := ?_) rfl (by kernel_rfl) (by kernel_rfl) (by kernel_rfl) (fun _ _ _ h => h) (by rfl) (by assumption) ?_ ?_
          rotate_left
          · intro w hSw
            (try dsimp only at hSw)
            go_simp
            (try with_reducible rfl)
          try simp only [Act.put, List.setIfInBounds_toArray, List.set_cons_zero, List.set_cons_succ]
          refine takeW 6 (v := ?_) rfl (by kernel_rfl) (by kernel_rfl) (by kernel_rfl) (fun _ _ _ h => h) (by rfl) (by assumption) ?_ ?_
          rotate_left
          · intro w hSw
            (try dsimp only at hSw)
            go_simp
            (try with_reducible rfl)
          try simp only [Act.put, List.setIfInBounds_toArray, List.set_cons_zero, List.set_cons_succ]
          refine takeW 7 (v := ?_) rfl (by kernel_rfl) (by kernel_rfl) (by kernel_rfl) (fun _ _ _ h => h) (by rfl) (by assumption) ?_ ?_
          rotate_left
          · intro w hSw
            (try dsimp only at hSw)
            go_simp
            (try with_reducible rfl)
          try simp only [Act.put, List.setIfInBounds_toArray, List.set_cons_zero, List.set_cons_succ]
          refine takeW 8 (v := ?_) rfl (by kernel_rfl) (by kernel_rfl) (by kernel_rfl) (fun _ _ _ h => h) (by rfl) (by assumption) ?_ ?_
          rotate_left
          · intro w hSw
            (try dsimp only at hSw)
            go_simp
            (try with_reducible rfl)
          try simp only [Act.put, List.setIfInBounds_toArray, List.set_cons_zero, List.set_cons_succ]
          refine takeW 9 (v := ?_) rfl (by kernel_rfl) (by kernel_rfl) (by kernel_rfl) (fun _ _ _ h => h) (by rfl) (by assumption) ?_ ?_
          rotate_left
          · intro w hSw
            (try dsimp only at hSw)
            go_simp
            (try with_reducible rfl)
          try simp only [Act.put, List.setIfInBounds_toArray, List.set_cons_zero, List.set_cons_succ]
          refine takeW 10 (v := ?_) rfl (by kernel_rfl) (by kernel_rfl) (by kernel_rfl) (fun _ _ _ h => h) (by rfl) (by assumption) ?_ ?_
          rotate_left
          · intro w hSw
            (try dsimp only at hSw)
            go_simp
            (try with_reducible rfl)
          try simp only [Act.put, List.setIfInBounds_toArray, List.set_cons_zero, List.set_cons_succ]
          refine takeW 11 (v := ?_) rfl (by kernel_rfl) (by kernel_rfl) (by kernel_rfl) (fun _ _ _ h => h) (by rfl) (by assumption) ?_ ?_
          rotate_left
          · intro w hSw
            (try dsimp only at hSw)
            go_simp
            (try with_reducible rfl)
          try simp only [Act.put, List.setIfInBounds_toArray, List.set_cons_zero, List.set_cons_succ]
          refine takeW 12 (v := ?_) rfl (by kernel_rfl) (by kernel_rfl) (by kernel_rfl) (fun _ _ _ h => h) (by rfl) (by assumption) ?_ ?_
          rotate_left
          · intro w hSw
            (try dsimp only at hSw)
            go_simp
            (try with_reducible rfl)
          try simp only [Act.put, List.setIfInBounds_toArray, List.set_cons_zero, List.set_cons_succ]
          refine takeW 13 (v := ?_) rfl (by kernel_rfl) (by kernel_rfl) (by kernel_rfl) (fun _ _ _ h => h) (by rfl) (by assumption) ?_ ?_
          rotate_left
          · intro w hSw
            (try dsimp only at hSw)
            go_simp
            (try with_reducible rfl)
          try simp only [Act.put, List.setIfInBounds_toArray, List.set_cons_zero, List.set_cons_succ]
          refine takeW 14 (v := ?_) rfl (by kernel_rfl) (by kernel_rfl) (by kernel_rfl) (fun _ _ _ h => h) (by rfl) (by assumption) ?_ ?_
          rotate_left
          · intro w hSw
            (try dsimp only at hSw)
            go_simp
            (try with_reducible rfl)
          try simp only [Act.put, List.setIfInBounds_toArray, List.set_cons_zero, List.set_cons_succ]
          refine takeW 15 (v := ?_) rfl (by kernel_rfl) (by kernel_rfl) (by kernel_rfl) (fun _ _ _ h => h) (by rfl) (by assumption) ?_ ?_
          rotate_left
          · intro w hSw
            (try dsimp only at hSw)
            go_simp
            (try with_reducible rfl)
          try simp only [Act.put, List.setIfInBounds_toArray, List.set_cons_zero, List.set_cons_succ]
          refine takeW 16 (v := ?_) rfl (by kernel_rfl) (by kernel_rfl) (by kernel_rfl) (fun _ _ _ h => h) (by rfl) (by assumption) ?_ ?_
          rotate_left
          · intro w hSw
            (try dsimp only at hSw)
            go_simp
            (try with_reducible rfl)
          try simp only [Act.put, List.setIfInBounds_toArray, List.set_cons_zero, List.set_cons_succ]
          refine takeW 17 (v := ?_) rfl (by kernel_rfl) (by kernel_rfl) (by kernel_rfl) (fun _ _ _ h => h) (by rfl) (by assumption) ?_ ?_
          rotate_left
          · intro w hSw
            (try dsimp only at hSw)
            go_simp
            (try with_reducible rfl)
          try simp only [Act.put, List.setIfInBounds_toArray, List.set_cons_zero, List.set_cons_succ]
          refine takeW 18 (v := ?_) rfl (by kernel_rfl) (by kernel_rfl) (by kernel_rfl) (fun _ _ _ h => h) (by rfl) (by assumption) ?_ ?_
          rotate_left
          · intro w hSw
            (try dsimp only at hSw)
            go_simp
            (try with_reducible rfl)
          try simp only [Act.put, List.setIfInBounds_toArray, List.set_cons_zero, List.set_cons_succ]
          refine goW 19 rfl (by kernel_rfl) (fun K hK => ?_)
          go_simp
          refine hK.out _ _ ?_ (fun hHeld => ?_)
          · (try dsimp only)
            first | exact HX.out _ | exact HS.out _ kc
          clear hK K
          try simp only [Act.put, List.setIfInBounds_toArray, List.set_cons_zero, List.set_cons_succ]
          refine wpAnyH_done (by kernel_rfl) ?_ _
          refine NoPanic.normal ?_
          go_wp2_with fail
          go_meet
          exact ⟨true, (HF.out true).1, fun h => absurd h (by simp), (HF.out true).2⟩
    case rest =>
    clear X1 RB1 KW1 LO1 LR1 s0 s1 s2 s3 s4 s5 s6 s7 s8
    obtain ⟨bb, LR3, hbb, X3, RB3, LO3, KW3⟩ := hcut
    go_upto_region 5 with fail
    have hl3 := LR3.lt
    have kc := below_drew wc
    have HS5 : Hid (∀ W, Below wc.heap.size wc W → (W.cell? ⟨q, 0, none⟩ = some (.string s) ∧ W.cell? ⟨q, 1, none⟩ = some (.int .i64 (i : Int)) ∧ W.cell? ⟨q, 2, none⟩ = some (.bool bb))) := hide fun W hW => ⟨(LR3.under hW).1.cell 0, (LR3.under hW).1.cell 1, (LR3.under hW).1.cell 2⟩
    cases bb with
    | true =>
      clear hbb
      refine wp_region_noPanic ?_
      refine wp_region_held_drew (S := (fun W => W.cell? ⟨q, 0, none⟩ = some (.string s) ∧ W.cell? ⟨q, 1, none⟩ = some (.int .i64 (i : Int)) ∧ W.cell? ⟨q, 2, none⟩ = some (.bool true))) (by kernel_rfl) ?_ (fun hHeld => ?_)
      · (try dsimp only)
        exact HS5.out _ kc
      refine takeW 0 (v := ?_) rfl (by kernel_rfl) (by kernel_rfl) (by kernel_rfl) (fun _ _ _ h => h) (by rfl) (by assumption) ?_ ?_
      rotate_left
      · intro w hSw
        (try dsimp only at hSw)
        go_simp
        (try with_reducible rfl)
      try simp only [Act.put, List.setIfInBounds_toArray, List.set_cons_zero, List.set_cons_succ]
      refine takeW 1 (v := ?_) rfl (by kernel_rfl) (by kernel_rfl) (by kernel_rfl) (fun _ _ _ h => h) (by rfl) (by assumption) ?_ ?_
      rotate_left
      · intro w hSw
        (try dsimp only at hSw)
        go_simp
        (try with_reducible rfl)
      try simp only [Act.put, List.setIfInBounds_toArray, List.set_cons_zero, List.set_cons_succ]
      refine takeW 2 (v := ?_) rfl (by kernel_rfl) (by kernel_rfl) (by kernel_rfl) (fun _ _ _ h => h) (by rfl) (by assumption) ?_ ?_
      rotate_left
      · intro w hSw
        (try dsimp only at hSw)
        go_simp
        (try with_reducible rfl)
      try simp only [Act.put, List.setIfInBounds_toArray, List.set_cons_zero, List.set_cons_succ]
      refine takeW 3 (v := ?_) rfl (by kernel_rfl) (by kernel_rfl) (by kernel_rfl) (fun _ _ _ h => h) (by rfl) (by assumption) ?_ ?_
      rotate_left
      · intro w hSw
        (try dsimp only at hSw)
        go_simp
        (try with_reducible rfl)
      try simp only [Act.put, List.setIfInBounds_toArray, List.set_cons_zero, List.set_cons_succ]
      refine takeW 4 (v := ?_) rfl (by kernel_rfl) (by kernel_rfl) (by kernel_rfl) (fun _ _ _ h => h) (by rfl) (by assumption) ?_ ?_
      rotate_left
      · intro w hSw
        (try dsimp only at hSw)
        go_simp
        (try with_reducible rfl)
      try simp only [Act.put, List.setIfInBounds_toArray, List.set_cons_zero, List.set_cons_succ]
      refine skipW 5 rfl (by kernel_rfl) (by kernel_rfl) (by kernel_rfl) (fun _ _ _ h => h) (by rfl) (by assumption) ?_
      try simp only [Act.put, List.setIfInBounds_toArray, List.set_cons_zero, List.set_cons_succ]
      refine skipW 6 rfl (by kernel_rfl) (by kernel_rfl) (by kernel_rfl) (fun _ _ _ h => h) (by rfl) (by assumption) ?_
      try simp only [Act.put, List.setIfInBounds_toArray, List.set_cons_zero, List.set_cons_succ]
      refine skipW 7 rfl (by kernel_rfl) (by kernel_rfl) (by kernel_rfl) (fun _ _ _ h => h) (by rfl) (by assumption) ?_
      try simp only [Act.put, List.setIfInBounds_toArray, List.set_cons_zero, List.set_cons_succ]
      refine skipW 8 rfl (by kernel_rfl) (by kernel_rfl) (by kernel_rfl) (fun _ _ _ h => h) (by rfl) (by assumption) ?_
      try simp only [Act.put, List.setIfInBounds_toArray, List.set_cons_zero, List.set_cons_succ]
      refine skipW 9 rfl (by kernel_rfl) (by kernel_rfl) (by kernel_rfl) (fun _ _ _ h => h) (by rfl) (by assumption) ?_
      try simp only [Act.put, List.setIfInBounds_toArray, List.set_cons_zero, List.set_cons_succ]
      refine skipW 10 rfl (by kernel_rfl) (by kernel_rfl) (by kernel_rfl) (fun _ _ _ h => h) (by rfl) (by assumption) ?_
      try simp only [Act.put, List.setIfInBounds_toArray, List.set_cons_zero, List.set_cons_succ]
      refine skipW 11 rfl (by kernel_rfl) (by kernel_rfl) (by kernel_rfl) (fun _ _ _ h => h) (by rfl) (by assumption) ?_
      try simp only [Act.put, List.setIfInBounds_toArray, List.set_cons_zero, List.set_cons_succ]
      refine skipW 12 rfl (by kernel_rfl) (by kernel_rfl) (by kernel_rfl) (fun _ _ _ h => h) (by rfl) (by assumption) ?_
      try simp only [Act.put, List.setIfInBounds_toArray, List.set_cons_zero, List.set_cons_succ]
      refine skipW 13 rfl (by kernel_rfl) (by kernel_rfl) (by kernel_rfl) (fun _ _ _ h => h) (by rfl) (by assumption) ?_
      try simp only [Act.put, List.setIfInBounds_toArray, List.set_cons_zero, List.set_cons_succ]
      refine skipW 14 rfl (by kernel_rfl) (by kernel_rfl) (by kernel_rfl) (fun _ _ _ h => h) (by rfl) (by assumption) ?_
      try simp only [Act.put, List.setIfInBounds_toArray, List.set_cons_zero, List.set_cons_succ]
      refine skipW 15 rfl (by kernel_rfl) (by kernel_rfl) (by kernel_rfl) (fun _ _ _ h => h) (by rfl) (by assumption) ?_
      try simp only [Act.put, List.setIfInBounds_toArray, List.set_cons_zero, List.set_cons_succ]
      refine skipW 16 rfl (by kernel_rfl) (by kernel_rfl) (by kernel_rfl) (fun _ _ _ h => h) (by rfl) (by assumption) ?_
      try simp only [Act.put, List.setIfInBounds_toArray, List.set_cons_zero, List.set_cons_succ]
      refine skipW 17 rfl (by kernel_rfl) (by kernel_rfl) (by kernel_rfl) (fun _ _ _ h => h) (by rfl) (by assumption) ?_
      try simp only [Act.put, List.setIfInBounds_toArray, List.set_cons_zero, List.set_cons_succ]
      refine skipW 18 rfl (by kernel_rfl) (by kernel_rfl) (by kernel_rfl) (fun _ _ _ h => h) (by rfl) (by assumption) ?_
      try simp only [Act.put, List.setIfInBounds_toArray, List.set_cons_zero, List.set_cons_succ]
      refine goW 19 rfl (by kernel_rfl) (fun K hK => ?_)
      go_simp
      refine hK.out _ _ ?_ (fun hHeld => ?_)
      · (try dsimp only)
        exact HS5.out _ kc
      clear hK K
      try simp only [Act.put, List.setIfInBounds_toArray, List.set_cons_zero, List.set_cons_succ]
      refine skipW 20 rfl (by kernel_rfl) (by kernel_rfl) (by kernel_rfl) (fun _ _ _ h => h) (by rfl) (by assumption) ?_
      try simp only [Act.put, List.setIfInBounds_toArray, List.set_cons_zero, List.set_cons_succ]
      refine takeW 21 (v := ?_) rfl (by kernel_rfl) (by kernel_rfl) (by kernel_rfl) (fun _ _ _ h => h) (by rfl) (by assumption) ?_ ?_
      rotate_left
      · intro w hSw
        (try dsimp only at hSw)
        go_simp
        (try with_reducible rfl)
      try simp only [Act.put, List.setIfInBounds_toArray, List.set_cons_zero, List.set_cons_succ]
      refine wpAnyH_done (by kernel_rfl) ?_ _
      refine NoPanic.normal ?_
      go_upto_region 6 with fail
      have f2 := LR3.1.free 2
      have c2 := LR3.1.cell 2
      simp at c2
      go_upto_region 7 with fail
      have kb := below_drew (wc.setCell ⟨q, 2, none⟩ (.bool true))
      have X4 := (X3.aside (p := ⟨q, 2, none⟩) (by simp; omega) (.bool true)).under kb
      have RB4 := (RB3.aside (p := ⟨q, 2, none⟩) (by simp; omega) (.bool true)).under kb
      have LR4 := (LR3.bad true).under kb
      have LO4 := (LO3.keep (w' := wc.setCell ⟨q, 2, none⟩ (.bool true)) fun b hb hl => Below.heap_setCell _ ⟨q, 2, none⟩ _ b (fun e => by have e : b = q := e; subst e; exact hQq hb)).keep (w' := (wc.setCell ⟨q, 2, none⟩ (.bool true)).drew) fun b hb hl => kb.block b hl
      have KW4 := (KW3.next (Wrote.setCell (fp := [q]) (p := ⟨q, 2, none⟩) (by simp) (.bool true))).next (Wrote.of_below kb)
      generalize (wc.setCell ⟨q, 2, none⟩ (.bool true)).drew = w4 at X4 RB4 LR4 LO4 KW4 ⊢
      clear c2 f2 kc
      obtain ⟨s0, s1, s2, s3, s4, s5, s6, s7, s8⟩ := X4.nine
      have RB := RB4
      obtain ⟨q0, q1, q2, q3, q4, q5, q6, q7, q8⟩ : _ ∧ _ ∧ _ ∧ _ ∧ _ ∧ _ ∧ _ ∧ _ ∧ _ := ⟨RB.cell 0, RB.cell 1, RB.cell 2, RB.cell 3, RB.cell 4, RB.cell 5, RB.cell 6, RB.cell 7, RB.cell 8⟩
      simp at q0 q1 q2 q3 q4 q5 q6 q7 q8
      obtain ⟨z0, z1, z2, z3, z4, z5, z6, z7, z8⟩ : _ ∧ _ ∧ _ ∧ _ ∧ _ ∧ _ ∧ _ ∧ _ ∧ _ := ⟨RB.free 0, RB.free 1, RB.free 2, RB.free 3, RB.free 4, RB.free 5, RB.free 6, RB.free 7, RB.free 8⟩
      have HD := hide (GivesA.mk (P := P) (i := i) (b := b) (N := t.wt + 3) (R := w.heap.size + 1) hq (by omega) LO4 (fun b hb => by rcases hb with hb | hb; exact ⟨by omega, .inl hb.1⟩; exact ⟨by omega, .inr (by omega)⟩) LR4 (by rw [phi_bad]; omega) KW4)
      have HB := hide (put_box RB rfl t0 l0).nine
      go_wp2_with fail
      have E := putAt_zero w4 (w.heap.size + 1) t0 l0
      rw [← E]
      obtain ⟨r0, r1, r2, r3, r4, r5, r6, r7, r8⟩ := HB.out
      refine bodyPost_ret (v := .agg #[.int .i64 t0.kind, .string t0.name, .string t0.other, .int .i64 t0.n, .int .i64 t0.type.kind, .slice l0.ta l0.tn l0.tc, .int .i64 t0.res.kind, .slice l0.ra l0.rn l0.rc, .slice l0.aa l0.an l0.ac]) ?_ rfl HD.out
      simp [results, Tryz.results122, go_sem, r0, r1, r2, r3, r4, r5, r6, r7, r8]
    | false =>
      obtain ⟨rfl, his⟩ := hbb rfl
      clear hbb
      obtain ⟨e, he⟩ : ∃ e, e = i + 1 := ⟨_, rfl⟩
      have hwr : IntKind.i64.wrap ((i : Int) + 1) = (e : Int) := (IntWalk.i64_in _ (by have := LR3.2.2; omega)).trans (by omega)
      have he1 : (e : Int) ≤ (s.size : Int) := by omega
      have he2 : (i : Int) ≤ (e : Int) := by omega
      have he3 : e ≤ s.size := by omega
      have he4 : i ≤ e := by omega
      have hef := hide he
      clear he
      have CE := hide (specOpArity_any (s.extract i e))
      generalize opArity (s.extract i e) = z at CE
      by_cases hz : z = 2
      · subst hz
        refine wp_region_noPanic ?_
        refine wp_region_held_drew (S := (fun W => W.cell? ⟨q, 0, none⟩ = some (.string s) ∧ W.cell? ⟨q, 1, none⟩ = some (.int .i64 (i : Int)) ∧ W.cell? ⟨q, 2, none⟩ = some (.bool false))) (by kernel_rfl) ?_ (fun hHeld => ?_)
        · (try dsimp only)
          exact HS5.out _ kc
        refine takeW 0 (v := ?_) rfl (by kernel_rfl) (by kernel_rfl) (by kernel_rfl) (fun _ _ _ h => h) (by rfl) (by assumption) ?_ ?_
        rotate_left
        · intro w hSw
          (try dsimp only at hSw)
          go_simp
          (try with_reducible rfl)
        try simp only [Act.put, List.setIfInBounds_toArray, List.set_cons_zero, List.set_cons_succ]
        refine takeW 1 (v := ?_) rfl (by kernel_rfl) (by kernel_rfl) (by kernel_rfl) (fun _ _ _ h => h) (by rfl) (by assumption) ?_ ?_
        rotate_left
        · intro w hSw
          (try dsimp only at hSw)
          go_simp
          (try with_reducible rfl)
        try simp only [Act.put, List.setIfInBounds_toArray, List.set_cons_zero, List.set_cons_succ]
        refine takeW 2 (v := ?_) rfl (by kernel_rfl) (by kernel_rfl) (by kernel_rfl) (fun _ _ _ h => h) (by rfl) (by assumption) ?_ ?_
        rotate_left
        · intro w hSw
          (try dsimp only at hSw)
          go_simp
          (try with_reducible rfl)
        try simp only [Act.put, List.setIfInBounds_toArray, List.set_cons_zero, List.set_cons_succ]
        refine takeW 3 (v := ?_) rfl (by kernel_rfl) (by kernel_rfl) (by kernel_rfl) (fun _ _ _ h => h) (by rfl) (by assumption) ?_ ?_
        rotate_left
        · intro w hSw
          (try dsimp only at hSw)
          go_simp
          (try with_reducible rfl)
        try simp only [Act.put, List.setIfInBounds_toArray, List.set_cons_zero, List.set_cons_succ]
        refine takeW 4 (v := ?_) rfl (by kernel_rfl) (by kernel_rfl) (by kernel_rfl) (fun _ _ _ h => h) (by rfl) (by assumption) ?_ ?_
        rotate_left
        · intro w hSw
          (try dsimp only at hSw)
          go_simp
          (try with_reducible rfl)
        try simp only [Act.put, List.setIfInBounds_toArray, List.set_cons_zero, List.set_cons_succ]
        refine takeW 5 (v := ?_) rfl (by kernel_rfl) (by kernel_rfl) (by kernel_rfl) (fun _ _ _ h => h) (by rfl) (by assumption) ?_ ?_
        rotate_left
        · intro w hSw
          (try dsimp only at hSw)
          go_simp
          (try with_reducible rfl)
        try simp only [Act.put, List.setIfInBounds_toArray, List.set_cons_zero, List.set_cons_succ]
        refine takeW 6 (v := ?_) rfl (by kernel_rfl) (by kernel_rfl) (by kernel_rfl) (fun _ _ _ h => h) (by rfl) (by assumption) ?_ ?_
        rotate_left
        · intro w hSw
          (try dsimp only at hSw)
          go_simp
          (try with_reducible rfl)
        try simp only [Act.put, List.setIfInBounds_toArray, List.set_cons_zero, List.set_cons_succ]
        refine takeW 7 (v := ?_) rfl (by kernel_rfl) (by kernel_rfl) (by kernel_rfl) (fun _ _ _ h => h) (by rfl) (by assumption) ?_ ?_
        rotate_left
        · intro w hSw
          (try dsimp only at hSw)
          go_simp
          (try with_reducible rfl)
        try simp only [Act.put, List.setIfInBounds_toArray, List.set_cons_zero, List.set_cons_succ]
        refine takeW 8 (v := ?_) rfl (by kernel_rfl) (by kernel_rfl) (by kernel_rfl) (fun _ _ _ h => h) (by rfl) (by assumption) ?_ ?_
        rotate_left
        · intro w hSw
          (try dsimp only at hSw)
          go_simp
          (try with_reducible rfl)
        try simp only [Act.put, List.setIfInBounds_toArray, List.set_cons_zero, List.set_cons_succ]
        refine takeW 9 (v := ?_) rfl (by kernel_rfl) (by kernel_rfl) (by kernel_rfl) (fun _ _ _ h => h) (by rfl) (by assumption) ?_ ?_
        rotate_left
        · intro w hSw
          (try dsimp only at hSw)
          go_simp
          (try with_reducible rfl)
        try simp only [Act.put, List.setIfInBounds_toArray, List.set_cons_zero, List.set_cons_succ]
        refine takeW 10 (v := ?_) rfl (by kernel_rfl) (by kernel_rfl) (by kernel_rfl) (fun _ _ _ h => h) (by rfl) (by assumption) ?_ ?_
        rotate_left
        · intro w hSw
          (try dsimp only at hSw)
          go_simp
          (try with_reducible rfl)
        try simp only [Act.put, List.setIfInBounds_toArray, List.set_cons_zero, List.set_cons_succ]
        refine takeW 11 (v := ?_) rfl (by kernel_rfl) (by kernel_rfl) (by kernel_rfl) (fun _ _ _ h => h) (by rfl) (by assumption) ?_ ?_
        rotate_left
        · intro w hSw
          (try dsimp only at hSw)
          go_simp
          (try with_reducible rfl)
        try simp only [Act.put, List.setIfInBounds_toArray, List.set_cons_zero, List.set_cons_succ]
        refine takeW 12 (v := ?_) rfl (by kernel_rfl) (by kernel_rfl) (by kernel_rfl) (fun _ _ _ h => h) (by rfl) (by assumption) ?_ ?_
        rotate_left
        · intro w hSw
          (try dsimp only at hSw)
          go_simp
          (try with_reducible rfl)
        try simp only [Act.put, List.setIfInBounds_toArray, List.set_cons_zero, List.set_cons_succ]
        refine takeW 13 (v := ?_) rfl (by kernel_rfl) (by kernel_rfl) (by kernel_rfl) (fun _ _ _ h => h) (by rfl) (by assumption) ?_ ?_
        rotate_left
        · intro w hSw
          (try dsimp only at hSw)
          go_simp
          (try with_reducible rfl)
        try simp only [Act.put, List.setIfInBounds_toArray, List.set_cons_zero, List.set_cons_succ]
        refine takeW 14 (v := ?_) rfl (by kernel_rfl) (by kernel_rfl) (by kernel_rfl) (fun _ _ _ h => h) (by rfl) (by assumption) ?_ ?_
        rotate_left
        · intro w hSw
          (try dsimp only at hSw)
          go_simp
          (try with_reducible rfl)
        try simp only [Act.put, List.setIfInBounds_toArray, List.set_cons_zero, List.set_cons_succ]
        refine takeW 15 (v := ?_) rfl (by kernel_rfl) (by kernel_rfl) (by kernel_rfl) (fun _ _ _ h => h) (by rfl) (by assumption) ?_ ?_
        rotate_left
        · intro w hSw
          (try dsimp only at hSw)
          go_simp
          (try with_reducible rfl)
        try simp only [Act.put, List.setIfInBounds_toArray, List.set_cons_zero, List.set_cons_succ]
        refine takeW 16 (v := ?_) rfl (by kernel_rfl) (by kernel_rfl) (by kernel_rfl) (fun _ _ _ h => h) (by rfl) (by assumption) ?_ ?_
        rotate_left
        · intro w hSw
          (try dsimp only at hSw)
          go_simp
          (try with_reducible rfl)
        try simp only [Act.put, List.setIfInBounds_toArray, List.set_cons_zero, List.set_cons_succ]
        refine takeW 17 (v := ?_) rfl (by kernel_rfl) (by kernel_rfl) (by kernel_rfl) (fun _ _ _ h => h) (by rfl) (by assumption) ?_ ?_
        rotate_left
        · intro w hSw
          (try dsimp only at hSw)
          go_simp
          (try with_reducible rfl)
        try simp only [Act.put, List.setIfInBounds_toArray, List.set_cons_zero, List.set_cons_succ]
        refine takeW 18 (v := ?_) rfl (by kernel_rfl) (by kernel_rfl) (by kernel_rfl) (fun _ _ _ h => h) (by rfl) (by assumption) ?_ ?_
        rotate_left
        · intro w hSw
          (try dsimp only at hSw)
          go_simp
          (try with_reducible rfl)
        try simp only [Act.put, List.setIfInBounds_toArray, List.set_cons_zero, List.set_cons_succ]
        refine goW 19 rfl (by kernel_rfl) (fun K hK => ?_)
        go_simp
        go_at_call 83; (with_reducible refine (CE.out _).mono ?_); rintro e6 w6 ⟨rfl, rfl⟩
        refine hK.out _ _ ?_ (fun hHeld => ?_)
        · (try dsimp only)
          exact HS5.out _ kc
        clear hK K
        try simp only [Act.put, List.setIfInBounds_toArray, List.set_cons_zero, List.set_cons_succ]
        refine takeW 20 (v := ?_) rfl (by kernel_rfl) (by kernel_rfl) (by kernel_rfl) (fun _ _ _ h => h) (by rfl) (by assumption) ?_ ?_
        rotate_left
        · intro w hSw
          (try dsimp only at hSw)
          go_simp
          (try with_reducible rfl)
        try simp only [Act.put, List.setIfInBounds_toArray, List.set_cons_zero, List.set_cons_succ]
        refine takeW 21 (v := ?_) rfl (by kernel_rfl) (by kernel_rfl) (by kernel_rfl) (fun _ _ _ h => h) (by rfl) (by assumption) ?_ ?_
        rotate_left
        · intro w hSw
          (try dsimp only at hSw)
          go_simp
          (try with_reducible rfl)
        try simp only [Act.put, List.setIfInBounds_toArray, List.set_cons_zero, List.set_cons_succ]
        refine wpAnyH_done (by kernel_rfl) ?_ _
        refine NoPanic.normal ?_
        have hzz := hide (show (ByteArray.size (s.extract i e)) = 1 by have := hef.out; simp; omega)
        have hpe : phi s e false + 10 * 1 = phi s i false := by have h5 := hef.out; subst h5; exact phi_take (k := 1) he3
        go_upto_region 8 with fail
        have f0 := (X3.under kc).free 0
        have q0 := (X3.under kc).cell 0
        simp at q0
        go_upto_region 9 with fail
        obtain ⟨t5, ht5⟩ : ∃ t5 : Tm, t5 = { t0 with kind := 4 } := ⟨_, rfl⟩
        have kb := below_drew (wc.setCell ⟨w.heap.size + 1 + 1 + 1, 0, none⟩ (.int .i64 4))
        have X5 : Blk (wc.setCell ⟨w.heap.size + 1 + 1 + 1, 0, none⟩ (.int .i64 4)).drew (w.heap.size + 1 + 1 + 1) 29 #[.int .i64 t5.kind, .string t5.name, .string t5.other, .int .i64 t5.n, .int .i64 t5.type.kind, .slice l0.ta l0.tn l0.tc, .int .i64 t5.res.kind, .slice l0.ra l0.rn l0.rc, .slice l0.aa l0.an l0.ac] := by
          rw [ht5]
          exact Blk.under (X3.set_ 0 (.int .i64 4)) kb
        have RB5 := (RB3.aside (p := ⟨w.heap.size + 1 + 1 + 1, 0, none⟩) (by simp) (.int .i64 4)).under kb
        have LR5 := (LR3.set_ (p := ⟨w.heap.size + 1 + 1 + 1, 0, none⟩) (by simp; omega) (.int .i64 4)).under kb
        have LO5 : OwnP (fun b => (P b ∧ b < w.heap.size) ∨ b = w.heap.size + 1 + 1) (wc.setCell ⟨w.heap.size + 1 + 1 + 1, 0, none⟩ (.int .i64 4)).drew t5 l0 :=
          ((LO3.keep (w' := wc.setCell ⟨w.heap.size + 1 + 1 + 1, 0, none⟩ (.int .i64 4)) fun b hb hl => Below.heap_setCell _ ⟨w.heap.size + 1 + 1 + 1, 0, none⟩ _ b (by show b ≠ w.heap.size + 1 + 1 + 1; omega)).keep (w' := (wc.setCell ⟨w.heap.size + 1 + 1 + 1, 0, none⟩ (.int .i64 4)).drew) fun b hb hl => kb.block b hl).fields (by rw [ht5]; exact ⟨by simp [i64], LO3.1.2⟩) (by rw [ht5]) (by rw [ht5]) (by rw [ht5])
        have KW5 := (KW3.set_ (p := ⟨w.heap.size + 1 + 1 + 1, 0, none⟩) (fun h => absurd h (by simp; omega)) (.int .i64 4)).next (Wrote.of_below kb)
        have hl5 : t5.args.length ≤ 1 := by rw [ht5]; exact hl0
        have hw5 : t5.wt = t0.wt ∧ t5.name.size = 0 := by rw [ht5]; exact ⟨by rw [Tm.wt_eq, Tm.wt_eq t0], hn0⟩
        clear f0 q0 X3 LR3 RB3 LO3 KW3 ht5 HS5 kc
        generalize (wc.setCell ⟨w.heap.size + 1 + 1 + 1, 0, none⟩ (.int .i64 4)).drew = w5 at X5 RB5 LR5 LO5 KW5 ⊢
        clear kb
        have kc := below_drew w5
        have HS : Hid (∀ W, Below w5.heap.size w5 W → (W.cell? ⟨q, 0, none⟩ = some (.string s) ∧ W.cell? ⟨q, 1, none⟩ = some (.int .i64 (i : Int)))) := hide fun W hW => ⟨(LR5.under hW).1.cell 0, (LR5.under hW).1.cell 1⟩
        have f1 := (X5.under kc).free 1
        have q1 := (X5.under kc).cell 1
        simp at q1
        have HX : Hid (∀ v : Value, (w5.drew.setCell ⟨w.heap.size + 1 + 1 + 1, 1, none⟩ v).cell? ⟨q, 0, none⟩ = some (.string s) ∧ (w5.drew.setCell ⟨w.heap.size + 1 + 1 + 1, 1, none⟩ v).cell? ⟨q, 1, none⟩ = some (.int .i64 (i : Int))) :=
          hide fun v => ⟨(World.cell?_setCell_other _ _ _ _ (fun e => by injection e; omega)).trans (HS.out _ kc).1, (World.cell?_setCell_other _ _ _ _ (fun e => by injection e; omega)).trans (HS.out _ kc).2⟩
        refine wp_region_noPanic ?_
        refine wp_region_held_drew (S := (fun W => W.cell? ⟨q, 0, none⟩ = some (.string s) ∧ W.cell? ⟨q, 1, none⟩ = some (.int .i64 (i : Int)))) (by kernel_rfl) ?_ (fun hHeld => ?_)
        · (try dsimp only)
          exact HS.out _ kc
        refine takeW 0 (v := ?_) rfl (by kernel_rfl) (by kernel_rfl) (by kernel_rfl) (fun _ _ _ h => h) (by rfl) (by assumption) ?_ ?_
        rotate_left
        · intro w hSw
          (try dsimp only at hSw)
          go_simp
          (try with_reducible rfl)
        try simp only [Act.put, List.setIfInBounds_toArray, List.set_cons_zero, List.set_cons_succ]
        refine takeW 1 (v := ?_) rfl (by kernel_rfl) (by kernel_rfl) (by kernel_rfl) (fun _ _ _ h => h) (by rfl) (by assumption) ?_ ?_
        rotate_left
        · intro w hSw
          (try dsimp only at hSw)
          go_simp
          (try with_reducible rfl)
        try simp only [Act.put, List.setIfInBounds_toArray, List.set_cons_zero, List.set_cons_succ]
        refine takeW 2 (v := ?_) rfl (by kernel_rfl) (by kernel_rfl) (by kernel_rfl) (fun _ _ _ h => h) (by rfl) (by assumption) ?_ ?_
        rotate_left
        · intro w hSw
          (try dsimp only at hSw)
          go_simp
          (try with_reducible rfl)
        try simp only [Act.put, List.setIfInBounds_toArray, List.set_cons_zero, List.set_cons_succ]
        refine takeW 3 (v := ?_) rfl (by kernel_rfl) (by kernel_rfl) (by kernel_rfl) (fun _ _ _ h => h) (by rfl) (by assumption) ?_ ?_
        rotate_left
        · intro w hSw
          (try dsimp only at hSw)
          go_simp
          (try with_reducible rfl)
        try simp only [Act.put, List.setIfInBounds_toArray, List.set_cons_zero, List.set_cons_succ]
        refine takeW 4 (v := ?_) rfl (by kernel_rfl) (by kernel_rfl) (by kernel_rfl) (fun _ _ _ h => h) (by rfl) (by assumption) ?_ ?_
        rotate_left
        · intro w hSw
          (try dsimp only at hSw)
          go_simp
          (try with_reducible rfl)
        try simp only [Act.put, List.setIfInBounds_toArray, List.set_cons_zero, List.set_cons_succ]
        refine takeW 5 (v := ?_) rfl (by kernel_rfl) (by kernel_rfl) (by kernel_rfl) (fun _ _ _ h => h) (by rfl) (by assumption) ?_ ?_
        rotate_left
        · intro w hSw
          (try dsimp only at hSw)
          go_simp
          (try with_reducible rfl)
        try simp only [Act.put, List.setIfInBounds_toArray, List.set_cons_zero, List.set_cons_succ]
        refine takeW 6 (v := ?_) rfl (by kernel_rfl) (by kernel_rfl) (by kernel_rfl) (fun _ _ _ h => h) (by rfl) (by assumption) ?_ ?_
        rotate_left
        · intro w hSw
          (try dsimp only at hSw)
          go_simp
          (try with_reducible rfl)
        try simp only [Act.put, List.setIfInBounds_toArray, List.set_cons_zero, List.set_cons_succ]
        refine takeW 7 (v := ?_) rfl (by kernel_rfl) (by kernel_rfl) (by kernel_rfl) (fun _ _ _ h => h) (by rfl) (by assumption) ?_ ?_
        rotate_left
        · intro w hSw
          (try dsimp only at hSw)
          go_simp
          (try with_reducible rfl)
        try simp only [Act.put, List.setIfInBounds_toArray, List.set_cons_zero, List.set_cons_succ]
        refine takeW 8 (v := ?_) rfl (by kernel_rfl) (by kernel_rfl) (by kernel_rfl) (fun _ _ _ h => h) (by rfl) (by assumption) ?_ ?_
        rotate_left
        · intro w hSw
          (try dsimp only at hSw)
          go_simp
          (try with_reducible rfl)
        try simp only [Act.put, List.setIfInBounds_toArray, List.set_cons_zero, List.set_cons_succ]
        refine takeW 9 (v := ?_) rfl (by kernel_rfl) (by kernel_rfl) (by kernel_rfl) (fun _ _ _ h => h) (by rfl) (by assumption) ?_ ?_
        rotate_left
        · intro w hSw
          (try dsimp only at hSw)
          go_simp
          (try with_reducible rfl)
        try simp only [Act.put, List.setIfInBounds_toArray, List.set_cons_zero, List.set_cons_succ]
        refine takeW 10 (v := ?_) rfl (by kernel_rfl) (by kernel_rfl) (by kernel_rfl) (fun _ _ _ h => h) (by rfl) (by assumption) ?_ ?_
        rotate_left
        · intro w hSw
          (try dsimp only at hSw)
          go_simp
          (try with_reducible rfl)
        try simp only [Act.put, List.setIfInBounds_toArray, List.set_cons_zero, List.set_cons_succ]
        refine takeW 11 (v := ?_) rfl (by kernel_rfl) (by kernel_rfl) (by kernel_rfl) (fun _ _ _ h => h) (by rfl) (by assumption) ?_ ?_
        rotate_left
        · intro w hSw
          (try dsimp only at hSw)
          go_simp
          (try with_reducible rfl)
        try simp only [Act.put, List.setIfInBounds_toArray, List.set_cons_zero, List.set_cons_succ]
        refine takeW 12 (v := ?_) rfl (by kernel_rfl) (by kernel_rfl) (by kernel_rfl) (fun _ _ _ h => h) (by rfl) (by assumption) ?_ ?_
        rotate_left
        · intro w hSw
          (try dsimp only at hSw)
          go_simp
          (try with_reducible rfl)
        try simp only [Act.put, List.setIfInBounds_toArray, List.set_cons_zero, List.set_cons_succ]
        refine takeW 13 (v := ?_) rfl (by kernel_rfl) (by kernel_rfl) (by kernel_rfl) (fun _ _ _ h => h) (by rfl) (by assumption) ?_ ?_
        rotate_left
        · intro w hSw
          (try dsimp only at hSw)
          go_simp
          (try with_reducible rfl)
        try simp only [Act.put, List.setIfInBounds_toArray, List.set_cons_zero, List.set_cons_succ]
        refine takeW 14 (v := ?_) rfl (by kernel_rfl) (by kernel_rfl) (by kernel_rfl) (fun _ _ _ h => h) (by rfl) (by assumption) ?_ ?_
        rotate_left
        · intro w hSw
          (try dsimp only at hSw)
          go_simp
          (try with_reducible rfl)
        try simp only [Act.put, List.setIfInBounds_toArray, List.set_cons_zero, List.set_cons_succ]
        refine goW 15 rfl (by kernel_rfl) (fun K hK => ?_)
        go_simp
        refine hK.out _ _ ?_ (fun hHeld => ?_)
        · (try dsimp only)
          first | exact HX.out _ | exact HS.out _ kc
        clear hK K
        try simp only [Act.put, List.setIfInBounds_toArray, List.set_cons_zero, List.set_cons_succ]
        refine wpAnyH_done (by kernel_rfl) ?_ _
        refine NoPanic.normal ?_
        clear HX HS f1 q1 kc
        go_upto_region 10 with fail
        obtain ⟨t6, ht6⟩ : ∃ t6 : Tm, t6 = { t5 with name := s.extract i e } := ⟨_, rfl⟩
        have kb := below_drew (w5.setCell ⟨w.heap.size + 1 + 1 + 1, 1, none⟩ (.string (s.extract i e)))
        have X6 : Blk (w5.setCell ⟨w.heap.size + 1 + 1 + 1, 1, none⟩ (.string (s.extract i e))).drew (w.heap.size + 1 + 1 + 1) 29 #[.int .i64 t6.kind, .string t6.name, .string t6.other, .int .i64 t6.n, .int .i64 t6.type.kind, .slice l0.ta l0.tn l0.tc, .int .i64 t6.res.kind, .slice l0.ra l0.rn l0.rc, .slice l0.aa l0.an l0.ac] := by
          rw [ht6]
          exact Blk.under (X5.set_ 1 (.string (s.extract i e))) kb
        have RB6 := (RB5.aside (p := ⟨w.heap.size + 1 + 1 + 1, 1, none⟩) (by simp) (.string (s.extract i e))).under kb
        have LR6 := (LR5.set_ (p := ⟨w.heap.size + 1 + 1 + 1, 1, none⟩) (by simp; omega) (.string (s.extract i e))).under kb
        have LO6 : OwnP (fun b => (P b ∧ b < w.heap.size) ∨ b = w.heap.size + 1 + 1) (w5.setCell ⟨w.heap.size + 1 + 1 + 1, 1, none⟩ (.string (s.extract i e))).drew t6 l0 :=
          ((LO5.keep (w' := w5.setCell ⟨w.heap.size + 1 + 1 + 1, 1, none⟩ (.string (s.extract i e))) fun b hb hl => Below.heap_setCell _ ⟨w.heap.size + 1 + 1 + 1, 1, none⟩ _ b (by show b ≠ w.heap.size + 1 + 1 + 1; omega)).keep (w' := (w5.setCell ⟨w.heap.size + 1 + 1 + 1, 1, none⟩ (.string (s.extract i e))).drew) fun b hb hl => kb.block b hl).fields (by rw [ht6]; exact ⟨LO5.1.1, LO5.1.2.1, by show (ByteArray.size (s.extract i e)) ≤ _; rw [hzz.out]; omega, LO5.1.2.2.2⟩) (by rw [ht6]) (by rw [ht6]) (by rw [ht6])
        have KW6 := (KW5.set_ (p := ⟨w.heap.size + 1 + 1 + 1, 1, none⟩) (fun h => absurd h (by simp; omega)) (.string (s.extract i e))).next (Wrote.of_below kb)
        have hl6 : t6.args.length ≤ 1 := by rw [ht6]; exact hl5
        have hw6 : t6.wt = t0.wt + 1 := by
          have h5 := hw5.2
          have h6 := hw5.1
          have h7 := Tm.wt_eq t5
          rw [ht6, Tm.wt_eq]
          show (ByteArray.size (s.extract i e)) + t5.other.size + Ty.sizes t5.type.args + Ty.sizes t5.res.args + Tm.wts t5.args = _
          rw [hzz.out]
          omega
        clear X5 LR5 RB5 LO5 KW5 ht6
        generalize (w5.setCell ⟨w.heap.size + 1 + 1 + 1, 1, none⟩ (.string (s.extract i e))).drew = w6 at X6 RB6 LR6 LO6 KW6 ⊢
        clear kb
        have f1 := LR6.1.free 1
        have c1 := LR6.1.cell 1
        simp at c1
        go_upto_region 11 with fail
        have LR7 : Rdr (w6.setCell ⟨q, 1, none⟩ (.int .i64 (e : Int))) q s e false := by
          refine ⟨?_, he3, LR6.2.2⟩
          simpa using LR6.1.set_ 1 (.int .i64 (e : Int))
        have X7 := X6.aside (p := ⟨q, 1, none⟩) (by simp; omega) (.int .i64 (e : Int))
        have RB7 := RB6.aside (p := ⟨q, 1, none⟩) (by simp; omega) (.int .i64 (e : Int))
        have LO7 := LO6.keep (w' := w6.setCell ⟨q, 1, none⟩ (.int .i64 (e : Int))) fun b hb hl => Below.heap_setCell _ ⟨q, 1, none⟩ _ b (fun e => by have e : b = q := e; subst e; exact hQq hb)
        have KW7 := KW6.next (Wrote.setCell (fp := [q]) (p := ⟨q, 1, none⟩) (by simp) (.int .i64 (e : Int)))
        clear f1 c1 X6 LR6 RB6 LO6 KW6
        generalize w6.setCell ⟨q, 1, none⟩ (.int .i64 (e : Int)) = w7 at X7 RB7 LR7 LO7 KW7 ⊢
        obtain ⟨s0, s1, s2, s3, s4, s5, s6, s7, s8⟩ := X7.nine
        go_wp2_with fail
        refine (HA.out (fun b => (P b ∧ b < w.heap.size) ∨ b = w.heap.size + 1 + 1) 1 (by omega) t6 l0 e false w7 LR7 (fun hb => by rcases hb with hb | hb; exact hPq hb.1; omega) LO7 hl6).mono ?_
        rintro e w3 ⟨t3, l3, i3, b3, rfl, LO3, R3, hp3, K3⟩
        have s3 := KW7.size
        have sR := RB7.lt
        have RB := K3.blk RB7 (by omega) (fun hb => by omega)
        obtain ⟨q0, q1, q2, q3, q4, q5, q6, q7, q8⟩ : _ ∧ _ ∧ _ ∧ _ ∧ _ ∧ _ ∧ _ ∧ _ ∧ _ := ⟨RB.cell 0, RB.cell 1, RB.cell 2, RB.cell 3, RB.cell 4, RB.cell 5, RB.cell 6, RB.cell 7, RB.cell 8⟩
        simp at q0 q1 q2 q3 q4 q5 q6 q7 q8
        obtain ⟨z0, z1, z2, z3, z4, z5, z6, z7, z8⟩ : _ ∧ _ ∧ _ ∧ _ ∧ _ ∧ _ ∧ _ ∧ _ ∧ _ := ⟨RB.free 0, RB.free 1, RB.free 2, RB.free 3, RB.free 4, RB.free 5, RB.free 6, RB.free 7, RB.free 8⟩
        have HD := hide (GivesA.mk (P := P) (i := i) (b := false) (N := t.wt + 3) (R := w.heap.size + 1) hq (by omega) LO3 (fun b hb => by rcases hb with (hb | hb) | hb; exact ⟨by omega, .inl hb.1⟩; exact ⟨by omega, .inr (by omega)⟩; exact ⟨by omega, .inr (by omega)⟩) R3 (by omega) (KW7.trans K3 fun x hx hb => by rcases hb with hb | hb; exact hb.1; omega))
        have HB := hide (put_box RB rfl t3 l3).nine
        go_wp2_with fail
        have E := putAt_zero w3 (w.heap.size + 1) t3 l3
        rw [← E]
        obtain ⟨r0, r1, r2, r3, r4, r5, r6, r7, r8⟩ := HB.out
        refine bodyPost_ret (v := .agg #[.int .i64 t3.kind, .string t3.name, .string t3.other, .int .i64 t3.n, .int .i64 t3.type.kind, .slice l3.ta l3.tn l3.tc, .int .i64 t3.res.kind, .slice l3.ra l3.rn l3.rc, .slice l3.aa l3.an l3.ac]) ?_ rfl HD.out
        simp [results, Tryz.results122, go_sem, r0, r1, r2, r3, r4, r5, r6, r7, r8]
      · have hz1 : (z == 2) = false := beq_eq_false_iff_ne.2 hz
        have hz2 : (z != 2) = true := by simp [bne, hz1]
        refine wp_region_noPanic ?_
        refine wp_region_held_drew (S := (fun W => W.cell? ⟨q, 0, none⟩ = some (.string s) ∧ W.cell? ⟨q, 1, none⟩ = some (.int .i64 (i : Int)) ∧ W.cell? ⟨q, 2, none⟩ = some (.bool false))) (by kernel_rfl) ?_ (fun hHeld => ?_)
        · (try dsimp only)
          exact HS5.out _ kc
        refine takeW 0 (v := ?_) rfl (by kernel_rfl) (by kernel_rfl) (by kernel_rfl) (fun _ _ _ h => h) (by rfl) (by assumption) ?_ ?_
        rotate_left
        · intro w hSw
          (try dsimp only at hSw)
          go_simp
          (try with_reducible rfl)
        try simp only [Act.put, List.setIfInBounds_toArray, List.set_cons_zero, List.set_cons_succ]
        refine takeW 1 (v := ?_) rfl (by kernel_rfl) (by kernel_rfl) (by kernel_rfl) (fun _ _ _ h => h) (by rfl) (by assumption) ?_ ?_
        rotate_left
        · intro w hSw
          (try dsimp only at hSw)
          go_simp
          (try with_reducible rfl)
        try simp only [Act.put, List.setIfInBounds_toArray, List.set_cons_zero, List.set_cons_succ]
        refine takeW 2 (v := ?_) rfl (by kernel_rfl) (by kernel_rfl) (by kernel_rfl) (fun _ _ _ h => h) (by rfl) (by assumption) ?_ ?_
        rotate_left
        · intro w hSw
          (try dsimp only at hSw)
          go_simp
          (try with_reducible rfl)
        try simp only [Act.put, List.setIfInBounds_toArray, List.set_cons_zero, List.set_cons_succ]
        refine takeW 3 (v := ?_) rfl (by kernel_rfl) (by kernel_rfl) (by kernel_rfl) (fun _ _ _ h => h) (by rfl) (by assumption) ?_ ?_
        rotate_left
        · intro w hSw
          (try dsimp only at hSw)
          go_simp
          (try with_reducible rfl)
        try simp only [Act.put, List.setIfInBounds_toArray, List.set_cons_zero, List.set_cons_succ]
        refine takeW 4 (v := ?_) rfl (by kernel_rfl) (by kernel_rfl) (by kernel_rfl) (fun _ _ _ h => h) (by rfl) (by assumption) ?_ ?_
        rotate_left
        · intro w hSw
          (try dsimp only at hSw)
          go_simp
          (try with_reducible rfl)
        try simp only [Act.put, List.setIfInBounds_toArray, List.set_cons_zero, List.set_cons_succ]
        refine takeW 5 (v := ?_) rfl (by kernel_rfl) (by kernel_rfl) (by kernel_rfl) (fun _ _ _ h => h) (by rfl) (by assumption) ?_ ?_
        rotate_left
        · intro w hSw
          (try dsimp only at hSw)
          go_simp
          (try with_reducible rfl)
        try simp only [Act.put, List.setIfInBounds_toArray, List.set_cons_zero, List.set_cons_succ]
        refine takeW 6 (v := ?_) rfl (by kernel_rfl) (by kernel_rfl) (by kernel_rfl) (fun _ _ _ h => h) (by rfl) (by assumption) ?_ ?_
        rotate_left
        · intro w hSw
          (try dsimp only at hSw)
          go_simp
          (try with_reducible rfl)
        try simp only [Act.put, List.setIfInBounds_toArray, List.set_cons_zero, List.set_cons_succ]
        refine takeW 7 (v := ?_) rfl (by kernel_rfl) (by kernel_rfl) (by kernel_rfl) (fun _ _ _ h => h) (by rfl) (by assumption) ?_ ?_
        rotate_left
        · intro w hSw
          (try dsimp only at hSw)
          go_simp
          (try with_reducible rfl)
        try simp only [Act.put, List.setIfInBounds_toArray, List.set_cons_zero, List.set_cons_succ]
        refine takeW 8 (v := ?_) rfl (by kernel_rfl) (by kernel_rfl) (by kernel_rfl) (fun _ _ _ h => h) (by rfl) (by assumption) ?_ ?_
        rotate_left
        · intro w hSw
          (try dsimp only at hSw)
          go_simp
          (try with_reducible rfl)
        try simp only [Act.put, List.setIfInBounds_toArray, List.set_cons_zero, List.set_cons_succ]
        refine takeW 9 (v := ?_) rfl (by kernel_rfl) (by kernel_rfl) (by kernel_rfl) (fun _ _ _ h => h) (by rfl) (by assumption) ?_ ?_
        rotate_left
        · intro w hSw
          (try dsimp only at hSw)
          go_simp
          (try with_reducible rfl)
        try simp only [Act.put, List.setIfInBounds_toArray, List.set_cons_zero, List.set_cons_succ]
        refine takeW 10 (v := ?_) rfl (by kernel_rfl) (by kernel_rfl) (by kernel_rfl) (fun _ _ _ h => h) (by rfl) (by assumption) ?_ ?_
        rotate_left
        · intro w hSw
          (try dsimp only at hSw)
          go_simp
          (try with_reducible rfl)
        try simp only [Act.put, List.setIfInBounds_toArray, List.set_cons_zero, List.set_cons_succ]
        refine takeW 11 (v := ?_) rfl (by kernel_rfl) (by kernel_rfl) (by kernel_rfl) (fun _ _ _ h => h) (by rfl) (by assumption) ?_ ?_
        rotate_left
        · intro w hSw
          (try dsimp only at hSw)
          go_simp
          (try with_reducible rfl)
        try simp only [Act.put, List.setIfInBounds_toArray, List.set_cons_zero, List.set_cons_succ]
        refine takeW 12 (v := ?_) rfl (by kernel_rfl) (by kernel_rfl) (by kernel_rfl) (fun _ _ _ h => h) (by rfl) (by assumption) ?_ ?_
        rotate_left
        · intro w hSw
          (try dsimp only at hSw)
          go_simp
          (try with_reducible rfl)
        try simp only [Act.put, List.setIfInBounds_toArray, List.set_cons_zero, List.set_cons_succ]
        refine takeW 13 (v := ?_) rfl (by kernel_rfl) (by kernel_rfl) (by kernel_rfl) (fun _ _ _ h => h) (by rfl) (by assumption) ?_ ?_
        rotate_left
        · intro w hSw
          (try dsimp only at hSw)
          go_simp
          (try with_reducible rfl)
        try simp only [Act.put, List.setIfInBounds_toArray, List.set_cons_zero, List.set_cons_succ]
        refine takeW 14 (v := ?_) rfl (by kernel_rfl) (by kernel_rfl) (by kernel_rfl) (fun _ _ _ h => h) (by rfl) (by assumption) ?_ ?_
        rotate_left
        · intro w hSw
          (try dsimp only at hSw)
          go_simp
          (try with_reducible rfl)
        try simp only [Act.put, List.setIfInBounds_toArray, List.set_cons_zero, List.set_cons_succ]
        refine takeW 15 (v := ?_) rfl (by kernel_rfl) (by kernel_rfl) (by kernel_rfl) (fun _ _ _ h => h) (by rfl) (by assumption) ?_ ?_
        rotate_left
        · intro w hSw
          (try dsimp only at hSw)
          go_simp
          (try with_reducible rfl)
        try simp only [Act.put, List.setIfInBounds_toArray, List.set_cons_zero, List.set_cons_succ]
        refine takeW 16 (v := ?_) rfl (by kernel_rfl) (by kernel_rfl) (by kernel_rfl) (fun _ _ _ h => h) (by rfl) (by assumption) ?_ ?_
        rotate_left
        · intro w hSw
          (try dsimp only at hSw)
          go_simp
          (try with_reducible rfl)
        try simp only [Act.put, List.setIfInBounds_toArray, List.set_cons_zero, List.set_cons_succ]
        refine takeW 17 (v := ?_) rfl (by kernel_rfl) (by kernel_rfl) (by kernel_rfl) (fun _ _ _ h => h) (by rfl) (by assumption) ?_ ?_
        rotate_left
        · intro w hSw
          (try dsimp only at hSw)
          go_simp
          (try with_reducible rfl)
        try simp only [Act.put, List.setIfInBounds_toArray, List.set_cons_zero, List.set_cons_succ]
        refine takeW 18 (v := ?_) rfl (by kernel_rfl) (by kernel_rfl) (by kernel_rfl) (fun _ _ _ h => h) (by rfl) (by assumption) ?_ ?_
        rotate_left
        · intro w hSw
          (try dsimp only at hSw)
          go_simp
          (try with_reducible rfl)
        try simp only [Act.put, List.setIfInBounds_toArray, List.set_cons_zero, List.set_cons_succ]
        refine goW 19 rfl (by kernel_rfl) (fun K hK => ?_)
        go_simp
        go_at_call 83; (with_reducible refine (CE.out _).mono ?_); rintro e6 w6 ⟨rfl, rfl⟩
        refine hK.out _ _ ?_ (fun hHeld => ?_)
        · (try dsimp only)
          exact HS5.out _ kc
        clear hK K
        try simp only [Act.put, List.setIfInBounds_toArray, List.set_cons_zero, List.set_cons_succ]
        refine takeW 20 (v := ?_) rfl (by kernel_rfl) (by kernel_rfl) (by kernel_rfl) (fun _ _ _ h => h) (by rfl) (by assumption) ?_ ?_
        rotate_left
        · intro w hSw
          (try dsimp only at hSw)
          go_simp
          (try with_reducible rfl)
        try simp only [Act.put, List.setIfInBounds_toArray, List.set_cons_zero, List.set_cons_succ]
        refine takeW 21 (v := ?_) rfl (by kernel_rfl) (by kernel_rfl) (by kernel_rfl) (fun _ _ _ h => h) (by rfl) (by assumption) ?_ ?_
        rotate_left
        · intro w hSw
          (try dsimp only at hSw)
          go_simp
          (try with_reducible rfl)
        try simp only [Act.put, List.setIfInBounds_toArray, List.set_cons_zero, List.set_cons_succ]
        refine wpAnyH_done (by kernel_rfl) ?_ _
        refine NoPanic.normal ?_
        go_upto_region 6 with fail
        have f2 := LR3.1.free 2
        have c2 := LR3.1.cell 2
        simp at c2
        go_upto_region 7 with fail
        have kb := below_drew (wc.setCell ⟨q, 2, none⟩ (.bool true))
        have X4 := (X3.aside (p := ⟨q, 2, none⟩) (by simp; omega) (.bool true)).under kb
        have RB4 := (RB3.aside (p := ⟨q, 2, none⟩) (by simp; omega) (.bool true)).under kb
        have LR4 := (LR3.bad true).under kb
        have LO4 := (LO3.keep (w' := wc.setCell ⟨q, 2, none⟩ (.bool true)) fun b hb hl => Below.heap_setCell _ ⟨q, 2, none⟩ _ b (fun e => by have e : b = q := e; subst e; exact hQq hb)).keep (w' := (wc.setCell ⟨q, 2, none⟩ (.bool true)).drew) fun b hb hl => kb.block b hl
        have KW4 := (KW3.next (Wrote.setCell (fp := [q]) (p := ⟨q, 2, none⟩) (by simp) (.bool true))).next (Wrote.of_below kb)
        generalize (wc.setCell ⟨q, 2, none⟩ (.bool true)).drew = w4 at X4 RB4 LR4 LO4 KW4 ⊢
        clear c2 f2 kc
        obtain ⟨s0, s1, s2, s3, s4, s5, s6, s7, s8⟩ := X4.nine
        have RB := RB4
        obtain ⟨q0, q1, q2, q3, q4, q5, q6, q7, q8⟩ : _ ∧ _ ∧ _ ∧ _ ∧ _ ∧ _ ∧ _ ∧ _ ∧ _ := ⟨RB.cell 0, RB.cell 1, RB.cell 2, RB.cell 3, RB.cell 4, RB.cell 5, RB.cell 6, RB.cell 7, RB.cell 8⟩
        simp at q0 q1 q2 q3 q4 q5 q6 q7 q8
        obtain ⟨z0, z1, z2, z3, z4, z5, z6, z7, z8⟩ : _ ∧ _ ∧ _ ∧ _ ∧ _ ∧ _ ∧ _ ∧ _ ∧ _ := ⟨RB.free 0, RB.free 1, RB.free 2, RB.free 3, RB.free 4, RB.free 5, RB.free 6, RB.free 7, RB.free 8⟩
        have HD := hide (GivesA.mk (P := P) (i := i) (b := false) (N := t.wt + 3) (R := w.heap.size + 1) hq (by omega) LO4 (fun b hb => by rcases hb with hb | hb; exact ⟨by omega, .inl hb.1⟩; exact ⟨by omega, .inr (by omega)⟩) LR4 (by rw [phi_bad]; omega) KW4)
        have HB := hide (put_box RB rfl t0 l0).nine
        go_wp2_with fail
        have E := putAt_zero w4 (w.heap.size + 1) t0 l0
        rw [← E]
        obtain ⟨r0, r1, r2, r3, r4, r5, r6, r7, r8⟩ := HB.out
        refine bodyPost_ret (v := .agg #[.int .i64 t0.kind, .string t0.name, .string t0.other, .int .i64 t0.n, .int .i64 t0.type.kind, .slice l0.ta l0.tn l0.tc, .int .i64 t0.res.kind, .slice l0.ra l0.rn l0.rc, .slice l0.aa l0.an l0.ac]) ?_ rfl HD.out
        simp [results, Tryz.results122, go_sem, r0, r1, r2, r3, r4, r5, r6, r7, r8]

end Go.Proofs.YtklifieahcoljaaGreat

namespace Go.Proofs.YtklifieahcoljaaGreat
open Go.RowKit
set_option maxRecDepth 100000
set_option linter.unusedVariables false
set_option linter.unusedSimpArgs false

/-- A form of names and types, without parts. -/
def formT (k : Int) (nm ot : ByteArray) (u v : Ty) : Tm := ⟨k, nm, ot, 0, u, v, []⟩
def formL (a : Option Addr) (n c : Nat) (a' : Option Addr) (n' c' : Nat) : Lt := ⟨a, n, c, a', n', c', none, 0, 0⟩
theorem formT_wt (k : Int) (nm ot : ByteArray) (u v : Ty) : (formT k nm ot u v).wt = nm.size + ot.size + Ty.sizes u.args + Ty.sizes v.args := by
  rw [formT, Tm.wt, Tm.wts]
  rfl
theorem Wrote.own {q base : Nat} {w w' : World} {t : Tm} {l : Lt} (h : OwnM base w t l) (k : Wrote [q] w w') (hb : q < base) : OwnM base w' t l := h.keep (k.fresh hb)
theorem LaidM.typ {X base b1 : Nat} {w : World} {k : Int} {nm ot : ByteArray} {v u : Ty} {a0 a a' : Option Addr} {n0 c0 n c n' c' : Nat} {u0 : Ty} (h : LaidM X base w (formT k nm ot u0 v) (formL a0 n0 c0 a' n' c')) (hu : TyA b1 w u a n c) (hb : X < b1) :
    LaidM X base ((w.setCell ⟨X, 4, none⟩ (.int .i64 u.kind)).setCell ⟨X, 5, none⟩ (.slice a n c)) (formT k nm ot u v) (formL a n c a' n' c') := by
  obtain ⟨fp, hu⟩ := hu
  have hX := h.1
  exact h.type (fp := fp) ⟨hu.1, fun b hb' => by have := hu.2 b hb'; omega⟩ (fun hin => by have := hu.2 _ hin; omega) (fun g hg => by simp [formL, Value.ownBlock] at hg)
theorem LaidM.rst {X base b1 : Nat} {w : World} {k : Int} {nm ot : ByteArray} {v u : Ty} {a0 a a' : Option Addr} {n0 c0 n c n' c' : Nat} {v0 : Ty} (h : LaidM X base w (formT k nm ot u v0) (formL a n c a0 n0 c0)) (hu : TyA b1 w v a' n' c') (hb : X < b1) :
    LaidM X base ((w.setCell ⟨X, 6, none⟩ (.int .i64 v.kind)).setCell ⟨X, 7, none⟩ (.slice a' n' c')) (formT k nm ot u v) (formL a n c a' n' c') := by
  obtain ⟨fp, hu⟩ := hu
  have hX := h.1
  exact h.res (fp := fp) ⟨hu.1, fun b hb' => by have := hu.2 b hb'; omega⟩ (fun hin => by have := hu.2 _ hin; omega) (fun g hg => by simp [formL, Value.ownBlock] at hg)
theorem phi_word {s : ByteArray} {i i' : Nat} (h : i ≤ i') (hs : i' ≤ s.size) : (i' - i) + phi s i' false ≤ phi s i false := by
  rw [phi_good, phi_good]
  omega
theorem phi_ge (s : ByteArray) (i : Nat) : 4000 ≤ phi s i false := by
  rw [phi_good]
  omega

set_option maxHeartbeats 12800000 in
theorem l6Rec_of (q : Nat) (s : ByteArray) (d : Nat) (H : TermC q s d) (i : Nat) (w : World) (h : Rdr w q s i false) :
    Calls Tryz.prog 121 #[.pointer (some ⟨q, 0, none⟩), .int .i64 (d : Int)] w (GivesR q s i false 1 w) := by
  have HA := hide (l6Args_of q s d H)
  clear H
  have hq := h.lt
  have R0 := Blk.new w 29 #[.int .i64 0, .string ⟨#[]⟩, .string ⟨#[]⟩, .int .i64 0, .int .i64 0, .slice none 0 0, .int .i64 0, .slice none 0 0, .slice none 0 0]
  have r0 := h.alloc (.cells #[.int .i64 0, .string ⟨#[]⟩, .string ⟨#[]⟩, .int .i64 0, .int .i64 0, .slice none 0 0, .int .i64 0, .slice none 0 0, .slice none 0 0] 29)
  have W0 := Wrote.alloc q w (.cells #[.int .i64 0, .string ⟨#[]⟩, .string ⟨#[]⟩, .int .i64 0, .int .i64 0, .slice none 0 0, .int .i64 0, .slice none 0 0, .slice none 0 0] 29)
  have hs0 : (w.alloc (.cells #[.int .i64 0, .string ⟨#[]⟩, .string ⟨#[]⟩, .int .i64 0, .int .i64 0, .slice none 0 0, .int .i64 0, .slice none 0 0, .slice none 0 0] 29)).heap.size = w.heap.size + 1 := by simp
  go_enter Tryz.func121, Tryz.ntmps121
  go_upto_region 1 with fail
  generalize w.alloc (.cells #[.int .i64 0, .string ⟨#[]⟩, .string ⟨#[]⟩, .int .i64 0, .int .i64 0, .slice none 0 0, .int .i64 0, .slice none 0 0, .slice none 0 0] 29) = w0 at R0 r0 W0 hs0 ⊢
  go_wp2_with fail
  refine (l4Word_any q s i false w0 r0).mono ?_
  rintro e w1 ⟨nm, i1, rfl, r1, hi1, hn1, k1⟩
  have s1 := k1.size
  have L2 : LaidM w1.heap.size (w.heap.size + 1) (w1.alloc (.cells #[.int .i64 (formT 9 nm ⟨#[]⟩ ty0 ty0).kind, .string (formT 9 nm ⟨#[]⟩ ty0 ty0).name, .string (formT 9 nm ⟨#[]⟩ ty0 ty0).other, .int .i64 (formT 9 nm ⟨#[]⟩ ty0 ty0).n, .int .i64 (formT 9 nm ⟨#[]⟩ ty0 ty0).type.kind, .slice lt0.ta lt0.tn lt0.tc, .int .i64 (formT 9 nm ⟨#[]⟩ ty0 ty0).res.kind, .slice lt0.ra lt0.rn lt0.rc, .slice lt0.aa lt0.an lt0.ac] 29)) (formT 9 nm ⟨#[]⟩ ty0 ty0) (formL none 0 0 none 0 0) :=
    LaidM.new (by omega) (Blk.new w1 _ _) ⟨by simp [formT, i64], by simp [formT, i64], by show nm.size ≤ _; have := r1.2; omega, Nat.zero_le _⟩ rfl rfl rfl
  have R2 := (k1.blk R0 (by omega)).alloc (.cells #[.int .i64 (formT 9 nm ⟨#[]⟩ ty0 ty0).kind, .string (formT 9 nm ⟨#[]⟩ ty0 ty0).name, .string (formT 9 nm ⟨#[]⟩ ty0 ty0).other, .int .i64 (formT 9 nm ⟨#[]⟩ ty0 ty0).n, .int .i64 (formT 9 nm ⟨#[]⟩ ty0 ty0).type.kind, .slice lt0.ta lt0.tn lt0.tc, .int .i64 (formT 9 nm ⟨#[]⟩ ty0 ty0).res.kind, .slice lt0.ra lt0.rn lt0.rc, .slice lt0.aa lt0.an lt0.ac] 29)
  have r2 := r1.alloc (.cells #[.int .i64 (formT 9 nm ⟨#[]⟩ ty0 ty0).kind, .string (formT 9 nm ⟨#[]⟩ ty0 ty0).name, .string (formT 9 nm ⟨#[]⟩ ty0 ty0).other, .int .i64 (formT 9 nm ⟨#[]⟩ ty0 ty0).n, .int .i64 (formT 9 nm ⟨#[]⟩ ty0 ty0).type.kind, .slice lt0.ta lt0.tn lt0.tc, .int .i64 (formT 9 nm ⟨#[]⟩ ty0 ty0).res.kind, .slice lt0.ra lt0.rn lt0.rc, .slice lt0.aa lt0.an lt0.ac] 29)
  have W2 := (W0.trans k1).next (below_new w1 (.cells #[.int .i64 (formT 9 nm ⟨#[]⟩ ty0 ty0).kind, .string (formT 9 nm ⟨#[]⟩ ty0 ty0).name, .string (formT 9 nm ⟨#[]⟩ ty0 ty0).other, .int .i64 (formT 9 nm ⟨#[]⟩ ty0 ty0).n, .int .i64 (formT 9 nm ⟨#[]⟩ ty0 ty0).type.kind, .slice lt0.ta lt0.tn lt0.tc, .int .i64 (formT 9 nm ⟨#[]⟩ ty0 ty0).res.kind, .slice lt0.ra lt0.rn lt0.rc, .slice lt0.aa lt0.an lt0.ac] 29))
  have p1 := phi_word hi1 r1.2.1
  have hs2 : (w1.alloc (.cells #[.int .i64 (formT 9 nm ⟨#[]⟩ ty0 ty0).kind, .string (formT 9 nm ⟨#[]⟩ ty0 ty0).name, .string (formT 9 nm ⟨#[]⟩ ty0 ty0).other, .int .i64 (formT 9 nm ⟨#[]⟩ ty0 ty0).n, .int .i64 (formT 9 nm ⟨#[]⟩ ty0 ty0).type.kind, .slice lt0.ta lt0.tn lt0.tc, .int .i64 (formT 9 nm ⟨#[]⟩ ty0 ty0).res.kind, .slice lt0.ra lt0.rn lt0.rc, .slice lt0.aa lt0.an lt0.ac] 29)).heap.size = w1.heap.size + 1 := by simp
  dsimp only [formT, lt0, ty0] at R2 r2 W2 hs2
  go_upto_region 2 with fail
  change LaidM w1.heap.size (w.heap.size + 1) (w1.alloc (.cells #[.int .i64 9, .string nm, .string ⟨#[]⟩, .int .i64 0, .int .i64 0, .slice none 0 0, .int .i64 0, .slice none 0 0, .slice none 0 0] 29)) _ _ at L2
  generalize w1.alloc (.cells #[.int .i64 9, .string nm, .string ⟨#[]⟩, .int .i64 0, .int .i64 0, .slice none 0 0, .int .i64 0, .slice none 0 0, .slice none 0 0] 29) = w2 at L2 R2 r2 W2 hs2 ⊢
  generalize hX : w1.heap.size = X at L2 hs2 ⊢
  go_wp2_with fail
  refine (l4Must_phi q s ⟨#[32]⟩ i1 false w2 r2 (by decide)).mono ?_
  rintro e w3 ⟨rfl, i3, b3, r3, p3, -, k3⟩
  have hq1 : q < w.heap.size + 1 := by omega
  have L3 := L2.keep (k3.fresh hq1)
  have R3 := k3.blk R2 (by omega)
  have W3 := W2.trans k3
  go_wp2_with fail
  refine (l4Word_any q s i3 b3 w3 r3).mono ?_
  rintro e w4 ⟨ot, i4, rfl, r4, hi4, hn4, k4⟩
  have L4 := L3.keep (k4.fresh hq1)
  have R4 := k4.blk R3 (by omega)
  have W4 := W3.trans k4
  have p4 : nm.size + ot.size + phi s i4 b3 ≤ phi s i false := by
    have h1 := phi_ge s i
    have h2 := r1.2
    have h4 := r4.2
    cases b3 with
    | true =>
      rw [phi_bad]
      omega
    | false =>
      have h3 := phi_word hi4 h4.1
      omega
  have x2 := L4.box.cell 2
  have y2 := L4.box.free 2
  go_upto_region 4 with fail
  have L5 : LaidM X (w.heap.size + 1) (w4.setCell ⟨X, 2, none⟩ (.string ot)) (formT 9 nm ot ty0 ty0) (formL none 0 0 none 0 0) := L4.other ot (by have := r4.2; omega)
  have R5 := R4.aside (p := ⟨X, 2, none⟩) (by simp; omega) (.string ot)
  have r5 := r4.set_ (p := ⟨X, 2, none⟩) (by simp; omega) (.string ot)
  have W5 := W4.over ((Below.refl _ _).setCell (p := ⟨X, 2, none⟩) (by simp; omega) (.string ot))
  clear x2 y2
  generalize w4.setCell ⟨X, 2, none⟩ (.string ot) = w5 at L5 R5 r5 W5 ⊢
  go_wp2_with fail
  refine (l4Must_phi q s ⟨#[58]⟩ i4 b3 w5 r5 (by decide)).mono ?_
  rintro e w6 ⟨rfl, i6, b6, r6, p6, -, k6⟩
  have L6 := L5.keep (k6.fresh hq1)
  have R6 := k6.blk R5 (by omega)
  have W6 := W5.trans k6
  have lX6 := L6.lt
  go_wp2_with fail
  refine (l4Type_any q s 8 1 rfl i6 b6 w6 r6).mono ?_
  rintro e w7 ⟨u, a, n, c, i7, b7, rfl, T7, r7, p7, k7⟩
  have L7 := L6.keep (k7.fresh hq1)
  have R7 := k7.blk R6 (by omega)
  have W7 := W6.trans k7
  have x4 := L7.box.cell 4
  have y4 := L7.box.free 4
  have x5 := L7.box.cell 5
  have y5 := L7.box.free 5
  go_upto_region 6 with fail
  have L8 := L7.typ T7 lX6
  have R8 := (R7.aside (p := ⟨X, 4, none⟩) (by simp; omega) (.int .i64 u.kind)).aside (p := ⟨X, 5, none⟩) (by simp; omega) (.slice a n c)
  have r8 := (r7.set_ (p := ⟨X, 4, none⟩) (by simp; omega) (.int .i64 u.kind)).set_ (p := ⟨X, 5, none⟩) (by simp; omega) (.slice a n c)
  have W8 := W7.over (((Below.refl _ _).setCell (p := ⟨X, 4, none⟩) (by simp; omega) (.int .i64 u.kind)).setCell (p := ⟨X, 5, none⟩) (by simp; omega) (.slice a n c))
  clear x4 y4 x5 y5
  generalize (w7.setCell ⟨X, 4, none⟩ (.int .i64 u.kind)).setCell ⟨X, 5, none⟩ (.slice a n c) = w8 at L8 R8 r8 W8 ⊢
  go_wp2_with fail
  refine (l4Must_phi q s ⟨#[62]⟩ i7 b7 w8 r8 (by decide)).mono ?_
  rintro e w9 ⟨rfl, i9, b9, r9, p9, -, k9⟩
  have L9 := L8.keep (k9.fresh hq1)
  have R9 := k9.blk R8 (by omega)
  have W9 := W8.trans k9
  have lX9 := L9.lt
  go_wp2_with fail
  refine (l4Type_any q s 8 1 rfl i9 b9 w9 r9).mono ?_
  rintro e w10 ⟨v, a', n', c', i10, b10, rfl, T10, r10, p10, k10⟩
  have L10 := L9.keep (k10.fresh hq1)
  have R10 := k10.blk R9 (by omega)
  have W10 := W9.trans k10
  have x6 := L10.box.cell 6
  have y6 := L10.box.free 6
  have x7 := L10.box.cell 7
  have y7 := L10.box.free 7
  go_upto_region 8 with fail
  have L11 := L10.rst T10 lX9
  have R11 := (R10.aside (p := ⟨X, 6, none⟩) (by simp; omega) (.int .i64 v.kind)).aside (p := ⟨X, 7, none⟩) (by simp; omega) (.slice a' n' c')
  have r11 := (r10.set_ (p := ⟨X, 6, none⟩) (by simp; omega) (.int .i64 v.kind)).set_ (p := ⟨X, 7, none⟩) (by simp; omega) (.slice a' n' c')
  have W11 := W10.over (((Below.refl _ _).setCell (p := ⟨X, 6, none⟩) (by simp; omega) (.int .i64 v.kind)).setCell (p := ⟨X, 7, none⟩) (by simp; omega) (.slice a' n' c'))
  clear x6 y6 x7 y7
  generalize (w10.setCell ⟨X, 6, none⟩ (.int .i64 v.kind)).setCell ⟨X, 7, none⟩ (.slice a' n' c') = w11 at L11 R11 r11 W11 ⊢
  go_wp2_with fail
  refine (l4Must_phi q s ⟨#[46]⟩ i10 b10 w11 r11 (by decide)).mono ?_
  rintro e w12 ⟨rfl, i12, b12, r12, p12, -, k12⟩
  have L12 := L11.keep (k12.fresh hq1)
  have R12 := k12.blk R11 (by omega)
  have W12 := W11.trans k12
  have hwt := formT_wt 9 nm ot u v
  have hl0 : (formT 9 nm ot u v).args.length ≤ 1 := Nat.zero_le _
  have hsu := u.size_eq
  have hsv := v.size_eq
  generalize formT 9 nm ot u v = t0 at L12 hwt hl0
  generalize formL a n c a' n' c' = l0 at L12
  clear L2 L3 L4 L5 L6 L7 L8 L9 L10 L11
  obtain ⟨s0, s1, s2, s3, s4, s5, s6, s7, s8⟩ := L12.box.nine
  go_wp2_with fail
  refine (HA.out (fun b => w.heap.size + 1 ≤ b) 1 (by omega) t0 l0 i12 b12 w12 r12 (by omega) (OwnP.of_own L12.own) hl0).mono ?_
  rintro e w13 ⟨t3, l3, i13, b13, rfl, LO3, r13, p13, K3⟩
  have RB := K3.blk R12 (by omega) (by omega)
  have HD := hide (GivesR.mk (i := i) (b := false) (N := 1) (base := w.heap.size + 1) hq rfl (LO3.own fun b hb => by have := R12.lt; rcases hb with hb | hb; exact hb; omega) (by omega) r13 (by omega) (K3.wrote W12 fun b hb => by omega))
  obtain ⟨q0, q1, q2, q3, q4, q5, q6, q7, q8⟩ : _ ∧ _ ∧ _ ∧ _ ∧ _ ∧ _ ∧ _ ∧ _ ∧ _ := ⟨RB.cell 0, RB.cell 1, RB.cell 2, RB.cell 3, RB.cell 4, RB.cell 5, RB.cell 6, RB.cell 7, RB.cell 8⟩
  simp at q0 q1 q2 q3 q4 q5 q6 q7 q8
  obtain ⟨z0, z1, z2, z3, z4, z5, z6, z7, z8⟩ : _ ∧ _ ∧ _ ∧ _ ∧ _ ∧ _ ∧ _ ∧ _ ∧ _ := ⟨RB.free 0, RB.free 1, RB.free 2, RB.free 3, RB.free 4, RB.free 5, RB.free 6, RB.free 7, RB.free 8⟩
  have HB := hide (put_box RB rfl t3 l3).nine
  go_wp2_with fail
  have E := putAt_zero w13 w.heap.size t3 l3
  rw [← E]
  obtain ⟨r0, r1, r2, r3, r4, r5, r6, r7, r8⟩ := HB.out
  refine bodyPost_ret (v := .agg #[.int .i64 t3.kind, .string t3.name, .string t3.other, .int .i64 t3.n, .int .i64 t3.type.kind, .slice l3.ta l3.tn l3.tc, .int .i64 t3.res.kind, .slice l3.ra l3.rn l3.rc, .slice l3.aa l3.an l3.ac]) ?_ rfl HD.out
  simp [results, Tryz.results121, go_sem, r0, r1, r2, r3, r4, r5, r6, r7, r8]
end Go.Proofs.YtklifieahcoljaaGreat

namespace Go.Proofs.YtklifieahcoljaaGreat
open Go.RowKit
set_option maxRecDepth 100000
set_option linter.unusedVariables false
set_option linter.unusedSimpArgs false

set_option maxHeartbeats 25600000 in
theorem l6Open_of (q : Nat) (s : ByteArray) (d : Nat) (H : TermC q s d) (i : Nat) (w : World) (h : Rdr w q s i false) :
    Calls Tryz.prog 113 #[.pointer (some ⟨q, 0, none⟩), .int .i64 (d : Int)] w (GivesR q s i false 10 w) := by
  have HA := hide (l6Args_of q s d H)
  have HT := hide H
  clear H
  have hq := h.lt
  have hq1 : q < w.heap.size + 1 := by omega
  have RA := (Blk.new w 29 #[.int .i64 0, .string ⟨#[]⟩, .string ⟨#[]⟩, .int .i64 0, .int .i64 0, .slice none 0 0, .int .i64 0, .slice none 0 0, .slice none 0 0]).alloc (.cells #[.int .i64 0, .string ⟨#[]⟩, .string ⟨#[]⟩, .int .i64 0, .int .i64 0, .slice none 0 0, .int .i64 0, .slice none 0 0, .slice none 0 0] 29)
  have XA := Blk.new2 w (.cells #[.int .i64 0, .string ⟨#[]⟩, .string ⟨#[]⟩, .int .i64 0, .int .i64 0, .slice none 0 0, .int .i64 0, .slice none 0 0, .slice none 0 0] 29) 29 #[.int .i64 0, .string ⟨#[]⟩, .string ⟨#[]⟩, .int .i64 0, .int .i64 0, .slice none 0 0, .int .i64 0, .slice none 0 0, .slice none 0 0]
  have ra := (h.alloc (.cells #[.int .i64 0, .string ⟨#[]⟩, .string ⟨#[]⟩, .int .i64 0, .int .i64 0, .slice none 0 0, .int .i64 0, .slice none 0 0, .slice none 0 0] 29)).alloc (.cells #[.int .i64 0, .string ⟨#[]⟩, .string ⟨#[]⟩, .int .i64 0, .int .i64 0, .slice none 0 0, .int .i64 0, .slice none 0 0, .slice none 0 0] 29)
  have WA := (Wrote.alloc q w (.cells #[.int .i64 0, .string ⟨#[]⟩, .string ⟨#[]⟩, .int .i64 0, .int .i64 0, .slice none 0 0, .int .i64 0, .slice none 0 0, .slice none 0 0] 29)).next (below_new _ (.cells #[.int .i64 0, .string ⟨#[]⟩, .string ⟨#[]⟩, .int .i64 0, .int .i64 0, .slice none 0 0, .int .i64 0, .slice none 0 0, .slice none 0 0] 29))
  go_enter Tryz.func113, Tryz.ntmps113
  go_upto_region 2 with fail
  generalize (w.alloc (.cells #[.int .i64 0, .string ⟨#[]⟩, .string ⟨#[]⟩, .int .i64 0, .int .i64 0, .slice none 0 0, .int .i64 0, .slice none 0 0, .slice none 0 0] 29)).alloc (.cells #[.int .i64 0, .string ⟨#[]⟩, .string ⟨#[]⟩, .int .i64 0, .int .i64 0, .slice none 0 0, .int .i64 0, .slice none 0 0, .slice none 0 0] 29) = wa at RA XA ra WA ⊢
  go_wp2_with fail
  refine (l4Take_good q s ⟨#[92]⟩ i wa ra (by decide)).mono ?_
  rintro e wb ⟨r, i1, rfl, rb, hr0, hr1, kb⟩
  have Rb := kb.blk RA (by omega)
  have Xb := kb.blk XA (by omega)
  have Wb := WA.trans kb
  cases r with
  | true =>
    replace hr1 : _ + 10 * 1 = _ := hr1 rfl
    clear hr0 RA XA WA
    go_wp2_with fail
    refine (l4Word_any q s i1 false wb rb).mono ?_
    rintro e w3 ⟨nm, i3, rfl, r3, hi3, hn3, k3⟩
    have R3 := k3.blk Rb (by omega)
    have X3 := k3.blk Xb (by omega)
    have W3 := Wb.trans k3
    have hn4 := r3.2
    have p3 := phi_word hi3 r3.2.1
    have L4 := LaidM.put (S := w.heap.size + 1) (base := w.heap.size + 1) (t := formT 6 nm ⟨#[]⟩ ty0 ty0) (l := formL none 0 0 none 0 0) (f1 := []) (f2 := []) (Nat.le_refl _) X3 rfl ⟨by simp [formT, i64], by simp [formT, i64], by show nm.size ≤ _; omega, Nat.zero_le _⟩ rfl rfl (TyAt.nil _ _ _ ⟨by omega, by omega⟩) (TyAt.nil _ _ _ ⟨by omega, by omega⟩) (by simp) (by simp)
    have R4 := R3.put (S := w.heap.size + 1) (by omega) (tcells (formT 6 nm ⟨#[]⟩ ty0 ty0) (formL none 0 0 none 0 0)) 0
    have r4 : Rdr (putAt w3 (w.heap.size + 1) 0 (tcells (formT 6 nm ⟨#[]⟩ ty0 ty0) (formL none 0 0 none 0 0))) q s i3 false := r3.of_heap (putAt_heap (by omega) _ _ _)
    have W4 := W3.over (putAt_below (M := w.heap.size + 1) (B := w.heap.size) (by omega) (tcells (formT 6 nm ⟨#[]⟩ ty0 ty0) (formL none 0 0 none 0 0)) w3 0 (Below.refl _ _))
    have E := putAt_zero w3 (w.heap.size + 1) (formT 6 nm ⟨#[]⟩ ty0 ty0) (formL none 0 0 none 0 0)
    generalize putAt w3 (w.heap.size + 1) 0 (tcells (formT 6 nm ⟨#[]⟩ ty0 ty0) (formL none 0 0 none 0 0)) = w4 at L4 R4 r4 W4 E
    dsimp only [formT, formL, ty0] at E
    replace E := hide E
    obtain ⟨q0, q1, q2, q3, q4, q5, q6, q7, q8⟩ : _ ∧ _ ∧ _ ∧ _ ∧ _ ∧ _ ∧ _ ∧ _ ∧ _ := ⟨X3.cell 0, X3.cell 1, X3.cell 2, X3.cell 3, X3.cell 4, X3.cell 5, X3.cell 6, X3.cell 7, X3.cell 8⟩
    simp at q0 q1 q2 q3 q4 q5 q6 q7 q8
    obtain ⟨z0, z1, z2, z3, z4, z5, z6, z7, z8⟩ : _ ∧ _ ∧ _ ∧ _ ∧ _ ∧ _ ∧ _ ∧ _ ∧ _ := ⟨X3.free 0, X3.free 1, X3.free 2, X3.free 3, X3.free 4, X3.free 5, X3.free 6, X3.free 7, X3.free 8⟩
    go_upto_region 4 with fail
    rw [← E.out]
    clear E q0 q1 q2 q3 q4 q5 q6 q7 q8 z0 z1 z2 z3 z4 z5 z6 z7 z8 X3 R3
    go_wp2_with fail
    refine (l4Must_phi q s ⟨#[58]⟩ i3 false w4 r4 (by decide)).mono ?_
    rintro e w6 ⟨rfl, i6, b6, r6, p6, -, k6⟩
    have L6 := L4.keep (k6.fresh hq1)
    have R6 := k6.blk R4 (by omega)
    have W6 := W4.trans k6
    have lX6 := L6.lt
    go_wp2_with fail
    refine (l4Type_any q s 8 1 rfl i6 b6 w6 r6).mono ?_
    rintro e w7 ⟨u, a, n, c, i7, b7, rfl, T7, r7, p7, k7⟩
    have L7 := L6.keep (k7.fresh hq1)
    have R7 := k7.blk R6 (by omega)
    have W7 := W6.trans k7
    have x4 := L7.box.cell 4
    have y4 := L7.box.free 4
    have x5 := L7.box.cell 5
    have y5 := L7.box.free 5
    go_upto_region 6 with fail
    have L8 := L7.typ T7 lX6
    have R8 := (R7.aside (p := ⟨w.heap.size + 1, 4, none⟩) (by simp) (.int .i64 u.kind)).aside (p := ⟨w.heap.size + 1, 5, none⟩) (by simp) (.slice a n c)
    have r8 := (r7.set_ (p := ⟨w.heap.size + 1, 4, none⟩) (by simp; omega) (.int .i64 u.kind)).set_ (p := ⟨w.heap.size + 1, 5, none⟩) (by simp; omega) (.slice a n c)
    have W8 := W7.over (((Below.refl _ _).setCell (p := ⟨w.heap.size + 1, 4, none⟩) (by simp) (.int .i64 u.kind)).setCell (p := ⟨w.heap.size + 1, 5, none⟩) (by simp) (.slice a n c))
    clear x4 y4 x5 y5
    generalize (w7.setCell ⟨w.heap.size + 1, 4, none⟩ (.int .i64 u.kind)).setCell ⟨w.heap.size + 1, 5, none⟩ (.slice a n c) = w8 at L8 R8 r8 W8 ⊢
    go_wp2_with fail
    refine (l4Must_phi q s ⟨#[46]⟩ i7 b7 w8 r8 (by decide)).mono ?_
    rintro e w12 ⟨rfl, i12, b12, r12, p12, -, k12⟩
    have L12 := L8.keep (k12.fresh hq1)
    have R12 := k12.blk R8 (by omega)
    have W12 := W8.trans k12
    have hwt := formT_wt 6 nm ⟨#[]⟩ u ty0
    have hz0 : (ByteArray.mk #[]).size = 0 := rfl
    have hz1 : Ty.sizes ty0.args = 0 := by rw [ty0, Ty.sizes]
    have hl0 : (formT 6 nm ⟨#[]⟩ u ty0).args.length ≤ 1 := Nat.zero_le _
    have hsu := u.size_eq
    generalize formT 6 nm ⟨#[]⟩ u ty0 = t0 at L12 hwt hl0
    generalize formL a n c none 0 0 = l0 at L12
    clear L4 L6 L7 L8
    obtain ⟨s0, s1, s2, s3, s4, s5, s6, s7, s8⟩ := L12.box.nine
    go_wp2_with fail
    refine (HA.out (fun b => w.heap.size + 1 ≤ b) 1 (by omega) t0 l0 i12 b12 w12 r12 (by omega) (OwnP.of_own L12.own) hl0).mono ?_
    rintro e w13 ⟨t3, l3, i13, b13, rfl, LO3, r13, p13, K3⟩
    have RB := K3.blk R12 (by omega) (by omega)
    have HD := hide (GivesR.mk (i := i) (b := false) (N := 10) (base := w.heap.size + 1) hq rfl (LO3.own fun b hb => by have := R12.lt; rcases hb with hb | hb; exact hb; omega) (by omega) r13 (by omega) (K3.wrote W12 fun b hb => by omega))
    obtain ⟨q0, q1, q2, q3, q4, q5, q6, q7, q8⟩ : _ ∧ _ ∧ _ ∧ _ ∧ _ ∧ _ ∧ _ ∧ _ ∧ _ := ⟨RB.cell 0, RB.cell 1, RB.cell 2, RB.cell 3, RB.cell 4, RB.cell 5, RB.cell 6, RB.cell 7, RB.cell 8⟩
    simp at q0 q1 q2 q3 q4 q5 q6 q7 q8
    obtain ⟨z0, z1, z2, z3, z4, z5, z6, z7, z8⟩ : _ ∧ _ ∧ _ ∧ _ ∧ _ ∧ _ ∧ _ ∧ _ ∧ _ := ⟨RB.free 0, RB.free 1, RB.free 2, RB.free 3, RB.free 4, RB.free 5, RB.free 6, RB.free 7, RB.free 8⟩
    have HB := hide (put_box RB rfl t3 l3).nine
    go_wp2_with fail
    have E := putAt_zero w13 w.heap.size t3 l3
    rw [← E]
    obtain ⟨r0, r1, r2, r3, r4, r5, r6, r7, r8⟩ := HB.out
    refine bodyPost_ret (v := .agg #[.int .i64 t3.kind, .string t3.name, .string t3.other, .int .i64 t3.n, .int .i64 t3.type.kind, .slice l3.ta l3.tn l3.tc, .int .i64 t3.res.kind, .slice l3.ra l3.rn l3.rc, .slice l3.aa l3.an l3.ac]) ?_ rfl HD.out
    simp [results, Tryz.results113, go_sem, r0, r1, r2, r3, r4, r5, r6, r7, r8]
  | false =>
    have hi2 := (hr0 rfl).symm
    subst hi2
    clear hr0 hr1 RA XA WA ra kb
    have RA := Rb
    have XA := Xb
    have ra := rb
    have WA := Wb
    clear Rb Xb rb Wb
    generalize wb = wa at RA XA ra WA ⊢
    go_wp2_with fail
    refine (l4Take_good q s ⟨#[108, 101, 116, 32]⟩ i wa ra (by decide)).mono ?_
    rintro e wb ⟨r, i1, rfl, rb, hr0, hr1, kb⟩
    have Rb := kb.blk RA (by omega)
    have Xb := kb.blk XA (by omega)
    have Wb := WA.trans kb
    cases r with
    | true =>
      replace hr1 : _ + 10 * 4 = _ := hr1 rfl
      clear hr0 RA XA WA
      go_wp2_with fail
      refine (l4Word_any q s i1 false wb rb).mono ?_
      rintro e w3 ⟨nm, i3, rfl, r3, hi3, hn3, k3⟩
      have R3 := k3.blk Rb (by omega)
      have X3 := k3.blk Xb (by omega)
      have W3 := Wb.trans k3
      have hn4 := r3.2
      have p3 := phi_word hi3 r3.2.1
      have L4 := LaidM.put (S := w.heap.size + 1) (base := w.heap.size + 1) (t := formT 8 nm ⟨#[]⟩ ty0 ty0) (l := formL none 0 0 none 0 0) (f1 := []) (f2 := []) (Nat.le_refl _) X3 rfl ⟨by simp [formT, i64], by simp [formT, i64], by show nm.size ≤ _; omega, Nat.zero_le _⟩ rfl rfl (TyAt.nil _ _ _ ⟨by omega, by omega⟩) (TyAt.nil _ _ _ ⟨by omega, by omega⟩) (by simp) (by simp)
      have R4 := R3.put (S := w.heap.size + 1) (by omega) (tcells (formT 8 nm ⟨#[]⟩ ty0 ty0) (formL none 0 0 none 0 0)) 0
      have r4 : Rdr (putAt w3 (w.heap.size + 1) 0 (tcells (formT 8 nm ⟨#[]⟩ ty0 ty0) (formL none 0 0 none 0 0))) q s i3 false := r3.of_heap (putAt_heap (by omega) _ _ _)
      have W4 := W3.over (putAt_below (M := w.heap.size + 1) (B := w.heap.size) (by omega) (tcells (formT 8 nm ⟨#[]⟩ ty0 ty0) (formL none 0 0 none 0 0)) w3 0 (Below.refl _ _))
      have E := putAt_zero w3 (w.heap.size + 1) (formT 8 nm ⟨#[]⟩ ty0 ty0) (formL none 0 0 none 0 0)
      generalize putAt w3 (w.heap.size + 1) 0 (tcells (formT 8 nm ⟨#[]⟩ ty0 ty0) (formL none 0 0 none 0 0)) = w4 at L4 R4 r4 W4 E
      dsimp only [formT, formL, ty0] at E
      replace E := hide E
      obtain ⟨q0, q1, q2, q3, q4, q5, q6, q7, q8⟩ : _ ∧ _ ∧ _ ∧ _ ∧ _ ∧ _ ∧ _ ∧ _ ∧ _ := ⟨X3.cell 0, X3.cell 1, X3.cell 2, X3.cell 3, X3.cell 4, X3.cell 5, X3.cell 6, X3.cell 7, X3.cell 8⟩
      simp at q0 q1 q2 q3 q4 q5 q6 q7 q8
      obtain ⟨z0, z1, z2, z3, z4, z5, z6, z7, z8⟩ : _ ∧ _ ∧ _ ∧ _ ∧ _ ∧ _ ∧ _ ∧ _ ∧ _ := ⟨X3.free 0, X3.free 1, X3.free 2, X3.free 3, X3.free 4, X3.free 5, X3.free 6, X3.free 7, X3.free 8⟩
      go_upto_region 10 with fail
      rw [← E.out]
      clear E q0 q1 q2 q3 q4 q5 q6 q7 q8 z0 z1 z2 z3 z4 z5 z6 z7 z8 X3 R3
      go_wp2_with fail
      refine (l4Must_phi q s ⟨#[61]⟩ i3 false w4 r4 (by decide)).mono ?_
      rintro e w12 ⟨rfl, i12, b12, r12, p12, -, k12⟩
      have L12 := L4.keep (k12.fresh hq1)
      have R12 := k12.blk R4 (by omega)
      have W12 := W4.trans k12
      have hwt := formT_wt 8 nm ⟨#[]⟩ ty0 ty0
      have hz0 : (ByteArray.mk #[]).size = 0 := rfl
      have hz1 : Ty.sizes ty0.args = 0 := by rw [ty0, Ty.sizes]
      have hl0 : (formT 8 nm ⟨#[]⟩ ty0 ty0).args.length ≤ 1 := Nat.zero_le _
      generalize formT 8 nm ⟨#[]⟩ ty0 ty0 = t0 at L12 hwt hl0
      generalize formL none 0 0 none 0 0 = l0 at L12
      clear L4
      obtain ⟨s0, s1, s2, s3, s4, s5, s6, s7, s8⟩ := L12.box.nine
      go_wp2_with fail
      refine (HA.out (fun b => w.heap.size + 1 ≤ b) 2 (by omega) t0 l0 i12 b12 w12 r12 (by omega) (OwnP.of_own L12.own) hl0).mono ?_
      rintro e w13 ⟨t3, l3, i13, b13, rfl, LO3, r13, p13, K3⟩
      have RB := K3.blk R12 (by omega) (by omega)
      have HD := hide (GivesR.mk (i := i) (b := false) (N := 10) (base := w.heap.size + 1) hq rfl (LO3.own fun b hb => by have := R12.lt; rcases hb with hb | hb; exact hb; omega) (by omega) r13 (by omega) (K3.wrote W12 fun b hb => by omega))
      obtain ⟨q0, q1, q2, q3, q4, q5, q6, q7, q8⟩ : _ ∧ _ ∧ _ ∧ _ ∧ _ ∧ _ ∧ _ ∧ _ ∧ _ := ⟨RB.cell 0, RB.cell 1, RB.cell 2, RB.cell 3, RB.cell 4, RB.cell 5, RB.cell 6, RB.cell 7, RB.cell 8⟩
      simp at q0 q1 q2 q3 q4 q5 q6 q7 q8
      obtain ⟨z0, z1, z2, z3, z4, z5, z6, z7, z8⟩ : _ ∧ _ ∧ _ ∧ _ ∧ _ ∧ _ ∧ _ ∧ _ ∧ _ := ⟨RB.free 0, RB.free 1, RB.free 2, RB.free 3, RB.free 4, RB.free 5, RB.free 6, RB.free 7, RB.free 8⟩
      have HB := hide (put_box RB rfl t3 l3).nine
      go_wp2_with fail
      have E := putAt_zero w13 w.heap.size t3 l3
      rw [← E]
      obtain ⟨r0, r1, r2, r3, r4, r5, r6, r7, r8⟩ := HB.out
      refine bodyPost_ret (v := .agg #[.int .i64 t3.kind, .string t3.name, .string t3.other, .int .i64 t3.n, .int .i64 t3.type.kind, .slice l3.ta l3.tn l3.tc, .int .i64 t3.res.kind, .slice l3.ra l3.rn l3.rc, .slice l3.aa l3.an l3.ac]) ?_ rfl HD.out
      simp [results, Tryz.results113, go_sem, r0, r1, r2, r3, r4, r5, r6, r7, r8]
    | false =>
      have hi2 := (hr0 rfl).symm
      subst hi2
      clear hr0 hr1 RA XA WA ra kb
      have RA := Rb
      have XA := Xb
      have ra := rb
      have WA := Wb
      clear Rb Xb rb Wb
      generalize wb = wa at RA XA ra WA ⊢
      go_wp2_with fail
      refine (l4Take_good q s ⟨#[114, 101, 99, 32]⟩ i wa ra (by decide)).mono ?_
      rintro e wb ⟨r, i1, rfl, rb, hr0, hr1, kb⟩
      have Rb := kb.blk RA (by omega)
      have Xb := kb.blk XA (by omega)
      have Wb := WA.trans kb
      cases r with
      | true =>
        replace hr1 : _ + 10 * 4 = _ := hr1 rfl
        clear hr0 RA XA WA
        go_wp2_with fail
        refine (l6Rec_of q s d HT.out i1 wb rb).mono ?_
        rintro e w13 ⟨t3, l3, i13, b13, rfl, LO3, r13, p13, K3⟩
        have RB := K3.blk Rb (by omega)
        have HD := hide (GivesR.mk (i := i) (b := false) (N := 10) (base := w.heap.size + 1) hq rfl (LO3.base (by have := Rb.lt; omega)) (by omega) r13 (by omega) (Wb.trans K3))
        obtain ⟨q0, q1, q2, q3, q4, q5, q6, q7, q8⟩ : _ ∧ _ ∧ _ ∧ _ ∧ _ ∧ _ ∧ _ ∧ _ ∧ _ := ⟨RB.cell 0, RB.cell 1, RB.cell 2, RB.cell 3, RB.cell 4, RB.cell 5, RB.cell 6, RB.cell 7, RB.cell 8⟩
        simp at q0 q1 q2 q3 q4 q5 q6 q7 q8
        obtain ⟨z0, z1, z2, z3, z4, z5, z6, z7, z8⟩ : _ ∧ _ ∧ _ ∧ _ ∧ _ ∧ _ ∧ _ ∧ _ ∧ _ := ⟨RB.free 0, RB.free 1, RB.free 2, RB.free 3, RB.free 4, RB.free 5, RB.free 6, RB.free 7, RB.free 8⟩
        have HB := hide (put_box RB rfl t3 l3).nine
        go_wp2_with fail
        have E := putAt_zero w13 w.heap.size t3 l3
        rw [← E]
        obtain ⟨r0, r1, r2, r3, r4, r5, r6, r7, r8⟩ := HB.out
        refine bodyPost_ret (v := .agg #[.int .i64 t3.kind, .string t3.name, .string t3.other, .int .i64 t3.n, .int .i64 t3.type.kind, .slice l3.ta l3.tn l3.tc, .int .i64 t3.res.kind, .slice l3.ra l3.rn l3.rc, .slice l3.aa l3.an l3.ac]) ?_ rfl HD.out
        simp [results, Tryz.results113, go_sem, r0, r1, r2, r3, r4, r5, r6, r7, r8]
      | false =>
        have hi2 := (hr0 rfl).symm
        subst hi2
        clear hr0 hr1 RA XA WA ra kb
        have RA := Rb
        have XA := Xb
        have ra := rb
        have WA := Wb
        clear Rb Xb rb Wb
        generalize wb = wa at RA XA ra WA ⊢
        go_wp2_with fail
        refine (l4Take_good q s ⟨#[105, 102, 32]⟩ i wa ra (by decide)).mono ?_
        rintro e wb ⟨r, i1, rfl, rb, hr0, hr1, kb⟩
        have Rb := kb.blk RA (by omega)
        have Xb := kb.blk XA (by omega)
        have Wb := WA.trans kb
        cases r with
        | true =>
          replace hr1 : _ + 10 * 3 = _ := hr1 rfl
          clear hr0 RA XA WA
          have hwt := leafM_wt 5 0 ⟨#[]⟩
          have hz0 : (ByteArray.mk #[]).size = 0 := rfl
          have hz1 : (ByteArray.mk #[33]).size = 1 := rfl
          have LOx := OwnP.of_own (leafM_own (w.heap.size + 1) wb (k := 5) (n := 0) (nm := ⟨#[]⟩) (by simp [i64]) (by simp [i64]) (by decide))
          have CX := hide (HA.out (fun b => w.heap.size + 1 ≤ b) 3 (by omega) (leafM 5 0 ⟨#[]⟩) lt0 i1 false wb rb (by omega) LOx (Nat.zero_le _))
          dsimp only [leafM, lt0, ty0] at CX
          go_wp2_with fail
          refine CX.out.mono ?_
          rintro e w13 ⟨t3, l3, i13, b13, rfl, LO3, r13, p13, K3⟩
          change t3.wt + phi s i13 b13 ≤ (leafM 5 0 ⟨#[]⟩).wt + 3 + phi s i1 false at p13
          have RB := K3.blk Rb (by omega) (by omega)
          have HD := hide (GivesR.mk (i := i) (b := false) (N := 10) (base := w.heap.size + 1) hq rfl (LO3.own fun b hb => by have := Rb.lt; rcases hb with hb | hb; exact hb; omega) (by omega) r13 (by omega) (K3.wrote Wb fun b hb => by omega))
          obtain ⟨q0, q1, q2, q3, q4, q5, q6, q7, q8⟩ : _ ∧ _ ∧ _ ∧ _ ∧ _ ∧ _ ∧ _ ∧ _ ∧ _ := ⟨RB.cell 0, RB.cell 1, RB.cell 2, RB.cell 3, RB.cell 4, RB.cell 5, RB.cell 6, RB.cell 7, RB.cell 8⟩
          simp at q0 q1 q2 q3 q4 q5 q6 q7 q8
          obtain ⟨z0, z1, z2, z3, z4, z5, z6, z7, z8⟩ : _ ∧ _ ∧ _ ∧ _ ∧ _ ∧ _ ∧ _ ∧ _ ∧ _ := ⟨RB.free 0, RB.free 1, RB.free 2, RB.free 3, RB.free 4, RB.free 5, RB.free 6, RB.free 7, RB.free 8⟩
          have HB := hide (put_box RB rfl t3 l3).nine
          go_wp2_with fail
          have E := putAt_zero w13 w.heap.size t3 l3
          rw [← E]
          obtain ⟨r0, r1, r2, r3, r4, r5, r6, r7, r8⟩ := HB.out
          refine bodyPost_ret (v := .agg #[.int .i64 t3.kind, .string t3.name, .string t3.other, .int .i64 t3.n, .int .i64 t3.type.kind, .slice l3.ta l3.tn l3.tc, .int .i64 t3.res.kind, .slice l3.ra l3.rn l3.rc, .slice l3.aa l3.an l3.ac]) ?_ rfl HD.out
          simp [results, Tryz.results113, go_sem, r0, r1, r2, r3, r4, r5, r6, r7, r8]
        | false =>
          have hi2 := (hr0 rfl).symm
          subst hi2
          clear hr0 hr1 RA XA WA ra kb
          have RA := Rb
          have XA := Xb
          have ra := rb
          have WA := Wb
          clear Rb Xb rb Wb
          generalize wb = wa at RA XA ra WA ⊢
          go_wp2_with fail
          refine (l4Take_good q s ⟨#[114, 117, 110, 32]⟩ i wa ra (by decide)).mono ?_
          rintro e wb ⟨r, i1, rfl, rb, hr0, hr1, kb⟩
          have Rb := kb.blk RA (by omega)
          have Xb := kb.blk XA (by omega)
          have Wb := WA.trans kb
          cases r with
          | true =>
            replace hr1 : _ + 10 * 4 = _ := hr1 rfl
            clear hr0 RA XA WA
            have hwt := leafM_wt 12 0 ⟨#[]⟩
            have hz0 : (ByteArray.mk #[]).size = 0 := rfl
            have hz1 : (ByteArray.mk #[33]).size = 1 := rfl
            have LOx := OwnP.of_own (leafM_own (w.heap.size + 1) wb (k := 12) (n := 0) (nm := ⟨#[]⟩) (by simp [i64]) (by simp [i64]) (by decide))
            have CX := hide (HA.out (fun b => w.heap.size + 1 ≤ b) 1 (by omega) (leafM 12 0 ⟨#[]⟩) lt0 i1 false wb rb (by omega) LOx (Nat.zero_le _))
            dsimp only [leafM, lt0, ty0] at CX
            go_wp2_with fail
            refine CX.out.mono ?_
            rintro e w13 ⟨t3, l3, i13, b13, rfl, LO3, r13, p13, K3⟩
            change t3.wt + phi s i13 b13 ≤ (leafM 12 0 ⟨#[]⟩).wt + 1 + phi s i1 false at p13
            have RB := K3.blk Rb (by omega) (by omega)
            have HD := hide (GivesR.mk (i := i) (b := false) (N := 10) (base := w.heap.size + 1) hq rfl (LO3.own fun b hb => by have := Rb.lt; rcases hb with hb | hb; exact hb; omega) (by omega) r13 (by omega) (K3.wrote Wb fun b hb => by omega))
            obtain ⟨q0, q1, q2, q3, q4, q5, q6, q7, q8⟩ : _ ∧ _ ∧ _ ∧ _ ∧ _ ∧ _ ∧ _ ∧ _ ∧ _ := ⟨RB.cell 0, RB.cell 1, RB.cell 2, RB.cell 3, RB.cell 4, RB.cell 5, RB.cell 6, RB.cell 7, RB.cell 8⟩
            simp at q0 q1 q2 q3 q4 q5 q6 q7 q8
            obtain ⟨z0, z1, z2, z3, z4, z5, z6, z7, z8⟩ : _ ∧ _ ∧ _ ∧ _ ∧ _ ∧ _ ∧ _ ∧ _ ∧ _ := ⟨RB.free 0, RB.free 1, RB.free 2, RB.free 3, RB.free 4, RB.free 5, RB.free 6, RB.free 7, RB.free 8⟩
            have HB := hide (put_box RB rfl t3 l3).nine
            go_wp2_with fail
            have E := putAt_zero w13 w.heap.size t3 l3
            rw [← E]
            obtain ⟨r0, r1, r2, r3, r4, r5, r6, r7, r8⟩ := HB.out
            refine bodyPost_ret (v := .agg #[.int .i64 t3.kind, .string t3.name, .string t3.other, .int .i64 t3.n, .int .i64 t3.type.kind, .slice l3.ta l3.tn l3.tc, .int .i64 t3.res.kind, .slice l3.ra l3.rn l3.rc, .slice l3.aa l3.an l3.ac]) ?_ rfl HD.out
            simp [results, Tryz.results113, go_sem, r0, r1, r2, r3, r4, r5, r6, r7, r8]
          | false =>
            have hi2 := (hr0 rfl).symm
            subst hi2
            clear hr0 hr1 RA XA WA ra kb
            have RA := Rb
            have XA := Xb
            have ra := rb
            have WA := Wb
            clear Rb Xb rb Wb
            generalize wb = wa at RA XA ra WA ⊢
            go_wp2_with fail
            refine (l4Take_good q s ⟨#[108, 105, 102, 116, 32]⟩ i wa ra (by decide)).mono ?_
            rintro e wb ⟨r, i1, rfl, rb, hr0, hr1, kb⟩
            have Rb := kb.blk RA (by omega)
            have Xb := kb.blk XA (by omega)
            have Wb := WA.trans kb
            cases r with
            | true =>
              replace hr1 : _ + 10 * 5 = _ := hr1 rfl
              clear hr0 RA XA WA
              have hwt := leafM_wt 13 0 ⟨#[]⟩
              have hz0 : (ByteArray.mk #[]).size = 0 := rfl
              have hz1 : (ByteArray.mk #[33]).size = 1 := rfl
              have LOx := OwnP.of_own (leafM_own (w.heap.size + 1) wb (k := 13) (n := 0) (nm := ⟨#[]⟩) (by simp [i64]) (by simp [i64]) (by decide))
              have CX := hide (HA.out (fun b => w.heap.size + 1 ≤ b) 1 (by omega) (leafM 13 0 ⟨#[]⟩) lt0 i1 false wb rb (by omega) LOx (Nat.zero_le _))
              dsimp only [leafM, lt0, ty0] at CX
              go_wp2_with fail
              refine CX.out.mono ?_
              rintro e w13 ⟨t3, l3, i13, b13, rfl, LO3, r13, p13, K3⟩
              change t3.wt + phi s i13 b13 ≤ (leafM 13 0 ⟨#[]⟩).wt + 1 + phi s i1 false at p13
              have RB := K3.blk Rb (by omega) (by omega)
              have HD := hide (GivesR.mk (i := i) (b := false) (N := 10) (base := w.heap.size + 1) hq rfl (LO3.own fun b hb => by have := Rb.lt; rcases hb with hb | hb; exact hb; omega) (by omega) r13 (by omega) (K3.wrote Wb fun b hb => by omega))
              obtain ⟨q0, q1, q2, q3, q4, q5, q6, q7, q8⟩ : _ ∧ _ ∧ _ ∧ _ ∧ _ ∧ _ ∧ _ ∧ _ ∧ _ := ⟨RB.cell 0, RB.cell 1, RB.cell 2, RB.cell 3, RB.cell 4, RB.cell 5, RB.cell 6, RB.cell 7, RB.cell 8⟩
              simp at q0 q1 q2 q3 q4 q5 q6 q7 q8
              obtain ⟨z0, z1, z2, z3, z4, z5, z6, z7, z8⟩ : _ ∧ _ ∧ _ ∧ _ ∧ _ ∧ _ ∧ _ ∧ _ ∧ _ := ⟨RB.free 0, RB.free 1, RB.free 2, RB.free 3, RB.free 4, RB.free 5, RB.free 6, RB.free 7, RB.free 8⟩
              have HB := hide (put_box RB rfl t3 l3).nine
              go_wp2_with fail
              have E := putAt_zero w13 w.heap.size t3 l3
              rw [← E]
              obtain ⟨r0, r1, r2, r3, r4, r5, r6, r7, r8⟩ := HB.out
              refine bodyPost_ret (v := .agg #[.int .i64 t3.kind, .string t3.name, .string t3.other, .int .i64 t3.n, .int .i64 t3.type.kind, .slice l3.ta l3.tn l3.tc, .int .i64 t3.res.kind, .slice l3.ra l3.rn l3.rc, .slice l3.aa l3.an l3.ac]) ?_ rfl HD.out
              simp [results, Tryz.results113, go_sem, r0, r1, r2, r3, r4, r5, r6, r7, r8]
            | false =>
              have hi2 := (hr0 rfl).symm
              subst hi2
              clear hr0 hr1 RA XA WA ra kb
              have RA := Rb
              have XA := Xb
              have ra := rb
              have WA := Wb
              clear Rb Xb rb Wb
              generalize wb = wa at RA XA ra WA ⊢
              go_wp2_with fail
              refine (l4Take_good q s ⟨#[33]⟩ i wa ra (by decide)).mono ?_
              rintro e wb ⟨r, i1, rfl, rb, hr0, hr1, kb⟩
              have Rb := kb.blk RA (by omega)
              have Xb := kb.blk XA (by omega)
              have Wb := WA.trans kb
              cases r with
              | true =>
                replace hr1 : _ + 10 * 1 = _ := hr1 rfl
                clear hr0 RA XA WA
                have hwt := leafM_wt 4 0 ⟨#[33]⟩
                have hz0 : (ByteArray.mk #[]).size = 0 := rfl
                have hz1 : (ByteArray.mk #[33]).size = 1 := rfl
                have LOx := OwnP.of_own (leafM_own (w.heap.size + 1) wb (k := 4) (n := 0) (nm := ⟨#[33]⟩) (by simp [i64]) (by simp [i64]) (by decide))
                have CX := hide (HA.out (fun b => w.heap.size + 1 ≤ b) 1 (by omega) (leafM 4 0 ⟨#[33]⟩) lt0 i1 false wb rb (by omega) LOx (Nat.zero_le _))
                dsimp only [leafM, lt0, ty0] at CX
                go_wp2_with fail
                refine CX.out.mono ?_
                rintro e w13 ⟨t3, l3, i13, b13, rfl, LO3, r13, p13, K3⟩
                change t3.wt + phi s i13 b13 ≤ (leafM 4 0 ⟨#[33]⟩).wt + 1 + phi s i1 false at p13
                have RB := K3.blk Rb (by omega) (by omega)
                have HD := hide (GivesR.mk (i := i) (b := false) (N := 10) (base := w.heap.size + 1) hq rfl (LO3.own fun b hb => by have := Rb.lt; rcases hb with hb | hb; exact hb; omega) (by omega) r13 (by omega) (K3.wrote Wb fun b hb => by omega))
                obtain ⟨q0, q1, q2, q3, q4, q5, q6, q7, q8⟩ : _ ∧ _ ∧ _ ∧ _ ∧ _ ∧ _ ∧ _ ∧ _ ∧ _ := ⟨RB.cell 0, RB.cell 1, RB.cell 2, RB.cell 3, RB.cell 4, RB.cell 5, RB.cell 6, RB.cell 7, RB.cell 8⟩
                simp at q0 q1 q2 q3 q4 q5 q6 q7 q8
                obtain ⟨z0, z1, z2, z3, z4, z5, z6, z7, z8⟩ : _ ∧ _ ∧ _ ∧ _ ∧ _ ∧ _ ∧ _ ∧ _ ∧ _ := ⟨RB.free 0, RB.free 1, RB.free 2, RB.free 3, RB.free 4, RB.free 5, RB.free 6, RB.free 7, RB.free 8⟩
                have HB := hide (put_box RB rfl t3 l3).nine
                go_wp2_with fail
                have E := putAt_zero w13 w.heap.size t3 l3
                rw [← E]
                obtain ⟨r0, r1, r2, r3, r4, r5, r6, r7, r8⟩ := HB.out
                refine bodyPost_ret (v := .agg #[.int .i64 t3.kind, .string t3.name, .string t3.other, .int .i64 t3.n, .int .i64 t3.type.kind, .slice l3.ta l3.tn l3.tc, .int .i64 t3.res.kind, .slice l3.ra l3.rn l3.rc, .slice l3.aa l3.an l3.ac]) ?_ rfl HD.out
                simp [results, Tryz.results113, go_sem, r0, r1, r2, r3, r4, r5, r6, r7, r8]
              | false =>
                have hi2 := (hr0 rfl).symm
                subst hi2
                clear hr0 hr1 RA XA WA ra kb
                have RA := Rb
                have XA := Xb
                have ra := rb
                have WA := Wb
                clear Rb Xb rb Wb
                generalize wb = wa at RA XA ra WA ⊢
                go_wp2_with fail
                refine (HT.out i false wa ra).mono ?_
                rintro e w5 ⟨t5, l5, i5, b5, rfl, O5, r5, p5, k5⟩
                have R5 := k5.blk RA (by omega)
                have W5 := WA.trans k5
                have O6 := OwnP.of_own (O5.base (show w.heap.size + 1 ≤ wa.heap.size by have := RA.lt; omega))
                go_wp2_with fail
                refine (l6Rest_of q s d HT.out (fun b => w.heap.size + 1 ≤ b) t5 l5 i5 b5 w5 r5 (by omega) O6).mono ?_
                rintro e w13 ⟨t3, l3, i13, b13, rfl, LO3, r13, p13, K3⟩
                have RB := K3.blk R5 (by omega) (by omega)
                have HD := hide (GivesR.mk (i := i) (b := false) (N := 10) (base := w.heap.size + 1) hq rfl (LO3.own fun b hb => by have := R5.lt; rcases hb with hb | hb; exact hb; omega) (by omega) r13 (by omega) (K3.wrote W5 fun b hb => by omega))
                obtain ⟨q0, q1, q2, q3, q4, q5, q6, q7, q8⟩ : _ ∧ _ ∧ _ ∧ _ ∧ _ ∧ _ ∧ _ ∧ _ ∧ _ := ⟨RB.cell 0, RB.cell 1, RB.cell 2, RB.cell 3, RB.cell 4, RB.cell 5, RB.cell 6, RB.cell 7, RB.cell 8⟩
                simp at q0 q1 q2 q3 q4 q5 q6 q7 q8
                obtain ⟨z0, z1, z2, z3, z4, z5, z6, z7, z8⟩ : _ ∧ _ ∧ _ ∧ _ ∧ _ ∧ _ ∧ _ ∧ _ ∧ _ := ⟨RB.free 0, RB.free 1, RB.free 2, RB.free 3, RB.free 4, RB.free 5, RB.free 6, RB.free 7, RB.free 8⟩
                have HB := hide (put_box RB rfl t3 l3).nine
                go_wp2_with fail
                have E := putAt_zero w13 w.heap.size t3 l3
                rw [← E]
                obtain ⟨r0, r1, r2, r3, r4, r5, r6, r7, r8⟩ := HB.out
                refine bodyPost_ret (v := .agg #[.int .i64 t3.kind, .string t3.name, .string t3.other, .int .i64 t3.n, .int .i64 t3.type.kind, .slice l3.ta l3.tn l3.tc, .int .i64 t3.res.kind, .slice l3.ra l3.rn l3.rc, .slice l3.aa l3.an l3.ac]) ?_ rfl HD.out
                simp [results, Tryz.results113, go_sem, r0, r1, r2, r3, r4, r5, r6, r7, r8]
end Go.Proofs.YtklifieahcoljaaGreat
