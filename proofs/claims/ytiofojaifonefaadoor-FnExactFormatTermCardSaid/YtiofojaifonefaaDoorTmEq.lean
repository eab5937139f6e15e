/-
  The walks of eqTerm and eqTermS at two readings of one tree: they answer true.
-/
import Derived.Test.YtiofojaifonefaaDoorTm
import Derived.Test.YtiofojaifonefaaDoorEq
namespace Go.Proofs.YtiofojaifonefaaDoor
open Go.RowKit
set_option maxRecDepth 100000
set_option linter.unusedVariables false
set_option linter.unusedSimpArgs false

set_option maxHeartbeats 800000 in
theorem eqTermS_of (xs : List Tm)
    (ih : ∀ t ∈ xs, ∀ (l l' : Lt) (w : World), Md w t l → Md w t l' → Calls Tryd.prog 9 #[.agg #[.int .i64 t.kind, .string t.name, .string t.other, .int .i64 t.n, .int .i64 t.type.kind, .slice l.ta l.tn l.tc, .int .i64 t.res.kind, .slice l.ra l.rn l.rc, .slice l.aa l.an l.ac], .agg #[.int .i64 t.kind, .string t.name, .string t.other, .int .i64 t.n, .int .i64 t.type.kind, .slice l'.ta l'.tn l'.tc, .int .i64 t.res.kind, .slice l'.ra l'.rn l'.rc, .slice l'.aa l'.an l'.ac]] w fun e w' => e = .returned (.bool true) ∧ Below w.heap.size w w')
    (a a' : Option Addr) (n cap cap' : Nat) (w : World) (h : Mds w xs a n cap) (h' : Mds w xs a' n cap') :
    Calls Tryd.prog 21 #[.slice a n cap, .slice a' n cap'] w fun e w' => e = .returned (.bool true) ∧ Below w.heap.size w w' := by
  have IH := hide ih
  clear ih
  have hn : n ≤ 9223372036854775807 := by obtain ⟨_, h2, h3, _⟩ := h; unfold maxLen at h3; omega
  go_enter Tryd.func21, Tryd.ntmps21
  go_wp2_with fail
  go_loopw [5] (fun i wr => ∃ k : Nat, k ≤ n ∧ i = .int .i64 k ∧ Below w.heap.size w wr) (fun i _ => n - (intOf i).toNat)
  case atStart => exact ⟨0, by omega, rfl, Below.refl _ _⟩
  case round =>
    obtain ⟨k, hk, rfl, hb⟩ := hrel
    have hsz := hb.size
    by_cases hkn : k < n
    · have hkx : k < xs.length := by rw [← h.1]; exact hkn
      obtain ⟨b, off, l, rfl, hlt, hc, hr⟩ := (h.below hb).get k hkx
      obtain ⟨b', off', l', rfl, hlt', hc', hr'⟩ := (h'.below hb).get k hkx
      obtain ⟨e0, e1, e2, e3, e4, e5, e6, e7, e8⟩ := hc.nine
      obtain ⟨f0, f1, f2, f3, f4, f5, f6, f7, f8⟩ := hc'.nine
      clear hc hc'
      go_wp2_with fail
      go_still_tail 8, (by kernel_rfl)
      change wpList _ _ _ _ _ wr.drew
      go_wp2_with (go_at_call 9; refine (IH.out _ (List.getElem_mem _) _ _ _ (hr.below (by repeat (first | exact Below.refl _ _ | assumption | refine Below.drew ?_ | refine below_drewN ?_ _ | refine Below.alloc ?_ (by first | omega | (simp; done) | (simp; omega)) _ | refine Below.setCell ?_ (by first | omega | (simp; done) | (simp; omega)) _))) (hr'.below (by repeat (first | exact Below.refl _ _ | assumption | refine Below.drew ?_ | refine below_drewN ?_ _ | refine Below.alloc ?_ (by first | omega | (simp; done) | (simp; omega)) _ | refine Below.setCell ?_ (by first | omega | (simp; done) | (simp; omega)) _)))).mono ?_; rintro e w' ⟨rfl, hb'⟩)
      go_roundw
      case rel => exact ⟨k + 1, by omega, by go_num, hb.trans (by repeat (first | exact Below.refl _ _ | refine Below.drew ?_ | refine below_drewN ?_ _ | refine Below.alloc ?_ (by first | omega | (simp; done) | (simp; omega)) _ | refine Below.setCell ?_ (by first | omega | (simp; done) | (simp; omega)) _ | refine Below.trans ?_ (Below.mono hb' (by first | omega | (simp; done) | (simp; omega)))))⟩
      case measure => simp [intOf]; omega
    · go_wp2
      go_ret
      exact ⟨rfl, hb⟩

set_option maxHeartbeats 800000 in
theorem eqTerm_any (t : Tm) : ∀ (l l' : Lt) (w : World), Md w t l → Md w t l' →
    Calls Tryd.prog 9 #[.agg #[.int .i64 t.kind, .string t.name, .string t.other, .int .i64 t.n, .int .i64 t.type.kind, .slice l.ta l.tn l.tc, .int .i64 t.res.kind, .slice l.ra l.rn l.rc, .slice l.aa l.an l.ac], .agg #[.int .i64 t.kind, .string t.name, .string t.other, .int .i64 t.n, .int .i64 t.type.kind, .slice l'.ta l'.tn l'.tc, .int .i64 t.res.kind, .slice l'.ra l'.rn l'.rc, .slice l'.aa l'.an l'.ac]] w fun e w' => e = .returned (.bool true) ∧ Below w.heap.size w w' := by
  induction t using Tm.ind' with | h t ih => ?_
  intro l l' w h h'
  have C := hide (eqTermS_of t.args ih)
  clear ih
  obtain ⟨h0, ht, hr, hm⟩ := h.shape
  obtain ⟨h0', ht', hr', hm'⟩ := h'.shape
  obtain ⟨ta, tn, tc, ra, rn, rc, aa, an, ac⟩ := l
  obtain ⟨ta', tn', tc', ra', rn', rc', aa', an', ac'⟩ := l'
  obtain rfl : an = an' := hm.1.trans hm'.1.symm
  dsimp only at *
  go_enter Tryd.func9, Tryd.ntmps9
  go_wp2_with fail
  refine (eqType_any t.type _ _ _ _ _ (ht.below (by repeat (first | exact Below.refl _ _ | assumption | refine Below.drew ?_ | refine below_drewN ?_ _ | refine Below.alloc ?_ (by first | omega | (simp; done) | (simp; omega)) _ | refine Below.setCell ?_ (by first | omega | (simp; done) | (simp; omega)) _))) (ht'.below (by repeat (first | exact Below.refl _ _ | assumption | refine Below.drew ?_ | refine below_drewN ?_ _ | refine Below.alloc ?_ (by first | omega | (simp; done) | (simp; omega)) _ | refine Below.setCell ?_ (by first | omega | (simp; done) | (simp; omega)) _)))).mono ?_
  rintro e w1 ⟨rfl, b1⟩
  have k1 : Below w.heap.size w w1 := below_of_alloc (below_of_alloc b1)
  have A1 : Blk w1 w.heap.size _ _ := ((Blk.new w _ _).alloc _).under b1
  have B1 : Blk w1 (w.heap.size + 1) _ _ := (Blk.new2 w _ _ _).under b1
  obtain ⟨u0, u1, u2, u3, u4, u5, u6, u7, u8⟩ := Blk.nine (l := ⟨ta, tn, tc, ra, rn, rc, aa, an, ac⟩) A1
  obtain ⟨v0, v1, v2, v3, v4, v5, v6, v7, v8⟩ := Blk.nine (l := ⟨ta', tn', tc', ra', rn', rc', aa', an, ac'⟩) B1
  dsimp only at *
  go_wp2_with fail
  refine (eqType_any t.res _ _ _ _ _ (hr.below k1) (hr'.below k1)).mono ?_
  rintro e w2 ⟨rfl, b2⟩
  have k2 := below_next k1 b2
  have A2 := A1.under b2
  have B2 := B1.under b2
  clear u0 u1 u2 u3 u4 u5 u6 u7 u8 v0 v1 v2 v3 v4 v5 v6 v7 v8
  obtain ⟨u0, u1, u2, u3, u4, u5, u6, u7, u8⟩ := Blk.nine (l := ⟨ta, tn, tc, ra, rn, rc, aa, an, ac⟩) A2
  obtain ⟨v0, v1, v2, v3, v4, v5, v6, v7, v8⟩ := Blk.nine (l := ⟨ta', tn', tc', ra', rn', rc', aa', an, ac'⟩) B2
  dsimp only at *
  go_wp2_with fail
  refine (C.out _ _ _ _ _ _ (hm.below k2) (hm'.below k2)).mono ?_
  rintro e w3 ⟨rfl, b3⟩
  go_wp2_with fail
  go_ret
  exact ⟨rfl, below_next k2 b3⟩
end Go.Proofs.YtiofojaifonefaaDoor
