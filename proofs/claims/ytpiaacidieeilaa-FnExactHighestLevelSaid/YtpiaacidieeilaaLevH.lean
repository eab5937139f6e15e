/-
  The walks of HighestLevel in both texts: the reference's l8Highest, and the program's levels with a test that writes into a box.
-/
import Derived.Test.YtpiaacidieeilaaLevJ
import Derived.Test.YtpiaacidieeilaaWrote
namespace Go.Proofs.Ytpiaacidieeilaa
open Go.RowKit
set_option linter.unusedVariables false
set_option linter.unusedSimpArgs false

set_option maxHeartbeats 3200000 in
theorem l8Highest_any (t : Tm) : ∀ (l : Lt) (m : Int) (w : World), Md w t l → lvOk t m = true →
    Calls Try.prog 51 #[.agg #[.int .i64 t.kind, .string t.name, .string t.other, .int .i64 t.n, .int .i64 t.type.kind, .slice l.ta l.tn l.tc, .int .i64 t.res.kind, .slice l.ra l.rn l.rc, .slice l.aa l.an l.ac], .int .i64 m] w fun e w' => e = .returned (.int .i64 (t.hi m)) ∧ Below w.heap.size w w' := by
  induction t using Tm.ind' with | h t ih => ?_
  intro l m w h hH
  have IH := hide ih
  clear ih
  obtain ⟨-, -, -, hr⟩ := h.shape
  clear h
  have hn : l.an ≤ 9223372036854775807 := by obtain ⟨_, h2, h3, _⟩ := hr; unfold maxLen at h3; omega
  obtain ⟨m0, m2⟩ := lvOk_in hH
  replace hH := hide hH
  have hhi := hide (t.hi_eq m)
  go_enter Try.func51, Try.ntmps51
  go_wp2_with fail
  go_loopw [5, 6] (fun s i wr => ∃ j : Nat, j ≤ l.an ∧ i = .int .i64 j ∧ (∃ q : Int, s = .int .i64 q ∧ 0 ≤ q ∧ q ≤ 2 ∧ Hid (q = Tm.his (t.args.take j) (nextLv t.kind m) m)) ∧ Blk wr w.heap.size 35 #[.int .i64 t.kind, .string t.name, .string t.other, .int .i64 t.n, .int .i64 t.type.kind, .slice l.ta l.tn l.tc, .int .i64 t.res.kind, .slice l.ra l.rn l.rc, .slice l.aa l.an l.ac] ∧ Below w.heap.size w wr) (fun _ i _ => l.an - (intOf i).toNat)
  case atStart => exact ⟨0, by omega, rfl, ⟨m, rfl, m0, m2, by simp [Hid, Tm.his]⟩, Blk.new _ _ _, below_new _ _⟩
  case round =>
    obtain ⟨j, hj, rfl, ⟨q, rfl, q0, q2, Hq⟩, hB, hb⟩ := hrel
    have hsz := hb.size
    by_cases hjn : j < l.an
    · have hjx : j < t.args.length := by rw [← hr.1]; exact hjn
      obtain ⟨b, off, l', ha, hlt, hc, hd⟩ := (hr.below hb).get j hjx
      obtain ⟨e0, e1, e2, e3, e4, e5, e6, e7, e8⟩ := hc.nine
      obtain ⟨v0, v1, v2, v3, v4, v5, v6, v7, v8⟩ := hB.nine_at ha
      have i0 : (0 : Int) ≤ (j : Int) := by omega
      have i1 : (j : Int) < (l.an : Int) := by omega
      have hltd : b < wr.drew.heap.size := hlt
      have hcd : CellsAt wr.drew b (off + j * 9) (tcells t.args[j] l') := hc
      have hdd : Md wr.drew t.args[j] l' := hd.below (below_drew wr)
      have hbd : Below w.heap.size w wr.drew := hb.drew
      have CN := fun W => l8Next_any t l m W m0 m2
      rw [ha] at CN
      replace CN := hide CN
      have hH1 := lvOk_arg hH.out (List.getElem_mem hjx)
      have C := hide (fun W hW => IH.out _ (List.getElem_mem hjx) l' (nextLv t.kind m) W hW hH1)
      have hhin := Tm.hi_in t.args[j] _ hH1
      replace hH1 := hide hH1
      have HA := hide ha
      replace hc := hide hc
      replace hcd := hide hcd
      clear ha
      go_wp2_with fail
      go_region_held3 (fun W => (W.cell? ⟨w.heap.size, 0, none⟩ = some (.int .i64 t.kind) ∧ W.cell? ⟨w.heap.size, 1, none⟩ = some (.string t.name) ∧ W.cell? ⟨w.heap.size, 2, none⟩ = some (.string t.other) ∧ W.cell? ⟨w.heap.size, 3, none⟩ = some (.int .i64 t.n) ∧ W.cell? ⟨w.heap.size, 4, none⟩ = some (.int .i64 t.type.kind) ∧ W.cell? ⟨w.heap.size, 5, none⟩ = some (.slice l.ta l.tn l.tc) ∧ W.cell? ⟨w.heap.size, 6, none⟩ = some (.int .i64 t.res.kind) ∧ W.cell? ⟨w.heap.size, 7, none⟩ = some (.slice l.ra l.rn l.rc) ∧ W.cell? ⟨w.heap.size, 8, none⟩ = some (.slice (some ⟨b, off, none⟩) l.an l.ac)) ∧ (W.cell? ⟨b, off + j * 9, none⟩ = some (.int .i64 t.args[j].kind) ∧ W.cell? ⟨b, off + j * 9 + 1, none⟩ = some (.string t.args[j].name) ∧ W.cell? ⟨b, off + j * 9 + 2, none⟩ = some (.string t.args[j].other) ∧ W.cell? ⟨b, off + j * 9 + 3, none⟩ = some (.int .i64 t.args[j].n) ∧ W.cell? ⟨b, off + j * 9 + 4, none⟩ = some (.int .i64 t.args[j].type.kind) ∧ W.cell? ⟨b, off + j * 9 + 5, none⟩ = some (.slice l'.ta l'.tn l'.tc) ∧ W.cell? ⟨b, off + j * 9 + 6, none⟩ = some (.int .i64 t.args[j].res.kind) ∧ W.cell? ⟨b, off + j * 9 + 7, none⟩ = some (.slice l'.ra l'.rn l'.rc) ∧ W.cell? ⟨b, off + j * 9 + 8, none⟩ = some (.slice l'.aa l'.an l'.ac)))
        (first | exact ⟨⟨v0, v1, v2, v3, v4, v5, v6, v7, v8⟩, e0, e1, e2, e3, e4, e5, e6, e7, e8⟩ | exact ⟨B1.nine_at HA.out, c1.out.nine⟩ | exact ⟨B2.nine_at HA.out, c2.out.nine⟩)
        (first
          | (go_at_call 72; (with_reducible refine (CN.out _).mono ?_); rintro e w1 ⟨rfl, b1⟩
             have B1 : Blk w1 _ _ _ := Blk.under (w := wr.drew) hB b1
             have c1 := hide (hcd.out.below hltd b1)
             have l1 := Nat.lt_of_lt_of_le hltd b1.size
             have d1 := hdd.below b1
             have k1 := hbd.trans (b1.mono hbd.size))
          | (go_at_call 51; (with_reducible refine (C.out _ d1).mono ?_); rintro e w2 ⟨rfl, b2⟩
             have B2 := B1.under b2
             have c2 := hide (c1.out.below l1 b2)
             have k2 := k1.trans (b2.mono k1.size))
          | (go_at_call 67; (with_reducible refine (l1Max_any _ _ _).mono ?_); rintro e w3 ⟨rfl, rfl⟩))
      go_wp2_with fail
      go_roundw
      case rel =>
        refine ⟨j + 1, by omega, by go_num, ⟨_, rfl, by omega, by omega, ?_⟩, (by first | exact B2 | (have := B2; rw [HA.out] at this; exact this)), k2⟩
        rw [Hq.out, Hid, Tm.his_take t.args _ _ j hjx]
      case measure => simp [intOf]; omega
    · obtain ⟨v0, v1, v2, v3, v4, v5, v6, v7, v8⟩ := hB.nine
      go_wp2_with fail
      go_ret
      refine ⟨ret_int ?_, hb⟩
      have h3 := Hq.out
      have h4 : l.an = t.args.length := hr.1
      rw [List.take_of_length_le (by omega)] at h3
      rw [hhi.out]
      exact h3

set_option maxHeartbeats 800000 in
theorem specHighestLevel_any (t : Tm) (l : Lt) (w : World) (h : Md w t l) (hw : t.wt ≤ 1048576) :
    Calls Try.prog 23 #[.agg #[.int .i64 t.kind, .string t.name, .string t.other, .int .i64 t.n, .int .i64 t.type.kind, .slice l.ta l.tn l.tc, .int .i64 t.res.kind, .slice l.ra l.rn l.rc, .slice l.aa l.an l.ac]] w fun e w' => e = .returned (.int .i64 (if t.levelsOk 0 then t.hi 0 else -1)) ∧ Below w.heap.size w w' := by
  have h1 : Md (w.alloc (.cells #[.int .i64 t.kind, .string t.name, .string t.other, .int .i64 t.n, .int .i64 t.type.kind, .slice l.ta l.tn l.tc, .int .i64 t.res.kind, .slice l.ra l.rn l.rc, .slice l.aa l.an l.ac] 35)) t l := h.below (below_new _ _)
  have C := specLevelsOk_any t l 0 _ h1 hw
  cases ho : t.levelsOk 0 with
  | false =>
    rw [ho] at C
    replace C := hide C
    clear ho
    go_enter Try.func23, Try.ntmps23
    go_wp2_with (go_at_call 19; (with_reducible refine C.out.mono ?_); rintro e w1 ⟨rfl, b1⟩)
    go_ret
    exact ⟨rfl, below_of_alloc b1⟩
  | true =>
    have hl : lvOk t 0 = true := by
      rw [Tm.levelsOk, Bool.and_eq_true] at ho
      exact ho.2
    rw [ho] at C
    replace C := hide C
    clear ho
    go_enter Try.func23, Try.ntmps23
    go_wp2_with (first
      | (go_at_call 19; (with_reducible refine C.out.mono ?_); rintro e w1 ⟨rfl, b1⟩
         have B1 := (Blk.new w _ _).under b1
         have h2 := h1.below b1
         obtain ⟨u0, u1, u2, u3, u4, u5, u6, u7, u8⟩ := B1.nine)
      | (go_at_call 51; (with_reducible refine (l8Highest_any t l 0 _ h2 hl).mono ?_); rintro e w2 ⟨rfl, b2⟩))
    go_ret
    exact ⟨rfl, below_next (below_of_alloc b1) b2⟩

/-! ### The program's side -/
/-- Letters that read as a term, by blocks among which bx is not. -/
def MdX (w : World) (bx : Nat) (t : Tm) (l : Lt) : Prop := ∃ fp, RM w t l fp ∧ bx ∉ fp
theorem MdX.wrote {w w' : World} {bx : Nat} {t : Tm} {l : Lt} (h : MdX w bx t l) (hb : Wrote [bx] w w') : MdX w' bx t l := by
  obtain ⟨fp, h, hn⟩ := h
  exact ⟨fp, RM.keep t l fp h fun b hbf => hb.same (RM.lt t l fp h b hbf) (by simp; rintro rfl; exact hn hbf), hn⟩
theorem MdX.get {w : World} {bx : Nat} {t : Tm} {l : Lt} (h : MdX w bx t l) : l.an = t.args.length ∧ l.an ≤ 9223372036854775807 ∧ ∀ i (hi : i < t.args.length),
    ∃ b off l', l.aa = some ⟨b, off, none⟩ ∧ b < w.heap.size ∧ b ≠ bx ∧ CellsAt w b (off + i * 9) (tcells t.args[i] l') ∧ MdX w bx t.args[i] l' := by
  obtain ⟨fp, h, hn⟩ := h
  obtain ⟨k, nm, ot, n, ty, re, xs⟩ := t
  rw [RM] at h
  obtain ⟨-, ⟨h1, h2, h3⟩, f1, f2, f3, rfl, -, -, h⟩ := h
  refine ⟨h1, by unfold maxLen at h3; omega, fun i hi => ?_⟩
  rcases h with ⟨rfl, _⟩ | ⟨_, b, off, fps, ha, rfl, hs⟩
  · simp at hi
  · obtain ⟨l', f, e0, ht, hf⟩ := RMs_get hs i hi
    exact ⟨b, off, l', ha, lt_of_cell (e0 0 _ rfl), fun e => hn (by subst e; simp), e0, f, ht, fun hb => hn (by simp [hf _ hb])⟩
theorem CellsAt.wrote {w w' : World} {b off bx : Nat} {vs : List Value} (h : CellsAt w b off vs) (hl : b < w.heap.size) (hne : b ≠ bx) (hb : Wrote [bx] w w') : CellsAt w' b off vs :=
  h.keep fun o _ _ => hb.same hl (by simpa using hne) o
theorem Blk.wrote {w w' : World} {g T bx : Nat} {cs : Array Value} (h : Blk w g T cs) (hne : g ≠ bx) (hb : Wrote [bx] w w') : Blk w' g T cs := (hb.block g h.lt (by simpa using hne)).trans h

set_option maxHeartbeats 800000 in
theorem lit_highest (t : Tm) (l : Lt) (m v : Int) (bx : Nat) (w : World) (hx : Blk w bx 3 #[.int .i64 v]) :
    Calls Try.prog 52 #[.agg #[.int .i64 t.kind, .string t.name, .string t.other, .int .i64 t.n, .int .i64 t.type.kind, .slice l.ta l.tn l.tc, .int .i64 t.res.kind, .slice l.ra l.rn l.rc, .slice l.aa l.an l.ac], .int .i64 m, .pointer (some ⟨bx, 0, none⟩)] w fun e w' => e = .returned (.bool true) ∧ Wrote [bx] w w' ∧ Blk w' bx 3 #[.int .i64 (max v m)] := by
  have hx1 := hx.alloc (.cells #[.int .i64 t.kind, .string t.name, .string t.other, .int .i64 t.n, .int .i64 t.type.kind, .slice l.ta l.tn l.tc, .int .i64 t.res.kind, .slice l.ra l.rn l.rc, .slice l.aa l.an l.ac] 35)
  have c0 : ∀ o, (w.alloc o).cell? ⟨bx, 0, none⟩ = some (.int .i64 v) := fun o => (hx.alloc o).cell 0
  have z0 : ∀ o, (w.alloc o).frozen? ⟨bx, 0, none⟩ = false := fun o => (hx.alloc o).free 0
  have hxl := hx.lt
  go_enter Try.func52, Try.ntmps52
  go_wp2_with fail
  all_goals go_ret
  all_goals refine ⟨rfl, (Wrote.setCell (by simp) _).trans (Wrote.of_below (below_new _ _)), ?_⟩
  · rw [show max v m = m by omega]
    exact (hx.set_ 0 _).alloc _
  · rw [show max v m = v by omega]
    exact (hx.set_ 0 _).alloc _

set_option maxHeartbeats 6400000 in
theorem levels_highest (t : Tm) : ∀ (l : Lt) (m v : Int) (bx : Nat) (w : World), MdX w bx t l → lvOk t m = true → Blk w bx 3 #[.int .i64 v] →
    Calls Try.prog 46 #[.agg #[.int .i64 t.kind, .string t.name, .string t.other, .int .i64 t.n, .int .i64 t.type.kind, .slice l.ta l.tn l.tc, .int .i64 t.res.kind, .slice l.ra l.rn l.rc, .slice l.aa l.an l.ac], .int .i64 m, .func (.func 52) #[] #[.pointer (some ⟨bx, 0, none⟩)]] w
      fun e w' => e = .returned (.bool true) ∧ Wrote [bx] w w' ∧ Blk w' bx 3 #[.int .i64 (max v (t.hi m))] := by
  induction t using Tm.ind' with | h t ih => ?_
  intro l m v bx w h hH hx
  have IH := hide ih
  clear ih
  obtain ⟨hr1, hn, hr⟩ := h.get
  obtain ⟨m0, m2⟩ := lvOk_in hH
  replace hH := hide hH
  have hhi := hide (t.hi_eq m)
  have CL := hide fun W hW => lit_highest t l m v bx W hW
  have hbw : bx < w.heap.size := hx.lt
  have hx' := hide (hx.alloc (.cells #[.int .i64 t.kind, .string t.name, .string t.other, .int .i64 t.n, .int .i64 t.type.kind, .slice l.ta l.tn l.tc, .int .i64 t.res.kind, .slice l.ra l.rn l.rc, .slice l.aa l.an l.ac] 35))
  replace hr1 := hide hr1
  go_enter Try.func46, Try.ntmps46
  go_wp2_with fail
  refine (CL.out _ hx'.out).mono ?_
  rintro e w1 ⟨rfl, b1, x1⟩
  have hne : w.heap.size ≠ bx := by omega
  have B1 := (Blk.new w 35 #[.int .i64 t.kind, .string t.name, .string t.other, .int .i64 t.n, .int .i64 t.type.kind, .slice l.ta l.tn l.tc, .int .i64 t.res.kind, .slice l.ra l.rn l.rc, .slice l.aa l.an l.ac]).wrote hne b1
  obtain ⟨y0, y1, y2, y3, y4, y5, y6, y7, y8⟩ := B1.nine
  go_wp2_with fail
  have hw1 : Wrote [bx] w w1 := (Wrote.of_below (below_new _ _)).trans b1
  go_loopw [17] (fun i wr => ∃ j : Nat, j ≤ l.an ∧ i = .int .i64 j ∧ Blk wr bx 3 #[.int .i64 (max v (Tm.his (t.args.take j) (nextLv t.kind m) m))] ∧ Blk wr w.heap.size 35 #[.int .i64 t.kind, .string t.name, .string t.other, .int .i64 t.n, .int .i64 t.type.kind, .slice l.ta l.tn l.tc, .int .i64 t.res.kind, .slice l.ra l.rn l.rc, .slice l.aa l.an l.ac] ∧ Wrote [bx] w wr) (fun i _ => l.an - (intOf i).toNat)
  case atStart => exact ⟨0, by omega, rfl, by simpa [Tm.his] using x1, B1, hw1⟩
  case round =>
    clear y0 y1 y2 y3 y4 y5 y6 y7 y8 hw1 x1 b1 B1
    obtain ⟨j, hj, rfl, hX, hB, hb⟩ := hrel
    have hsz := hb.size
    by_cases hjn : j < l.an
    · have hjx : j < t.args.length := by rw [← hr1.out]; exact hjn
      obtain ⟨b, off, l', ha, hlt, hnb, hc, hd⟩ := (h.wrote hb).get.2.2 j hjx
      obtain ⟨e0, e1, e2, e3, e4, e5, e6, e7, e8⟩ := hc.nine
      have X0 := Blk.new wr 35 #[.int .i64 t.args[j].kind, .string t.args[j].name, .string t.args[j].other, .int .i64 t.args[j].n, .int .i64 t.args[j].type.kind, .slice l'.ta l'.tn l'.tc, .int .i64 t.args[j].res.kind, .slice l'.ra l'.rn l'.rc, .slice l'.aa l'.an l'.ac]
      have O0 := hB.alloc (.cells #[.int .i64 t.args[j].kind, .string t.args[j].name, .string t.args[j].other, .int .i64 t.args[j].n, .int .i64 t.args[j].type.kind, .slice l'.ta l'.tn l'.tc, .int .i64 t.args[j].res.kind, .slice l'.ra l'.rn l'.rc, .slice l'.aa l'.an l'.ac] 35)
      have Q0 : Blk (wr.alloc (.cells #[.int .i64 t.args[j].kind, .string t.args[j].name, .string t.args[j].other, .int .i64 t.args[j].n, .int .i64 t.args[j].type.kind, .slice l'.ta l'.tn l'.tc, .int .i64 t.args[j].res.kind, .slice l'.ra l'.rn l'.rc, .slice l'.aa l'.an l'.ac] 35)).drew _ _ _ := hX.alloc (.cells #[.int .i64 t.args[j].kind, .string t.args[j].name, .string t.args[j].other, .int .i64 t.args[j].n, .int .i64 t.args[j].type.kind, .slice l'.ta l'.tn l'.tc, .int .i64 t.args[j].res.kind, .slice l'.ra l'.rn l'.rc, .slice l'.aa l'.an l'.ac] 35)
      obtain ⟨v0, v1, v2, v3, v4, v5, v6, v7, v8⟩ := O0.nine_at ha
      obtain ⟨x0, x1, x2, x3, x4, x5, x6, x7, x8⟩ := X0.nine
      have i0 : (0 : Int) ≤ (j : Int) := by omega
      have i1 : (j : Int) < (l.an : Int) := by omega
      have hal : Wrote [bx] wr (wr.alloc (.cells #[.int .i64 t.args[j].kind, .string t.args[j].name, .string t.args[j].other, .int .i64 t.args[j].n, .int .i64 t.args[j].type.kind, .slice l'.ta l'.tn l'.tc, .int .i64 t.args[j].res.kind, .slice l'.ra l'.rn l'.rc, .slice l'.aa l'.an l'.ac] 35)).drew := Wrote.of_below (below_next (below_new _ _) (below_drew _))
      have hdd := hd.wrote hal
      have hbd := hb.trans hal
      have CN := fun W => partLevel_any t l m W m0 m2
      rw [ha] at CN
      rw [ha]
      replace CN := hide CN
      have hH1 := hide (lvOk_arg hH.out (List.getElem_mem hjx))
      have HA := hide ha
      clear ha hc
      have C := hide (fun W hW hq => IH.out _ (List.getElem_mem hjx) l' (nextLv t.kind m) (max v (Tm.his (t.args.take j) (nextLv t.kind m) m)) bx W hW hH1.out hq)
      go_wp2_with fail
      go_region_held3 (fun W => (W.cell? ⟨w.heap.size, 0, none⟩ = some (.int .i64 t.kind) ∧ W.cell? ⟨w.heap.size, 1, none⟩ = some (.string t.name) ∧ W.cell? ⟨w.heap.size, 2, none⟩ = some (.string t.other) ∧ W.cell? ⟨w.heap.size, 3, none⟩ = some (.int .i64 t.n) ∧ W.cell? ⟨w.heap.size, 4, none⟩ = some (.int .i64 t.type.kind) ∧ W.cell? ⟨w.heap.size, 5, none⟩ = some (.slice l.ta l.tn l.tc) ∧ W.cell? ⟨w.heap.size, 6, none⟩ = some (.int .i64 t.res.kind) ∧ W.cell? ⟨w.heap.size, 7, none⟩ = some (.slice l.ra l.rn l.rc) ∧ W.cell? ⟨w.heap.size, 8, none⟩ = some (.slice (some ⟨b, off, none⟩) l.an l.ac)) ∧ (W.cell? ⟨wr.heap.size, 0, none⟩ = some (.int .i64 t.args[j].kind) ∧ W.cell? ⟨wr.heap.size, 1, none⟩ = some (.string t.args[j].name) ∧ W.cell? ⟨wr.heap.size, 2, none⟩ = some (.string t.args[j].other) ∧ W.cell? ⟨wr.heap.size, 3, none⟩ = some (.int .i64 t.args[j].n) ∧ W.cell? ⟨wr.heap.size, 4, none⟩ = some (.int .i64 t.args[j].type.kind) ∧ W.cell? ⟨wr.heap.size, 5, none⟩ = some (.slice l'.ta l'.tn l'.tc) ∧ W.cell? ⟨wr.heap.size, 6, none⟩ = some (.int .i64 t.args[j].res.kind) ∧ W.cell? ⟨wr.heap.size, 7, none⟩ = some (.slice l'.ra l'.rn l'.rc) ∧ W.cell? ⟨wr.heap.size, 8, none⟩ = some (.slice l'.aa l'.an l'.ac)))
        (first | exact ⟨⟨v0, v1, v2, v3, v4, v5, v6, v7, v8⟩, x0, x1, x2, x3, x4, x5, x6, x7, x8⟩ | exact ⟨O1.nine_at HA.out, X1.nine⟩ | exact ⟨O2.nine_at HA.out, X2.nine⟩)
        (first
          | (go_at_call 73; (with_reducible refine (CN.out _).mono ?_); rintro e w2 ⟨rfl, b2⟩
             have O1 : Blk w2 _ _ _ := Blk.under (w := (wr.alloc (.cells #[.int .i64 t.args[j].kind, .string t.args[j].name, .string t.args[j].other, .int .i64 t.args[j].n, .int .i64 t.args[j].type.kind, .slice l'.ta l'.tn l'.tc, .int .i64 t.args[j].res.kind, .slice l'.ra l'.rn l'.rc, .slice l'.aa l'.an l'.ac] 35)).drew) O0 b2
             have X1 : Blk w2 _ _ _ := Blk.under (w := (wr.alloc (.cells #[.int .i64 t.args[j].kind, .string t.args[j].name, .string t.args[j].other, .int .i64 t.args[j].n, .int .i64 t.args[j].type.kind, .slice l'.ta l'.tn l'.tc, .int .i64 t.args[j].res.kind, .slice l'.ra l'.rn l'.rc, .slice l'.aa l'.an l'.ac] 35)).drew) X0 b2
             have Q1 := Q0.under b2
             have d1 := hdd.wrote (Wrote.of_below b2)
             have k1 := hbd.trans (Wrote.of_below b2))
          | (go_at_call 46; (with_reducible refine (C.out _ d1 Q1).mono ?_); rintro e w3 ⟨rfl, b3, Q2⟩
             have O2 := O1.wrote (by omega) b3
             have X2 := X1.wrote (by omega) b3
             have k2 := k1.trans b3))
      go_wp2_with fail
      go_roundw
      case rel =>
        refine ⟨j + 1, by omega, by go_num, ?_, (by first | exact O2 | (have := O2; rw [HA.out] at this; exact this)), k2⟩
        rw [Tm.his_take t.args _ _ j hjx, ← Int.max_assoc]
        exact Q2
      case measure => simp [intOf]; omega
    · have h4 : l.an = t.args.length := hr1.out
      obtain ⟨v0, v1, v2, v3, v4, v5, v6, v7, v8⟩ := hB.nine
      rw [List.take_of_length_le (by omega), ← hhi.out] at hX
      clear h4
      go_wp2_with fail
      go_ret
      exact ⟨rfl, hb, hX⟩

set_option maxHeartbeats 1600000 in
theorem implHighestLevel_any (t : Tm) (l : Lt) (w : World) (h : Md w t l) (hw : t.wt ≤ 1048576) :
    Calls Try.prog 24 #[.agg #[.int .i64 t.kind, .string t.name, .string t.other, .int .i64 t.n, .int .i64 t.type.kind, .slice l.ta l.tn l.tc, .int .i64 t.res.kind, .slice l.ra l.rn l.rc, .slice l.aa l.an l.ac]] w fun e w' => e = .returned (.int .i64 (if t.levelsOk 0 then t.hi 0 else -1)) ∧ Below w.heap.size w w' := by
  have h1 : Md (w.alloc (.cells #[.int .i64 t.kind, .string t.name, .string t.other, .int .i64 t.n, .int .i64 t.type.kind, .slice l.ta l.tn l.tc, .int .i64 t.res.kind, .slice l.ra l.rn l.rc, .slice l.aa l.an l.ac] 35)) t l := h.below (below_new _ _)
  have C := implLevelsOk_any t l 0 _ h1 hw
  cases ho : t.levelsOk 0 with
  | false =>
    rw [ho] at C
    replace C := hide C
    clear ho
    go_enter Try.func24, Try.ntmps24
    go_wp2_with (go_at_call 20; (with_reducible refine C.out.mono ?_); rintro e w1 ⟨rfl, b1⟩)
    go_ret
    exact ⟨rfl, below_of_alloc b1⟩
  | true =>
    have hl : lvOk t 0 = true := by
      rw [Tm.levelsOk, Bool.and_eq_true] at ho
      exact ho.2
    rw [ho] at C
    replace C := hide C
    clear ho
    go_enter Try.func24, Try.ntmps24
    go_wp2_with (first
      | (go_at_call 20; (with_reducible refine C.out.mono ?_); rintro e w1 ⟨rfl, b1⟩
         have B1 := (Blk.new w _ _).under b1
         have h2 := h1.below b1
         have k1 := below_of_alloc b1
         have b1s := b1.size
         obtain ⟨u0, u1, u2, u3, u4, u5, u6, u7, u8⟩ := B1.nine
         obtain ⟨r0, r1, r2, r3, r4, r5, r6, r7, r8⟩ : _ ∧ _ ∧ _ ∧ _ ∧ _ ∧ _ ∧ _ ∧ _ ∧ _ := ⟨fun o => (B1.alloc o).nine.1, fun o => (B1.alloc o).nine.2.1, fun o => (B1.alloc o).nine.2.2.1, fun o => (B1.alloc o).nine.2.2.2.1, fun o => (B1.alloc o).nine.2.2.2.2.1, fun o => (B1.alloc o).nine.2.2.2.2.2.1, fun o => (B1.alloc o).nine.2.2.2.2.2.2.1, fun o => (B1.alloc o).nine.2.2.2.2.2.2.2.1, fun o => (B1.alloc o).nine.2.2.2.2.2.2.2.2⟩)
      | (go_at_call 46; (with_reducible refine (levels_highest t l 0 0 w1.heap.size _ ?_ hl ?_).mono ?_)
         · obtain ⟨fp, hfp⟩ := h2
           exact ⟨fp, hfp.below (below_new _ _), fun hin => absurd (RM.lt t l fp hfp _ hin) (Nat.lt_irrefl _)⟩
         · exact Blk.new w1 3 #[.int .i64 0]
         rintro e w2 ⟨rfl, b2, q2⟩
         have q3 := q2.cell 0
         simp at q3))
    go_ret
    refine ⟨ret_int ?_, ?_⟩
    · have := (Tm.hi_in t 0 hl).1
      first | omega | (rw [if_pos rfl]; omega)
    · have k2 := b2.below (B := w1.heap.size) (by simp) (by simp)
      exact (k1.trans ((below_new w1 (.cells #[.int .i64 0] 3)).mono k1.size)).trans (k2.mono k1.size)
/-- The greatest level, or -1. -/
def Tm.highest (t : Tm) : Int := if t.levelsOk 0 then t.hi 0 else -1
theorem specHighestLevel_law (t : Tm) (l : Lt) (w : World) (h : Md w t l) (hw : t.wt ≤ 1048576) :
    Calls Try.prog 23 #[.agg #[.int .i64 t.kind, .string t.name, .string t.other, .int .i64 t.n, .int .i64 t.type.kind, .slice l.ta l.tn l.tc, .int .i64 t.res.kind, .slice l.ra l.rn l.rc, .slice l.aa l.an l.ac]] w fun e w' => e = .returned (.int .i64 t.highest) ∧ Below w.heap.size w w' := specHighestLevel_any t l w h hw
theorem implHighestLevel_law (t : Tm) (l : Lt) (w : World) (h : Md w t l) (hw : t.wt ≤ 1048576) :
    Calls Try.prog 24 #[.agg #[.int .i64 t.kind, .string t.name, .string t.other, .int .i64 t.n, .int .i64 t.type.kind, .slice l.ta l.tn l.tc, .int .i64 t.res.kind, .slice l.ra l.rn l.rc, .slice l.aa l.an l.ac]] w fun e w' => e = .returned (.int .i64 t.highest) ∧ Below w.heap.size w w' := implHighestLevel_any t l w h hw
end Go.Proofs.Ytpiaacidieeilaa
