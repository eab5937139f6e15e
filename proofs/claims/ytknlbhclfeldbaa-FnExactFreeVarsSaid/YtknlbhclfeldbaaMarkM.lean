/-
  The walks of markTermS and markTerm: only a copy's own blocks are written, and the count does not fall.
-/
import Derived.Test.YtknlbhclfeldbaaMarkW
import Derived.Test.YtknlbhclfeldbaaMarkT
import Derived.Test.YtknlbhclfeldbaaTmSz
namespace Go.Proofs.Ytknlbhclfeldbaa
open Go.RowKit
set_option linter.unusedVariables false
set_option linter.unusedSimpArgs false

/-- A slice of terms by its letters, with its blocks. -/
def RMa (w : World) (xs : List Tm) (a : Option Addr) (n cap : Nat) (fp : List Nat) : Prop := n = xs.length ∧ n ≤ cap ∧ cap ≤ maxLen ∧
  ((xs = [] ∧ fp = []) ∨ xs ≠ [] ∧ ∃ b off fps, a = some ⟨b, off, none⟩ ∧ fp = b :: fps ∧ RMs w xs b off fps)
theorem RT.rta {w : World} {t : Ty} {k : Value} {a : Option Addr} {n cap : Nat} {fp : List Nat} (h : RT w t k (.slice a n cap) fp) : RTa w t.args a n cap fp := by
  obtain ⟨k, xs⟩ := t
  obtain ⟨-, -, a', cap', e, hA⟩ := RT_rta.1 h
  injection e with e1 e2 e3
  subst e1 e2 e3
  exact hA
theorem RM.parts {w : World} {t : Tm} {l : Lt} {fp : List Nat} (h : RM w t l fp) : ∃ f1 f2 f3, fp = f1 ++ (f2 ++ f3) ∧ RT w t.type (.int .i64 t.type.kind) (.slice l.ta l.tn l.tc) f1 ∧ RT w t.res (.int .i64 t.res.kind) (.slice l.ra l.rn l.rc) f2 ∧ RMa w t.args l.aa l.an l.ac f3 := by
  obtain ⟨k, nm, ot, n, ty, re, xs⟩ := t
  rw [RM] at h
  obtain ⟨-, ⟨h1, h2, h3⟩, f1, f2, f3, rfl, ht, hr, hx⟩ := h
  exact ⟨f1, f2, f3, rfl, ht, hr, h1, h2, h3, hx⟩
theorem RMa.keep {w w' : World} {xs : List Tm} {a : Option Addr} {n cap : Nat} {fp : List Nat} (h : RMa w xs a n cap fp) (hs : ∀ x ∈ fp, SameB w w' x) : RMa w' xs a n cap fp := by
  obtain ⟨h1, h2, h3, h4⟩ := h
  refine ⟨h1, h2, h3, ?_⟩
  rcases h4 with h4 | ⟨hne, b, off, fps, ha, rfl, hR⟩
  · exact .inl h4
  · exact .inr ⟨hne, b, off, fps, ha, rfl, hR.keep (hs b (by simp)) fun x hx => hs x (by simp [hx])⟩

/-- Of block b only the nine cells from o0 on have turned, and not the three slices; besides b only blocks of fs. -/
structure Kp (b o0 : Nat) (fs : List Nat) (w w' : World) : Prop where
  wr : Wrote (b :: fs) w w'
  same : ∀ o, (o < o0 ∨ o0 + 9 ≤ o ∨ o = o0 + 5 ∨ o = o0 + 7 ∨ o = o0 + 8) → w'.cell? ⟨b, o, none⟩ = w.cell? ⟨b, o, none⟩
  live : ∀ o, (w.cell? ⟨b, o, none⟩).isSome = true → (w'.cell? ⟨b, o, none⟩).isSome = true
theorem Kp.refl (b o0 : Nat) (fs : List Nat) (w : World) : Kp b o0 fs w w := ⟨Wrote.refl _ _, fun _ _ => rfl, fun _ h => h⟩
theorem Kp.trans {b o0 : Nat} {fs : List Nat} {w1 w2 w3 : World} (h : Kp b o0 fs w1 w2) (k : Kp b o0 fs w2 w3) : Kp b o0 fs w1 w3 :=
  ⟨h.wr.trans k.wr, fun o ho => (k.same o ho).trans (h.same o ho), fun o ho => k.live o (h.live o ho)⟩
theorem Kp.wrote {b o0 : Nat} {fs f : List Nat} {w w' : World} (h : Wrote f w w') (hb : b < w.heap.size) (hn : b ∉ f) (hs : ∀ x ∈ f, x ∈ fs) : Kp b o0 fs w w' := by
  have hc : ∀ o, w'.cell? ⟨b, o, none⟩ = w.cell? ⟨b, o, none⟩ := h.same hb hn
  exact ⟨h.more fun x hx => List.mem_cons_of_mem _ (hs x hx), fun o _ => hc o, fun o ho => by rw [hc]; exact ho⟩
theorem Kp.below {b o0 : Nat} {fs : List Nat} {w w' : World} (h : Below w.heap.size w w') (hb : b < w.heap.size) : Kp b o0 fs w w' :=
  Kp.wrote (f := []) (Wrote.of_below h) hb (by simp) (by simp)
theorem Kp.set {b o0 : Nat} {fs : List Nat} {w : World} (o : Nat) (v : Value) (h1 : o0 ≤ o) (h2 : o < o0 + 9) (h3 : o ≠ o0 + 5 ∧ o ≠ o0 + 7 ∧ o ≠ o0 + 8) : Kp b o0 fs w (w.setCell ⟨b, o, none⟩ v) := by
  refine ⟨Wrote.setCell (p := ⟨b, o, none⟩) (by simp) _, fun o' ho => World.cell?_setCell_other _ _ _ _ (fun e => by injection e; omega), fun o' ho => ?_⟩
  by_cases he : o' = o
  · subst he
    obtain ⟨c, hc⟩ := Option.isSome_iff_exists.1 ho
    rw [World.cell?_setCell_same _ _ _ hc]
    rfl
  · rw [World.cell?_setCell_other _ _ _ _ (fun e => by injection e; omega)]
    exact ho
theorem Kp.more {b o0 : Nat} {fs gs : List Nat} {w w' : World} (h : Kp b o0 fs w w') (hs : ∀ x ∈ fs, x ∈ gs) : Kp b o0 gs w w' :=
  ⟨h.wr.more fun x hx => by
    rcases List.mem_cons.1 hx with rfl | hx
    · exact List.mem_cons_self
    · exact List.mem_cons_of_mem _ (hs x hx), h.same, h.live⟩
theorem Kp.size {b o0 : Nat} {fs : List Nat} {w w' : World} (h : Kp b o0 fs w w') : w.heap.size ≤ w'.heap.size := h.wr.size
theorem Kp.at_ {b o0 : Nat} {fs : List Nat} {w w' : World} {i : Nat} {c : Value} (h : Kp b o0 fs w w') (hc : w.cell? ⟨b, o0 + i, none⟩ = some c) : ∃ v, w'.cell? ⟨b, o0 + i, none⟩ = some v :=
  Option.isSome_iff_exists.1 (h.live _ (by rw [hc]; rfl))
theorem Kp.free {b o0 : Nat} {fs : List Nat} {w w' : World} (h : Kp b o0 fs w w') (hb : b < w.heap.size) (hz : ∀ o, w.frozen? ⟨b, o, none⟩ = false) (o : Nat) : w'.frozen? ⟨b, o, none⟩ = false := (h.wr.frozen b o hb).trans (hz o)
theorem Kp.sameB {b o0 : Nat} {fs : List Nat} {w w' : World} (h : Kp b o0 fs w w') {x : Nat} (hx : x < w.heap.size) (h1 : x ≠ b) (h2 : x ∉ fs) : SameB w w' x := h.wr.same hx (by simp [h1, h2])

theorem markText_int (q : Int) (w : World) (h0 : 0 ≤ q) (h1 : q ≤ 16777216) : Calls Try.prog 30 #[.int .i64 q] w fun e w' => ∃ s, e = .returned (.string s) ∧ Below w.heap.size w w' := by
  obtain ⟨k, rfl⟩ := Int.eq_ofNat_of_zero_le h0
  exact (markText_any k w (by omega)).mono fun e w' ⟨h, b⟩ => ⟨_, h, b⟩

/-- What markTermS does. -/
abbrev MarkMC (xs : List Tm) : Prop := ∀ (a : Option Addr) (n cap : Nat) (fp : List Nat) (q : Int) (w : World), RMa w xs a n cap fp → fp.Nodup → Free w fp → 0 ≤ q → q + 6 * Tm.wts xs ≤ 16777216 →
  Calls Try.prog 44 #[.slice a n cap, .int .i64 q] w fun e w' => ∃ z : Int, e = .returned (.int .i64 z) ∧ q ≤ z ∧ z ≤ q + 6 * Tm.wts xs ∧ Wrote fp w w'

set_option maxHeartbeats 3200000 in
theorem markTermS_of (xs : List Tm) (ih : ∀ t ∈ xs, MarkMC t.args) : MarkMC xs := by
  intro a n cap fp q w hA hnd hF hq0 hq1
  have IH := hide ih
  clear ih
  have hn : n ≤ 9223372036854775807 := by obtain ⟨_, h2, h3, _⟩ := hA; unfold maxLen at h3; omega
  have hx : n = xs.length := hA.1
  rcases hA with ⟨-, hc1, hc2, ⟨rfl, rfl⟩ | ⟨hne, b, off, fps, rfl, rfl, hR⟩⟩
  · obtain rfl : n = 0 := hx
    go_enter Try.func44, Try.ntmps44
    go_wp2_with fail
    refine wp_loop_rounds 1 ?_
    rw [rounds_succ]
    go_wp2_with fail
    go_ret
    exact ⟨q, rfl, by omega, by omega, Wrote.refl _ _⟩
  · have HX := hide hx
    clear hx
    have hbl : ∀ x ∈ b :: fps, x < w.heap.size := by
      have h1 := RMs_lt_of xs (fun t _ => RM.lt t) b off fps hR
      intro x hx
      rcases List.mem_cons.1 hx with rfl | hx
      · exact h1.2 hne
      · exact h1.1 x hx
    have hbl := hide hbl
    have hF := hide hF
    have hnd := hide hnd
    go_enter Try.func44, Try.ntmps44
    go_wp2_with fail
    go_loopw [1, 5] (fun s i wr => ∃ j : Nat, j ≤ n ∧ i = .int .i64 j ∧ (∃ z : Int, s = .int .i64 z ∧ q ≤ z ∧ Hid (z ≤ q + 6 * Tm.wts (xs.take j))) ∧ (∃ f g, fps = f ++ g ∧ RMs wr (xs.drop j) b (off + j * 9) g) ∧ Wrote (b :: fps) w wr) (fun _ i _ => n - (intOf i).toNat)
    case atStart => exact ⟨0, by omega, rfl, ⟨q, rfl, by omega, by simp [Hid, Tm.wts]⟩, ⟨[], fps, rfl, by simpa using hR⟩, Wrote.refl _ _⟩
    case round =>
      clear hR
      obtain ⟨j, hj, rfl, ⟨z, rfl, hz0, HZ⟩, ⟨f, g, hfg, hRj⟩, hW⟩ := hrel
      by_cases hjn : j < n
      · have hjx : j < xs.length := by rw [← HX.out]; exact hjn
        have hw1 := Tm.wts_take xs j hjx
        have hw2 := Tm.wts_take_le xs (j + 1)
        have hw3 := Tm.wt_eq xs[j]
        have hz1 := HZ.out
        rw [List.drop_eq_getElem_cons hjx, RMs] at hRj
        obtain ⟨l, fj, g', rfl, hc, ht, hts⟩ := hRj
        obtain ⟨f1, f2, f3, rfl, ht1, ht2, ht3⟩ := ht.parts
        obtain ⟨e0, e1, e2, e3, e4, e5, e6, e7, e8⟩ := hc.nine
        have hbw : b < wr.heap.size := lt_of_cell e0
        have hFw : Free wr (b :: fps) := hW.free hF.out hbl.out
        have hz : ∀ o, wr.frozen? ⟨b, o, none⟩ = false := hFw b (by simp)
        have hlt : ∀ x ∈ b :: fps, x < wr.heap.size := fun x hx => Nat.lt_of_lt_of_le (hbl.out x hx) hW.size
        have hnd' := hnd.out
        rw [hfg] at hnd' hFw hlt
        obtain ⟨hb1, hn0⟩ := List.nodup_cons.1 hnd'
        obtain ⟨-, hn1, -⟩ := List.nodup_append.1 hn0
        obtain ⟨hn2, hn3, hd3⟩ := List.nodup_append.1 hn1
        obtain ⟨hn4, hn5, hd4⟩ := List.nodup_append.1 hn2
        obtain ⟨hn6, hn7, hd5⟩ := List.nodup_append.1 hn5
        have d12 : ∀ x ∈ f2, x ∉ f1 := fun x hx h => hd4 x h x (by simp [hx]) rfl
        have d13 : ∀ x ∈ f3, x ∉ f1 := fun x hx h => hd4 x h x (by simp [hx]) rfl
        have d23 : ∀ x ∈ f3, x ∉ f2 := fun x hx h => hd5 x h x hx rfl
        have hb2 : ∀ x, x ∈ f1 ∨ x ∈ f2 ∨ x ∈ f3 ∨ x ∈ g' → x ≠ b := fun x hx e => hb1 (by subst e; simp; rcases hx with h | h | h | h <;> simp [h])
        have hg1 : ∀ x ∈ g', x ∉ f1 ++ (f2 ++ f3) := fun x hx h => hd3 x h x hx rfl
        have K0 := Kp.set (b := b) (o0 := off + j * 9) (fs := []) (w := wr) (off + j * 9) (.int .i64 z) (by omega) (by omega) ⟨by omega, by omega, by omega⟩
        have z0 := hz (off + j * 9)
        have HH := hide (show RT wr xs[j].type (.int .i64 xs[j].type.kind) (.slice l.ta l.tn l.tc) f1 ∧ RT wr xs[j].res (.int .i64 xs[j].res.kind) (.slice l.ra l.rn l.rc) f2 ∧ RMa wr xs[j].args l.aa l.an l.ac f3 ∧ RMs wr (xs.drop (j + 1)) b (off + j * 9 + 9) g' from ⟨ht1, ht2, ht3, hts⟩)
        have HC := hide (IH.out xs[j] (List.getElem_mem hjx))
        clear ht1 ht2 ht3 hts hc ht
        go_wp2_with fail
        refine (markText_int _ _ (by omega) (by omega)).mono ?_
        rintro e w1 ⟨s1, rfl, b1⟩
        have K1 := K0.trans (Kp.below b1 (by simpa using hbw))
        obtain ⟨v1, c1⟩ := K1.at_ e1
        have z1 := K1.free hbw hz (off + j * 9 + 1)
        have K1' := K1.trans (Kp.set (off + j * 9 + 1) (.string s1) (by omega) (by omega) ⟨by omega, by omega, by omega⟩)
        clear e0
        go_wp2_with fail
        refine (markText_int _ _ (by omega) (by omega)).mono ?_
        rintro e w2 ⟨s2, rfl, b2⟩
        have K2 := K1'.trans (Kp.below b2 (Nat.lt_of_lt_of_le hbw K1'.size))
        obtain ⟨v2, c2⟩ := K2.at_ e2
        obtain ⟨v3, c3⟩ := K2.at_ e3
        obtain ⟨v4, c4⟩ := K2.at_ e4
        have c5 := (K2.same (off + j * 9 + 5) (by omega)).trans e5
        have y2 := K2.free hbw hz (off + j * 9 + 2)
        have y3 := K2.free hbw hz (off + j * 9 + 3)
        have y4 := K2.free hbw hz (off + j * 9 + 4)
        clear e1 e2 e3 e4 c1 z1 z0
        have KA : ∀ u3 u4 : Value, Kp b (off + j * 9) [] wr (((w2.setCell ⟨b, off + j * 9 + 2, none⟩ (.string s2)).setCell ⟨b, off + j * 9 + 3, none⟩ u3).setCell ⟨b, off + j * 9 + 4, none⟩ u4) := fun u3 u4 =>
          ((K2.trans (Kp.set (off + j * 9 + 2) (.string s2) (by omega) (by omega) ⟨by omega, by omega, by omega⟩)).trans (Kp.set (off + j * 9 + 3) u3 (by omega) (by omega) ⟨by omega, by omega, by omega⟩)).trans (Kp.set (off + j * 9 + 4) u4 (by omega) (by omega) ⟨by omega, by omega, by omega⟩)
        have CA := fun (u3 u4 : Value) (q : Int) (h0 : 0 ≤ q) (h1 : q + Ty.sizes xs[j].type.args ≤ 1099511627776) => markTypeS_any xs[j].type.args l.ta l.tn l.tc f1 q _ (RT.rta (RT.keep _ _ _ _ HH.out.1 fun x hx => (KA u3 u4).sameB (hlt x (by simp [hx])) (hb2 x (.inl hx)) (by simp))) hn4
          (fun x hx o => ((KA u3 u4).wr.frozen x o (hlt x (by simp [hx]))).trans (hFw x (by simp [hx]) o)) h0 h1
        replace CA := hide CA
        go_wp2_with fail
        refine (CA.out _ _ _ (by omega) (by omega)).mono ?_
        rintro e w3 ⟨rfl, -, hW1⟩
        have K3 := ((KA _ _).more (gs := f1) (by simp)).trans (Kp.wrote hW1 (Nat.lt_of_lt_of_le hbw (KA _ _).size) (fun h => hb2 b (.inl h) rfl) fun x hx => hx)
        obtain ⟨v6, c6⟩ := K3.at_ e6
        have c7 := (K3.same (off + j * 9 + 7) (by omega)).trans e7
        have z6 := K3.free hbw hz (off + j * 9 + 6)
        clear c2 c3 c4 c5 y2 y3 y4 e5 e6 CA
        have KB : ∀ u6 : Value, Kp b (off + j * 9) f1 wr (w3.setCell ⟨b, off + j * 9 + 6, none⟩ u6) := fun u6 => K3.trans (Kp.set (off + j * 9 + 6) u6 (by omega) (by omega) ⟨by omega, by omega, by omega⟩)
        have CB := fun (u6 : Value) (q : Int) (h0 : 0 ≤ q) (h1 : q + Ty.sizes xs[j].res.args ≤ 1099511627776) => markTypeS_any xs[j].res.args l.ra l.rn l.rc f2 q _ (RT.rta (RT.keep _ _ _ _ HH.out.2.1 fun x hx => (KB u6).sameB (hlt x (by simp [hx])) (hb2 x (.inr (.inl hx))) (d12 x hx))) hn6
          (fun x hx o => ((KB u6).wr.frozen x o (hlt x (by simp [hx]))).trans (hFw x (by simp [hx]) o)) h0 h1
        replace CB := hide CB
        go_wp2_with fail
        refine (CB.out _ _ (by omega) (by omega)).mono ?_
        rintro e w4 ⟨rfl, -, hW2⟩
        have K4 := ((KB _).more (gs := f1 ++ f2) (by simp +contextual)).trans (Kp.wrote hW2 (Nat.lt_of_lt_of_le hbw (KB _).size) (fun h => hb2 b (.inr (.inl h)) rfl) fun x hx => by simp [hx])
        have c8 := (K4.same (off + j * 9 + 8) (by omega)).trans e8
        clear c6 c7 z6 e7 e8 CB
        have CD := fun (q : Int) (h0 : 0 ≤ q) (h1 : q + 6 * Tm.wts xs[j].args ≤ 16777216) => HC.out l.aa l.an l.ac f3 q w4 (HH.out.2.2.1.keep fun x hx => K4.sameB (hlt x (by simp [hx])) (hb2 x (.inr (.inr (.inl hx)))) (by simp [d13 x hx, d23 x hx])) hn7
          (fun x hx o => (K4.wr.frozen x o (hlt x (by simp [hx]))).trans (hFw x (by simp [hx]) o)) h0 h1
        replace CD := hide CD
        go_wp2_with fail
        refine (CD.out _ (by omega) (by omega)).mono ?_
        rintro e w5 ⟨z', rfl, hz2, hz3, hW3⟩
        have K5 := (K4.more (gs := f1 ++ (f2 ++ f3)) (fun x hx => by rcases List.mem_append.1 hx with h | h <;> simp [h])).trans (Kp.wrote hW3 (Nat.lt_of_lt_of_le hbw K4.size) (fun h => hb2 b (.inr (.inr (.inl h))) rfl) fun x hx => by simp [hx])
        go_wp2_with fail
        go_roundw
        case rel =>
          refine ⟨j + 1, by omega, by go_num, ⟨z', rfl, by omega, by unfold Hid; omega⟩, ⟨f ++ (f1 ++ (f2 ++ f3)), g', by rw [hfg]; simp, ?_⟩, hW.trans (K5.wr.more fun x hx => ?_)⟩
          · rw [show off + (j + 1) * 9 = off + j * 9 + 9 by omega]
            exact HH.out.2.2.2.keep_part (fun o h h' => K5.same o (by omega)) fun x hx => K5.sameB (hlt x (by simp [hx])) (hb2 x (.inr (.inr (.inr hx)))) (hg1 x hx)
          · rcases List.mem_cons.1 hx with rfl | hx
            · exact List.mem_cons_self
            · rw [hfg]
              simp at hx ⊢
              rcases hx with h | h | h <;> simp [h]
        case measure => simp [intOf]; omega
      · go_wp2
        go_ret
        have hx1 := HX.out
        have h3 := HZ.out
        rw [List.take_of_length_le (by omega)] at h3
        exact ⟨z, rfl, hz0, h3, hW⟩
theorem markTermS_any (xs : List Tm) : MarkMC xs := by
  have key : ∀ t : Tm, MarkMC t.args := fun t => by
    induction t using Tm.ind' with | h t ih => ?_
    exact markTermS_of t.args ih
  exact key ⟨0, ⟨#[]⟩, ⟨#[]⟩, 0, ⟨0, []⟩, ⟨0, []⟩, xs⟩

/-- What markTerm does to a copy. -/
theorem markTerm_any (t : Tm) (l : Lt) (fp : List Nat) (q : Int) (w : World) (h : RM w t l fp) (hnd : fp.Nodup) (hF : Free w fp) (hw : t.wt ≤ 1048576) (hq0 : 0 ≤ q) (hq1 : q ≤ 1048576) :
    Calls Try.prog 22 #[.agg #[.int .i64 t.kind, .string t.name, .string t.other, .int .i64 t.n, .int .i64 t.type.kind, .slice l.ta l.tn l.tc, .int .i64 t.res.kind, .slice l.ra l.rn l.rc, .slice l.aa l.an l.ac], .int .i64 q] w fun e w' => ∃ z : Int, e = .returned (.int .i64 z) ∧ 0 ≤ z ∧ Wrote fp w w' := by
  have hwt := t.wt_eq
  obtain ⟨f1, f2, f3, rfl, ht1, ht2, ht3⟩ := h.parts
  have hlt := h.lt
  obtain ⟨hn4, hn5, hd4⟩ := List.nodup_append.1 hnd
  obtain ⟨hn6, hn7, hd5⟩ := List.nodup_append.1 hn5
  have d12 : ∀ x ∈ f2, x ∉ f1 := fun x hx h => hd4 x h x (by simp [hx]) rfl
  have d13 : ∀ x ∈ f3, x ∉ f1 := fun x hx h => hd4 x h x (by simp [hx]) rfl
  have d23 : ∀ x ∈ f3, x ∉ f2 := fun x hx h => hd5 x h x hx rfl
  have W0 : Wrote [] w (w.alloc (.cells #[.int .i64 t.kind, .string t.name, .string t.other, .int .i64 t.n, .int .i64 t.type.kind, .slice l.ta l.tn l.tc, .int .i64 t.res.kind, .slice l.ra l.rn l.rc, .slice l.aa l.an l.ac] 42)) := Wrote.of_below (below_new _ _)
  have hbx : ∀ x ∈ f1 ++ (f2 ++ f3), x ≠ w.heap.size := fun x hx e => by have := hlt x hx; omega
  have B0 := Blk.new w 42 #[.int .i64 t.kind, .string t.name, .string t.other, .int .i64 t.n, .int .i64 t.type.kind, .slice l.ta l.tn l.tc, .int .i64 t.res.kind, .slice l.ra l.rn l.rc, .slice l.aa l.an l.ac]
  have hF0 : ∀ {W : World} {g : List Nat}, Wrote g w W → Free W (f1 ++ (f2 ++ f3)) := fun hw => hw.free hF hlt
  have CA := markType_any t.type _ _ f1 q (w.alloc (.cells #[.int .i64 t.kind, .string t.name, .string t.other, .int .i64 t.n, .int .i64 t.type.kind, .slice l.ta l.tn l.tc, .int .i64 t.res.kind, .slice l.ra l.rn l.rc, .slice l.aa l.an l.ac] 42)) (RT.keep _ _ _ _ ht1 fun x hx => W0.same (hlt x (by simp [hx])) (by simp)) hn4 (fun x hx o => hF0 W0 x (by simp [hx]) o) hq0 (by omega)
  replace CA := hide CA
  go_enter Try.func22, Try.ntmps22
  go_wp2_with fail
  refine CA.out.mono ?_
  rintro e w1 ⟨rfl, -, hW1⟩
  have B1 : Blk w1 w.heap.size 42 #[.int .i64 t.kind, .string t.name, .string t.other, .int .i64 t.n, .int .i64 t.type.kind, .slice l.ta l.tn l.tc, .int .i64 t.res.kind, .slice l.ra l.rn l.rc, .slice l.aa l.an l.ac] := (hW1.block _ B0.lt (fun h => hbx _ (by simp [h]) rfl)).trans B0
  obtain ⟨u0, u1, u2, u3, u4, u5, u6, u7, u8⟩ := B1.nine
  have W1 : Wrote f1 w w1 := (W0.more (by simp)).trans hW1
  have CB := fun (q' : Int) (h0 : 0 ≤ q') (h1 : q' + Ty.sizes t.res.args ≤ 1099511627776) => markType_any t.res _ _ f2 q' w1 (RT.keep _ _ _ _ ht2 fun x hx => W1.same (hlt x (by simp [hx])) (d12 x hx)) hn6 (fun x hx o => hF0 W1 x (by simp [hx]) o) h0 h1
  replace CB := hide CB
  go_wp2_with fail
  refine (CB.out _ (by omega) (by omega)).mono ?_
  rintro e w2 ⟨rfl, -, hW2⟩
  have B2 : Blk w2 w.heap.size 42 #[.int .i64 t.kind, .string t.name, .string t.other, .int .i64 t.n, .int .i64 t.type.kind, .slice l.ta l.tn l.tc, .int .i64 t.res.kind, .slice l.ra l.rn l.rc, .slice l.aa l.an l.ac] := (hW2.block _ B1.lt (fun h => hbx _ (by simp [h]) rfl)).trans B1
  clear u0 u1 u2 u3 u4 u5 u6 u7 u8
  obtain ⟨u0, u1, u2, u3, u4, u5, u6, u7, u8⟩ := B2.nine
  have W2 : Wrote (f1 ++ f2) w w2 := (W1.more fun x hx => by simp [hx]).trans (hW2.more fun x hx => by simp [hx])
  have CD := fun (q' : Int) (h0 : 0 ≤ q') (h1 : q' + 6 * Tm.wts t.args ≤ 16777216) => markTermS_any t.args l.aa l.an l.ac f3 q' w2 (ht3.keep fun x hx => W2.same (hlt x (by simp [hx])) (by simp [d13 x hx, d23 x hx])) hn7 (fun x hx o => hF0 W2 x (by simp [hx]) o) h0 h1
  replace CD := hide CD
  go_wp2_with fail
  refine (CD.out _ (by omega) (by omega)).mono ?_
  rintro e w3 ⟨z, rfl, hz1, -, hW3⟩
  go_wp2_with fail
  go_ret
  exact ⟨z, rfl, by omega, (W2.more fun x hx => by rcases List.mem_append.1 hx with h | h <;> simp [h]).trans (hW3.more fun x hx => by simp [hx])⟩
end Go.Proofs.Ytknlbhclfeldbaa
