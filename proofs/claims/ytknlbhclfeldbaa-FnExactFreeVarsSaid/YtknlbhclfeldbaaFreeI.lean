/-
  The walk of the program's FreeVars.
-/
import Derived.Test.YtknlbhclfeldbaaFreeS
import Derived.Test.YtknlbhclfeldbaaMarkR
namespace Go.Proofs.Ytknlbhclfeldbaa
open Go.RowKit
set_option linter.unusedVariables false
set_option linter.unusedSimpArgs false

theorem OwnS.nn {base : Nat} {w : World} {v : Value} {xs : List ByteArray} (h : OwnS base w v xs) (hs : v.ownBlock.isSome = true) (hsz : ∀ x ∈ xs, x.size ≤ 9223372036854775807) :
    ∃ g cap cur, v = .slice (some ⟨g, 0, none⟩) xs.length cap ∧ base ≤ g ∧ g < w.heap.size ∧ Blk w g 9 cur ∧ cur.size = cap ∧ xs.length ≤ cap ∧ cap ≤ maxLen ∧ Rss w xs (some ⟨g, 0, none⟩) xs.length cap ∧ ∀ i (h : i < xs.length), cur[i]? = some (.string xs[i]) := by
  obtain ⟨a, cap, rfl, hR⟩ := h.read hsz
  cases a with
  | none => cases hs
  | some p =>
    obtain ⟨g, cur, rfl, hb, hG, hle⟩ := h.free rfl p rfl
    obtain ⟨cur2, hG2, p1, p2, p3⟩ := OwnS.parts h
    have hcc : cur2 = cur := by
      have := hG2.symm.trans hG
      injection this with this
      injection this
    subst hcc
    refine ⟨g, cap, cur2, rfl, hb, hG.lt, hG, p1, p2, p3, hR, fun i hi => ?_⟩
    obtain ⟨b, off, hp, -, hc⟩ := hR.get i hi
    injection hp with hp
    injection hp with e1 e2 e3
    subst e1 e2
    rw [← hG.cell]
    simpa using hc

theorem freeLit_any (x : ByteArray) (names : List ByteArray) (na : Option Addr) (nc bx : Nat) (w : World) (hA : w.cell? ⟨bx, 0, none⟩ = some (.slice na names.length nc)) (h : Rss w names na names.length nc) :
    Calls Try.prog 40 #[.string x, .pointer (some ⟨bx, 0, none⟩)] w fun e w' => e = .returned (.bool (hasN names x)) ∧ w = w' := by
  have C := hide (containsString_any names x na names.length nc w h)
  clear h
  go_enter Try.func40, Try.ntmps40
  go_wp2_with (go_at_call 33; (with_reducible refine C.out.mono ?_); rintro e w1 ⟨rfl, rfl⟩)
  go_ret
  exact ⟨ret_bool (hasN_contains _ _), rfl⟩

set_option maxHeartbeats 6400000 in
theorem implFreeVars_any (t : Tm) : ∀ (l : Lt) (w : World), Md w t l → t.wt ≤ 1048576 → Calls Try.prog 20 #[.agg #[.int .i64 t.kind, .string t.name, .string t.other, .int .i64 t.n, .int .i64 t.type.kind, .slice l.ta l.tn l.tc, .int .i64 t.res.kind, .slice l.ra l.rn l.rc, .slice l.aa l.an l.ac]] w (GivesN w t.free) := by
  induction t using Tm.ind' with | h t ih => ?_
  intro l w h hw
  have IH := hide ih
  clear ih
  have hfree := t.free_eq
  have hwt := t.wt_eq
  have k0 : Below w.heap.size w (w.alloc (.cells #[.int .i64 t.kind, .string t.name, .string t.other, .int .i64 t.n, .int .i64 t.type.kind, .slice l.ta l.tn l.tc, .int .i64 t.res.kind, .slice l.ra l.rn l.rc, .slice l.aa l.an l.ac] 42)) := below_new _ _
  have B0 := Blk.new w 42 #[.int .i64 t.kind, .string t.name, .string t.other, .int .i64 t.n, .int .i64 t.type.kind, .slice l.ta l.tn l.tc, .int .i64 t.res.kind, .slice l.ra l.rn l.rc, .slice l.aa l.an l.ac]
  cases hk : (t.kind == 1) with
  | true =>
    rw [hk] at hfree
    simp only [if_true] at hfree
    rw [hfree]
    have O1 := hide (OwnS.new (w.alloc (.cells #[.int .i64 t.kind, .string t.name, .string t.other, .int .i64 t.n, .int .i64 t.type.kind, .slice l.ta l.tn l.tc, .int .i64 t.res.kind, .slice l.ra l.rn l.rc, .slice l.aa l.an l.ac] 42)) w.heap.size (by simp) [t.name] (by simp))
    clear hfree h hwt hw
    go_enter Try.func20, Try.ntmps20
    go_wp2_with fail
    go_ret
    exact ⟨_, rfl, by simpa using O1.out, k0.alloc (by simp) _, rfl⟩
  | false =>
    rw [hk] at hfree
    simp only [Bool.false_eq_true, if_false] at hfree
    rw [hfree]
    have hns := boundN_size t 1048576 (by omega) (by omega)
    have hnl := boundN_len t
    have hfs := fun k => frees_size (t := t) 1048576 hw k
    have hfl := fun k => frees_len (t := t) k
    have CB := hide (bound_any t l _ (h.below k0))
    obtain ⟨-, -, -, hr⟩ := h.shape
    have hz := Nat.le_trans t.args_le_wt hw
    have hn : l.an ≤ 1048576 := by
      have := Tm.length_le_sizes t.args
      have h1 : l.an = t.args.length := hr.1
      omega
    have HA := hide (show ∀ j (hj : j < t.args.length), t.args[j].wt ≤ 1048576 from fun j hj => by
      have h1 := Tm.wts_take t.args j hj
      have h2 := Tm.wts_take_le t.args (j + 1)
      omega)
    obtain ⟨bb, hbb⟩ : ∃ bb, bb = boundN t := ⟨_, rfl⟩
    rw [← hbb] at CB hns hnl hfs hfl ⊢
    replace hbb := hide hbb
    replace hns := hide hns
    replace hfs := hide hfs
    replace hfl := hide hfl
    obtain ⟨names, at_⟩ := bb
    dsimp only at *
    clear hfree h hwt
    go_enter Try.func20, Try.ntmps20
    go_wp2_with fail
    refine CB.out.mono ?_
    rintro e w1 ⟨vn, rfl, hN, b1⟩
    have k1 := below_next k0 b1
    have B1 := B0.under b1
    obtain ⟨na, nc, rfl, hNR⟩ := hN.read (fun x hx => Nat.le_trans (hns.out x hx) (by decide))
    have hnb := hide (show ∀ p, na = some p → p.block < w1.heap.size from fun p hp => (hN.lt p.block (by subst hp; rfl)).2)
    obtain ⟨nl, hnl2⟩ : ∃ nl, nl = names.length := ⟨_, rfl⟩
    rw [← hnl2] at hNR ⊢
    replace hnl2 := hide hnl2
    have k2 := (k1.alloc (o := .cells #[.slice na nl nc] 22) k1.size).alloc (o := .cells #[] 9) (by have := k1.size; simp; omega)
    have N1 := (Blk.new w1 22 #[.slice na nl nc]).alloc (.cells #[] 9)
    have O1 : OwnS w.heap.size ((w1.alloc (.cells #[.slice na nl nc] 22)).alloc (.cells #[] 9)) _ [] := OwnS.none_ _ w.heap.size (by have := k1.size; simp; omega)
    replace B1 := (B1.alloc (.cells #[.slice na nl nc] 22)).alloc (.cells #[] 9)
    obtain ⟨z0, z1, z2, z3, z4, z5, z6, z7, z8⟩ := B1.nine
    replace hNR := hide ((hNR.below (below_new w1 (.cells #[.slice na nl nc] 22))).below (below_new _ (.cells #[] 9)))
    clear hN
    go_wp2_with fail
    go_loopw [5, 6, 7, 8, 24] (fun v _ _ _ i wr => ∃ j : Nat, j ≤ l.an ∧ i = .int .i64 j ∧ OwnS w.heap.size wr v (Tm.frees (names, at_) (t.args.take j) 0 []) ∧ Hid (v.ownBlock.isSome = true) ∧ Hid (Rss wr names na nl nc) ∧ Blk wr w1.heap.size 22 #[.slice na nl nc] ∧ Below w.heap.size w wr ∧ w1.heap.size < wr.heap.size) (fun _ _ _ _ i _ => l.an - (intOf i).toNat)
    case atStart => exact ⟨0, by omega, rfl, by simpa [Tm.frees] using O1, rfl, hNR, N1, k2, by simp; omega⟩
    case round =>
      clear O1 hNR N1 B1 k2 z0 z1 z2 z3 z4 z5 z6 z7 z8
      obtain ⟨j, hj, rfl, hO, HS, HNR, hB, hb, hsw⟩ := hrel
      have hsz := hb.size
      have k1s := k1.size
      by_cases hjn : j < l.an
      · have hjx : j < t.args.length := by rw [← hr.1]; exact hjn
        obtain ⟨b, off, l', ha, hlt, hc, hd⟩ := (hr.below hb).get j hjx
        obtain ⟨e0, e1, e2, e3, e4, e5, e6, e7, e8⟩ := hc.nine
        clear hc
        rw [ha]
        have hwx := HA.out j hjx
        have C := hide (fun W hW => IH.out _ (List.getElem_mem hjx) l' W hW hwx)
        have hxs := hide (show ∀ s ∈ t.args[j].free, s.size ≤ 9223372036854775807 from fun s hs => Nat.le_trans (Tm.free_size 1048576 t.args[j] hwx s hs) (by decide))
        have hxl := t.args[j].free_len
        have HSTEP := hide (Tm.frees_take (names, at_) t.args j hjx).symm
        have hal := hfl.out j
        have has := hide (show ∀ s ∈ Tm.frees (names, at_) (t.args.take j) 0 [], s.size ≤ 9223372036854775807 from fun s hs => Nat.le_trans (hfs.out j s hs) (by decide))
        have hs1 := Tm.sizes_take t.args j hjx
        have hs2 := Tm.sizes_take_le t.args (j + 1)
        have hs3 := t.args[j].size_eq
        obtain ⟨acc, hacc⟩ : ∃ acc, acc = Tm.frees (names, at_) (t.args.take j) 0 [] := ⟨_, rfl⟩
        rw [← hacc] at hO HSTEP hal has
        replace hacc := hide hacc
        obtain ⟨xf, hxf⟩ : ∃ xf, xf = t.args[j].free := ⟨_, rfl⟩
        rw [← hxf] at C hxs hxl
        have hsum : acc.length + xf.length ≤ 2097152 := by omega
        replace hxl := hide hxl
        replace hal := hide hal
        have HAA := hide ha
        have hpart : partN (names, at_) t.args[j] j = if ((j : Int) == at_) then xf.filter (fun s => !hasN names s) else xf := by rw [partN, ← hxf]
        replace hxf := hide hxf
        clear hs1 hs2 hs3 ha
        cases hpq : ((j : Int) == at_) with
        | true =>
          rw [hpq] at hpart
          simp only [if_true] at hpart
          rw [hpart] at HSTEP
          clear hpart
          go_wp2_with fail
          refine (C.out _ (hd.below (below_new _ _))).mono ?_
          rintro e w2 ⟨vx, rfl, hX, b2, hxn⟩
          have kx := below_of_alloc b2
          have hb2 := hb.trans (kx.mono hsz)
          obtain ⟨ga, ca, cra, rfl, ha1, ha2, ha3, -, -, -, hRa, -⟩ := OwnS.nn hO HS.out has.out
          obtain ⟨gx, cx, cur, rfl, hx1, hx2, hx3, hx4, hx5, hx6, hRx, hcur⟩ := OwnS.nn hX hxn hxs.out
          simp at hx1
          have hO2 := OwnS.below hO kx
          have HNR2 := HNR.out.below kx
          have hB2 := hB.under kx
          have hnab : ∀ p, na = some p → p.block ∉ [gx] := fun p hp => by
            have := hnb.out p hp
            simp
            omega
          have CD := hide (deleteFuncS_Free (fun s => hasN names s) w1.heap.size gx (fun W => W.cell? ⟨w1.heap.size, 0, none⟩ = some (.slice na nl nc) ∧ Rss W names na nl nc)
            (fun W i u hW => ⟨by rw [World.cell?_setCell_other _ _ _ _ (by first | (simp; done) | (simp; omega))]; exact hW.1, hW.2.wrote (Wrote.setCell (p := ⟨gx, i, none⟩) (fp := [gx]) (by simp) u) hnab⟩) xf
            (fun x hx W hW => by have h9 := hW; rw [hnl2.out] at h9; exact freeLit_any x names na nc w1.heap.size W h9.1 h9.2) cx cur w2 ⟨hB2.cell 0, HNR2⟩ hx3 hcur (by omega) hRx (by omega))
          replace HNR2 := hide HNR2
          have hnab := hide hnab
          clear hO HNR hB hX e0 e1 e2 e3 e4 e5 e6 e7 e8 hd hRa hRx hcur
          go_wp2_with fail
          refine CD.out.mono ?_
          rintro e w3 ⟨rfl, hw3, cur', hG', hs', hc'⟩
          have hP := own_of_blk (base := wr.heap.size) (xs := keptN (fun s => hasN names s) xf) (cap := cx) hG' (by omega) (Nat.le_trans (List.length_filter_le _ _) hx5) hx6 (by rw [hs']; exact hx4) hc'
          obtain ⟨a9, c9, e9, hRp⟩ := hP.read (fun x hx => hxs.out x (List.mem_filter.1 hx).1)
          injection e9 with g1 g2 g3
          subst g1 g3
          have hO3 := OwnS.wrote hO2 hw3 (fun g hg => by simp [Value.ownBlock] at hg; subst hg; simp; omega)
          obtain ⟨a8, c8, e8, hRa⟩ := hO3.read has.out
          injection e8 with f1 f2 f3
          subst f1 f3
          have hb3 := hb2.trans (hw3.below hb2.size (by intro b hb; simp at hb; omega))
          have HNR3 := hide (HNR2.out.wrote hw3 hnab.out)
          have hB3 : Blk w3 w1.heap.size 22 #[.slice na nl nc] := (hw3.block w1.heap.size hB2.lt (by simp; omega)).trans hB2
          have hkl : (keptN (fun s => hasN names s) xf).length ≤ xf.length := List.length_filter_le _ _
          obtain ⟨part, hpt⟩ : ∃ part, part = keptN (fun s => hasN names s) xf := ⟨_, rfl⟩
          rw [← hpt] at hRp hkl ⊢
          have hpt2 := hide (show xf.filter (fun s => !hasN names s) = part by rw [hpt]; rfl)
          rw [hpt2.out] at HSTEP
          have hw3s : w1.heap.size < w3.heap.size := hB3.lt
          clear hO2 HNR2 hB2 hP hO3 hpt hw3 cur' hG' hs' hc'
          go_wp2_with fail
          refine (implUniteNames_nn acc part _ _ _ _ _ _ _ hRa hRp (by omega)).mono ?_
          rintro e w4 ⟨v', rfl, hU, b4, hun⟩
          have k4 := hb3.trans (b4.mono hb3.size)
          have HR4 := hide (HNR3.out.below b4)
          have B4 := hB3.under b4
          have hU' := OwnS.mono hU hb3.size
          rw [HSTEP.out] at hU'
          have hun := hide hun
          clear hU
          go_wp2_with fail
          go_roundw
          case rel => exact ⟨j + 1, by omega, by go_num, hU', hun, HR4, B4, k4, B4.lt⟩
          case measure => simp [intOf]; omega
        | false =>
          rw [hpq] at hpart
          simp only [Bool.false_eq_true, if_false] at hpart
          rw [hpart] at HSTEP
          clear hpart
          go_wp2_with fail
          refine (C.out _ (hd.below (below_new _ _))).mono ?_
          rintro e w2 ⟨vx, rfl, hX, b2, hxn⟩
          have kx := below_of_alloc b2
          have hb2 := hb.trans (kx.mono hsz)
          obtain ⟨ga, ca, cra, rfl, ha1, ha2, ha3, -, -, -, hRa, -⟩ := OwnS.nn (OwnS.below hO kx) HS.out has.out
          obtain ⟨gx, cx, cur, rfl, hx1, hx2, hx3, hx4, hx5, hx6, hRx, hcur⟩ := OwnS.nn hX hxn hxs.out
          have HNR2 := hide (HNR.out.below kx)
          have hB2 := hB.under kx
          clear hO HNR hB hX e0 e1 e2 e3 e4 e5 e6 e7 e8 hd hcur
          go_wp2_with fail
          refine (implUniteNames_nn acc xf _ _ _ _ _ _ _ hRa hRx (by omega)).mono ?_
          rintro e w4 ⟨v', rfl, hU, b4, hun⟩
          have k4 := hb2.trans (b4.mono hb2.size)
          have HR4 := hide (HNR2.out.below b4)
          have B4 := hB2.under b4
          have hU' := OwnS.mono hU hb2.size
          rw [HSTEP.out] at hU'
          have hun := hide hun
          clear hU
          go_wp2_with fail
          go_roundw
          case rel => exact ⟨j + 1, by omega, by go_num, hU', hun, HR4, B4, k4, B4.lt⟩
          case measure => simp [intOf]; omega
      · have h4 : l.an = t.args.length := hr.1
        rw [List.take_of_length_le (by omega)] at hO
        go_wp2_with fail
        go_ret
        exact ⟨_, rfl, hO, hb, HS.out⟩
end Go.Proofs.Ytknlbhclfeldbaa
