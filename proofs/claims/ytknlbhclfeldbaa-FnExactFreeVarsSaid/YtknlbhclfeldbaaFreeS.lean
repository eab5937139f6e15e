/-
  The walk of the reference's FreeVars.
-/
import Derived.Test.YtknlbhclfeldbaaBoundM
namespace Go.Proofs.Ytknlbhclfeldbaa
open Go.RowKit
set_option linter.unusedVariables false
set_option linter.unusedSimpArgs false

theorem withoutN_fold (ns : List ByteArray) : ∀ xs : List ByteArray, ns.foldl withoutN xs = xs.filter fun s => !hasN ns s := by
  induction ns with
  | nil =>
    intro xs
    rw [List.foldl_nil, eq_comm, List.filter_eq_self]
    intro x _
    rfl
  | cons n ns ih =>
    intro xs
    rw [List.foldl_cons, ih, withoutN, List.filter_filter]
    congr 1
    funext s
    simp only [hasN, List.any_cons, Bool.not_or]
    rw [Bool.and_comm]
theorem fold_take (ns : List ByteArray) (a : List ByteArray) (k : Nat) (h : k < ns.length) : (ns.take (k + 1)).foldl withoutN a = withoutN ((ns.take k).foldl withoutN a) ns[k] := by
  rw [take_snoc ns k h, List.foldl_append]
  rfl
theorem foldW_len (ns a : List ByteArray) : (ns.foldl withoutN a).length ≤ a.length := by rw [withoutN_fold]; exact List.length_filter_le _ _
theorem foldW_mem {ns a : List ByteArray} {x : ByteArray} (h : x ∈ ns.foldl withoutN a) : x ∈ a := by
  rw [withoutN_fold] at h
  exact (List.mem_filter.1 h).1
theorem partN_mem {b : List ByteArray × Int} {t : Tm} {i : Nat} {x : ByteArray} (h : x ∈ partN b t i) : x ∈ t.free := by
  unfold partN at h
  split at h
  · exact (List.mem_filter.1 h).1
  · exact h
theorem Tm.free_size (N : Nat) (t : Tm) : t.wt ≤ N → ∀ s ∈ t.free, s.size ≤ N := by
  induction t using Tm.ind' with | h t ih => ?_
  intro hw s hs
  have hwt := t.wt_eq
  rw [Tm.free_eq] at hs
  split at hs
  · have : s = t.name := by simpa using hs
    subst this
    omega
  · refine Tm.frees_size_of _ N t.args (fun x hx => ih x hx ?_) 0 [] (fun s hs => by cases hs) s hs
    have h1 : 1 + x.wt ≤ Tm.wts t.args := by
      clear ih hs
      have := t.args
      revert hx
      generalize t.args = xs
      intro hx
      induction xs with
      | nil => cases hx
      | cons y ys ih2 =>
        rw [Tm.wts]
        rcases List.mem_cons.1 hx with rfl | h
        · omega
        · have := ih2 h
          omega
    omega
theorem boundN_len (t : Tm) : (boundN t).1.length ≤ 2 := by
  unfold boundN
  split
  · simp
  · split
    · simp
    · split <;> simp
theorem boundN_size (t : Tm) (N : Nat) (h1 : t.name.size ≤ N) (h2 : t.other.size ≤ N) : ∀ s ∈ (boundN t).1, s.size ≤ N := by
  intro s hs
  unfold boundN at hs
  split at hs
  · simp at hs; subst hs; exact h1
  · split at hs
    · simp at hs; subst hs; exact h1
    · split at hs
      · simp at hs
        rcases hs with rfl | rfl
        · exact h1
        · exact h2
      · cases hs
theorem frees_size {t : Tm} (N : Nat) (h : t.wt ≤ N) (k : Nat) : ∀ s ∈ Tm.frees (boundN t) (t.args.take k) 0 [], s.size ≤ N := by
  refine Tm.frees_size_of _ N _ (fun x hx => Tm.free_size N x ?_) 0 [] fun s hs => by cases hs
  have hx := List.mem_of_mem_take hx
  have hwt := t.wt_eq
  have h1 : ∀ xs : List Tm, x ∈ xs → 1 + x.wt ≤ Tm.wts xs := fun xs => by
    induction xs with
    | nil => intro hx; cases hx
    | cons y ys ih =>
      intro hx
      rw [Tm.wts]
      rcases List.mem_cons.1 hx with rfl | h
      · omega
      · have := ih h
        omega
  have := h1 _ hx
  omega
theorem frees_len {t : Tm} (k : Nat) : (Tm.frees (boundN t) (t.args.take k) 0 []).length ≤ Tm.sizes (t.args.take k) := by
  have := Tm.frees_len_of (boundN t) (t.args.take k) (fun x _ => x.free_len) 0 []
  simpa using this

set_option maxHeartbeats 6400000 in
theorem specFreeVars_any (t : Tm) : ∀ (l : Lt) (w : World), Md w t l → t.wt ≤ 1048576 → Calls Try.prog 18 #[.agg #[.int .i64 t.kind, .string t.name, .string t.other, .int .i64 t.n, .int .i64 t.type.kind, .slice l.ta l.tn l.tc, .int .i64 t.res.kind, .slice l.ra l.rn l.rc, .slice l.aa l.an l.ac]] w (GivesS w t.free) := by
  induction t using Tm.ind' with | h t ih => ?_
  intro l w h hw
  have IH := hide ih
  clear ih
  have hfree := t.free_eq
  have hwt := t.wt_eq
  have k0 : Below w.heap.size w (w.alloc (.cells #[.int .i64 t.kind, .string t.name, .string t.other, .int .i64 t.n, .int .i64 t.type.kind, .slice l.ta l.tn l.tc, .int .i64 t.res.kind, .slice l.ra l.rn l.rc, .slice l.aa l.an l.ac] 42)) := below_new _ _
  have B0 := Blk.new w 42 #[.int .i64 t.kind, .string t.name, .string t.other, .int .i64 t.n, .int .i64 t.type.kind, .slice l.ta l.tn l.tc, .int .i64 t.res.kind, .slice l.ra l.rn l.rc, .slice l.aa l.an l.ac]
  cases hk : (t.kind == 1) with
  | true =>
    rw [hk] at hfree
    simp only [if_true] at hfree
    rw [hfree]
    have O1 := hide (OwnS.new (w.alloc (.cells #[.int .i64 t.kind, .string t.name, .string t.other, .int .i64 t.n, .int .i64 t.type.kind, .slice l.ta l.tn l.tc, .int .i64 t.res.kind, .slice l.ra l.rn l.rc, .slice l.aa l.an l.ac] 42)) w.heap.size (by simp) [t.name] (by simp))
    clear hfree h hwt hw
    go_enter Try.func18, Try.ntmps18
    go_wp2_with fail
    go_ret
    exact ⟨_, rfl, by simpa using O1.out, k0.alloc (by simp) _⟩
  | false =>
    rw [hk] at hfree
    simp only [Bool.false_eq_true, if_false] at hfree
    rw [hfree]
    have hns := boundN_size t 1048576 (by omega) (by omega)
    have hnl := boundN_len t
    have hfs := fun k => frees_size (t := t) 1048576 hw k
    have hfl := fun k => frees_len (t := t) k
    have CB := hide (l7Bound_any t l _ (h.below k0))
    obtain ⟨-, -, -, hr⟩ := h.shape
    have hz := Nat.le_trans t.args_le_wt hw
    have hn : l.an ≤ 1048576 := by
      have := Tm.length_le_sizes t.args
      have h1 : l.an = t.args.length := hr.1
      omega
    have HA := hide (show ∀ j (hj : j < t.args.length), t.args[j].wt ≤ 1048576 from fun j hj => by
      have h1 := Tm.wts_take t.args j hj
      have h2 := Tm.wts_take_le t.args (j + 1)
      omega)
    obtain ⟨bb, hbb⟩ : ∃ bb, bb = boundN t := ⟨_, rfl⟩
    rw [← hbb] at CB hns hnl hfs hfl ⊢
    replace hbb := hide hbb
    replace hns := hide hns
    replace hfs := hide hfs
    replace hfl := hide hfl
    obtain ⟨names, at_⟩ := bb
    dsimp only at *
    clear hfree h hwt
    go_enter Try.func18, Try.ntmps18
    go_wp2_with fail
    refine CB.out.mono ?_
    rintro e w1 ⟨vn, rfl, hN, b1⟩
    have k1 := below_next k0 b1
    have B1 := B0.under b1
    obtain ⟨na, nc, rfl, hNR⟩ := hN.read (fun x hx => Nat.le_trans (hns.out x hx) (by decide))
    have k2 := k1.alloc (o := .cells #[] 9) k1.size
    have O1 : OwnS w.heap.size (w1.alloc (.cells #[] 9)) _ [] := OwnS.none_ w1 w.heap.size k1.size
    replace B1 := B1.alloc (.cells #[] 9)
    replace hNR := hide (hNR.below (below_new w1 (.cells #[] 9)))
    clear hN
    go_wp2_with fail
    go_loopw [5, 6, 7, 8] (fun v i _ _ wr => ∃ j : Nat, j ≤ l.an ∧ i = .int .i64 j ∧ OwnS w.heap.size wr v (Tm.frees (names, at_) (t.args.take j) 0 []) ∧ Hid (Rss wr names na names.length nc) ∧ Blk wr w.heap.size 42 #[.int .i64 t.kind, .string t.name, .string t.other, .int .i64 t.n, .int .i64 t.type.kind, .slice l.ta l.tn l.tc, .int .i64 t.res.kind, .slice l.ra l.rn l.rc, .slice l.aa l.an l.ac] ∧ Below w.heap.size w wr) (fun _ i _ _ _ => l.an - (intOf i).toNat)
    case atStart => exact ⟨0, by omega, rfl, O1, hNR, B1, k2⟩
    case round =>
      clear O1 hNR B1 k2 k1
      obtain ⟨j, hj, rfl, hO, HNR, hB, hb⟩ := hrel
      have hsz := hb.size
      obtain ⟨v0, v1, v2, v3, v4, v5, v6, v7, hcell8⟩ := hB.nine
      by_cases hjn : j < l.an
      · have hjx : j < t.args.length := by rw [← hr.1]; exact hjn
        obtain ⟨b, off, l', ha, hlt, hc, hd⟩ := (hr.below hb).get j hjx
        obtain ⟨e0, e1, e2, e3, e4, e5, e6, e7, e8⟩ := hc.nine
        clear hc
        rw [ha] at hcell8 ⊢
        have hwx := HA.out j hjx
        have C := hide (fun W hW => IH.out _ (List.getElem_mem hjx) l' W hW hwx)
        have hxs := hide (Tm.free_size 1048576 t.args[j] hwx)
        have hxl := t.args[j].free_len
        have HSTEP := hide (Tm.frees_take (names, at_) t.args j hjx).symm
        have hal := hfl.out j
        have has := hide (hfs.out j)
        have hs1 := Tm.sizes_take t.args j hjx
        have hs2 := Tm.sizes_take_le t.args (j + 1)
        have hs3 := t.args[j].size_eq
        obtain ⟨acc, hacc⟩ : ∃ acc, acc = Tm.frees (names, at_) (t.args.take j) 0 [] := ⟨_, rfl⟩
        rw [← hacc] at hO HSTEP hal has
        replace hacc := hide hacc
        obtain ⟨xf, hxf⟩ : ∃ xf, xf = t.args[j].free := ⟨_, rfl⟩
        rw [← hxf] at C hxs hxl
        have hsum : acc.length + xf.length ≤ 2097152 := by omega
        replace hxl := hide hxl
        replace hal := hide hal
        have HAA := hide ha
        have hpart : partN (names, at_) t.args[j] j = if ((j : Int) == at_) then xf.filter (fun s => !hasN names s) else xf := by rw [partN, ← hxf]
        replace hxf := hide hxf
        clear hs1 hs2 hs3 ha
        go_wp2_with fail
        refine (C.out _ hd).mono ?_
        rintro e w2 ⟨v7', rfl, hX, b2⟩
        have k2 := hb.trans (b2.mono hsz)
        have hO2 := OwnS.below hO b2
        have HNR2 := hide (HNR.out.below b2)
        have hB2 := hB.under b2
        have hX2 := OwnS.mono hX hsz
        clear hO HNR hB hX v0 v1 v2 v3 v4 v5 v6 v7 hcell8 e0 e1 e2 e3 e4 e5 e6 e7 e8 hd
        obtain ⟨va, vc, rfl, -⟩ := hO2.read (fun x hx => Nat.le_trans (has.out x hx) (by decide))
        go_wp2_with fail
        go_loopw [7, 8] (fun p i wr' => ∃ q : Nat, q ≤ names.length ∧ i = .int .i64 q ∧ Hid (((j : Int) == at_) = false → q = 0) ∧ OwnS w.heap.size wr' p ((names.take q).foldl withoutN xf) ∧ OwnS w.heap.size wr' (.slice va acc.length vc) acc ∧ Hid (Rss wr' names na names.length nc) ∧ Blk wr' w.heap.size 42 #[.int .i64 t.kind, .string t.name, .string t.other, .int .i64 t.n, .int .i64 t.type.kind, .slice l.ta l.tn l.tc, .int .i64 t.res.kind, .slice l.ra l.rn l.rc, .slice l.aa l.an l.ac] ∧ Below w.heap.size w wr') (fun _ i _ => names.length - (intOf i).toNat)
        case atStart => exact ⟨0, by omega, rfl, fun _ => rfl, hX2, hO2, HNR2, hB2, k2⟩
        case round =>
          clear hX2 hO2 HNR2 hB2 k2
          obtain ⟨q, hq, rfl, HQ, hP, hO', HNR', hB', hb'⟩ := hrel
          have hsz' := hb'.size
          have hRv : Rss wr acc va acc.length vc := by
            obtain ⟨a9, c9, e9, h9⟩ := hO'.read (fun x hx => Nat.le_trans (has.out x hx) (by decide))
            injection e9 with g1 g2 g3
            subst g1 g3
            exact h9
          obtain ⟨part, hpt⟩ : ∃ part, part = (names.take q).foldl withoutN xf := ⟨_, rfl⟩
          rw [← hpt] at hP
          have hpl : part.length ≤ xf.length := by rw [hpt]; exact foldW_len _ _
          obtain ⟨pa, pc, rfl, hRp⟩ := hP.read (fun x hx => Nat.le_trans (hxs.out x (by rw [hpt] at hx; exact foldW_mem hx)) (by decide))
          cases hpq : ((j : Int) == at_) with
          | true =>
            by_cases hqn : q < names.length
            · obtain ⟨b9, off9, hna, hlt9, c9⟩ := HNR'.out.get q hqn
              have CW := hide (fun W hW => specWithoutName_any part names[q] pa part.length pc W hW (by omega))
              have hst := hide (fold_take names xf q hqn)
              replace hpt := hide hpt
              have HNA := hide hna
              rw [hna]
              have hgd : decide ((q : Int) < (names.length : Int)) = true := by simp; omega
              clear hna
              go_wp2_with (go_at_call 9; (with_reducible refine (CW.out _ hRp).mono ?_); rintro e w3 ⟨v9, rfl, hW9, b9'⟩)
              go_roundw
              case rel =>
                refine ⟨q + 1, by omega, by go_num, ?_, ?_, OwnS.below hO' b9', ?_, hB'.under b9', hb'.trans (b9'.mono hsz')⟩
                · intro h; first | cases h | (rw [hpq] at h; cases h)
                · rw [hst.out, ← hpt.out]; exact OwnS.mono hW9 hsz'
                · have h9 := HNR'.out.below b9'
                  first | exact h9 | (rw [HNA.out] at h9; exact h9)
              case measure => simp [intOf]; omega
            · have hqe : q = names.length := by omega
              have HPART := hide (show part = partN (names, at_) t.args[j] j by rw [hpart, if_pos hpq, hpt, hqe, List.take_of_length_le (Nat.le_refl _), withoutN_fold])
              replace hpt := hide hpt
              replace hpq := hide hpq
              clear hpart
              go_wp2_with fail
              refine (specUniteNames_any acc part _ _ _ _ _ _ _ hRv hRp (by omega)).mono ?_
              rintro e w4 ⟨v', rfl, hU, b4⟩
              have k4 := hb'.trans (b4.mono hb'.size)
              have HR4 := hide (HNR'.out.below b4)
              have B4 := hB'.under b4
              have hU' := OwnS.mono hU hb'.size
              rw [HPART.out, HSTEP.out] at hU'
              clear hU
              go_wp2_with fail
              go_roundw
              case rel => exact ⟨j + 1, by omega, by go_num, hU', HR4, (by first | exact B4 | (have := B4; rw [HAA.out] at this; exact this)), k4⟩
              case measure => simp [intOf]; omega
          | false =>
            have hq0 : q = 0 := HQ.out hpq
            subst hq0
            have HPART := hide (show part = partN (names, at_) t.args[j] j by rw [hpart, if_neg (by rw [hpq]; exact Bool.false_ne_true), hpt]; rfl)
            replace hpt := hide hpt
            clear hpart
            by_cases hne : 0 < names.length
            · have hgd : decide ((0 : Int) < (names.length : Int)) = true := by simp; omega
              go_wp2_with fail
              refine (specUniteNames_any acc part _ _ _ _ _ _ _ hRv hRp (by omega)).mono ?_
              rintro e w4 ⟨v', rfl, hU, b4⟩
              have k4 := hb'.trans (b4.mono hb'.size)
              have HR4 := hide (HNR'.out.below b4)
              have B4 := hB'.under b4
              have hU' := OwnS.mono hU hb'.size
              rw [HPART.out, HSTEP.out] at hU'
              clear hU
              go_wp2_with fail
              go_roundw
              case rel => exact ⟨j + 1, by omega, by go_num, hU', HR4, (by first | exact B4 | (have := B4; rw [HAA.out] at this; exact this)), k4⟩
              case measure => simp [intOf]; omega
            · have hgd : decide ((0 : Int) < (names.length : Int)) = false := decide_eq_false (by omega)
              go_wp2_with fail
              refine (specUniteNames_any acc part _ _ _ _ _ _ _ hRv hRp (by omega)).mono ?_
              rintro e w4 ⟨v', rfl, hU, b4⟩
              have k4 := hb'.trans (b4.mono hb'.size)
              have HR4 := hide (HNR'.out.below b4)
              have B4 := hB'.under b4
              have hU' := OwnS.mono hU hb'.size
              rw [HPART.out, HSTEP.out] at hU'
              clear hU
              go_wp2_with fail
              go_roundw
              case rel => exact ⟨j + 1, by omega, by go_num, hU', HR4, (by first | exact B4 | (have := B4; rw [HAA.out] at this; exact this)), k4⟩
              case measure => simp [intOf]; omega
      · have h4 : l.an = t.args.length := hr.1
        rw [List.take_of_length_le (by omega)] at hO
        go_wp2_with fail
        go_ret
        exact ⟨_, rfl, hO, hb⟩
end Go.Proofs.Ytknlbhclfeldbaa
