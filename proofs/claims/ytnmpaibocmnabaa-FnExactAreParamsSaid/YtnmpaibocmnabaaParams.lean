/-
  The walks of AreParams in both texts, and of paramNames.
-/
import Derived.Test.YtnmpaibocmnabaaRecSz
import Derived.Test.YtnmpaibocmnabaaName
import Derived.Test.YtnmpaibocmnabaaBaseTy
import Derived.Test.YtnmpaibocmnabaaOwnS
namespace Go.Proofs.Ytnmpaibocmnabaa
open Go.RowKit
set_option maxRecDepth 100000
set_option linter.unusedVariables false
set_option linter.unusedSimpArgs false

def nms (xs : List (Rc Bool)) : List ByteArray := xs.map Rc.name
theorem nms_len (xs : List (Rc Bool)) : (nms xs).length = xs.length := List.length_map ..
theorem nms_get (xs : List (Rc Bool)) (i : Nat) (h : i < xs.length) (h' : i < (nms xs).length) : (nms xs)[i] = xs[i].name := by simp [nms]
theorem nms_take (xs : List (Rc Bool)) (i : Nat) (h : i < xs.length) : (nms xs).take (i + 1) = (nms xs).take i ++ [xs[i].name] := by
  rw [take_snoc (nms xs) i (by rw [nms_len]; exact h), nms_get xs i h]
/-- The i-th parameter: a name that none before it has, a base type. -/
def okAt (xs : List (Rc Bool)) (i : Nat) (h : i < xs.length) : Bool := isName xs[i].name && (xs[i].type.base && !hasN ((nms xs).take i) xs[i].name)
def areParams (xs : List (Rc Bool)) : Bool := decide (xs.length ≤ 5) && decide (∀ i (h : i < xs.length), okAt xs i h = true)
theorem areParams_no {xs : List (Rc Bool)} {i : Nat} (h : i < xs.length) (hb : okAt xs i h = false) : areParams xs = false := by
  rw [areParams, Bool.and_eq_false_iff]
  right
  rw [decide_eq_false_iff_not]
  intro hall
  rw [hall i h] at hb
  cases hb
theorem areParams_yes {xs : List (Rc Bool)} (h : ∀ i (h : i < xs.length), okAt xs i h = true) : areParams xs = decide (xs.length ≤ 5) := by
  rw [areParams, decide_eq_true h, Bool.and_true]
theorem fIdx_here {xs : List ByteArray} {s : ByteArray} {i : Nat} (h : i < xs.length) (hs : xs[i] = s) : (fIdx (fun x => s.toList == x.toList) xs != (i : Int)) = hasN (xs.take i) s := by
  cases hq : hasN (xs.take i) s with
  | false =>
    rw [hasN, List.any_eq_false] at hq
    have : fIdx (fun x => s.toList == x.toList) xs = (i : Int) := fIdx_at h (by simp [hs]) fun j hj hji => by
      have := hq xs[j] (by
        rw [List.mem_take_iff_getElem]
        exact ⟨j, by omega, rfl⟩)
      simpa using this
    simp [this]
  | true =>
    rw [hasN, List.any_eq_true] at hq
    obtain ⟨x, hx, hxs⟩ := hq
    obtain ⟨j, hj, rfl⟩ := List.mem_take_iff_getElem.1 hx
    rw [bne_iff_ne]
    intro he
    cases e : xs.findIdx? (fun x => s.toList == x.toList) with
    | none =>
      have := List.findIdx?_eq_none_iff.1 e _ (List.getElem_mem (show j < xs.length by omega))
      rw [hxs] at this
      cases this
    | some k =>
      rw [fIdx, e] at he
      obtain ⟨hk, -, hlow⟩ := List.findIdx?_eq_some_iff_getElem.1 e
      have hki : (k : Int) = (i : Int) := he
      have := hlow j (by omega)
      rw [hxs] at this
      simp at this

theorem one_new2 (w : World) (o : Obj) (x : Value) (T : TypeId) : ∀ j u, [x][j]? = some u → ((w.alloc o).alloc (.cells #[x] T)).cell? ((⟨w.heap.size + 1, 0, none⟩ : Addr).add j) = some u := by
  have h := one_new (w.alloc o) x T
  simpa using h

set_option maxHeartbeats 3200000 in
theorem specAreParams_any (xs : List (Rc Bool)) (a : Option Addr) (n cap : Nat) (w : World) (h : Rcs w xs a n cap) (hw : Rcs.wt xs ≤ 1048576) :
    Calls Try.prog 8 #[.slice a n cap] w fun e w' => e = .returned (.bool (areParams xs)) ∧ Below w.heap.size w w' := by
  have hn : n ≤ 1048576 := by have := h.1; unfold Rcs.wt at hw; omega
  have hx := hide h.1
  have HW := hide (fun k hk => Nat.le_trans (Rcs.wt_name' xs k hk) hw)
  have HOK := hide (show ∀ r ∈ xs, r.name.size ≤ 9223372036854775807 from fun r hr => by
    obtain ⟨i, hi, rfl⟩ := List.getElem_of_mem hr
    obtain ⟨b, off, -, -, h1, _⟩ := h.get i hi
    exact h1)
  clear hw
  obtain ⟨i0, hi, hz0, hz1, hz2⟩ := info_parts Try.infoStr
  go_enter Try.func8, Try.ntmps8
  go_wp2_with fail
  go_loopw [3, 4] (fun v i wr => ∃ k : Nat, k ≤ n ∧ i = .int .i64 k ∧ Hid (∀ i (h : i < xs.length), i < k → okAt xs i h = true) ∧ OwnS w.heap.size wr v ((nms xs).take k) ∧ Below w.heap.size w wr) (fun _ i _ => n - (intOf i).toNat)
  case atStart => exact ⟨0, by omega, rfl, fun i _ hi => by omega, OwnS.none_ w _ (Nat.le_refl _), below_new _ _⟩
  case round =>
    obtain ⟨k, hk, rfl, HR, hO, hb⟩ := hrel
    have hsz := hb.size
    by_cases hkn : k < n
    · have hkx : k < xs.length := by rw [← hx.out]; exact hkn
      obtain ⟨b, off, rfl, hlt, -, -, ta, tn, tc, e0, e1, e2, e3, hr⟩ := (h.below hb).get k hkx
      have F0 := fun (w1 : World) (b1 : Below wr.heap.size wr w1) => (b1.cell (p := ⟨b, off + k * 4, none⟩) hlt).trans e0
      have F1 := fun (w1 : World) (b1 : Below wr.heap.size wr w1) => (b1.cell (p := ⟨b, off + k * 4 + 1, none⟩) hlt).trans e1
      have F2 := fun (w1 : World) (b1 : Below wr.heap.size wr w1) => (b1.cell (p := ⟨b, off + k * 4 + 2, none⟩) hlt).trans e2
      replace F0 := hide F0
      replace F1 := hide F1
      replace F2 := hide F2
      have hnsz := HW.out k hkx
      have C1 := fun W => specIsName_any xs[k].name W hnsz
      have C2 := fun (w1 : World) (b1 : Below wr.heap.size wr w1) => specIsBase_any xs[k].type _ _ w1 (hr.below b1)
      have bad : okAt xs k hkx = false → areParams xs = false := areParams_no hkx
      clear hnsz
      cases hn1 : isName xs[k].name with
      | false =>
        rw [hn1] at C1
        have hno := hide (bad (by rw [okAt, hn1, Bool.false_and]))
        replace C1 := hide C1
        clear hn1 bad
        go_wp2_with (go_at_call 37; (with_reducible refine (C1.out _).mono ?_); rintro e w1 ⟨rfl, b1⟩)
        go_ret
        exact ⟨ret_bool hno.out.symm, hb.trans (b1.mono hsz)⟩
      | true =>
        rw [hn1] at C1
        replace C1 := hide C1
        cases hv : xs[k].type.base with
        | false =>
          rw [hv] at C2
          have hno := hide (bad (by rw [okAt, hn1, hv, Bool.false_and, Bool.and_false]))
          replace C2 := hide C2
          clear hn1 hv bad
          go_wp2_with (first
            | (go_at_call 37; (with_reducible refine (C1.out _).mono ?_); rintro e w1 ⟨rfl, b1⟩; have f1 := F1.out _ b1; have f2 := F2.out _ b1)
            | (go_at_call 32; (with_reducible refine (C2.out _ b1).mono ?_); rintro e w2 ⟨rfl, b2⟩))
          go_ret
          exact ⟨ret_bool hno.out.symm, hb.trans ((below_next b1 b2).mono hsz)⟩
        | true =>
          rw [hv] at C2
          replace C2 := hide C2
          obtain ⟨zs, hzs⟩ : ∃ zs, zs = (nms xs).take k := ⟨_, rfl⟩
          have hstep := nms_take xs k hkx
          rw [← hzs] at hO hstep
          have hlen : zs.length ≤ 1048576 := by rw [hzs, List.length_take]; omega
          obtain ⟨va, vc, hva, hR⟩ := hO.read (fun x hx => by
            rw [hzs] at hx
            obtain ⟨r, hr, rfl⟩ := List.mem_map.1 (List.mem_of_mem_take hx)
            exact HOK.out r hr)
          have CI := fun (W : World) (hW : Below wr.heap.size wr W) => specIndexOf_any zs xs[k].name va zs.length vc W (hR.below hW)
          have hge := fIdx_ge (fun x => xs[k].name.toList == x.toList) zs
          subst hva
          cases hq : hasN zs xs[k].name with
          | true =>
            have hno := hide (bad (by rw [okAt, hn1, hv, ← hzs, hq]; rfl))
            rw [hasN] at hq
            rw [hq, decide_eq_true_eq] at hge
            replace hzs := hide hzs
            replace hstep := hide hstep
            generalize fIdx (fun x => xs[k].name.toList == x.toList) zs = idx at hge CI
            replace CI := hide CI
            clear hn1 hv bad hq
            go_wp2_with (first
              | (go_at_call 37; (with_reducible refine (C1.out _).mono ?_); rintro e w1 ⟨rfl, b1⟩; have f1 := F1.out _ b1; have f2 := F2.out _ b1)
              | (go_at_call 32; (with_reducible refine (C2.out _ b1).mono ?_); rintro e w2 ⟨rfl, b2⟩; have b12 := below_next b1 b2; have f0 := F0.out _ b12)
              | (go_at_call 38; (with_reducible refine (CI.out _ b12).mono ?_); rintro e w3 ⟨rfl, rfl⟩))
            go_ret
            exact ⟨ret_bool hno.out.symm, hb.trans (b12.mono hsz)⟩
          | false =>
            have hyes := hide (show okAt xs k hkx = true by rw [okAt, hn1, hv, ← hzs, hq]; rfl)
            rw [hasN] at hq
            rw [hq, decide_eq_false_iff_not] at hge
            generalize fIdx (fun x => xs[k].name.toList == x.toList) zs = idx at hge CI
            obtain ⟨q, hqn⟩ : ∃ q, q = zs.length := ⟨_, rfl⟩
            obtain ⟨cs, hcs⟩ : ∃ cs, cs = zs.map Value.string := ⟨_, rfl⟩
            unfold OwnS at hO
            rw [← hqn, ← hcs] at hO
            rw [← hqn] at hlen hR CI ⊢
            replace hzs := hide hzs
            replace hstep := hide hstep
            replace hqn := hide hqn
            replace hcs := hide hcs
            replace CI := hide CI
            have HO := hide hO
            clear hn1 hv bad hq hR hO
            go_wp2_with (first
              | (go_at_call 37; (with_reducible refine (C1.out _).mono ?_); rintro e w1 ⟨rfl, b1⟩; have f1 := F1.out _ b1; have f2 := F2.out _ b1)
              | (go_at_call 32; (with_reducible refine (C2.out _ b1).mono ?_); rintro e w2 ⟨rfl, b2⟩; have b12 := below_next b1 b2; have f0 := F0.out _ b12; have hO2 := own_down HO.out b12; have hsz2 := b12.size)
              | (go_at_call 38; (with_reducible refine (CI.out _ b12).mono ?_); rintro e w3 ⟨rfl, rfl⟩)
              | (at_builtin; refine wpList_append_lies _ rfl _ _ 56 rfl w.heap.size 9 i0 (.string ⟨#[]⟩) 1 16 Try.underlying56 hi hz0 hz1 hz2 rfl (by decide) _ _ _ rfl (hO2.alloc _) ⟨w2.heap.size, 0, none⟩ 1 1 [.string xs[k].name] rfl rfl (one_new w2 _ _) (one_cell _) (by decide) ?c3 ?c4 ?c5 _ rfl ?_))
            case c3 => unfold maxLen; omega
            case c4 => omega
            case c5 => simp; omega
            intro g cap2 w3 hown hgrow hat hlt2
            go_wp2_with fail
            go_roundw
            case rel =>
              refine ⟨k + 1, by omega, by go_num, fun i hi hik => ?_, own_step hqn.out hcs.out hown hstep.out, (((hb.trans (b12.mono hsz)).alloc (by omega) _).grown hgrow (by simp; omega) fun j hj => (hO2.lt j hj).1)⟩
              by_cases hik' : i < k
              · exact HR.out i hi hik'
              · obtain rfl : i = k := by omega
                exact hyes.out
            case measure => simp [intOf]; omega
    · have hx1 := hx.out
      have hlen : ((nms xs).take k).length = n := by rw [List.length_take, nms_len]; omega
      have hv := areParams_yes fun i hi => HR.out i hi (by omega)
      rw [← hx1] at hv
      obtain ⟨va, vc, hva, -⟩ := hO.read (fun x hx => by
        obtain ⟨r, hr, rfl⟩ := List.mem_map.1 (List.mem_of_mem_take hx)
        exact HOK.out r hr)
      subst hva
      rw [hlen]
      have HV := hide hv
      clear hv hlen hO hx1
      go_wp2_with fail
      go_ret
      refine ⟨ret_bool ?_, hb⟩
      rw [HV.out]
      by_cases h5 : n ≤ 5
      · simp [h5]
        omega
      · simp [h5]
        omega
set_option maxHeartbeats 1600000 in
theorem paramNames_any (xs : List (Rc Bool)) (a : Option Addr) (n cap : Nat) (w : World) (h : Rcs w xs a n cap) (hw : xs.length ≤ 1048576) :
    Calls Try.prog 40 #[.slice a n cap] w (GivesS w (nms xs)) := by
  have hn : n ≤ 1048576 := by have := h.1; omega
  have hx := hide h.1
  obtain ⟨i0, hi, hz0, hz1, hz2⟩ := info_parts Try.infoStr
  go_enter Try.func40, Try.ntmps40
  go_wp2_with fail
  go_loopw [3, 9] (fun v i wr => ∃ k : Nat, k ≤ n ∧ i = .int .i64 k ∧ OwnS w.heap.size wr v ((nms xs).take k) ∧ Below w.heap.size w wr) (fun _ i _ => n - (intOf i).toNat)
  case atStart => exact ⟨0, by omega, rfl, OwnS.none_ w _ (Nat.le_refl _), below_new _ _⟩
  case round =>
    obtain ⟨k, hk, rfl, hO, hb⟩ := hrel
    have hsz := hb.size
    by_cases hkn : k < n
    · have hkx : k < xs.length := by rw [← hx.out]; exact hkn
      obtain ⟨b, off, rfl, hlt, -, -, ta, tn, tc, e0, e1, e2, e3, hr⟩ := (h.below hb).get k hkx
      simp only [Last.val] at e3
      have hstep := hide (nms_take xs k hkx)
      have hlen : ((nms xs).take k).length ≤ 1048576 := by rw [List.length_take]; omega
      obtain ⟨q, hqn⟩ : ∃ q, q = ((nms xs).take k).length := ⟨_, rfl⟩
      obtain ⟨cs, hcs⟩ : ∃ cs, cs = ((nms xs).take k).map Value.string := ⟨_, rfl⟩
      unfold OwnS at hO
      rw [← hqn, ← hcs] at hO
      rw [← hqn] at hlen
      replace hqn := hide hqn
      replace hcs := hide hcs
      go_wp2_with (at_builtin; refine wpList_append_lies _ rfl _ _ 56 rfl w.heap.size 9 i0 (.string ⟨#[]⟩) 1 16 Try.underlying56 hi hz0 hz1 hz2 rfl (by decide) _ _ _ rfl ((hO.alloc _).alloc _) ⟨wr.heap.size + 1, 0, none⟩ 1 1 [.string xs[k].name] rfl rfl (one_new2 wr _ _ _) (one_cell _) (by decide) ?c3 ?c4 ?c5 _ rfl ?_)
      case c3 => unfold maxLen; omega
      case c4 => omega
      case c5 => simp; omega
      intro g cap' w1 hown hgrow hat hlt2
      go_wp2_with fail
      go_roundw
      case rel =>
        refine ⟨k + 1, by omega, by go_num, own_step hqn.out hcs.out hown hstep.out, (((hb.alloc hsz _).alloc (by simp; omega) _).grown hgrow (by simp; omega) fun j hj => (hO.lt j hj).1)⟩
      case measure => simp [intOf]; omega
    · go_wp2_with fail
      go_ret
      have h4 := hx.out
      rw [List.take_of_length_le (by rw [nms_len]; omega)] at hO
      exact ⟨_, rfl, hO, hb⟩
set_option maxHeartbeats 3200000 in
theorem implAreParams_any (xs : List (Rc Bool)) (a : Option Addr) (n cap : Nat) (w : World) (h : Rcs w xs a n cap) (hw : Rcs.wt xs ≤ 1048576) :
    Calls Try.prog 10 #[.slice a n cap] w fun e w' => e = .returned (.bool (areParams xs)) ∧ Below w.heap.size w w' := by
  have hn : n ≤ 1048576 := by have := h.1; unfold Rcs.wt at hw; omega
  have hx1 := h.1
  have HW := hide (fun k hk => Nat.le_trans (Rcs.wt_name' xs k hk) hw)
  have HOK := hide (show ∀ r ∈ xs, r.name.size ≤ 9223372036854775807 from fun r hr => by
    obtain ⟨i, hi, rfl⟩ := List.getElem_of_mem hr
    obtain ⟨b, off, -, -, h1, _⟩ := h.get i hi
    exact h1)
  have CP := hide (paramNames_any xs a n cap w h (by omega))
  clear hw
  by_cases h5 : n ≤ 5
  · have hd : decide ((n : Int) > 5) = false := by simp; omega
    have hx := hide hx1
    clear hx1
    go_enter Try.func10, Try.ntmps10
    have HRd := hide (fun (w1 : World) (v : Value) (hO : OwnS w.heap.size w1 v (nms xs)) => hO.read (fun x hx => by
      obtain ⟨r, hr, rfl⟩ := List.mem_map.1 hx
      exact HOK.out r hr))
    go_wp2_with (go_at_call 40; (with_reducible refine CP.out.mono ?_); rintro e w1 ⟨v, rfl, hO, b1⟩; obtain ⟨va, vc, hva, hRs⟩ := HRd.out w1 v hO; subst hva)
    have hR1 := h.below b1
    have HNL := hide (nms_len xs)
    clear hO
    go_loopw [13] (fun i wr => ∃ k : Nat, k ≤ n ∧ i = .int .i64 k ∧ Hid (∀ i (h : i < xs.length), i < k → okAt xs i h = true) ∧ Below w1.heap.size w1 wr) (fun i _ => n - (intOf i).toNat)
    case atStart => exact ⟨0, by omega, rfl, fun i _ hi => by omega, Below.refl _ _⟩
    case round =>
      obtain ⟨k, hk, rfl, HR, hb⟩ := hrel
      have hsz := hb.size
      have hall := b1.trans (hb.mono b1.size)
      by_cases hkn : k < n
      · have hkx : k < xs.length := by rw [← hx.out]; exact hkn
        obtain ⟨b, off, rfl, hlt, -, -, ta, tn, tc, e0, e1, e2, e3, hr⟩ := (hR1.below hb).get k hkx
        simp only [Last.val] at e3
        have hnsz := HW.out k hkx
        have C1 := fun W => implIsName_any xs[k].name W hnsz
        have B0 := Blk.new wr 59 #[.string xs[k].name, .int .i64 xs[k].type.kind, .slice ta tn tc, .bool xs[k].last]
        have b0 := below_new wr (.cells #[.string xs[k].name, .int .i64 xs[k].type.kind, .slice ta tn tc, .bool xs[k].last] 59)
        have C2 := fun (w2 : World) (b2 : Below (wr.alloc (.cells #[.string xs[k].name, .int .i64 xs[k].type.kind, .slice ta tn tc, .bool xs[k].last] 59)).heap.size (wr.alloc (.cells #[.string xs[k].name, .int .i64 xs[k].type.kind, .slice ta tn tc, .bool xs[k].last] 59)) w2) => implIsBase_any xs[k].type _ _ w2 ((hr.below b0).below b2)
        have bad : okAt xs k hkx = false → areParams xs = false := areParams_no hkx
        clear hnsz
        replace B0 := hide B0
        cases hn1 : isName xs[k].name with
        | false =>
          rw [hn1] at C1
          have hno := hide (bad (by rw [okAt, hn1, Bool.false_and]))
          replace C1 := hide C1
          clear hn1 bad
          go_wp2_with (go_at_call 41; (with_reducible refine (C1.out _).mono ?_); rintro e w2 ⟨rfl, b2⟩)
          go_ret
          exact ⟨ret_bool hno.out.symm, below_next hall (below_of_alloc b2)⟩
        | true =>
          rw [hn1] at C1
          replace C1 := hide C1
          cases hv : xs[k].type.base with
          | false =>
            rw [hv] at C2
            have hno := hide (bad (by rw [okAt, hn1, hv, Bool.false_and, Bool.and_false]))
            replace C2 := hide C2
            clear hn1 hv bad
            go_wp2_with (first
              | (go_at_call 41; (with_reducible refine (C1.out _).mono ?_); rintro e w2 ⟨rfl, b2⟩; have f1 := (B0.out.under b2).cell 1; have f2 := (B0.out.under b2).cell 2; simp at f1 f2)
              | (go_at_call 31; (with_reducible refine (C2.out _ b2).mono ?_); rintro e w3 ⟨rfl, b3⟩))
            go_ret
            exact ⟨ret_bool hno.out.symm, below_next (below_next hall (below_of_alloc b2)) b3⟩
          | true =>
            rw [hv] at C2
            replace C2 := hide C2
            have CI := fun (W : World) (hW : Below wr.heap.size wr W) => implIndexOf_any (nms xs) xs[k].name va (nms xs).length vc W ((hRs.below hb).below hW)
            have hhere := fIdx_here (xs := nms xs) (s := xs[k].name) (i := k) (by rw [nms_len]; exact hkx) (nms_get xs k hkx _)
            generalize fIdx (fun x => xs[k].name.toList == x.toList) (nms xs) = idx at hhere CI
            replace CI := hide CI
            cases hq : hasN ((nms xs).take k) xs[k].name with
            | true =>
              have hno := hide (bad (by rw [okAt, hn1, hv, hq]; rfl))
              rw [hq] at hhere
              clear hn1 hv bad hq
              go_wp2_with (first
                | (go_at_call 41; (with_reducible refine (C1.out _).mono ?_); rintro e w2 ⟨rfl, b2⟩; have f1 := (B0.out.under b2).cell 1; have f2 := (B0.out.under b2).cell 2; simp at f1 f2)
                | (go_at_call 31; (with_reducible refine (C2.out _ b2).mono ?_); rintro e w3 ⟨rfl, b3⟩; have b23 := below_next (below_of_alloc b2) b3; have f0 := ((B0.out.under b2).under b3).cell 0; simp at f0)
                | (go_at_call 42; (with_reducible refine (CI.out _ b23).mono ?_); rintro e w4 ⟨rfl, rfl⟩))
              go_ret
              exact ⟨ret_bool hno.out.symm, below_next hall b23⟩
            | false =>
              have hyes := hide (show okAt xs k hkx = true by rw [okAt, hn1, hv, hq]; rfl)
              rw [hq] at hhere
              clear hn1 hv bad hq
              go_wp2_with (first
                | (go_at_call 41; (with_reducible refine (C1.out _).mono ?_); rintro e w2 ⟨rfl, b2⟩; have f1 := (B0.out.under b2).cell 1; have f2 := (B0.out.under b2).cell 2; simp at f1 f2)
                | (go_at_call 31; (with_reducible refine (C2.out _ b2).mono ?_); rintro e w3 ⟨rfl, b3⟩; have b23 := below_next (below_of_alloc b2) b3; have f0 := ((B0.out.under b2).under b3).cell 0; simp at f0)
                | (go_at_call 42; (with_reducible refine (CI.out _ b23).mono ?_); rintro e w4 ⟨rfl, rfl⟩))
              go_roundw
              case rel =>
                refine ⟨k + 1, by omega, by go_num, fun i hi hik => ?_, below_next hb b23⟩
                by_cases hik' : i < k
                · exact HR.out i hi hik'
                · obtain rfl : i = k := by omega
                  exact hyes.out
              case measure => simp [intOf]; omega
      · have hv := hide (show areParams xs = true by
          rw [areParams_yes fun i hi => HR.out i hi (by have := hx.out; omega), ← hx.out]
          simp [h5])
        go_wp2
        go_ret
        exact ⟨ret_bool hv.out.symm, hall⟩
  · have hd : decide ((n : Int) > 5) = true := by simp; omega
    have hv := hide (show areParams xs = false by
      rw [areParams, decide_eq_false (by omega), Bool.false_and])
    clear hx1
    go_enter Try.func10, Try.ntmps10
    go_wp2_with fail
    go_ret
    exact ⟨ret_bool hv.out.symm, Below.refl _ _⟩
end Go.Proofs.Ytnmpaibocmnabaa
