/-
  The walks of the library's Clone, IndexFunc and DeleteFunc at slices of strings.
-/
import Derived.Test.YtcbgapncmjjmeaaDoorOwnS
import Derived.Test.YtcbgapncmjjmeaaDoorWrote
import Derived.Lib.SliceRun
namespace Go.Proofs.YtcbgapncmjjmeaaDoor
open Go.RowKit
set_option maxRecDepth 100000
set_option linter.unusedVariables false
set_option linter.unusedSimpArgs false

theorem OwnS.mono {base base' : Nat} {w : World} {v : Value} {xs : List ByteArray} (h : OwnS base w v xs) (hb : base' ≤ base) : OwnS base' w v xs := by
  refine ⟨h.1, ?_⟩
  rcases h.2 with hn | ⟨g, cap, cur, hv, hg, r⟩
  · exact .inl hn
  · exact .inr ⟨g, cap, cur, hv, Nat.le_trans hb hg, r⟩
theorem Rss.news {w : World} {xs : List ByteArray} {p : Addr} {n cap : Nat} (h : Rss w xs (some p) n cap) : ∀ j u, (xs.map Value.string)[j]? = some u → w.cell? (p.add j) = some u := by
  intro j u hu
  rw [List.getElem?_map] at hu
  obtain ⟨x, hx, rfl⟩ := Option.map_eq_some_iff.1 hu
  obtain ⟨hj, rfl⟩ := List.getElem?_eq_some_iff.1 hx
  obtain ⟨b, off, hp, -, hc⟩ := h.get j hj
  injection hp with hp
  subst hp
  rw [Addr.add_lit]
  exact hc
theorem strings_cell (xs : List ByteArray) : ∀ u ∈ xs.map Value.string, u.oneCell' = true := by
  intro u hu
  obtain ⟨x, -, rfl⟩ := List.mem_map.1 hu
  rfl

set_option maxHeartbeats 800000 in
theorem cloneS_any (xs : List ByteArray) (p : Addr) (n cap : Nat) (w : World) (h : Rss w xs (some p) n cap) (hl : xs.length ≤ 2097152) :
    Calls Tryd.prog 69 #[.slice (some p) n cap] w (GivesS w xs) := by
  have hn : n = xs.length := h.1
  obtain ⟨i0, hi, hz0, hz1, hz2⟩ := info_parts Tryd.infoStr
  have hnil := fun W => Lib.run_eql_slice_nil (P := Tryd.prog) W 27 9 (some p) n cap 0 0 Tryd.underlying27
  simp only [Option.isNone_some] at hnil
  have hO := OwnS.none_ w w.heap.size (Nat.le_refl _)
  have hR := h.below (below_new w (.cells #[] 9))
  replace hn := hide hn
  go_enter Tryd.func69, Tryd.ntmps69
  go_wp2_with (at_builtin; refine wpList_append_own _ rfl _ _ 27 rfl w.heap.size 9 i0 (.string ⟨#[]⟩) 1 16 Tryd.underlying27 hi hz0 hz1 hz2 rfl (by decide) _ _ _ rfl hO p n cap (xs.map Value.string) rfl ?c0 hR.news (strings_cell xs) ?c3 ?c4 ?c5 ?_)
  case c0 => rw [List.length_map, hn.out, Nat.mul_one]
  case c3 => have := hn.out; simp only [List.length_nil]; unfold maxLen; omega
  case c4 => have := hn.out; simp only [List.length_nil]; omega
  case c5 => simp
  intro v' w1 hown hgrow _
  go_wp2_with fail
  go_ret
  refine ⟨v', rfl, ?_, (below_new w _).grown hgrow (by simp) fun k hk => (hO.lt k hk).1⟩
  rw [hn.out] at hown
  simpa [OwnS] using hown

/-- What is left. -/
def keptN (q : ByteArray → Bool) (xs : List ByteArray) : List ByteArray := xs.filter fun x => !q x
theorem keptN_take (q : ByteArray → Bool) (xs : List ByteArray) (k : Nat) (h : k < xs.length) : keptN q (xs.take (k + 1)) = keptN q (xs.take k) ++ (if q xs[k] then [] else [xs[k]]) := by
  rw [take_snoc xs k h, keptN, List.filter_append]
  congr 1
  cases hq : q xs[k] <;> simp [hq]
theorem keptN_le (q : ByteArray → Bool) (xs : List ByteArray) (k : Nat) : (keptN q (xs.take k)).length ≤ k := by
  have h := List.length_filter_le (fun x => !q x) (xs.take k)
  rw [List.length_take] at h
  unfold keptN
  omega
theorem keptN_all {q : ByteArray → Bool} {xs : List ByteArray} (h : ∀ i (hi : i < xs.length), q xs[i] = false) : keptN q xs = xs := by
  rw [keptN, List.filter_eq_self]
  intro x hx
  obtain ⟨i, hi, rfl⟩ := List.getElem_of_mem hx
  rw [h i hi]
  rfl
theorem Blk.setCells {w : World} {g T : Nat} : ∀ (vs : List Value) (o : Nat) {w : World} {cs : Array Value}, Blk w g T cs → ∃ cs', Blk (w.setCells g o vs) g T cs' ∧ cs'.size = cs.size ∧ ∀ i, i < o → cs'[i]? = cs[i]?
  | [], o, w, cs, h => ⟨cs, h, rfl, fun _ _ => rfl⟩
  | v :: vs, o, w, cs, h => by
    obtain ⟨cs', h1, h2, h3⟩ := Blk.setCells (w := w) vs (o + 1) (h.set_ o v)
    refine ⟨cs', h1, by rw [h2]; simp, fun i hi => ?_⟩
    rw [h3 i (by omega), Array.getElem?_setIfInBounds_ne (by omega)]
theorem Wrote.setCells {g : Nat} : ∀ (vs : List Value) (o : Nat) (w : World), Wrote [g] w (w.setCells g o vs)
  | [], o, w => Wrote.refl _ _
  | v :: vs, o, w => (Wrote.setCell (p := ⟨g, o, none⟩) (by simp) v).trans (Wrote.setCells vs (o + 1) _)
theorem Tryd.zeroStr : ∀ w, (zeroValue 9).run Tryd.prog w = .ok (.string ⟨#[]⟩) w := fun w => by kernel_rfl

set_option maxHeartbeats 800000 in
theorem indexFuncS_Without (q : ByteArray → Bool) (bx : Nat) (xs : List ByteArray) (a : Option Addr) (n cap : Nat) (w : World) (h : Rss w xs a n cap)
    (HP : ∀ x ∈ xs, Calls Tryd.prog 70 #[.string x, .pointer (some ⟨bx, 0, none⟩)] w fun e w' => e = .returned (.bool (q x)) ∧ w = w') :
    Calls Tryd.prog 84 #[.slice a n cap, .func (.func 70) #[] #[.pointer (some ⟨bx, 0, none⟩)]] w fun e w' => e = .returned (.int .i64 (fIdx q xs)) ∧ w = w' := by
  have hn : n ≤ 9223372036854775807 := by obtain ⟨_, h2, h3, _⟩ := h; unfold maxLen at h3; omega
  have hx := hide h.1
  have HP := hide HP
  go_enter Tryd.func84, Tryd.ntmps84
  go_wp2_with fail
  go_loopw [8] (fun i wr => ∃ j : Nat, j ≤ n ∧ i = .int .i64 j ∧ Hid (∀ i (h : i < xs.length), i < j → q xs[i] = false) ∧ w = wr) (fun i _ => n - (intOf i).toNat)
  case atStart => exact ⟨0, by omega, rfl, fun i _ hi => by omega, rfl⟩
  case round =>
    obtain ⟨j, hj, rfl, HR, rfl⟩ := hrel
    by_cases hjn : j < n
    · have hjx : j < xs.length := by rw [← hx.out]; exact hjn
      obtain ⟨b, off, rfl, hlt', e0⟩ := h.get j hjx
      have C := HP.out _ (List.getElem_mem hjx)
      cases hq : q xs[j] with
      | true =>
        rw [hq] at C
        replace C := hide C
        replace hq := hide hq
        go_wp2_with (go_at_call 70; (with_reducible refine C.out.mono ?_); rintro e w1 ⟨rfl, rfl⟩)
        go_ret
        exact ⟨ret_int (fIdx_at hjx hq.out HR.out).symm, rfl⟩
      | false =>
        rw [hq] at C
        replace C := hide C
        replace hq := hide hq
        go_wp2_with (go_at_call 70; (with_reducible refine C.out.mono ?_); rintro e w1 ⟨rfl, rfl⟩)
        go_roundw
        case rel =>
          refine ⟨j + 1, by omega, by go_num, fun i hi hij => ?_, by trivial⟩
          by_cases hij' : i < j
          · exact HR.out i hi hij'
          · obtain rfl : i = j := by omega
            exact hq.out
        case measure => simp [intOf]; omega
    · go_wp2
      go_ret
      have h4 := hx.out
      exact ⟨ret_int (fIdx_none fun i hi => HR.out i hi (by omega)).symm, rfl⟩

set_option maxHeartbeats 3200000 in
theorem deleteFuncS_Without (q : ByteArray → Bool) (bx g : Nat) (K : World → Prop) (HK : ∀ W i u, K W → K (W.setCell ⟨g, i, none⟩ u)) (xs : List ByteArray)
    (HP : ∀ x ∈ xs, ∀ W, K W → Calls Tryd.prog 70 #[.string x, .pointer (some ⟨bx, 0, none⟩)] W fun e w' => e = .returned (.bool (q x)) ∧ W = w')
    (cap : Nat) (cur : Array Value) (w : World) (hk : K w) (hB : Blk w g 9 cur) (hcur : ∀ i (h : i < xs.length), cur[i]? = some (.string xs[i])) (hcs : xs.length ≤ cur.size)
    (hR : Rss w xs (some ⟨g, 0, none⟩) xs.length cap) (hl : xs.length ≤ 2097152) :
    Calls Tryd.prog 68 #[.slice (some ⟨g, 0, none⟩) xs.length cap, .func (.func 70) #[] #[.pointer (some ⟨bx, 0, none⟩)]] w
      fun e w' => e = .returned (.slice (some ⟨g, 0, none⟩) (keptN q xs).length cap) ∧ Wrote [g] w w' ∧ ∃ cur', Blk w' g 9 cur' ∧ cur'.size = cur.size ∧ ∀ i (h : i < (keptN q xs).length), cur'[i]? = some (.string (keptN q xs)[i]) := by
  have CI := indexFuncS_Without q bx xs _ _ cap w hR (fun x hx => HP x hx w hk)
  have hcap : xs.length ≤ cap := hR.2.1
  have hcm : cap ≤ 9223372036854775807 := by have := hR.2.2.1; unfold maxLen at this; omega
  replace HP := hide HP
  replace HK := hide HK
  have HR := hide hR
  have HCUR := hide hcur
  obtain ⟨n, hn⟩ : ∃ n, n = xs.length := ⟨_, rfl⟩
  rw [← hn] at CI hcs hl hcap ⊢
  replace hn := hide hn
  clear hR hcur
  rcases Int.lt_or_le (fIdx q xs) 0 with hneg | hpos
  · have hall : ∀ i (hi : i < xs.length), q xs[i] = false := fun i hi => by
      have h := fIdx_ge q xs
      rw [decide_eq_false (by omega)] at h
      exact List.any_eq_false.1 h.symm _ (List.getElem_mem hi) |> Bool.eq_false_iff.2
    have e1 : fIdx q xs = -1 := fIdx_none hall
    have hkp := hide (keptN_all hall)
    rw [e1] at CI
    replace CI := hide CI
    clear e1 hneg hall
    go_enter Tryd.func68, Tryd.ntmps68
    go_wp2_with (go_at_call 84; (with_reducible refine CI.out.mono ?_); rintro e w1 ⟨rfl, rfl⟩)
    go_ret
    refine ⟨by rw [hkp.out, ← hn.out]; rfl, Wrote.refl _ _, cur, hB, rfl, fun i h => ?_⟩
    have := HCUR.out i (by rw [hkp.out] at h; exact h)
    simpa [hkp.out] using this
  · obtain ⟨k0, hk0, e1, ht, hf⟩ : ∃ (k0 : Nat) (h : k0 < xs.length), fIdx q xs = (k0 : Int) ∧ q xs[k0] = true ∧ ∀ i (hi : i < xs.length), i < k0 → q xs[i] = false := by
      cases e : xs.findIdx? q with
      | none => simp [fIdx, e] at hpos
      | some i =>
        obtain ⟨h1, h2, h3⟩ := List.findIdx?_eq_some_iff_getElem.1 e
        exact ⟨i, h1, by simp [fIdx, e], h2, fun j hj hji => by simpa using h3 j hji⟩
    rw [e1] at CI
    have hk0' : keptN q (xs.take (k0 + 1)) = xs.take k0 := by
      rw [keptN_take q xs k0 hk0, ht]
      simp only [if_true, List.append_nil]
      refine keptN_all fun i hi => ?_
      rw [List.getElem_take]
      exact hf i _ (by rw [List.length_take] at hi; omega)
    have hk0n : k0 < n := by rw [hn.out]; exact hk0
    replace CI := hide CI
    replace hf := hide hf
    replace ht := hide ht
    replace hk0' := hide hk0'
    clear e1 hpos
    go_enter Tryd.func68, Tryd.ntmps68
    go_wp2_with (go_at_call 84; (with_reducible refine CI.out.mono ?_); rintro e w1 ⟨rfl, rfl⟩)
    go_loopw [5, 6, 7] (fun i j _ wr => ∃ i' j' : Nat, i = .int .i64 i' ∧ j = .int .i64 j' ∧ i' < j' ∧ j' ≤ n ∧ Hid (i' = (keptN q (xs.take j')).length) ∧ (∃ cur' : Array Value, Blk wr g 9 cur' ∧ cur'.size = cur.size ∧
        Hid (∀ p (h : p < (keptN q (xs.take j')).length), cur'[p]? = some (.string (keptN q (xs.take j'))[p])) ∧ Hid (∀ p (h : p < xs.length), j' ≤ p → cur'[p]? = some (.string xs[p]))) ∧ K wr ∧ Wrote [g] w wr) (fun _ j _ _ => n - (intOf j).toNat)
    case atStart =>
      refine ⟨k0, k0 + 1, rfl, by go_num, by omega, by omega, ?_, ⟨cur, hB, rfl, ?_, fun p h _ => HCUR.out p h⟩, hk, Wrote.refl _ _⟩
      · rw [Hid, hk0'.out, List.length_take]
        omega
      · intro p h
        have h1 : p < xs.length := by rw [hk0'.out, List.length_take] at h; omega
        have := HCUR.out p h1
        simp only [hk0'.out, List.getElem_take]
        exact this
    case round =>
      obtain ⟨i', j', rfl, rfl, hij, hj, HI, ⟨cur', hB', hcs', HC1, HC2⟩, hkw, hb⟩ := hrel
      have hgl := hB'.lt
      by_cases hjn : j' < n
      · have hjx : j' < xs.length := by rw [← hn.out]; exact hjn
        have c0 : wr.cell? ⟨g, j', none⟩ = some (.string xs[j']) := by rw [hB'.cell]; exact HC2.out j' hjx (Nat.le_refl _)
        have z0 := hB'.free i'
        have w0 := hB'.at_ (i := i') (by omega)
        have C := HP.out _ (List.getElem_mem hjx) wr hkw
        have hstep := keptN_take q xs j' hjx
        cases hq : q xs[j'] with
        | true =>
          rw [hq] at C hstep
          simp only [if_true, List.append_nil] at hstep
          replace C := hide C
          replace hstep := hide hstep
          replace hkw := hide hkw
          clear hq w0 z0
          go_wp2_with (go_at_call 70; (with_reducible refine C.out.mono ?_); rintro e w1 ⟨rfl, rfl⟩)
          go_roundw
          case rel =>
            (repeat apply Exists.intro)
            refine ⟨?_, rfl⟩
            refine ⟨i', j' + 1, rfl, by go_num, by omega, by omega, by rw [Hid, hstep.out]; exact HI.out, ⟨cur', hB', hcs', ?_, fun p h hp => HC2.out p h (by omega)⟩, hkw.out, hb⟩
            rw [Hid, hstep.out]
            exact HC1.out
          case measure => simp [intOf]; omega
        | false =>
          rw [hq] at C hstep
          simp only [Bool.false_eq_true, if_false] at hstep
          replace C := hide C
          replace hstep := hide hstep
          replace hkw := hide hkw
          clear hq
          go_wp2_with (go_at_call 70; (with_reducible refine C.out.mono ?_); rintro e w1 ⟨rfl, rfl⟩)
          go_roundw
          case rel =>
            have hI := HI.out
            (repeat apply Exists.intro)
            refine ⟨?_, rfl⟩
            refine ⟨i' + 1, j' + 1, by go_num, by go_num, by omega, by omega, by rw [Hid, hstep.out, List.length_append]; simpa using hI, ⟨_, hB'.set_ i' _, by simpa using hcs', ?_, ?_⟩, HK.out _ _ _ hkw.out, hb.trans (Wrote.setCell (by simp) _)⟩
            · intro p h
              by_cases hp : p = i'
              · subst hp
                rw [Array.getElem?_setIfInBounds_self_of_lt (by omega)]
                simp only [hstep.out]
                rw [List.getElem_append_right (by omega)]
                simp
              · rw [Array.getElem?_setIfInBounds_ne (by omega)]
                have h1 : p < (keptN q (xs.take j')).length := by rw [hstep.out, List.length_append] at h; simp at h; omega
                simp only [hstep.out]
                rw [List.getElem_append_left h1]
                exact HC1.out p h1
            · intro p h hp
              rw [Array.getElem?_setIfInBounds_ne (by omega)]
              exact HC2.out p h (by omega)
          case measure => simp [intOf]; omega
      · have hjn' : j' = n := by omega
        have htk : xs.take j' = xs := List.take_of_length_le (by rw [hjn', hn.out]; exact Nat.le_refl _)
        have hI := HI.out
        have hC := HC1.out
        rw [htk] at hI hC
        have hcl : ∀ ty, (Builtin.clear_ #[27] ty #[.slice (some ⟨g, i', none⟩) (n - i') (cap - i')]).run Tryd.prog wr = .ok (.tuple #[]) (wr.setCells g i' (List.replicate (n - i') (.string ⟨#[]⟩))) :=
          fun ty => Lib.run_clear_slice wr _ _ ty _ Tryd.underlying27 Tryd.zeroStr rfl rfl g i' _ _ (by omega) (fun t ht => by rw [hB'.cell, Array.getElem?_eq_getElem (by omega)]; rfl) (fun t ht => hB'.free _)
        replace hI := hide hI
        replace hC := hide hC
        clear htk hjn
        go_wp2_with fail
        go_ret
        obtain ⟨cs2, B2, s2, k2⟩ := Blk.setCells (w := wr) (List.replicate (n - i') (.string ⟨#[]⟩)) i' hB'
        refine ⟨by first | rfl | (rw [hI.out]; rfl), hb.trans (Wrote.setCells _ _ _), cs2, B2, by rw [s2, hcs'], fun p h => ?_⟩
        rw [k2 p (by rw [hI.out]; exact h)]
        exact hC.out p h
end Go.Proofs.YtcbgapncmjjmeaaDoor
