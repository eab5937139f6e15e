/-
  The walks of markTypingS and heldTypingS.
-/
import Derived.Test.YtnmpaibocmnabaaRecF
import Derived.Test.YtnmpaibocmnabaaHeld
import Derived.Test.YtnmpaibocmnabaaMarkR
namespace Go.Proofs.Ytnmpaibocmnabaa
open Go.RowKit
set_option maxRecDepth 100000
set_option linter.unusedVariables false
set_option linter.unusedSimpArgs false

/-- The number that the i-th record's first place is marked with. -/
def kk (xs : List (Rc Int)) (i : Nat) : Nat := 1 + ((xs.take i).map fun r => 3 + Ty.sizes r.type.args).sum
theorem kk_zero (xs : List (Rc Int)) : kk xs 0 = 1 := by simp [kk]
theorem kk_succ (xs : List (Rc Int)) (i : Nat) (h : i < xs.length) : kk xs (i + 1) = kk xs i + (3 + Ty.sizes xs[i].type.args) := by
  rw [kk, kk, take_snoc xs i h, List.map_append, List.sum_append]
  simp
  omega
theorem kk_le (xs : List (Rc Int)) (i : Nat) (h : i ≤ xs.length) : kk xs i ≤ 1 + 3 * Rcs.wt xs := by
  have h1 : ∀ ys : List (Rc Int), (ys.map fun r => 3 + Ty.sizes r.type.args).sum ≤ 3 * Rcs.wt ys := by
    intro ys
    induction ys with
    | nil => simp [Rcs.wt]
    | cons y ys ih =>
      unfold Rcs.wt Rc.wt at ih ⊢
      simp only [List.map_cons, List.sum_cons, List.length_cons] at ih ⊢
      omega
  have h2 := h1 (xs.take i)
  have h3 : Rcs.wt (xs.take i) ≤ Rcs.wt xs := by
    unfold Rcs.wt
    have := Rcs.sum_le xs i
    have := List.length_take_le i xs
    rw [List.length_take]
    omega
  unfold kk
  omega

/-- The first k records marked. -/
structure MarksF (C : Nat → Option Value) (w : World) (xs : List (Rc Int)) (k : Nat) (F : Nat → List Nat) : Prop where
  at_ : ∀ i (h : i < xs.length), i < k → ∃ ta tn tc, C (i * 4) = some (.string (mtext (kk xs i))) ∧ C (i * 4 + 1) = some (.int .i64 ((kk xs i : Nat) + 1)) ∧ C (i * 4 + 2) = some (.slice ta tn tc) ∧
    C (i * 4 + 3) = some (.int .i64 ((kk xs i : Nat) + 1 + 1 + Ty.sizes xs[i].type.args)) ∧ RTa w (Ty.marks ((kk xs i : Nat) + 1 + 1) xs[i].type.args) ta tn tc (F i)
theorem MarksF.keep {C C' : Nat → Option Value} {w w' : World} {xs : List (Rc Int)} {k : Nat} {F : Nat → List Nat} (h : MarksF C w xs k F) (hC : ∀ o, o < k * 4 → C' o = C o)
    (hk : ∀ i, i < k → ∀ b ∈ F i, w'.heap[b]? = w.heap[b]?) : MarksF C' w' xs k F := by
  refine ⟨fun i hi hik => ?_⟩
  obtain ⟨ta, tn, tc, e0, e1, e2, e3, hr⟩ := h.at_ i hi hik
  exact ⟨ta, tn, tc, (hC _ (by omega)).trans e0, (hC _ (by omega)).trans e1, (hC _ (by omega)).trans e2, (hC _ (by omega)).trans e3, hr.keep fun b hb => SameB.of_heap (hk i hik b hb)⟩

/-- All the blocks of records of one's own. -/
def allF (g n : Nat) (F : Nat → List Nat) : List Nat := g :: (List.range n).flatMap F
theorem mem_allF {g n b : Nat} {F : Nat → List Nat} : b ∈ allF g n F ↔ b = g ∨ ∃ i, i < n ∧ b ∈ F i := by
  simp [allF]

set_option maxHeartbeats 3200000 in
theorem markTypingS_any {T base g : Nat} (xs : List (Rc Int)) (F : Nat → List Nat) (cap : Nat) (w : World) (hO : OwnR T base w xs g F) (hw : Rcs.wt xs ≤ 1048576) (hc : xs.length ≤ cap) :
    Calls Try.prog 19 #[.slice (some ⟨g, 0, none⟩) xs.length cap, .int .i64 1] w fun e w' => e = .returned (.int .i64 ((kk xs xs.length : Nat) : Int)) ∧ MarksF (fun o => w'.cell? ⟨g, o, none⟩) w' xs xs.length F ∧ Wrote (allF g xs.length F) w w' := by
  obtain ⟨n, hx⟩ : ∃ n, n = xs.length := ⟨_, rfl⟩
  have hn : n ≤ 1048576 := by unfold Rcs.wt at hw; omega
  obtain ⟨cs, hB, hcs⟩ := hO.blk
  have hkb := fun i (hi : i ≤ xs.length) => kk_le xs i hi
  have hdis := hO.recs.dis
  have hne := hO.ne
  have hown := hO.recs.own
  have hat := fun (i : Nat) (h : i < xs.length) (_ : i < n) => hO.recs.at_ i h h
  rw [← hx] at hkb hdis hne hown hcs ⊢
  have HX := hide hx
  have HK := hide hkb
  have HD := hide hdis
  have HN := hide hne
  have HW := hide hown
  have HA := hide hat
  clear hx hkb hdis hne hown hat hO
  have hgl := hB.lt
  go_enter Try.func19, Try.ntmps19
  go_wp2_with fail
  go_loopw [1, 5] (fun c i wr => ∃ j : Nat, j ≤ n ∧ i = .int .i64 j ∧ (∃ q : Nat, c = .int .i64 (q : Int) ∧ Hid (q = kk xs j)) ∧ (∃ cs' : Array Value, Blk wr g T cs' ∧ cs'.size = cs.size ∧ ∀ o, j * 4 ≤ o → cs'[o]? = cs[o]?) ∧ MarksF (fun o => wr.cell? ⟨g, o, none⟩) wr xs j F ∧
    (∀ i, j ≤ i → i < n → ∀ b ∈ F i, wr.heap[b]? = w.heap[b]?) ∧ Wrote (allF g n F) w wr) (fun _ i _ => n - (intOf i).toNat)
  case atStart => exact ⟨0, by omega, rfl, ⟨1, rfl, by rw [Hid, kk_zero]⟩, ⟨cs, hB, rfl, fun _ _ => rfl⟩, ⟨fun i _ h => absurd h (Nat.not_lt_zero _)⟩, fun _ _ _ _ _ => rfl, Wrote.refl _ _⟩
  case round =>
    obtain ⟨j, hj, rfl, ⟨q, rfl, HQ⟩, ⟨cs', hB', hcs', HC⟩, HM, HL, hW⟩ := hrel
    by_cases hjn : j < n
    · have hjx : j < xs.length := by rw [← HX.out]; exact hjn
      have hqk : q ≤ 4194304 ∧ q + (3 + Ty.sizes xs[j].type.args) ≤ 4194304 := by
        have h1 := HK.out (j + 1) (by omega)
        rw [kk_succ xs j hjx] at h1
        have h2 := HQ.out
        omega
      obtain ⟨ta, tn, tc, e0, e1, e2, e3, hA⟩ := HA.out j hjx hjn
      have hgF := HN.out j hjn
      obtain ⟨hnd, hfr, hge⟩ := HW.out j hjn
      have hbw : g < wr.heap.size := hB'.lt
      simp only [hB.cell] at e0 e1 e2 e3
      have x0 : cs'[j * 4]? = some (.string xs[j].name) := (HC _ (by omega)).trans e0
      have x1 : cs'[j * 4 + 1]? = some (.int .i64 xs[j].type.kind) := (HC _ (by omega)).trans e1
      have x2 : cs'[j * 4 + 2]? = some (.slice ta tn tc) := (HC _ (by omega)).trans e2
      have x3 : cs'[j * 4 + 3]? = some (.int .i64 xs[j].last) := (HC _ (by omega)).trans e3
      have hlt : ∀ b ∈ F j, b < wr.heap.size := fun b hb => Nat.lt_of_lt_of_le (hge b hb).2 hW.size
      have hAw : RTa wr xs[j].type.args ta tn tc (F j) := hA.keep fun b hb => SameB.of_heap (HL j (Nat.le_refl _) hjn b hb)
      have hfw : Free wr (F j) := free_heap hfr (HL j (Nat.le_refl _) hjn)
      have HHC := hide HC
      have HHM := hide HM
      have HHL := hide HL
      have HCS := hide hcs'
      have HAw := hide hAw
      have HFw := hide hfw
      have HND := hide hnd
      have HLT := hide hlt
      have HGE := hide hge
      have HGF := hide hgF
      clear HC HM HL hcs' hAw hfw hnd hlt hge hgF hA hfr e0 e1 e2 e3
      have hcap := hcs
      have hsz : j * 4 + 3 < cs'.size := by have := HCS.out; omega
      go_wp2_with fail
      refine (markText_any q _ (by omega)).mono ?_
      rintro e w1 ⟨rfl, b1⟩
      have B1 := hB'.under b1
      have c0 := (B1.cell (j * 4)).trans x0
      have z0 := B1.free (j * 4)
      have c1 := (B1.cell (j * 4 + 1)).trans x1
      have z1 := B1.free (j * 4 + 1)
      have c2 := (B1.cell (j * 4 + 2)).trans x2
      have far : ∀ (u0 u1 : Value) (b : Nat), b ≠ g → ((w1.setCell ⟨g, j * 4, none⟩ u0).setCell ⟨g, j * 4 + 1, none⟩ u1).heap[b]? = w1.heap[b]? := fun u0 u1 b hb =>
        (Below.heap_setCell _ ⟨g, j * 4 + 1, none⟩ u1 b hb).trans (Below.heap_setCell _ ⟨g, j * 4, none⟩ u0 b hb)
      have FAR := hide far
      clear far
      have old : ∀ (u0 u1 : Value), ∀ b ∈ F j, ((w1.setCell ⟨g, j * 4, none⟩ u0).setCell ⟨g, j * 4 + 1, none⟩ u1).heap[b]? = wr.heap[b]? := fun u0 u1 b hb =>
        (FAR.out u0 u1 b (fun e => HGF.out (e ▸ hb))).trans (b1.block b (HLT.out b hb))
      have CA := fun (u0 u1 : Value) => markTypeS_any xs[j].type.args ta tn tc (F j) ((q : Int) + 1 + 1) _ (HAw.out.keep fun b hb => SameB.of_heap (old u0 u1 b hb)) HND.out (free_heap HFw.out (old u0 u1)) (by omega) (by omega)
      have OLD := hide old
      clear old
      replace CA := hide CA
      go_wp2_with fail
      refine (CA.out _ _).mono ?_
      rintro e w2 ⟨rfl, hA2, hW2⟩
      have hs2 := hW2.size
      simp [World.setCell] at hs2
      have B2' := (B1.set_ (j * 4) (.string (mtext q))).set_ (j * 4 + 1) (.int .i64 ((q : Int) + 1))
      have B2 : Blk w2 g T _ := (hW2.block g (by have := b1.size; simp [World.setCell]; omega) HGF.out).trans B2'
      have z3 := B2.free (j * 4 + 3)
      have c3 := B2.cell (j * 4 + 3)
      have c3' : w2.cell? ⟨g, j * 4 + 3, none⟩ = some (.int .i64 xs[j].last) := by
        rw [c3]
        simp only [Array.getElem?_setIfInBounds]
        rw [if_neg (by omega), if_neg (by omega)]
        exact x3
      clear c0 c1 c2 c3 z0 z1 CA
      go_wp2_with fail
      go_roundw
      case rel =>
        have B3 := B2.set_ (j * 4 + 3) (.int .i64 ((q : Int) + 1 + 1 + Ty.sizes xs[j].type.args))
        have hq := HQ.out
        have hcs2 := HCS.out
        have far3 : ∀ b, b ≠ g → (w2.setCell ⟨g, j * 4 + 3, none⟩ (.int .i64 ((q : Int) + 1 + 1 + Ty.sizes xs[j].type.args))).heap[b]? = w2.heap[b]? := fun b hb => Below.heap_setCell _ ⟨g, j * 4 + 3, none⟩ _ b hb
        have keep2 : ∀ b, b < wr.heap.size → b ≠ g → b ∉ F j → (w2.setCell ⟨g, j * 4 + 3, none⟩ (.int .i64 ((q : Int) + 1 + 1 + Ty.sizes xs[j].type.args))).heap[b]? = wr.heap[b]? := fun b hb hbg hbF =>
          (far3 b hbg).trans ((hW2.block b (by have := b1.size; simp [World.setCell]; omega) hbF).trans ((FAR.out _ _ b hbg).trans (b1.block b hb)))
        have hWr := hW.size
        refine ⟨j + 1, by omega, by go_num, ⟨q + (3 + Ty.sizes xs[j].type.args), by first | go_num | (congr 1; omega), by rw [Hid, kk_succ xs j hjx, hq]⟩, ⟨_, B3, by simpa using hcs2, fun o ho => ?_⟩, ⟨fun i hi hij => ?_⟩, fun i hji hin b hb => ?_, ?_⟩
        · simp only [Array.getElem?_setIfInBounds]
          rw [if_neg (by omega), if_neg (by omega), if_neg (by omega)]
          exact HHC.out o (by omega)
        · by_cases hij' : i < j
          · obtain ⟨sa, sn, sc, y0, y1, y2, y3, hR⟩ := HHM.out.at_ i hi hij'
            simp only [hB'.cell] at y0 y1 y2 y3
            refine ⟨sa, sn, sc, ?_, ?_, ?_, ?_, hR.keep fun b hb => SameB.of_heap (keep2 b ?_ ?_ ?_)⟩
            all_goals try
              simp only [B3.cell, Array.getElem?_setIfInBounds]
              rw [if_neg (by omega), if_neg (by omega), if_neg (by omega)]
            · exact y0
            · exact y1
            · exact y2
            · exact y3
            · exact Nat.lt_of_lt_of_le ((HW.out i (by omega)).2.2 b hb).2 hWr
            · exact fun e => HN.out i (by omega) (e ▸ hb)
            · exact HD.out i j hij' hjn b hb
          · obtain rfl : i = j := by omega
            have hsz' : i * 4 + 3 < cs'.size := hsz
            refine ⟨ta, tn, tc, ?_, ?_, ?_, ?_, ?_⟩
            · simp only [B3.cell, Array.getElem?_setIfInBounds, Array.size_setIfInBounds]
              rw [if_neg (by omega), if_neg (by omega), if_pos trivial, if_pos (by omega), hq]
            · simp only [B3.cell, Array.getElem?_setIfInBounds, Array.size_setIfInBounds]
              rw [if_neg (by omega), if_pos trivial, if_pos (by omega), hq]
            · simp only [B3.cell, Array.getElem?_setIfInBounds, Array.size_setIfInBounds]
              rw [if_neg (by omega), if_neg (by omega), if_neg (by omega)]
              exact x2
            · simp only [B3.cell, Array.getElem?_setIfInBounds, Array.size_setIfInBounds]
              rw [if_pos trivial, if_pos (by omega), hq]
            · rw [← hq]
              exact hA2.keep fun b hb => SameB.of_heap (far3 b fun e => HGF.out (e ▸ hb))
        · have hbn : b ∉ F j := fun hin' => HD.out j i (by omega) hin b hin' hb
          rw [keep2 b (Nat.lt_of_lt_of_le ((HW.out i hin).2.2 b hb).2 hWr) (fun e => HN.out i hin (e ▸ hb)) hbn]
          exact HHL.out i (by omega) hin b hb
        · refine hW.trans (((((Wrote.of_below b1).trans (Wrote.setCell (p := ⟨g, j * 4, none⟩) (mem_allF.2 (.inl rfl)) _)).trans (Wrote.setCell (p := ⟨g, j * 4 + 1, none⟩) (mem_allF.2 (.inl rfl)) _)).trans (hW2.more fun b hb => mem_allF.2 (.inr ⟨j, hjn, hb⟩))).trans (Wrote.setCell (p := ⟨g, j * 4 + 3, none⟩) (mem_allF.2 (.inl rfl)) _))
      case measure => simp [intOf]; omega
    · obtain rfl : j = n := by omega
      go_wp2_with fail
      go_ret
      exact ⟨ret_int (by rw [HQ.out]), HM, hW⟩
set_option maxHeartbeats 3200000 in
theorem heldTypingS_any {g : Nat} (xs : List (Rc Int)) (F : Nat → List Nat) (cap : Nat) (w : World) (hM : MarksF (fun o => w.cell? ⟨g, o, none⟩) w xs xs.length F) (hg : g < w.heap.size) (hw : Rcs.wt xs ≤ 1048576) (hc : xs.length ≤ cap) :
    Calls Try.prog 20 #[.slice (some ⟨g, 0, none⟩) xs.length cap, .int .i64 1] w fun e w' => e = .returned (.int .i64 ((kk xs xs.length : Nat) : Int)) ∧ Below w.heap.size w w' := by
  obtain ⟨n, hx⟩ : ∃ n, n = xs.length := ⟨_, rfl⟩
  have hn : n ≤ 1048576 := by unfold Rcs.wt at hw; omega
  have hkb := fun i (hi : i ≤ xs.length) => kk_le xs i hi
  rw [← hx] at hkb hM ⊢
  have HX := hide hx
  have HK := hide hkb
  have HM := hide hM
  clear hx hkb hM
  go_enter Try.func20, Try.ntmps20
  go_wp2_with fail
  go_loopw [1, 5] (fun c i wr => ∃ j : Nat, j ≤ n ∧ i = .int .i64 j ∧ (∃ q : Nat, c = .int .i64 (q : Int) ∧ Hid (q = kk xs j)) ∧ Below w.heap.size w wr) (fun _ i _ => n - (intOf i).toNat)
  case atStart => exact ⟨0, by omega, rfl, ⟨1, rfl, by rw [Hid, kk_zero]⟩, Below.refl _ _⟩
  case round =>
    obtain ⟨j, hj, rfl, ⟨q, rfl, HQ⟩, hb⟩ := hrel
    have hsz := hb.size
    by_cases hjn : j < n
    · have hjx : j < xs.length := by rw [← HX.out]; exact hjn
      have hqk : q ≤ 4194304 ∧ q + (3 + Ty.sizes xs[j].type.args) ≤ 4194304 := by
        have h1 := HK.out (j + 1) (by omega)
        rw [kk_succ xs j hjx] at h1
        have h2 := HQ.out
        omega
      obtain ⟨ta, tn, tc, e0, e1, e2, e3, hA⟩ := HM.out.at_ j hjx hjn
      rw [← HQ.out] at e0 e1 e3 hA
      have hR : Rds w (Ty.marks ((q : Int) + 1 + 1) xs[j].type.args) ta tn tc := by
        obtain ⟨r1, r2, r3, r4⟩ := hA
        refine ⟨r1, r2, r3, ?_⟩
        rcases r4 with ⟨r4, -⟩ | ⟨r4, b, off, fps, ha, -, hr⟩
        · exact .inl r4
        · exact .inr ⟨r4, b, off, fps, ha, hr⟩
      have E := fun {W : World} (hW : Below w.heap.size w W) => (show W.cell? ⟨g, j * 4, none⟩ = some (.string (mtext q)) ∧ W.cell? ⟨g, j * 4 + 1, none⟩ = some (.int .i64 ((q : Int) + 1)) ∧ W.cell? ⟨g, j * 4 + 2, none⟩ = some (.slice ta tn tc) ∧ W.cell? ⟨g, j * 4 + 3, none⟩ = some (.int .i64 ((q : Int) + 1 + 1 + Ty.sizes xs[j].type.args)) from
        ⟨(hW.cell (p := ⟨g, j * 4, none⟩) hg).trans e0, (hW.cell (p := ⟨g, j * 4 + 1, none⟩) hg).trans e1, (hW.cell (p := ⟨g, j * 4 + 2, none⟩) hg).trans e2, (hW.cell (p := ⟨g, j * 4 + 3, none⟩) hg).trans e3⟩)
      clear e0 e1 e2 e3 hA
      obtain ⟨e0, -, -, -⟩ := E hb
      have CH := hide (fun W (hW : Below w.heap.size w W) => heldTypeS_any xs[j].type.args ta tn tc ((q : Int) + 1 + 1) W (hR.below hW) (by omega) (by omega))
      have HE := hide (fun W (hW : Below w.heap.size w W) => E hW)
      have CM := hide (fun W => markText_any q W (by omega))
      clear E hR
      go_wp2_with fail
      go_region_held3 (fun W => W.cell? ⟨g, j * 4, none⟩ = some (.string (mtext q)))
        (first | exact e0 | exact c1)
        (first
          | (go_at_call 51; (with_reducible refine (CM.out _).mono ?_); rintro e w1 ⟨rfl, b1⟩
             have k1 : Below w.heap.size w w1 := (hb.drew).trans (b1.mono hsz)
             have c1 := (HE.out _ k1).1))
      obtain ⟨-, y1, y2, y3⟩ := HE.out _ k1
      go_wp2_with (go_at_call 53; (with_reducible refine (CH.out _ k1).mono ?_); rintro e w2 ⟨rfl, rfl⟩)
      go_roundw
      case rel =>
        have hq := HQ.out
        exact ⟨j + 1, by omega, by go_num, ⟨q + (3 + Ty.sizes xs[j].type.args), by first | go_num | (congr 1; omega), by rw [Hid, kk_succ xs j hjx, hq]⟩, k1⟩
      case measure => simp [intOf]; omega
    · obtain rfl : j = n := by omega
      go_wp2_with fail
      go_ret
      exact ⟨ret_int (by rw [HQ.out]), hb⟩
end Go.Proofs.Ytnmpaibocmnabaa
