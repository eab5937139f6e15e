/-
  Drawn terms: what a draw of a term gives; l5Var, l5Int, l5Bool, l5Leaf.
-/
import Derived.Test.YtklifieahcoljaaGreatOwnM
import Derived.Test.YtklifieahcoljaaGreatBentTy
namespace Go.Proofs.YtklifieahcoljaaGreat
open Go.RowKit
set_option maxRecDepth 100000
set_option linter.unusedVariables false
set_option linter.unusedSimpArgs false

/-- A drawn term, its weight at most N. -/
def DrawsM (p N : Nat) (w : World) (e : Ending) (w' : World) : Prop := ∃ (t : Tm) (l : Lt), e = .returned (.agg #[.int .i64 t.kind, .string t.name, .string t.other, .int .i64 t.n, .int .i64 t.type.kind, .slice l.ta l.tn l.tc, .int .i64 t.res.kind, .slice l.ra l.rn l.rc, .slice l.aa l.an l.ac]) ∧ OwnM w.heap.size w' t l ∧ t.wt ≤ N ∧ Drew p w w'
/-- A block of nine cells, filled. -/
theorem put_box {w : World} {M T : Nat} {cs : Array Value} (h : Blk w M T cs) (hs : cs.size = 9) (t : Tm) (l : Lt) : Blk (putAt w M 0 (tcells t l)) M T #[.int .i64 t.kind, .string t.name, .string t.other, .int .i64 t.n, .int .i64 t.type.kind, .slice l.ta l.tn l.tc, .int .i64 t.res.kind, .slice l.ra l.rn l.rc, .slice l.aa l.an l.ac] := by
  obtain ⟨cs', h1, hB, h2, h3⟩ := putAt_blk (tcells t l) w 0 cs h
  have e : cs' = (tcells t l).toArray := by
    refine Array.ext (by rw [h1, hs]; rfl) fun i hi hi' => ?_
    have h9 : i < 9 := by rw [h1, hs] at hi; exact hi
    have h4 := h2 i (by rw [tcells_len]; exact h9) (by omega)
    rw [Nat.zero_add, Array.getElem?_eq_getElem hi, List.getElem?_eq_getElem (by rw [tcells_len]; exact h9)] at h4
    rw [Option.some.inj h4, List.getElem_toArray]
  rw [e] at hB
  exact hB
theorem putAt_heap {M b : Nat} (hb : b ≠ M) : ∀ (vs : List Value) (w : World) (o : Nat), (putAt w M o vs).heap[b]? = w.heap[b]?
  | [], w, o => rfl
  | v :: vs, w, o => (putAt_heap hb vs _ _).trans (Below.heap_setCell w ⟨M, o, none⟩ v b hb)
theorem putAt_size {M : Nat} : ∀ (vs : List Value) (w : World) (o : Nat), (putAt w M o vs).heap.size = w.heap.size
  | [], w, o => rfl
  | v :: vs, w, o => (putAt_size vs _ _).trans (show (w.setCell ⟨M, o, none⟩ v).heap.size = w.heap.size by simp [World.setCell])
theorem putAt_fresh {M base : Nat} (hb : M < base) (vs : List Value) (w : World) (o : Nat) : Fresh base w (putAt w M o vs) :=
  ⟨Nat.le_of_eq (putAt_size vs w o).symm, fun b h1 _ => putAt_heap (by omega) vs w o⟩
theorem Drew.put {p M : Nat} {w w1 : World} (hC : Cur w p) (hd : Drew p w w1) (hM : w.heap.size ≤ M) (vs : List Value) (o : Nat) : Drew p w (putAt w1 M o vs) := by
  induction vs generalizing w1 o with
  | nil => exact hd
  | cons v vs ih => exact ih (Drew.over hC hd ((Below.refl _ _).setCell (p := ⟨M, o, none⟩) hM v)) _
/-- Behind a store into one's own result block. -/
theorem DrawsM.mk {p N R : Nat} {w w1 : World} {t : Tm} {l : Lt} {base : Nat} (hR : w.heap.size = R) (hC : Cur w p) (ho : OwnM base w1 t l) (hb : R < base) (hs : t.wt ≤ N) (hd : Drew p w w1) :
    DrawsM p N w (.returned (.agg #[.int .i64 t.kind, .string t.name, .string t.other, .int .i64 t.n, .int .i64 t.type.kind, .slice l.ta l.tn l.tc, .int .i64 t.res.kind, .slice l.ra l.rn l.rc, .slice l.aa l.an l.ac])) (putAt w1 R 0 (tcells t l)) := by
  subst hR
  exact ⟨t, l, rfl, (ho.keep (putAt_fresh hb _ _ _)).base (by omega), hs, Drew.put hC hd (Nat.le_refl _) _ _⟩

/-- A term without parts. -/
def leafM (k n : Int) (nm : ByteArray) : Tm := ⟨k, nm, ⟨#[]⟩, n, ty0, ty0, []⟩
theorem leafM_wt (k n : Int) (nm : ByteArray) : (leafM k n nm).wt = nm.size := by
  rw [leafM, Tm.wt, Tm.wts, ty0]
  show nm.size + (ByteArray.mk #[]).size + Ty.sizes [] + Ty.sizes [] + 0 = nm.size
  rw [Ty.sizes]
  rfl
theorem leafM_own (base : Nat) (w : World) {k n : Int} {nm : ByteArray} (hk : i64 k) (hn : i64 n) (hs : nm.size ≤ 9223372036854775807) : OwnM base w (leafM k n nm) lt0 := OwnM.nil base w k n nm ⟨#[]⟩ ⟨hk, hn, hs, by simp [ByteArray.size]⟩
theorem l5Var_eq (a : ByteArray) (w : World) : Calls Tryz.prog 42 #[.string a] w fun e w' => e = .returned (.agg #[.int .i64 1, .string a, .string ⟨#[]⟩, .int .i64 0, .int .i64 0, .slice none 0 0, .int .i64 0, .slice none 0 0, .slice none 0 0]) ∧ Below w.heap.size w w' := by
  go_enter Tryz.func42, Tryz.ntmps42
  go_wp2_with fail
  exact bodyPost_ret (v := .agg #[.int .i64 1, .string a, .string ⟨#[]⟩, .int .i64 0, .int .i64 0, .slice none 0 0, .int .i64 0, .slice none 0 0, .slice none 0 0]) (by simp [results, Tryz.results42, go_sem]) rfl ⟨rfl, below_new _ _⟩
theorem l5Int_eq (a : Int) (w : World) : Calls Tryz.prog 90 #[.int .i64 a] w fun e w' => e = .returned (.agg #[.int .i64 2, .string ⟨#[]⟩, .string ⟨#[]⟩, .int .i64 a, .int .i64 0, .slice none 0 0, .int .i64 0, .slice none 0 0, .slice none 0 0]) ∧ Below w.heap.size w w' := by
  go_enter Tryz.func90, Tryz.ntmps90
  go_wp2_with fail
  exact bodyPost_ret (v := .agg #[.int .i64 2, .string ⟨#[]⟩, .string ⟨#[]⟩, .int .i64 a, .int .i64 0, .slice none 0 0, .int .i64 0, .slice none 0 0, .slice none 0 0]) (by simp [results, Tryz.results90, go_sem]) rfl ⟨rfl, below_new _ _⟩
theorem l5Bool_eq (a : Int) (w : World) : Calls Tryz.prog 91 #[.int .i64 a] w fun e w' => e = .returned (.agg #[.int .i64 3, .string ⟨#[]⟩, .string ⟨#[]⟩, .int .i64 a, .int .i64 0, .slice none 0 0, .int .i64 0, .slice none 0 0, .slice none 0 0]) ∧ Below w.heap.size w w' := by
  go_enter Tryz.func91, Tryz.ntmps91
  go_wp2_with fail
  exact bodyPost_ret (v := .agg #[.int .i64 3, .string ⟨#[]⟩, .string ⟨#[]⟩, .int .i64 a, .int .i64 0, .slice none 0 0, .int .i64 0, .slice none 0 0, .slice none 0 0]) (by simp [results, Tryz.results91, go_sem]) rfl ⟨rfl, below_new _ _⟩
theorem ints5 : ∀ j (hj : j < (#[Value.int .i64 0, .int .i64 1, .int .i64 2, .int .i64 3, .int .i64 10006] : Array Value).size), ∃ z : Int, (#[Value.int .i64 0, .int .i64 1, .int .i64 2, .int .i64 3, .int .i64 10006] : Array Value)[j] = .int .i64 z ∧ i64 z := by
  intro j hj
  match j, hj with
  | 0, _ => exact ⟨0, rfl, by simp [i64]⟩
  | 1, _ => exact ⟨1, rfl, by simp [i64]⟩
  | 2, _ => exact ⟨2, rfl, by simp [i64]⟩
  | 3, _ => exact ⟨3, rfl, by simp [i64]⟩
  | 4, _ => exact ⟨10006, rfl, by simp [i64]⟩
  | n + 5, h => simp at h; omega
theorem strsXYF : ∀ j (hj : j < (#[Value.string ⟨#[120]⟩, .string ⟨#[121]⟩, .string ⟨#[102]⟩] : Array Value).size), ∃ z : ByteArray, (#[Value.string ⟨#[120]⟩, .string ⟨#[121]⟩, .string ⟨#[102]⟩] : Array Value)[j] = .string z ∧ z.size ≤ 1000 := by
  intro j hj
  match j, hj with
  | 0, _ => exact ⟨_, rfl, by simp [ByteArray.size]⟩
  | 1, _ => exact ⟨_, rfl, by simp [ByteArray.size]⟩
  | 2, _ => exact ⟨_, rfl, by simp [ByteArray.size]⟩
  | n + 3, h => simp at h; omega

set_option maxHeartbeats 3200000 in
theorem l5Leaf_any (p : Nat) (w : World) (hC : Cur w p) : Calls Tryz.prog 65 #[.pointer (some ⟨p, 0, none⟩)] w (DrawsM p 1000 w) := by
  have hlt := hC.lt
  have B0 := Blk.new w 29 #[.int .i64 0, .string ⟨#[]⟩, .string ⟨#[]⟩, .int .i64 0, .int .i64 0, .slice none 0 0, .int .i64 0, .slice none 0 0, .slice none 0 0]
  have d0 := Drew.alloc hC (.cells #[.int .i64 0, .string ⟨#[]⟩, .string ⟨#[]⟩, .int .i64 0, .int .i64 0, .slice none 0 0, .int .i64 0, .slice none 0 0, .slice none 0 0] 29)
  go_enter Tryz.func65, Tryz.ntmps65
  go_wp2_with fail
  refine (l1Below_any p 4 _ d0.cur (by omega)).mono ?_
  rintro e w1 ⟨x, rfl, x0, x1, d1⟩
  have D1 := d0.trans d1
  have B1 : Blk w1 w.heap.size _ _ := (d1.block B0.lt (by omega)).trans B0
  have lC1 := D1.cur.lt
  by_cases c0 : x = 0
  · subst c0
    go_wp2_with fail
    have D2 := D1.trans (Drew.alloc D1.cur (.cells #[.int .i64 0, .int .i64 1, .int .i64 2, .int .i64 3, .int .i64 10006] 3))
    refine (l1PickInt_any p w1.heap.size 5 3 _ _ D2.cur (Blk.new w1 _ _) lC1 rfl (by omega) (by omega) ints5).mono ?_
    rintro e w2 ⟨z, rfl, hz, -, d3⟩
    have D3 := D2.trans d3
    have B3 : Blk w2 w.heap.size _ _ := (d3.block (by have := B1.lt; simp; omega) (by omega)).trans (B1.alloc _)
    go_wp2_with fail
    refine (l5Int_eq z w2).mono ?_
    rintro e w3 ⟨rfl, b3⟩
    have B4 := B3.under b3
    have D4 := D3.next b3
    obtain ⟨q0, q1, q2, q3, q4, q5, q6, q7, q8⟩ : _ ∧ _ ∧ _ ∧ _ ∧ _ ∧ _ ∧ _ ∧ _ ∧ _ := ⟨B4.cell 0, B4.cell 1, B4.cell 2, B4.cell 3, B4.cell 4, B4.cell 5, B4.cell 6, B4.cell 7, B4.cell 8⟩
    simp at q0 q1 q2 q3 q4 q5 q6 q7 q8
    obtain ⟨z0, z1, z2, z3, z4, z5, z6, z7, z8⟩ : _ ∧ _ ∧ _ ∧ _ ∧ _ ∧ _ ∧ _ ∧ _ ∧ _ := ⟨B4.free 0, B4.free 1, B4.free 2, B4.free 3, B4.free 4, B4.free 5, B4.free 6, B4.free 7, B4.free 8⟩
    go_wp2_with fail
    obtain ⟨W, hW⟩ : ∃ W, W = putAt w3 w.heap.size 0 (tcells (leafM 2 z ⟨#[]⟩) lt0) := ⟨_, rfl⟩
    have HB := (put_box B4 rfl (leafM 2 z ⟨#[]⟩) lt0).nine
    have HD := DrawsM.mk (N := 1000) rfl hC (leafM_own (w.heap.size + 1) w3 (k := 2) (n := z) (nm := ⟨#[]⟩) (by simp [i64]) hz (by simp [ByteArray.size])) (by omega) (by rw [leafM_wt]; exact Nat.zero_le _) D4
    rw [← hW] at HB HD
    rw [putAt_zero] at hW
    dsimp only [leafM, lt0, ty0] at hW HB
    rw [← hW]
    obtain ⟨r0, r1, r2, r3, r4, r5, r6, r7, r8⟩ := HB
    refine bodyPost_ret (v := .agg #[.int .i64 (leafM 2 z ⟨#[]⟩).kind, .string (leafM 2 z ⟨#[]⟩).name, .string (leafM 2 z ⟨#[]⟩).other, .int .i64 (leafM 2 z ⟨#[]⟩).n, .int .i64 (leafM 2 z ⟨#[]⟩).type.kind, .slice lt0.ta lt0.tn lt0.tc, .int .i64 (leafM 2 z ⟨#[]⟩).res.kind, .slice lt0.ra lt0.rn lt0.rc, .slice lt0.aa lt0.an lt0.ac]) ?_ rfl HD
    simp [results, Tryz.results65, go_sem, r0, r1, r2, r3, r4, r5, r6, r7, r8, leafM, lt0, ty0]
  · by_cases c1 : x = 1
    · subst c1
      go_wp2_with fail
      refine (l1Below_any p 2 _ D1.cur (by omega)).mono ?_
      rintro e w2 ⟨z, rfl, hz, hz4, d3⟩
      have D3 := D1.trans d3
      have B3 : Blk w2 w.heap.size _ _ := (d3.block B1.lt (by omega)).trans B1
      go_wp2_with fail
      refine (l5Bool_eq (z : Int) w2).mono ?_
      rintro e w3 ⟨rfl, b3⟩
      have B4 := B3.under b3
      have D4 := D3.next b3
      obtain ⟨q0, q1, q2, q3, q4, q5, q6, q7, q8⟩ : _ ∧ _ ∧ _ ∧ _ ∧ _ ∧ _ ∧ _ ∧ _ ∧ _ := ⟨B4.cell 0, B4.cell 1, B4.cell 2, B4.cell 3, B4.cell 4, B4.cell 5, B4.cell 6, B4.cell 7, B4.cell 8⟩
      simp at q0 q1 q2 q3 q4 q5 q6 q7 q8
      obtain ⟨z0, z1, z2, z3, z4, z5, z6, z7, z8⟩ : _ ∧ _ ∧ _ ∧ _ ∧ _ ∧ _ ∧ _ ∧ _ ∧ _ := ⟨B4.free 0, B4.free 1, B4.free 2, B4.free 3, B4.free 4, B4.free 5, B4.free 6, B4.free 7, B4.free 8⟩
      go_wp2_with fail
      obtain ⟨W, hW⟩ : ∃ W, W = putAt w3 w.heap.size 0 (tcells (leafM 3 (z : Int) ⟨#[]⟩) lt0) := ⟨_, rfl⟩
      have HB := (put_box B4 rfl (leafM 3 (z : Int) ⟨#[]⟩) lt0).nine
      have HD := DrawsM.mk (N := 1000) rfl hC (leafM_own (w.heap.size + 1) w3 (k := 3) (n := (z : Int)) (nm := ⟨#[]⟩) (by simp [i64]) ⟨by omega, by omega⟩ (by simp [ByteArray.size])) (by omega) (by rw [leafM_wt]; exact Nat.zero_le _) D4
      rw [← hW] at HB HD
      rw [putAt_zero] at hW
      dsimp only [leafM, lt0, ty0] at hW HB
      rw [← hW]
      obtain ⟨r0, r1, r2, r3, r4, r5, r6, r7, r8⟩ := HB
      refine bodyPost_ret (v := .agg #[.int .i64 (leafM 3 (z : Int) ⟨#[]⟩).kind, .string (leafM 3 (z : Int) ⟨#[]⟩).name, .string (leafM 3 (z : Int) ⟨#[]⟩).other, .int .i64 (leafM 3 (z : Int) ⟨#[]⟩).n, .int .i64 (leafM 3 (z : Int) ⟨#[]⟩).type.kind, .slice lt0.ta lt0.tn lt0.tc, .int .i64 (leafM 3 (z : Int) ⟨#[]⟩).res.kind, .slice lt0.ra lt0.rn lt0.rc, .slice lt0.aa lt0.an lt0.ac]) ?_ rfl HD
      simp [results, Tryz.results65, go_sem, r0, r1, r2, r3, r4, r5, r6, r7, r8, leafM, lt0, ty0]
    · have g0 : ((x : Int) == 0) = false := by simp; omega
      have g1 : ((x : Int) == 1) = false := by simp; omega
      go_wp2_with fail
      have D2 := D1.trans (Drew.alloc D1.cur (.cells #[.string ⟨#[120]⟩, .string ⟨#[121]⟩, .string ⟨#[102]⟩] 9))
      refine (l1Pick_any p w1.heap.size 3 9 _ _ D2.cur (Blk.new w1 _ _) lC1 rfl (by omega) (by omega) strsXYF).mono ?_
      rintro e w2 ⟨z, rfl, hz, -, d3⟩
      have D3 := D2.trans d3
      have B3 : Blk w2 w.heap.size _ _ := (d3.block (by have := B1.lt; simp; omega) (by omega)).trans (B1.alloc _)
      go_wp2_with fail
      refine (l5Var_eq z w2).mono ?_
      rintro e w3 ⟨rfl, b3⟩
      have B4 := B3.under b3
      have D4 := D3.next b3
      obtain ⟨q0, q1, q2, q3, q4, q5, q6, q7, q8⟩ : _ ∧ _ ∧ _ ∧ _ ∧ _ ∧ _ ∧ _ ∧ _ ∧ _ := ⟨B4.cell 0, B4.cell 1, B4.cell 2, B4.cell 3, B4.cell 4, B4.cell 5, B4.cell 6, B4.cell 7, B4.cell 8⟩
      simp at q0 q1 q2 q3 q4 q5 q6 q7 q8
      obtain ⟨z0, z1, z2, z3, z4, z5, z6, z7, z8⟩ : _ ∧ _ ∧ _ ∧ _ ∧ _ ∧ _ ∧ _ ∧ _ ∧ _ := ⟨B4.free 0, B4.free 1, B4.free 2, B4.free 3, B4.free 4, B4.free 5, B4.free 6, B4.free 7, B4.free 8⟩
      go_wp2_with fail
      obtain ⟨W, hW⟩ : ∃ W, W = putAt w3 w.heap.size 0 (tcells (leafM 1 0 z) lt0) := ⟨_, rfl⟩
      have HB := (put_box B4 rfl (leafM 1 0 z) lt0).nine
      have HD := DrawsM.mk (N := 1000) rfl hC (leafM_own (w.heap.size + 1) w3 (k := 1) (n := 0) (nm := z) (by simp [i64]) (by simp [i64]) (by omega)) (by omega) (by rw [leafM_wt]; exact hz) D4
      rw [← hW] at HB HD
      rw [putAt_zero] at hW
      dsimp only [leafM, lt0, ty0] at hW HB
      rw [← hW]
      obtain ⟨r0, r1, r2, r3, r4, r5, r6, r7, r8⟩ := HB
      refine bodyPost_ret (v := .agg #[.int .i64 (leafM 1 0 z).kind, .string (leafM 1 0 z).name, .string (leafM 1 0 z).other, .int .i64 (leafM 1 0 z).n, .int .i64 (leafM 1 0 z).type.kind, .slice lt0.ta lt0.tn lt0.tc, .int .i64 (leafM 1 0 z).res.kind, .slice lt0.ra lt0.rn lt0.rc, .slice lt0.aa lt0.an lt0.ac]) ?_ rfl HD
      simp [results, Tryz.results65, go_sem, r0, r1, r2, r3, r4, r5, r6, r7, r8, leafM, lt0, ty0]
end Go.Proofs.YtklifieahcoljaaGreat
