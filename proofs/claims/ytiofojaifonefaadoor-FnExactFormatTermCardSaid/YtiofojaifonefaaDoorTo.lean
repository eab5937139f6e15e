/-
  The walks of toType and toTypeS: a copy of a type in new memory.
-/
import Derived.Test.YtiofojaifonefaaDoorRep
import Derived.Test.YtiofojaifonefaaDoorRows
import Derived.LoopTactic
import Derived.Laws.MakeOwn
import Derived.Laws.Entries
import Derived.OwnWalk
namespace Go.Proofs.YtiofojaifonefaaDoor
open Go.RowKit
set_option linter.unusedVariables false

theorem run_make_rowN {P : Program} (t e : TypeId) (i : TypeInfo) (z : Value) (ht : P.underlying t = some (.slice e)) (hi : P.info? e = some i) (hz : i.zero = some z)
    (kl kc : IntKind) (n c : Nat) (hnc : n ≤ c) (hbytes : i.bytes * c ≤ 281474976710656) (h63 : c ≤ 9223372036854775807) (w : World) :
    (Instr.makeSlice t (.int kl (n : Int)) (.int kc (c : Int))).run P w = .ok (.slice (some ⟨w.heap.size, 0, none⟩) n c) (w.alloc (.cells (madeCells z.cells (c * i.size)) e)) := by
  have hb : (i.bytes : Int) * (c : Int) ≤ 281474976710656 := by
    have h : ((i.bytes * c : Nat) : Int) ≤ 281474976710656 := by omega
    rwa [Int.natCast_mul] at h
  have hr := run_make (P := P) w t e i z ht hi hz kl kc n c (by omega) (by omega) hb (by omega)
  simp only [Int.toNat_natCast] at hr
  exact hr

theorem Tryd.infoType : (Tryd.prog.info? 32).map (fun i => (i.zero, i.size, i.bytes)) = some (some (.agg #[.int .i64 0, .slice none 0 0]), 2, 32) := by kernel_rfl

/-- No cell of these blocks is frozen. -/
def Free (w : World) (fp : List Nat) : Prop := ∀ b ∈ fp, ∀ o, w.frozen? ⟨b, o, none⟩ = false
theorem Free.below {w w' : World} {fp : List Nat} (h : Free w fp) (hl : ∀ b ∈ fp, b < w.heap.size) (hb : Below w.heap.size w w') : Free w' fp :=
  fun b hbf o => (hb.frozen (p := ⟨b, o, none⟩) (hl b hbf)).trans (h b hbf o)
theorem Free.set_ {w : World} {fp : List Nat} (h : Free w fp) (p : Addr) (u : Value) : Free (w.setCell p u) fp := fun b hbf o => (World.frozen?_setCell _ _ _ _).trans (h b hbf o)
theorem Free.nil (w : World) : Free w [] := fun b hb => by cases hb
theorem Free.append {w : World} {f g : List Nat} (hf : Free w f) (hg : Free w g) : Free w (f ++ g) := fun b hb o => (List.mem_append.1 hb).elim (fun h => hf b h o) (fun h => hg b h o)
theorem Free.cons {w : World} {b : Nat} {f : List Nat} (hb : ∀ o, w.frozen? ⟨b, o, none⟩ = false) (hf : Free w f) : Free w (b :: f) := fun x hx o => by
  rcases List.mem_cons.1 hx with rfl | hx
  · exact hb o
  · exact hf x hx o
theorem Free.tail {w : World} {b : Nat} {f : List Nat} (h : Free w (b :: f)) : Free w f := fun x hx o => h x (List.mem_cons_of_mem _ hx) o
/-- Blocks of one's own: each once, from 'base' on, none frozen. -/
def Own (base : Nat) (w : World) (fp : List Nat) : Prop := (∀ b ∈ fp, base ≤ b) ∧ Free w fp

/-- What toType gives: the same tree in blocks of its own, all of them new. -/
def Copied (w : World) (t : Ty) (e : Ending) (w' : World) : Prop :=
  ∃ d0 d1 fp, e = .returned (.agg #[d0, d1]) ∧ RT w' t d0 d1 fp ∧ fp.Nodup ∧ Own w.heap.size w' fp ∧ Below w.heap.size w w'
def CopiedS (w : World) (xs : List Ty) (e : Ending) (w' : World) : Prop :=
  ∃ g fp, e = .returned (.slice (some ⟨g, 0, none⟩) xs.length xs.length) ∧ RTs w' xs g 0 fp ∧ (g :: fp).Nodup ∧ Own w.heap.size w' (g :: fp) ∧ Below w.heap.size w w'

set_option maxHeartbeats 400000 in
theorem toTypeS_of (xs : List Ty)
    (ih : ∀ t ∈ xs, ∀ (c0 c1 : Value) (w : World), Rd w t c0 c1 → Ty.sizes t.args ≤ 1048576 → Calls Tryd.prog 16 #[.agg #[c0, c1]] w (Copied w t))
    (a : Option Addr) (n cap : Nat) (w : World) (h : Rds w xs a n cap) (hl : Ty.sizes xs ≤ 1048576) :
    Calls Tryd.prog 29 #[.slice a n cap] w (CopiedS w xs) := by
  have IH := hide ih
  clear ih
  have hn : n ≤ 1048576 := by
    have := Ty.length_le_sizes xs
    have := h.1
    omega
  obtain ⟨i0, hi, hz0, hz1, hz2⟩ := info_parts Tryd.infoType
  have hmk := fun W => run_make_rowN (P := Tryd.prog) 30 32 i0 _ Tryd.underlying30 hi hz0 .i64 .i64 n n (Nat.le_refl _) (by rw [hz2]; omega) (by omega) W
  rw [hz1] at hmk
  clear hi hz0 hz1 hz2
  go_enter Tryd.func29, Tryd.ntmps29
  go_wp2_with fail
  clear hmk
  go_loopw [4] (fun i wr => ∃ k : Nat, k ≤ n ∧ i = .int .i64 k ∧ (∃ (cs : Array Value) (fp : List Nat), Blk wr w.heap.size 32 cs ∧ cs.size = n * 2 ∧ RTs wr (xs.take k) w.heap.size 0 fp ∧ fp.Nodup ∧ Free wr fp ∧ ∀ b ∈ fp, w.heap.size < b) ∧ Below w.heap.size w wr) (fun i _ => n - (intOf i).toNat)
  case atStart =>
    refine ⟨0, by omega, rfl, ⟨_, [], Blk.new w _ _, by simp [madeCells], by simp [RTs], by simp, Free.nil _, by simp⟩, (Below.refl _ _).alloc (Nat.le_refl _) _⟩
  case round =>
    obtain ⟨k, hk, rfl, ⟨cs, fp, hM, hcs, hR, hnd, hfr, hfp⟩, hb⟩ := hrel
    by_cases hkn : k < n
    · have hkx : k < xs.length := by rw [← h.1]; exact hkn
      obtain ⟨b, off, c0, c1, rfl, hlt', e0, e1, hr⟩ := (h.below hb).get k hkx
      have hsz : Ty.sizes xs[k].args ≤ 1048576 := by
        have h1 := Ty.sizes_take xs k hkx
        have h2 := Ty.sizes_take_le xs (k + 1)
        omega
      go_wp2_with (go_at_call 16; refine (IH.out _ (List.getElem_mem _) _ _ _ hr hsz).mono ?_; rintro e w' ⟨d0, d1, f, rfl, hR', hnd', hf', hb'⟩; obtain ⟨a', n', cap', rfl, rfl, -, -⟩ := Rd.shape ⟨f, hR'⟩; have hM' := hM.under hb'; have g0 := hM'.at_ (i := k * 2) (by omega); have g1 := hM'.at_ (i := k * 2 + 1) (by omega); have z0 := hM'.free (k * 2); have z1 := hM'.free (k * 2 + 1))
      go_roundw
      case rel =>
        obtain ⟨hL, cs', hcs', hB⟩ := lay_type hR hb' hM hcs hkx hkn hfp hR' hf'.1
        exact ⟨k + 1, by omega, by go_num, ⟨cs', fp ++ f, hB, hcs', hL, nodup_join hnd hnd' hR.lt hf'.1, (((hfr.below hR.lt hb').append hf'.2).set_ _ _).set_ _ _, fun b hb2 => (List.mem_append.1 hb2).elim (hfp b) fun hf2 => by have := hf'.1 b hf2; have := hM.lt; omega⟩,
          ((hb.trans (hb'.mono hb.size)).setCell (Nat.le_refl _) _).setCell (Nat.le_refl _) _⟩
      case measure => simp [intOf]; omega
    · go_wp2
      go_ret
      have h4 := h.1
      rw [List.take_of_length_le (by omega)] at hR
      refine ⟨w.heap.size, fp, ?_, hR, List.nodup_cons.2 ⟨fun hin => absurd (hfp _ hin) (Nat.lt_irrefl _), hnd⟩, ⟨fun b hb2 => ?_, Free.cons hM.free hfr⟩, hb⟩
      · rw [← h4]
        rfl
      · rcases List.mem_cons.1 hb2 with rfl | hb2
        · exact Nat.le_refl _
        · exact Nat.le_of_lt (hfp b hb2)

set_option maxHeartbeats 400000 in
theorem toType_any (t : Ty) : ∀ (c0 c1 : Value) (w : World), Rd w t c0 c1 → Ty.sizes t.args ≤ 1048576 → Calls Tryd.prog 16 #[.agg #[c0, c1]] w (Copied w t) := by
  induction t using Ty.ind with | h k xs ih => ?_
  intro c0 c1 w h hl
  have C := hide (toTypeS_of xs ih)
  clear ih
  obtain ⟨a, n, cap, rfl, rfl, hk, hr⟩ := h.shape
  have hr' : ∀ W, Below w.heap.size w W → Rds W xs a n cap := fun W hW => hr.below hW
  go_enter Tryd.func16, Tryd.ntmps16
  go_wp2_with (go_at_call 29; refine (C.out _ _ _ _ (hr' _ (by repeat (first | exact Below.refl _ _ | assumption | refine Below.drew ?_ | refine below_drewN ?_ _ | refine Below.alloc ?_ (by first | omega | (simp; done) | (simp; omega)) _ | refine Below.setCell ?_ (by first | omega | (simp; done) | (simp; omega)) _))) hl).mono ?_; rintro e w' ⟨g, fp, rfl, hR, hnd, hfp, hb'⟩; obtain ⟨hc, hf⟩ := bcell hb')
  have hlen : xs.length ≤ maxLen := by
    have h1 := Ty.length_le_sizes xs
    have h2 : Ty.sizes xs ≤ 1048576 := hl
    unfold maxLen
    omega
  have far : ∀ x ∈ g :: fp, SameB w' (((w'.setCell ⟨w.heap.size + 1 + 1, 1, none⟩ (.slice (some ⟨g, 0, none⟩) xs.length xs.length)).setCell ⟨w.heap.size + 1, 0, none⟩ (.int .i64 k)).setCell ⟨w.heap.size + 1, 1, none⟩ (.slice (some ⟨g, 0, none⟩) xs.length xs.length)) x := by
    intro x hx
    have := hfp.1 x hx
    simp at this
    exact ((same_set (p := ⟨w.heap.size + 1 + 1, 1, none⟩) (by simp; omega) _).trans (same_set (p := ⟨w.heap.size + 1, 0, none⟩) (by simp; omega) _)).trans (same_set (p := ⟨w.heap.size + 1, 1, none⟩) (by simp; omega) _)
  have hR2 := hR.keep (far g (by simp)) (fun b hb => far b (by simp [hb]))
  obtain ⟨fp', hT, h1, h2⟩ := RT_of_RTs (k := k) (cap := xs.length) hk (Nat.le_refl _) hlen hR2
  have hge : ∀ b ∈ g :: fp, w.heap.size ≤ b := fun b hb => by have := hfp.1 b hb; simp at this; omega
  refine bodyPost_ret (v := .agg #[.int .i64 k, .slice (some ⟨g, 0, none⟩) xs.length xs.length]) (by simp [results, Tryd.results16, go_sem, hc]) rfl ⟨_, _, fp', rfl, hT, ?_, ?_, ?_⟩
  · by_cases hx : xs = []
    · rw [h2 hx]; exact List.nodup_nil
    · rw [h1 hx]; exact hnd
  · have hfree := ((hfp.2.set_ ⟨w.heap.size + 1 + 1, 1, none⟩ (.slice (some ⟨g, 0, none⟩) xs.length xs.length)).set_ ⟨w.heap.size + 1, 0, none⟩ (.int .i64 k)).set_ ⟨w.heap.size + 1, 1, none⟩ (.slice (some ⟨g, 0, none⟩) xs.length xs.length)
    by_cases hx : xs = []
    · rw [h2 hx]; exact ⟨by simp, Free.nil _⟩
    · rw [h1 hx]; exact ⟨hge, hfree⟩
  · exact (by repeat (first | exact Below.refl _ _ | refine Below.drew ?_ | refine below_drewN ?_ _ | refine Below.alloc ?_ (by first | omega | (simp; done) | (simp; omega)) _ | refine Below.setCell ?_ (by first | omega | (simp; done) | (simp; omega)) _ | refine Below.trans ?_ (Below.mono hb' (by first | omega | (simp; done) | (simp; omega)))))
end Go.Proofs.YtiofojaifonefaaDoor
