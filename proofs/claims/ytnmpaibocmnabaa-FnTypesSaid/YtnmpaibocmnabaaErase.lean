/-
  The walk of the reference's EraseType: a new type in memory of its own.
-/
import Derived.Test.YtnmpaibocmnabaaLaid
import Derived.Outline
namespace Go.Proofs.Ytnmpaibocmnabaa
open Go.RowKit
set_option maxRecDepth 100000
set_option linter.unusedVariables false
set_option linter.unusedSimpArgs false

mutual
/-- A type in which every code type with one part is replaced by this one. -/
def Ty.erase : Ty → Ty
  | ⟨k, xs⟩ => if k = 4 ∧ xs.length = 1 then (Ty.erases xs).headD ⟨0, []⟩ else ⟨k, Ty.erases xs⟩
def Ty.erases : List Ty → List Ty
  | [] => []
  | t :: ts => t.erase :: Ty.erases ts
end
theorem Ty.erases_eq (xs : List Ty) : Ty.erases xs = xs.map Ty.erase := by
  induction xs with
  | nil => rfl
  | cons x xs ih => rw [Ty.erases, ih]; rfl
theorem Ty.erases_len (xs : List Ty) : (Ty.erases xs).length = xs.length := by rw [Ty.erases_eq, List.length_map]
theorem Ty.erases_take (xs : List Ty) (j : Nat) (h : j < xs.length) : Ty.erases (xs.take (j + 1)) = Ty.erases (xs.take j) ++ [xs[j].erase] := by
  rw [Ty.erases_eq, Ty.erases_eq, take_snoc xs j h, List.map_append]
  rfl

set_option maxHeartbeats 1600000 in
/-- The loop's part, behind the test that said no. -/
theorem specEraseType_loop (k : Int) (xs : List Ty) (ih : ∀ t ∈ xs, ∀ (c0 c1 : Value) (w : World), Rd w t c0 c1 → Ty.sizes t.args ≤ 1048576 → Calls Try.prog 35 #[.agg #[c0, c1]] w (Copied w t.erase))
    (a : Option Addr) (n cap : Nat) (w : World) (h : Rd w ⟨k, xs⟩ (.int .i64 k) (.slice a n cap)) (hl' : Ty.sizes xs ≤ 1048576) (hc : ¬ (k = 4 ∧ xs.length = 1))
    (hg : (k == 4) = false ∨ (k == 4) = true ∧ ((n : Int) == 1) = false) (hk : i64 k) (hr : Rds w xs a n cap) :
    Calls Try.prog 35 #[.agg #[.int .i64 k, .slice a n cap]] w (Copied w ⟨k, Ty.erases xs⟩) := by
  have IH := hide ih
  clear ih
  have hn : n ≤ 1048576 := by
    have := Ty.length_le_sizes xs
    have h1 : n = xs.length := hr.1
    omega
  obtain ⟨i0, hi, hz0, hz1, hz2⟩ := info_parts Try.infoType
  rcases hg with hg | ⟨hg, hg1⟩
  all_goals
    go_enter Try.func35, Try.ntmps35
    go_wp2_with fail
    go_loopw [4] (fun i wr => ∃ j : Nat, j ≤ n ∧ i = .int .i64 j ∧ Laid (w.heap.size + 1 + 1) (w.heap.size + 1 + 1 + 1) 42 k (Ty.erases (xs.take j)) wr ∧ w.heap.size + 1 + 1 + 1 ≤ wr.heap.size ∧ Blk wr w.heap.size 42 #[.int .i64 k, .slice a n cap] ∧ Blk wr (w.heap.size + 1) 42 #[.int .i64 0, .slice none 0 0] ∧ Below w.heap.size w wr) (fun i _ => n - (intOf i).toNat)
    case atStart => exact ⟨0, by omega, rfl, ⟨.slice none 0 0, [], [], Blk.new3 _ _ _ _ _, ⟨by simp [Ty.erases], .inl ⟨rfl, by simp [Ty.erases]⟩⟩, by simp [Ty.erases, RC], List.nodup_nil, ⟨by simp, Free.nil _⟩, by simp [Value.ownBlock]⟩, by simp, ((Blk.new w _ _).alloc _).alloc _, (Blk.new2 w _ _ _).alloc _, (by repeat (first | exact Below.refl _ _ | assumption | refine Below.drew ?_ | refine below_drewN ?_ _ | refine Below.alloc ?_ (by first | omega | (simp; done) | (simp; omega)) _ | refine Below.setCell ?_ (by first | omega | (simp; done) | (simp; omega)) _))⟩
    case round =>
      obtain ⟨j, hj, rfl, hL, hsb, hB, hB1, hb⟩ := hrel
      have hsz := hb.size
      by_cases hjn : j < n
      · have hjx : j < xs.length := by rw [← hr.1]; exact hjn
        obtain ⟨b, off, e0, e1, rfl, hlt, q0, q1, hd⟩ := (hr.below hb).get j hjx
        obtain ⟨v, cs, fp, hB3, hown, hRC, hnd, hOwn, hap⟩ := hL
        have hlen : (Ty.erases (xs.take j)).length = j := by rw [Ty.erases_len, List.length_take]; omega
        rw [hlen] at hown
        have hlen := hide hlen
        have hsz1 : Ty.sizes xs[j].args ≤ 1048576 := by
          have h1 := Ty.sizes_take xs j hjx
          have h2 := Ty.sizes_take_le xs (j + 1)
          omega
        obtain ⟨u0, u1⟩ := hB.two
        obtain ⟨s0, s1⟩ := hB3.two
        go_wp2_with fail
        go_region_law (first
          | (go_simp; go_at_call 35; (with_reducible refine (IH.out _ (List.getElem_mem hjx) _ _ _ (hd.below (below_drew _)) hsz1).mono ?_); rintro e w1 ⟨d0, d1, f, rfl, hR1, hnd1, hO1, b1⟩; replace b1 : Below wr.heap.size wr w1 := below_next (below_drew _) b1; have s1 := b1.size; have y1 := (hB3.under b1).two.2; have y2 := (hB3.under b1).two_new.2; obtain ⟨xa, xn, xc, rfl, rfl, -, -⟩ := hR1.rd.shape)
          | (refine step_append_lies _ (by rfl) _ _ _ (by rfl) (w.heap.size + 1 + 1 + 1) 42 i0 _ 2 32 Try.underlying40 hi hz0 hz1 hz2 rfl (by omega) v j cs (by rfl) ((own_below hown b1).alloc _) ⟨w1.heap.size, 0, none⟩ 1 1 [.int .i64 xs[j].erase.kind, .slice xa xn xc] (by rfl) (by rfl) (World.news_of_block (cs := #[.int .i64 xs[j].erase.kind, .slice xa xn xc]) (t := 42) (fr := (0, 0)) (heap_alloc_new w1 _)) (by simp [Value.oneCell']) (by omega) (by unfold maxLen; omega) (by omega) (by simp; omega) (w1.heap.size + 1) (by simp) ?_; intro gg cap' w2 hown2 hgrow hat hlt2
             have hB4 := laid_box hB3 hown (by omega) b1 hgrow
             have z0 := hB4.two.2
             have z1 := hB4.free 1))
        all_goals
          go_wp2_with fail
          go_roundw
          case rel =>
            have hB5 := hB.under b1
            refine ⟨j + 1, by omega, by go_num, ?_, ?_, ?_, ?_, ?_⟩
            · rw [Ty.erases_take xs j hjx]
              exact laid_step hlen.out.symm hB3 hown hRC hnd hOwn hap (by omega) hsb b1 hR1 hnd1 hO1 hown2 hgrow rfl (by simpa using hat)
            · have := hgrow.size
              simp at this ⊢
              omega
            · exact laid_keep hB hown (by omega) (by omega) b1 hgrow
            · exact laid_keep hB1 hown (by omega) (by omega) b1 hgrow
            · exact laid_below hb hown (by omega) (by omega) hsz b1 hgrow
          case measure => simp [intOf]; omega
      · have hx1 : n = xs.length := hr.1
        rw [List.take_of_length_le (by omega)] at hL
        obtain ⟨ra, rn, rc, fp, hB3, hT, hnd, hOwn⟩ := laid_RT hL hk
        clear hL
        obtain ⟨u0, u1⟩ := hB.two
        obtain ⟨s0, s1⟩ := hB3.two
        obtain ⟨y0, y1⟩ := hB1.two
        have z0 := hB1.free 0
        have z1 := hB1.free 1
        go_wp2_with fail
        have far : ∀ x ∈ fp, SameB wr ((wr.setCell ⟨w.heap.size + 1, 0, none⟩ (.int .i64 k)).setCell ⟨w.heap.size + 1, 1, none⟩ (.slice ra rn rc)) x := fun x hx => by
          have := hOwn.1 x hx
          exact (same_set (p := ⟨w.heap.size + 1, 0, none⟩) (by simp; omega) _).trans (same_set (p := ⟨w.heap.size + 1, 1, none⟩) (by simp; omega) _)
        refine bodyPost_ret (v := .agg #[.int .i64 k, .slice ra rn rc]) (by simp [results, Try.results35, go_sem, y0, y1]) rfl ⟨_, _, fp, rfl, RT.keep _ _ _ _ hT far, hnd, ⟨fun x hx => by have := hOwn.1 x hx; omega, (hOwn.2.set_ _ _).set_ _ _⟩, ?_⟩
        exact (hb.setCell (p := ⟨w.heap.size + 1, 0, none⟩) (by simp) _).setCell (p := ⟨w.heap.size + 1, 1, none⟩) (by simp) _

set_option maxHeartbeats 800000 in
theorem specEraseType_any (t : Ty) : ∀ (c0 c1 : Value) (w : World), Rd w t c0 c1 → Ty.sizes t.args ≤ 1048576 →
    Calls Try.prog 35 #[.agg #[c0, c1]] w (Copied w t.erase) := by
  induction t using Ty.ind with | h k xs ih => ?_
  intro c0 c1 w h hl
  obtain ⟨a, n, cap, rfl, rfl, hk, hr⟩ := h.shape
  have hx : n = xs.length := hr.1
  by_cases hc : k = 4 ∧ xs.length = 1
  · obtain ⟨rfl, hx1⟩ := hc
    match xs, hx1 with
    | [x], _ =>
      obtain rfl : n = 1 := hx
      have IH := hide (ih x (by simp))
      clear ih
      have he : Ty.erase ⟨4, [x]⟩ = x.erase := by simp [Ty.erase, Ty.erases]
      rw [he]
      obtain ⟨b, off, xa, xn, xc, rfl, hlt, q0, q1, hd⟩ := hr.at_ 0 (by simp)
      simp only [Nat.zero_mul, Nat.add_zero, List.getElem_cons_zero] at q0 q1 hd
      have hz1 : Ty.sizes x.args ≤ 1048576 := by
        have h1 : Ty.sizes [x] ≤ 1048576 := hl
        have h2 := x.size_eq
        simp only [Ty.sizes] at h1
        omega
      have k0 : ∀ o o', ((w.alloc o).alloc o').cell? ⟨b, off, none⟩ = some (.int .i64 x.kind) := fun o o' => (World.cell?_alloc_lt _ o' _ (by simp; omega)).trans ((World.cell?_alloc_lt w o _ hlt).trans q0)
      have k1 : ∀ o o', ((w.alloc o).alloc o').cell? ⟨b, off + 1, none⟩ = some (.slice xa xn xc) := fun o o' => (World.cell?_alloc_lt _ o' _ (by simp; omega)).trans ((World.cell?_alloc_lt w o _ hlt).trans q1)
      clear q0 q1 he hl
      go_enter Try.func35, Try.ntmps35
      go_wp2_with fail
      refine (IH.out _ _ _ (hd.below (by repeat (first | exact Below.refl _ _ | assumption | refine Below.drew ?_ | refine below_drewN ?_ _ | refine Below.alloc ?_ (by first | omega | (simp; done) | (simp; omega)) _ | refine Below.setCell ?_ (by first | omega | (simp; done) | (simp; omega)) _))) hz1).mono ?_
      rintro e w1 ⟨d0, d1, fp, rfl, hT, hnd, hOwn, b1⟩
      obtain ⟨ra, rn, rc, rfl, rfl, -, -⟩ := hT.rd.shape
      have hB1 := (Blk.new2 w (.cells #[.int .i64 4, .slice (some ⟨b, off, none⟩) 1 cap] 42) 42 #[.int .i64 0, .slice none 0 0]).under b1
      obtain ⟨y0, y1⟩ := hB1.two
      have z0 := hB1.free 0
      have z1 := hB1.free 1
      go_wp2_with fail
      have hge : ∀ y ∈ fp, w.heap.size + 1 + 1 ≤ y := fun y hy => by have := hOwn.1 y hy; simp at this; omega
      have far : ∀ y ∈ fp, SameB w1 ((w1.setCell ⟨w.heap.size + 1, 0, none⟩ (.int .i64 x.erase.kind)).setCell ⟨w.heap.size + 1, 1, none⟩ (.slice ra rn rc)) y := fun y hy => by
        have := hge y hy
        exact (same_set (p := ⟨w.heap.size + 1, 0, none⟩) (by simp; omega) _).trans (same_set (p := ⟨w.heap.size + 1, 1, none⟩) (by simp; omega) _)
      refine bodyPost_ret (v := .agg #[.int .i64 x.erase.kind, .slice ra rn rc]) (by simp [results, Try.results35, go_sem, y0, y1]) rfl ⟨_, _, fp, rfl, RT.keep _ _ _ _ hT far, hnd, ⟨fun y hy => by have := hge y hy; omega, (hOwn.2.set_ _ _).set_ _ _⟩, (by repeat (first | exact Below.refl _ _ | refine Below.drew ?_ | refine below_drewN ?_ _ | refine Below.alloc ?_ (by first | omega | (simp; done) | (simp; omega)) _ | refine Below.setCell ?_ (by first | omega | (simp; done) | (simp; omega)) _ | refine Below.trans ?_ (Below.mono b1 (by first | omega | (simp; done) | (simp; omega)))))⟩
  · have he : Ty.erase ⟨k, xs⟩ = ⟨k, Ty.erases xs⟩ := by rw [Ty.erase, if_neg hc]
    rw [he]
    refine specEraseType_loop k xs ih a n cap w h hl hc ?_ hk hr
    by_cases h4 : k = 4
    · right
      subst h4
      refine ⟨by simp, ?_⟩
      have : n ≠ 1 := fun e => hc ⟨rfl, by omega⟩
      simp
      omega
    · left
      simp [h4]
end Go.Proofs.Ytnmpaibocmnabaa
